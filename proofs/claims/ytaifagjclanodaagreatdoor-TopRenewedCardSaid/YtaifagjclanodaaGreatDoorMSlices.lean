/- The functions of package slices that are called at slices of integers. -/
import Derived.Test.YtaifagjclanodaaGreatDoorMBase
set_option maxHeartbeats 1000000
set_option maxRecDepth 100000
namespace Go.Proofs.YtaifagjclanodaaGreatDoor
open Go.Proofs.Tryz
open Go.RowKit
def DN(p:Int->Bool):V->Int
 |[]=>-1
 |b::a=>if p b then 0 else if DN p a<0 then -1 else DN p a+1
theorem acK(p:Int->Bool)(a:V)(b:∀z∈a,p z=false):DN p a=-1:=by
 induction a with
 |nil=>rfl
 |cons z a d=>unfold DN;rw[aA (by simp[b z]),d (λe c=>b e (by simp[c]))];rfl
theorem akF(p:Int->Bool)(a:V)(k:Nat)(c:k<a.length)(d:∀z∈a.take k,p z=false)(b:p a[k]=true):DN p a=k:=by
 induction a generalizing k with
 |nil=>simp at c
 |cons z a f =>
  unfold DN;cases k with
  |zero=>simp at b;simp[b]
  |succ k =>
   simp at b c;rw[aA (by rw[d z (by simp)];simp),f k c (λg e=>d g (by simp[e])) b,aA (by omega)];rfl
theorem akG(p:Int->Bool)(a:V):decide (0<=DN p a)=a.any p:=by
 by_cases b:a.any p=true
 ·rw[b]
  induction a with
  |nil=>simp at b
  |cons d a f =>
   unfold DN;by_cases c:p d=true
   ·simp[c]
   ·have e:a.any p=true:=by simpa [c] using b
    have:=f e;simp at this;simp[c];omega
 ·have e:∀d∈a,p d=false:=by
   intro d c;simp at b;simpa using b d c
  rw[acK p a e];simp at b ⊢;exact b
def yl(g:FuncId)(d:Array Value)(b:World)(p:Int->Bool)(h:V):Prop:=
 ∀c∈h,∀a,Below b.heap.size b a->Calls prog g (#[.int .i64 c]++d) a λe f=>e=.returned (.bool (p c))/\Below a.heap.size a f
theorem akH(f:FuncId)(r:Array Value)(p:Int->Bool)(w:Value)(b:V)(c:World)(z:aM c w b)(s:eQ prog f)(t:yl f r c p b):
  Calls prog 137 #[w,.func (.func f) #[] r] c λm E=>m=.returned (DN p b:Int)/\Below c c E:=by
 obtain⟨I,N,rfl,M,L,B,v⟩:=z;have q:=A t;clear t;have H:∀(args:Array Value) (c:World),(callFunc f args).run prog c=.ok (.enter f args) c:=s;clear s;go_enter func137,ntmps137;go_wp2;go_loopw[5,8] (λ_ o wr=>∃a:Nat,a<=b.length/\o=a/\Hid (∀h∈b.take a,p h=false)/\Below c c wr) (λ_ o _=>b.length-(intOf o).toNat);case atStart=>exact⟨0,bS _,rfl,A (by simp),aY _ _⟩
 case round =>
  obtain⟨a,K,rfl,j,d⟩:=hrel;by_cases e:a<b.length
  ·obtain⟨y,D,rfl,u⟩:=v a e;have G:wr.cell? (y,D+a)=some (.int .i64 b[a]):=U d u;clear v B u;cases g:p b[a]
   ·have x:=A (show ∀h∈b.take (a+1),p h=false by
     rw[jv e];intro h C;rcases lN.1 C with n|n
     ·exact j.1 h n
     ·rw[jJ.1 n];exact g)
    have i:=A g;clear g;go_wp2_with fail;refine(q.1 _ (bM e) _ d).mono ?_;rintro m F ⟨rfl,l⟩;rw[i.1];go_wp2;go_roundw;case rel=>exact⟨a+1,by omega,by go_num,x,K4 d (aP _) l⟩
    case measure=>simp[intOf];omega
   ·have i:=A g;clear g;have k:=A (akF p b a e j.1 i.1);go_wp2_with fail;refine(q.1 _ (bM e) _ d).mono ?_;rintro m F ⟨rfl,l⟩;rw[i.1];go_wp2;go_ret;exact⟨fL k.1.symm,K4 d (aP _) l⟩
  ·have k:=A (acK p b (by have:=j.1;rwa [zJ (by omega)]at this));go_wp2;go_ret;exact⟨fL k.1.symm,d⟩
theorem wx(c:FuncId)(d:Array Value)(p:Int->Bool)(e:Value)(b:V)(a:World)(j:aM a e b)(i:eQ prog c)(k:yl c d a p b):
  Calls prog 60 #[e,.func (.func c) #[] d] a λf l=>f=.returned (.bool (b.any p))/\Below a a l:=by
 have g:=A (akG p b);go_enter func60,ntmps60;go_wp2_with (go_at_call 137;refine(akH c d p e b _ j i k).mono ?_;rintro f m ⟨rfl,h⟩);go_ret;exact⟨cg g.1,h⟩
def Cw(a:Int):List PanicEntry:=[{v:=.iface 29 (.int .i64 a),recovered:=false}]
theorem DO(b:Int)(a:World):
  Calls prog 174 #[true,b] a λc d=>c=.returned (.tuple #[])/\a=d:=by
 go_enter func174,ntmps174;go_wp2;go_end0;exact⟨rfl,rfl⟩
theorem Ol(a:Int)(b:World):
  Calls prog 174 #[false,a] b λc d=>c=.panicked (Cw a)/\b=d:=by
 go_enter func174,ntmps174;go_wp2;exact⟨rfl,rfl,rfl⟩
theorem akI(p:Addr)(r b:Int)(f:List PanicEntry)(c:World)(t:c.cell? p=r)(u:c.frozen? p=false):
  CallsD prog 121 #[.pointer (some p)] (.panicking ({v:=.iface 29 b,recovered:=false}::f)) c λi j a =>
   i=.returned (.tuple #[])/\j=.panicking ({v:=.iface 29 b,recovered:=true}::f)/\a=c.setCell p b:=by
 have s:∀c,(Instr.typeAssert (.iface 29 b) 20 29 true).run prog c=.ok (.tuple #[b,true]) c:=λ_=>by kernel_rfl
 refine FC func121 rfl λe₀ k n=>?_;simp only[ntmps121,kS,dZ,je,Nat.reduceAdd,Nat.reduceSub,kU,kV,kW,kX,jf,jn];apply zM;apply zN;simp[wpOpsS,go_sem,recoverD,n,Exit.thenS];generalize m:({fn:=e₀.fn,tmps:=e₀.tmps,todo:=e₀.todo,defers:=e₀.defers,mode:=FrameMode.panicking ({v:=Value.iface 29 (Value.int IntKind.i64 b),recovered:=true}::f),kind:=e₀.kind,roundOf:=e₀.roundOf}:Frame)=q;have o:=A (show ∀d a,d.defers=[]->a=c.setCell p b->bodyPostS prog Tryz.f121 e₀ k (λi j a=>i=Ending.returned (Value.tuple #[])/\j=FrameMode.panicking ({v:=Value.iface 29 (Value.int IntKind.i64 b),recovered:=true}::f)/\a=c.setCell p (Value.int IntKind.i64 b)) .normal d (q::k) a by
  intro d a g h;simp[bodyPostS,results,results121,g,h,<-m])
 clear m n;refine FD ?_;refine wp_mono (Q:=λl d a=>l=.normal/\d.defers=[]/\a=c.setCell p b) ?_ ?_
 ·go_wp2
 ·rintro l d a ⟨rfl,g,h⟩;exact o.1 d a g h
theorem acL(p:Addr)(a:World):
  CallsD prog 121 #[.pointer (some p)] .returning a λd e f=>d=.returned (.tuple #[])/\e=.returning/\f=a:=by
 refine FC func121 rfl λb₀ g c=>?_;apply zM;apply zN;simp[wpOpsS,go_sem,recoverD,c,ntmps121,Exit.thenS];apply zM;apply zN;simp[wpOpsS,go_sem,Exit.thenS];refine wpS_cond (t:=false) (by simp[Act.eval,Array.replicate]) ?_;simp only[FE,Ck];refine FD (wp_skip ?_);cases b₀;simp_all[bodyPostS,results,results121]
def cM(z:Int):Bool:=decide (z<0)||decide (1073741789<=z)
theorem akJ(z:Int)(b:World):
  Calls prog 203 #[z] b λc f=>c=.returned (.bool (cM z))/\b=f:=by
 by_cases d:z<0
 ·have a:=A (show cM z=true by simp[cM,d]);go_enter func203,ntmps203;go_wp2;go_ret;exact⟨cg a.1.symm,rfl⟩
 ·by_cases e:1073741789<=z
  ·have a:=A (show cM z=true by simp[cM,e]);go_enter func203,ntmps203;go_wp2;go_ret;exact⟨cg a.1.symm,rfl⟩
  ·have a:=A (show cM z=false by simp[cM];omega);go_enter func203,ntmps203;go_wp2;go_ret;exact⟨cg a.1.symm,rfl⟩
theorem acM(c:World)(f:V):yl 203 #[] c cM f:=
 λe _ d _=>(akJ e d).mono λ_ _ ⟨b,a⟩=>⟨b,a▸aY _ _⟩
def uS(b:Nat)(a:V):Bool:=decide (a.length=b)&&!a.any cM
def wide(a:ak):Nat:=(a.head?.map List.length).getD 0
def mh(a:ak):Int:=
 if a.any (λb=>decide (64<b.length)) then 2 else if a.all (uS (wide a)) then 0 else 130
def raised(a:Int):Ending:=if a=0 then .returned (.tuple #[]) else .panicked (Cw a)
theorem A6{a:Int}(b:a=0):raised a=.returned (.tuple #[]):=by rw[raised,aD b]
theorem FT{a:Int}(b:a≠0):raised a=.panicked (Cw a):=by rw[raised,aA b]
theorem A7(a:ak)(b:0<a.length):a[0].length=wide a:=by
 cases a with
 |nil=>simp at b
 |cons d c=>rfl
theorem acN(a:ak)(k:Nat)(b:k<a.length)(c:64<a[k].length):mh a=2:=by
 rw[mh,aD];rw[oI];exact⟨_,bM b,by simpa using c⟩
theorem S9(a:ak)(g:∀b∈a,b.length<=64)(k:Nat)(d:k<a.length)(c:uS (wide a) a[k]=false):mh a=130:=by
 rw[mh,aA,aA]
 ·intro ha;rw[fg]at ha;rw[ha _ (bM d)]at c;cases c
 ·intro ha;rw[oI]at ha;obtain⟨b,f,e⟩:=ha;have:=g b f;simp at e;omega
theorem XD(b:ak)(f:∀a∈b,a.length<=64)(c:∀a∈b,uS (wide b) a=true):mh b=0:=by
 rw[mh,aA,aD]
 ·rw[fg];exact c
 ·intro ha;rw[oI]at ha;obtain⟨a,e,d⟩:=ha;have:=f a e;simp at d;omega
theorem XE{α:Type}{d:α->Prop}{c:List α}{k:Nat}(e:k<c.length)(f:∀b∈c.take k,d b)(g:d c[k]):∀b∈c.take (k+1),d b:=by
 rw[jv e];intro b a;rcases lN.1 a with a|a
 ·exact f b a
 ·rw[jJ.1 a];exact g
theorem XF{α:Type}{c:α->Prop}{a:List α}{k:Nat}(e:¬ k<a.length)(d:∀b∈a.take k,c b):∀b∈a,c b:=by
 rwa [zJ (by omega)]at d
theorem DP(E:Value)(a:ak)(d:World)(Q:bI d E a):
  Calls prog 175 #[E] d λj W=>j=raised (mh a)/\Below d d W:=by
 obtain⟨Z,cap,rfl,jC,hlen,p⟩:=Q;go_enter func175,ntmps175;go_wp2_with fail;go_loopw[3,9] (λ_ h wr=>∃b:Nat,b<=a.length/\h=b/\Hid (∀j∈a.take b,j.length<=64)/\Below d d wr) (λ_ h _=>a.length-(intOf h).toNat);case atStart=>exact⟨0,bS _,rfl,A (by simp),aY _ _⟩
 case round =>
  obtain⟨b,dg,rfl,y,q⟩:=hrel;by_cases n:b<a.length
  ·obtain⟨O,S,j,rfl,o,K,T,rfl,L,M,I,R⟩:=p b n;have G:=U q o;clear p o;by_cases C:a[b].length<=64
   ·have v:decide ((a[b].length:Int)<=64)=true:=bB (by omega);go_wp2_with fail;with_reducible refine(DO _ _).mono ?_
    rintro k r ⟨rfl,rfl⟩;go_wp2_with fail;go_roundw;case rel=>exact⟨b+1,by omega,by go_num,A (XE n y.1 C),q⟩
    case measure=>simp[intOf];omega
   ·have e:=A ((FT (a:=mh a) (by rw[acN a b n (by omega)];decide)).trans (by rw[acN a b n (by omega)]));have v:decide ((a[b].length:Int)<=64)=false:=bw (by omega);clear C;go_wp2_with fail;with_reducible refine(Ol _ _).mono ?_
    rintro k r ⟨rfl,rfl⟩;exact⟨rfl,e.1.symm,q⟩
  ·have m:=A (XF n y.1);go_wp2_with fail;obtain⟨F,rfl⟩:∃F:World,F=wr:=⟨_,rfl⟩;go_loopw[6,20] (λ_ h wr=>∃b:Nat,b<=a.length/\h=b/\Hid (∀j∈a.take b,uS (wide a) j=true)/\Below d d wr) (λ_ h _=>a.length-(intOf h).toNat);case atStart=>exact⟨0,bS _,rfl,A (by simp),q⟩
   case round =>
    obtain⟨c,nh,rfl,x,f⟩:=hrel;by_cases i:c<a.length
    ·obtain⟨O,S,j,rfl,o,B⟩:=p c i;have D:=B.below (f.mono (aP _));obtain⟨K,T,rfl,L,M,I,R⟩:=B;obtain⟨b0,acQ,r0,P,z,a0,ay6,rfl,-⟩:=p 0 (by omega);cases P;have G:=U f o;have N:=U f z;rw[rF]at N;have w:=A (A7 a (by omega));clear p o z;by_cases l:a[c].length=a[0].length
     ·have v:((a[c].length:Int)==(a[0].length:Int))=true:=by rw[gI];omega
      cases g:a[c].any cM
      ·obtain⟨s,H⟩:=aR g (show uS (wide a) a[c]=true by simp[uS,g,<-w.1,l]);clear g l;go_wp2_with fail;with_reducible refine(wx 203 #[] cM _ a[c] _ D (iw func203 (by kernel_rfl) rfl) (acM _ _)).mono ?_
       rintro k r ⟨rfl,t⟩;rw[s.1];go_wp2_with fail;with_reducible refine(DO _ _).mono ?_
       rintro k X ⟨rfl,rfl⟩;go_wp2_with fail;go_roundw;case rel=>exact⟨c+1,by omega,by go_num,A (XE i x.1 H.1),ar f t⟩
       case measure=>simp[intOf];omega
      ·obtain⟨s,e⟩:=aR g ((FT (a:=mh a) (by rw[S9 a m.1 c i (by simp[uS,g])];decide)).trans (by rw[S9 a m.1 c i (by simp[uS,g])]));clear g l;go_wp2_with fail;with_reducible refine(wx 203 #[] cM _ a[c] _ D (iw func203 (by kernel_rfl) rfl) (acM _ _)).mono ?_
       rintro k r ⟨rfl,t⟩;rw[s.1];go_wp2_with fail;with_reducible refine(Ol _ _).mono ?_
       rintro k X ⟨rfl,rfl⟩;exact⟨rfl,e.1.symm,ar f t⟩
     ·have v:((a[c].length:Int)==(a[0].length:Int))=false:=by rw[eH];omega
      have e:=A ((FT (a:=mh a) (by rw[S9 a m.1 c i (by simp[uS];intro u;exact absurd (u.trans w.1.symm) l)];decide)).trans (by rw[S9 a m.1 c i (by simp[uS];intro u;exact absurd (u.trans w.1.symm) l)]));clear l;go_wp2_with fail;with_reducible refine(Ol _ _).mono ?_
      rintro k r ⟨rfl,rfl⟩;exact⟨rfl,e.1.symm,f⟩
    ·have e:=A (A6 (XD a m.1 (XF i x.1)));go_wp2_with fail;go_end0;exact⟨e.1.symm,f⟩
