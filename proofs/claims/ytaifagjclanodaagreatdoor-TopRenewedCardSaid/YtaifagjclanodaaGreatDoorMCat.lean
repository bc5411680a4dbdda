/- slices.Grow and slices.Concat, at bytes. -/
import Derived.Test.YtaifagjclanodaaGreatDoorMDigA
import Derived.Lib.AppendZeros
import Derived.Deep.AppendLies
import Derived.Lib.Zigzag
import Derived.Lib.ConvBytes
import Derived.Lib.MinMax
import Derived.Lib.AppendStr
set_option maxHeartbeats 2000000
set_option maxRecDepth 100000
namespace Go.Proofs.YtaifagjclanodaaGreatDoor
open Go.Proofs.Tryz
open Go.RowKit
variable{j:Act}{p:Array Oper}{t:List Oper}{b:List Value}{l:List aO}{m i n f:Nat}{o:Oper}{v:Value}{d r a:World}{bs:aO}
theorem apI(n:Nat)(k:0<n)(hn:n<=35184372088832)(a:World):∃e c,(Builtin.append_ #[28,3] 28 #[(),n]).run prog a=.ok (.slice (a,0) n e) c/\n<=e /\
  c.ownsRow a.heap.size 5 1 (.slice (a,0) 0 e) 0 []/\Below a a c/\a.heap.size<c.heap.size:=by
 obtain⟨y,u,g⟩:=kA.1 L3;simp only[pN]at g;obtain⟨w,z,q⟩:=g;have h:=Lib.run_append_nil_zeros (P:=prog) a 28 3 28 5 y (.int .u8 0) .i64 .i64 underlying28 underlying3 u w n k (by omega) (by omega) (by rw[q];omega);have s:=grownCap_ge a n 0 5;have x:=grownCap_le_maxLen a n 0 5 (by unfold maxLen;omega);refine⟨_,_,h,s,⟨rfl,.inr ⟨_,_,_,rfl,aP _,World.alloc_heap_new a.drew _,bS _,x,?_,by simp⟩⟩,((aY _ _).drew).alloc (aP _) _,by simp⟩;rw[Array.size_append,SQ,SQ];show n*1+(grownCap a n 0 5 - n)*1=_;omega
def Z1(n:Nat)(a:World)(g:Ending)(e:World):Prop:=∃c,g=.returned (.slice (some ⟨a.heap.size,0,none⟩) 0 c)/\n<=c/\e.ownsRow a.heap.size 5 1 (.slice (some ⟨a.heap.size,0,none⟩) 0 c) 0 []/\Below a.heap.size a e/\a.heap.size<e.heap.size
theorem apJ(n:Nat)(q:0<n)(hn:n<=35184372088832)(a:World):
  Calls prog 216 #[(),n] a (Z1 n a):=by
 obtain⟨c,x,g,u,e,s,w⟩:=apI n q hn a;have y:¬ ((n:Int)<0):=by omega
 have h:Hid (Z1 n a (.returned (.slice (a,0) 0 c)) x):=A ⟨c,rfl,u,e,s,w⟩;have k:=A g;clear g e;go_enter func216,ntmps216;go_wp2_with (at_builtin;refine Lib.wpList_append_run _ rfl _ _ _ _ rfl _ _ rfl rfl _ _ k.1 ?_);go_ret;exact h.1
theorem apK(n:Nat)(c:Int)(g:(n:Int)=c)(e:0<n)(hn:n<=35184372088832)(a:World):
  Calls prog 216 #[(),c] a (Z1 n a):=by
 subst g;exact apJ n e hn a
theorem afV{s:Exit->Act->World->Prop}(D:o.guard=none)(k q:Operand)(O:o.op=.call {callee:=.builtin .append,args:=#[k,q],argTypes:=#[28,28]})
  (i n:Nat) (v f:Value) (b:List Value) (P:j.eval k=v) (B:d.ownsRow i 5 1 v n b) (e:aO) (Q:j.eval q=f) (R:fC d f e) (G:0<e.length) (hn:n+e.length<=70368744177664) (E:i<=d.heap.size)
  (F:∀h g,g.ownsRow i 5 1 h (n+e.length) (b++e.map cX)->d.grownBy g v.ownBlock->wpList prog p s t (j.put o.dst h) g):wpList prog p s (o::t) j d:=by
 obtain⟨W,N,u⟩:=kA.1 L3;simp only[pN]at u;obtain⟨S,z,K⟩:=u;obtain⟨ao,C,rfl,jC,hlen,et,x⟩:=R;obtain⟨m,T,rfl,-⟩:=x 0 G;refine SF _ D k q 28 O i 5 W (.int .u8 0) 1 1 underlying28 N S z K rfl (by decide) v n b P B (m,T) e.length C (e.map cX) Q (by simp) ?_ ?_ ?_ ?_ E ?_
 ·intro y X c;rw[tY]at c;by_cases w:y<e.length
  ·obtain⟨b',Z,M,L⟩:=x y w;cases M;rw[fw w]at c;simp at c;rw[<-c,zS];exact L
  ·rw[Xs (by omega)]at c;cases c
 ·intro X c;obtain⟨z0,_,rfl⟩:=ey.1 c;rfl
 ·unfold maxLen;omega
 ·omega
 ·intro h g H I _;exact F h g H I
theorem fC.own(e:a.ownsRow i 5 1 v n (bs.map cX))(q:∀C∈bs,C<256)(s:bs.length<=17592186044416):fC a v bs:=by
 obtain⟨hn,e⟩:=e;rw[dy,KR]at hn;rcases e with⟨rfl,rfl⟩|⟨k,u,h,rfl,-,y,z,-,D,B⟩
 ·exact⟨none,0,by rw[hn],by omega,s,q,λc g=>absurd g (by omega)⟩
 ·subst hn;refine⟨some (k,0),u,rfl,z,s,q,λc g=>⟨k,0,rfl,?_⟩⟩;rw[iN];have w:h.toList[c]?=some (cX bs[c]):=by
   have x:(h.toList.take (bs.length*1))[c]?=some (cX bs[c]):=by rw[B,tY,fw g];rfl
   rwa [we,aD (by omega)]at x
  exact Y y (by rw[<-sR];exact w)
theorem apL(F:Nat)(O P:Value)(b c:aO)(a:World)(k:fC a O b)(D:fC a P c)(h1:0<b.length)(h2:0<c.length)(hl:b.length+c.length<=17592186044416)
  (I:a.cell? (F,0)=some O) (K:a.cell? (F,1)=some P):
  Calls prog 206 #[.slice (F,0) 2 2] a λL Q=>∃N,L=.returned N/\fC Q N (b++c)/\Below a a Q:=by
 obtain⟨a1,k1,e1,fW⟩:=id k;obtain⟨a2,k2,e2,W⟩:=id D;subst e1;subst e2;have p1:0<=(b.length:Int)+c.length:=by omega
 clear fW W;obtain⟨G,H⟩:=aR k D;clear k D;go_enter func206,ntmps206;go_wp2_with fail;go_loop [3,11] (λE e=>(e=(0:Int)/\E=(0:Int))\/(e=(1:Int)/\E=b.length)\/(e=(2:Int)/\E=.int .i64 (b.length+c.length:Nat))) (λ_ e=>2-(intOf e).toNat);case atStart=>exact .inl ⟨rfl,rfl⟩
 case round =>
  rcases hrel with⟨rfl,rfl⟩|⟨rfl,rfl⟩|⟨rfl,rfl⟩
  ·go_wp2_with fail;go_round;case rel=>exact .inr (.inl ⟨rfl,by go_num⟩)
   case measure=>simp[intOf]
  ·go_wp2_with fail;go_round;case rel=>exact .inr (.inr ⟨rfl,by go_num⟩)
   case measure=>simp[intOf]
  ·go_wp2_with fail;with_reducible refine(apK (b.length+c.length) ((b.length:Int)+c.length) (by omega) (by omega) (by omega) _).mono ?_
   rintro L w1 ⟨z1,rfl,-,M,g,y⟩;obtain⟨X,S,T⟩:=bJ M I K;clear M I K;go_wp2_with fail;go_loopw[6,27] (λv e d=>Below a a d/\a.heap.size<d.heap.size/\((e=(0:Int)/\d.ownsRow a.heap.size 5 1 v 0 [])\/(e=(1:Int)/\d.ownsRow a.heap.size 5 1 v b.length (b.map cX))\/(e=(2:Int)/\d.ownsRow a.heap.size 5 1 v (b.length+c.length) (b.map cX++c.map cX)))) (λ_ e _=>2-(intOf e).toNat);case atStart=>exact⟨g,y,.inl ⟨rfl,X.1⟩⟩
   case round =>
    clear g y;obtain⟨g,y,h⟩:=hrel;rcases h with⟨rfl,h⟩|⟨rfl,h⟩|⟨rfl,h⟩
    ·have z0:=U g S.1;have x:=G.1.below g;obtain⟨z,u⟩:=aR x h;clear x h;go_wp2_with (refine afV rfl _ _ rfl a.heap.size 0 _ _ [] rfl u.1 b rfl z.1 h1 (by omega) (by omega) ?_;intro v8 w8 q w;have B:=A q;have s:=A w;clear q w);go_roundw;case rel=>exact⟨g.trans (fH u.1 s.1 (by omega)),eJ y s.1.size,.inr (.inl ⟨rfl,by have:=B.1;rwa [iN,jf]at this⟩)⟩
     case measure=>simp[intOf]
    ·have z0:=U g T.1;have x:=H.1.below g;obtain⟨z,u⟩:=aR x h;clear x h;go_wp2_with (refine afV rfl _ _ rfl a.heap.size b.length _ _ (b.map cX) rfl u.1 c rfl z.1 h2 (by omega) (by omega) ?_;intro v8 w8 q w;have B:=A q;have s:=A w;clear q w);go_roundw;case rel=>exact⟨g.trans (fH u.1 s.1 (by omega)),eJ y s.1.size,.inr (.inr ⟨rfl,B.1⟩)⟩
     case measure=>simp[intOf]
    ·have Z:=A (fC.own (bs:=b++c) (v:=u6) (by rw[gJ];exact h) (λR k=>by
      rcases lN.1 k with k|k
      ·obtain⟨_,_,_,_,_,C,_⟩:=G.1;exact C R k
      ·obtain⟨_,_,_,_,_,C,_⟩:=H.1;exact C R k) (by rw[fu];exact hl))
     clear h;go_wp2_with fail;go_ret;exact⟨_,rfl,Z.1,g⟩
def num(f:Nat):aO:=if c:f<128 then [f] else (f%128+128)::num (f/128)
termination_by f
def yJ(n:Int):Nat:=if 0<=n then (2*n).toNat else (-2*n-1).toNat
def dB(n:Int):aO:=1::num (yJ n)
def sn(c:V):aO:=3::(num c.length++c.flatMap dB)
theorem Um(c:f<128):num f=[f]:=by rw[num,Cj c]
theorem Z2(c:128<=f):num f=(f%128+128)::num (f/128):=by rw[num,DA (by omega)]
theorem Z3(f:Nat):∀e∈num f,e<256:=by
 induction f using Nat.strongRecOn with
 |ind f h =>
  by_cases g:f<128
  ·rw[Um g];intro e c;simp at c;omega
  ·rw[Z2 (by omega)];intro e c;rcases iu.1 c with rfl|c
   ·omega
   ·exact h (f/128) (by omega) e c
theorem afW:∀(k f:Nat),f<128^(k+1)->(num f).length<=k+1
 |0,f,c=>by rw[Um (by simpa using c)];simp
 |k+1,f,c=>by
  by_cases e:f<128
  ·rw[Um e];simp
  ·rw[Z2 (by omega),dZ];have:=afW k (f/128) (by rw[Nat.pow_succ]at c;omega);omega
theorem L5(c:f<18446744073709551616):(num f).length<=10:=afW 9 f (by omega)
theorem apM(f:Nat):0<(num f).length:=by rw[num];split<;>simp
theorem PI{n:Int}(c:aN n):yJ n<18446744073709551616:=by unfold yJ;obtain⟨e,g⟩:=c;split<;>omega
theorem apN(n:Int):∀e∈dB n,e<256:=by
 intro e c;rcases iu.1 c with rfl|c
 ·decide
 ·exact Z3 _ e c
theorem Bu{n:Int}(c:aN n):(dB n).length<=11:=by unfold dB;rw[dZ];have:=L5 (PI c);omega
theorem afX:∀(c:V),(∀z∈c,aN z)->(c.flatMap dB).length<=11*c.length
 |[],_=>by simp
 |z::c,e=>by
  rw[lP,fu,dZ];have k:=Bu (e z (by simp));have q:=afX c (λh g=>e h (by simp[g]));omega
theorem Un{c:V}(e:∀z∈c,aN z)(k:c.length<=1000000):(sn c).length<=11*c.length+11:=by
 unfold sn;rw[dZ,fu];have g:=afX c e;have h:=L5 (f:=c.length) (by omega);omega
theorem Z4(c:V):0<(sn c).length:=by unfold sn;simp
theorem apO(n:Int)(a:World)(hn:aN n):
  Calls prog 210 #[n] a λe x=>e=.returned (.int .u64 (yJ n:Nat))/\a=x:=by
 obtain⟨g,h⟩:=hn;by_cases k:0<=n
 ·have s:n/9223372036854775808=0:=by omega
  have c:Hid (bits .xor .u64 (n*2) 0=(yJ n:Nat)):=A (by
   have e:n*2=((yJ n:Nat):Int):=by unfold yJ;rw[aD k];omega
   rw[e,show(0:Int)=((0:Nat):Int) from rfl,u64_xor_nat _ _ (PI ⟨g,h⟩) (by omega),Nat.xor_zero])
  go_enter func210,ntmps210;go_wp2_with fail;go_ret;exact⟨fL c.1,rfl⟩
 ·have s:n/9223372036854775808=-1:=by omega
  go_enter func210,ntmps210;have c:Hid (bits .xor .u64 (IntKind.u64.wrap (IntKind.u64.wrap n*2)) (IntKind.u64.wrap (-1))=(yJ n:Nat)):=A (by
   have q:IntKind.u64.wrap (IntKind.u64.wrap n*2)=((18446744073709551615-yJ n:Nat):Int):=by
    have w:=PI ⟨g,h⟩;have y:((yJ n:Nat):Int)=-2*n-1:=by unfold yJ;rw[aA k];omega
    rw[KZ,KZ];omega
   have u:IntKind.u64.wrap (-1)=((2^64-1:Nat):Int):=by rw[KZ];omega
   have w:=PI ⟨g,h⟩;rw[q,u,u64_xor_nat _ _ (by omega) (by omega),Nat.xor_comm,Lib.xor_ones64 _ (by omega)];omega)
  go_wp2_with fail;go_ret;exact⟨fL c.1,rfl⟩
theorem apP{q:Value}{k:Nat}{c:TypeId}(e:d.ownsRow i c k v n b)(h:fI d v r q)(g:i<=d.heap.size):Below i d r:=fH e h.1 g
theorem afY{u:Exit->Act->World->Prop}(D:o.guard=none)(h q:Operand)(M:o.op=.call {callee:=.builtin .append,args:=#[h,q],argTypes:=#[28,28]})
  (i:Nat) (v:Value) (b:aO) (n:Nat) (R:b.length=n) (N:j.eval h=v) (B:d.ownsRow i 5 1 v n (b.map cX)) (m w s:Nat) (O:j.eval q=.slice (m,0) 1 w) (C:d.cell? (m,0)=some (cX s)) (hn:n<=17592186044416) (E:i<=d.heap.size)
  (G:∀k e,e.ownsRow i 5 1 k (n+1) ((b++[s]).map cX)->fI d v e k->wpList prog p u t (j.put o.dst k) e):wpList prog p u (o::t) j d:=by
 obtain⟨Q,L,x⟩:=kA.1 L3;simp only[pN]at x;obtain⟨P,z,K⟩:=x;refine wpList_append_lies _ D h q 28 M i 5 Q (.int .u8 0) 1 1 underlying28 L P z K rfl (by decide) v n (b.map cX) N B (m,0) 1 w [cX s] O rfl ?_ ?_ (by decide) ?_ ?_ E d.heap.size rfl ?_
 ·intro y f c;cases y with
  |zero=>simp at c;subst c;rw[zS];exact C
  |succ y=>simp at c
 ·intro f c;simp at c;subst c;rfl
 ·unfold maxLen;omega
 ·omega
 ·intro F S e H I g _;refine G _ e (by rw[gJ];exact H) ⟨I,?_⟩;rcases g with g|g
  ·exact .inl (g▸rfl)
  ·exact .inr ⟨F,rfl,by omega⟩
theorem L6(d:World)(v:Value)(c:TypeId):Below d d (d.alloc (.cells #[v] c)):=(aY _ _).alloc (aP _) _
theorem afZ(d:World)(v:Value)(c:TypeId):(d.alloc (.cells #[v] c)).cell? (d,0)=some v:=Y (World.alloc_heap_new d _) rfl
theorem apQ:∀c,c<256->c|||128=c%128+128:=by decide +kernel
theorem apR(f:Nat):bits .or .u8 ((f:Int)%256) 128=((f%128+128:Nat):Int):=by
 rw[show(f:Int)%256=((f%256:Nat):Int) by omega,show(128:Int)=((128:Nat):Int) from rfl,u8_or_nat _ _ (by omega) (by omega),apQ _ (by omega)]
 congr 2
 omega
def Al(i:Nat)(a:World)(v:Value)(g:aO)(h:Ending)(e:World):Prop:=∃c,h=.returned c/\e.ownsRow i 5 1 c g.length (g.map cX)/\fI a v e c
theorem Z5(i:Nat)(v:Value)(b:aO)(f:Nat)(a:World)(G:a.ownsRow i 5 1 v b.length (b.map cX))(O:i<=a.heap.size)(I:f<18446744073709551616)(Z:b.length<=8796093022208):
  Calls prog 209 #[v,.int .u64 f] a (Al i a v (b++num f)):=by
 have W:=L5 I;clear I;have L:=A G;clear G;go_enter func209,ntmps209;go_wp2_with fail;go_loopw[0,1] (λm D d=>∃(e:aO) (c:Nat),D=.int .u64 c/\c<=f/\e++num c=b++num f/\d.ownsRow i 5 1 m e.length (e.map cX)/\fI a v d m) (λ_ D _=>(intOf D).toNat);case atStart=>exact⟨b,f,rfl,aP _,rfl,L.1,fI.refl _ _⟩
 case round =>
  obtain⟨e,c,rfl,htu,z,K,C⟩:=hrel;have T:e.length+(num c).length=b.length+(num f).length:=by rw[<-fu,<-fu,z]
  have S:=apM c;have F:=A z;have H:i<=wr.heap.size:=bK O C.1.size;have E:=A K;clear z K;by_cases N:c<128
  ·have g:=Um N;have P:decide ((c:Int)>=128)=false:=bw (by omega);have B:=A g;clear g;obtain⟨x,w,u⟩:=bJ (dM E.1 (L6 wr (.int .u8 (c:Int)) 5)) (afZ wr (.int .u8 (c:Int)) 5) (bK H (L6 wr (.int .u8 (c:Int)) 5).size);go_wp2_with (refine afY rfl _ _ rfl i _ e _ rfl rfl x.1 wr.heap.size 1 c rfl w.1 (by omega) u.1 ?_;intro Q R k q;have s:=A k;have y:=A q;clear k q);go_ret;exact⟨_,rfl,by have h:=F.1;rw[B.1]at h;rw[<-h,fu];exact s.1,C.trans ((fI.below (L6 wr _ _) _).trans y.1)⟩
  ·have g:=Z2 (f:=c) (by omega);have P:decide ((c:Int)>=128)=true:=bB (by omega);have B:=A g;have X:(num c).length=(num (c/128)).length+1:=by rw[g,dZ]
   clear g;obtain⟨M,x⟩:=aR (apR c) (dM E.1 (L6 wr (.int .u8 (bits .or .u8 ((c:Int)%256) 128)) 5));have w:Hid ((wr.alloc (.cells #[.int .u8 (bits .or .u8 ((c:Int)%256) 128)] 5)).cell? (wr,0)=some (cX (c%128+128))):=A (by rw[afZ,M.1];rfl);have u:=A (bK H (L6 wr (.int .u8 (bits .or .u8 ((c:Int)%256) 128)) 5).size);go_wp2_with (refine afY rfl _ _ rfl i _ e _ rfl rfl x.1 wr.heap.size 1 (c%128+128) rfl w.1 (by omega) u.1 ?_;intro Q R k q;have s:=A k;have y:=A q;clear k q);go_roundw;case rel=>exact⟨e++[c%128+128],c/128,by go_num,by omega,by have h:=F.1;rw[B.1]at h;rw[<-h,DK];rfl,by rw[fu];exact s.1,C.trans ((fI.below (L6 wr _ _) _).trans y.1)⟩
   case measure=>simp[intOf];omega
def fp(c:ByteArray):aO:=c.data.toList.map UInt8.toNat
theorem Jf(c:ByteArray):(fp c).length=c.size:=by unfold fp;rw[dy];exact Array.length_toList
theorem apS(w:World)(s:ByteArray)(hs:s.size<=17592186044416):fC (Lib.bytesWorld w 5 s) (.slice (some ⟨w.heap.size,0,none⟩) s.size (grownCap w s.size 0 5)) (fp s):=by
 refine⟨_,_,by rw[Jf],by rw[Jf];exact grownCap_ge w s.size 0 _,by rw[Jf];exact hs,?_,λk hk=>⟨_,_,rfl,?_⟩⟩
 ·intro x hx;obtain⟨c,-,rfl⟩:=ey.1 hx;exact c.toNat_lt
 ·rw[Jf]at hk;have e:∀h,(fp s)[k]'h=(s.data.toList.getD k 0).toNat:=λh=>by
   unfold fp at h ⊢;rw[gj,kR,fw (by rw[Array.length_toList];exact hk)];rfl
  rw[iN,Lib.bytesWorld_cell w _ s k hk,e]
theorem af0(a:World)(c:ByteArray):Below a a (Lib.bytesWorld a 5 c) where
 os:=rfl
 tape:=rfl
 output:=rfl
 size:=by rw[Lib.bytesWorld_size];omega
 block:=λg e=>Lib.bytesWorld_at_old a _ c g e
theorem apT(a:World)(e:Nat)(g:a.heap.size=e)(c:ByteArray)(h:c.size<=17592186044416):fC (Lib.bytesWorld a 5 c) (.slice (e,0) c.size (grownCap a c.size 0 5)) (fp c):=by
 subst g;exact apS a c h
theorem Z9(a:World)(c:Array Value)(g:TypeId)(k:c.size=n):(a.alloc (.cells c g)).there a.heap.size 0 n:=λh q=>by
 have e:=World.alloc_heap_new a (.cells c g);rw[iN];exact⟨by rw[Y e (lM (by omega))];rfl,cB e h⟩
theorem af1(m:Nat):∀(l:List Value) (o:Nat) (a:World),(a.setCells m o l).heap.size=a.heap.size
 |[],_,_=>rfl
 |v::l,o,a=>by rw[World.setCells,af1 m l (o+1)];simp[World.setCell]
theorem stored(c:World)(g:List Value)(h:g.length=32):∃e,e=(c.alloc (.cells ux 243)).setCells c.heap.size 0 g/\e.rangeAt c.heap.size 0 g/\Below c c e/\e.heap.size=c.heap.size+1:=by
 refine⟨_,rfl,World.rangeAt_setCells_same _ _ _ _ (Z9 _ _ _ (by rw[h];rfl)),PA (aP _) _ _ _ ((aY _ _).alloc (aP _) _),?_⟩;rw[af1];simp
theorem apU(d:World)(f v:Value)(g:TypeId)(c:Nat)(h:d.heap.size=c):∃W3,W3=d.alloc (.cells #[f,v] g)/\Below d d W3/\W3.cell? (c,0)=some f/\W3.cell? (c,1)=some v:=by
 subst h;have e:=World.alloc_heap_new d (.cells #[f,v] g);exact⟨_,rfl,(aY _ _).alloc (aP _) _,Y e rfl,Y e rfl⟩
theorem apV{l:Array Value}{g:TypeId}(c:d.heap[m]?=QC.mk l g)(hn:n<=l.size):d.there m 0 n:=λe h=>by
 rw[iN];exact⟨by rw[Y c (lM (by omega))];rfl,cB c e⟩
theorem apW(c:a.rangeAt m 0 (bs.map cX))(e:∀q∈bs,q<256)(hn:bs.length=n)(h:n<=17592186044416):fC a (.slice (m,0) n n) bs:=by
 subst hn;refine⟨_,_,rfl,aP _,h,e,λk g=>⟨m,0,rfl,?_⟩⟩;exact c k _ (by rw[tY,fw g];rfl)
theorem apX(c:ByteArray)(v:Value)(bs:aO)(a:World)(hs:c.size<=17592186044416)(L:fC a v bs)(h0:0<bs.length)(hl:bs.length<=8796093022208)(hG:gz a):
  Calls prog 181 #[.string c,v] a λu w'=>u=.returned (.agg ((Io (fp c) bs).map cX).toArray)/\Below a a w':=by
 have Bv:=λa=>Lib.run_convert_string_bytes (P:=prog) a 9 28 5 c underlying9 underlying28 underlying5;obtain⟨av,cv,rfl,-⟩:=id L;have HI:=A L;clear L;go_enter func181,ntmps181;go_wp2_with fail;have hA:Below a a (a.alloc (.cells ux 243)):=(aY _ _).alloc (aP _) _;have K:Below a a (Lib.bytesWorld (a.alloc (.cells ux 243)) 5 c):=hA.trans ((af0 _ c).mono (by simp));have hR:(Lib.bytesWorld (a.alloc (.cells ux 243)) 5 c).heap[a.heap.size]?=QC.mk ux 243:=((af0 _ c).block _ (by simp)).trans (World.alloc_heap_new _ _);have hC:=apT (a.alloc (.cells ux 243)) (a.heap.size+1) (by simp) c hs;have hGB:=hG.below K;refine(afS _ (fp c) _ hC hGB).mono ?_;rintro u k ⟨rfl,D⟩;have W:=ar K D;have X:=az D hR;clear hA K hR D Bv;have q:((mg (fp c)).map cX).length=32:=by rw[dy,Le]
 have O:((mg (fp c)).map cX).toArray.all (·.oneCell')=true:=all_oneCell_toArray (λv N=>by obtain⟨z0,-,rfl⟩:=ey.1 N;rfl);obtain⟨g,w⟩:∃g,(mg (fp c)).map cX=g:=⟨_,rfl⟩;rw[w]at q O;rw[w];obtain⟨HT,H32,Je,nB⟩:=cY w q O (Gw.trans (congrArg some (show 32=g.toArray.size by simpa using q.symm)));have aaa:Hid (g.toArray.size=32):=A (by simpa using q);clear w q O;obtain⟨y,H,si,C,R⟩:=stored k g H32.1;simp only[ux]at H;obtain⟨kG,PG⟩:=aR H si;clear H si;go_wp2_with (refine wpList_store_mid rfl 243 (.tmp 5) (.tmp 8) rfl k.heap.size 0 g.toArray rfl rfl (Z9 _ _ _ aaa.1.symm) nB.1 Je.1 ?_;rw[show g.toArray.toList=g from rfl,<-kG.1]);have T:Below a a y:=ar W C;have gE:=az C X;have xe:fC y (.slice (k,0) 32 32) (mg (fp c)):=apW (by rw[HT.1];exact PG.1) (acI _) (Le _) (by omega);obtain⟨W3,Z,s,gR,iP⟩:=apU y (.slice (k,0) 32 32) (.slice av bs.length cv) 28 (k.heap.size+1) R;rw[<-Z];have B:=ar T s;have ij:=az s gE;have hx3:=xe.below s;have hy3:=HI.1.below B;clear Z C W X s xe T gE R;refine(apL (k.heap.size+1) _ _ (mg (fp c)) bs _ hx3 hy3 (by rw[Le];omega) h0 (by rw[Le];omega) gR iP).mono ?_;rintro u W4 ⟨v4,rfl,Q,G⟩;have F:=ar B G;have dW:=az G ij;have EB:=A Q;clear hx3 hy3 gR iP B ij G Q;go_wp2_with fail;have hG4:=hG.below F;refine(afS v4 (mg (fp c)++bs) _ EB.1 hG4).mono ?_;rintro u z ⟨rfl,E⟩;have dI:=ar F E;have su:=az E dW;have x:=apV su (n:=32) (aP 32);have h:((mg (mg (fp c)++bs)).map cX).length=32:=by rw[dy,Le]
 have I:((mg (mg (fp c)++bs)).map cX).toArray.all (·.oneCell')=true:=all_oneCell_toArray (λv N=>by obtain⟨z0,-,rfl⟩:=ey.1 N;rfl);have S:Hid ((Io (fp c) bs).map cX=(mg (mg (fp c)++bs)).map cX):=A rfl;obtain⟨e,M⟩:∃e,(mg (mg (fp c)++bs)).map cX=e:=⟨_,rfl⟩;rw[M]at h I S;rw[M];obtain⟨G1L,GI1,GI2⟩:=bJ I (Gw.trans (congrArg some (show 32=e.toArray.size by simpa using h.symm))) (Gw.trans (congrArg some h.symm));have GTH:Hid (z.there a.heap.size 0 e.toArray.size):=A (by rw[show e.toArray.size=32 by simpa using h];exact x);have apY:Hid (z.there a.heap.size 0 e.length):=A (by rw[h];exact x);clear M h I x F dW E su hG4;go_wp2_with (refine wpList_store_mid rfl 243 (.tmp 4) (.tmp 13) rfl a.heap.size 0 e.toArray rfl rfl GTH.1 GI1.1 G1L.1 ?_);have CV:e.toArray.toList=e:=rfl;have ie:(z.setCells a.heap.size 0 e.toArray.toList).rangeAt a.heap.size 0 e:=by rw[CV];exact World.rangeAt_setCells_same _ _ _ _ apY.1
 have Jd:=run_loadVar_mid (P:=prog) _ a.heap.size 0 243 e _ ie underlying243 rfl GI2.1;refine gB (v:=.agg e.toArray) ?_ rfl ⟨by rw[S.1],PA (aP _) _ _ _ dI⟩;exact ZN rfl rfl Jd
def PJ(n:Int):Value:=.agg #[.int .i64 1,.int .i64 n,.string ⟨#[]⟩,.slice none 0 0]
def PK(c:ByteArray):Value:=.agg #[.int .i64 2,.int .i64 0,.string c,.slice none 0 0]
def qV(v:Value):Value:=.agg #[.int .i64 3,.int .i64 0,.string ⟨#[]⟩,v]
def lB(bs:aO):aO:=2::(num bs.length++bs)
def Gy(v:Value)(e:aO):Prop:=(∃n,aN n/\v=PJ n/\e=dB n)\/∃c:ByteArray,c.size<=1000000/\v=PK c/\e=lB (fp c)
def vx(e g:Int)(h:ByteArray)(k:Option Addr)(q c:Nat):Value:=.agg #[.int .i64 e,.int .i64 g,.string h,.slice k q c]
def VL(x:World->Value->aO->Prop)(a:World)(v:Value)(l:List aO):Prop:=
 ∃j h,v=.slice j l.length h/\l.length<=h/\l.length<=1000000 /\
  ∀c (y:c<l.length),∃m e k q s u w g,j=some ⟨m,e,none⟩/\a.cell? ⟨m,e+c*4,none⟩=some (.int .i64 k)/\a.cell? ⟨m,e+c*4+1,none⟩=some (.int .i64 q) /\
   a.cell? ⟨m,e+c*4+2,none⟩=some (.string s)/\a.cell? ⟨m,e+c*4+3,none⟩=some (.slice u w g)/\x a (vx k q s u w g) l[c]
def gg(l:List aO):aO:=3::(num l.length++l.flatten)
def ig:Nat->World->Value->aO->Prop
 |0,_,v,c=>Gy v c
 |h+1,a,v,c=>Gy v c\/∃j g e l,v=qV (.slice j g e)/\VL (ig h) a (.slice j g e) l/\c=gg l
theorem VL.below{c:World->Value->aO->Prop}{w':World}(u:VL c a v l)(C:∀h g,c a h g->c w' h g)(e:Below a a w'):VL c w' v l:=by
 obtain⟨j,s,rfl,D,F,E⟩:=u;refine⟨j,s,rfl,D,F,λG k=>?_⟩;obtain⟨m,H,I,K,L,M,N,q,ha,w,x,y,z,B⟩:=E G k;exact⟨m,H,I,K,L,M,N,q,ha,U e w,U e x,U e y,U e z,C _ _ B⟩
theorem ig.below:∀{g:Nat} {a w':World} {v:Value} {e:aO},ig g a v e->Below a a w'->ig g w' v e
 |0,_,_,_,_,c,_=>c
 |g+1,a,w',v,e,c,h=>by
  rcases c with c|⟨j,x,k,l,q,s,u⟩
  ·exact .inl c
  ·exact .inr ⟨j,x,k,l,q,s.below (λy e w=>ig.below w h) h,u⟩
theorem apZ(g:ByteArray):∀c∈fp g,c<256:=by
 intro c e;obtain⟨m,-,rfl⟩:=ey.1 e;exact m.toNat_lt
theorem ap0(g:∀e∈bs,e<256):∀e∈lB bs,e<256:=by
 intro e c;rcases iu.1 c with rfl|c
 ·decide
 ·rcases lN.1 c with c|c
  ·exact Z3 _ e c
  ·exact g e c
theorem Gy.all{c:aO}(e:Gy v c):∀h∈c,h<256:=by
 rcases e with⟨n,-,-,rfl⟩|⟨g,-,-,rfl⟩
 ·exact apN n
 ·exact ap0 (apZ g)
theorem ap1(g:∀k (g:k<l.length),∀e∈l[k],e<256):∀e∈gg l,e<256:=by
 intro e c;rcases iu.1 c with rfl|c
 ·decide
 ·rcases lN.1 c with c|c
  ·exact Z3 _ e c
  ·obtain⟨s,q,c⟩:=List.mem_flatten.1 c;obtain⟨k,h,rfl⟩:=Cs q;exact g k h e c
theorem VL.all{e:World->Value->aO->Prop}(k:VL e a v l)(s:∀v g,e a v g->∀c∈g,c<256):∀c∈gg l,c<256:=by
 obtain⟨j,y,rfl,E,F,u⟩:=k;exact ap1 λw h=>by
  obtain⟨m,G,H,I,K,L,M,x,ha,z,B,C,D,q⟩:=u w h;exact s _ _ q
theorem ig.all:∀{g:Nat} {a:World} {v:Value} {e:aO},ig g a v e->∀q∈e,q<256
 |0,_,_,_,c=>Gy.all c
 |g+1,a,v,e,c=>by
  rcases c with c|⟨j,w,s,l,u,h,rfl⟩
  ·exact c.all
  ·exact h.all λv e k=>ig.all k
theorem Uq(a:World)(c e:Array Value)(g f:TypeId):Below a a ((a.alloc (.cells c g)).alloc (.cells e f)):=((aY _ _).alloc (aP _) _).alloc (by simp) _
def Ur(g:Nat)(a:World)(c:Ending)(e:World):Prop:=∃n:Nat,n<=g/\c=.returned (.tuple #[.int .i64 n,.bool true])/\Below a.heap.size a e
theorem af2(v:Value)(e:aO)(h:Nat)(a:World)(g:Gy v e):Calls prog 207 #[v] a (Ur h a):=by
 rcases g with⟨n,⟨s,u⟩,rfl,-⟩|⟨w,k,rfl,-⟩
 ·unfold PJ;by_cases c:n=0
  ·subst c;go_enter func207,ntmps207;go_wp2_with fail;go_ret2;exact⟨0,bS _,rfl,Uq a _ _ _ _⟩
  ·have q:(n==0)=false:=by simpa using c
   go_enter func207,ntmps207;go_wp2_with fail;go_ret2;exact⟨0,bS _,rfl,Uq a _ _ _ _⟩
 ·unfold PK;go_enter func207,ntmps207;go_wp2_with fail;all_goals
   go_ret2;exact⟨0,bS _,rfl,Uq a _ _ _ _⟩
theorem ap2(q:World->Value->aO->Prop)(x:∀(a H:World) (I:Value) (h:aO),q a I h->Below a a H->q H I h)(s:Nat)(hd:s<=100)(y:∀v h a,q a v h->Calls prog 207 #[v] a (Ur s a))(j:Option Addr)(k g:Nat)(l:List aO)(a:World)(T:VL q a (.slice j k g) l):
  Calls prog 207 #[qV (.slice j k g)] a (Ur (s+1) a):=by
 obtain⟨j,cap,z,jC,hlen,B⟩:=T;simp only[dr]at z;obtain⟨rfl,rfl,rfl⟩:=z;obtain⟨P,O,Q⟩:=bJ B x y;clear B x y;unfold qV;go_enter func207,ntmps207;go_wp2_with fail;go_loopw[2,57] (λdv u d=>∃e n:Nat,e<=l.length/\n<=s/\u=e/\dv=n/\Below a a d) (λ_ u _=>l.length-(intOf u).toNat);case atStart=>exact⟨0,0,bS _,bS _,rfl,rfl,Uq a _ _ _ _⟩
 case round =>
  obtain⟨e,n,dg,hn,rfl,rfl,c⟩:=hrel;by_cases R:e<l.length
  ·obtain⟨m,off,K,L,M,N,k,g,rfl,C,D,E,F,G⟩:=P.1 e R;have Z:=U c C;have c2:=U c D;have c3:=U c E;have c4:=U c F;obtain⟨w,X⟩:=aR (Q.1 _ _ _ (O.1 _ _ _ _ G (c.trans ((bk wr #[K,L,.string M,.slice N k g] 72).mono c.size)))) (bk wr #[K,L,.string M,.slice N k g] 72);clear C D E F G;unfold vx at w;go_wp2_with fail;refine w.1.mono ?_;rintro h w1 ⟨W,xf,rfl,S⟩;go_wp2_with fail;go_roundw;case rel=>exact⟨e+1,max n W,by omega,by omega,by go_num,by simp;omega,c.trans ((ar X.1 S).mono c.size)⟩
   case measure=>simp[intOf];omega
  ·obtain rfl:e=l.length:=by omega
   go_wp2_with fail;go_ret2;exact⟨n+1,by omega,by go_num,c⟩
theorem af3:∀(e:Nat),e<=100->∀(v:Value) (g:aO) (a:World),ig e a v g->Calls prog 207 #[v] a (Ur e a)
 |0,_,v,g,a,c=>af2 v g 0 a c
 |e+1,u,v,g,a,c=>by
  rcases c with c|⟨j,s,h,l,rfl,k,-⟩
  ·exact af2 v g _ a c
  ·exact ap2 (ig e) (λ_ _ _ _ c q=>c.below q) e (by omega) (af3 e (by omega)) j s h l a k
theorem ap3(k:Nat)(y:k<16)(j:Option Addr)(e c:Nat)(l:List aO)(a:World)(w:VL (ig k) a (.slice j e c) l):
  Calls prog 182 #[qV (.slice j e c)] a λh x=>h=.returned (0:Int)/\Below a a x:=by
 have g:=bk a #[(3:Int),(0:Int),.string ⟨#[]⟩,.slice j e c] 72;have q:=A (af3 (k+1) (by omega) _ _ _ (.inr ⟨j,e,c,l,rfl,w.below (λB h u=>u.below g) g,rfl⟩));unfold qV at q ⊢;go_enter func182,ntmps182;go_wp2_with fail;refine q.1.mono ?_;rintro h z ⟨n,hn,rfl,s⟩;have C:decide ((n:Int)>16)=false:=bw (by omega);go_wp2_with fail;go_ret;exact⟨rfl,ar g s⟩
structure Bw(c:Nat)(d:World):Prop where
 int:d.cell? ⟨c,1,none⟩=some (.func (.func 208) #[] #[])
 text:d.cell? ⟨c,2,none⟩=some (.func (.func 211) #[] #[])
 list:d.cell? ⟨c,3,none⟩=some (.func (.func 212) #[] #[.pointer (some ⟨c+1,0,none⟩)])
 var:d.cell? ⟨c+1,0,none⟩=some (.pointer (some ⟨c,0,none⟩))
theorem Bw.below{g:Nat}(c:Bw g d)(e:Below d.heap.size d r):Bw g r:=⟨U e c.int,U e c.text,U e c.list,U e c.var⟩
theorem ap4(a:World):
  Calls prog 183 #[] a λg e=>g=.returned (.pointer (some ⟨a.heap.size,0,none⟩))/\Bw a.heap.size e/\Below a.heap.size a e:=by
 have c:((a.alloc (.cells #[Value.nilFunc,Value.nilFunc,Value.nilFunc,Value.nilFunc] 262)).alloc (.cells #[.pointer (some ⟨a.heap.size,0,none⟩)] 249)).heap[a.heap.size]?=some (.cells #[Value.nilFunc,Value.nilFunc,Value.nilFunc,Value.nilFunc] 262 (0,0)):=
  (xU _ _ _ (by simp)).trans (World.alloc_heap_new a _)
 have s:=Y c (k:=1) rfl;have u:=cB c 1;clear c;have w:=λ(j:Addr) (h:Fn) (k q:Array Value) (a:World)=>run_store prog a j (.func h k q) .plain rfl;go_enter func183,ntmps183;go_wp2_with fail;go_ret;refine⟨rfl,⟨?_,?_,?_,?_⟩,?_⟩
 ·simp[go_sem]
 ·simp[go_sem]
 ·simp[go_sem]
 ·simp[go_sem]
 ·repeat (first|exact aY _ _|refine zR ?_ (by simp) _|refine tZ ?_ (by simp) _|refine A1 ?_)
theorem aab{u:Act->World->Prop}{B:Exit->Act->World->Prop}{z:Prop}(F:o.guard=none)(h q:Operand)(O:o.op=.call {callee:=.builtin .append,args:=#[h,q],argTypes:=#[28,28]})
  (i:Nat) (v:Value) (b:aO) (n:Nat) (P:j.eval h=v) (D:d.ownsRow i 5 1 v n (b.map cX)) (m w s:Nat) (Q:j.eval q=.slice (m,0) 1 w) (E:d.cell? (m,0)=some (cX s)) (hn:n<=17592186044416) (G:i<=d.heap.size)
  (I:∀k e,e.ownsRow i 5 1 k (n+1) ((b++[s]).map cX)->fI d v e k->u (j.put o.dst k) e):
  if Region.wanted o (yielded p j.tmps)=true then Oper.wp prog o j d u B else z:=by
 obtain⟨S,N,x⟩:=kA.1 L3;simp only[pN]at x;obtain⟨R,C,M⟩:=x;refine step_append_lies _ F h q 28 O i 5 S (.int .u8 0) 1 1 underlying28 N R C M rfl (by decide) v n (b.map cX) P D (m,0) 1 w [cX s] Q rfl ?_ ?_ (by decide) ?_ ?_ G d.heap.size rfl ?_
 ·intro y f c;cases y with
  |zero=>simp at c;subst c;rw[zS];exact E
  |succ y=>simp at c
 ·intro f c;simp at c;subst c;rfl
 ·unfold maxLen;omega
 ·omega
 ·intro H T e K L g _;refine I _ e (by rw[gJ];exact K) ⟨L,?_⟩;rcases g with g|g
  ·exact .inl (g▸rfl)
  ·exact .inr ⟨H,rfl,by omega⟩
theorem PM{g:Value}(k:fI d v r g)(s:m<d.heap.size)(h:v.ownBlock≠some m):g.ownBlock≠some m:=λc=>by
 rcases k.2 with e|⟨q,e,u⟩
 ·exact h (e▸c)
 ·rw[e]at c;injection c with c;omega
theorem ap5(b:aO)(n:Int):b++[1]++num (yJ n)=b++dB n:=by rw[DK];rfl
theorem ap6(i:Nat)(v:Value)(b:aO)(n:Int)(a:World)(hn:aN n)(c:a.ownsRow i 5 1 v b.length (b.map cX))(D:i<=a.heap.size)(E:b.length<=1099511627776):
  Calls prog 208 #[v,PJ n] a (Al i a v (b++dB n)):=by
 unfold PJ;obtain⟨w,y⟩:=aR c (pQ c (.inl (aP a.heap.size)));clear c;go_enter func208,ntmps208;go_wp2_with fail;go_region_law (first
  |(refine aab rfl _ _ rfl i _ b _ rfl (dM w.1 (by repeat (first|exact aY _ _|refine A1 ?_|refine tZ ?_ (by simp) _))) (a.heap.size+1) 1 1 rfl (by simp[go_sem,cX]) (by omega) (by simp;omega) ?_;intro G C h e;have F:C.cell? (a,1)=n:=(rH e (by simp;omega) y.1 1).trans (by simp[go_sem]);have s:=A h;have g:=A e;clear h e)
  |(go_simp;go_at_call 210;with_reducible refine(apO n _ hn).mono ?_;rintro z B ⟨rfl,rfl⟩)
  |(go_simp;go_at_call 209;refine(Z5 i _ (b++[1]) (yJ n) _ (by rw[fu];exact s.1) (bK (by simp;omega) g.1.1.size) (PI hn) (by rw[fu];simp;omega)).mono ?_;rintro z B ⟨H,rfl,k,q⟩;have u:=A k;have x:=A q;clear k q))
 all_goals
  go_wp2_with fail;go_ret;exact⟨_,rfl,(ap5 b n)▸u.1,(fI.below (by repeat (first|exact aY _ _|refine A1 ?_|refine tZ ?_ (by simp) _)) v).trans (g.1.trans x.1)⟩
theorem ap7(c:ByteArray):Lib.strCells c=(fp c).map cX:=by
 unfold Lib.strCells fp;rw[mD];rfl
theorem ap8{C:Act->World->Prop}{K:Exit->Act->World->Prop}{I:Prop}(N:o.guard=none)(sl G:Operand)(X:o.op=.call {callee:=.builtin .append,args:=#[sl,G],argTypes:=#[28,9]})
  (i:Nat) (v:Value) (b:aO) (n:Nat) (Z:j.eval sl=v) (u:d.ownsRow i 5 1 v n (b.map cX)) (c:ByteArray) (hx:j.eval G=.string c) (hn:n+c.size<=17592186044416) (O:i<=d.heap.size)
  (R:∀h w,w.ownsRow i 5 1 h (n+c.size) ((b++fp c).map cX)->fI d v w h->C (j.put o.dst h) w):
  if Region.wanted o (yielded p j.tmps)=true then Oper.wp prog o j d C K else I:=by
 obtain⟨x,k,D⟩:=kA.1 L3;simp only[pN]at D;obtain⟨B,s,z⟩:=D;rw[aD (by simp[Region.wanted,N])];obtain⟨h,w,q,S,T,-⟩:=Lib.run_append_own_string (P:=prog) d i 28 9 o.type 5 x underlying28 underlying9 k B s z v n _ u c (by unfold maxLen;omega) (by omega) O;have Q:h.ownBlock=v.ownBlock\/∃g,h.ownBlock=some g/\d.heap.size<=g:=by
  have hxl:(b.map cX).length=n:=by simpa using u.1
  rcases id u.2 with⟨rfl,rfl⟩|⟨g,y,M,rfl,jT,W,kE,mJ,ew,azo⟩
  ·by_cases F:c.size=0
   ·have E:=Lib.run_firstCells_string (P:=prog) d 1 c;rw[F]at E;have e:(Builtin.append_ #[28,9] o.type #[(),.string c]).run prog d=.ok () d:=by
     simp[Builtin.append_,DH underlying28,DH underlying9,sizeOf,typeInfo,k,s,Builtin.lenOf,F,E]
    rw[q]at e;cases e;exact .inl rfl
   ·have e:=run_append_nil_string (P:=prog) d 28 9 o.type 5 x (.int .u8 0) underlying28 underlying9 k B c (by omega) (by omega) (by rw[z];omega);rw[q]at e;cases e;exact .inr ⟨_,rfl,aP _⟩
  ·by_cases L:n+c.size<=y
   ·have e:=Lib.run_append_room_string (P:=prog) d 28 9 o.type 5 x underlying28 underlying9 k s g n y M W c L (by omega);rw[q]at e;cases e;exact .inl rfl
   ·have holds:∀H f,(b.map cX)[H]?=some f->d.cell? ((⟨g,0,none⟩:Addr).add H)=some f:=u.cells (g:=g) rfl;have e:=Lib.run_append_grow_string (P:=prog) d 28 9 o.type 5 x (.int .u8 0) underlying28 underlying9 k B ⟨g,0,none⟩ n y _ (by rw[s];simpa using hxl) holds c (by omega) (by omega) (by rw[z];exact growslice_fits (by omega) (by omega));rw[q]at e;cases e;exact .inr ⟨_,rfl,aP _⟩
 unfold Oper.wp execOp;simp only[X,resolve,invoke,builtin,Cm,Sem.run_pure,Result.andThen_ok,List.map_toArray,zQ,FI,Z,hx,q];exact R _ _ (by rw[gJ,<-ap7];exact S) ⟨T,Q⟩
theorem af4(b:aO)(c:ByteArray):b++[2]++num c.size++fp c=b++lB (fp c):=by unfold lB;rw[Jf,DK,DK];rfl
theorem aqa{b:aO}{c:ByteArray}(e:d.ownsRow i 5 1 v ((b++[2]++num c.size).length+c.size) ((b++[2]++num c.size++fp c).map cX)):d.ownsRow i 5 1 v (b++lB (fp c)).length ((b++lB (fp c)).map cX):=by
 have g:(b++[2]++num c.size).length+c.size=(b++lB (fp c)).length:=by rw[<-af4];simp[Jf];omega
 rw[af4,g]at e;exact e
theorem aqb(i:Nat)(v:Value)(b:aO)(c:ByteArray)(a:World)(hn:c.size<=1000000)(s:a.ownsRow i 5 1 v b.length (b.map cX))(Q:i<=a.heap.size)(hl:b.length<=1099511627776):
  Calls prog 211 #[v,PK c] a (Al i a v (b++lB (fp c))):=by
 unfold PK;obtain⟨I,x⟩:=aR s (pQ s (.inl (aP a.heap.size)));have oY:IntKind.u64.wrap (c.size:Int)=(c.size:Int):=by rw[KZ];omega
 have S:Hid (c.size<18446744073709551616):=A (by omega);have T:Hid ((b++[2]).length<=8796093022208):=A (by rw[fu];simp;omega);have P:Hid ((b++[2]++num c.size).length+c.size<=17592186044416):=A (by rw[fu,fu];have:=L5 (f:=c.size) (by omega);simp;omega);clear s;go_enter func211,ntmps211;go_wp2_with fail;go_region_held3 (λZ=>Z.cell? (a,2)=some (.string c)) (first|go_keep|exact O|exact w|exact B) (first
  |(refine aab rfl _ _ rfl i _ b _ rfl (dM I.1 (by repeat (first|exact aY _ _|refine A1 ?_|refine tZ ?_ (by simp) _))) (a.heap.size+1) 1 2 rfl (by simp[go_sem,cX]) (by omega) (by simp;omega) ?_;intro W h y e;have B:h.cell? (a,2)=some (.string c):=(rH e (by simp;omega) x.1 2).trans (by simp[go_sem]);have G:Hid (h.ownsRow i 5 1 W (b++[2]).length ((b++[2]).map cX)):=A (by rw[fu];exact y);have C:Hid (i<=h.heap.size):=A (bK Q (show a.heap.size<=h.heap.size from bK (by simp;omega) e.1.size));have D:=A (PM e (m:=a.heap.size) (by simp;omega) x.1);have k:Hid (a.heap.size<h.heap.size):=A (eJ (by simp;omega) e.1.size);have M:=A e;clear y e)
  |(go_simp;go_at_call 209;(with_reducible refine(Z5 i _ (b++[2]) c.size _ G.1 C.1 S.1 T.1).mono ?_);rintro z0 E ⟨v9,rfl,z,g⟩;have w:=(rH g k.1 D.1 2).trans B;have X:Hid (a.heap.size<E.heap.size):=A (eJ k.1 g.1.size);have K:=A (PM g (m:=a.heap.size) k.1 D.1);have R:Hid (i<=E.heap.size):=A (bK C.1 g.1.size);have H:=A z;have N:=A g;clear z g)
  |(refine ap8 rfl _ _ rfl i _ (b++[2]++num c.size) _ rfl H.1 c rfl P.1 R.1 ?_;intro v10 pg u q;have O:=(rH q X.1 K.1 2).trans w;have F:=A u;have L:=A q;clear u q))
 all_goals
  go_wp2_with fail;go_ret;exact⟨_,rfl,aqa F.1,(fI.below (by repeat (first|exact aY _ _|refine A1 ?_|refine tZ ?_ (by simp) _)) v).trans (M.1.trans (N.1.trans L.1))⟩
