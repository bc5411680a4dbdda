/- Package complaints: parcels as lists; an append of a parcel. -/
import Derived.Test.YtaifagjclanodaaGreatDoorMEqA
import Derived.Test.YtaifagjclanodaaGreatDoorMDeaX
set_option maxHeartbeats 4000000
set_option maxRecDepth 100000
namespace Go.Proofs.YtaifagjclanodaaGreatDoor
open Go.Proofs.Tryz
open Go.RowKit FP
variable{m:Array Value}{row:Int}{cs:List Bool}{n:Nat}{v:Value}{b o:World}{e:V}{c:ak}
abbrev gG:=Int×Int×Int
def gW(p:gG):List Value:=[.int .i64 p.1,.int .i64 p.2.1,.int .i64 p.2.2]
def ir(b:World)(v:Value)(a:List gG):Prop:=
 ∃q m,v=.slice q a.length m/\a.length<=m/\a.length<=17592186044416/\(∀p∈a,aN p.1/\aN p.2.1/\aN p.2.2) /\
  ∀d (r:d<a.length),∃l k,q=some ⟨l,k,none⟩/\b.cell? ⟨l,k+d*3,none⟩=some (.int .i64 a[d].1)/\b.cell? ⟨l,k+d*3+1,none⟩=some (.int .i64 a[d].2.1)/\b.cell? ⟨l,k+d*3+2,none⟩=some (.int .i64 a[d].2.2)
theorem ir.below{w':World}{d:List gG}(B:ir b v d)(a:Below b b w'):ir w' v d:=by
 obtain⟨k,m,rfl,s,u,w,t⟩:=B;refine⟨k,m,rfl,s,u,w,λx l=>?_⟩;obtain⟨z,y,ha,p,q,r⟩:=t x l;exact⟨z,y,ha,U a p,U a q,U a r⟩
theorem ir.nil(b:World)(a:Option Addr)(m:Nat):ir b (.slice a 0 m) []:=
 ⟨a,m,rfl,bS _,by simp,by simp,λk d=>absurd d (fG _)⟩
theorem aaH:∀(d:List gG) (k a:Nat) (l:k<d.length),a<3->(d.flatMap gW)[k*3+a]?=(gW d[k])[a]?
 |[],k,_,l,_=>absurd l (fG k)
 |q::d,0,a,_,p=>by
  rw[lP,Ib,iN,uN (by show a<3;exact p)];rfl
 |q::d,k+1,a,l,p=>by
  rw[lP,rD (by show 3<=_;omega)];have r:(k+1)*3+a-(gW q).length=k*3+a:=by show(k+1)*3+a-3=_;omega
  rw[r,aaH d k a (by simpa using l) p];rfl
theorem aaI(a:List gG):(a.flatMap gW).length=a.length*3:=by
 induction a with
 |nil=>rfl
 |cons k a d=>rw[lP,fu,d,dZ];show 3+_=_;omega
theorem aro(a:List gG)(z:gG):(a++[z]).flatMap gW=a.flatMap gW++gW z:=by rw[AY];simp
theorem ir.own{y:Nat}{l:List gG}(s:b.ownsRow y 88 3 v n (l.flatMap gW))(w:∀p∈l,aN p.1/\aN p.2.1/\aN p.2.2)(F:l.length<=1000000):ir b v l:=by
 obtain⟨hn,s⟩:=s;rw[aaI]at hn;obtain rfl:n=l.length:=by omega
 rcases s with⟨rfl,z⟩|⟨x,m,t,rfl,-,k,C,-,E,D⟩
 ·exact⟨none,0,by rw[z],by omega,by omega,w,λd q=>absurd q (by omega)⟩
 ·refine⟨some (x,0),m,rfl,C,by omega,w,λd q=>⟨x,0,rfl,?_⟩⟩;have r:∀a,a<3->t[d*3+a]?=(gW l[d])[a]?:=λa B=>by
   have u:(t.toList.take (l.length*3))[d*3+a]?=(gW l[d])[a]?:=by rw[D,aaH l d a q B]
   rw[we,aD (by omega)]at u;rw[<-sR];exact u
  rw[iN];exact⟨Y k (r 0 (by omega)),Y k (r 1 (by omega)),Y k (r 2 (by omega))⟩
theorem agQ:(prog.info? 88).map (λa=>(a.zero.map (·.cells.size),a.size,a.bytes))=some (some 3,3,24):=by kernel_rfl
def BF(d:List gG):Bool:=(List.range d.length).all λa=>(d.getD a (0,0,0)).1==(a:Int)
theorem UW{l:List gG}:BF l=true↔∀k (d:k<l.length),l[k].1=(k:Int):=by
 unfold BF;rw[fg];constructor
 ·intro d k a;have:=d k (dT.2 a);rw[kR,fw a]at this;simpa using this
 ·intro d k a;have a:=dT.1 a;rw[kR,fw a];simpa using d k a
theorem arp{a:List gG}{k:Nat}(l:k<a.length)(hn:a[k].1≠(k:Int)):BF a=false:=by
 cases d:BF a with
 |false=>rfl
 |true=>exact absurd (UW.1 d k l) hn
structure bD where
 dealer:Int
 cs:V
 ps:List gG
def GL(c:ak)(a:bD):Bool:=ct a.dealer 0 63&&(decide (a.ps.length=c.length)&&(fQ c a.cs&&BF a.ps))
def cE(c:ak)(e:V)(a:bD):Int:=
 if bH c e≠0 then bH c e else if GL c a=true then 0 else 360
structure UX(c:ak)(e:V)(a:bD):Prop where
 prog:lU c e
 prog0:bH c e=0
 dealer:0<=a.dealer/\a.dealer<=63
 len:a.ps.length=c.length
 com:LM c e a.cs
 num:∀k (d:k<a.ps.length),a.ps[k].1=(k:Int)
theorem arq{cs:V}(a:bH c e=0)(d:fQ c cs=true):LM c e cs:=
 afy (by rw[Qa a,aD d])
theorem ars{cs:V}(d:LM c e cs):fQ c cs=true:=by
 have a:=LN d;rw[Qa d.prog0]at a;cases k:fQ c cs with
 |true=>rfl
 |false=>rw[k]at a;simp at a
theorem aaJ{k:bD}:cE c e k=0↔UX c e k:=by
 unfold cE;constructor
 ·intro d;by_cases a:bH c e=0
  ·rw[aA (by simp[a])]at d;have s:GL c k=true:=by
    cases u:GL c k with
    |true=>rfl
    |false=>rw[u]at d;simp at d
   unfold GL at s;rw[cu,cu,cu,fU,jo,UW]at s;obtain⟨l,p,q,r⟩:=s;exact⟨fs a,a,l,p,arq a q,r⟩
  ·rw[aD a]at d;exact absurd d a
 ·rintro⟨-,t,l,p,q,r⟩;rw[aA (by simp[t]),aD];unfold GL;rw[jo.2 l,bB p,ars q,UW.2 r];rfl
def BG(c:ak)(a:bD)(row v:Int):Bool:=bm 4 v==CK (c.getD row.toNat []) a.cs
theorem aaK{a:bD}(d:UX c e a){v:Int}(k:0<=row/\row<(a.ps.length:Int))(l:0<=v/\v<1073741789):j9 c e a.cs row v=0:=by
 unfold j9;rw[LN d.com,aA (by simp),aD];rw[CL];have:=d.len;exact⟨⟨k.1,by omega⟩,l⟩
theorem aaL{a:bD}(l:UX c e a){v:Int}(d:0<=row/\row<(a.ps.length:Int))(k:0<=v/\v<1073741789):ke c e a.cs row v=BG c a row v:=by
 unfold ke BG;rw[aD (aaK l d k)]
def eO(a:bD)(row:Int):gG:=a.ps.getD row.toNat (0,0,0)
theorem Qd{a:bD}(k:0<=row/\row<(a.ps.length:Int)):∃d:row.toNat<a.ps.length,eO a row=a.ps[row.toNat]:=by
 have d:row.toNat<a.ps.length:=by omega
 exact⟨d,by unfold eO;rw[kR,fw d];rfl⟩
def tD(c:ak)(e:V)(d:Int)(a:bD)(row:Int):Int:=
 if cE c e a≠0 then cE c e a else if ct d 1 1073741788=false then 110 else if row<0\/(a.ps.length:Int)<=row then 1 else
  CZ d a.dealer (eO a row).1 (eO a row).2.1 (eO a row).2.2
def mkV(d:Int)(a:bD)(row:Int):Int:=tx (bm (eO a row).2.1 d) a.dealer (eO a row).1 (eO a row).2.2
def mkB(c:ak)(e:V)(d:Int)(a:bD)(row:Int):Bool:=tD c e d a row==0&&!BG c a row (mkV d a row)
structure cP where
 dealer:Int
 row:Int
 D:Int
 E:Int
 S:Int
def uB(a:cP):Array Value:=#[.int .i64 a.dealer,.int .i64 a.row,.int .i64 a.D,.int .i64 a.E,.int .i64 a.S]
def Jq(a:cP):Value:=.agg (uB a)
def pB(c:ak)(e:V)(d:Int)(a:bD)(row:Int):cP:=
 if mkB c e d a row=true then ⟨a.dealer,row,bm (eO a row).2.1 d,tw d (eO a row).2.1,yO d (eO a row).2.1⟩ else ⟨0,0,0,0,0⟩
def tE(c:ak)(e:V)(k:Int)(d:bD)(a:cP):Int:=
 if cE c e d≠0 then cE c e d else if a.dealer≠d.dealer\/a.row<0\/(d.ps.length:Int)<=a.row then 360 else
  if yN k (eO d a.row).2.1 a.D a.E a.S=false then 0 else BD a.D d.dealer (eO d a.row).1 (eO d a.row).2.1 (eO d a.row).2.2
def vE(c:ak)(e:V)(k:Int)(d:bD)(a:cP):Int:=
 if tE c e k d a≠0 then 0 else if yN k (eO d a.row).2.1 a.D a.E a.S=false then 2 else
  if BG c d a.row (tx a.D d.dealer (eO d a.row).1 (eO d a.row).2.2)=true then 2 else 1
def agR(b:World)(v:Value)(a:bD):Prop:=∃cv pv,v=.agg #[.int .i64 a.dealer,cv,pv]/\aN a.dealer/\aM b cv a.cs/\ir b pv a.ps
def UY(p k l a d:Int):Bool:=(eA p&&(eA k&&eA l))&&(sw a&&sw d)
theorem art(p k l a d:Int):yN p k l a d=(UY p k l a d&&(a==CY p k l (rE p a d) (sE k l a d))):=by
 unfold yN UY;simp only[Bool.and_assoc]
structure Form(l a d E S:Int):Prop where
 k:El l
 a:El a
 d:El d
 E:0<=E/\E<1073741789
 S:0<=S/\S<1073741789
theorem aru{s a d q r:Int}:UY s a d q r=true↔Form s a d q r:=by
 unfold UY;rw[cu,cu,cu,cu,oU,oU,oU,UG,UG];exact⟨λ⟨⟨a,k,l⟩,d,p⟩=>⟨a,k,l,d,p⟩,λ⟨a,k,l,d,p⟩=>⟨⟨a,k,l⟩,d,p⟩⟩
theorem arv{a:Int}(ha:El a)(f:Int):yN (bm 4 f) a (bm a f) (tw f a) (yO f a)=true:=by
 rw[art,cu,aru];refine⟨⟨fJ fO f,ha,fJ ha f,aao f a,ago f a⟩,?_⟩;have d:rE (bm 4 f) (tw f a) (yO f a)=bm 4 (xh f a):=aoj _ _ _;have k:sE a (bm a f) (tw f a) (yO f a)=bm a (xh f a):=ae9 ha _ _ _;rw[d,k];exact beq_self_eq_true _
def GM(dealer:Int)(g h i:Nat->Int)(a:Nat):gG:=((a:Int),bm 4 (h a),sy (h a) (bm 4 (g a)) dealer (a:Int) (i a))
def tF(c:ak)(a:V)(dealer:Int)(g h i:Nat->Int):bD:=⟨dealer,bt a,(List.range c.length).map (GM dealer g h i)⟩
structure SD(c:ak)(e:V)(f:Int)(j:V)(dealer:Int)(g h i:Nat->Int):Prop where
 ok:dU c e f j
 p0:bH c e=0
 dl:0<=dealer/\dealer<=63
 hs:∀a,a<c.length->1<=g a/\g a<=1073741788
 hu:∀a,a<c.length->1<=h a/\h a<=1073741788
 hv:∀a,a<c.length->0<=i a/\i a<=1073741788
section
variable {c:ak} {e:V} {f:Int} {j:V} {dealer:Int} {g h i:Nat->Int}
theorem Jr:(tF c (f::j) dealer g h i).ps.length=c.length:=by unfold tF;simp
theorem Mj{a:Nat}(d:a<(tF c (f::j) dealer g h i).ps.length):(tF c (f::j) dealer g h i).ps[a]=GM dealer g h i a:=by
 unfold tF;show((List.range c.length).map (GM dealer g h i))[a]'(by rw[Jr]at d;simpa using d)=_;rw[gj,Ct]
theorem agS{a:Nat}(l:a<c.length):eO (tF c (f::j) dealer g h i) (a:Int)=GM dealer g h i a:=by
 obtain⟨k,d⟩:=Qd (a:=tF c (f::j) dealer g h i) (row:=(a:Int)) ⟨by omega,by rw[Jr];omega⟩;rw[d,Mj];rfl
theorem SD.com(a:SD c e f j dealer g h i):UX c e (tF c (f::j) dealer g h i):=
 ⟨a.ok.prog,a.p0,a.dl,Jr,P9 a.ok a.p0,λk d=>by rw[Mj];rfl⟩
theorem SD.cE0(a:SD c e f j dealer g h i):cE c e (tF c (f::j) dealer g h i)=0:=aaJ.2 a.com
theorem SD.right(d:SD c e f j dealer g h i){a:Nat}(k:a<c.length):Jl (a:Int) (bm 4 (h a)) (sy (h a) (bm 4 (g a)) dealer (a:Int) (i a)):=
 ⟨by have:=d.ok.prog.few;omega,fJ fO _,by have:=aau (h a) (bm 4 (g a)) dealer (a:Int) (i a);omega⟩
theorem SD.fit(a:SD c e f j dealer g h i){d:Nat}(l:d<c.length){v:Int}(k:0<=v/\v<1073741789):
  BG c (tF c (f::j) dealer g h i) (d:Int) v=decide (v=cz (c.getD d []) (f::j)):=by
 rw[<-aaL a.com ⟨by omega,by rw[Jr];omega⟩ k];exact(Jn a.ok a.p0 l k).2
theorem SD.open0(d:SD c e f j dealer g h i){p:Nat}(k:p<c.length){a:Int}(l:1<=a/\a<=1073741788):
  tD c e a (tF c (f::j) dealer g h i) (p:Int)=0:=by
 unfold tD;rw[aA (by simp[d.cE0]),aA (by rw[jo.2 l];decide),aA (by rw[Jr];omega),agS k];exact UK.2 ⟨l,d.dl,d.right k⟩
theorem SD.mkV(k:SD c e f j dealer g h i){a:Nat}(d:a<c.length):mkV (g a) (tF c (f::j) dealer g h i) (a:Int)=i a:=by
 unfold Proofs.YtaifagjclanodaaGreatDoor.mkV;rw[agS d];show tx (bm (bm 4 (h a)) (g a)) dealer (a:Int) (sy (h a) (bm 4 (g a)) dealer (a:Int) (i a))=i a;rw[aqP,aqO (k.hv a d)]
theorem SD.mkB(k:SD c e f j dealer g h i){a:Nat}(d:a<c.length):mkB c e (g a) (tF c (f::j) dealer g h i) (a:Int)=!decide (i a=cz (c.getD a []) (f::j)):=by
 unfold Proofs.YtaifagjclanodaaGreatDoor.mkB;rw[k.open0 d (k.hs a d),k.mkV d,k.fit d (by have:=k.hv a d;omega)];rfl
end
def UZ(a:Int):Value:=.iface 219 (.agg #[.int .i64 a])
def Mk(a:Int):List PanicEntry:=[{v:=UZ a,recovered:=false}]
theorem Qe(k:Int)(b:World):
  Calls prog 81 #[true,k] b λa d=>a=.returned (.tuple #[])/\b=d:=by
 go_enter func81,ntmps81;go_wp2;go_end0;exact⟨rfl,rfl⟩
theorem GN(a:Int)(b:World):
  Calls prog 81 #[false,a] b λd k=>d=.panicked (Mk a)/\b=k:=by
 go_enter func81,ntmps81;go_wp2;exact⟨rfl,rfl,rfl⟩
theorem arw(k l:Nat)(f a:Int)(t:List PanicEntry)(b:World)(H:b.cell? (k,l)=f)(K:b.frozen? (k,l)=false)(I:k<b.heap.size):
  CallsD prog 150 #[(k,l)] (.panicking ({v:=UZ a,recovered:=false}::t)) b λx y d =>
   x=.returned (.tuple #[])/\y=.panicking ({v:=UZ a,recovered:=true}::t)/\d=(b.alloc (.cells #[a] 219)).setCell (k,l) a:=by
 unfold UZ;have M:∀b,(Instr.typeAssert (.iface 219 (.agg #[a])) 20 219 true).run prog b=.ok (.tuple #[.agg #[a],true]) b:=λ_=>by kernel_rfl
 have B:Below b b (b.alloc (.cells #[a] 219)):=(aY _ _).alloc (aP _) _;have L:=U B H;obtain⟨r,s⟩:=aK (b.alloc (.cells #[a] 219));have N:r.frozen? (k,l)=false:=by rw[s];simpa [go_sem,I] using K
 have O:r.cell? (b,0)=a:=by rw[s];simp[go_sem]
 rw[<-s]at L ⊢;have F:=A s;clear s B;refine FC func150 rfl λq₀ cs D=>?_;simp only[ntmps150,kS,dZ,je,Nat.reduceAdd,Nat.reduceSub,kU,kV,kW,kX,jf,jn];apply zM;apply zN;simp[wpOpsS,go_sem,recoverD,D,Exit.thenS];generalize C:({fn:=q₀.fn,tmps:=q₀.tmps,todo:=q₀.todo,defers:=q₀.defers,mode:=FrameMode.panicking ({v:=Value.iface 219 (Value.agg #[Value.int IntKind.i64 a]),recovered:=true}::t),kind:=q₀.kind,roundOf:=q₀.roundOf}:Frame)=G;have E:=A (show ∀p d,p.defers=[]->d=r.setCell (k,l) a->bodyPostS prog Tryz.f150 q₀ cs (λx y d=>x=Ending.returned (Value.tuple #[])/\y=FrameMode.panicking ({v:=Value.iface 219 (Value.agg #[Value.int IntKind.i64 a]),recovered:=true}::t)/\d=r.setCell (k,l) a) .normal p (G::cs) d by
  intro p d u w;simp[bodyPostS,results,results150,u,w,<-C])
 clear C D;refine FD ?_;refine wp_mono (Q:=λz p d=>z=.normal/\p.defers=[]/\d=r.setCell (k,l) a) ?_ ?_
 ·go_wp2_with (rw[<-F.1]);all_goals first
   |exact⟨rfl,rfl,rfl⟩
   |trace_state
 ·rintro z p d ⟨rfl,u,w⟩;exact E.1 p d u w
theorem arx(p:Addr)(b:World):
  CallsD prog 150 #[.pointer (some p)] .returning b λd k l=>d=.returned (.tuple #[])/\k=.returning/\l=b:=by
 refine FC func150 rfl λq₀ cs a=>?_;apply zM;apply zN;simp[wpOpsS,go_sem,recoverD,a,ntmps150,Exit.thenS];apply zM;apply zN;simp[wpOpsS,go_sem,Exit.thenS];refine wpS_cond (t:=false) (by simp[Act.eval,Array.replicate]) ?_;simp only[FE,Ck];refine FD (wp_skip ?_);cases q₀;simp_all[bodyPostS,results,results150]
def Ml(a:Int):Ending:=if a=0 then .returned (.tuple #[]) else .panicked (Mk a)
theorem Js{a:Int}(d:a=0):Ml a=.returned (.tuple #[]):=by rw[Ml,aD d]
theorem Jt{a:Int}(d:a≠0):Ml a=.panicked (Mk a):=by rw[Ml,aA d]
theorem aaM(f:Int)(b:World):
  Calls prog 82 #[f,(0:Int)] b λa d=>a=.returned f/\b=d:=by
 go_enter func82,ntmps82;go_wp2_with fail;go_ret;exact⟨rfl,rfl⟩
theorem aaN(f a:Int)(b:World)(d:a≠0):
  Calls prog 82 #[f,a] b λk l=>k=.panicked (Mk a)/\b=l:=by
 have p:(a !=0)=true:=jg.2 d;go_enter func82,ntmps82;go_wp2_with fail;exact⟨rfl,rfl,rfl⟩
theorem U0(f:Bool)(b:World):
  Calls prog 84 #[.bool f,(0:Int)] b λa d=>a=.returned f/\b=d:=by
 go_enter func84,ntmps84;go_wp2_with fail;go_ret;exact⟨rfl,rfl⟩
structure Mm(n:Nat)(k:Int->World->Prop)(l:Ending)(a:World):Prop where
 ex:∃d,l=Ml d/\k d a
 box:a.heap[n]?=QC.mk #[(0:Int)] 29
structure aaO(n:Nat)(o d:World):Prop where
 lt:n<o.heap.size
 below:∀a l,a<=n->Below a l o->Below a l d
 block:∀k,k≠n->k<o.heap.size->d.heap[k]?=o.heap[k]?
def ary(n:Nat)(d:Int->World->Prop)(k:Ending)(l:World):Prop:=
 ∃a o,k=.returned (.int .i64 a)/\d a o/\aaO n o l
theorem arz(l:n<o.heap.size)(v:Value):aaO n o (o.setCell (n,0) v):=
 ⟨l,λ_ _ a d=>d.setCell a v,λ_ k _=>dJ _ _ _ _ k⟩
theorem arA(d:n<o.heap.size)(k:Obj)(v:Value):aaO n o ((o.alloc k).setCell (n,0) v):=
 ⟨d,λ_ _ a l=>(l.alloc (bK a (gQ d)) k).setCell a v,λ_ p q=>(dJ _ _ _ _ p).trans (xU _ _ _ q)⟩
theorem agT(d:FuncId)(m:Array Value)(b:World)(s:Int->World->Prop)(r:eQ prog d)
  (t:Calls prog d m (b.alloc (.cells #[(0:Int)] 29)) (Mm b.heap.size s)):
  Calls prog 78 #[.func (.func d) #[] m] b (ary b.heap.size s):=by
 have D:∀(args:Array Value) (b:World),(callFunc d args).run prog b=.ok (.enter d args) b:=r;have x:=A t;clear t r;go_enter_defers func78,ntmps78;go_wp2_with fail;refine x.1.mono ?_;rintro B o ⟨⟨a,rfl,u⟩,l⟩;have k:=bG l;have q:=Y l (k:=0) rfl;have z:=cB l 0;by_cases w:a=0
 ·subst w;rw[Js rfl];go_wp2_with fail;refine sQ (f:=150) (args:=#[(b,0)]) (by simp) (by simp[go_sem]) ?_;refine(arx _ _).mono ?_;rintro a C y ⟨rfl,rfl,rfl⟩;have p:=jL o (b,0) (0:Int) (by rw[q];rfl);simp[Leaves,settle,results,results78,go_sem,p];exact⟨0,o,rfl,u,arz k _⟩
 ·rw[Jt w];refine sQ (f:=150) (args:=#[(b,0)]) (by simp) (by simp[go_sem]) ?_;refine(arw b.heap.size 0 0 a [] _ q z k).mono ?_;rintro B C y ⟨rfl,rfl,rfl⟩;have p:((o.alloc (.cells #[a] 219)).setCell (b,0) a).cell? (b,0)=a:=
   jL _ _ _ (by rw[U (bk o _ _) q];rfl)
  simp[Leaves,settle,results,results78,go_sem,p];exact⟨a,o,rfl,u,arA k _ _⟩
theorem arB:eQ prog 151:=iw func151 (by kernel_rfl) rfl
theorem arC:eQ prog 152:=iw func152 (by kernel_rfl) rfl
theorem arD:eQ prog 153:=iw func153 (by kernel_rfl) rfl
theorem arE:eQ prog 154:=iw func154 (by kernel_rfl) rfl
theorem arF(d:Nat)(n:Int)(b:World)(r:b.cell? (d,0)=n):
  Calls prog 151 #[(d,0)] b λp l=>p=.returned (.bool (ct n 0 63))/\Below b b l:=by
 by_cases k:0<=n
 ·have a:=A (show ct n 0 63=decide (n<64) by unfold ct;rw[bB k,jY];exact N7.2 ⟨λq=>by omega,λq=>by omega⟩);go_enter func151,ntmps151;go_wp2_with fail;go_ret;exact⟨cg a.1.symm,aY _ _⟩
 ·have a:=A (show ct n 0 63=false by unfold ct;rw[bw k,uP]);go_enter func151,ntmps151;go_wp2_with fail;go_ret;exact⟨cg a.1.symm,aY _ _⟩
theorem arG(l p:Nat)(s t:Option Addr)(a d u w:Nat)(b:World)(z:b.cell? (l,2)=some (.slice s a u))(B:b.cell? (p,0)=some (.slice t d w)):
  Calls prog 152 #[(l,0),(p,0)] b λy x=>y=.returned (.bool (decide (a=d)))/\Below b b x:=by
 have q:=A (show((a:Int)==(d:Int))=decide (a=d) by
  by_cases k:a=d
  ·rw[k];simp
  ·rw[bw k];exact eH.2 (by omega))
 have r:=A (show(a==d)=decide (a=d) by
  by_cases k:a=d
  ·rw[k];simp
  ·rw[bw k];exact eH.2 k)
 go_enter func152,ntmps152;go_wp2_with fail;go_ret;exact⟨cg (by first|exact r.1|exact q.1),aY _ _⟩
theorem arH(r p:Nat)(q l cv:Value)(c:ak)(e cs:V)(b:World)(s:bH c e=0)(L:b.cell? (p,0)=some q)(M:b.cell? (p,1)=some l)(N:b.cell? (r,1)=some cv)
  (k:bI b q c) (d:aM b l e) (a:aM b cv cs):
  Calls prog 153 #[(p,0),(r,0)] b λt G=>t=.returned (.bool (fQ c cs))/\Below b b G:=by
 have w:Hid ((iQ c e cs (-1)==1)=fQ c cs):=A (by
  unfold iQ;rw[Qa s];cases fQ c cs<;>simp)
 obtain⟨y,z,x,u⟩:=cY (λB C D E=>T9 q l cv c e cs (-1) B C D E (aN.mk (by omega) (by omega))) k d a;obtain⟨H,O,rfl,-⟩:=id k;obtain⟨I,P,rfl,-⟩:=id d;obtain⟨K,Q,rfl,-⟩:=id a;generalize iQ c e cs (-1)=t at *;generalize pZ c e cs (-1)=f at *;clear k d a s;go_enter func153,ntmps153;go_wp2_with fail;refine(y.1 _ z.1 x.1 u.1).mono ?_;rintro R o ⟨rfl,F⟩;go_wp2_with fail;go_ret;exact⟨cg w.1,F⟩
theorem arI(C:Nat)(pv:Value)(d:List gG)(b:World)(R:b.cell? (C,2)=some pv)(N:ir b pv d):
  Calls prog 154 #[(C,0)] b λu P=>u=.returned (.bool (BF d))/\Below b b P:=by
 obtain⟨Q,m,rfl,X,W,O,D⟩:=N;have K:=A D;clear D O;go_enter func154,ntmps154;go_wp2_with fail;go_loopw[2,3,7] (λ_ _ w wr=>∃a:Nat,a<=d.length/\w=a/\Hid (∀k (q:k<d.length),k<a->d[k].1=(k:Int))/\Below b b wr) (λ_ _ w _=>d.length-(intOf w).toNat);case atStart=>exact⟨0,bS _,rfl,A (λk _ q=>absurd q (fG k)),aY _ _⟩
 case round =>
  obtain⟨a,T,rfl,x,p⟩:=hrel;by_cases z:a<d.length
  ·obtain⟨z0z,Z,rfl,E,F,G⟩:=K.1 a z;have y1:=U p E;have y2:=U p F;have y3:=U p G;obtain⟨l,L⟩:=aR p z;generalize M:d[a].2.1=z2 at *;generalize I:d[a].2.2=z3 at *;generalize B:d[a].1=H at *;have y:=A B.symm;clear B M I E F G p;by_cases r:H=(a:Int)
   ·subst r;go_wp2_with fail;go_roundw;case rel=>exact⟨a+1,by omega,by go_num,A (λk t q=>by
     by_cases u:k=a
     ·subst u;exact y.1.symm
     ·exact x.1 k t (by omega)),by repeat (first|exact l.1|refine zR ?_ l.1.size _|refine tZ ?_ l.1.size _)⟩
    case measure=>simp[intOf];omega
   ·have s:Hid (BF d=false):=A (arp L.1 (λq=>r (y.1.trans q)));have S:(H !=(a:Int))=true:=jg.2 r;clear r;go_wp2_with fail;go_ret;exact⟨cg s.1.symm,by repeat (first|exact l.1|refine zR ?_ l.1.size _|refine tZ ?_ l.1.size _)⟩
  ·have s:Hid (BF d=true):=A (UW.2 (λk t=>x.1 k t (by omega)));go_wp2_with fail;go_ret;exact⟨cg s.1.symm,p⟩
theorem C4(b:World)(d l p:Value)(k:TypeId):∃a,a=b.alloc (.cells #[d,l,p] k)/\Below b b a/\a.heap[b.heap.size]?=QC.mk #[d,l,p] k/\a.heap.size=b.heap.size+1:=
 ⟨_,rfl,bk _ _ _,World.alloc_heap_new _ _,by simp⟩
def Ar(b:World)(d:FuncId)(m:Array Value)(l:Bool):Prop:=
 eQ prog d/\∀a,Below b.heap.size b a->Calls prog d m a λp k=>p=.returned (.bool l)/\Below a.heap.size a k
theorem Ar.below{w':World}{d:FuncId}{a:Bool}(k:Ar b d m a)(q:Below b b w'):Ar w' d m a:=
 ⟨k.1,λl p=>k.2 l (ar q p)⟩
def arJ(b:World)(k:Nat)(cs:List Bool):Prop:=∀a (l:a<cs.length),∃d m,b.cell? ⟨k,a,none⟩=some (.func (.func d) #[] m)/\Ar b d m cs[a]
theorem arK(b:World)(w:TypeId){d k l p:FuncId}{r a q s:Array Value}{x y z B:Bool}(C:Ar b d r x)(D:Ar b k a y)(E:Ar b l q z)(F:Ar b p s B):
  arJ (b.alloc (.cells #[.func (.func d) #[] r,.func (.func k) #[] a,.func (.func l) #[] q,.func (.func p) #[] s] w)) b.heap.size [x,y,z,B]:=by
 have u:=World.alloc_heap_new b (.cells #[.func (.func d) #[] r,.func (.func k) #[] a,.func (.func l) #[] q,.func (.func p) #[] s] w);have t:=bk b #[.func (.func d) #[] r,.func (.func k) #[] a,.func (.func l) #[] q,.func (.func p) #[] s] w;intro H G
 match H,G with
 |0,_=>exact⟨d,r,Y u rfl,C.below t⟩
 |1,_=>exact⟨k,a,Y u rfl,D.below t⟩
 |2,_=>exact⟨l,q,Y u rfl,E.below t⟩
 |3,_=>exact⟨p,s,Y u rfl,F.below t⟩
theorem arL{a:bD}:GL c a=[ct a.dealer 0 63,decide (a.ps.length=c.length),fQ c a.cs,BF a.ps].all id:=by
 unfold GL;simp
theorem arM{k:Nat}(a:k<cs.length)(l:cs[k]=false):cs.all id=false:=by
 cases d:cs.all id with
 |false=>rfl
 |true=>have:=fg.1 d _ (bM a);rw[l]at this;cases this
theorem arN(l:∀a (d:a<cs.length),cs[a]=true):cs.all id=true:=
 fg.2 λf k=>by obtain⟨a,d,rfl⟩:=Cs k;exact l a d
theorem agU(rv X cv pv:Value)(c:ak)(e:V)(a:bD)(b:World)(W:bI b rv c)(S:aM b X e)(R:aM b cv a.cs)(T:ir b pv a.ps):
  Calls prog 80 #[.agg #[rv,X],.agg #[a.dealer,cv,pv]] b λr s=>r=Ml (cE c e a)/\Below b b s:=by
 obtain⟨W0,N,bO,cF,Q⟩:=ee b rv X 25;have Q:W0.heap.size=b.heap.size+1:=by rw[N];simp
 obtain⟨W1,I,M,K,bX⟩:=C4 W0 a.dealer cv pv 84;have p:Below b b W1:=ar bO M;have w:=A (az M cF);rw[Q]at K;obtain⟨x,F,E,G,H⟩:=gw K (W.below p) (S.below p) (R.below p) (T.below p);obtain⟨a1,k1,rfl,-,eI,-⟩:=id W;obtain⟨a2,k2,rfl,-,dR,-⟩:=id S;obtain⟨a3,k3,rfl,-,gC,-⟩:=id R;obtain⟨a4,k4,rfl,-,fj,-⟩:=id T;rw[N]at I;obtain⟨bp,B⟩:=aR I p;clear W S R T p bO M cF K N I Q bX;obtain⟨c0,c1⟩:=ez w.1;go_enter func80,ntmps80;go_wp2_with (rw[<-bp.1]);with_reducible refine(sW _ _ c e _ F.1 E.1).mono ?_
 rintro r u ⟨rfl,t⟩;obtain⟨F,E,G,H,w,x,B⟩:=qy (F.1.below t) (E.1.below t) (G.1.below t) (H.1.below t) (az t w.1) (az t x.1) (ar B.1 t);clear t c0 c1;by_cases k:bH c e=0;rotate_left
 ·have y:Hid (cE c e a=bH c e):=A (by unfold cE;rw[aD k]);have ES:=A k;clear k;generalize bH c e=z1 at *;go_wp2_with fail;with_reducible refine(aaN 0 z1 _ ES.1).mono ?_
  rintro r w3 ⟨rfl,rfl⟩;go_wp2_with fail;exact⟨rfl,by rw[y.1,Jt ES.1],B.1⟩
 have C:Hid (cE c e a=if GL c a=true then 0 else 360):=A (by unfold cE;rw[aA (by simp[k])]);have HPZ:=A k;rw[k];clear k;go_wp2_with fail;with_reducible refine(aaM 0 _).mono ?_
 rintro r w3 ⟨rfl,rfl⟩;have h1:Ar u 151 #[(b.heap.size+1,0)] (ct a.dealer 0 63):=⟨arB,λs d=>arF _ _ s (U d (Y x.1 rfl))⟩;have h2:Ar u 152 #[(b.heap.size+1,0),(b,0)] (decide (a.ps.length=c.length)):=⟨arC,λs d=>arG _ _ _ _ _ _ _ _ s (U d (Y x.1 rfl)) (U d (Y w.1 rfl))⟩;have h3:Ar u 153 #[(b,0),(b.heap.size+1,0)] (fQ c a.cs):=⟨arD,λs d=>arH _ _ _ _ _ c e a.cs s HPZ.1 (U d (Y w.1 rfl)) (U d (Y w.1 rfl)) (U d (Y x.1 rfl)) (F.1.below d) (E.1.below d) (G.1.below d)⟩;have h4:Ar u 154 #[(b.heap.size+1,0)] (BF a.ps):=⟨arE,λs d=>arI _ _ _ s (U d (Y x.1 rfl)) (H.1.below d)⟩;have HL:=A (arK u 173 h1 h2 h3 h4);rw[arL]at C;obtain⟨cs,P⟩:∃cs,cs=[ct a.dealer 0 63,decide (a.ps.length=c.length),fQ c a.cs,BF a.ps]:=⟨_,rfl⟩;have fj:cs.length=4:=by rw[P];rfl
 rw[<-P]at C HL;obtain⟨z2,hB⟩:=aK u.heap.size;have yS:=A (bk u #[.func (.func 151) #[] #[(b.heap.size+1,0)],.func (.func 152) #[] #[(b.heap.size+1,0),(b,0)],.func (.func 153) #[] #[(b,0),(b.heap.size+1,0)],.func (.func 154) #[] #[(b.heap.size+1,0)]] 173);clear h1 h2 h3 h4 P;go_wp2_with fail;generalize hWA:u.alloc (.cells #[.func (.func 151) #[] #[(b.heap.size+1,0)],.func (.func 152) #[] #[(b.heap.size+1,0),(b,0)],.func (.func 153) #[] #[(b,0),(b.heap.size+1,0)],.func (.func 154) #[] #[(b.heap.size+1,0)]] 173)=WA at *;have O:=A (ar B.1 yS.1);clear hWA;go_loopw[5,15] (λ_ z3z z0=>∃q:Nat,q<=4/\z3z=q/\Hid (∀l (z:l<cs.length),l<q->cs[l]=true)/\Below WA WA z0) (λ_ z3z _=>4-(intOf z3z).toNat);case atStart=>exact⟨0,bS _,rfl,A (λl _ z2z=>absurd z2z (fG l)),aY _ _⟩
 case round =>
  obtain⟨q,dg,rfl,HK,p⟩:=hrel;by_cases aq:q<4
  ·obtain⟨z1z,m,q1,Z⟩:=HL.1 q (by omega);have c0:=U p q1;have D:=A (Z.2 _ p);have FR:∀(args:Array Value) (b:World),(callFunc z1z args).run prog b=.ok (.enter z1z args) b:=Z.1;have gp:=A p;clear q1 Z p;have i4:(q:Int)<4:=by omega
   cases k:cs[q]'(by omega) with
   |true =>
    rw[k]at D;have HN:=A (show ∀l (z:l<cs.length),l<q+1->cs[l]=true from λl z z2z=>by
     by_cases r:l=q
     ·subst r;exact k
     ·exact HK.1 l z (by omega))
    clear k;go_wp2_with fail;refine D.1.mono ?_;rintro r w3 ⟨rfl,L⟩;go_wp2_with fail;refine(Qe _ _).mono ?_;rintro r w4 ⟨rfl,rfl⟩;go_wp2_with fail;go_roundw;case rel=>exact⟨q+1,by omega,by go_num,HN,ar gp.1 L⟩
    case measure=>simp[intOf];omega
   |false =>
    rw[k]at D;have y:=A (C.1.trans (aA (by rw[arM (by omega) k];decide)));clear k;go_wp2_with fail;refine D.1.mono ?_;rintro r w3 ⟨rfl,L⟩;go_wp2_with fail;refine(GN _ _).mono ?_;rintro r w4 ⟨rfl,rfl⟩;go_wp2_with fail;exact⟨rfl,by rw[y.1,Jt (by decide)],O.1.trans ((ar gp.1 L).mono O.1.size)⟩
  ·have y:=A (C.1.trans (aD (arN (λl z=>HK.1 l z (by omega)))));go_wp2_with fail;go_end0;exact⟨by rw[y.1,Js rfl],ar O.1 p⟩
