/- A statement whose order of evaluation is left open: where its operations read, compute and call, and. -/
import Derived.Test.YtaifagjclanodaaGreatDoorMBase
import Derived.OrdersIn
import Derived.Still
import Derived.Deep.RegionHeld3
import Derived.OrdersHeld
set_option maxHeartbeats 1000000
set_option maxRecDepth 100000
namespace Go.Proofs.YtaifagjclanodaaGreatDoor
open Go.Proofs.Tryz
open Go.RowKit
variable{c:Act}{g:Array Bool}{d:Array Oper}{v:Fence}{B:List Oper}{i a b F C w k o n:Nat}{e:Oper}{h:Program}{K L G I f:World}
def wB(h:Program)(x:World->Prop)(y:Value):Result Next->Prop
 |.ok (.value H) q=>x q/\H=y
 |.ok .skip q=>x q/\y=undef
 |.ok (.enter E args) q=>Calls h E args q (λD z=>D=.returned y/\x z)
 |_=>False
def DQ(h:Program)(d:Array Oper)(q:World->Prop)(x:Act->Prop):List Oper->Act->Prop
 |[],c=>x c
 |e::B,c=>if Region.wanted e (yielded d c.tmps) then ∃y,(∀f,q f->wB h q y ((execOp c.eval e).run h f))/\DQ h d q x B (c.put e.dst y) else DQ h d q x B (c.put e.dst undef)
def nO(d:Array Oper)(b:Nat):Option Tmp:=(d[b]?).bind (·.dst)
def putAt(d:Array Oper)(q:Nat->Value)(x:Nat->Bool):Nat->Act->Act
 |0,c=>c
 |a+1,c=>if x a then (putAt d q x a c).put (nO d a) (q a) else putAt d q x a c
theorem XG(c:Act)(r:Option Tmp)(x:Value)(j:Nat):(c.put r x).tmps[j]?=if r=some j then (if j<c.tmps.size then some x else none) else c.tmps[j]?:=by
 cases r with
 |none=>simp[Act.put]
 |some r =>
  simp only[Act.put,Array.getElem?_setIfInBounds,tX];by_cases q:r=j
  ·subst q;simp
  ·simp[q]
theorem akL(c:Act)(r:Option Tmp)(q:Value):(c.put r q).tmps.size=c.tmps.size:=by cases r<;>simp[Act.put]
theorem Ta(d:Array Oper)(q:Nat->Value)(x:Nat->Bool)(c:Act):∀a,(putAt d q x a c).tmps.size=c.tmps.size
 |0=>rfl
 |a+1=>by
  unfold putAt;split
  ·rw[akL,Ta d q x c a]
  ·exact Ta d q x c a
theorem XH(d:Array Oper)(x:Nat->Value)(D z:Nat->Bool)(c:Act)(j:Nat):∀a,(∀q,q<a->nO d q=some j->D q=z q)->(putAt d x D a c).tmps[j]?=(putAt d x z a c).tmps[j]?
 |0,_=>rfl
 |a+1,H=>by
  have N:=XH d x D z c j a (λq P=>H q (by omega));by_cases y:nO d a=some j
  ·have O:=H a (by omega) y;unfold putAt;rw[O];split
   ·rw[XG,XG,aD y,aD y,Ta,Ta]
   ·exact N
  ·have m:∀E:Nat->Bool,(putAt d x E (a+1) c).tmps[j]?=(putAt d x E a c).tmps[j]?:=λE=>by
    conv=>lhs;unfold putAt
    split
    ·rw[XG,aA y]
    ·rfl
   rw[m,m];exact N
theorem FU(d:Array Oper)(y:Nat->Value)(z x:Nat->Bool)(c:Act):∀a,(∀q,q<a->z q=x q)->putAt d y z a c=putAt d y x a c
 |0,_=>rfl
 |a+1,D=>by unfold putAt;rw[D a (by omega),FU d y z x c a (λq E=>D q (by omega))]
theorem Oo(d:Array Oper)(y:Nat->Value)(x:Nat->Bool)(c:Act)(b:Nat)(E:x b=false):∀a,b<a->(∀q,b<q->q<a->∀r,nO d b=some r->nO d q≠some r) ->
  (putAt d y x a c).put (nO d b) (y b)=putAt d y (λq=>q==b||x q) a c
 |0,O,_=>absurd O (fG _)
 |a+1,O,H=>by
  by_cases Q:b=a
  ·subst Q;have:putAt d y (λq=>q==b||x q) b c=putAt d y x b c:=FU _ _ _ _ _ _ (λq S=>by simp;omega);unfold putAt;rw[this,E];simp
  ·have P:=Oo d y x c b E a (by omega) (λq z D=>H q z (by omega));have N:(a==b)=false:=by simp;omega
   unfold putAt;cases R:x a
   ·simp only[N,Bool.or_self,FE,Ck];exact P
   ·simp only[N,N0,if_true];rw[<-P];exact Act.put_comm _ _ _ (λr z D=>H a (by omega) (by omega) r D z)
def Lf(d:Array Oper)(a:Nat):Bool:=
 (List.range d.size).all (λb=>((d[b]?).map λe =>
  e.after.all (λx=>!Region.binds .any x||decide (x.on<b)) &&
  (match e.op with|.select ..=>false|.defer _=>false|_=>true) &&
  (e.looksAt d).all λj=>(List.range a).all λq=>nO d q !=some j||(decide (q<b)&&e.after.any λx=>Region.binds .any x&&x.on==q)).getD true) &&
 (List.range a).all (λb=>(List.range a).all λq=>!decide (b<q)||nO d b==none||nO d b !=nO d q) &&
 (d.size==a||(d.size==a+1&&(List.range a).all λb=>(List.range (a+1)).any λq=>decide (b<q)&&((d[q]?).map λe=>e.after.any λx=>Region.binds .any x&&x.on==b).getD false))
theorem akM(e:Oper){j q:Array Value}(a:∀x∈e.looksAt d,j[x]?=q[x]?):Region.wanted e (yielded d j)=Region.wanted e (yielded d q):=by
 unfold Region.wanted;cases z:e.guard with
 |none=>rfl
 |some p =>
  obtain⟨m,D⟩:=p;simp only;have:yielded d j m=yielded d q m:=by
   unfold yielded;cases y:(d[m]?).bind (·.dst) with
   |none=>rfl
   |some r =>
    have:=a r (by unfold Oper.looksAt;rw[z];simp[y]);simp only[Option.bind_some,this]
  rw[this]
theorem acR(e:Oper)(z:∀y E,e.op≠.select y E){x:Act}(a:∀q∈e.looksAt d,c.tmps[q]?=x.tmps[q]?):execOp c.eval e=execOp x.eval e:=
 execOp_congr e z λq D=>by
  cases q with
  |tmp j =>
   have:=a j (by unfold Oper.looksAt;exact KM _ (List.mem_filterMap.2 ⟨.tmp j,by simpa using D,rfl⟩));simp only[Act.eval,gi,this]
  |_=>rfl
def sS(g:Array Bool):Nat->Nat
 |0=>0
 |k+1=>sS g k+(if g.getD k false then 0 else 1)
theorem XI(y:b<g.size)(z:g.getD b false=false):∀k,sS (g.setIfInBounds b true) k+(if b<k then 1 else 0)=sS g k
 |0=>by simp[sS]
 |k+1=>by
  have x:=XI y z k;unfold sS;by_cases D:b=k
  ·subst D;have E:(g.setIfInBounds b true).getD b false=true:=by simp[y]
   rw[E,z];simp at x ⊢;omega
  ·rw[zO false D];by_cases a:b<k
   ·have q:b<k+1:=by omega
    simp only[a,if_true]at x;simp only[q,if_true];omega
   ·have q:¬ b<k+1:=by omega
    simp only[a,Ck]at x;simp only[q,Ck];omega
theorem XK:∀k,sS g k=0->∀b,b<k->g.getD b false=true
 |0,_,b,q=>absurd q (fG _)
 |k+1,a,b,q=>by
  unfold sS at a;by_cases y:b=k
  ·subst y;cases x:g.getD b false
   ·rw[x]at a;simp at a
   ·rfl
  ·exact XK k (by omega) b (by omega)
theorem XL(n:Nat):∀k,sS (Array.replicate n false) k=k
 |0=>rfl
 |k+1=>by
  unfold sS;rw[XL n k];have:(Array.replicate n false).getD k false=false:=by
   rw[gi,Hu];split<;>rfl
  rw[this];rfl
theorem XM{z:World->Prop}{R:Act->Prop}:∀(P:List Oper) (c:Act),DQ h d z R P c ->
  ∃y:Nat->Value,∃q:Nat->Act,q 0=c/\R (q P.length)/\∀b e,P[b]?=some e->q (b+1)=(q b).put e.dst (y b) /\
   (if Region.wanted e (yielded d (q b).tmps) then ∀f,z f->wB h z (y b) ((execOp (q b).eval e).run h f) else y b=undef)
 |[],c,a=>⟨λ_=>undef,λ_=>c,rfl,a,λb e x=>by simp at x⟩
 |e::B,c,a=>by
  unfold DQ at a;by_cases D:Region.wanted e (yielded d c.tmps)=true
  ·rw[aD D]at a;obtain⟨Q,T,S⟩:=a;obtain⟨y,q,E,H,N⟩:=XM B _ S;refine⟨λb=>b.casesOn Q y,λb=>b.casesOn c q,rfl,H,λb O x=>?_⟩;cases b with
   |zero=>simp at x;subst x;exact⟨E,by show(if Region.wanted e (yielded d c.tmps) then ∀f,z f->wB h z Q ((execOp c.eval e).run h f) else Q=undef);rw[aD D];exact T⟩
   |succ b=>exact N b O (by simpa using x)
  ·rw[aA D]at a;obtain⟨y,q,E,H,N⟩:=XM B _ a;refine⟨λb=>b.casesOn undef y,λb=>b.casesOn c q,rfl,H,λb O x=>?_⟩;cases b with
   |zero=>simp at x;subst x;exact⟨E,by show(if Region.wanted e (yielded d c.tmps) then ∀f,z f->wB h z undef ((execOp c.eval e).run h f) else undef=undef);rw[aA D]⟩
   |succ b=>exact N b O (by simpa using x)
theorem akN{id:Nat}{l:Exit->Act->World->Prop}(a:Nat)
  (hF:∀P,v.fn P) (hd:v.depth=none) (XN:∀(P:FuncId) (args:Array Value) (f:World) (z1:Ending->World->Prop),Calls h P args f z1->CallsIn v (o-1) h P args f z1)
  (hm:h.follows .mixedOrders=true) (hB:Lf d a=true) (z0z:World->Prop) (hC:z0z {f with drawn:=f.drawn+1})
  (Ip:DQ h d z0z (λX=>if d.size=a then ∀O,z0z O->l .normal X O else
   ∀e,d[a]?=some e->∀O,z0z O->if Region.wanted e (yielded d X.tmps) then e.uponIn v o h X (λXO S=>l .normal XO S) l ((execOp X.eval e).run h O) else l .normal (X.put e.dst undef) O) (d.toList.take a) c):
  (Code.region id d true).wpIn v o h l c f:=by
 obtain⟨N,Z,Oq,hK,hs⟩:=XM _ _ Ip;unfold Lf at hB;simp only[cu]at hB;obtain⟨⟨XP,rJ⟩,Lg⟩:=hB;have hle:a<=d.size:=by
  simp only[KN,gI,cu]at Lg;rcases Lg with q|q<;>omega
 have hlen:(d.toList.take a).length=a:=by simp;omega
 rw[hlen]at hK;have fk:∀b,b<a->∀e,d[b]?=some e->(d.toList.take a)[b]?=some e:=λb R e D=>by
  rw[we,aD R];simpa using D
 have look:∀b e,d[b]?=some e->(∀q∈e.after,Region.binds .any q=true->q.on<b)/\(∀cs z1z,e.op≠.select cs z1z)/\(∀i,e.op≠.defer i) /\
   ∀j∈e.looksAt d,∀x,x<a->nO d x=some j->x<b/\∃q∈e.after,Region.binds .any q=true/\q.on=x:=by
  intro b e D;have R:b<d.size:=(fF.1 D).1;have z:=fg.1 XP b (dT.2 R);rw[D]at z;simp only[N1,Cl,cu,Xn,fg]at z;obtain⟨⟨z,W⟩,h3⟩:=z;refine⟨λq E Q=>?_,(λcs z1z q=>by rw[q]at W;cases W),(λi q=>by rw[q]at W;cases W),λj ht x H oK=>?_⟩
  ·have:=z q E;rw[Q]at this;simpa using this
  ·have:=h3 j ht x (dT.2 H);rw[oK]at this;simp only[FF,DB,cu,fU,KO]at this;obtain⟨h4,k,y,h5⟩:=this;simp only[gI]at h5;exact⟨h4,_,Hv y,h5.1,h5.2⟩
 have Lh:∀b,b<=a->Z b=putAt d N (λx=>decide (x<b)) a c:=by
  intro b
  induction b with
  |zero =>
   intro _;rw[Oq];have:∀k,putAt d N (λx=>decide (x<0)) k c=c:=λk=>by
    induction k with
    |zero=>rfl
    |succ k ih=>unfold putAt;simpa using ih
   rw[this]
  |succ b ih =>
   intro R;obtain⟨e,D⟩:∃e,d[b]?=some e:=⟨d[b],lM (by omega)⟩;rw[(hs b e (fk b (by omega) e D)).1,ih (by omega)];have A8:e.dst=nO d b:=by unfold nO;rw[D];rfl
   rw[A8,Oo d N _ c b (by simp) a (by omega) (λx z W r rK ym=>by
    have:=fg.1 (fg.1 rJ b (dT.2 (by omega))) x (dT.2 W);rw[rK,ym]at this;simp[z]at this)]
   exact FU _ _ _ _ _ _ (λx _=>by
    by_cases q:x=b
    ·subst q;simp
    ·have:(decide (x<b+1))=decide (x<b):=by simp;omega
     simp[q,this])
 have main:∀(T:Nat) (g:Array Bool) (O:World),g.size=d.size->sS g d.size=T ->
   (∀x oj,d[x]?=some oj->g.getD x false=true->∀q∈oj.after,Region.binds .any q=true->g.getD q.on false=true) ->
   (d.size=a\/g.getD a false=false)->z0z O->wpAnyIn v o h .any d l T g (putAt d N (λx=>g.getD x false) a c) O:=by
  intro T
  induction T with
  |zero =>
   intro g O dh Iq _ FV hw;have et:=XK _ Iq;have hn:d.size=a:=by
    rcases FV with q|q
    ·exact q
    ·by_cases e':d.size=a
     ·exact e'
     ·rw[et a (by omega)]at q;cases q
   refine⟨?_,?_⟩
   ·cases hr:Region.ready .any d g with
    |nil=>rfl
    |cons b z5z =>
     have R:b∈Region.ready .any d g:=by rw[hr];simp
     obtain⟨z,e,D,-⟩:=xW.1 R;have iF:b<d.size:=(fF.1 D).1;have:=et b iF;rw[gi,lM (by omega)]at z this;simp at z this;rw[z]at this;cases this
   ·have q:putAt d N (λx=>g.getD x false) a c=Z a:=by
     rw[Lh a (aP _)];exact FU _ _ _ _ _ _ (λx H=>by rw[et x (by omega)];simp[H])
    rw[q];rw[aD hn]at hK;exact hK _ hw
  |succ T ih =>
   intro g O dh Iq bT FV hw;refine⟨λhr=>?_,λb R=>?_⟩
   ·exfalso;have et:∀b,b<d.size->g.getD b false=true:=by
     intro b
     induction b using Nat.strongRecOn with
     |_ b XQ =>
      intro R;cases hc:g.getD b false
      ·have:b∈Region.ready .any d g:=xW.2 ⟨by
        rw[gi,lM (by omega)]at hc ⊢;simpa using hc,d[b],lM R,λq E Q =>
         XQ q.on ((look b _ (lM R)).1 q E Q) (by have:=(look b _ (lM R)).1 q E Q;omega)⟩
       rw[hr]at this;cases this
      ·rfl
    have:∀k,k<=d.size->sS g k=0:=by
     intro k
     induction k with
     |zero=>intro _;rfl
     |succ k XR=>intro y;unfold sS;rw[XR (by omega),et k (by omega)];rfl
    rw[this _ (aP _)]at Iq;omega
   ·obtain⟨z,e,D,yp⟩:=xW.1 R;have iF:b<d.size:=(fF.1 D).1;have hu:g.getD b false=false:=by
     rw[gi,lM (by omega)]at z ⊢;simpa using z
    obtain⟨akO,Li,Tb,XS⟩:=look b e D;have XT:sS (g.setIfInBounds b true) d.size=T:=by
     have:=XI (by omega:b<g.size) hu d.size;rw[aD iF]at this;omega
    have XU:∀x oj,d[x]?=some oj->(g.setIfInBounds b true).getD x false=true->∀q∈oj.after,Region.binds .any q=true->(g.setIfInBounds b true).getD q.on false=true:=by
     have up:∀k,g.getD k false=true->(g.setIfInBounds b true).getD k false=true:=λk y=>by
      by_cases q:b=k
      ·subst q;rw[hu]at y;cases y
      ·rw[zO false q];exact y
     intro x oj rM H q E Q;by_cases e':b=x
     ·subst e';rw[D]at rM;cases rM;exact up _ (yp q E Q)
     ·rw[zO false e']at H;exact up _ (bT x oj rM H q E Q)
    have A8:e.dst=nO d b:=by unfold nO;rw[D];rfl
    by_cases hih:b<a
    ·obtain⟨-,mi⟩:=hs b e (fk b hih e D);have Ir:∀j∈e.looksAt d,(putAt d N (λx=>g.getD x false) a c).tmps[j]?=(Z b).tmps[j]?:=λj ht=>by
      rw[Lh b (by omega)];exact XH d N _ _ c j a (λx H oK=>by
       obtain⟨W,q,E,Q,heq⟩:=XS j ht x H oK;rw[<-heq,yp q E Q,heq];simp[W])
     have hex:=acR e Li Ir;have hwa:=akM e Ir;have XV:(putAt d N (λx=>g.getD x false) a c).put e.dst (N b)=putAt d N (λx=>(g.setIfInBounds b true).getD x false) a c:=by
      rw[A8,Oo d N _ c b hu a hih (λx z W r rK ym=>by
       have:=fg.1 (fg.1 rJ b (dT.2 (by omega))) x (dT.2 W);rw[rK,ym]at this;simp[z]at this)]
      exact FU _ _ _ _ _ _ (λx H=>by
       by_cases q:b=x
       ·subst q;simp[dh,iF]
       ·rw[zO false q];simp;omega)
     have akP:d.size=a\/(g.setIfInBounds b true).getD a false=false:=FV.imp (λq=>q) (λq=>by rw[zO false (by omega)];exact q);have next:∀S,z0z S->wpAnyIn v o h .any d l T (g.setIfInBounds b true) ((putAt d N (λx=>g.getD x false) a c).put e.dst (N b)) S:=λS XW=>by
      rw[XV];exact ih _ _ (by simpa using dh) XT XU akP XW
     unfold wpOpIn;rw[D];simp only[hwa];by_cases qA:Region.wanted e (yielded d (Z b).tmps)=true
     ·rw[aD qA]at mi ⊢;have hv:=mi O hw;refine⟨λP _=>hF P,?_⟩;rw[N2 _ _ _ Tb,hex];generalize (execOp (Z b).eval e).run h O=z6z at hv;cases z6z with
      |ok z0 w1 =>
       cases z0<;>simp only[wB]at hv<;>simp only[Oper.uponIn];case value z7z=>rw[hv.2];exact next _ hv.1
       case skip=>rw[<-hv.2];exact next _ hv.1
       case enter P args =>
        exact⟨(λhh=>by rw[hd]at hh;cases hh),Hw (XN _ _ _ _ hv) λq w2 ⟨E,lj⟩=>by subst E;exact next _ lj⟩
      |halt z0 w1=>simp only[wB]at hv
     ·rw[aA qA]at mi ⊢;refine⟨λP _=>hF P,?_⟩;rw[<-mi];exact next _ hw
    ·have hn:d.size=a+1:=by
      simp only[KN,gI,cu]at Lg;rcases Lg with q|q<;>omega
     obtain rfl:b=a:=by omega
     have acS:∀k,k<b->g.getD k false=true:=by
      have h3:(List.range b).all (λk=>(List.range (b+1)).any λx=>decide (k<x)&&((d[x]?).map λe=>e.after.any λq=>Region.binds .any q&&q.on==k).getD false)=true:=by
       simp only[KN,gI,cu]at Lg;rcases Lg with q|q
       ·omega
       ·exact q.2
      have:∀r k,k+r=b->k<b->g.getD k false=true:=by
       intro r
       induction r using Nat.strongRecOn with
       |_ r ihd =>
        intro k yq y;have:=fg.1 h3 k (dT.2 y);rw[oI]at this;obtain⟨x,H,mH⟩:=this;rw[dT]at H;simp only[cu,fU]at mH;obtain⟨hkj,mH⟩:=mH;rw[lM (by omega)]at mH;simp only[N1,Cl,KO,cu,gI]at mH;obtain⟨z2,hq,Q,lp⟩:=mH;by_cases q:x=b
        ·subst q;rw[lM (by omega)]at D;cases D;rw[<-lp];exact yp _ (Hv hq) Q
        ·have nh:=ihd (b-x) (by omega) x (by omega) (by omega);rw[<-lp];exact bT x _ (lM (by omega)) nh _ (Hv hq) Q
      exact λk y=>this (b-k) k (by omega) y
     have q:putAt d N (λx=>g.getD x false) b c=Z b:=by
      rw[Lh b (aP _)];exact FU _ _ _ _ _ _ (λx H=>by rw[acS x H];simp[H])
     rw[q];rw[aA (by omega)]at hK;have y:=hK e D O hw;have et:∀x,x<d.size->(g.setIfInBounds b true).getD x false=true:=λx H=>by
      by_cases q:b=x
      ·subst q;simp[dh,iF]
      ·rw[zO false q];exact acS x (by omega)
     have cF:Region.ready .any d (g.setIfInBounds b true)=[]:=by
      cases hr:Region.ready .any d (g.setIfInBounds b true) with
      |nil=>rfl
      |cons k z5z =>
       have y:k∈Region.ready .any d (g.setIfInBounds b true):=by rw[hr];simp
       obtain⟨z,o',Is,-⟩:=xW.1 y;have iy:k<d.size:=(fF.1 Is).1;have:=et k iy;rw[gi,lM (by simp;omega)]at z this;simp at z this;rw[z]at this;cases this
     have fin:∀X S,l .normal X S->wpAnyIn v o h .any d l T (g.setIfInBounds b true) X S:=λX S hq=>by
      cases T with
      |zero=>exact⟨cF,hq⟩
      |succ T=>exact⟨λ_=>hq,λk y=>by rw[cF]at y;cases y⟩
     unfold wpOpIn;rw[D];simp only;by_cases qA:Region.wanted e (yielded d (Z b).tmps)=true
     ·rw[aD qA]at y ⊢;refine⟨λP _=>hF P,?_⟩;rw[N2 _ _ _ Tb];generalize (execOp (Z b).eval e).run h O=z6z at y;cases z6z with
      |ok z0 w1 =>
       cases z0<;>simp only[Oper.uponIn]at y ⊢ <;>
        first
         |exact fin _ _ y
         |exact⟨y.1,Hw y.2 (λq S E=>by cases q<;>first|exact fin _ _ E|exact E)⟩
         |exact⟨y.1,RowsIn.mono y.2 (λ_ _ E=>fin _ _ E)⟩
         |exact⟨y.1,RoundIn.mono y.2 (λq S E=>by cases q<;>first|exact fin _ _ E|exact E)⟩
      |halt z0 w1=>cases z0<;>simp only[Oper.uponIn]at y ⊢<;>exact y
     ·rw[aA qA]at y ⊢;exact⟨λP _=>hF P,fin _ _ y⟩
 refine wpIn_region_any hm ?_;have h0:=main d.size (Array.replicate d.size false) {f with drawn:=f.drawn+1} (by simp) (XL _ _)
  (λx oj _ H=>by rw[gi,Hu]at H;split at H<;>simp at H)
  (.inr (by rw[gi,Hu];split<;>rfl)) hC
 have q:putAt d N (λx=>(Array.replicate d.size false).getD x false) a c=c:=by
  have:∀k,putAt d N (λx=>(Array.replicate d.size false).getD x false) k c=c:=λk=>by
   induction k with
   |zero=>rfl
   |succ k ih =>
    unfold putAt;have:(Array.replicate d.size false).getD k false=false:=by
     rw[gi,Hu];split<;>rfl
    rw[this];simpa using ih
  exact this a
 rw[q]at h0;exact h0
theorem akQ{q:World->Prop}{y:Act->Prop}(z:e.guard=none)(x:Value)
  (E:∀f,q f->wB h q x ((execOp c.eval e).run h f)) (D:DQ h d q y B (c.put e.dst x)):DQ h d q y (e::B) c:=by
 unfold DQ;rw[aD (by unfold Region.wanted;rw[z])];exact⟨x,E,D⟩
def Lj(h:Program)(q:World->Prop)(x:Act->Prop):List Oper->Act->Prop
 |[],c=>x c
 |e::B,c=>∃y,(∀f,q f->wB h q y ((execOp c.eval e).run h f))/\Lj h q x B (c.put e.dst y)
theorem FW{q:World->Prop}{y:Act->Prop}(x:Value)
  (D:∀f,q f->wB h q x ((execOp c.eval e).run h f)) (z:Lj h q y B (c.put e.dst x)):Lj h q y (e::B) c:=⟨x,D,z⟩
theorem acT{x:World->Prop}{q:Act->Prop}(a:q c):Lj h x q [] c:=a
theorem acU{y:World->Prop}{z:Act->Prop}:∀(x:List Oper) (c:Act),x.all (λe=>e.guard.isNone)=true->Lj h y z x c->DQ h d y z x c
 |[],_,_,a=>a
 |e::B,c,q,⟨H,E,D⟩=>by
  simp only[List.all_cons,cu]at q;exact akQ (by simpa using q.1) H E (acU B _ q.2 D)
theorem acV{D id:Nat}{l:Exit->Act->World->Prop}(a:Nat)
  (W:h.follows .mixedOrders=true) (z:(Lf d a&&(d.toList.take a).all (λe=>e.guard.isNone))=true) (hn:d.size=a+1) (X:d[a]?=some e) (T:e.guard=none) (y:World->Prop) (R:y {f with drawn:=f.drawn+1})
  (N:∀H:Act->Prop,(∀q,(∀x,y x->e.uponIn (Fence.wide.inRound D) 0 h q (λO P=>l .normal O P) l ((execOp q.eval e).run h x))->H q)->Lj h y H (d.toList.take a) c):
  (Code.region id d true).wpIn (Fence.wide.inRound D) 0 h l c f:=by
 rw[cu]at z;refine akN a (λ_=>trivial) rfl (λ_ _ _ _ S=>CallsIn.inRound D ((Dz (n:=0-1)).2 S)) W z.1 y R (acU _ _ z.2 (N _ λq Q=>?_));rw[aA (by omega)];intro o' E x Z;rw[X]at E;cases E;rw[aD (by unfold Region.wanted;rw[T])];exact Q x Z
theorem acW{q:Act->World->Prop}{l:Exit->Act->World->Prop}{x:Result Next}(y:x=.ok .skip f)(a:q (c.put e.dst undef) f):e.uponIn v o h c q l x:=by
 rw[y];exact a
theorem tmod_neg(n:Int)(a:n<0):n.tmod 1073741789=-((-n)%1073741789):=by
 have q:n.tmod 1073741789=(-(-n)).tmod 1073741789:=by rw[Int.neg_neg]
 rw[q,Int.neg_tmod,pM (by omega)]
theorem acX(n:Int):(if n.tmod 1073741789<0 then n.tmod 1073741789+1073741789 else n.tmod 1073741789)=n%1073741789:=by
 by_cases q:0<=n
 ·rw[pM q,aA (by omega)]
 ·rw[tmod_neg n (by omega)];split<;>omega
theorem akR(n:Int):-1073741789<n.tmod 1073741789:=by
 by_cases q:0<=n
 ·rw[pM q];omega
 ·rw[tmod_neg n (by omega)];omega
theorem akS(n:Int):n.tmod 1073741789<1073741789:=by
 have a:=acX n;generalize n.tmod 1073741789=j at *;by_cases hn:j<0
 ·omega
 ·rw[aA hn]at a;omega
theorem Ot(n:Int)(f:World)(hn:aN n):
  Calls prog 36 #[n] f λy x=>y=.returned (n%1073741789:Int)/\f=x:=by
 obtain⟨z,D⟩:=hn;have q:=A (acX n);have H:=akR n;have E:=akS n;by_cases hn:n.tmod 1073741789<0
 ·go_enter func36,ntmps36;go_wp2;go_ret;exact⟨fL (by rw[<-q.1,aD hn]),rfl⟩
 ·go_enter func36,ntmps36;go_wp2;go_ret;exact⟨fL (by rw[<-q.1,aA (Int.not_lt.2 hn)]),rfl⟩
def zT(x:V):Int:=x.foldl (λq n=>(q+n%1073741789)%1073741789) 0
theorem acY(q:V)(z:Int):zT (q++[z])=(zT q+z%1073741789)%1073741789:=by simp[zT]
theorem akT(q:V):0<=zT q/\zT q<1073741789:=by
 rcases Xo q with rfl|⟨y,x,rfl⟩
 ·simp[zT]
 ·rw[Xp,acY];omega
theorem akU(H:Value)(q:V)(f:World)(O:aM f H q):
  Calls prog 65 #[H] f λE D=>E=.returned (zT q:Int)/\f=D:=by
 obtain⟨c,R,rfl,Z,W,z,y⟩:=O;go_enter func65,ntmps65;go_wp2;go_loop [3,8] (λQ b=>∃k:Nat,k<=q.length/\b=k/\Q=(zT (q.take k):Int)) (λ_ b=>q.length-(intOf b).toNat);case atStart=>exact⟨0,bS _,rfl,rfl⟩
 case round =>
  obtain⟨k,S,rfl,rfl⟩:=hrel;have X:=akT (q.take k);by_cases x:k<q.length
  ·obtain⟨z0z,off,rfl,T⟩:=y k x;have P:=z _ (bM x);have N:=A (show zT (q.take (k+1))=(zT (q.take k)+q[k]%1073741789)%1073741789 by
    rw[jv x,acY])
   clear y z;go_wp2_with (go_at_call 36;refine(Ot _ _ P).mono ?_;rintro E D ⟨rfl,rfl⟩);go_round;case rel=>exact⟨k+1,by omega,by go_num,by rw[N.1]⟩
   case measure=>simp[intOf];omega
  ·go_wp2;go_ret;exact⟨fL (by rw[zJ (by omega)]),rfl⟩
theorem aM.two(f:World)(c q:Int)(j:TypeId)(ha:aN c)(x:aN q):aM (f.alloc (.cells #[c,q] j)) (.slice (f,0) 2 2) [c,q]:=by
 refine⟨_,2,rfl,by simp,by simp,by simp[ha,x],λk y=>⟨_,_,rfl,?_⟩⟩;rw[wg _ _ _ _ rfl];have:k=0\/k=1:=by simp at y;omega
 rcases this with rfl|rfl<;>rfl
theorem yr(c q:Int)(f:World)(ha:aN c)(D:aN q):
  Calls prog 19 #[c,q] f λy x=>y=.returned ((c+q)%1073741789:Int)/\Below f f x:=by
 have z:=A (show zT [c,q]=(c+q)%1073741789 by simp[zT]);go_enter func19,ntmps19;go_wp2_with (go_at_call 65;refine(akU _ _ _ (aM.two f c q _ ha D)).mono ?_;rintro y x ⟨rfl,rfl⟩);go_ret;exact⟨fL z.1,(aY _ _).alloc (aP _) _⟩
theorem A9(c q:Int)(f:World)(ha:aN c)(H:aN q):
  Calls prog 20 #[c,q] f λy x=>y=.returned ((c*q)%1073741789:Int)/\f=x:=by
 have D:=A (show(c%1073741789)*(q%1073741789)%1073741789=(c*q)%1073741789 from(lO c q _).symm);have E:0<=c%1073741789/\c%1073741789<1073741789:=by omega
 have z:0<=q%1073741789/\q%1073741789<1073741789:=by omega
 have N:0<=c%1073741789*(q%1073741789):=Sw E.1 z.1;have O:c%1073741789*(q%1073741789)<=1073741789*1073741789:=Sx (by omega) (by omega) z.1 (by omega);go_enter func20,ntmps20;go_wp2_with fail;refine(Ot _ _ ha).mono ?_;rintro y x ⟨rfl,rfl⟩;go_wp2_with fail;refine(Ot _ _ H).mono ?_;rintro y x ⟨rfl,rfl⟩;go_wp2_with fail;go_ret;exact⟨fL D.1,rfl⟩
def acZ(c:Int)(n:Nat):Int:=c^n%1073741789
def oM(n:Int):Int:=acZ n 1073741787
theorem akV(c q:Int):(c%1073741789*q)%1073741789=(c*q)%1073741789:=by rw[lO,Hx,<-lO]
theorem akW(c q:Int):(c*(q%1073741789))%1073741789=(c*q)%1073741789:=by rw[lO,Hx,<-lO]
theorem ac0(c:Int)(n:Nat):(c%1073741789)^n%1073741789=c^n%1073741789:=by
 induction n with
 |zero=>rw[uO,uO]
 |succ n q=>rw[zP,zP,akW,lO,q,<-lO]
theorem ac1(q:Int)(left:Nat):q^left=(q*q)^(left/2)*q^(left%2):=by
 have:q*q=q^2:=by rw[zP,zP,uO,Hy]
 rw[this,<-Int.pow_mul,<-Int.pow_add];congr 1;omega
theorem akX(x q:Int)(left:Nat)(a:left%2=1):((x*q)%1073741789*((q*q)%1073741789)^(left/2))%1073741789=(x*q^left)%1073741789:=by
 rw[akV,lO,ac0,<-lO,ac1 q left,a,zP,uO,Hy,Int.mul_assoc,Hz q]
theorem akY(x q:Int)(left:Nat)(a:left%2=0):(x*((q*q)%1073741789)^(left/2))%1073741789=(x*q^left)%1073741789:=by
 rw[lO,ac0,<-lO,ac1 q left,a,uO,Int.mul_one]
theorem uf(c:Int):0<=c%1073741789/\c%1073741789<1073741789:=by omega
theorem Tc(c:Int):aN (c%1073741789):=by unfold aN;omega
theorem dK{q:Int}(a:0<=q/\q<1073741789):aN q:=by unfold aN;omega
theorem akZ(n:Int)(f:World)(hn:aN n)(a:n%1073741789≠0):
  Calls prog 176 #[n] f λD z=>D=.returned (.tuple #[(oM n:Int),(0:Int)])/\f=z:=by
 have R:=A (show(n%1073741789==0)=false by simpa using a);clear a;go_enter func176,ntmps176;go_wp2_with fail;go_step3;go_wp2_with fail;refine(Ot _ _ hn).mono ?_;rintro D z ⟨rfl,rfl⟩;have S:=R.1;go_wp2;go_step3;go_wp2;clear S;go_loop [2,4,5] (λX O Z=>∃(x q:Int) (k:Nat),X=x/\O=k/\Z=q/\k<=1073741787/\(0<=x/\x<1073741789)/\aN q/\Hid ((x*q^k)%1073741789=oM n)) (λ_ O _=>(intOf O).toNat);case atStart=>exact⟨1,n,1073741787,rfl,rfl,rfl,by omega,by omega,hn,A (by simp only[Hy,oM,acZ])⟩
 case round =>
  obtain⟨x,q,k,rfl,rfl,rfl,hk,E,y,H⟩:=hrel;have P:=Tc (q*q);have W:=uf (x*q);by_cases Q:k=0
  ·subst Q;go_wp2;try rw[N3]
   go_ret2;refine⟨?_,rfl⟩;show Ending.returned (.tuple #[x,(0:Int)])=_;rw[<-H.1,uO,Int.mul_one,N4 E.1 E.2]
  ·have qB:((k:Int)==0)=false:=by simpa using Q
   rcases Xq k with N|N
   ·have T:((k:Int)%2==1)=false:=by rw[eH];omega
    go_wp2_with fail;refine(A9 _ _ _ y y).mono ?_;rintro D z ⟨rfl,rfl⟩;go_wp2;go_round;case rel=>exact⟨x,(q*q)%1073741789,k/2,rfl,by go_num,rfl,by omega,E,P,A (by rw[akY x q k N];exact H.1)⟩
    case measure=>simp[intOf];omega
   ·have T:((k:Int)%2==1)=true:=by rw[gI];omega
    go_wp2_with fail;refine(A9 _ _ _ (dK E) y).mono ?_;rintro D z ⟨rfl,rfl⟩;go_wp2_with fail;refine(A9 _ _ _ y y).mono ?_;rintro D z ⟨rfl,rfl⟩;go_wp2;go_round;case rel=>exact⟨(x*q)%1073741789,(q*q)%1073741789,k/2,rfl,by go_num,rfl,by omega,W,P,A (by rw[akX x q k N];exact H.1)⟩
    case measure=>simp[intOf];omega
def Lk(d:Array Oper)(x:Nat->Bool):Prop:=∀z q,d[z]?=some q->x z=true->∀y∈q.after,Region.binds .any y=true->x y.on=true
def Cx(d:Array Oper)(x b:Nat):Bool:=((d[x]?).map λe=>e.after.any λq=>Region.binds .any q&&q.on==b).getD false
theorem yt{y:Nat->Bool}(D:Lk d y)(x b:Nat)(q:Cx d x b=true)(E:y b=false):y x=false:=by
 cases O:y x
 ·rfl
 ·exfalso;unfold Cx at q;cases z:d[x]? with
  |none=>rw[z]at q;cases q
  |some e =>
   rw[z]at q;simp only[N1,Cl,KO,cu,gI]at q;obtain⟨k,P,H,N⟩:=q;have:=D x e z O _ (Hv P) H;rw[N,E]at this;cases this
def It(h:Program)(d:Array Oper)(x:(Nat->Bool)->World->Prop)(y:Act->Prop):Nat->List Oper->Act->Prop
 |_,[],c=>y c
 |b,e::B,c=>∃D,(∀q f,Lk d q->q b=false->(∀k,Cx d b k=true->q k=true)->x q f->wB h (x (λz=>z==b||q z)) D ((execOp c.eval e).run h f))/\It h d x y (b+1) B (c.put e.dst D)
theorem jO{x:(Nat->Bool)->World->Prop}{z:Act->Prop}(y:Value)
  (H:∀q f,Lk d q->q b=false->(∀k,Cx d b k=true->q k=true)->x q f->wB h (x (λD=>D==b||q D)) y ((execOp c.eval e).run h f)) (E:It h d x z (b+1) B (c.put e.dst y)):It h d x z b (e::B) c:=⟨y,H,E⟩
theorem ac2{x:(Nat->Bool)->World->Prop}{q:Act->Prop}(a:q c):It h d x q b [] c:=a
theorem ac3{E:(Nat->Bool)->World->Prop}{N:Act->Prop}:∀(H:List Oper) (q:Nat) (c:Act),It h d E N q H c ->
  ∃D:Nat->Value,∃x:Nat->Act,x 0=c/\N (x H.length)/\∀b e,H[b]?=some e->x (b+1)=(x b).put e.dst (D b) /\
   ∀z f,Lk d z->z (q+b)=false->(∀k,Cx d (q+b) k=true->z k=true)->E z f->wB h (E (λO=>O==q+b||z O)) (D b) ((execOp (x b).eval e).run h f)
 |[],q,c,a=>⟨λ_=>undef,λ_=>c,rfl,a,λb e y=>by simp at y⟩
 |e::B,q,c,⟨X,T,R⟩=>by
  obtain⟨D,x,P,Q,S⟩:=ac3 B (q+1) _ R;refine⟨λb=>b.casesOn X D,λb=>b.casesOn c x,rfl,Q,λb W y=>?_⟩;cases b with
  |zero=>simp at y;subst y;exact⟨P,T⟩
  |succ b =>
   have:=S b W (by simpa using y);rw[show q+1+b=q+(b+1) by omega]at this;exact this
theorem ak0{id:Nat}{l:Exit->Act->World->Prop}
  (hF:∀X,v.fn X) (hd:v.depth=none) (XN:∀(X:FuncId) (args:Array Value) (f:World) (z1:Ending->World->Prop),Calls h X args f z1->CallsIn v (o-1) h X args f z1)
  (hm:h.follows .mixedOrders=true) (hB:(Lf d d.size&&d.toList.all (λe=>e.guard.isNone))=true) (z0z:(Nat->Bool)->World->Prop) (Ll:z0z (λ_=>false) {f with drawn:=f.drawn+1})
  (Ip:∀z1z:Act->Prop,(∀a',(∀R z2z,(∀q,q<d.size->z2z q=true)->z0z z2z R->l .normal a' R)->z1z a')->It h d z0z z1z 0 d.toList c):
  (Code.region id d true).wpIn v o h l c f:=by
 obtain⟨D,z0,Oq,hK,hs⟩:=ac3 _ 0 _ (Ip _ λa' h'=>h');rw[cu]at hB;obtain⟨hB,hGd⟩:=hB;unfold Lf at hB;simp only[cu]at hB;obtain⟨⟨XP,rJ⟩,-⟩:=hB;have hlen:d.toList.length=d.size:=by simp
 rw[hlen]at hK;have look:∀b e,d[b]?=some e->e.guard=none/\(∀x∈e.after,Region.binds .any x=true->x.on<b)/\(∀cs z3z,e.op≠.select cs z3z)/\(∀i,e.op≠.defer i) /\
   ∀j∈e.looksAt d,∀q,q<d.size->nO d q=some j->q<b/\∃x∈e.after,Region.binds .any x=true/\x.on=q:=by
  intro b e z;have H:b<d.size:=(fF.1 z).1;have hg:e.guard=none:=by
   have:=fg.1 hGd e (by have:=Array.mem_of_getElem? z;simpa using this);simpa using this
  have y:=fg.1 XP b (dT.2 H);rw[z]at y;simp only[N1,Cl,cu,Xn,fg]at y;obtain⟨⟨y,Q⟩,h3⟩:=y;refine⟨hg,λx E O=>?_,(λcs z3z x=>by rw[x]at Q;cases Q),(λi x=>by rw[x]at Q;cases Q),λj ht q N oK=>?_⟩
  ·have:=y x E;rw[O]at this;simpa using this
  ·have:=h3 j ht q (dT.2 N);rw[oK]at this;simp only[FF,DB,cu,fU,KO]at this;obtain⟨h4,k,P,h5⟩:=this;simp only[gI]at h5;exact⟨h4,_,Hv P,h5.1,h5.2⟩
 have distinct:∀b q,b<d.size->q<d.size->b<q->∀r,nO d b=some r->nO d q≠some r:=λb q H N FX r rK ym=>by
  have:=fg.1 (fg.1 rJ b (dT.2 H)) q (dT.2 N);rw[rK,ym]at this;simp[FX]at this
 have Lh:∀b,b<=d.size->z0 b=putAt d D (λq=>decide (q<b)) d.size c:=by
  intro b
  induction b with
  |zero =>
   intro _;rw[Oq];have:∀k,putAt d D (λq=>decide (q<0)) k c=c:=λk=>by
    induction k with
    |zero=>rfl
    |succ k W=>unfold putAt;simpa using W
   rw[this]
  |succ b W =>
   intro H;obtain⟨e,z⟩:∃e,d[b]?=some e:=⟨d[b],lM (by omega)⟩;rw[(hs b e (by simpa using z)).1,W (by omega)];have A8:e.dst=nO d b:=by unfold nO;rw[z];rfl
   rw[A8,Oo d D _ c b (by simp) d.size (by omega) (λq y Q r rK=>distinct b q (by omega) Q y r rK)];exact FU _ _ _ _ _ _ (λq _=>by
    by_cases x:q=b
    ·subst x;simp
    ·have:(decide (q<b+1))=decide (q<b):=by simp;omega
     simp[x,this])
 have main:∀(T:Nat) (g:Array Bool) (R:World),g.size=d.size->sS g d.size=T->Lk d (λq=>g.getD q false) ->
   z0z (λq=>g.getD q false) R->wpAnyIn v o h .any d l T g (putAt d D (λq=>g.getD q false) d.size c) R:=by
  intro T
  induction T with
  |zero =>
   intro g R dh Iq _ hw;have et:=XK _ Iq;refine⟨?_,?_⟩
   ·cases hr:Region.ready .any d g with
    |nil=>rfl
    |cons b z7z =>
     have H:b∈Region.ready .any d g:=by rw[hr];simp
     obtain⟨y,e,z,-⟩:=xW.1 H;have iF:b<d.size:=(fF.1 z).1;have:=et b iF;rw[gi,lM (by omega)]at y this;simp at y this;rw[y]at this;cases this
   ·have x:putAt d D (λq=>g.getD q false) d.size c=z0 d.size:=by
     rw[Lh _ (aP _)];exact FU _ _ _ _ _ _ (λq N=>by rw[et q N];simp[N])
    rw[x];exact hK _ _ et hw
  |succ T W =>
   intro g R dh Iq bT hw;refine⟨λhr=>?_,λb H=>?_⟩
   ·exfalso;have et:∀b,b<d.size->g.getD b false=true:=by
     intro b
     induction b using Nat.strongRecOn with
     |_ b XQ =>
      intro H;cases hc:g.getD b false
      ·have:b∈Region.ready .any d g:=xW.2 ⟨by
        rw[gi,lM (by omega)]at hc ⊢;simpa using hc,d[b],lM H,λx E O =>
         XQ x.on ((look b _ (lM H)).2.1 x E O) (by have:=(look b _ (lM H)).2.1 x E O;omega)⟩
       rw[hr]at this;cases this
      ·rfl
    have:∀k,k<=d.size->sS g k=0:=by
     intro k
     induction k with
     |zero=>intro _;rfl
     |succ k XR=>intro P;unfold sS;rw[XR (by omega),et k (by omega)];rfl
    rw[this _ (aP _)]at Iq;omega
   ·obtain⟨y,e,z,yp⟩:=xW.1 H;have iF:b<d.size:=(fF.1 z).1;have hu:g.getD b false=false:=by
     rw[gi,lM (by omega)]at y ⊢;simpa using y
    obtain⟨dE,akO,Li,Tb,XS⟩:=look b e z;have XT:sS (g.setIfInBounds b true) d.size=T:=by
     have:=XI (by omega:b<g.size) hu d.size;rw[aD iF]at this;omega
    have ac4:(λq=>(g.setIfInBounds b true).getD q false)=λq=>q==b||g.getD q false:=by
     funext q;by_cases x:b=q
     ·subst x;simp[dh,iF]
     ·rw[zO false x];have:(q==b)=false:=by simp;omega
      rw[this,DB]
    have XU:Lk d (λq=>(g.setIfInBounds b true).getD q false):=by
     have up:∀k,g.getD k false=true->(g.setIfInBounds b true).getD k false=true:=λk P=>by
      by_cases x:b=k
      ·subst x;rw[hu]at P;cases P
      ·rw[zO false x];exact P
     intro q oj rM N x E O;by_cases e':b=q
     ·subst e';rw[z]at rM;cases rM;exact up _ (yp x E O)
     ·have Z:(g.setIfInBounds b true).getD q false=true:=N;rw[zO false e']at Z;exact up _ (bT q oj rM Z x E O)
    have A8:e.dst=nO d b:=by unfold nO;rw[z];rfl
    obtain⟨-,mi⟩:=hs b e (by simpa using z);rw[iN]at mi;have Ir:∀j∈e.looksAt d,(putAt d D (λq=>g.getD q false) d.size c).tmps[j]?=(z0 b).tmps[j]?:=λj ht=>by
     rw[Lh b (by omega)];exact XH d D _ _ c j _ (λq N oK=>by
      obtain⟨Q,x,E,O,heq⟩:=XS j ht q N oK;rw[<-heq,yp x E O,heq];simp[Q])
    have hex:=acR e Li Ir;have XV:(putAt d D (λq=>g.getD q false) d.size c).put e.dst (D b)=putAt d D (λq=>(g.setIfInBounds b true).getD q false) d.size c:=by
     rw[A8,Oo d D _ c b hu _ iF (λq y Q r rK=>distinct b q iF Q y r rK),ac4]
    have next:∀eN,z0z (λq=>q==b||g.getD q false) eN->wpAnyIn v o h .any d l T (g.setIfInBounds b true) ((putAt d D (λq=>g.getD q false) d.size c).put e.dst (D b)) eN:=λeN XW=>by
     rw[XV];exact W _ _ (by simpa using dh) XT XU (by rw[ac4];exact XW)
    unfold wpOpIn;rw[z];have FY:Region.wanted e (yielded d (putAt d D (λq=>g.getD q false) d.size c).tmps)=true:=by unfold Region.wanted;rw[dE]
    simp only[FY,if_true];have S:=mi _ R bT hu (λk P=>by
     unfold Cx at P;rw[z]at P;simp only[N1,Cl,KO,cu,gI]at P;obtain⟨z3,hq,O,E⟩:=P;have:=yp _ (Hv hq) O;rw[E]at this;exact this) hw
    refine⟨λX _=>hF X,?_⟩;rw[N2 _ _ _ Tb,hex];generalize (execOp (z0 b).eval e).run h R=z8z at S;cases z8z with
    |ok z2 w1 =>
     cases z2<;>simp only[wB]at S<;>simp only[Oper.uponIn];case value z9z=>rw[S.2];exact next _ S.1
     case skip=>rw[<-S.2];exact next _ S.1
     case enter X args =>
      exact⟨(λhh=>by rw[hd]at hh;cases hh),Hw (XN _ _ _ _ S) λx w2 ⟨E,lj⟩=>by subst E;exact next _ lj⟩
    |halt z2 w1=>simp only[wB]at S
 refine wpIn_region_any hm ?_;have h0:=main d.size (Array.replicate d.size false) {f with drawn:=f.drawn+1} (by simp) (XL _ _)
  (λq oj _ N=>by
   have Z:(Array.replicate d.size false).getD q false=true:=N;rw[gi,Hu]at Z;split at Z<;>simp at Z)
  (by
   have:(λq=>(Array.replicate d.size false).getD q false)=λ_=>false:=by
    funext q;rw[gi,Hu];split<;>rfl
   rw[this];exact Ll)
 have x:putAt d D (λq=>(Array.replicate d.size false).getD q false) d.size c=c:=by
  have:∀k,putAt d D (λq=>(Array.replicate d.size false).getD q false) k c=c:=λk=>by
   induction k with
   |zero=>rfl
   |succ k W =>
    unfold putAt;have:(Array.replicate d.size false).getD k false=false:=by
     rw[gi,Hu];split<;>rfl
    rw[this];simpa using W
  exact this _
 rw[x]at h0;exact h0
theorem ac5{id:Nat}{l:Exit->Act->World->Prop}
  (S:h.follows .mixedOrders=true) (P:(Lf d d.size&&d.toList.all (λe=>e.guard.isNone))=true) (q:(Nat->Bool)->World->Prop) (O:q (λ_=>false) {f with drawn:=f.drawn+1})
  (N:∀(z:Array Oper) (x:Act->Prop),d=z->(∀y,(∀D E,(∀H,H<d.size->E H=true)->q E D->l .normal y D)->x y)->It h z q x 0 d.toList c):
  (Code.region id d true).wp h l c f:=
 (AW (n:=0)).1 (ak0 (λ_=>trivial) rfl (λ_ _ _ _ R=>(Dz (n:=0-1)).2 R) S P q O (λx Q=>N _ x rfl Q))
def oN(F C w:Nat)(L G I W3:World)(q:Nat->Bool)(K:World):Prop:=K=if q w then W3 else if q C then I else if q F then G else L
theorem Ba{W3:World}{q:Nat->Bool}(b:Nat)(y:(F==b)=false)(z:(C==b)=false)(D:(w==b)=false)(a:oN F C w L G I W3 q K):oN F C w L G I W3 (λx=>x==b||q x) K:=by
 unfold oN at *;simp only[y,z,D,DB];exact a
theorem XX{W3:World}{q:Nat->Bool}(a:oN F C w L G I W3 q K)(x:q F=false)(y:q C=false)(z:q w=false):K=L:=by
 unfold oN at a;rw[x,y,z]at a;exact a
theorem ac6{W3:World}{q:Nat->Bool}(a:oN F C w L G I W3 q K)(x:q F=true)(y:q C=false)(z:q w=false):K=G:=by
 unfold oN at a;rw[x,y,z]at a;exact a
theorem ak1{W3:World}{q:Nat->Bool}(a:oN F C w L G I W3 q K)(x:q C=true)(y:q w=false):K=I:=by
 unfold oN at a;rw[x,y]at a;exact a
theorem ak2{W3:World}{q:Nat->Bool}(a:oN F C w L G I W3 q K)(x:q w=true):K=W3:=by
 unfold oN at a;rw[x]at a;exact a
theorem ak3{W3:World}{q:Nat->Bool}(E:(C==F)=false)(y:(w==F)=false)(z:q C=false)(D:q w=false):oN F C w L G I W3 (λx=>x==F||q x) G:=by
 unfold oN;simp[E,y,z,D]
theorem ak4{W3:World}{q:Nat->Bool}(y:(w==C)=false)(z:q w=false):oN F C w L G I W3 (λx=>x==C||q x) I:=by
 unfold oN;simp[y,z]
theorem ak5{W3:World}{x:Nat->Bool}:oN F C w L G I W3 (λq=>q==w||x q) W3:=by
 unfold oN;simp
abbrev cI:=Nat->Nat->Int
def findF(q:cI)(i:Nat):Nat->Nat->Nat
 |0,k=>k
 |x+1,k=>if q k i=0 then findF q i x (k+1) else k
def iG(x:cI)(n i q:Nat):Nat:=findF x i (n-q) q
def mj(q:cI)(y k:Nat):cI:=λb x=>if b=y then q k x else if b=k then q y x else q b x
def DR(x:cI)(y i:Nat)(z:Int):cI:=λb q=>if b=y/\i<=q then x y q*z%1073741789 else x b q
def nj(q:cI)(y i z:Nat):cI:=λb x=>if b≠y/\b<z/\i<=x then (q b x+-(q b i*q y x%1073741789))%1073741789 else q b x
def XZ(x:cI)(n q i k:Nat):cI:=nj (DR (mj x q k) q i (oM (x k i))) q i n
def DS(n:Nat)(q:cI×aO)(i:Nat):cI×aO:=
 if iG q.1 n i q.2.length<n then (XZ q.1 n q.2.length i (iG q.1 n i q.2.length),q.2++[i]) else q
def nm(n:Nat)(x:cI)(q:Nat):cI×aO:=(List.range q).foldl (DS n) (x,[])
theorem Te(n:Nat)(x:cI)(q:Nat):nm n x (q+1)=DS n (nm n x q) q:=by
 unfold nm;rw[sP,DC];rfl
theorem X5(x:cI)(i:Nat):∀q k,findF x i q k<=k+q/\k<=findF x i q k
 |0,k=>⟨by simp[findF],by simp[findF]⟩
 |q+1,k=>by
  unfold findF;split
  ·have:=X5 x i q (k+1);omega
  ·omega
theorem ac7(x:cI)(i:Nat):∀q k,findF x i q k<k+q->x (findF x i q k) i≠0
 |0,k=>λa=>by simp[findF]at a
 |q+1,k=>by
  unfold findF;split
  ·intro a;exact ac7 x i q (k+1) (by omega)
  ·rename_i a;intro _;exact a
theorem ac8(y:cI)(i:Nat):∀z k q,k<=q->q<findF y i z k->y q i=0
 |0,k=>λq D x=>by simp[findF]at x;omega
 |z+1,k=>by
  unfold findF;split
  ·rename_i E;intro q D x;by_cases H:q=k
   ·rw[H];exact E
   ·exact ac8 y i z (k+1) q (by omega) x
  ·intro q D x;omega
theorem ak6{q:cI}{y:Nat}(a:iG q n i y=findF q i (n-k) k)(E:k<n)(z:q k i=0):iG q n i y=findF q i (n-(k+1)) (k+1):=by
 rw[a];obtain⟨x,D⟩:∃x,n-k=x+1:=⟨n-k-1,by omega⟩;rw[D,show n-(k+1)=x by omega]
 conv=>lhs;unfold findF
 rw[aD z]
theorem ak7{q:cI}{y:Nat}(a:iG q n i y=findF q i (n-k) k)(E:k<n)(z:q k i≠0):iG q n i y=k:=by
 rw[a];obtain⟨x,D⟩:∃x,n-k=x+1:=⟨n-k-1,by omega⟩;rw[D]
 conv=>lhs;unfold findF
 rw[aA z]
theorem ak8{q:cI}{x:Nat}(a:iG q n i x=findF q i (n-k) k)(y:¬ k<n)(z:k<=n):iG q n i x=n:=by
 rw[a,show n-k=0 by omega];show k=n;omega
theorem ac9{x:cI}{q:aO}(a:iG x n i q.length=n):DS n (x,q) i=(x,q):=by
 unfold DS;rw[aA];show ¬ iG x n i q.length<n;omega
theorem ada{x:cI}{q:aO}(a:iG x n i q.length=k)(z:k<n):DS n (x,q) i=(XZ x n q.length i k,q++[i]):=by
 unfold DS;have y:iG (x,q).1 n i (x,q).2.length=k:=a;rw[y,aD z]
theorem Ou(x:cI)(n i q:Nat):q<=iG x n i q:=(X5 x i (n-q) q).2
theorem X6(n:Nat)(q:cI):∀i,(nm n q i).2.length<=n
 |0=>by simp[nm]
 |i+1=>by
  rw[Te];have x:=X6 n q i;generalize nm n q i=y at x;unfold DS;split
  ·rename_i a;have:=Ou y.1 n i y.2.length;simp;omega
  ·exact x
def sN:Nat->(Nat->Nat)->Nat
 |0,_=>0
 |n+1,q=>sN n q+q n
theorem ak9{q m:Nat->Nat}(a:∀k,k<n->q k=m k):sN n q=sN n m:=by
 induction n with
 |zero=>rfl
 |succ n x=>rw[sN,sN,x λk y=>a k (by omega),a n (by omega)]
theorem adb(n:Nat)(q m:Nat->Nat):sN n (λk=>q k+m k)=sN n q+sN n m:=by
 induction n with
 |zero=>rfl
 |succ n x=>rw[sN,sN,sN,x];omega
theorem ala(n i:Nat)(q:Nat->Nat):sN n (λk=>i*q k)=i*sN n q:=by
 induction n with
 |zero=>rfl
 |succ n x=>rw[sN,sN,x,H3]
theorem ade(n i:Nat):sN n (λ_=>i)=n*i:=by
 induction n with
 |zero=>simp[sN]
 |succ n q=>rw[sN,q,Nat.succ_mul]
theorem alb(n o:Nat)(x:Nat->Nat->Nat):sN n (λb=>sN o (λq=>x b q))=sN o (λq=>sN n (λb=>x b q)):=by
 induction n with
 |zero=>show 0=sN o (λ_=>0);rw[ade];omega
 |succ n y=>rw[sN,y,<-adb];rfl
def one(q:Bool):Nat:=if q=true then 1 else 0
theorem alc{q l':aO}(hn:q.Nodup)(D:∀x∈q,x∈l')(y:l'.length<=q.length):q.Perm l':=by
 induction q generalizing l' with
 |nil =>
  have:l'=[]:=N5.1 (by simpa using y);subst this;exact List.Perm.nil
 |cons c j H =>
  rw[List.nodup_cons]at hn;have ha:=D c (wh);have z:=List.perm_cons_erase ha;refine List.Perm.trans (List.Perm.cons c (H (l':=l'.erase c) hn.2 (λx E=>?_) ?_)) z.symm
  ·have:x≠c:=λN=>hn.1 (N▸E);exact(List.mem_erase_of_ne this).2 (D x (wi _ E))
  ·have:=z.length_eq;simp at this y;omega
structure Tf(a:Nat)(x:Nat->Nat):Prop where
 lo:∀k,1<=k->k<=a->1<=x k
 hi:∀k,1<=k->k<=a->x k<=a
 inj:∀k q,1<=k->k<=a->1<=q->q<=a->x k=x q->k=q
def upto(a:Nat):aO:=(List.range a).map (·+1)
theorem Ov:k∈upto a↔1<=k/\k<=a:=by
 unfold upto;rw[ey];constructor
 ·rintro⟨z,q,rfl⟩;have:=dT.1 q;omega
 ·rintro⟨x,y⟩;exact⟨k-1,dT.2 (by omega),by omega⟩
theorem adf(a:Nat):upto (a+1)=upto a++[a+1]:=by unfold upto;rw[sP,gJ];rfl
theorem ald(a:Nat):(upto a).Nodup:=by
 unfold upto List.Nodup;rw[Sy];exact List.Pairwise.imp (λa=>by omega) (List.nodup_range (n:=a))
theorem Tf.perm{y:Nat->Nat}(p:Tf a y):((upto a).map y).Perm (upto a):=by
 refine alc ?_ (λN D=>?_) (by simp)
 ·unfold List.Nodup;rw[Sy];refine List.Pairwise.imp_of_mem (λ{c E} ha x z=>?_) (ald a);have ha:=Ov.1 ha;have x:=Ov.1 x;exact λH=>z (p.inj c E ha.1 ha.2 x.1 x.2 H)
 ·obtain⟨k,q,rfl⟩:=ey.1 D;have q:=Ov.1 q;exact Ov.2 ⟨p.lo k q.1 q.2,p.hi k q.1 q.2⟩
def S1(a:Nat)(q:Nat->Nat):Nat:=sN a (λk=>q (k+1))
theorem X7(o:Nat)(q:Nat->Nat):S1 (o+1) q=S1 o q+q (o+1):=rfl
theorem adg(a:Nat)(q:Nat->Nat):S1 a q=((upto a).map q).sum:=by
 induction a with
 |zero=>rfl
 |succ a x =>
  rw[adf,gJ,List.sum_append,<-x];simp[S1,sN]
theorem adh{x:Nat->Nat}(p:Tf a x)(q:Nat->Nat):S1 a (λk=>q (x k))=S1 a q:=by
 rw[adg,adg,show((upto a).map λk=>q (x k))=((upto a).map x).map q by rw[mD];rfl];exact(p.perm.map q).sum_nat
theorem Iu{q m:Nat->Nat}(x:∀k,1<=k->k<=a->q k=m k):S1 a q=S1 a m:=ak9 λk y=>x (k+1) (by omega) (by omega)
theorem Ow(a:Nat)(q m:Nat->Nat):S1 a (λk=>q k+m k)=S1 a q+S1 a m:=adb a _ _
theorem ale(a i:Nat)(q:Nat->Nat):S1 a (λk=>i*q k)=i*S1 a q:=ala a i _
theorem X8(a i:Nat):S1 a (λ_=>i)=a*i:=ade a i
theorem alf(n o:Nat)(x:Nat->Nat->Nat):S1 n (λb=>S1 o (λq=>x b q))=S1 o (λq=>S1 n (λb=>x b q)):=alb n o _
theorem adi{q m:Nat->Nat}(y:∀k,1<=k->k<=a->q k%2=m k%2):S1 a q%2=S1 a m%2:=by
 unfold S1;have x:∀k,k<a->q (k+1)%2=m (k+1)%2:=λk z=>y (k+1) (by omega) (by omega);clear y
 induction a with
 |zero=>rfl
 |succ a D =>
  have:=D λk z=>x k (by omega);have:=x a (by omega);simp only[sN];omega
def over(a c k:Nat):Nat:=if a<c*k%(2*a+1) then 1 else 0
def sg(a c k:Nat):Nat:=if a<c*k%(2*a+1) then 2*a+1-c*k%(2*a+1) else c*k%(2*a+1)
def nP(a c:Nat):Nat:=S1 a (over a c)
theorem Tg{c:Nat}(i:Nat.Coprime c n)(a:c*k%n=0):n ∣ k:=
 (Nat.Coprime.symm i).dvd_of_dvd_mul_left (Sz a)
theorem alg{c q:Nat}(i:Nat.Coprime c n)(a:c*k%n=c*q%n)(y:k<n)(H:q<n):k=q:=by
 have D:∀k q,k<n->c*k%n=c*q%n->q<=k->k=q:=λk q y a z=>by
  have x:(c*k-c*q)%n=0:=Nat.sub_mod_eq_zero_of_mod_eq a;rw[<-Nat.mul_sub]at x;have E:=Tg i x;by_cases N:k-q=0
  ·omega
  ·have:=DD (by omega) E;omega
 by_cases z:q<=k
 ·exact D k q y a z
 ·exact(D q k H a.symm (by omega)).symm
theorem X9{c:Nat}(i:Nat.Coprime c (2*a+1)):Tf a (sg a c):=by
 have D:∀k,c*k%(2*a+1)<2*a+1:=λk=>xV _ (by omega);have E:∀k,1<=k->k<=a->c*k%(2*a+1)≠0:=λk x y z=>by
  have:=DD (by omega) (Tg i z);omega
 have O:∀k q,1<=k->k<=a->1<=q->q<=a->c*k%(2*a+1)+c*q%(2*a+1)≠2*a+1:=λk q x y H N z=>by
  have P:c*(k+q)%(2*a+1)=0:=by rw[H3,Nat.add_mod,z,Nat.mod_self]
  have:=DD (by omega) (Tg i P);omega
 refine⟨λk x y=>?_,λk x y=>?_,λk q x y H N z=>?_⟩
 ·have:=D k;have:=E k x y;unfold sg;split<;>omega
 ·have:=D k;have:=E k x y;unfold sg;split<;>omega
 ·have:=D k;have:=D q;have:=O k q x y H N;refine alg i ?_ (by omega) (by omega);unfold sg at z;split at z<;>split at z<;>omega
theorem ali(a:Nat):nP a 1=0:=by
 unfold nP;rw[Iu (m:=λ_=>0) λk q x=>?_,X8,N6];unfold over;rw[aA];rw[DE,NZ (by omega)];omega
theorem alj(a c:Nat):nP a (c%(2*a+1))=nP a c:=by
 refine Iu λk _ _=>?_;unfold over;rw[Nat.mod_mul_mod]
theorem alk{c x:Nat}(N:Nat.Coprime c (2*a+1))(O:Nat.Coprime x (2*a+1)):nP a (c*x)%2=(nP a c+nP a x)%2:=by
 unfold nP;rw[<-adh (X9 O) (over a c),<-Ow];refine adi λk X Z=>?_;have hb:x*k%(2*a+1)<2*a+1:=xV _ (by omega);have P:c*x*k%(2*a+1)=c*(x*k%(2*a+1))%(2*a+1):=by rw[Nat.mul_assoc,Nat.mul_mod_mod]
 unfold over sg;rw[P];generalize x*k%(2*a+1)=q at *;by_cases y:a<q
 ·rw[aD y,aD y];have Q:(c*(2*a+1-q)%(2*a+1)+c*q%(2*a+1))%(2*a+1)=0:=by
   rw[<-Nat.add_mod,<-H3,Nat.sub_add_cancel (by omega),Nat.mul_mod_left]
  have h3:c*(2*a+1-q)%(2*a+1)<2*a+1:=xV _ (by omega);have h4:c*q%(2*a+1)<2*a+1:=xV _ (by omega);have h5:c*q%(2*a+1)≠0:=λW=>by
   have:=DD (by omega) (Tg N W);omega
  have h6:c*(2*a+1-q)%(2*a+1)+c*q%(2*a+1)=2*a+1:=by
   have R:=Sz Q;obtain⟨z,E⟩:=R;have:z=1:=by
    rcases Nat.lt_or_ge z 1 with S|S
    ·obtain rfl:z=0:=by omega
     rw[N6]at E;omega
    ·rcases Nat.lt_or_ge 1 z with D|D
     ·have:=Nat.mul_le_mul_left (2*a+1) D;omega
     ·omega
   rw[this]at E;omega
  generalize c*(2*a+1-q)%(2*a+1)=T at *;generalize c*q%(2*a+1)=z0 at *;by_cases H:a<T
  ·rw[aD H,aA (by omega)]
  ·rw[aA H,aD (by omega)]
 ·rw[aA y,aA y];omega
theorem alm(a:Nat):nP a 2=a-a/2:=by
 have x:∀o,S1 o (λk=>if a<2*k then 1 else 0)=o-min o (a/2):=λo=>by
  induction o with
  |zero=>simp[S1,sN]
  |succ o y =>
   rw[X7,y];by_cases q:a<2*(o+1)
   ·rw[aD q];omega
   ·rw[aA q];omega
 unfold nP;rw[Iu (m:=λk=>if a<2*k then 1 else 0) λk z D=>?_,x]
 ·omega
 ·unfold over;rw[NZ (by omega)]
theorem adj(i:Nat.Coprime o (2*a+1))(z:o%2=1):nP a o%2=S1 a (λk=>o*k/(2*a+1))%2:=by
 have x:S1 a (λk=>o*k)%2=(S1 a (λk=>o*k/(2*a+1))+S1 a (sg a o)+nP a o)%2:=by
  unfold nP;rw[<-Ow,<-Ow];refine adi λk _ _=>?_;have N:=Nat.div_add_mod (o*k) (2*a+1);have O:o*k%(2*a+1)<2*a+1:=xV _ (by omega);have P:(2*a+1)*(o*k/(2*a+1))=2*(a*(o*k/(2*a+1)))+o*k/(2*a+1):=by rw[FG,DE,Nat.mul_assoc]
  unfold sg over;generalize o*k/(2*a+1)=D at *;generalize o*k%(2*a+1)=E at *;generalize o*k=R at *;generalize a*D=Q at *;by_cases q:a<E
  ·rw[aD q,aD q];omega
  ·rw[aA q,aA q];omega
 have y:S1 a (sg a o)=S1 a (λk=>k):=adh (X9 i) (λk=>k);have H:S1 a (λk=>o*k)%2=S1 a (λk=>k)%2:=by
  rw[ale,Nat.mul_mod,z];simp
 rw[y]at x;omega
theorem adk{m:Nat}(E:k<=a):(2*m+1)*k/(2*a+1)=S1 m (λz=>if (2*a+1)*z<=(2*m+1)*k then 1 else 0):=by
 have P:(2*m+1)*k/(2*a+1)<=m:=by
  rw[Nat.div_le_iff_le_mul_add_pred (by omega)];have:(2*m+1)*k<=(2*m+1)*a:=Nat.mul_le_mul_left _ E;have N:(2*m+1)*a=2*(m*a)+a:=by rw[FG,DE,Nat.mul_assoc]
  have O:(2*a+1)*m=2*(m*a)+m:=by rw[FG,DE,Nat.mul_assoc,KP a m]
  omega
 have D:∀o,S1 o (λz=>if (2*a+1)*z<=(2*m+1)*k then 1 else 0)=min o ((2*m+1)*k/(2*a+1)):=λo=>by
  induction o with
  |zero=>simp[S1,sN]
  |succ o H =>
   rw[X7,H];have:=Nat.le_div_iff_mul_le (x:=o+1) (y:=(2*m+1)*k) (k:=2*a+1) (by omega);rw[KP (o+1)]at this;by_cases q:(2*a+1)*(o+1)<=(2*m+1)*k
   ·rw[aD q];have:=this.2 q;omega
   ·rw[aA q];have:¬ o+1<=(2*m+1)*k/(2*a+1):=λx=>q (this.1 x);omega
 rw[D];omega
theorem aln{m:Nat}(i:Nat.Coprime (2*m+1) (2*a+1)):(nP a (2*m+1)+nP m (2*a+1))%2=a*m%2:=by
 have Q:=adj i (by omega);have R:=adj i.symm (by omega);have S:S1 a (λk=>(2*m+1)*k/(2*a+1))+S1 m (λq=>(2*a+1)*q/(2*m+1))=a*m:=by
  rw[Iu (a:=a) (λk _ y=>adk y),Iu (a:=m) (λq _ z=>adk z),alf m a,<-Ow,
   Iu (m:=λ_=>m) λk O H=>?_,X8]
  rw[<-Ow,Iu (m:=λ_=>1) λq T P=>?_,X8,KR];have N:(2*a+1)*q≠(2*m+1)*k:=λx=>by
   have:(2*a+1) ∣ k:=i.symm.dvd_of_dvd_mul_left ⟨q,x.symm⟩;have:=DD (by omega) this;omega
  generalize (2*a+1)*q=D at *;generalize (2*m+1)*k=E at *;by_cases x:D<=E
  ·rw[aD x,aA (by omega)]
  ·rw[aA x,aD (by omega)]
 omega
def Ends:Result Go.Next->Prop
 |.ok (.enter _ _) _=>False
 |.ok (.row _ _) _=>False
 |.ok (.round _ _ _ _ _) _=>False
 |_=>True
structure DT(h:Program)(e:Oper):Prop where
 nodefer:∀i,e.op≠.defer i
 about:∀f ρ,e.about h f ρ=none
 ends : ∀f ρ, Ends ((execOp ρ e).run h f)
theorem alo{z y:Act->World->Prop}{l:Exit->Act->World->Prop}(D:∀c f,z c f->y c f):∀{x:Result Go.Next},Ends x->e.upon h c z l x->e.uponIn v n h c y l x
 |.ok q f,E,a=>by
  cases q<;>simp only[Oper.upon,Oper.uponIn,Ends] at*<;> first|exact D _ _ a|exact E.elim|exact a.elim|skip
 |.halt q f,_,a=>by
  cases q<;>simp only[Oper.upon,Oper.uponIn] at*<;> first|exact a|exact a.elim|skip
theorem alp{z x:Act->World->Prop}{l:Exit->Act->World->Prop}(q:DT h e)(D:∀c f,z c f->x c f)(a:e.wp h c f z l):e.wpIn v n h c f x l:=by
 refine⟨λE y=>by(rw[q.about]at y;exact nomatch y),?_⟩;rw[N2 _ _ _ q.nodefer];exact alo D (q.ends f c.eval) a
theorem Ya(q:Sem Value)(f:World):Ends (Sem.run h (do pure (Go.Next.value (<-q))) f):=by
 rw[Cm];cases q.run h f<;>simp[Result.andThen,Ends,pure]
theorem alq(q:Sem Unit)(f:World):Ends (Sem.run h (do q;pure Go.Next.skip) f):=by
 rw[Cm];cases q.run h f<;>simp[Result.andThen,Ends,pure]
section
variable {h:Program} {r:Option Tmp} {j:TypeId} {p:String} {M:Array Edge} {m:Option (Nat×Bool)}
theorem adl{q:Operand}:DT h ⟨r,.move q,j,p,M,m⟩:=⟨(λ_ a=>by cases a),λ_ _=>rfl,λ_ _=>trivial⟩
theorem adm{x:Operand}{q:TypeId}:DT h ⟨r,.load q x,j,p,M,m⟩:=⟨(λ_ a=>by cases a),λ_ _=>rfl,λf _=>Ya _ f⟩
theorem adn{q:TypeId}{n:Nat}{x:Array (Nat×Operand)}:DT h ⟨r,.buildSlice q n x,j,p,M,m⟩:=⟨(λ_ a=>by cases a),λ_ _=>rfl,λf _=>Ya _ f⟩
theorem ado{q:TypeId}{x y:Operand}:DT h ⟨r,.store q x y,j,p,M,m⟩:=⟨(λ_ a=>by cases a),λ_ _=>rfl,λf _=>alq _ f⟩
theorem adp{x:Array Operand}{q:Array TypeId}:DT h ⟨r,.call {callee:=.builtin .append,args:=x,argTypes:=q},j,p,M,m⟩:=⟨(λ_ a=>by cases a),λ_ _=>rfl,λf _=>Ya _ f⟩
end
section
variable {h:Program} {d:Array Oper} {l:Exit->Act->World->Prop} {s:Region.Mode} {u:World->Prop} {t:aO}
def zV(h:Program)(s:Region.Mode)(d:Array Oper)(l:Exit->Act->World->Prop)(u:World->Prop)(t:aO):Nat->Array Bool->Act->World->Prop
 |0,g,c,f=>Region.ready s d g=[]/\l .normal c f
 |y+1,g,c,f =>
  (Region.ready s d g=[]->l .normal c f) /\
  ∀b∈Region.ready s d g,wpOp h d l b (λx q=>(b ∉ t->(∀j∈t,g.getD j true=false)->u q)/\zV h s d l u t y (g.setIfInBounds b true) x q) c f
theorem alr{E:aO}{b:Nat}{H:Oper}{z4z:Value}(hi:d[b]?=some H)(Li:∀(x:Nat) (e:Oper) R Z,d[x]?=some e->e.op≠.select R Z)
  (hQ:∀i c f,l (.panic i) (c.put H.dst z4z) f->l (.panic i) c f) (Ox:∀j∈t,j∈E) (hU:∀P∈E,∃e,d[P]?=some e/\∃q∈e.after,Region.binds s q=true/\(q.on=b\/q.on∈E)) (Th:b ∉ E):
  ∀(S:Nat) (g:Array Bool) (c:Act) (f:World),
   (∀x N,d[x]?=some N->x≠b->g.getD x true=false->(∀q∈N.after,Region.binds s q=true->q.on≠b)->H.apart d N=true) ->
   b∈Region.ready s d g->(∀P∈E,g.getD P true=false)->YieldsIf h d u H z4z c->u f ->
   zV h s d l u t S (g.setIfInBounds b true) (c.put H.dst z4z) f->zV h s d l u t (S+1) g c f:=by
 have away:∀{g:Array Bool} {k:Nat},g.getD k true=false->g.getD k false=true->False:=λ{g k} h0 y=>by
  rcases Nat.lt_or_ge k g.size with h'|h'
  ·simp[h']at h0 y;rw[h0]at y;cases y
  ·simp[Array.getElem?_eq_none h']at y
 intro S
 induction S with
 |zero =>
  intro g c f _ D DU hy T Q;refine⟨λa=>(by rw[a]at D;cases D),λx hj=>?_⟩;by_cases z:x=b
  ·subst z;exact hy.wpOp hi T ⟨λ_ _=>T,Q⟩
  ·have:=ready_mono hj z;rw[Q.1]at this;cases this
 |succ S ih =>
  intro g c f adq D DU hy T Q;refine⟨λa=>(by rw[a]at D;cases D),λx hj=>?_⟩;by_cases z:x=b
  ·subst z;exact hy.wpOp hi T ⟨λ_ _=>T,Q⟩
  ·have y:=Q.2 x (ready_mono hj z);obtain⟨adr,N,rM,et⟩:=xW.1 hj;have hjU:x ∉ E:=λhm=>by
    obtain⟨e,ho,q,he,hb,W⟩:=hU x hm;rw[rM]at ho;injection ho with ho;subst ho;have y:=et q he hb;rcases W with W|W
    ·rw[W]at y;exact away (xW.1 D).1 y
    ·exact away (DU _ W) y
   have als:∀q∈N.after,Region.binds s q=true->q.on≠b:=λq he hb heq=>by
    have y:=et q he hb;rw[heq]at y;exact away (xW.1 D).1 y
   have h2:=wpOp_putIf rM (adq x N rM z adr als) (λR Z=>Li b H R Z hi) (λR Z=>Li x N R Z rM) hQ hy y;have alu:∀k X,d[k]?=some X->k≠b->(g.setIfInBounds x true).getD k true=false ->
     (∀q∈X.after,Region.binds s q=true->q.on≠b)->H.apart d X=true:=λk X hk Oy ads F0=>by
    refine adq k X hk Oy ?_ F0;by_cases Bb:x=k
    ·subst Bb;exact adr
    ·rw[zO true Bb]at ads;exact ads
   have alv:∀P∈E,(g.setIfInBounds x true).getD P true=false:=λP hu=>by
    rw[zO true (λq=>hjU (by rw[q];exact hu))];exact DU P hu
   have hSi:∀O,(x ∉ t->(∀j∈t,(g.setIfInBounds b true).getD j true=false)->u O)->u O:=λO a =>
    a (λhm=>hjU (Ox x hm)) (λj ht=>by
     rw[zO true (λq=>Th (by rw[q];exact Ox j ht))];exact DU j (Ox j ht))
   refine wpOp_mono (λa' O h3=>⟨λ_ _=>hSi O h3.2.1,ih (g.setIfInBounds x true) a' O alu (ready_mono D (Ne.symm z)) alv h3.1 (hSi O h3.2.1) ?_⟩) h2;rw[Array.setIfInBounds_comm _ _ z];exact h3.2.2
def waits(s:Region.Mode)(d:Array Oper)(x:aO)(b:Nat):Bool:=x.all λy=>match d[y]? with
 |some e=>e.after.any λq=>Region.binds s q&&(q.on==b||x.contains q.on)
 |none=>false
theorem alw{y:aO}{b:Nat}(a:waits s d y b=true):∀x∈y,∃e,d[x]?=some e/\∃z∈e.after,Region.binds s z=true/\(z.on=b\/z.on∈y):=λx N=>by
 have q:=fg.1 a x N;cases E:d[x]? with
 |none=>rw[E]at q;cases q
 |some e =>
  rw[E]at q;obtain⟨k,H,D⟩:=KO.1 q;simp only[cu,KN,gI,SA]at D;exact⟨e,rfl,_,Hv H,D⟩
theorem Ti(q:aO)(r:Option Tmp)(D:Value){b:Nat}{x:Oper}{y:Nat}{g:Array Bool}{c:Act}{f:World}(H:d[b]?=some x)(S:x.dst=r)(Z:Region.noSelect d=true)(T:Region.free s d g b=true)(X:(Region.ready s d g).contains b=true)
  (P:∀i c f,l (.panic i) (c.put r D) f->l (.panic i) c f) (O:t.all q.contains=true) (R:waits s d q b=true) (E:q.contains b=false) (N:(q.all λz=>!g.getD z true)=true) (hw:Region.wanted x (yielded d c.tmps)=true) (hy:∀f,u f->(execOp c.eval x).run h f=.ok (.value D) f) (Q:u f)
  (a:zV h s d l u t y (g.setIfInBounds b true) (c.put r D) f):zV h s d l u t (y+1) g c f:=by
 subst S;refine alr (E:=q) H (Region.noSelect_spec Z) P (λj ht=>by simpa using fg.1 O j ht) (alw R) (λW=>by rw[SA.2 W]at E;cases E) y g c f (Region.free_spec H T) (by simpa using X) (λz hu=>by simpa using fg.1 N z hu) (Or.inl ⟨hw,hy⟩) Q a
def gK(h:Program)(s:Region.Mode)(d:Array Oper)(l:Exit->Act->World->Prop)(u:World->Prop)(t:aO)(y:Nat)(g:Array Bool)(c:Act)(f:World)(z:aO):Prop:=
 ∀b∈z,wpOp h d l b (λx q=>(b ∉ t->(∀j∈t,g.getD j true=false)->u q)/\zV h s d l u t y (g.setIfInBounds b true) x q) c f
theorem gK.nil{q:Nat}{g:Array Bool}{c:Act}{f:World}:gK h s d l u t q g c f []:=λ_ a=>by cases a
theorem gK.cons{x:Nat}{g:Array Bool}{c:Act}{f:World}{b:Nat}{e:Oper}{z:aO}(N:d[b]?=some e)(Q:t.contains b=false)
  (a:∀q:Act->World->Prop,Shut (∀c f,u f->zV h s d l u t x (g.setIfInBounds b true) c f->q c f)->if Region.wanted e (yielded d c.tmps)=true then Oper.wp h e c f q l else q (c.put e.dst undef) f)
  (O:gK h s d l u t x g c f z):gK h s d l u t x g c f (b::z):=λP y=>by
 rcases iu.1 y with rfl|y
 ·exact wpOp_step N (λq D=>a q (λc f E H=>D c f ⟨λ_ _=>E,H⟩))
 ·exact O P y
theorem gK.late{x:Nat}{g:Array Bool}{c:Act}{f:World}{b:Nat}{e:Oper}{z:aO}(N:d[b]?=some e)(E:t.contains b=true)
  (a:∀q:Act->World->Prop,Shut (∀c f,zV h s d l u t x (g.setIfInBounds b true) c f->q c f)->if Region.wanted e (yielded d c.tmps)=true then Oper.wp h e c f q l else q (c.put e.dst undef) f)
  (O:gK h s d l u t x g c f z):gK h s d l u t x g c f (b::z):=λP y=>by
 rcases iu.1 y with rfl|y
 ·exact wpOp_step N (λq D=>a q (λc f H=>D c f ⟨λhn=>absurd (SA.1 E) hn,H⟩))
 ·exact O P y
theorem uT{q:aO}{x:Nat}{g:Array Bool}{c:Act}{f:World}(y:Region.ready s d g=q)(z:q≠[])
  (a:gK h s d l u t x g c f q):zV h s d l u t (x+1) g c f:=⟨λD=>absurd (y▸D) z,y▸a⟩
theorem Yb{g:Array Bool}{c:Act}{f:World}(q:Region.ready s d g=[])(a:l .normal c f):∀x,zV h s d l u t x g c f
 |0=>⟨q,a⟩
 |_+1=>⟨λ_=>a,by rw[q];simp⟩
theorem Tj{v:Fence}{n:Nat}(z:∀e∈d.toList,DT h e)(y:¬ LetsOut l):∀(x:Nat) (g:Array Bool) (c:Act) (f:World),zV h s d l u t x g c f->wpAnyIn v n h s d l x g c f
 |0,_,_,_,a=>a
 |x+1,g,c,f,a=>⟨a.1,λb R=>by
  have q:=a.2 b R;unfold wpOp at q;unfold wpOpIn;cases D:d[b]? with
  |none=>rw[D]at q;exact Tj z y x _ _ _ q.2
  |some e =>
   rw[D]at q;have N:DT h e:=z e (by
    obtain⟨P,rfl⟩:=fF.1 D;exact Xr P)
   simp only at q ⊢;split
   ·rename_i E;rw[aD E]at q;rcases q with q|q
    ·exact alp N (λO S Q=>Tj z y x _ O S Q.2) q
    ·exact absurd q.2 y
   ·rename_i E;rw[aA E]at q;exact⟨λT H=>by(rw[N.about]at H;exact nomatch H),Tj z y x _ _ _ q.2⟩⟩
theorem alx{v:Fence}{n id:Nat}{c:Act}{f:World}(u:World->Prop)(t:aO)(x:h.follows .mixedOrders=true)(y:∀e∈d.toList,DT h e)(q:¬ LetsOut l)
  (a:zV h .any d l u t d.size (Array.replicate d.size false) c f.drew):(Code.region id d true).wpIn v n h l c f:=
 wpIn_region_any x (Tj y q _ _ _ _ a)
end
