/- The reference of package linear: Check, Error, Few. -/
import Derived.Test.YtaifagjclanodaaGreatDoorMLinJ
import Derived.IntWalk
import Derived.Maps.AppendAt
set_option maxHeartbeats 2000000
set_option maxRecDepth 100000
namespace Go.Proofs.YtaifagjclanodaaGreatDoor
open Go.Proofs.Tryz
open Go.RowKit
variable{c:Array Oper}{t:List Oper}{j i k l:Nat}
theorem am0{b:V}(d:b.length<=64)(e:b.any cM=false):mh [b]=0:=
 XD [b] (by simpa using d) (by intro n g;rw[jJ.1 g];simp only[uS,e];simp[wide])
def J(b:V)(i:Nat):Int:=b[i]?.getD 0
theorem di{b:V}(d:i<b.length):J b i=b[i]:=by unfold J;rw[fw d];rfl
theorem TH{b:V}(d:¬ i<b.length):J b i=0:=by unfold J;rw[Xs (by omega)];rfl
theorem aM.get{n:World}{a:Value}{e:V}(w:aM n a e)(g:k<e.length):aN (J e k)/\∃b d v j,a=.slice (some ⟨b,d,none⟩) v j/\n.cell? ⟨b,d+k,none⟩=(J e k:Int):=by
 obtain⟨B,x,rfl,y,z,p,q⟩:=w;obtain⟨b,d,rfl,u⟩:=q k g;rw[di g];exact⟨p _ (bM g),b,d,_,_,rfl,u⟩
def lR(d b:V):Nat->Int
 |0=>0
 |k+1=>(lR d b k+J d k*J b k%1073741789)%1073741789
def cz(b d:V):Int:=lR b d b.length
theorem TI(d b:V):∀k,0<=lR d b k/\lR d b k<1073741789
 |0=>by simp[lR]
 |k+1=>uf _
def s8(b:cI)(j k:Nat):Nat->Int:=λd=>oM (b k j)*b k d%1073741789
def nU(e:cI)(i:Nat)(g:Nat->Int):cI:=λb d=>if b=i then g d else e b d
def Ea(b:cI)(g:Nat->Int)(j e:Nat):cI:=λi d=>if i<e then (b i d+-(b i j*g d%1073741789))%1073741789 else b i d
def pivR(b:cI)(e d j k:Nat):cI:=nU (Ea (nU b k (b d)) (s8 b j k) j e) d (s8 b j k)
def Bh(d:Nat)(b:cI×aO)(j:Nat):cI×aO:=
 if iG b.1 d j b.2.length<d then (pivR b.1 d b.2.length j (iG b.1 d j b.2.length),b.2++[j]) else b
def pV(e:Nat)(b:cI)(d:Nat):cI×aO:=(List.range d).foldl (Bh e) (b,[])
theorem OV(d:Nat)(e:cI)(b:Nat):pV d e (b+1)=Bh d (pV d e b) b:=by
 unfold pV;rw[sP,DC];rfl
theorem aef{b:Nat}{e:cI}{d:aO}(g:iG e b j d.length=b):Bh b (e,d) j=(e,d):=by
 unfold Bh;rw[aA];show ¬ iG e b j d.length<b;omega
theorem aeg{d:Nat}{e:cI}{b:aO}(p:iG e d j b.length=k)(n:k<d):Bh d (e,b) j=(pivR e d b.length j k,b++[j]):=by
 unfold Bh;have g:iG (e,b).1 d j (e,b).2.length=k:=p;rw[g,aD n]
theorem aeh(b:Nat)(d:cI):∀j,(pV b d j).2.length<=b
 |0=>by simp[pV]
 |j+1=>by
  rw[OV];have e:=aeh b d j;generalize pV b d j=g at e;unfold Bh;split
  ·have:=Ou g.1 b j g.2.length;simp;omega
  ·exact e
def uj(e l:Nat)(d:cI):Prop:=∀i b,i<e->b<l->0<=d i b/\d i b<1073741789
theorem uj.put{n:Nat}{e:cI}(v:uj n l e){d:Nat->Int}(p:∀b,b<l->0<=d b/\d b<1073741789):uj n l (nU e i d):=λu b q g=>by
 unfold nU;split
 ·exact p b g
 ·exact v u b q g
theorem uj.less{d:Nat}{b:cI}(q:uj d l b)(p:Nat->Int)(j n:Nat):uj d l (Ea b p j n):=λi u e g=>by
 unfold Ea;split
 ·exact uf _
 ·exact q i u e g
theorem uj.pivR{b:Nat}{e:cI}(g:uj b l e){d:Nat}(p:d<b):uj b l (pivR e b d j k):=
 ((g.put λq n=>g d q p n).less _ _ _).put λ_ _=>uf _
theorem TJ{b:Nat}{d:cI}(g:uj b l d):∀j,uj b l (pV b d j).1
 |0=>g
 |j+1=>by
  rw[OV];have e:=TJ g j;generalize pV b d j=n at e;unfold Bh;split
  ·rename_i p;exact e.pivR (NY (Ou n.1 b j n.2.length) p)
  ·exact e
theorem am1{r:Program}{f:Oper}{b:Act}{o:Exit->Act->World->Prop}{e p:World}(v:f.guard=none)(u q:Operand)(d:TypeId)
  (x:f.op=.call {callee:=.builtin .append,args:=#[u,q],argTypes:=#[d,d]}) (a g n:Value) (z:b.eval u=a) (B:b.eval q=g)
  (y:(Builtin.append_ #[d,d] f.type #[a,g]).run r e=.ok n p) (C:wpList r c o t (b.put f.dst n) p):wpList r c o (f::t) b e:=by
 refine wpList_plain v λD w=>?_;unfold Oper.wp execOp;simp only[x,resolve,invoke,builtin,Cm,Sem.run_pure,Result.andThen_ok,List.map_toArray,zQ,FI,z,B,y];exact w _ _ C
theorem am2(e:Int)(b:World):Calls prog 213 #[e] b λg d=>g=.returned false/\b=d:=by
 go_enter func213,ntmps213;go_wp2_with fail;go_ret;exact⟨rfl,rfl⟩
theorem am3(e:Int)(b:World):Calls prog 202 #[e] b λg d=>g=.returned false/\b=d:=by
 go_enter func202,ntmps202;go_wp2_with fail;go_ret;exact⟨rfl,rfl⟩
theorem aei(b g:Int)(d:World):Calls prog 201 #[b,g] d λn e=>n=.returned (.bool (decide (b<g)))/\d=e:=by
 go_enter func201,ntmps201;go_wp2_with fail;with_reducible refine(am2 b _).mono ?_
 rintro p e ⟨rfl,rfl⟩;go_wp2_with fail;go_ret;exact⟨rfl,rfl⟩
theorem am4(a:Value)(e:V)(g:Int)(B:World)(T:aM B a e)(X:e.Pairwise (·<·))(hl:e.length<=1000000000):
  Calls prog 173 #[a,g] B λz3z F=>(∃i:Nat,z3z=.returned (.tuple #[.int .i64 i,.bool (decide (g∈e))]))/\Below B B F:=by
 obtain⟨H,HI⟩:=aR (Co.1 X) T;obtain⟨z0z,cap,rfl,-,-,-,W⟩:=T;have O:=A W;clear X W;go_enter func173,ntmps173;go_wp2_with fail;go_loopw[7,8,9] (λi M d z0=>∃b n:Nat,b<=n/\n<=e.length/\i=b/\M=n/\Hid (∀l (u:l<e.length),l<b->e[l]<g)/\Hid (∀l (u:l<e.length),n<=l->g<=e[l])/\Below B B z0) (λi M _ _=>(intOf M).toNat-(intOf i).toNat);case atStart=>exact⟨0,e.length,bS _,aP _,rfl,rfl,A (λl _ d=>absurd d (fG _)),A (λl I Q=>absurd I (by omega)),aY _ _⟩
 case round =>
  obtain⟨b,n,TK,Z,rfl,rfl,G,N,x⟩:=hrel;by_cases aq:b<n
  ·have h0:(b:Int)<(n:Int):=by omega
   have I:IntKind.i64.wrap ((b:Int)+(n:Int))=(b:Int)+(n:Int):=jw _ (by omega);have Q:IntKind.u64.wrap ((b:Int)+(n:Int))=(b:Int)+(n:Int):=IntWalk.u64_in _ (by omega);obtain⟨d,hh⟩:∃d:Nat,d=(b+n)/2:=⟨_,rfl⟩;have h3:((b:Int)+(n:Int))/2=(d:Int):=by omega
   have h4:d<n:=by omega
   have h5:b<=d:=by omega
   have K:d<e.length:=by omega
   obtain⟨z1,off,rfl,C⟩:=O.1 d K;have L:=U x C;have h7:(0:Int)<=(d:Int):=by omega
   have R:(d:Int)<(e.length:Int):=by omega
   obtain⟨q,z⟩:=aK (e[d]);rw[<-z]at L;have P:=A z;clear hh z C;by_cases v:q<g
   ·have y:decide (q<g)=true:=bB v;clear v;go_wp2_with fail;with_reducible refine(aei q g _).mono ?_
    rintro p F ⟨rfl,rfl⟩;go_wp2_with fail;go_roundw;case rel=>exact⟨d+1,n,by omega,Z,by go_num,rfl,A (λl u pR=>by
     have S:e[d]<g:=P.1▸Cp y;by_cases p:l=d
     ·subst p;exact S
     ·have:=H.1 l d u K (by omega);omega),N,x⟩
    case measure=>simp[intOf];omega
   ·have y:decide (q<g)=false:=bw v;clear v;go_wp2_with fail;with_reducible refine(aei q g _).mono ?_
    rintro p F ⟨rfl,rfl⟩;go_wp2_with fail;go_roundw;case rel=>exact⟨b,d,h5,by omega,rfl,rfl,G,A (λl u rG=>by
     have S:¬ e[d]<g:=P.1▸of_decide_eq_false y;by_cases p:l=d
     ·subst p;omega
     ·have:=H.1 d l K u (by omega);omega),x⟩
    case measure=>simp[intOf];omega
  ·obtain rfl:b=n:=by omega
   have h0:decide ((b:Int)<(b:Int))=false:=by simp
   by_cases D:b<e.length
   ·obtain⟨z1,off,rfl,C⟩:=O.1 b D;have L:=U x C;have h7:(0:Int)<=(b:Int):=by omega
    have R:(b:Int)<(e.length:Int):=by omega
    have w:Hid (decide (g∈e)=(e[b]==g)):=A (by
     by_cases p:e[b]=g
     ·rw[bB (p▸bM D),gI.2 p]
     ·rw[eH.2 p,bw];intro u;obtain⟨l,E,rfl⟩:=FJ.1 u;rcases SH l b with d|d|d
      ·have:=G.1 l E d;omega
      ·subst d;exact p rfl
      ·have I:=N.1 b D (aP _);have Q:=H.1 b l D E d;omega)
    obtain⟨q,z⟩:=aK (e[b]);rw[<-z]at L w;clear z C;by_cases v:q=g
    ·have y:(q==g)=true:=gI.2 v;rw[y]at w;subst v;go_wp2_with fail;go_ret2;exact⟨⟨b,by rw[w.1];rfl⟩,x⟩
    ·have y:(q==g)=false:=eH.2 v;rw[y]at w;go_wp2_with fail;with_reducible refine(am3 q _).mono ?_
     rintro p F ⟨rfl,rfl⟩;go_wp2_with fail;go_ret2;exact⟨⟨b,by rw[w.1];rfl⟩,x⟩
   ·have R:decide ((b:Int)<(e.length:Int))=false:=bw (by omega);have w:Hid (decide (g∈e)=false):=A (bw (λu=>by
     obtain⟨l,E,rfl⟩:=FJ.1 u;have:=G.1 l E (by omega);omega))
    go_wp2_with fail;go_ret2;exact⟨⟨b,by rw[w.1];rfl⟩,x⟩
section
variable {r:Program} {c:Array Oper} {o:Exit->Act->World->Prop}
def mQ(d:Bool)(f:Oper)(e:Value)(b:Act):Act:=if d=true then b.put f.dst e else b
def jP(done:Nat->Bool)(a:Nat->Value):List Oper->Nat->Act->Act
 |[],_,b=>b
 |f::d,k,b=>jP done a d (k+1) (mQ (done k) f (a k) b)
def canon(c:Array Oper)(done:Nat->Bool)(a:Nat->Value)(b:Act):Act:=jP done a c.toList 0 b
def uk(b d:Option Tmp):Bool:=match b,d with
 |some e,some g=>!(e==g)
 |_,_=>true
theorem put_comm{b:Act}{e g:Option Tmp}(u:uk e g=true)(d a:Value):(b.put e d).put g a=(b.put g a).put e d:=by
 cases e with
 |none=>rfl
 |some n=>cases g with
  |none=>rfl
  |some p =>
   have q:n≠p:=by simpa [uk] using u
   show(⟨(b.tmps.setIfInBounds n d).setIfInBounds p a,b.defers⟩:Act)=⟨(b.tmps.setIfInBounds p a).setIfInBounds n d,b.defers⟩;rw[Array.setIfInBounds_comm _ _ q]
theorem aej{done:Nat->Bool}{a:Nat->Value}:∀(n:List Oper) (k:Nat) (e:Act) (b:Option Tmp) (d:Value),(∀f∈n,uk b f.dst=true)->jP done a n k (e.put b d)=(jP done a n k e).put b d
 |[],_,_,_,_,_=>rfl
 |f::q,k,e,b,d,p=>by
  have v:=p f wh;have u:mQ (done k) f (a k) (e.put b d)=(mQ (done k) f (a k) e).put b d:=by
   unfold mQ;by_cases g:done k=true
   ·rw[aD g,aD g,put_comm v]
   ·rw[aA g,aA g]
  show jP done a q (k+1) (mQ (done k) f (a k) (e.put b d))=_;rw[u];exact aej q (k+1) _ b d (λx w=>p x (wi _ w))
theorem aek{done e:Nat->Bool}{a g:Nat->Value}:∀(q:List Oper) (k:Nat) (d:Act),(∀b,k<=b->done b=e b/\a b=g b)->jP done a q k d=jP e g q k d
 |[],_,_,_=>rfl
 |f::p,k,d,n=>by
  show jP done a p (k+1) (mQ (done k) f (a k) d)=jP e g p (k+1) (mQ (e k) f (g k) d);rw[(n k (aP _)).1,(n k (aP _)).2];exact aek p (k+1) _ (λb u=>n b (by omega))
def kD(done:Nat->Bool)(i:Nat):Nat->Bool:=λk=>decide (k=i)||done k
def nw(a:Nat->Value)(i:Nat)(b:Value):Nat->Value:=λk=>if k=i then b else a k
def um:List Oper->Bool
 |[]=>true
 |f::b=>b.all (λd=>uk f.dst d.dst)&&um b
theorem ael{done:Nat->Bool}{a:Nat->Value}{i:Nat}{b:Value}(y:done i=false):∀(p:List Oper) (k:Nat) (e:Act) (f:Oper),k<=i->p[i-k]?=some f->um p=true->jP (kD done i) (nw a i b) p k e=(jP done a p k e).put f.dst b
 |[],_,_,_,_,n,_=>by simp at n
 |g::d,k,e,f,D,n,B=>by
  have x:d.all (λw=>uk g.dst w.dst)=true/\um d=true:=by
   have:=B;unfold um at this;rwa [cu]at this
  by_cases q:k=i
  ·subst q;rw[zI]at n;simp only[SI,tX]at n;subst n;show jP (kD done k) (nw a k b) d (k+1) (mQ (kD done k k) g (nw a k b k) e)=(jP done a d (k+1) (mQ (done k) g (a k) e)).put g.dst b;have u:kD done k k=true:=by simp[kD]
   have v:nw a k b k=b:=by simp[nw]
   rw[u,v,y];show jP (kD done k) (nw a k b) d (k+1) (e.put g.dst b)=(jP done a d (k+1) e).put g.dst b;rw[<-aej d (k+1) e g.dst b (λw z=>fg.1 x.1 w z)];exact aek d (k+1) _ (λE C=>⟨by unfold kD;rw[bw (by omega)];rfl,by unfold nw;rw[aA (by omega)]⟩)
  ·show jP (kD done i) (nw a i b) d (k+1) (mQ (kD done i k) g (nw a i b k) e)=(jP done a d (k+1) (mQ (done k) g (a k) e)).put f.dst b;have u:kD done i k=done k:=by unfold kD;rw[bw q];rfl
   have v:nw a i b k=a k:=by unfold nw;rw[aA q]
   rw[u,v];refine ael y d (k+1) _ f (by omega) ?_ x.2;rw[show i-k=(i-(k+1))+1 by omega]at n;simpa using n
theorem aem(d:Bool)(f:Oper)(e:Value)(b:Act):(mQ d f e b).tmps.size=b.tmps.size:=by
 unfold mQ;cases d with
 |false=>rfl
 |true =>
  show(b.put f.dst e).tmps.size=_;unfold Act.put;cases f.dst<;>simp
theorem aen{e:Act}{d:Option Tmp}{g:Value}{b:Nat}(q:uk d (some b)=true):(e.put d g).tmps.getD b undef=e.tmps.getD b undef:=by
 cases d with
 |none=>rfl
 |some n =>
  have p:n≠b:=by simpa [uk] using q
  show(e.tmps.setIfInBounds n g).getD b undef=_;rw[gi,gi,Xt p]
theorem TM{done:Nat->Bool}{a:Nat->Value}{d:Nat}:∀(n:List Oper) (k:Nat) (b:Act),(∀f∈n,uk f.dst (some d)=true)->(jP done a n k b).tmps.getD d undef=b.tmps.getD d undef
 |[],_,_,_=>rfl
 |f::p,k,b,g=>by
  show(jP done a p (k+1) (mQ (done k) f (a k) b)).tmps.getD d undef=_;rw[TM p (k+1) _ (λu q=>g u (wi _ q))];unfold mQ;by_cases e:done k=true
  ·rw[aD e,aen (g f wh)]
  ·rw[aA e]
theorem aeo{b d:Option Tmp}(g:uk b d=true):uk d b=true:=by
 cases b<;>cases d<;>simp_all[uk];exact λe=>g e.symm
theorem aep{done:Nat->Bool}{a:Nat->Value}{d i:Nat}(v:done i=true):∀(q:List Oper) (k:Nat) (e:Act) (f:Oper),k<=i->q[i-k]?=some f->f.dst=some d->um q=true->d<e.tmps.size->(jP done a q k e).tmps.getD d undef=a i
 |[],_,_,_,_,b,_,_,_=>by simp at b
 |x::g,k,e,f,C,b,n,B,w=>by
  have u:g.all (λp=>uk x.dst p.dst)=true/\um g=true:=by
   have:=B;unfold um at this;rwa [cu]at this
  show(jP done a g (k+1) (mQ (done k) x (a k) e)).tmps.getD d undef=_;by_cases y:k=i
  ·subst y;rw[zI]at b;simp only[SI,tX]at b;subst b;rw[TM g (k+1) _ (λp z=>by
    have:=fg.1 u.1 p z;rw[n]at this;exact aeo this),v]
   unfold mQ;rw[aD rfl,n];show(e.tmps.setIfInBounds d (a k)).getD d undef=_;simp[Array.getD,w]
  ·refine aep v g (k+1) _ f (by omega) ?_ n u.2 (by rw[aem];exact w);rw[show i-k=(i-(k+1))+1 by omega]at b;simpa using b
theorem am5{done:Nat->Bool}{a:Nat->Value}{b:Act}{i d:Nat}{f:Oper}(g:c[i]?=some f)(n:f.dst=some d)(q:um c.toList=true)(p:d<b.tmps.size)(e:done i=true):(canon c done a b).eval (.tmp d)=a i:=
 aep e c.toList 0 b f (bS _) (by rw[Nat.sub_zero,sR];exact g) n q p
theorem am6{done:Nat->Bool}{a:Nat->Value}{b:Act}{d:Nat}(g:(c.toList.all λf=>uk f.dst (some d))=true):(canon c done a b).eval (.tmp d)=b.eval (.tmp d):=
 TM c.toList 0 b (λf e=>fg.1 g f e)
theorem aeq{p d:Nat->Bool}:∀{n:aO} {i:Nat},(∀k,d k=true->p k=true)->i∈n->p i=true->d i=false->n.countP d<n.countP p
 |[],_,_,b,_,_=>by cases b
 |v::w,i,g,b,q,u=>by
  have z:w.countP d<=w.countP p:=List.countP_mono_left λy _ x=>g y x;rw[List.countP_cons,List.countP_cons];rcases iu.1 b with rfl|b
  ·rw[q,u];simp;omega
  ·have:=aeq g b q u;by_cases e:d v=true
   ·rw[e,g v e];simp;omega
   ·rw[Bool.not_eq_true]at e;rw[e];simp;omega
def Lx(c:Array Oper):Bool:=(List.range c.size).all λi=>match c[i]? with
 |some f=>f.after.all λb=>!Region.binds .any b||decide (b.on<i)
 |none=>true
theorem aer(v:Lx c=true){i:Nat}{f:Oper}(g:c[i]?=some f):∀b∈f.after,Region.binds .any b=true->b.on<i:=λb p n=>by
 have q:i<c.size:=(fF.1 g).1;have d:=fg.1 v i (dT.2 q);rw[g]at d;obtain⟨k,u,rfl⟩:=Array.mem_iff_getElem.1 p;have e:=Array.all_eq_true.1 d k u;rw[n]at e;simpa using e
theorem am7(q:Lx c=true){b:Array Bool}(y:b.size=c.size)(w:Region.ready .any c b=[]):∀i,i<c.size->b.getD i false=true:=by
 intro i
 induction i using Nat.strongRecOn with
 |ind i x =>
  intro u;cases e:b.getD i false with
  |true=>rfl
  |false =>
   have d:c[i]?=some c[i]:=lM u;have:i∈Region.ready .any c b:=xW.2 ⟨by
    have v:i<b.size:=by omega
    simp[Array.getD,v]at e ⊢;exact e,_,d,λg p n=>x _ (aer q d g p n) (by have:=aer q d g p n;omega)⟩
   rw[w]at this;cases this
end
def CF(f:Oper):aO:=(f.after.toList.filter λb=>Region.binds .any b).map (·.on)
section
variable (r:Program) (c:Array Oper) (o:Exit->Act->World->Prop) (h:Act) (m:(Nat->Bool)->(Nat->Value)->World->Prop)
end
section
variable {r:Program} {c:Array Oper} {o:Exit->Act->World->Prop}
def jG(a:Nat->Value):List Oper->Nat->Act->Act
 |[],_,b=>b
 |f::d,k,b=>jG a d (k+1) (b.put f.dst (a k))
theorem aes{done:Nat->Bool}(a:Nat->Value):∀(e:List Oper) (k:Nat) (d:Act),(∀b,b<e.length->done (k+b)=true)->jP done a e k d=jG a e k d
 |[],_,_,_=>rfl
 |f::g,k,d,n=>by
  have p:done k=true:=n 0 (by simp);show jP done a g (k+1) (mQ (done k) f (a k) d)=jG a g (k+1) (d.put f.dst (a k));unfold mQ;rw[aD p];exact aes a g (k+1) _ (λb q=>by
   have:=n (b+1) (by simp;omega);rw[show k+1+b=k+(b+1) by omega];exact this)
theorem rX{done:Nat->Bool}{b k:Nat}(g:done b=true->done k=true)(d:done k=false):done b=false:=by
 cases e:done b with
 |false=>rfl
 |true=>rw[g e]at d;cases d
end
section
variable {r:Program} {c:Array Oper} {o:Exit->Act->World->Prop}
theorem am8(T:um c.toList=true)(S:Lx c=true){h:Act}(m:(Nat->Bool)->(Nat->Value)->World->Prop)
  (W:∀(i:Nat) (f:Oper),c[i]?=some f->∀(done:Nat->Bool) (a:Nat->Value) (d:World),m done a d->done i=false->(∀g∈f.after,Region.binds .any g=true->done g.on=true)->(Region.wanted f (yielded c (canon c done a h).tmps)=true->f.wp r (canon c done a h) d (λK p=>∃e,K=(canon c done a h).put f.dst e/\m (kD done i) (nw a i e) p) o)/\(Region.wanted f (yielded c (canon c done a h).tmps)=false->m (kD done i) (nw a i undef) d))
  (O:∀(a:Nat->Value) (d:World),m (λk=>decide (k<c.size)) a d->o .normal (canon c (λk=>decide (k<c.size)) a h) d):
  ∀(v:Nat) (b:Array Bool) (a:Nat->Value) (d:World),b.size=c.size->((List.range c.size).countP λk=>!b.getD k false)<=v->m (λk=>b.getD k false) a d->wpAny r .any c o v b (canon c (λk=>b.getD k false) a h) d:=by
 have M:∀(b:Array Bool) (a:Nat->Value) (d:World),b.size=c.size->Region.ready .any c b=[]->m (λk=>b.getD k false) a d->o .normal (canon c (λk=>b.getD k false) a h) d:=λb a d u I q=>by
  have g:(λk=>b.getD k false)=λk=>decide (k<c.size):=funext λk=>by
   by_cases n:k<c.size
   ·rw[am7 S u I k n,bB n]
   ·rw[bw n];have:¬ k<b.size:=by omega
    simp[Array.getD,this]
  rw[g]at q ⊢;exact O a d q
 intro v
 induction v with
 |zero =>
  intro b a d u N q;have L:Region.ready .any c b=[]:=by
   rw[List.eq_nil_iff_forall_not_mem];intro i H;obtain⟨x,f,w,-⟩:=xW.1 H;have E:i<c.size:=(fF.1 w).1;have C:i<b.size:=by omega
   have y:b.getD i false=false:=by simp[Array.getD,C]at x ⊢;exact x
   have z:=List.countP_eq_zero.1 (Nat.le_zero.1 N) i (dT.2 E);rw[y]at z;exact z rfl
  exact⟨L,M b a d u L q⟩
 |succ v R =>
  intro b a d u N q;refine⟨λI=>M b a d u I q,λi H=>?_⟩;obtain⟨x,f,w,P⟩:=xW.1 H;have E:i<c.size:=(fF.1 w).1;have C:i<b.size:=by omega
  have y:b.getD i false=false:=by simp[Array.getD,C]at x ⊢;exact x
  have z:=W i f w (λk=>b.getD k false) a d q y P;have B:(λk=>(b.setIfInBounds i true).getD k false)=kD (λk=>b.getD k false) i:=funext λk=>by
   unfold kD;by_cases g:k=i
   ·subst g;simp[Array.getD,C]
   ·rw[gi,Xt (λF=>g F.symm),bw g,<-gi];rfl
  have next:∀(e:Value) (p:World),m (kD (λk=>b.getD k false) i) (nw a i e) p->wpAny r .any c o v (b.setIfInBounds i true) ((canon c (λk=>b.getD k false) a h).put f.dst e) p:=λe p G=>by
   have F:(canon c (λk=>b.getD k false) a h).put f.dst e=canon c (kD (λk=>b.getD k false) i) (nw a i e) h:=
    (ael y c.toList 0 h f (bS _) (by rw[Nat.sub_zero,sR];exact w) T).symm
   rw[F,<-B];refine R (b.setIfInBounds i true) (nw a i e) p (by simp;exact u) ?_ (by rw[B];exact G);have X:((List.range c.size).countP λk=>!(b.setIfInBounds i true).getD k false)<(List.range c.size).countP λk=>!b.getD k false:=by
    refine aeq (λk n=>?_) (dT.2 E) (by rw[y];rfl) (by
     have this:(b.setIfInBounds i true).getD i false=kD (λk=>b.getD k false) i i:=congrFun B i;rw[this];simp[kD])
    have this:(b.setIfInBounds i true).getD k false=kD (λk=>b.getD k false) i k:=congrFun B k;rw[this]at n;unfold kD at n;simp only[FL,Bool.or_eq_false_iff]at n;rw[n.2];rfl
   omega
  unfold wpOp;rw[w];simp only;by_cases D:Region.wanted f (yielded c (canon c (λk=>b.getD k false) a h).tmps)=true
  ·rw[aD D];refine .inl (Oper.wp_mono (λK p Q=>?_) (z.1 D));obtain⟨e,rfl,G⟩:=Q;exact next e p G
  ·rw[aA D];exact next undef d (z.2 (by simpa using D))
end
section
variable (r:Program) (c:Array Oper) (o:Exit->Act->World->Prop) (h:Act) (m:(Nat->Bool)->(Nat->Value)->World->Prop)
structure FS(i:Nat)(f:Oper)(done:Nat->Bool)(a:Nat->Value)(s:Act):Prop where
 hd:done i=false
 hp:∀k,(CF f).contains k=true->done k=true
 hu:∀d k,(match c[d]? with|some p=>(CF p).contains k|none=>false)=true->done d=true->done k=true
 hA:∀d b,((c[d]?).bind (·.dst)==some b&&decide (b<h.tmps.size))=true->done d=true->s.tmps[b]?.getD undef=a d
 hB:∀b,(c.toList.all λf=>uk f.dst (some b))=true->s.tmps[b]?.getD undef=h.eval (.tmp b)
 hf:s.defers=h.defers/\∀d b,((c[d]?).bind (·.dst)==some b)=true->done d=false->s.tmps[b]?.getD undef=h.eval (.tmp b)
def aet(i:Nat)(f:Oper):Prop:=∀(done:Nat->Bool) (a:Nat->Value) (d:World) (s:Act),m done a d->FS c h i f done a s ->
 match f.guard with
 |none=>f.wp r s d (λe g=>∃b,e=s.put f.dst b/\m (kD done i) (nw a i b) g) o
 |some (p,n)=>∃b,a p=.bool b/\(b=n->f.wp r s d (λe g=>∃b,e=s.put f.dst b/\m (kD done i) (nw a i b) g) o)/\(b≠n->m (kD done i) (nw a i undef) d)
def OX:List Oper->Nat->Prop
 |[],_=>True
 |f::b,i=>aet r c o h m i f/\OX b (i+1)
def YK(d:Nat):Bool:=c.toList.all λf=>match f.guard with
 |none=>true
 |some (b,_)=>(CF f).contains b&&(match (c[b]?).bind (·.dst) with|some e=>decide (e<d)|none=>false)
end
abbrev KQ(b:Nat->Bool)(a:Nat->Value)(i:Nat)(d:Value):Prop:=b i=true->a i=d
theorem lnQ{α:Type}{b:α}{p:Prop}(d:b≠b):p:=absurd rfl d
theorem aB{α:Type}{b:α}{p:Prop}(_:p):b=b:=rfl
section
variable {r:Program} {c:Array Oper} {o:Exit->Act->World->Prop} {h:Act} {i:Nat} {f:Oper} {done:Nat->Bool} {a:Nat->Value} {s:Act}
theorem FS.d(b:FS c h i f done a s)(k:Nat)(d:(CF f).contains k=true:=by exact rfl):done k=true:=b.hp k d
theorem FS.E(e:FS c h i f done a s)(b d:Nat)(n:((c[b]?).bind (·.dst)==some d&&decide (d<h.tmps.size))=true:=by exact rfl)(g:(CF f).contains b=true:=by exact rfl):s.tmps[d]?.getD undef=a b:=e.hA b d n (e.hp b g)
theorem FS.e(g:FS c h i f done a s)(b d:Nat){n:Value}(p:done b=true->a b=n)(q:((c[b]?).bind (·.dst)==some d&&decide (d<h.tmps.size))=true:=by exact rfl)(e:(CF f).contains b=true:=by exact rfl):s.tmps[d]?.getD undef=n:=(g.E b d q e).trans (p (g.hp b e))
theorem FS.b(g:FS c h i f done a s)(b:Nat)(d:Value)(n:(c.toList.all λf=>uk f.dst (some b))=true:=by exact rfl)(e:h.eval (.tmp b)=d:=by exact rfl):s.tmps[b]?.getD undef=d:=(g.hB b n).trans e
theorem FS.n(d:FS c h i f done a s)(b:Nat)(e:(match c[b]? with|some p=>(CF p).contains i|none=>false)=true:=by exact rfl):done b=false:=rX (d.hu b i e) d.hd
theorem FS.g(q:FS c h i f done a s)(b:Nat){d:Bool}{g n:Prop}(p:done b=true->a b=.bool d)(k:g)(u:(CF f).contains b=true:=by exact rfl):∃e,a b=.bool e/\(e=d->g)/\(e≠d->n):=⟨d,p (q.hp b u),λ_=>k,lnQ⟩
end
section
variable {r:Program} {c:Array Oper} {o:Exit->Act->World->Prop}
theorem aeu{h:Act}{m:(Nat->Bool)->(Nat->Value)->World->Prop}:∀(e:List Oper) (k i:Nat) (f:Oper),OX r c o h m e k->e[i]?=some f->aet r c o h m (k+i) f
 |[],_,_,_,_,b=>by simp at b
 |p::n,k,i,f,d,b=>by
  cases i with
  |zero =>
   simp only[SI,tX]at b;subst b;exact d.1
  |succ i =>
   have g:=aeu n (k+1) i f d.2 (by simpa using b);rw[show k+(i+1)=k+1+i by omega];exact g
theorem aev{done:Nat->Bool}{a:Nat->Value}:∀(e:List Oper) (k:Nat) (b:Act),(jP done a e k b).tmps.size=b.tmps.size
 |[],_,_=>rfl
 |f::d,k,b=>by
  show(jP done a d (k+1) (mQ (done k) f (a k) b)).tmps.size=_;rw[aev d,aem]
theorem aew{done:Nat->Bool}{a:Nat->Value}:∀(e:List Oper) (k:Nat) (b:Act),(jP done a e k b).defers=b.defers
 |[],_,_=>rfl
 |f::d,k,b=>by
  show(jP done a d (k+1) (mQ (done k) f (a k) b)).defers=_;rw[aew d];unfold mQ;split
  ·unfold Act.put;split<;>rfl
  ·rfl
theorem aex{done:Nat->Bool}{a:Nat->Value}{g i:Nat}(y:done i=false):∀(u:List Oper) (k:Nat) (e:Act) (f:Oper),k<=i->u[i-k]?=some f->f.dst=some g->um u=true->(jP done a u k e).tmps.getD g undef=e.tmps.getD g undef
 |[],_,_,_,_,b,_,_=>by simp at b
 |z::d,k,e,f,E,b,p,D=>by
  have n:d.all (λq=>uk z.dst q.dst)=true/\um d=true:=by
   have:=D;unfold um at this;rwa [cu]at this
  show(jP done a d (k+1) (mQ (done k) z (a k) e)).tmps.getD g undef=_;by_cases B:k=i
  ·subst B;rw[zI]at b;simp only[SI,tX]at b;subst b;rw[TM d (k+1) _ (λq C=>by
    have:=fg.1 n.1 q C;rw[p]at this;exact aeo this),y]
   rfl
  ·rw[show i-k=(i-(k+1))+1 by omega]at b;have v:d[i-(k+1)]?=some f:=by simpa using b
   rw[aex y d (k+1) _ f (by omega) v p n.2];have w:=fg.1 n.1 f (SJ v);rw[p]at w;unfold mQ;by_cases x:done k=true
   ·rw[aD x,aen w]
   ·rw[aA x]
theorem am9{done:Nat->Bool}{a:Nat->Value}{d:Act}(v:um c.toList=true)(e b:Nat)(w:((c[e]?).bind (·.dst)==some b)=true)(q:done e=false):(canon c done a d).tmps[b]?.getD undef=d.eval (.tmp b):=by
 have p:(c[e]?).bind (·.dst)=some b:=by simpa using w
 obtain⟨u,g,n⟩:=Option.bind_eq_some_iff.1 p;rw[<-gi];exact aex q c.toList 0 d u (bS _) (by rw[Nat.sub_zero,sR];exact g) n v
theorem aey{h:Act}{g:World}(Q:um c.toList=true)(dE:YK c h.tmps.size=true)(jF:Lx c=true)(m:(Nat->Bool)->(Nat->Value)->World->Prop)
  (h0:∀a,m (λ_=>false) a g.drew) (sV:OX r c o h m c.toList 0)
  (Gb:∀(a:Nat->Value) (g:World),m (λk=>decide (k<c.size)) a g->o .normal (jG a c.toList 0 h) g):wpAny r .any c o c.size (Array.replicate c.size false) h g.drew:=by
 let E:(Nat->Bool)->(Nat->Value)->World->Prop:=λdone a g=>m done a g/\∀e k,(match c[e]? with|some R=>(CF R).contains k|none=>false)=true->done e=true->done k=true
 have h0J:∀a,E (λ_=>false) a g.drew:=λa=>⟨h0 a,λ_ _ _ d=>by cases d⟩;have w:(λk=>(Array.replicate c.size false).getD k false)=λ_=>false:=funext λk=>by
  by_cases d:k<c.size<;>simp[Array.getD,d]
 have K:∀(T:List Oper) (k:Nat) (D:Act),jP (λ_=>false) (λ_=>undef) T k D=D:=by
  intro T
  induction T with
  |nil=>intro k D;rfl
  |cons f z4z ih=>intro k D;exact ih (k+1) D
 have d:=am8 (r:=r) (o:=o) Q jF (h:=h) E (λi f O done a g N hd YJ=>?st) (λa g N=>?en) c.size (Array.replicate c.size false) (λ_=>undef) g.drew (by simp) (by
  refine bK List.countP_le_length ?_;simp) (by rw[w];exact h0J _)
 rw[w]at d;have e3:canon c (λ_=>false) (λ_=>undef) h=h:=K c.toList 0 h;rw[e3]at d;exact d;case st =>
  obtain⟨hI,hU⟩:=N;have z:=aeu c.toList 0 i f sV (by rw[sR];exact O);rw[iN]at z;have S:∀k,(CF f).contains k=true->done k=true:=λk hk=>by
   rw[SA]at hk;obtain⟨w,he,rfl⟩:=ey.1 hk;obtain⟨IE,Ly⟩:=Cq.1 he;exact YJ w (Array.mem_toList_iff.1 IE) Ly
  have W:∀e n,((c[e]?).bind (·.dst)==some n&&decide (n<h.tmps.size))=true->done e=true->(canon c done a h).tmps.getD n undef=a e:=λe n u P=>by
   rw[cu,fU]at u;obtain⟨q,L⟩:=u;have B:(c[e]?).bind (·.dst)=some n:=by simpa using q
   obtain⟨o',G,K⟩:=Option.bind_eq_some_iff.1 B;exact am5 G K Q L P
  have q:=z done a g (canon c done a h) hI ⟨hd,S,hU,λe n u P=>(gi).symm.trans (W e n u P),λn y=>(gi ..).symm.trans (am6 y),aew _ _ _,am9 Q⟩;have hJ':∀b p,m (kD done i) (nw a i b) p->E (kD done i) (nw a i b) p:=λb p v=>⟨v,λe k I u=>by
   show(decide (k=i)||done k)=true;by_cases G:e=i
   ·subst G;rw[O]at I;rw[S k I,N0]
   ·have mH:(decide (e=i)||done e)=true:=u;rw[bw G,DB]at mH;rw[hU e k I mH,N0]⟩
  have up:f.wp r (canon c done a h) g (λF p=>∃b,F=(canon c done a h).put f.dst b/\m (kD done i) (nw a i b) p) o->f.wp r (canon c done a h) g (λF p=>∃b,F=(canon c done a h).put f.dst b/\E (kD done i) (nw a i b) p) o:=λq =>
   Oper.wp_mono (λF p B=>by obtain⟨b,w,v⟩:=B;exact⟨b,w,hJ' b p v⟩) q
  cases C:f.guard with
  |none =>
   rw[C]at q;have hw:Region.wanted f (yielded c (canon c done a h).tmps)=true:=by unfold Region.wanted;rw[C]
   exact⟨λ_=>up q,λd=>by rw[hw]at d;cases d⟩
  |some R =>
   obtain⟨H,Z⟩:=R;rw[C]at q;obtain⟨b,hx,L,B⟩:=q;have v:=fg.1 dE f (by
    obtain⟨aq,rfl⟩:=fF.1 O;exact Xr aq)
   rw[C]at v;simp only[cu]at v;obtain⟨h6,x⟩:=v;have hdg:=S H h6;cases y:(c[H]?).bind (·.dst) with
   |none=>rw[y]at x;cases x
   |some n =>
    rw[y]at x;simp only[fU]at x;have M:=W H n (by rw[y];simp[x]) hdg;have h9:yielded c (canon c done a h).tmps H=some b:=by
     unfold yielded;rw[y];have IF:(canon c done a h).tmps[n]?=some (.bool b):=by
      have dh:n<(canon c done a h).tmps.size:=by unfold canon;rw[aev];exact x
      rw[lM dh];rw[gi,lM dh]at M;rw[hx]at M;exact congrArg some M
     simp only[Option.bind_some,IF]
    have X:Region.wanted f (yielded c (canon c done a h).tmps)=decide (b=Z):=by
     unfold Region.wanted;rw[C];simp only[h9];cases b<;>cases Z<;>rfl
    refine⟨λd=>up (L (by rw[X]at d;exact Cp d)),λd=>hJ' _ _ (B (by rw[X]at d;exact of_decide_eq_false d))⟩
 case en =>
  have z:=Gb a g N.1;rw[<-aes (done:=λk=>decide (k<c.size)) a c.toList 0 h (λe u=>by
   rw[iN];exact bB (by simpa using u))]at z
  exact z
theorem nW{id:Nat}{h:Act}{b:World}(m:(Nat->Bool)->(Nat->Value)->World->Prop)
  (g:∀a,m (λ_=>false) a b.drew) (u:OX r c o h m c.toList 0)
  (d:∀(a:Nat->Value) (b:World),m (λk=>decide (k<c.size)) a b->o .normal (jG a c.toList 0 h) b) (n:r.follows .mixedOrders=true:=by kernel_rfl) (q:um c.toList=true:=by kernel_rfl) (e:YK c h.tmps.size=true:=by kernel_rfl) (p:Lx c=true:=by kernel_rfl):(Code.region id c true).wp r o h b:=wp_region_any n (aey q e p m g u d)
end
