/- Package keygen, in plain Lean: all deal as Deal does. -/
import Derived.Test.YtaifagjclanodaaGreatDoorMKgH
import Derived.Test.YtaifagjclanodaaGreatDoorMMvC
import Derived.Test.YtaifagjclanodaaGreatDoorMKgE
import Derived.Laws.OwnMore
set_option maxHeartbeats 4000000
set_option maxRecDepth 100000
namespace Go.Proofs.YtaifagjclanodaaGreatDoor
open Go.Proofs.Tryz
open Go.RowKit FP
variable{ops:Array Oper}{cs:Array Value}{i:Bool}{B:Int}{rest:List Oper}{xs:List Value}{x G g d k n:Nat}{R:Oper}{e:Option Addr}{r:Option Nat}{f h:TypeId}{j v z:Value}{W C b w w' w0:World}{N:aO}{c F l t m o s:V}{a:ak}
section
variable {a:ak} {c F bu:V}
abbrev Dl:=Int×V×V
def Fl(a:ak)(c F:V)(k:Nat)(h:Dl):bD:=sG a c F (2*(k:Int)) h.1 h.2.1 h.2.2
def G1(a:ak)(c F:V)(u:List Dl):List bD:=(List.range u.length).map λk=>Fl a c F k (u.getD k (0,[],[]))
def Rr(a:ak)(c F:V)(u:List Dl):Prop:=∀k (q:k<u.length),tP a c F (2*(k:Int)) u[k].1 u[k].2.1 u[k].2.2
def zn:List Dl->V
 |[]=>[]
 |h::u=>uF (h.1::h.2.1) (u.map λh=>h.1::h.2.1)
theorem aiF:∀(q:ak) (m:V),(∀z∈q,z.length=m.length)->lZ (bt m) (q.map bt)=bt (uF m q)
 |[],_,_=>rfl
 |z::h,m,y=>by
  show lZ (mulL (bt m) (bt z)) (h.map bt)=bt (uF (kH m z) h);rw[ag1 (y z wh)];exact aiF h (kH m z) λs D=>by rw[EP];exact y s (wi _ D)
theorem aiG(y:lU a c){q:Nat}(D:q<a.length):∀(H:ak) (m:V),m.length=bh a->(H.map (cz (a.getD q []))).foldl (λe v=>(e+v)%1073741789) (cz (a.getD q []) m)=cz (a.getD q []) (uF m H)
 |[],_,_=>rfl
 |z::h,m,E=>by
  show(h.map (cz (a.getD q []))).foldl (λe v=>(e+v)%1073741789) ((cz (a.getD q []) m+cz (a.getD q []) z)%1073741789)=cz (a.getD q []) (uF (kH m z) h);rw[<-agD y E q D];exact aiG y D h (kH m z) (by rw[EP];exact E)
theorem aiH(h:Dl)(u:List Dl):G1 a c F (h::u)=Fl a c F 0 h::(List.range u.length).map λk=>Fl a c F (k+1) (u.getD k (0,[],[])):=by
 unfold G1;rw[dZ,List.range_succ_eq_map,zQ,mD];rfl
theorem VU{α β:Type}(u:List α)(i:α)(q:α->β):(List.range u.length).map (λk=>q (u.getD k i))=u.map q:=by
 refine x8 (by simp) λk E y=>?_;have D:k<u.length:=by simpa using y
 simp only[gj,Ct];rw[dp D]
theorem avj{u:List Dl}(D:Rr a c F u)(hT:u≠[]):lH (G1 a c F u)=bt (zn u):=by
 cases u with
 |nil=>exact absurd rfl hT
 |cons h u =>
  have E:=D 0 (by simp);rw[aiH];show lZ (Fl a c F 0 h).cs (((List.range u.length).map λk=>Fl a c F (k+1) (u.getD k (0,[],[]))).map λi=>i.cs)=bt (uF (h.1::h.2.1) (u.map λh=>h.1::h.2.1));rw[mD];have H:(Fl a c F 0 h).cs=bt (h.1::h.2.1):=(MX E).2.1;have e2:(List.range u.length).map ((λi:bD=>i.cs)∘λk=>Fl a c F (k+1) (u.getD k (0,[],[])))=(u.map λh=>h.1::h.2.1).map bt:=by
   rw[mD,<-VU u (0,[],[])];refine xZ λk q=>?_;have q:=dT.1 q;have y:=D (k+1) (by simpa using q);have h2:=(MX y).2.1;simp only[Of];rw[dp q];exact h2
  rw[H,e2];refine aiF _ _ λz hz=>?_;obtain⟨t2,ht,rfl⟩:=ey.1 hz;obtain⟨k,q,rfl⟩:=Cs ht;have y:=D (k+1) (by simpa using q);exact(dU.full y.ok).trans (dU.full E.ok).symm
theorem avk{u:List Dl}(z0z:Rr a c F u)(hT:u≠[])(H:KeysOf c bu F){q:Nat}(E:q<a.length):
  (G1 a c F u).foldl (λe i=>(e+mkV (gO c bu q) i (q:Int))%1073741789) 0=cz (a.getD q []) (zn u):=by
 cases u with
 |nil=>exact absurd rfl hT
 |cons h u =>
  have D:=z0z 0 (by simp);have f:∀(K:List bD) (e:Int),K.foldl (λe i=>(e+mkV (gO c bu q) i (q:Int))%1073741789) e=(K.map λi=>mkV (gO c bu q) i (q:Int)).foldl (λe v=>(e+v)%1073741789) e:=λK e=>by rw[List.foldl_map]
  rw[f,aiH,zQ,SX,mD];have e1:mkV (gO c bu q) (Fl a c F 0 h) (q:Int)=cz (a.getD q []) (h.1::h.2.1):=abq D H E;have e2:(List.range u.length).map ((λi:bD=>mkV (gO c bu q) i (q:Int))∘λk=>Fl a c F (k+1) (u.getD k (0,[],[])))=(u.map λh=>h.1::h.2.1).map (cz (a.getD q [])):=by
   rw[mD,<-VU u (0,[],[])];refine xZ λk y=>?_;have y:=dT.1 y;have h1:=z0z (k+1) (by simpa using y);have h2:=abq h1 H E;simp only[Of];rw[dp y];exact h2
  rw[e1,e2];have e3:(0+cz (a.getD q []) (h.1::h.2.1))%1073741789=cz (a.getD q []) (h.1::h.2.1):=by
   have:=n6 (a.getD q []) (h.1::h.2.1);omega
  rw[e3];exact aiG D.ok.prog E _ _ (dU.full D.ok)
theorem avl{u:List Dl}(z0z:Rr a c F u):∀z∈zn u,0<=z/\z<1073741789:=by
 cases u with
 |nil=>intro z E;cases E
 |cons h u =>
  have y:=z0z 0 (by simp);unfold zn;have key:∀(q:ak) (m:V),(∀z∈m,0<=z/\z<1073741789)->∀z∈uF m q,0<=z/\z<1073741789:=by
   intro q
   induction q with
   |nil=>intro m D;exact D
   |cons s q H=>intro m _;exact H (kH m s) (UN m s)
  exact key _ _ (dU.nums y.ok)
def uI(u:List Dl):Int:=u.foldl (λe h=>(e+h.1)%1073741789) 0
theorem avm{u:List Dl}(z0z:Rr a c F u)(E:u≠[]):J (zn u) 0=uI u:=by
 cases u with
 |nil=>exact absurd rfl E
 |cons h u =>
  have D:=(z0z 0 (by simp)).ok.hx;have key:∀(q:List Dl) (y:Int) (j:V),J (uF (y::j) (q.map λh=>h.1::h.2.1)) 0=q.foldl (λe h=>(e+h.1)%1073741789) y:=by
   intro q
   induction q with
   |nil=>intro y j;rfl
   |cons s q H =>
    intro y j;show J (uF (kH (y::j) (s.1::s.2.1)) (q.map λh=>h.1::h.2.1)) 0=_;rw[agE,H];rfl
  unfold zn uI;rw[key,SX];have f:(0+h.1)%1073741789=h.1:=by
   have h1:(0:Int)<=h.1/\h.1<1073741789:=D;omega
  rw[f]
end
section
variable {a:ak} {c F bu o:V} {u:List Dl}
theorem avn(h:Dl):uI (u++[h])=(uI u+h.1)%1073741789:=by
 unfold uI;rw[DC];rfl
theorem aiI:0<=uI u/\uI u<1073741789:=by
 unfold uI;have q:∀(l:List Dl) (e:Int),0<=e/\e<1073741789->0<=l.foldl (λe h=>(e+h.1)%1073741789) e/\l.foldl (λe h=>(e+h.1)%1073741789) e<1073741789:=by
  intro l
  induction l with
  |nil=>intro e q;exact q
  |cons h l y=>intro e _;exact y _ ⟨(by show 0<=(e+h.1)%1073741789;omega),(by show(e+h.1)%1073741789<1073741789;omega)⟩
 exact q u 0 ⟨by omega,by omega⟩
end
def qx(a:ak)(l:List bD)(d:Nat):Nat:=(gh a l l.length).getD d 0
def qd(a:ak)(l:List bD)(d:Nat):bD:=l.getD (qx a l d) zg
def Nf(a:ak)(c F:V)(q:List cP)(i:bD):Bool:=!q.any (GX a c F i)
def qj(a:ak)(c F:V)(q:List cP)(l:List bD)(d:Nat):List bD:=
 (((gh a l l.length).take d).map λy=>l.getD y zg).filter (Nf a c F q)
theorem VV{l:List bD}(D:d<(gh a l l.length).length):∃hi:qx a l d<l.length,qd a l d=l[qx a l d]/\mX a l[qx a l d]=true:=by
 have y:qx a l d∈gh a l l.length:=by unfold qx;rw[dp D];exact bM D
 unfold gh at y;obtain⟨E,H⟩:=Cq.1 y;have q:=dT.1 E;exact⟨q,dp q _,by rw[<-M8 q];exact H⟩
theorem avo{q:List cP}{l:List bD}(D:d<(gh a l l.length).length):
  qj a c F q l (d+1)=if Nf a c F q (qd a l d)=true then qj a c F q l d++[qd a l d] else qj a c F q l d:=by
 have f:(gh a l l.length)[d]=qx a l d:=by unfold qx;rw[dp D]
 unfold qj;rw[jv D,gJ,x9,f];show _++List.filter _ [qd a l d]=_;by_cases y:Nf a c F q (qd a l d)=true
 ·rw[aD y,Xv y];rfl
 ·rw[aA y,SY y];simp
theorem abC(a:ak)(c F:V)(D:List cP)(l:List bD):qj a c F D l (gh a l l.length).length=GY a c F D l:=by
 have E:∀(k:Nat),k<=l.length->((gh a l k).map λz0z=>l.getD z0z zg)=(l.take k).filter (mX a):=by
  intro k
  induction k with
  |zero=>intro _;simp[gh]
  |succ k H =>
   intro hk;have q:k<l.length:=by omega
   rw[jv q,x9,<-H (by omega)];cases y:mX a l[k] with
   |true=>rw[abv (by rw[M8 q];exact y),gJ,Xv y];simp only[zQ,FI,List.filter_nil,dp q]
   |false=>rw[aid (by rw[M8 q];exact y),SY (by rw[y];simp)];simp
 unfold qj;rw[m9,E _ (aP _),m9,List.filter_filter];unfold GY
 congr 1
 funext i;unfold VD Nf;rw[Bool.and_comm]
theorem aiJ{D:List cP}{l:List bD}:∀i∈qj a c F D l d,tO a i:=by
 intro i y;unfold qj at y;obtain⟨E,-⟩:=Cq.1 y;obtain⟨z0z,H,rfl⟩:=ey.1 E;have q:=FM H;unfold gh at q;exact MP.1 (Cq.1 q).2
theorem aiK{q:List cP}{l:List bD}:(qj a c F q l d).length<=l.length:=by
 unfold qj;refine bK (Od ..) ?_;rw[dy];refine bK (List.length_take_le' ..) ?_;unfold gh;refine bK (Od ..) ?_;simp
theorem avp(a:ak)(c F:V)(q:List cP)(i:bD):(vL (a.length:Int) q i.dealer).any (M5 a c F i)=q.any (GX a c F i):=by
 unfold vL;rw[List.any_filter]
 congr 1
def vQ(e b:V)(k:Nat):V:=(List.range e.length).map λq=>if q<k then J e q*J b q%2147483579 else J e q
theorem Dm(e b:V)(k:Nat):(vQ e b k).length=e.length:=by simp[vQ]
theorem avq(e b:V):vQ e b 0=e:=by
 refine x8 (Dm e b 0) λD y q=>?_;simp[vQ,di q]
theorem avr(e b:V):vQ e b e.length=mulL e b:=by
 refine x8 (by rw[Dm,Mr]) λD q E=>?_;have y:D<e.length:=by rw[Dm]at q;exact q
 simp[vQ,mulL,y]
theorem avs{e b:V}(q:k<e.length):J (vQ e b k) k=J e k:=by
 rw[di (by rw[Dm];exact q)];simp[vQ]
theorem avt{e b:V}(_E:k<e.length):(vQ e b k).set k (J e k*J b k%2147483579)=vQ e b (k+1):=by
 refine x8 (by simp[Dm]) λq H D=>?_;have h3:q<e.length:=by rw[Dm]at D;exact D
 rw[SP];by_cases f:k=q
 ·subst f;simp[vQ]
 ·rw[aA f];simp only[vQ,gj,Ct];by_cases y:q<k
  ·rw[aD y,aD (by omega)]
  ·rw[aA y,aA (by omega)]
theorem avu{K:List bD}(q:K≠[])(i:bD):lH (K++[i])=mulL (lH K) i.cs:=by
 cases K with
 |nil=>exact absurd rfl q
 |cons f h =>
  show lZ f.cs ((h++[i]).map (·.cs))=mulL (lZ f.cs (h.map (·.cs))) i.cs;unfold lZ;rw[gJ,DC];rfl
theorem aiL(K:List bD)(i:bD):eW (K++[i])=eW K++[i.dealer]:=by simp[eW]
structure oA(I:World)(M L P K T:Value)(S O:V)(W:World):Prop where
 be:Below I I W
 rk:W.heap[I.heap.size]?=QC.mk #[(0:Int),M,L,T] 33
 ro:W.heap[I.heap.size+1]?=QC.mk #[K] 23
 pr:W.heap[I.heap.size+1+1]?=QC.mk #[M,L] 25
 ds:W.heap[I.heap.size+1+1+1]?=QC.mk #[P] 77
 oL:W.ownsRow (I.heap.size+4) 3 1 K S.length (S.map (Value.int .i64))
 oV:W.ownsRow (I.heap.size+4) 3 1 T O.length (O.map (Value.int .i64))
 ap:∀g,K.ownBlock=some g->T.ownBlock≠some g
def G2(I:World)(M L P:Value)(q:List bD)(W:World):Prop:=∃K T,oA I M L P K T (eW q) (lH q) W
section
variable {I:World} {M L P K T:Value} {S O:V} {W C:World}
theorem oA.big(q:oA I M L P K T S O W):I.heap.size+4<=W.heap.size:=bG q.ds
theorem oA.below(q:oA I M L P K T S O W)(y:Below W W C):oA I M L P K T S O C:=
 ⟨ar q.be y,az y q.rk,az y q.ro,az y q.pr,az y q.ds,dM q.oL y,dM q.oV y,q.ap⟩
theorem oA.sim(q:oA I M L P K T S O W){x:Nat}(D:I.heap.size<=x)(y:eM x W C):oA I M L P K T S O C:=
 ⟨q.be.trans ((nf y).mono D),y.cells _ _ q.rk rfl,y.cells _ _ q.ro rfl,y.cells _ _ q.pr rfl,y.cells _ _ q.ds rfl,Gq q.oL y,Gq q.oV y,q.ap⟩
theorem G2.sim{y:List bD}(q:G2 I M L P y W){x:Nat}(D:I.heap.size<=x)(E:eM x W C):G2 I M L P y C:=by
 obtain⟨K,T,q⟩:=q;exact⟨K,T,q.sim D E⟩
theorem oA.first(H:oA I M L P K T S O W){y:Value}{D:V}(hb:Below W W C)(ho:C.ownsRow W.heap.size 3 1 y D.length (D.map (Value.int .i64))):oA I M L P K y S D (C.setCell (I,3) y):=by
 have q:=H.below hb;have jT:=H.big;have E:∀k,k≠I.heap.size->(C.setCell (I,3) y).heap[k]?=C.heap[k]?:=λk hk=>dJ _ _ _ _ hk;refine⟨q.be.setCell (aP _) _,cK q.rk 3 y,(E _ (by omega)).trans q.ro,(E _ (by omega)).trans q.pr,(E _ (by omega)).trans q.ds,nM q.oL (by omega) _,nM (acC ho jT) (by omega) _,λg e1 e2=>?_⟩;have:=(pP H.oL g e1).2;have:=(pP ho g e2).1;omega
theorem oA.put{g n E k:Nat}{z:Int}(q:oA I M L P K (.slice (g,0) n E) S O W)(hn:n=O.length):oA I M L P K (.slice (g,0) n E) S (O.set k z) (W.setCell (g,k) z):=by
 subst hn;have hg:=(pP q.oV g rfl).1;have y:∀D,D≠g->(W.setCell (g,k) z).heap[D]?=W.heap[D]?:=λD hi=>dJ _ _ _ _ hi;refine⟨q.be.setCell (by show I.heap.size<=g;omega) _,(y _ (by omega)).trans q.rk,(y _ (by omega)).trans q.ro,(y _ (by omega)).trans q.pr,(y _ (by omega)).trans q.ds,aok q.oL (λg2 f H=>q.ap g2 f (by rw[<-H];rfl)) _,?_,q.ap⟩;rw[Oe,List.map_set];exact(EX q.oV k _).2.2
theorem oA.more{z:Int}{y:Value}(q:oA I M L P K T S O W)(hg:W.grownBy C K.ownBlock)(ho:C.ownsRow (I.heap.size+4) 3 1 y (S.length+1) (S.map (Value.int .i64)++[.int .i64 z]))(H:y.ownBlock=K.ownBlock\/∃g,y.ownBlock=some g/\W.heap.size<=g):oA I M L P y T (S++[z]) O (C.setCell (I.heap.size+1,0) y):=by
 have E:=fH q.oL hg q.big;have far:∀k,k≠I.heap.size+1->(C.setCell (I.heap.size+1,0) y).heap[k]?=C.heap[k]?:=λk hk=>dJ _ _ _ _ hk;refine⟨(q.be.trans (E.mono (Nat.le_add_right _ _))).setCell (eP _) _,(far _ (by omega)).trans ((E.block _ (by omega)).trans q.rk),cK ((E.block _ (by omega)).trans q.ro) 0 y,(far _ (by omega)).trans ((E.block _ (by omega)).trans q.pr),(far _ (by omega)).trans ((E.block _ (by omega)).trans q.ds),?_,nM (FQ q.oV hg λg D e2=>q.ap g e2 D) (by omega) _,λg D e2=>?_⟩
 ·refine nM ?_ (by omega) _;rw[fu,gJ];exact ho
 ·rcases H with H|⟨g2,H,hz⟩
  ·exact q.ap g (H▸D) e2
  ·rw[H]at D;injection D with D;subst D;have:=(pP q.oV _ e2).2;omega
end
theorem ft.setCell(W:World)(p:Addr)(v:Value):ft W (W.setCell p v):=abb (KeepsOthers.setCell _ _ _)
theorem aiM{y:Nat}(D:W.ownsRow G f y v n xs)(q:W.grownBy C v.ownBlock):ft W C:=abb (Gp D q)
theorem xI(D:W.ownsRow G f 1 v n xs):∃e y,v=.slice e n y:=by
 rcases D.2 with⟨rfl,q⟩|⟨g,E,H,rfl,-⟩
 ·exact⟨none,0,by rw[q]⟩
 ·exact⟨_,_,rfl⟩
theorem aiN(E:W.ownsRow G f 1 v n xs)(hn:0<n):∃g y,v=.slice (some ⟨g,0,none⟩) n y/\G<=g/\g<W.heap.size/\∀(k:Nat) (j:Value),k<n->xs[k]?=some j->W.cell? ⟨g,k,none⟩=some j/\W.frozen? ⟨g,k,none⟩=false:=by
 obtain⟨hl,E⟩:=E;rcases E with⟨-,h0⟩|⟨g,y,cur,rfl,hb,D,kE,-,ew,lu⟩
 ·omega
 ·refine⟨g,y,rfl,hb,bG D,λk j hk hu=>⟨Y D ?_,cB D k⟩⟩;rw[<-sR];have q:(cur.toList.take (n*1))[k]?=some j:=by rw[lu];exact hu
  rw[we]at q;by_cases H:k<n*1
  ·rw[aD H]at q;exact q
  ·rw[aA H]at q;cases q
theorem abD{b R:Nat}(q:Below w w w')(y:w.cell? (b,R)=some v)(D:w.frozen? (b,R)=false):w'.frozen? (b,R)=false:=by
 obtain⟨H,E,-⟩:=cells_of_cell y;rw[Sv (w:=w) (q.block _ (bG E))];exact D
structure AK(w0:World)(g k:Nat)(z:Value)(i:Bool)(w:World):Prop where
 out:∃C,Below w0 w0 C/\w=if i=true then C.setCell (g,k) z else C
theorem AK.size(y:AK w0 g k z i w):w0.heap.size<=w.heap.size:=by
 obtain⟨C,q,rfl⟩:=y.1;cases i
 ·exact q.size
 ·simpa using q.size
theorem AK.below(E:AK w0 g k z i w)(D:i=false)(y:Below w w w'):AK w0 g k z i w':=by
 obtain⟨C,q,f⟩:=E.1;subst D;simp only[FE,Ck]at f;subst f;exact⟨w',ar q y,by simp⟩
theorem AK.put{D:Nat}{E:Value}(H:AK w0 g D E i w)(y:i=false)(k:Nat)(z:Value):AK w0 g k z true (w.setCell (g,k) z):=by
 obtain⟨C,q,f⟩:=H.1;subst y;simp only[FE,Ck]at f;subst f;exact⟨w,q,by simp⟩
theorem avv{y:Nat}(z0z:W.ownsRow G f 1 (.slice (g,0) n y) n xs)(H:k<n)(hu:xs[k]?=some j):g<W.heap.size/\W.cell? (g,k)=some j/\W.frozen? (g,k)=false:=by
 obtain⟨g',ue,q,-,D,E⟩:=aiN z0z (by omega);simp only[dr,tX,Cn]at q;obtain⟨⟨rfl,-,-⟩,-,-⟩:=q;exact⟨D,E k j H hu⟩
theorem AK.done(y:AK w0 g k z true w):∃C,Below w0 w0 C/\w=C.setCell (g,k) z:=by
 obtain⟨C,q,f⟩:=y.1;exact⟨C,q,by simpa using f⟩
theorem aiO(w:World)(M L P:Value):∃W,W=(w.alloc (.cells #[M,L] 25)).alloc (.cells #[P] 77)/\Below w w W/\W.heap[w.heap.size]?=QC.mk #[M,L] 25/\W.heap[w.heap.size+1]?=QC.mk #[P] 77/\W.heap.size=w.heap.size+1+1:=by
 obtain⟨q,y⟩:=aK (w.alloc (.cells #[M,L] 25));have E:q.heap.size=w.heap.size+1:=by rw[y];simp
 have H:Below w w q:=by rw[y];exact bk _ _ _
 have r1:q.heap[w.heap.size]?=QC.mk #[M,L] 25:=by rw[y];exact World.alloc_heap_new _ _
 have D:=bk q #[P] 77;refine⟨q.alloc (.cells #[P] 77),by rw[y],ar H D,(D.block _ (by omega)).trans r1,?_,by simp[E]⟩;rw[<-E];exact World.alloc_heap_new _ _
theorem iW{e E:World}(q:e.grownBy b r)(k:b.grownBy E r):e.grownBy E r:=⟨k.os.trans q.os,k.tape.trans q.tape,k.output.trans q.output,bK q.size k.size,λd y D=>(k.block d (eJ y q.size) D).trans (q.block d y D)⟩
theorem lK{e:World}(q:Below e e b):e.grownBy b r:=⟨q.os,q.tape,q.output,q.size,λd y _=>q.block d y⟩
theorem rp{y:Nat}{e:World}(q:e.grownBy b (some x))(D:y<=x)(H:y<=e.heap.size):Below y e b:=⟨q.os,q.tape,q.output,q.size,λd E=>q.block d (by omega) (by intro f;injection f with f;omega)⟩
theorem az4{e:World}(q:e.grownBy b r):e.grownBy b.drew r:=⟨q.os,q.tape,q.output,q.size,q.block⟩
theorem abE{y:Nat}(D:W.ownsRow G f y v n xs):∀b,v.ownBlock=some b->G<=b:=λb f=>by
 rcases D.2 with⟨rfl,-⟩|⟨g,E,H,rfl,q,-⟩
 ·cases f
 ·injection f with f;subst f;exact q
theorem Rs(W:World)(x k:Nat)(v:Value):W.grownBy (W.setCell (x,k) v) (some x):=
 ⟨rfl,rfl,rfl,by simp[World.setCell],λd _ q=>dJ _ _ _ d (λf=>q (by rw[f]))⟩
theorem fT{e D:World}(q:e.grownBy b r)(k:Below e b D):e.grownBy D r:=⟨k.os.trans q.os,k.tape.trans q.tape,k.output.trans q.output,bK q.size k.size,λd y E=>(k.block d y).trans (q.block d y E)⟩
def dO(x:Nat)(B:Int)(W:World):Prop:=∃e n y l q,W.heap[x]?=some (.cells #[.slice e n y,.int .i64 q] 37 (0,0))/\Words W (.slice e n y) l/\(∀i,e=some i->0<l.length->i.block<x)/\0<=q/\q<=B
theorem dO.lt(q:dO x B W):x<W.heap.size:=by
 obtain⟨_,_,_,_,_,q,-⟩:=q;exact bG q
theorem aiP{q:Nat}(z1z:Words W (.slice e n q) l)(hd:∀i,e=some i->0<l.length->i.block<x)(hb:∀k,k<x->C.heap[k]?=W.heap[k]?):Words C (.slice e n q) l:=by
 obtain⟨a2,cap,y,D,E,H,h5⟩:=z1z;simp only[dr]at y;obtain⟨rfl,rfl,rfl⟩:=y;refine⟨e,q,rfl,D,E,H,λk hk=>?_⟩;obtain⟨b,off,rfl,h7⟩:=h5 k hk;exact⟨b,off,rfl,by rw[rB (w:=W) (hb b (hd _ rfl (by omega)))];exact h7⟩
theorem dO.low{D:Nat}(z2z:dO x B W)(y:Below D W C)(hN:x<D):dO x B C:=by
 obtain⟨e,n,z1z,l,z3z,E,H,q,h4⟩:=z2z;exact⟨e,n,z1z,l,z3z,(y.block _ hN).trans E,aiP H q (λk hk=>y.block k (by omega)),q,h4⟩
theorem dO.below(q:dO x B W)(y:Below W W C):dO x B C:=q.low y q.lt
theorem dO.nat(q:dO x B W):0<=B:=by
 obtain⟨e,n,z0z,l,z2z,y,D,E,H,h5⟩:=q;omega
theorem dO.mono{n:Int}(z1z:dO x B W)(hl:B<=n):dO x n W:=by
 obtain⟨e,k,H,l,z2z,q,y,D,E,h5⟩:=z1z;exact⟨e,k,H,l,z2z,q,y,D,E,by omega⟩
theorem dO.ne(H:dO x B W)(E:dS W h v)(D:h ≠ 37):v.ownBlock≠some x:=λf=>by
 obtain⟨_,_,_,_,_,y,-⟩:=H;obtain⟨cs,fz,q⟩:=E x f;rw[y]at q;injection q with q;injection q with _ h3 _;exact D h3.symm
theorem RI.dic{E:V}(D:RI W v E)(hD:dO x B W)(y:W.grownBy C (some x)):RI C v E:=by
 have hn:=hD.ne D.2 (by decide);obtain⟨⟨e,H,rfl,h2,h3,h4,h5⟩,hT⟩:=D;refine⟨⟨e,H,rfl,h2,h3,h4,λk hk=>?_⟩,λb f=>?_⟩
 ·obtain⟨b,off,rfl,q⟩:=h5 k hk;exact⟨b,off,rfl,y.cell q (λf=>hn (by cases f;rfl))⟩
 ·obtain⟨cs,fz,q⟩:=hT b f;exact⟨cs,fz,(y.block b (bG q) (λe2=>hn (e2▸f))).trans q⟩
theorem RS.dic{l:bF}(D:RS W v l)(hD:dO x B W)(y:W.grownBy C (some x)):RS C v l:=by
 have hn:=hD.ne D.2 (by decide);obtain⟨⟨e,E,rfl,h2,h3,h4,h5⟩,hT⟩:=D;refine⟨⟨e,E,rfl,h2,h3,h4,λk hk=>?_⟩,λb f=>?_⟩
 ·obtain⟨b,off,rfl,q,h8⟩:=h5 k hk;exact⟨b,off,rfl,y.cell q (λf=>hn (by cases f;rfl)),y.cell h8 (λf=>hn (by cases f;rfl))⟩
 ·obtain⟨cs,fz,q⟩:=hT b f;exact⟨cs,fz,(y.block b (bG q) (λH=>hn (H▸f))).trans q⟩
theorem B1{q:Nat}(y:W.ownsRow G h q v n xs)(H:dO x B W)(ht:h ≠ 37)(hg:W.grownBy C (some x)):C.ownsRow G h q v n xs:=
 FQ (k:=.slice (some ⟨x,0,none⟩) 0 0) y hg (λg D E=>H.ne (dS.own y) ht (by rw[D];exact E.symm))
theorem dO.turn{y:Nat}{q:Int}(E:W.heap[x]?=QC.mk #[.slice e n y,q] 37)(H:Words W (.slice e n y) l)(D:∀i,e=some i->0<l.length->i.block<x)(h3:0<=q)(h4:q<=B):dO x (B+1) (W.setCell (x,1) (q+1:Int)):=
 ⟨e,n,y,l,q+1,cK E 1 _,aiP H D (λk hk=>dJ _ _ _ k (λf=>by simp at f;omega)),D,by omega,by omega⟩
theorem Ng(x:Nat)(B:Int)(w:World)(hD:dO x B w)(hm:B<1000000):
  Calls prog 25 #[(x,0)] w λf w'=>∃z:Int,f=.returned z/\(0<=z/\z<1073741789)/\dO x (B+1) w'/\w.grownBy w' (some x):=by
 have HD:=A hD;obtain⟨e,n,z1z,l,y,D,h2,H,E,h4⟩:=hD;obtain⟨c0,c1⟩:=ez D;have f0:=cB D;obtain⟨HR,ED,l7⟩:=bJ D h2 H;clear D h2 H;go_enter func25,ntmps25;obtain⟨a3,cap,e3,hc,hl,hr,hk⟩:=id ED.1;simp only[dr]at e3;obtain⟨rfl,rfl,rfl⟩:=e3;by_cases h0:l.length=0
 ·have d0:((l.length:Int)==0)=true:=by simp[h0]
  go_wp2_with fail;go_ret;exact⟨1,rfl,by omega,HD.1.mono (by omega),lK (aY _ _)⟩
 have d0:((l.length:Int)==0)=false:=eH.2 (by omega);obtain⟨q,hIe⟩:∃q:Nat,y.tmod (l.length:Int)=(q:Int)/\q<l.length:=by
  have H:=Og y (b:=(l.length:Int)) (by omega);have h6:=Int.emod_lt_of_pos y (b:=(l.length:Int)) (by omega);refine⟨(y.tmod (l.length:Int)).toNat,?_,?_⟩
  ·rw[pM E];omega
  ·rw[pM E];omega
 obtain⟨hIe,hIl⟩:=hIe;obtain⟨b,off,rfl,q1⟩:=hk q hIl;have hz:=hr _ (bM hIl);obtain⟨z,dL⟩:=aK (l[q]);rw[<-dL]at q1 hz;obtain⟨z0,z1⟩:=hz;have hw:IntKind.i64.wrap z=z:=jw _ (by omega);have hzm:z.tmod 1073741789=z%1073741789:=pM z0;have i0:(0:Int)<=(q:Int):=me q;have i1:(q:Int)<(l.length:Int):=by omega
 clear dL hk hr;go_wp2_with fail;go_region_held3 (λw9=>w9.cell? (x,0)=some (.slice (b,off) l.length z1z)/\w9.cell? (x,1)=y/\w9.cell? (b,off+q)=some (.int .u32 z)) (first|go_keep|exact⟨c0,c1,q1⟩) (fail);all_goals
  go_wp2_with fail;go_ret;exact⟨z%1073741789,rfl,by omega,dO.turn (W:=w.drew) HR.1 ED.1 l7.1 E h4,az4 (Rs w x 1 _)⟩
theorem abF(x:Nat)(B:Int)(n:Nat)(w:World)(hD:dO x B w)(hm:B+n<1000000):
  Calls prog 26 #[(x,0),n] w λf w'=>∃v q,f=.returned v/\RI w' v q/\q.length=n/\(∀z∈q,0<=z/\z<1073741789)/\(∀b,v.ownBlock=some b->w.heap.size<=b)/\dO x (B+n) w'/\w.grownBy w' (some x):=by
 have HD:=A hD;have h0m:=hD.nat;obtain⟨kt,HM⟩:=aR hD.lt hm;have hn6:(n:Int)<1000000:=by omega
 clear hD hm;go_enter func26,ntmps26;go_wp2_with fail;go_loopw[4,6] (λz2z z1z z0=>∃(k:Nat) (q:V),k<=n/\z1z=k/\q.length=k/\Hid (∀z∈q,0<=z/\z<1073741789)/\z0.ownsRow w.heap.size 3 1 z2z k (q.map (Value.int .i64))/\dO x (B+k) z0/\w.grownBy z0 (some x)) (λ_ z1z _=>n-(intOf z1z).toNat);case atStart=>exact⟨0,[],bS _,rfl,rfl,A (by simp),iv _ _ _ _,by simpa using HD.1,lK (aY _ _)⟩
 case round =>
  obtain⟨k,q,dg,rfl,Bk,H,y,hd,hg⟩:=hrel;obtain⟨xa,xc,hx⟩:=xI y;subst hx;by_cases aq:k<n
  ·obtain⟨de,iD,kh,dq⟩:=cY y hd hg aq;have k6:(k:Int)<1000000:=by omega
   have I:IntKind.i64.wrap ((k:Int)+1)=(k:Int)+1:=jw _ (by omega);clear y hd hg;go_wp2_with fail;refine(Ng x _ _ iD.1 (by have h1:=HM.1;have h2:=dq.1;omega)).mono ?_;rintro f E ⟨z,rfl,hz,Rt,rR⟩;obtain⟨W6,cH⟩:=aK (E.alloc (.cells #[.int .i64 z] 3));have aF:Below E E W6:=by rw[cH];exact bk _ _ _
   have ja:Hid (W6.cell? (E,0)=some (.int .i64 z)):=A (by rw[cH];exact Y (World.alloc_heap_new _ _) rfl);obtain⟨zo,pG,my⟩:=bJ (dM (B1 de.1 iD.1 (by decide) rR) aF) (Rt.below aF) (iW (iW kh.1 rR) (lK aF));have px:Hid (k<=1000000):=A (by have h1:=HM.1;have h2:=dq.1;have h3:=H;omega);have nD:Hid (w.heap.size<=W6.heap.size):=A my.1.size;obtain⟨HZZ,fR⟩:=aR hz cH;clear cH aF Rt rR hz;go_wp2_with (first|rw[<-fR.1]|(at_builtin;refine zX rfl _ _ rfl w.heap.size k _ _ rfl zo.1 E.heap.size 1 z rfl ja.1 px.1 nD.1 ?_;intro v9 w9 D g9;have H9:=A D;have B9:=A (fH zo.1 g9 nD.1);have G9:=A g9;clear D g9));go_roundw;case rel=>exact⟨k+1,q++[z],dq.1,by go_num,by simp[Bk],A (λs hy=>by
    rcases lN.1 hy with D|D
    ·exact H.1 s D
    ·rw[jJ.1 D];exact HZZ.1),by rw[gJ];exact H9.1,(by have h7:=pG.1.low B9.1 kt.1;rw[show B+((k+1:Nat):Int)=B+(k:Int)+1 by omega];exact h7),fT my.1 B9.1⟩
   case measure =>
    have D:=dq.1;simp[intOf];omega
  ·obtain rfl:k=n:=by omega
   have rP:RI wr (.slice xa k xc) q:=by
    rw[<-Bk]at y ⊢;exact RI.own y (λz z0z=>dK (H.1 z z0z)) (by have h1:=HM.1;omega)
   obtain⟨rq,HDF,HGF,Fm⟩:=cY rP hd hg y;clear y hd hg rP;go_wp2_with fail;go_ret;exact⟨_,q,rfl,rq.1,Bk,H.1,abE Fm.1,HDF.1,HGF.1⟩
theorem avw{d:Int}(y:∀z∈l,z<d)(q:-1<d):mr (-1) l<d:=by
 unfold mr;cases f:l.getLast? with
 |none=>exact q
 |some z=>exact y z (List.mem_of_getLast? f)
theorem aiQ(b:Int)(w:World)(hb:0<=b/\b<65536):
  Calls prog 10 #[.int .u16 b] w λf w'=>∃v o,f=.returned v/\RI w' v o/\eU (-1) o=true/\(∀z∈o,z<16)/\o.length<=16/\(∀b,v.ownBlock=some b->w.heap.size<=b)/\Below w w w':=by
 have vt:=A hb;clear hb;go_enter func10,ntmps10;go_wp2_with fail;go_loopw[2,4] (λz2z z1z z0=>∃(k d:Nat) (y:V),d<=16/\k<=d/\z1z=d/\y.length=k/\Hid (eU (-1) y=true/\∀z∈y,z<d)/\z0.ownsRow w.heap.size 3 1 z2z k (y.map (Value.int .i64))/\Below w w z0) (λ_ z1z _=>16-(intOf z1z).toNat);case atStart=>exact⟨0,0,[],by omega,by omega,rfl,rfl,A ⟨rfl,by simp⟩,iv _ _ _ _,aY _ _⟩
 case round =>
  obtain⟨k,d,y,hj,hkj,rfl,E,q,bo,hd⟩:=hrel;obtain⟨xa,xc,hx⟩:=xI bo;subst hx;obtain⟨de,kx⟩:=aR bo hd;clear bo hd;by_cases aq:d<16
  ·have j16:(d:Int)<16:=by omega
   obtain⟨g0,g1⟩:=as6 vt.1.1 vt.1.2 d;have HA:=as5 _ g0 g1;by_cases eb:b/2^d%2=1
   ·rw[eb]at HA;obtain⟨W6,H⟩:∃W,W=wr.alloc (.cells #[d] 3):=⟨_,rfl⟩;have aF:Below wr wr W6:=by rw[H];exact bk _ _ _
    have ja:Hid (W6.cell? (wr,0)=d):=A (by rw[H];exact Y (World.alloc_heap_new _ _) rfl);obtain⟨zo,cO⟩:=aR (dM de.1 aF) (ar kx.1 aF);have px:Hid (k<=1000000):=A (by omega);have nD:Hid (w.heap.size<=W6.heap.size):=A cO.1.size;have fR:=A H;clear H aF eb;go_wp2_with (first|rw[<-fR.1]|(at_builtin;refine zX rfl _ _ rfl w.heap.size k _ _ rfl zo.1 wr.heap.size 1 (d:Int) rfl ja.1 px.1 nD.1 ?_;intro v9 w9 D g9;have H9:=A D;have B9:=A (fH zo.1 g9 nD.1);clear D g9));go_roundw;case rel=>exact⟨k+1,d+1,y++[(d:Int)],by omega,by omega,by go_num,by simp[E],A ⟨by
     rw[aag,q.1.1,jo.2 (by omega),bB (avw q.1.2 (by omega))];rfl,λz hz=>by
     rcases lN.1 hz with D|D
     ·have:=q.1.2 z D;omega
     ·rw[jJ.1 D];omega⟩,by rw[gJ];exact H9.1,cO.1.trans B9.1⟩
    case measure=>simp[intOf];omega
   ·have hx:b/2^d%2=0:=by omega
    rw[hx]at HA;clear eb hx;go_wp2_with fail;go_roundw;case rel=>exact⟨k,d+1,y,by omega,by omega,by go_num,E,A ⟨q.1.1,λz hz=>by have:=q.1.2 z hz;omega⟩,de.1,kx.1⟩
    case measure=>simp[intOf];omega
  ·obtain rfl:d=16:=by omega
   have rP:RI wr (.slice xa k xc) y:=by
    rw[<-E];exact RI.own (by rw[E];exact de.1) (λz z0z=>by
     have h1:=q.1.2 z z0z;have h2:=(Bz q.1.1).1 z z0z;unfold aN;omega) (by omega)
   have rq:=A rP;clear rP;go_wp2_with fail;go_ret;exact⟨_,y,rfl,rq.1,q.1.1,q.1.2,by omega,abE de.1,kx.1⟩
theorem B3{H:Nat}(z1z:aM w (.slice e n H) l)(E:k<l.length):∃b y,e=some ⟨b,y,none⟩/\w.cell? ⟨b,y+k,none⟩=some (.int .i64 l[k]):=by
 obtain⟨a2,cap,q,h2,h3,h4,D⟩:=z1z;simp only[dr]at q;obtain⟨rfl,rfl,rfl⟩:=q;exact D k E
def aiR(a:ak)(c:V):Prop:=Aq a c=true/\0<a.length/\a.length<=8/\∀n∈c,n<16
theorem aiS(M L:Value)(a:ak)(c:V)(w:World)(hR:bI w M a)(hO:aM w L c):
  Calls prog 5 #[.agg #[M,L]] w λf w'=>(∃b,f=.returned (.bool b)/\(b=true->aiR a c))/\Below w w w':=by
 obtain⟨W0,dx,hb,r0,-⟩:=ee w M L 25;obtain⟨HR,E,q⟩:=bJ (hR.below hb) (hO.below hb) hb;obtain⟨a1,k1,rfl,-,eI,-⟩:=id hR;obtain⟨a2,k2,rfl,-,dR,-⟩:=id hO;obtain⟨c0,c1⟩:=ez r0;have tr:=A dx;clear hR hO hb r0 dx;go_enter func5,ntmps5;go_wp2_with (rw[<-tr.1]);refine(aq3 _ _ a c _ HR.1 E.1).mono ?_;rintro f I ⟨rfl,H⟩;refine jM H c0 c1 ?_;clear c0 c1;intro c0 c1;replace E:=A (E.1.below H);replace q:=A (ar q.1 H);clear H tr;by_cases y:Aq a c=true;rotate_left
 ·have UU:Aq a c=false:=by simpa using y
  rw[UU];go_wp2_with fail;go_ret;exact⟨⟨false,rfl,λD=>by cases D⟩,q.1⟩
 rw[y];by_cases h0:a.length=0
 ·have e0:((a.length:Int)==0)=true:=by simp[h0]
  go_wp2_with fail;go_ret;exact⟨⟨false,rfl,λD=>by cases D⟩,q.1⟩
 have e0:((a.length:Int)==0)=false:=eH.2 (by omega);by_cases h8:a.length<=8;rotate_left
 ·have e2:decide ((8:Int)<(a.length:Int))=true:=bB (by omega);go_wp2_with fail;go_ret;exact⟨⟨false,rfl,λD=>by cases D⟩,q.1⟩
 have e2:decide ((8:Int)<(a.length:Int))=false:=bw (by omega);have HS:=A y;clear y;go_wp2_with fail;go_loopw[23] (λz1z z0=>∃k:Nat,k<=c.length/\z1z=k/\Hid (∀z∈c.take k,z<16)/\z0=I) (λz1z _=>c.length-(intOf z1z).toNat);case atStart=>exact⟨0,bS _,rfl,A (by simp),rfl⟩
 case round =>
  obtain⟨k,dg,rfl,HK,rfl⟩:=hrel;by_cases aq:k<c.length
  ·obtain⟨b,off,ea,qs⟩:=B3 E.1 aq;subst ea;have E5:c.take (k+1)=c.take k++[c[k]]:=jv aq;obtain⟨m,y⟩:=aK (c[k]);rw[<-y]at qs E5;have lW:=A E5;have i0:(0:Int)<=(k:Int):=me k;have i1:(k:Int)<(c.length:Int):=by omega
   clear y E5;by_cases Mi:(16:Int)<=m
   ·go_wp2_with fail;go_ret;exact⟨⟨false,rfl,λD=>by cases D⟩,q.1⟩
   ·go_wp2_with fail;go_roundw;case rel=>exact⟨k+1,aq,by go_num,A (λz hz=>by
     rw[lW.1]at hz;rcases lN.1 hz with h9|h9
     ·exact HK.1 z h9
     ·rw[jJ.1 h9];omega),by trivial⟩
    case measure=>simp[intOf];omega
  ·obtain rfl:k=c.length:=by omega
   rw[m9]at HK;go_wp2_with fail;go_ret;exact⟨⟨true,rfl,λ_=>⟨HS.1,by omega,h8,HK.1⟩⟩,q.1⟩
theorem abG(ep:Int)(M L cv P:Value)(a:ak)(c cs:V)(l:bF)(w:World)(hR:bI w M a)(hO:aM w L c)(hC:aM w cv cs)(hL:fK w P l)(hl:l.length=a.length)(hf:∀y (z0z:y<l.length),l[y].1=y/\ke a c cs l[y].1 l[y].2=true/\j9 a c cs l[y].1 l[y].2=0):
  Calls prog 32 #[.agg #[ep,M,L,cv],P] w λf w'=>f=.returned true/\Below w w w':=by
 obtain⟨W0,dx,q,r0,-⟩:=lF w ep M L cv 33;obtain⟨HR,HO,HC,HL,HB,HF⟩:=oJ (hR.below q) (hO.below q) (hC.below q) (hL.below q) q hf;obtain⟨a1,k1,rfl,-,eI,-⟩:=id hR;obtain⟨a2,k2,rfl,-,dR,-⟩:=id hO;obtain⟨a3,k3,rfl,-,gC,-⟩:=id hC;obtain⟨a4,k4,rfl,-,fj,gE,-⟩:=id hL;obtain⟨-,D,E,H⟩:=fh r0;have br:((l.length:Int)!=(a.length:Int))=false:=by rw[hl];simp
 obtain⟨I1,tr⟩:=aR gE dx;clear hR hO hC hL q r0 dx hf hl gE;go_enter func32,ntmps32;go_wp2_with (rw[<-tr.1]);clear tr;go_loopw[18] (λy z0=>∃k:Nat,k<=l.length/\y=k/\Below W0 W0 z0) (λy _=>l.length-(intOf y).toNat);case atStart=>exact⟨0,bS _,rfl,aY _ _⟩
 case round =>
  obtain⟨k,dg,rfl,q⟩:=hrel;have kx:=A q;by_cases aq:k<l.length
  ·obtain⟨aS,cS,eS,-,-,-,cU⟩:=HL.1.below q;obtain⟨pb,po,ea,q1,q2⟩:=cU k aq;simp only[dr]at eS;obtain⟨rfl,-,rfl⟩:=eS;subst ea;obtain⟨dP,dQ⟩:=I1.1 _ (bM aq);obtain⟨f1,f2,f3⟩:=HF.1 k aq;have qB:(0:Int)<=(k:Int):=me k;have bW:(k:Int)<(l.length:Int):=by omega
   refine ua q D E H ?_;clear D E H;intro D E H;obtain⟨z1,Fo⟩:=aK (l[k].1);obtain⟨z2,Ru⟩:=aK (l[k].2);rw[<-Fo]at q1 dP f1 f2 f3;rw[<-Ru]at q2 dQ f2 f3;subst f1;clear Fo Ru cU;obtain⟨W8,ie,bg,dW,-⟩:=ee wr k z2 66;obtain⟨x0,x1⟩:=ez dW;have eG:=ar q bg;have Dn:=A (Ep (.slice a1 a.length k1) (.slice a2 c.length k2) (.slice a3 cs.length k3) a c cs (k:Int) z2 W8 (HR.1.below eG) (HO.1.below eG) (HC.1.below eG) dP dQ);rw[f2,f3]at Dn;obtain⟨ik,Dp,dq⟩:=bJ eG ie aq;refine ua bg D E H ?_;clear D E H;intro D E H;clear ie bg dW q f2 f3 dP dQ eG;go_wp2_with (rw[<-Dp.1]);refine Dn.1.mono ?_;rintro f w9 ⟨rfl,bA⟩;replace x0:=U bA x0;have jl:=A (ar ik.1 bA);clear bA;go_wp2_with fail;go_roundw;case rel=>exact⟨k+1,dq.1,by go_num,jl.1⟩
   case measure =>
    simp[intOf];omega
  ·obtain rfl:k=l.length:=by omega
   clear q;go_wp2_with fail;go_ret;exact⟨rfl,ar HB.1 kx.1⟩
section
variable {α:Type} {O:α->List Value} {B:Nat}
theorem aiT(y:∀H,(O H).length=B):∀(l:List α) (k d:Nat) (q:k<l.length),d<B->(l.flatMap O)[k*B+d]?=(O l[k])[d]?
 |[],k,_,q,_=>absurd q (fG k)
 |z::l,0,d,_,D=>by
  rw[lP,Ib,iN,uN (by rw[y];exact D)];rfl
 |z::l,k+1,d,q,D=>by
  have E:(k+1)*B+d=B+(k*B+d):=by rw[FG,DE];omega
  rw[lP,E,rD (by rw[y];omega),y,Nat.add_sub_cancel_left,aiT y l k d (by simpa using q) D];rfl
theorem avx(q:∀D,(O D).length=B)(l:List α):(l.flatMap O).length=l.length*B:=by
 induction l with
 |nil=>simp
 |cons z l y=>rw[lP,fu,y,q,dZ,FG,DE];omega
theorem aiU(l:List α)(z:α):(l++[z]).flatMap O=l.flatMap O++O z:=by rw[AY];simp
theorem aiV(hm:∀z1z,(O z1z).length=B)(D:0<B){w:World}{G n:Nat}{h:TypeId}{v:Value}{l:List α}(E:w.ownsRow G h B v n (l.flatMap O)):n=l.length/\∃e y,v=.slice e l.length y/\l.length<=y/\∀k (q:k<l.length),∃g,e=some ⟨g,0,none⟩/\∀d j,d<B->(O l[k])[d]?=some j->w.cell? ⟨g,0+k*B+d,none⟩=some j:=by
 obtain⟨hn,E⟩:=E;rw[avx hm]at hn;obtain rfl:n=l.length:=Nat.eq_of_mul_eq_mul_right D hn.symm;refine⟨rfl,?_⟩;rcases E with⟨rfl,D⟩|⟨g,y,cur,rfl,-,hg,kE,-,ew,lu⟩
 ·exact⟨none,0,by rw[D],by omega,λk q=>absurd q (by omega)⟩
 ·refine⟨some ⟨g,0,none⟩,y,rfl,kE,λk q=>⟨g,rfl,λd j hj hu=>?_⟩⟩;have aq:k*B+d<l.length*B:=by
   have h1:(k+1)*B<=l.length*B:=Nat.mul_le_mul_right B q;rw[FG,DE]at h1;omega
  have H:(cur.toList.take (l.length*B))[k*B+d]?=(O l[k])[d]?:=by rw[lu,aiT hm l k d q hj]
  rw[we,aD aq,hu,sR]at H;rw[iN];exact Y hg H
end
theorem aiW{y:Nat}(E:W.ownsRow G f y v n xs):∃e D,v=.slice e n D:=by
 rcases E.2 with⟨rfl,q⟩|⟨g,H,cur,rfl,-⟩
 ·exact⟨none,0,by rw[q]⟩
 ·exact⟨_,_,rfl⟩
theorem G3{α:Type}{l r:List α}{i:α}(q:d<l.length):(l++r).getD d i=l.getD d i:=by
 rw[kR,kR,uN q]
theorem G4{α:Type}{l:List α}{z i:α}(q:l.length=d):(l++[z]).getD d i=z:=by
 subst q;rw[kR,rD (aP _),zI];rfl
def vR(p:Int×Int×Int×Int):List Value:=[.int .i64 p.1,.int .i64 p.2.1,.int .i64 p.2.2.1,.int .i64 p.2.2.2]
def uJ(p:Int×Int):List Value:=[.int .i64 p.1,.int .i64 p.2]
theorem vG.own{l:List (Int×Int×Int×Int)}(z0z:w.ownsRow G 59 4 v n (l.flatMap vR))(hl:l.length<=64)(hr:∀p∈l,aN p.1/\aN p.2.1/\aN p.2.2.1/\aN p.2.2.2):vG w v l:=by
 obtain⟨-,e,y,rfl,D,E⟩:=aiV (B:=4) (λ_=>rfl) (by decide) z0z;refine⟨e,y,rfl,D,hl,hr,λk H=>?_⟩;obtain⟨g,rfl,q⟩:=E k H;exact⟨g,0,rfl,q 0 _ (by decide) rfl,q 1 _ (by decide) rfl,q 2 _ (by decide) rfl,q 3 _ (by decide) rfl⟩
def J6(w:World)(v:Value)(l:bF):Prop:=∃e q,v=.slice e l.length q/\l.length<=q/\∀k (y:k<l.length),∃b,e=some ⟨b,0,none⟩/\w.cell? ⟨b,k*2,none⟩=some (.int .i64 l[k].1)/\w.cell? ⟨b,k*2+1,none⟩=some (.int .i64 l[k].2)
theorem J6.below{l:bF}(z0z:J6 w v l)(q:Below w w w'):J6 w' v l:=by
 obtain⟨e,D,rfl,hc,hk⟩:=z0z;refine⟨e,D,rfl,hc,λk y=>?_⟩;obtain⟨b,ha,E,H⟩:=hk k y;exact⟨b,ha,U q E,U q H⟩
theorem J6.own{l:bF}(z0z:w.ownsRow G 124 2 v n (l.flatMap uJ)):J6 w v l:=by
 obtain⟨-,e,E,rfl,H,h2⟩:=aiV (B:=2) (λ_=>rfl) (by decide) z0z;refine⟨e,E,rfl,H,λk hk=>?_⟩;obtain⟨g,rfl,q⟩:=h2 k hk;have y:=q 0 _ (by decide) rfl;have D:=q 1 _ (by decide) rfl;rw[iN]at y D;exact⟨g,rfl,y,D⟩
theorem avy:(prog.info? 59).map (λq=>(q.zero.map (·.cells.size),q.size,q.bytes))=some (some 4,4,32):=by kernel_rfl
theorem avz:(prog.info? 124).map (λq=>(q.zero.map (·.cells.size),q.size,q.bytes))=some (some 2,2,16):=by kernel_rfl
theorem avA{e:Act}{N:Act->World->Prop}{z0z:Exit->Act->World->Prop}(m E:Operand)(ho:R.op=.call {callee:=.builtin .append,args:=#[m,E],argTypes:=#[54,54]})
  (G:Nat) (v:Value) (l:List (Int×Int×Int×Int)) (n:Nat) (hs:e.eval m=v) (bo:W.ownsRow G 59 4 v n (l.flatMap vR)) (b z1z:Nat) (z:Int×Int×Int×Int) (hx:e.eval E=.slice (b,0) 1 z1z) (hc:∀d j,(vR z)[d]?=some j->W.cell? ⟨b,d,none⟩=some j) (hn:n<=1000000) (dF:G<=W.heap.size)
  (z2z:∀g q w',w'.ownsRow G 59 4 (.slice (some ⟨g,0,none⟩) (n+1) q) (n+1) ((l++[z]).flatMap vR)->fI W v w' (.slice (some ⟨g,0,none⟩) (n+1) q)->N (e.put R.dst (.slice (some ⟨g,0,none⟩) (n+1) q)) w'):Oper.wp prog R e W N z0z:=by
 obtain⟨z3z,hi,H⟩:=kA.1 avy;simp only[pN]at H;obtain⟨hz,bX,hb⟩:=H;obtain⟨zv,oW,oX⟩:=kA.1 hz;refine wp_append_lies _ m E 54 ho G 59 z3z zv 4 32 underlying54 hi oW bX hb oX (by decide) v n (l.flatMap vR) hs bo (b,0) 1 z1z (vR z) hx rfl ?_ ?_ (by decide) ?_ ?_ dF W.heap.size rfl ?_
 ·intro d j D;rw[Cu];exact hc d j D
 ·intro j D;simp only[vR,iu,oG,oH]at D;rcases D with rfl|rfl|rfl|rfl<;>rfl
 ·unfold maxLen;omega
 ·omega
 ·intro g q w' h1 h2 y _;refine z2z g q w' (by rw[aiU];exact h1) ⟨h2,?_⟩;rcases y with y|y
  ·exact .inl (y▸rfl)
  ·exact .inr ⟨g,rfl,by omega⟩
theorem avB{e:Act}{N:Act->World->Prop}{z0z:Exit->Act->World->Prop}(m E:Operand)(ho:R.op=.call {callee:=.builtin .append,args:=#[m,E],argTypes:=#[123,123]})
  (G:Nat) (v:Value) (l:bF) (n:Nat) (hs:e.eval m=v) (bo:W.ownsRow G 124 2 v n (l.flatMap uJ)) (b z1z:Nat) (z:Int×Int) (hx:e.eval E=.slice (b,0) 1 z1z) (hc:∀d j,(uJ z)[d]?=some j->W.cell? ⟨b,d,none⟩=some j) (hn:n<=1000000) (dF:G<=W.heap.size)
  (z2z:∀g q w',w'.ownsRow G 124 2 (.slice (some ⟨g,0,none⟩) (n+1) q) (n+1) ((l++[z]).flatMap uJ)->fI W v w' (.slice (some ⟨g,0,none⟩) (n+1) q)->N (e.put R.dst (.slice (some ⟨g,0,none⟩) (n+1) q)) w'):Oper.wp prog R e W N z0z:=by
 obtain⟨z3z,hi,H⟩:=kA.1 avz;simp only[pN]at H;obtain⟨hz,bX,hb⟩:=H;obtain⟨zv,oW,oX⟩:=kA.1 hz;refine wp_append_lies _ m E 123 ho G 124 z3z zv 2 16 underlying123 hi oW bX hb oX (by decide) v n (l.flatMap uJ) hs bo (b,0) 1 z1z (uJ z) hx rfl ?_ ?_ (by decide) ?_ ?_ dF W.heap.size rfl ?_
 ·intro d j D;rw[Cu];exact hc d j D
 ·intro j D;simp only[uJ,iu,oG,oH]at D;rcases D with rfl|rfl<;>rfl
 ·unfold maxLen;omega
 ·omega
 ·intro g q w' h1 h2 y _;refine z2z g q w' (by rw[aiU];exact h1) ⟨h2,?_⟩;rcases y with y|y
  ·exact .inl (y▸rfl)
  ·exact .inr ⟨g,rfl,by omega⟩
def J7(w:World)(v:Value)(p:Int×Int×Int×Int):Prop:=∃b q,v=.slice (some ⟨b,0,none⟩) 1 q/\w.heap[b]?=some (.cells (vR p).toArray 59 (0,0))
def J8(w:World)(v:Value)(p:Int×Int):Prop:=∃b q,v=.slice (some ⟨b,0,none⟩) 1 q/\w.heap[b]?=some (.cells (uJ p).toArray 124 (0,0))
theorem J7.new(w:World)(p:Int×Int×Int×Int):J7 (w.alloc (.cells (vR p).toArray 59)) (.slice (w,0) 1 1) p:=⟨_,1,rfl,World.alloc_heap_new _ _⟩
theorem J8.new(w:World)(p:Int×Int):J8 (w.alloc (.cells (uJ p).toArray 124)) (.slice (w,0) 1 1) p:=⟨_,1,rfl,World.alloc_heap_new _ _⟩
theorem J7.below{p:Int×Int×Int×Int}(E:J7 w v p)(y:Below w w w'):J7 w' v p:=by
 obtain⟨b,D,f,q⟩:=E;exact⟨b,D,f,az y q⟩
theorem J8.below{p:Int×Int}(E:J8 w v p)(y:Below w w w'):J8 w' v p:=by
 obtain⟨b,D,f,q⟩:=E;exact⟨b,D,f,az y q⟩
theorem abH{b size:Nat}{D:Nat×Nat}(y:w.heap[b]?=some (.cells cs h D))(ho:w.ownsRow G f size j n xs)(E:h≠f)(hg:w.grownBy w' j.ownBlock):w'.heap[b]?=some (.cells cs h D):=
 (hg.block b (bG y) (λH=>by
  obtain⟨xn,xp,q⟩:=dS.own ho b H.symm;rw[y]at q;injection q with q;injection q with _ h5 _;exact E h5)).trans y
structure tT(Q xb:Nat)(pv nv:Value)(k:Nat)(ps:List (Int×Int×Int×Int))(ns:bF)(p:Int×Int×Int×Int)(n:Int×Int)(d6 Z d10 X:Bool)(v6 v7 v10 v11:Value)(w:World):Prop where
 p0:Z=false->w.ownsRow Q 59 4 pv k (ps.flatMap vR)
 p1:Z=true->w.ownsRow Q 59 4 v7 (k+1) ((ps++[p]).flatMap vR)
 n0:X=false->w.ownsRow Q 124 2 nv k (ns.flatMap uJ)
 n1:X=true->w.ownsRow Q 124 2 v11 (k+1) ((ns++[n]).flatMap uJ)
 xr:X=false->w.heap[xb]?=QC.mk (uJ n).toArray 124
 pb:d6=true->Z=false->J7 w v6 p
 nb:d10=true->X=false->J8 w v10 n
 wide:Q<=w.heap.size
section
variable {Q xb k:Nat} {pv nv v6 v7 v10 v11:Value} {ps:List (Int×Int×Int×Int)} {ns:bF} {p:Int×Int×Int×Int} {n:Int×Int} {d6 Z d10 X:Bool} {w w':World}
theorem tT.below(q:tT Q xb pv nv k ps ns p n d6 Z d10 X v6 v7 v10 v11 w)(y:Below w w w'):tT Q xb pv nv k ps ns p n d6 Z d10 X v6 v7 v10 v11 w':=
 ⟨λf=>dM (q.p0 f) y,λf=>dM (q.p1 f) y,λf=>dM (q.n0 f) y,λf=>dM (q.n1 f) y,λf=>(y.block _ (bG (q.xr f))).trans (q.xr f),λf D=>(q.pb f D).below y,λf D=>(q.nb f D).below y,bK q.wide y.size⟩
theorem tT.six(y:tT Q xb pv nv k ps ns p n d6 Z d10 X v6 v7 v10 v11 w):tT Q xb pv nv k ps ns p n true Z d10 X (.slice (w,0) 1 1) v7 v10 v11 (w.alloc (.cells (vR p).toArray 59)):=by
 have q:=y.below (bk w (vR p).toArray 59);exact⟨q.p0,q.p1,q.n0,q.n1,q.xr,λ_ _=>J7.new w p,q.nb,q.wide⟩
theorem tT.ten(y:tT Q xb pv nv k ps ns p n d6 Z d10 X v6 v7 v10 v11 w):tT Q xb pv nv k ps ns p n d6 Z true X v6 v7 (.slice (w,0) 1 1) v11 (w.alloc (.cells (uJ n).toArray 124)):=by
 have q:=y.below (bk w (uJ n).toArray 124);exact⟨q.p0,q.p1,q.n0,q.n1,q.xr,q.pb,λ_ _=>J8.new w n,q.wide⟩
theorem tT.seven(q:tT Q xb pv nv k ps ns p n d6 Z d10 X v6 v7 v10 v11 w)(hd:Z=false){j:Value}(h8:w'.ownsRow Q 59 4 j (k+1) ((ps++[p]).flatMap vR))(o8:fI w pv w' j):tT Q xb pv nv k ps ns p n d6 true d10 X v6 j v10 v11 w':=by
 have D:=q.p0 hd;have y:=o8.1;refine⟨λf=>(by cases f),λ_=>h8,λf=>sF (q.n0 f) D (by decide) y,λf=>sF (q.n1 f) D (by decide) y,λf=>abH (q.xr f) D (by decide) y,λ_ f=>(by cases f),λf z1z=>?_,bK q.wide y.size⟩;obtain⟨b,z0z,E,H⟩:=q.nb f z1z;exact⟨b,z0z,E,abH H D (by decide) y⟩
theorem tT.elev(q:tT Q xb pv nv k ps ns p n d6 Z d10 X v6 v7 v10 v11 w)(hd:X=false){j:Value}(h8:w'.ownsRow Q 124 2 j (k+1) ((ns++[n]).flatMap uJ))(o8:fI w nv w' j):tT Q xb pv nv k ps ns p n d6 Z d10 true v6 v7 v10 j w':=by
 have D:=q.n0 hd;have y:=o8.1;refine⟨λf=>sF (q.p0 f) D (by decide) y,λf=>sF (q.p1 f) D (by decide) y,λf=>(by cases f),λ_=>h8,λf=>(by cases f),λf z1z=>?_,λ_ f=>(by cases f),bK q.wide y.size⟩;obtain⟨b,z0z,E,H⟩:=q.pb f z1z;exact⟨b,z0z,E,abH H D (by decide) y⟩
end
def B5(s t:V)(y:Nat->V)(d:Nat):Nat->Int
 |0=>0
 |q+1=>(B5 s t y d q+AG s t q*J (y q) d%1073741789)%1073741789
def xJ(n:Nat)(s t:V)(q:Nat->V)(y:Nat):V:=(List.range n).map λd=>B5 s t q d y
theorem aiX(s t:V)(y:Nat->V)(d:Nat):∀q,0<=B5 s t y d q/\B5 s t y d q<1073741789
 |0=>by unfold B5;omega
 |q+1=>uf _
theorem aiY(n:Nat)(s t:V)(q:Nat->V)(y:Nat):(xJ n s t q y).length=n:=by unfold xJ;simp
theorem aiZ{q:Nat->V}{y:Nat}(D:d<n):J (xJ n s t q y) d=B5 s t q d y:=IU n _ D
theorem avC(n:Nat)(s t:V)(y:Nat->V)(D:Nat):∀z∈xJ n s t y D,0<=z/\z<1073741789:=λz q=>by
 unfold xJ at q;obtain⟨d,-,rfl⟩:=ey.1 q;exact aiX _ _ _ _ _
theorem VW(s t:V)(y:Nat->V)(d:Nat):∀q,cq (B5 s t y d q)=sm q (λh=>cq (AG s t h)*cv (y h) d)
 |0=>se
 |q+1=>by
  show cq ((B5 s t y d q+AG s t q*J (y q) d%1073741789)%1073741789)=sm q _+_;rw[nX,vd,nX,wM,VW s t y d q];rfl
theorem ai0(y:gu)(t s:V)(d:Nat):∀q,cq (AH y t s d q)=sm q (λh=>cq (AG s t h)*cq (tS (y.getD h []) d).2)
 |0=>se
 |q+1=>by
  show cq ((AH y t s d q+AG s t q*(tS (y.getD q []) d).2%1073741789)%1073741789)=sm q _+_;rw[nX,vd,nX,wM,ai0 y t s d q]
theorem ai1{D:ak}{y:Nat->V}{B:Nat}(E:∀q,q<B->D.getD q []=bt (y q)/\d<(y q).length):∀q,q<=B->zi D t s d q=bm 4 (B5 s t y d q)
 |0,_=>by show(1:Int)=bm 4 0;rw[Pj]
 |q+1,H=>by
  show zi D t s d q*bm (J (D.getD q []) d) (AG s t q)%2147483579=bm 4 ((B5 s t y d q+AG s t q*J (y q) d%1073741789)%1073741789);rw[ai1 E q (by omega),(E q (by omega)).1,show J (bt (y q)) d=bm 4 (J (y q) d) from EN (E q (by omega)).2,Gg fO,<-Ei fO];refine TR ?_;rw[Hz (J (y q) d) (AG s t q)];generalize AG s t q*J (y q) d=z0;omega
theorem avD{H:gu}{q:V}{y:Nat->V}{B:Nat}(E:q.length=n)(z0z:∀D,D<B->(tS (H.getD D []) d).2=cz q (y D)):AH H t s d B=cz q (xJ n s t y B):=by
 refine LC (abB _) (n6 _ _) ?_;rw[ai0,IT,E];unfold dt;rw[iJ (g:=λh=>sm n (λk=>cq (AG s t h)*(cv q k*cv (y h) k))) (λh ht=>by rw[z0z h ht,IT,E];unfold dt;rw[Ee]),TP];refine iJ λk hk=>?_;show _=cv q k*cq (J (xJ n s t y B) k);rw[aiZ hk,VW,<-Ee];exact iJ λh _=>by grind
theorem VX(q:Nat->Fq):∀n,sm (bP c o n).length (λh=>q ((bP c o n).getD h 0))=sm n (λD=>if J c D∈o then q D else 0)
 |0=>rfl
 |n+1=>by
  show _=sm n _+(if J c n∈o then q n else 0);rw[<-VX q n];by_cases y:J c n∈o
  ·rw[Mb y,aD y,fu];show sm (bP c o n).length _+_=_
   congr 1
   ·refine iJ λh E=>?_;rw[kR,kR,uN E]
   ·show q ((bP c o n++[n]).getD (bP c o n).length 0)=q n;rw[kR,rD (aP _),zI];rfl
  ·rw[PX y,aA y];grind
theorem ai2{vs:Nat->V}(D:lU a c)(H:Vq a c o s)(hn:0<=J m 0/\J m 0<1073741789)
  (z0z:∀q,q<(dY c o c.length).length->J (vs q) 0=cz (a.getD (J (dY c o c.length) q).toNat []) m):
  B5 s (dY c o c.length) vs 0 (dY c o c.length).length=J m 0:=by
 refine LC (aiX _ _ _ _ _) hn ?_;rw[VW];have hlen:(dY c o c.length).length=(bP c o c.length).length:=by unfold dY;rw[dy]
 have fk:∀q,q<(bP c o c.length).length->(J (dY c o c.length) q).toNat=(bP c o c.length).getD q 0:=λq y=>by
  rw[di (by omega)];unfold dY;rw[gj,kR,fw y];simp
 rw[hlen];rw[hlen]at z0z;rw[iJ (g:=λh=>(λq=>cv s q*cq (cz (a.getD q []) m)) ((bP c o c.length).getD h 0)) (λh ht=>by
  show cq (J s (J (dY c o c.length) h).toNat)*cq (J (vs h) 0)=_;rw[z0z h ht,fk h ht];rfl),VX (λq=>cv s q*cq (cz (a.getD q []) m))]
 rw[<-D.len];rw[iJ (g:=λq=>sm (bh a) (λk=>cv s q*cv (a.getD q []) k*cv m k)) (λq y=>?_),TP]
 ·rw[iJ (g:=λk=>cq (y7 s a k a.length)*cv m k) (λk hk=>by rw[abh,<-O5])];rw[LD (k:=0) D.cols (λk hk E=>by rw[H.sum k hk,aA E,se];grind)];rw[H.sum 0 D.cols,aD rfl,Pb];show 1*cq (J m 0)=_;grind
 ·have da:(a.getD q []).length=bh a:=by rw[dp y];exact D.row y
  have f:cv s q*cq (cz (a.getD q []) m)=sm (bh a) (λk=>cv s q*cv (a.getD q []) k*cv m k):=by
   rw[IT,da];unfold dt;rw[<-Ee];exact iJ λk _=>by grind
  by_cases ho:J c q∈o
  ·rw[aD ho];exact f
  ·have E:J s q=0:=by
    by_cases h1:J s q=0
    ·exact h1
    ·exact absurd (H.own q y h1) ho
   rw[aA ho,<-f];unfold cv;rw[E,se];grind
def AM(a:ak)(m:V)(N:aO):bF:=N.map (lV a m)
theorem ai3(a:ak)(m:V):AM a m (List.range a.length)=bV a m:=rfl
theorem Rv(a:ak)(m:V)(N:aO):(AM a m N).length=N.length:=by unfold AM;simp
theorem abI(a:ak)(m:V)(q:d<N.length):tS (AM a m N) d=((N[d]:Int),cz (a.getD N[d] []) m):=by
 rw[J1 (by rw[Rv];exact q)];unfold AM;rw[gj];rfl
theorem avE(a:ak)(m h:V)(N:aO):gH (AM a m N)=gH (AM a h N):=by
 unfold gH AM;rw[mD,mD];rfl
theorem avF(q:N.Sublist (List.range a.length)):(AM a m N).Sublist (bV a m):=List.Sublist.map _ q
theorem avG{y:ak}{E:V}{q:Int}{j:V}{r:Int}{v:V}{e:Int}(D:dU a c q j)(hp:bH a c=0)(hr:0<=r/\r<(a.length:Int))(H:dU y E e v)(nH:bH y E=0):
  BW a c (bt (q::j)) y r (bt (e::v))=decide (e=cz (a.getD r.toNat []) (q::j)):=by
 have hk:r.toNat<a.length:=by omega
 have hE:iQ a c (bt (q::j)) r=0:=by unfold iQ;rw[LN (P9 D hp),aA (by simp),aA (by omega)]
 have hR:pZ a c (bt (q::j)) r=bm 4 (cz (a.getD r.toNat []) (q::j)):=by
  unfold pZ;rw[aD hE];unfold CK;rw[aaw _ _ _ (by simp[bt])]
  congr 1
  unfold cz;rw[dp hk,D.prog.row hk]
  congr 1
  rw[<-D.full];simp[bt]
 unfold BW;rw[hE,hR,(Qs H nH).1,bB rfl,jY,jY,show J (bt (e::v)) 0=bm 4 e from EN (g:=bm 4) (b:=e::v) (by simp)];have hn:=n6 (a.getD r.toNat []) (q::j);generalize cz (a.getD r.toNat []) (q::j)=p at *;by_cases f:e=p
 ·subst f;simp
 ·rw[bw f];exact eH.2 (λhh=>f (by have h5:=aeZ fO ae8 hh;have h6:=H.hx;omega))
structure OnD(a:ak)(c:V)(E:Int)(j:V)(y:ak)(bl t:V)(D:Nat->V)(N:aO)(H:ak)(ls:gu):Prop where
 key:dU a c E j
 p1:bH a c=0
 p2:bH y bl=0
 lc:H.length=t.length
 ll:ls.length=t.length
 k:N.Sublist (List.range y.length)
 each:∀q,q<t.length->H.getD q []=bt (D q)/\ls.getD q []=AM y (D q) N/\∃v,D q=cz (a.getD (J t q).toNat []) (E::j)::v/\dU y bl (cz (a.getD (J t q).toNat []) (E::j)) v
theorem avH{z2z ep:Int}{j:V}{y:ak}{bl:V}{H:Nat->V}{aX:ak}{ls:gu}
  (q:OnD a c z2z j y bl (dY c o c.length) H N aX ls) (h0:0<=ep) (h1:ep<64) (hw:eU (-1) o=true) (ha:kK a c o=true):
  ∃u',u'=(xJ (bh y) (bQ a c o) (dY c o c.length) H (dY c o c.length).length).tail/\dU y bl z2z u'/\Fg a c ep (bt (z2z::j)) y bl o (dY c o c.length) aX ls=0 /\
   BX aX (dY c o c.length) (bQ a c o) (bh y)=bt (z2z::u')/\BY ls (dY c o c.length) (bQ a c o)=AM y (z2z::u') N:=by
 have hP:=q.key.prog;have Rw:=fs q.p2;have hA:=QM hP ha;have sT:0<(dY c o c.length).length:=SR.2 (abA q.p1 ha);obtain⟨t,abJ⟩:=aK (dY c o c.length);have fB:∀D,D<t.length->0<=J t D/\J t D<(a.length:Int):=λD E=>by
  rw[hP.len];rw[abJ]at E ⊢;exact aix E
 have Nh:=ai2 (m:=z2z::j) (vs:=H) hP hA q.key.hx (λD E=>by obtain⟨-,-,v,f,-⟩:=q.each D E;rw[f];rfl);rw[<-abJ]at q sT Nh ⊢;have Vl:∀D,D<t.length->(H D).length=bh y:=λD E=>by
  obtain⟨-,-,v,f,hv⟩:=q.each D E;rw[f];exact hv.full
 have hL:xJ (bh y) (bQ a c o) t H t.length=z2z::(xJ (bh y) (bQ a c o) t H t.length).tail:=by
  have hl:=aiY (bh y) (bQ a c o) t H t.length;have h3:J (xJ (bh y) (bQ a c o) t H t.length) 0=z2z:=(aiZ Rw.cols).trans Nh;have h2:=Rw.cols;cases f:xJ (bh y) (bQ a c o) t H t.length with
  |nil=>rw[f]at hl;simp at hl;omega
  |cons e l=>rw[f]at h3;rw[<-h3];rfl
 have CB:=avC (bh y) (bQ a c o) t H t.length;refine⟨(xJ (bh y) (bQ a c o) t H t.length).tail,rfl,⟨Rw,q.key.hx,λz hz=>CB z (List.mem_of_mem_tail hz),?_⟩,?_,?_,?_⟩
 ·have hl:=aiY (bh y) (bQ a c o) t H t.length;have h2:=Rw.cols;rw[List.length_tail];omega
 ·unfold Fg;have hc:ox a c ep (bt (z2z::j)) y bl=0:=by
   unfold ox;rw[aA (by simp[q.p1]),VB q.key q.p1 h0 (by omega),aA (by simp),q.p2]
  rw[aA (by simp[hc]),aA (by omega),aA (by rw[hw,abJ];simp),aA (by rw[ha,q.lc,q.ll];simp),aD];refine ait λD E=>?_;obtain⟨e1,e2,v,e3,hv⟩:=q.each D E;obtain⟨-,f2,-⟩:=q.each 0 sT;unfold xF;rw[e1,e2,f2,e3,avG q.key q.p1 (fB D E) hv q.p2,bB rfl,avE y (H 0) (cz (a.getD (J t D).toNat []) (z2z::j)::v) N,bB rfl,abj hv q.p2 (avF q.k)];rfl
 ·rw[<-hL];unfold BX bt xJ;rw[mD];refine xZ λd hj=>?_;exact ai1 (λD E=>⟨(q.each D E).1,by rw[Vl D E];exact dT.1 hj⟩) t.length (aP _)
 ·rw[<-hL];have f2:=(q.each 0 sT).2.1;refine x8 (by rw[ais,f2,Rv,Rv]) λd hj1 mH=>?_;rw[Rv]at mH;have hKj:N[d]<y.length:=dT.1 (q.k.subset (bM mH));have e1:(BY ls t (bQ a c o))[d]=Di ls t (bQ a c o) d:=by simp[BY]
  rw[e1,<-J1 (b:=AM y _ N) (by rw[Rv];exact mH),abI y _ mH];unfold Di;rw[f2,abI y _ mH,avD (q:=y.getD N[d] []) (y:=H) (n:=bh y) (by rw[dp hKj];exact Rw.row hKj) (λD E=>by rw[(q.each D E).2.1,abI y _ mH])]
abbrev DV:=bD×(Value×Value)
def pH(z:DV):List Value:=[.int .i64 z.1.dealer,z.2.1,z.2.2]
structure ai4(w:World)(z:DV):Prop where
 r:aN z.1.dealer
 cs:aM w z.2.1 z.1.cs
 ps:ir w z.2.2 z.1.ps
def noV:DV:=(⟨0,[],[]⟩,(.slice none 0 0,.slice none 0 0))
def Rx(q:List DV)(k:Nat):Value×Value:=(q.getD k noV).2
theorem ai5:∀(l:List DV) (k d:Nat) (q:k<l.length),d<3->(l.flatMap pH)[k*3+d]?=(pH l[k])[d]?
 |[],k,_,q,_=>absurd q (fG k)
 |z::l,0,d,_,y=>by
  rw[lP,Ib,iN,uN (by show d<3;exact y)];rfl
 |z::l,k+1,d,q,y=>by
  rw[lP,rD (by show 3<=_;omega)];have f:(k+1)*3+d-(pH z).length=k*3+d:=by show(k+1)*3+d-3=_;omega
  rw[f,ai5 l k d (by simpa using q) y];rfl
theorem avI(l:List DV):(l.flatMap pH).length=l.length*3:=by
 induction l with
 |nil=>rfl
 |cons z l q=>rw[lP,fu,q,dZ];show 3+_=_;omega
theorem avJ(l:List DV)(z:DV):(l++[z]).flatMap pH=l.flatMap pH++pH z:=by rw[AY];simp
theorem ze.own{zs:List DV}(H:w.ownsRow G 84 3 v n (zs.flatMap pH))(hz:∀z∈zs,ai4 w z)(hl:zs.length<=1000000):ze w v (zs.map (·.1)) (Rx zs):=by
 obtain⟨hn,H⟩:=H;rw[avI]at hn;obtain rfl:n=zs.length:=by omega
 rcases H with⟨rfl,h0⟩|⟨g,cap,cur,rfl,-,hg,kE,-,ew,lu⟩
 ·exact⟨none,0,by rw[dy,h0],by rw[dy];omega,by rw[dy];omega,λk q=>absurd q (by rw[dy];omega)⟩
 ·refine⟨some (g,0),cap,by rw[dy],by rw[dy];exact kE,by rw[dy];omega,λk q=>⟨g,0,rfl,?_⟩⟩;have D:k<zs.length:=by rw[dy]at q;exact q
  have y:=hz _ (bM D);have hv:Rx zs k=zs[k].2:=by unfold Rx;rw[dp D]
  have hd:(zs.map (·.1))[k]=zs[k].1:=by simp
  have E:∀d j,d<3->(pH zs[k])[d]?=some j->w.cell? (g,0+k*3+d)=some j:=λd j hj hu=>by
   have e2:(cur.toList.take (zs.length*3))[k*3+d]?=(pH zs[k])[d]?:=by rw[lu,ai5 zs k d D hj]
   rw[we,aD (by omega)]at e2;rw[iN];exact Y hg (by rw[<-sR,e2];exact hu)
  rw[hv,hd];exact⟨E 0 _ (by omega) rfl,E 1 _ (by omega) rfl,E 2 _ (by omega) rfl,y.r,y.cs,y.ps⟩
theorem avK:(prog.info? 84).map (λq=>(q.zero.map (·.cells.size),q.size,q.bytes))=some (some 3,3,56):=by kernel_rfl
theorem avL{e:Act}{z0z:Exit->Act->World->Prop}(dE:R.guard=none)(m H:Operand)(ho:R.op=.call {callee:=.builtin .append,args:=#[m,H],argTypes:=#[77,77]})
  (G:Nat) (v:Value) (l:List DV) (n:Nat) (hs:e.eval m=v) (bo:W.ownsRow G 84 3 v n (l.flatMap pH)) (b q:Nat) (z:DV) (hx:e.eval H=.slice (b,0) 1 q) (qN:(∃e n q,z.2.1=.slice e n q)/\∃e n q,z.2.2=.slice e n q) (cT:∀d j,(pH z)[d]?=some j->W.cell? ⟨b,d,none⟩=some j) (hn:n<=1000000) (dF:G<=W.heap.size)
  (z2z:∀g y w',w'.ownsRow G 84 3 (.slice (some ⟨g,0,none⟩) (n+1) y) (n+1) ((l++[z]).flatMap pH)->fI W v w' (.slice (some ⟨g,0,none⟩) (n+1) y)->wpList prog ops z0z rest (e.put R.dst (.slice (some ⟨g,0,none⟩) (n+1) y)) w'):wpList prog ops z0z (R::rest) e W:=by
 obtain⟨z3z,hi,dL⟩:=kA.1 avK;simp only[pN]at dL;obtain⟨hz,bX,hb⟩:=dL;obtain⟨zv,oW,oX⟩:=kA.1 hz;refine wpList_append_lies _ dE m H 77 ho G 84 z3z zv 3 56 underlying77 hi oW bX hb oX (by decide) v n (l.flatMap pH) hs bo (b,0) 1 q (pH z) hx rfl ?_ ?_ (by decide) ?_ ?_ dF W.heap.size rfl ?_
 ·intro d j E;rw[Cu];exact cT d j E
 ·intro j E;simp only[pH,iu,oG,oH]at E;obtain⟨⟨a1,n1,c1,e1⟩,⟨a2,n2,c2,e2⟩⟩:=qN;rcases E with rfl|rfl|rfl
  ·rfl
  ·rw[e1];rfl
  ·rw[e2];rfl
 ·unfold maxLen;omega
 ·omega
 ·intro g y w' h1 h2 D _;refine z2z g y w' (by rw[avJ];exact h1) ⟨h2,?_⟩;rcases D with D|D
  ·exact .inl (D▸rfl)
  ·exact .inr ⟨g,rfl,by omega⟩
theorem avM{e:Act}{z0z:Exit->Act->World->Prop}(dE:R.guard=none)(m E:Operand)(ho:R.op=.call {callee:=.builtin .append,args:=#[m,E],argTypes:=#[78,78]})
  (G:Nat) (v:Value) (l:List cP) (n:Nat) (hs:e.eval m=v) (bo:W.ownsRow G 92 5 v n (l.flatMap iM)) (b z1z:Nat) (z:cP) (hx:e.eval E=.slice (b,0) 1 z1z) (cT:∀d j,(iM z)[d]?=some j->W.cell? ⟨b,d,none⟩=some j) (hn:n<=1000000) (dF:G<=W.heap.size)
  (z2z:∀g q w',w'.ownsRow G 92 5 (.slice (some ⟨g,0,none⟩) (n+1) q) (n+1) ((l++[z]).flatMap iM)->fI W v w' (.slice (some ⟨g,0,none⟩) (n+1) q)->wpList prog ops z0z rest (e.put R.dst (.slice (some ⟨g,0,none⟩) (n+1) q)) w'):wpList prog ops z0z (R::rest) e W:=by
 obtain⟨z3z,hi,H⟩:=kA.1 aic;simp only[pN]at H;obtain⟨hz,bX,hb⟩:=H;obtain⟨zv,oW,oX⟩:=kA.1 hz;refine wpList_append_lies _ dE m E 78 ho G 92 z3z zv 5 40 underlying78 hi oW bX hb oX (by decide) v n (l.flatMap iM) hs bo (b,0) 1 z1z (iM z) hx rfl ?_ ?_ (by decide) ?_ ?_ dF W.heap.size rfl ?_
 ·intro d j D;rw[Cu];exact cT d j D
 ·intro j D;simp only[iM,iu,oG,oH]at D;rcases D with rfl|rfl|rfl|rfl|rfl<;>rfl
 ·unfold maxLen;omega
 ·omega
 ·intro g q w' h1 h2 y _;refine z2z g q w' (by rw[ah7];exact h1) ⟨h2,?_⟩;rcases y with y|y
  ·exact .inl (y▸rfl)
  ·exact .inr ⟨g,rfl,by omega⟩
structure Ca(w:World)(z:DV):Prop where
 ok:ai4 w z
 tc:dS w 3 z.2.1
 tp:dS w 88 z.2.2
theorem Ca.grown{z:DV}(q:Ca W z)(E:W.ownsRow G 84 3 j n xs)(y:W.grownBy C j.ownBlock):Ca C z:=by
 have n1:(3:TypeId) ≠ 84:=by decide
 have n2:(88:TypeId) ≠ 84:=by decide
 refine⟨⟨q.ok.r,(RI.grown ⟨q.ok.cs,q.tc⟩ E n1 y).1,?_⟩,q.tc.grown E n1 y,q.tp.grown E n2 y⟩;have hT:=q.tp;obtain⟨e,cap,f,h2,h3,h4,h5⟩:=q.ok.ps;refine⟨e,cap,f,h2,h3,h4,λk hk=>?_⟩;obtain⟨b,off,ea,h6,h7,h8⟩:=h5 k hk;have H:j.ownBlock≠some b:=hT.ne E n2 b (by rw[f,ea];rfl);exact⟨b,off,ea,y.cell h6 (λD=>H D.symm),y.cell h7 (λD=>H D.symm),y.cell h8 (λD=>H D.symm)⟩
theorem abK{y:Nat}(z1z:W.ownsRow G f y v n xs)(hb:Below x W C)(D:∀g,v.ownBlock=some g->g<x):C.ownsRow G f y v n xs:=by
 obtain⟨h1,q⟩:=z1z;refine⟨h1,?_⟩;rcases q with q|⟨g,E,H,e,b,z0z,i⟩
 ·exact .inl q
 ·exact .inr ⟨g,E,H,e,b,(hb.block g (D g (by rw[e];rfl))).trans z0z,i⟩
theorem avN{b:Nat}{i:bD}{cv pv:Value}(y:W.heap[b]?=QC.mk #[i.dealer,cv,pv] 84):∀d j,(pH (i,(cv,pv)))[d]?=some j->W.cell? ⟨b,d,none⟩=some j:=λd j q=>Y y (by
 match d with
 |0|1|2=>exact q
 |n+3=>simp[pH]at q)
section
variable {a:ak} {c bu F:V}
theorem avO{i:bD}(y:tO a i)(H:bH a c=0){q:Nat}(E:q<a.length)(m:Int):C5 (pB a c m i (q:Int)):=by
 have mN:=(fs H).few;unfold pB;split
 ·have h1:=y.dealer;have D:=(y.at E).2.1;exact⟨aN.mk (by show(-4611686018427387904:Int)<=i.dealer;omega) (by show i.dealer<=4611686018427387904;omega),aN.mk (by show(-4611686018427387904:Int)<=(q:Int);omega) (by show(q:Int)<=4611686018427387904;omega),(fJ D _).r64,dK (aao _ _),dK (ago _ _)⟩
 ·exact⟨aN.mk (by decide) (by decide),aN.mk (by decide) (by decide),aN.mk (by decide) (by decide),aN.mk (by decide) (by decide),aN.mk (by decide) (by decide)⟩
end
def Ry(i q b:Nat->Int):Nat->Int
 |0=>0
 |k+1=>Ry i q b k+(i k+q k*b k)
def VY(i q b:Nat->Int)(k:Nat):Int:=bm 4 (i k)*bm (bm 4 (q k)) (b k)%2147483579
def Ni(i q b:Nat->Int):Nat->Int
 |0=>1
 |k+1=>Ni i q b k*VY i q b k%2147483579
theorem avP(i q b:Nat->Int)(k:Nat):VY i q b k=bm 4 (i k+q k*b k):=by
 unfold VY;rw[Gg fO,<-Ei fO]
theorem ai6(i q b:Nat->Int):∀k,Ni i q b k=bm 4 (Ry i q b k)
 |0=>(Pj 4).symm
 |k+1=>by
  show Ni i q b k*VY i q b k%2147483579=bm 4 (Ry i q b k+(i k+q k*b k));rw[ai6 i q b k,avP,<-Ei fO]
def pI(s:V)(l:bF):Nat->Int
 |0=>0
 |q+1=>(pI s l q+J s (tS l q).1.toNat*(tS l q).2%1073741789)%1073741789
theorem avQ(s:V)(l:bF):∀q,0<=pI s l q/\pI s l q<1073741789
 |0=>by unfold pI;omega
 |q+1=>uf _
theorem ai7(s:V)(l:bF):∀q,cq (pI s l q)=sm q (λh=>cv s (tS l h).1.toNat*cq (tS l h).2)
 |0=>se
 |q+1=>by
  show cq ((pI s l q+J s (tS l q).1.toNat*(tS l q).2%1073741789)%1073741789)=sm q _+_;rw[nX,vd,nX,wM,ai7 s l q];rfl
def mZ(a:ak)(c m:V)(n:Int):bF:=(bP c [n] a.length).map (lV a m)
theorem avR{n:Int}(q:0<=n)(y:n<64):jW c [n] (bV a m)=mZ a c m n:=Qz (by simp[eU,ct];omega)
theorem VZ(a:ak)(c m:V)(n:Int):(mZ a c m n).length=(bP c [n] a.length).length:=by unfold mZ;simp
theorem avS{n:Int}{h:Nat}(q:h<(bP c [n] a.length).length):tS (mZ a c m n) h=lV a m ((bP c [n] a.length).getD h 0):=by
 rw[J1 (by rw[VZ];exact q)];unfold mZ;rw[gj,dp q]
def G5(i y b:Nat->Int)(q:Int)(j:Nat->Int)(k:Nat):Int:=((i k+y k*b k%1073741789)%1073741789+q*j k%1073741789)%1073741789
def zq(i y b:Nat->Int)(q:Int)(j:Nat->Int):Nat->Int
 |0=>0
 |k+1=>(zq i y b q j k+G5 i y b q j k)%1073741789
theorem avT(i y b:Nat->Int)(q:Int)(j:Nat->Int)(k:Nat):0<=G5 i y b q j k/\G5 i y b q j k<1073741789:=uf _
theorem ai8(i y b:Nat->Int)(q:Int)(j:Nat->Int):∀k,0<=zq i y b q j k/\zq i y b q j k<1073741789
 |0=>by unfold zq;omega
 |k+1=>uf _
theorem ai9(i y b:Nat->Int)(q:Int)(j:Nat->Int):∀k,cq (zq i y b q j k)=cq (Ry i y b k)+cq q*sm k (λD=>cq (j D))
 |0=>by show cq 0=cq 0+cq q*0;rw[se];grind
 |k+1=>by
  show cq ((zq i y b q j k+G5 i y b q j k)%1073741789)=cq (Ry i y b k+(i k+y k*b k))+cq q*(sm k (λD=>cq (j D))+cq (j k));unfold G5;rw[nX,vd,ai9 i y b q j k,nX,vd,nX,nX,vd,vd,vd,nX,wM,wM];grind
theorem avU{e b:Int}(q:cq e=cq b):e%1073741789=b%1073741789:=by rw[<-rY,<-rY,q]
theorem aja(q:Int)(g:Fq):∀(o:V),o.Nodup->sm o.length (λy=>if q∈[J o y] then g else 0)=if q∈o then g else 0
 |[],_=>by simp[sm]
 |n::o,H=>by
  rw[List.nodup_cons]at H;rw[dZ,Gd];have f:sm o.length (λy=>if q∈[J (n::o) (y+1)] then g else 0)=sm o.length (λy=>if q∈[J o y] then g else 0):=iJ λy _=>by rfl
  rw[f,aja q g o H.2];show(if q∈[n] then g else 0)+_=_;by_cases E:q=n
  ·subst E;rw[aD (by simp),aA H.1,aD (by simp)];grind
  ·rw[aA (by simpa using E)];by_cases D:q∈o
   ·rw[aD D,aD (by simp[D])];grind
   ·rw[aA D,aA (by simp[E,D])];grind
theorem avV(q:eU (-1) o=true):o.Nodup:=by
 exact(Bz q).2.2.1.imp (λq=>by omega)
theorem avW(a:ak)(c m s:V)(n:Int):cq (pI s (mZ a c m n) (mZ a c m n).length)=sm a.length (λq=>if J c q∈[n] then cv s q*cq (cz (a.getD q []) m) else 0):=by
 rw[ai7,VZ,<-VX (λq=>cv s q*cq (cz (a.getD q []) m))];refine iJ λh y=>?_;rw[avS y];rfl
theorem avX(D:lU a c)(H:Vq a c o s)(hn:0<=J m 0/\J m 0<1073741789)(hw:eU (-1) o=true):
  sm o.length (λk=>cq (pI s (mZ a c m (J o k)) (mZ a c m (J o k)).length))=cq (J m 0):=by
 rw[iJ (g:=λk=>sm a.length (λq=>if J c q∈[J o k] then cv s q*cq (cz (a.getD q []) m) else 0)) (λk _=>avW a c m s (J o k)),TP];rw[iJ (g:=λq=>if J c q∈o then cv s q*cq (cz (a.getD q []) m) else 0) (λq _=>aja (J c q) _ o (avV hw))];have z0z:=ai2 (m:=m) (vs:=λh=>[cz (a.getD (J (dY c o c.length) h).toNat []) m]) D H hn (λq _=>rfl);have y:=congrArg cq z0z;rw[VW]at y;rw[<-y];have hlen:(dY c o c.length).length=(bP c o c.length).length:=by unfold dY;rw[dy]
 rw[hlen,D.len,<-VX (λq=>cv s q*cq (cz (a.getD q []) m))];refine iJ λh ht=>?_;have E:(J (dY c o c.length) h).toNat=(bP c o c.length).getD h 0:=by
  rw[di (by omega)];unfold dY;rw[gj,dp ht];simp
 show cv s _*cq _=cq (J s (J (dY c o c.length) h).toNat)*cq (cz (a.getD (J (dY c o c.length) h).toNat []) m);rw[E];rfl
theorem avY{i y b:Nat->Int}{q:Int}(E:lU a c)(D:Vq a c o s)(hn:0<=J m 0/\J m 0<1073741789)(H:eU (-1) o=true):
  bm 4 (zq i y b q (λk=>pI s (mZ a c m (J o k)) (mZ a c m (J o k)).length) o.length)*bm (bm 4 (J m 0)) (-q)%2147483579=Ni i y b o.length:=by
 rw[Gg fO,<-Ei fO,ai6];refine TR (avU ?_);rw[vd,wM,aeC,ai9,avX E D hn H];grind
