/- Products of commitments and sums of what is dealt, in plain Lean. -/
import Derived.Test.YtaifagjclanodaaGreatDoorMDeaX
import Derived.Test.YtaifagjclanodaaGreatDoorMHash
import Derived.Laws.Bits64b
set_option maxHeartbeats 8000000
set_option maxRecDepth 100000
namespace Go.Proofs.YtaifagjclanodaaGreatDoor
open Go.Proofs.Tryz
open Go.RowKit FP
variable{l:Array Oper}{i:Int}{v:List Oper}{n:Oper}{j:World}{b h d:V}{a:ak}
def mulL(g c:V):V:=(List.range g.length).map λf=>J g f*J c f%2147483579
def lZ(k:V)(c:ak):V:=c.foldl mulL k
theorem Mr(g c:V):(mulL g c).length=g.length:=by simp[mulL]
theorem ag0(q:V)(c:ak){k:Nat}(w:k<c.length):lZ q (c.take (k+1))=mulL (lZ q (c.take k)) c[k]:=by
 unfold lZ;rw[jv w,DC];rfl
theorem aaU{g k:V}(ha:∀c∈g,El c)(q:∀c∈k,El c)(z:g.length<=k.length):∀c∈mulL g k,El c:=by
 intro c w;obtain⟨f,x,rfl⟩:=ey.1 w;have y:f<g.length:=by simpa using x
 exact Eh (ha _ (by rw[di y];exact bM _)) (q _ (by rw[di (show f<k.length by omega)];exact bM _))
theorem GP{k:V}(c:fQ a k=true):(∀q∈k,El q)/\k.length=bh a:=by
 unfold fQ at c;simp only[cu,fU,FL]at c;exact⟨afx c.1,c.2⟩
theorem dU.full(c:dU a b i h):(i::h).length=bh a:=by rw[dZ];exact c.len
theorem dU.nums(k:dU a b i h):∀z∈i::h,0<=z/\z<1073741789:=λz c=>by
 rcases iu.1 c with rfl|c
 ·exact k.hx
 ·exact Zs (Pq k.hr) z c
theorem At(c:V):(bt c).length=c.length:=by simp[bt]
theorem Qs(w:dU a b i h)(k:bH a b=0):fQ a (bt (i::h))=true/\jQ a b (bt (i::h))=0:=by
 have c:=LN (P9 w k);refine⟨?_,c⟩;rw[Qa k]at c;cases q:fQ a (bt (i::h)) with
 |true=>rfl
 |false=>rw[q]at c;cases c
theorem ag1{c k:V}(B:k.length=c.length):mulL (bt c) (bt k)=bt (kH c k):=by
 refine x8 (by rw[Mr,At,At,EP]) λz q x=>?_;have y:z<c.length:=by rw[Mr,At]at q;exact q
 have w:=aq7 y B;rw[di x]at w;rw[w];simp[mulL]
def uF(h:V)(c:ak):V:=c.foldl kH h
theorem ag2{c:Int}(k:0<=c/\c<1073741789)(h z:V):kH (c::h) (0::z)=c::kH h z:=by
 rw[agE,Int.add_zero,N4 k.1 k.2]
theorem ag3:∀{x:ak} {h:V},dU a b i h->dU a b i (uF h x)
 |[],_,c=>c
 |k::w,h,c=>by
  have q:dU a b i (kH h k):=⟨c.prog,c.hx,UN h k,by rw[EP];exact c.len⟩;exact ag3 (x:=w) q
def l6(at_:aO)(k:V):Nat->Nat->Int
 |0,_=>0
 |c+1,f=>if f=at_.getD c 0 then J k c else l6 at_ k c f
def kK(a:ak)(b d:V):Bool:=decide (mu a b d=0)&&mR (iS a b d) (gL (bh a))
def Vg(a:ak)(b d:V):V:=(List.range a.length).map (l6 (bP b d a.length) (fy (iS a b d) (gL (bh a))) (bP b d a.length).length)
def bQ(a:ak)(b d:V):V:=if kK a b d=true then Vg a b d else []
theorem aaV(w:lU a b):uY (iS a b d) (gL (bh a)).length:=by
 rw[Gt];have C:=GG b d a.length;have B:=w.few;have y:∀k∈iS a b d,∃x,∃c:x<a.length,k=a[x]:=by
  intro k q;obtain⟨f,z,rfl⟩:=ey.1 q;have c:=(By z).1;exact⟨_,c,dp c []⟩
 refine⟨by simp[iS];omega,.inl w.cols_le,?_,?_⟩
 ·intro k q;obtain⟨x,c,rfl⟩:=y k q;exact w.row c
 ·intro k q;obtain⟨x,c,rfl⟩:=y k q;exact w.right.num _ (bM c)
theorem asc(c:lU a b):gy (iS a b d) (gL (bh a))=0:=
 Zz (aaV c) (LU _) (by rw[Gt];exact c.cols_le)
theorem asd(c:mu a b d=0):bH a b=0/\eU (-1) d=true:=by
 unfold mu at c;by_cases k:bH a b=0
 ·rw[aA (by simp[k])]at c;cases q:eU (-1) d with
  |true=>exact⟨k,rfl⟩
  |false=>rw[q]at c;simp at c
 ·rw[aD k]at c;exact absurd c k
theorem ag4{at_:aO}{q:V}(w:∀k,0<=J q k/\J q k<1073741789):∀c f,0<=l6 at_ q c f/\l6 at_ q c f<1073741789
 |0,f=>by simp[l6]
 |c+1,f=>by
  unfold l6;split
  ·exact w c
  ·exact ag4 w c f
theorem aaW(rv ov wv:Value)(a:ak)(b d:V)(e:World)(hR:bI e rv a)(hO:aM e ov b)(hW:aM e wv d):
  Calls prog 11 #[.agg #[rv,ov],wv] e λz4z w'=>∃T,z4z=.returned (.tuple #[T,.bool (kK a b d),(mu a b d:Int)])/\aM w' T (bQ a b d)/\(∀W,T.ownBlock=some W->e.heap.size<=W)/\Below e e w':=by
 obtain⟨W1,aE,R,aI,hz⟩:=ee e rv ov 25;obtain⟨E,D,G⟩:=bJ (hR.below R) (hO.below R) (hW.below R);obtain⟨g,cap,rfl,-,hlen,-⟩:=id hR;obtain⟨a2,dj,rfl,-,qF,-⟩:=id hO;obtain⟨a3,fP,rfl,-,En,-⟩:=id hW;have L:W1.cell? (e,0)=some (.slice g a.length cap):=Y aI rfl;obtain⟨w,bp⟩:=aR R aE;clear hR hO hW aI aE R;by_cases F:mu a b d=0
 ·obtain⟨O,mw⟩:=asd F;obtain⟨eT,JA,HQY,HQ⟩:=cY (fs O) (show kK a b d=mR (iS a b d) (gL (bh a)) by unfold kK;rw[F];simp) (aqC _ _ _ a b d W1 E.1 D.1 G.1 O mw) F;have Et:=A (asc (d:=d) eT.1);clear F O mw;go_enter func11,ntmps11;go_wp2_with fail;rw[<-bp.1];refine HQY.1.mono ?_;rintro z4z w2 ⟨v1,v2,v3,rfl,h1,h2,h3,y⟩;obtain⟨UE,S,tk⟩:=bJ h1 h2 h3;obtain⟨b1,k1,rfl,-⟩:=id h1;obtain⟨b2,k2,rfl,-⟩:=id h2;obtain⟨b3,k3,rfl,-⟩:=id h3;clear h1 h2 h3;replace L:=U y L;obtain⟨E,D,G,w⟩:=cY (E.1.below y) (D.1.below y) (G.1.below y) (ar w.1 y);clear y;cases P:mR (iS a b d) (gL (bh a)) with
  |false =>
   have Z:=A (afn _ _ (iS a b d) (gL (bh a)) _ UE.1 tk.1 Et.1 P);have C:Hid (kK a b d=false):=A (by rw[JA.1,P]);have I:Hid (bQ a b d=[]):=A (by unfold bQ;rw[C.1];rfl);clear P;go_wp2_with fail;refine Z.1.mono ?_;rintro H B ⟨T,rfl,Q,q⟩;obtain⟨ya,yc,rfl,-⟩:=id Q;clear Q;replace L:=U q L;obtain⟨E,D,G,S,w⟩:=gw (E.1.below q) (D.1.below q) (G.1.below q) (S.1.below q) (ar w.1 q);clear q;go_wp2_with fail;go_ret3;exact⟨_,by rw[C.1,HQ.1];rfl,by rw[I.1];exact aM.nil _ _ _,(λW H=>by cases H),w.1⟩
  |true =>
   have Z:=A (afm _ _ (iS a b d) (gL (bh a)) _ UE.1 tk.1 Et.1 P);have C:Hid (kK a b d=true):=A (by rw[JA.1,P]);have I:Hid (bQ a b d=(List.range a.length).map (l6 (bP b d a.length) (fy (iS a b d) (gL (bh a))) (bP b d a.length).length)):=A (by unfold bQ;rw[C.1];rfl);have I7:Hid ((fy (iS a b d) (gL (bh a))).length=(bP b d a.length).length):=A (by rw[Pn];simp[iS]);have GQ:Hid (∀k,0<=J (fy (iS a b d) (gL (bh a))) k/\J (fy (iS a b d) (gL (bh a))) k<1073741789):=A (λk=>by
    by_cases N:k<(iS a b d).length
    ·exact Zl (aaV eT.1) (LU _) N
    ·rw[TH (by rw[Pn];exact N)];omega)
   have CJ:=eT.1.few;have CN:=GG b d a.length;have ES:Hid ((yK a b d).length=(bP b d a.length).length):=A (by simp[yK]);have Vh:Hid (∀k,k<(bP b d a.length).length->J (yK a b d) k=((bP b d a.length).getD k 0:Nat)/\(bP b d a.length).getD k 0<a.length):=A (λk N=>by
    rw[dp N];refine⟨?_,(By (bM N)).1⟩;rw[di (by simpa [yK] using N)];simp[yK])
   rw[ES.1];obtain⟨K,hL⟩:=aK (fy (iS a b d) (gL (bh a)));rw[<-hL]at Z I I7 GQ;obtain⟨x,hA⟩:=aK (bP b d a.length);rw[<-hA]at I I7 Vh CN ES ⊢;clear P hL hA;have jE:=TE a.length (by omega);go_wp2_with fail;refine Z.1.mono ?_;rintro H B ⟨T,rfl,Q,q⟩;obtain⟨ya,yc,rfl,-⟩:=id Q;have HY:=A Q;clear Q;rw[I7.1];replace L:=U q L;obtain⟨E,D,G,S,w⟩:=gw (E.1.below q) (D.1.below q) (G.1.below q) (S.1.below q) (ar w.1 q);clear q;go_wp2_with fail;have z:lr (B.alloc (.cells (madeCells #[(0:Int)] a.length) 3)) B.heap.size a.length (l6 x K 0):=lr.made B a.length 3;have fq:=bk B (madeCells #[(0:Int)] a.length) 3;go_loopw[44,11,12] (λf _ _ j=>∃k:Nat,k<=x.length/\f=.int .i64 k/\lr j B.heap.size a.length (l6 x K k)/\Below B B j/\B.heap.size<j.heap.size) (λf _ _ _=>x.length-(intOf f).toNat);case atStart=>exact⟨0,bS _,rfl,z,fq,by simp⟩
   case round =>
    clear z fq;obtain⟨k,dg,rfl,z,M,dh⟩:=hrel;by_cases aq:k<x.length
    ·obtain⟨ha1,CC⟩:=Vh.1 k aq;obtain⟨-,b4,o4,n4,m4,e4,q4⟩:=S.1.get (k:=k) (by rw[ES.1];exact aq);obtain⟨-,b5,o5,n5,m5,e5,q5⟩:=HY.1.get (k:=k) (by rw[I7.1];exact aq);simp only[dr]at e4 e5;obtain⟨rfl,-,-⟩:=e4;obtain⟨rfl,-,-⟩:=e5;rw[ha1]at q4;have y4:=U M q4;have y5:=U M q5;have mz:Hid (∀f,l6 x K (k+1) f=if f=x.getD k 0 then J K k else l6 x K k f):=A (λf=>rfl);obtain⟨X,O⟩:=aK (x.getD k 0);rw[<-O]at CC y4 mz;have yc:=z.cell X CC;have yf:=z.fro X CC;have i0:0<=(k:Int):=by omega
     have i1:(k:Int)<(x.length:Int):=by omega
     have i2:0<=(X:Int):=by omega
     have i3:(X:Int)<(a.length:Int):=by omega
     obtain⟨yL,df,lX⟩:=bJ z M dh;clear ha1 q4 q5 O z M dh;generalize J K k=z0 at *;go_wp2_with fail;go_roundw;case rel =>
      refine⟨k+1,by omega,by go_num,?_,df.1.setCell (aP _) _,by simpa [World.setCell] using lX.1⟩;have z2z:=yL.1.set (k:=X) z0;exact⟨λf hi=>by rw[z2z.cell f hi,mz.1],z2z.fro⟩
     case measure=>simp[intOf];omega
    ·obtain rfl:k=x.length:=by omega
     obtain⟨HI,JB⟩:=aR (z.ints (c:=a.length) (aP _) (by omega) (λf _=>dK (ag4 GQ.1 _ f))) (ar w.1 M);clear z M dh;go_wp2_with fail;go_ret3;exact⟨_,by rw[C.1,HQ.1];rfl,by rw[I.1];exact HI.1,(λW H=>bK w.1.size (Oc (by injection H))),JB.1⟩
 ·have C:Hid (kK a b d=false):=A (by unfold kK;rw[bw F];rfl);have I:Hid (bQ a b d=[]):=A (by unfold bQ;rw[C.1];rfl);have HQN:=A (aqA _ _ _ a b d W1 E.1 D.1 G.1 F);have h2:(mu a b d !=0)=true:=jg.2 F;clear F;generalize mu a b d=qe at *;go_enter func11,ntmps11;go_wp2_with fail;rw[<-bp.1];refine(HQN.1).mono ?_;rintro H w2 ⟨rfl,y⟩;replace w:=A (ar w.1 y);clear y;go_wp2_with fail;go_ret3;exact⟨_,by rw[C.1];rfl,by rw[I.1];exact aM.nil _ _ _,(λW H=>by cases H),w.1⟩
theorem ag5(k c w:Value)(a:ak)(b d:V)(e:World)(E:bI e k a)(D:aM e c b)(F:aM e w d):
  Calls prog 11 #[.agg #[k,c],w] e λy q=>∃x,y=.returned (.tuple #[x,.bool (kK a b d),(mu a b d:Int)])/\aM q x (bQ a b d)/\Below e e q:=
 (aaW k c w a b d e E D F).mono λy q H=>by obtain⟨G,z,B,-,C⟩:=H;exact⟨G,z,B,C⟩
theorem ase{g:Act}{H:Act->World->Prop}{m:Exit->Act->World->Prop}{L:Prop}(O:n.guard=none)(G i:Operand)(W:n.op=.call {callee:=.builtin .append,args:=#[G,i],argTypes:=#[38,38]})
  (y:Nat) (D:Value) (F:bF) (k:Nat) (X:g.eval G=D) (N:j.ownsRow y 66 2 D k (F.flatMap gU)) (C I:Nat) (z:Int×Int) (Z:g.eval i=.slice (C,0) 1 I) (Q:j.cell? (C,0)=z.1) (E:j.cell? (C,1)=z.2) (hn:k<=1000000) (P:y<=j.heap.size)
  (z2z:∀q w x,x.ownsRow y 66 2 (.slice (some ⟨q,0,none⟩) (k+1) w) (k+1) ((F++[z]).flatMap gU)->fI j D x (.slice (some ⟨q,0,none⟩) (k+1) w)->H (g.put n.dst (.slice (some ⟨q,0,none⟩) (k+1) w)) x):
  if Region.wanted n (yielded l g.tmps)=true then Oper.wp prog n g j H m else L:=by
 obtain⟨f,T,K⟩:=kA.1 aft;simp only[pN]at K;obtain⟨hz,M,S⟩:=K;obtain⟨zv,oW,oX⟩:=kA.1 hz;refine step_append_lies _ O G i 38 W y 66 f zv 2 16 underlying38 T oW M S oX (by decide) D k (F.flatMap gU) X N (C,0) 1 I (gU z) Z rfl ?_ ?_ (by decide) ?_ ?_ P j.heap.size rfl ?_
 ·intro z3z h c;rw[zS]
  match z3z with
  |0=>simp[gU]at c;rw[<-c];exact Q
  |1=>simp[gU]at c;rw[<-c];exact E
  |k+2=>simp[gU]at c
 ·intro h c;simp only[gU,iu,oG,oH]at c;rcases c with rfl|rfl<;>rfl
 ·unfold maxLen;omega
 ·omega
 ·intro q w x E R B _;refine z2z q w x (by rw[afs];exact E) ⟨R,?_⟩;rcases B with B|B
  ·exact .inl (B▸rfl)
  ·exact .inr ⟨q,rfl,by omega⟩
abbrev asf(a:ak)(b:V)(w:bF)(y:Bool)(B:Int):Prop:=
 ∀q k c e,bI e q a->aM e k b->fK e c w->Calls prog 12 #[.agg #[q,k],c] e λz x=>z=.returned (.tuple #[.int .i64 B,.bool y,.int .i64 0])/\Below e.heap.size e x
theorem asg{k:V}{c:bF}(D:bH a b=0)(hn:∀z∈k,0<=z/\z<1073741789)(H:c.Sublist (bV a k)):asf a b c (Aj a c) (if Aj a c=true then J k 0 else 0):=λG F E e C B y=>by
 obtain⟨q,w,x⟩:=aq6 D hn H;have:=apg G F E a b c e C B y;rw[q,w,x]at this;exact this
section
variable {t:Program} {r:Region.Mode} {l:Array Oper} {m:Exit->Act->World->Prop} {o:World->Prop} {f:Nat} {s:Oper} {u:Nat} {p:Array Bool} {g:Act} {e:World}
theorem lE(c:Option Tmp)(k:Value)(B:l[f]?=some s)(y:s.dst=c)(D:Region.noSelect l=true)(z:Region.free r l p f=true)(C:(Region.ready r l p).contains f=true)
  (w:∀q g e,m (.panic q) (g.put c k) e->m (.panic q) g e) (E:Region.wanted s (yielded l g.tmps)=true) (F:∀e,o e->(execOp g.eval s).run t e=.ok (.value k) e) (x:o e)
  (G:wpAnyH t r l m o u (p.setIfInBounds f true) (g.put c k) e):wpAnyH t r l m o (u+1) p g e:=by
 subst y;exact wpAnyH_take B D z C w (Or.inl ⟨E,F⟩) x G
end
theorem aaX{g:Act}{m:Exit->Act->World->Prop}(K:n.guard=none)(E i:Operand)(R:n.op=.call {callee:=.builtin .append,args:=#[E,i],argTypes:=#[23,23]})
  (x k:Nat) (w:Value) (C:List Value) (S:g.eval E=w) (H:j.ownsRow x 3 1 w k C) (D F:Nat) (z:Int) (T:g.eval i=.slice (D,0) 1 F) (I:j.cell? (D,0)=z) (hn:k<=1000000) (L:x<=j.heap.size)
  (z2z:∀c y q,q.ownsRow x 3 1 (.slice (some ⟨c,0,none⟩) (k+1) y) (k+1) (C++[.int .i64 z])->j.grownBy q w.ownBlock->(w.ownBlock=some c\/c=j.heap.size)->wpList prog l m v (g.put n.dst (.slice (some ⟨c,0,none⟩) (k+1) y)) q):wpList prog l m (n::v) g j:=by
 obtain⟨W,X,Z,M,N⟩:=xY F2;refine wpList_append_lies _ K E i 23 R x 3 W (0:Int) 1 8 underlying23 X Z M N rfl (by decide) w k C S H (D,0) 1 F [z] T rfl ?_ ?_ (by decide) ?_ ?_ L j.heap.size rfl ?_
 ·intro G h B;cases G with
  |zero=>simp at B;subst B;rw[zS];exact I
  |succ G=>simp at B
 ·simp[Value.oneCell']
 ·unfold maxLen;omega
 ·omega
 ·intro c y q O P Q _;exact z2z c y q O P Q
