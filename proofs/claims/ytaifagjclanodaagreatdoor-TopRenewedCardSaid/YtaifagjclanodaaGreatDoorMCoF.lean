/- Package complaints: what Make tries. -/
import Derived.Test.YtaifagjclanodaaGreatDoorMCoA
import Derived.Test.YtaifagjclanodaaGreatDoorMParD
set_option maxHeartbeats 8000000
set_option maxRecDepth 100000
namespace Go.Proofs.YtaifagjclanodaaGreatDoor
open Go.Proofs.Tryz
open Go.RowKit FP
variable{r:Array Oper}{l:Array Value}{j row e:Int}{s:List Oper}{o:List Value}{g i n:Nat}{m:Option Addr}{d:TypeId}{h a f:World}{c:V}{b:ak}
def Jw:cP:=⟨0,0,0,0,0⟩
def U8(f:World)(g i:Nat)(b:ak)(c:V)(e:Int)(p:bD)(row d:Int)(k:World):Prop:=
 d=tD b c e p row/\Below f.heap.size f k/\k.heap[g]?=some (.cells (uB (pB b c e p row)) 92 (0,0))/\k.heap[i]?=some (.cells #[.bool (mkB b c e p row)] 4 (0,0))
theorem arW{k:bD}(p:tD b c e k row≠0):mkB b c e k row=false:=by
 unfold mkB;rw[eH.2 p];rfl
theorem arX{k:bD}(p:BG b k row (mkV e k row)=true):mkB b c e k row=false:=by
 unfold mkB;rw[p];simp
theorem arY{k:bD}(q:tD b c e k row=0)(p:BG b k row (mkV e k row)=false):mkB b c e k row=true:=by
 unfold mkB;rw[q,p];rfl
theorem arZ{k:bD}(p:mkB b c e k row=false):pB b c e k row=Jw:=by
 unfold pB;rw[p];rfl
theorem agY{k:bD}(q:Below f f a)(p:mkB b c e k row=false)
  (t:a.heap[g]?=QC.mk (uB Jw) 92) (u:a.heap[i]?=QC.mk #[false] 4):U8 f g i b c e k row (tD b c e k row) a:=
 ⟨rfl,q,by rw[arZ p];exact t,by rw[p];exact u⟩
theorem Mo{k:Nat}{t:bD}{d:Int}(u:Below f f a)(q:tD b c e t row=d)(p:d≠0)
  (v:a.heap[g]?=QC.mk (uB Jw) 92) (x:a.heap[i]?=QC.mk #[false] 4) (w:a.heap[k]?=QC.mk #[(0:Int)] 29):
  Mm k (U8 f g i b c e t row) (.panicked (Mk d)) a:=
 ⟨⟨d,by rw[Jt p],by rw[<-q];exact agY u (arW (by rw[q];exact p)) v x⟩,w⟩
theorem ir.at{C:Nat}{t:List gG}(D:ir a (.slice m n C) t){k:Nat}(u:k<t.length):∃q p,m=some ⟨q,p,none⟩/\a.cell? ⟨q,p+k*3,none⟩=some (.int .i64 t[k].1)/\a.cell? ⟨q,p+k*3+1,none⟩=some (.int .i64 t[k].2.1)/\a.cell? ⟨q,p+k*3+2,none⟩=some (.int .i64 t[k].2.2)/\aN t[k].2.1:=by
 obtain⟨E,F,v,-,-,w,x⟩:=D;cases v;obtain⟨q,p,d,y,z,B⟩:=x k u;exact⟨q,p,d,y,z,B,(w _ (bM u)).2.1⟩
theorem ar0:eQ prog 79:=iw func79 (by kernel_rfl) rfl
theorem ar1(f:World)(z6 z5 z8 z7 g i z4:Nat)(rv ov cv pv:Value)(b:ak)(c:V)(k:bD)(e row:Int)(a:World)
  (hb:Below f.heap.size f a) (hG:gz a) (hR:bI a rv b) (hO:aM a ov c) (hC:aM a cv k.cs) (hP:ir a pv k.ps)
  (qP:a.heap[z6]?=some (.cells #[rv,ov] 25 (0,0))) (qD:a.heap[z5]?=some (.cells #[.int .i64 k.dealer,cv,pv] 84 (0,0))) (qS:a.heap[z8]?=some (.cells #[.int .i64 e] 3 (0,0))) (qR:a.heap[z7]?=some (.cells #[.int .i64 row] 3 (0,0)))
  (qC:a.heap[g]?=some (.cells (uB Jw) 92 (0,0))) (qK:a.heap[i]?=some (.cells #[.bool false] 4 (0,0))) (qE:a.heap[z4]?=some (.cells #[.int .i64 0] 29 (0,0)))
  (hnC:f.heap.size<=g) (hnK:f.heap.size<=i) (hCK:g≠i) (hEC:z4≠g) (hEK:z4≠i) (hs:aN e) (da:aN row):
  Calls prog 79 #[.pointer (some ⟨z6,0,none⟩),.pointer (some ⟨z5,0,none⟩),.pointer (some ⟨z8,0,none⟩),.pointer (some ⟨z7,0,none⟩),.pointer (some ⟨g,0,none⟩),.pointer (some ⟨i,0,none⟩)] a (Mm z4 (U8 f g i b c e k row)):=by
 obtain⟨u,N,K,I,H,O,T,S,X⟩:=fx hb hG hR hO hC hP qP qD qS;obtain⟨W,QC,t,x⟩:=cY qR qC qK qE;have hN0:=u.1.size;have dG:=A (And.intro hnC (And.intro hnK (And.intro hCK (And.intro hEC hEK))));obtain⟨a1,k1,rfl,-,eI,-⟩:=id hR;obtain⟨a2,k2,rfl,-,dR,-⟩:=id hO;obtain⟨a3,k3,rfl,-,gC,-⟩:=id hC;obtain⟨a4,k4,rfl,-,fj,-⟩:=id hP;clear hb hG hR hO hC hP qP qD qS qR qC qK qE hnC hnK hCK hEC hEK;obtain⟨ME,mW⟩:=aK (tD b c e k row);obtain⟨B,C⟩:=ez T.1;obtain⟨v,y,z⟩:=jZ S.1;have w:=Y X.1 (k:=0) (d:=.int .i64 e) rfl;have D:=Y W.1 (k:=0) (d:=.int .i64 row) rfl;go_enter func79,ntmps79;go_wp2_with fail;with_reducible refine((agU _ _ _ _ b c k _ K.1 I.1 H.1 O.1)).mono ?_
 rintro d w2 ⟨rfl,an⟩;refine akq an B C v y z w D ?_;clear B C v y z w D;intro B C v y z w D;obtain⟨N,K,I,H,O,T,S,X,W⟩:=fx (N.1.below an) (K.1.below an) (I.1.below an) (H.1.below an) (O.1.below an) (az an T.1) (az an S.1) (az an X.1) (az an W.1);obtain⟨QC,t,x,u⟩:=cY (az an QC.1) (az an t.1) (az an x.1) (ar u.1 an);clear an;by_cases hc:cE b c k=0;rotate_left
 ·have HV:Hid (tD b c e k row=cE b c k):=A (by unfold tD;rw[aD hc]);rw[Jt hc];have kJ:=A hc;clear hc;go_wp2_with fail;exact⟨rfl,Mo u.1 HV.1 kJ.1 QC.1 t.1 x.1⟩
 have qf:=A (aaJ.1 hc);have HE:Hid (tD b c e k row=if ct e 1 1073741788=false then 110 else if row<0\/(k.ps.length:Int)<=row then 1 else CZ e k.dealer (eO k row).1 (eO k row).2.1 (eO k row).2.2):=A (by unfold tD;rw[aA (by simp[hc])]);rw[hc,Js rfl];clear hc;cases fB:ct e 1 1073741788 with
 |false =>
  have HV:=A (HE.1.trans (aD fB));by_cases h0:1<=e
  ·have e0:decide (1<=e)=true:=bB h0;have e1:decide (e<1073741789)=false:=bw (λz1z=>by rw[jo.2 ⟨h0,by omega⟩]at fB;cases fB);clear h0 fB;go_wp2_with fail;with_reducible refine((GN 110 _)).mono ?_
   rintro d w3 ⟨rfl,rfl⟩;go_wp2_with fail;exact⟨rfl,Mo u.1 HV.1 (by decide) QC.1 t.1 x.1⟩
  ·have e0:decide (1<=e)=false:=bw h0;clear h0 fB;go_wp2_with fail;with_reducible refine((GN 110 _)).mono ?_
   rintro d w3 ⟨rfl,rfl⟩;go_wp2_with fail;exact⟨rfl,Mo u.1 HV.1 (by decide) QC.1 t.1 x.1⟩
 |true =>
 replace HE:=A (HE.1.trans (aA (by rw[fB];decide)));have HS:=A (jo.1 fB);have e0:decide (1<=e)=true:=bB HS.1.1;have e1:decide (e<1073741789)=true:=bB (by have:=HS.1.2;omega);clear fB;go_wp2_with fail;with_reducible refine((Qe 110 _)).mono ?_
 rintro d w3 ⟨rfl,rfl⟩;by_cases kB:row<0\/(k.ps.length:Int)<=row
 ·have HV:=A (HE.1.trans (aD kB));by_cases h0:0<=row
  ·have g0:decide (0<=row)=true:=bB h0;have g1:decide (row<(k.ps.length:Int))=false:=bw (by omega);clear kB h0;go_wp2_with fail;with_reducible refine((GN 1 _)).mono ?_
   rintro d w4 ⟨rfl,rfl⟩;go_wp2_with fail;exact⟨rfl,Mo u.1 HV.1 (by decide) QC.1 t.1 x.1⟩
  ·have g0:decide (0<=row)=false:=bw h0;clear kB h0;go_wp2_with fail;with_reducible refine((GN 1 _)).mono ?_
   rintro d w4 ⟨rfl,rfl⟩;go_wp2_with fail;exact⟨rfl,Mo u.1 HV.1 (by decide) QC.1 t.1 x.1⟩
 replace HE:=A (HE.1.trans (aA kB));have gZ:Hid (0<=row/\row<(k.ps.length:Int)):=A (by omega);have g0:decide (0<=row)=true:=bB gZ.1.1;have g1:decide (row<(k.ps.length:Int))=true:=bB gZ.1.2;clear kB;obtain⟨z3,hk⟩:∃z3:Nat,row=(z3:Int):=⟨row.toNat,by have:=gZ.1.1;omega⟩;have dg:z3<k.ps.length:=by have:=gZ.1.2;omega
 have qW:=A (show eO k row=k.ps[z3] by obtain⟨z1z,d⟩:=Qd gZ.1;rw[d];congr 1;rw[hk];rfl);obtain⟨xb,xo,hx,E,F,G,iX⟩:=O.1.at dg;subst hx;obtain⟨x0,pD⟩:=aK ((eO k row).1);obtain⟨M,fW⟩:=aK ((eO k row).2.1);obtain⟨x2,xe⟩:=aK ((eO k row).2.2);rw[<-qW.1,<-pD]at E;rw[<-qW.1,<-fW]at F iX;rw[<-qW.1,<-xe]at G;rw[<-pD,<-fW,<-xe]at HE;have HX:Hid (x0=(eO k row).1/\M=(eO k row).2.1/\x2=(eO k row).2.2):=A ⟨pD,fW,xe⟩;clear pD fW xe qW;subst hk;have i0:0<=(z3:Int):=gZ.1.1;have i1:(z3:Int)<(k.ps.length:Int):=gZ.1.2;go_wp2_with fail;with_reducible refine((Qe 1 _)).mono ?_
 rintro d w4 ⟨rfl,rfl⟩;clear g0 g1;obtain⟨W5,dk,L,gD,rQ⟩:=C4 w2 (.int .i64 x0) (.int .i64 M) (.int .i64 x2) 88;obtain⟨b5,Q5,gX⟩:=bJ L gD dk;clear L gD dk;have agZ:=A (And.intro hs iX);have s5:=U b5.1 w;have d5:=U b5.1 v;obtain⟨P,Q,R⟩:=jZ Q5.1;have dh:w2.heap.size<=W5.heap.size:=b5.1.size;go_wp2_with (rw[<-gX.1]);clear s5 d5;have L:=b5.1;clear b5 gX;refine yd L B C v y z w D E F ?_;clear B C v y z w D E F;intro B C v y z w D E F;replace G:=U L G;obtain⟨N,K,I,H,O,T,S,X,W⟩:=fx (N.1.below L) (K.1.below L) (I.1.below L) (H.1.below L) (O.1.below L) (az L T.1) (az L S.1) (az L X.1) (az L W.1);obtain⟨QC,t,x,u⟩:=cY (az L QC.1) (az L t.1) (az L x.1) (ar u.1 L);clear L;by_cases ho:CZ e k.dealer x0 M x2=0;rotate_left
 ·obtain⟨HV,kJ⟩:=aR HE.1 ho;with_reducible refine((arV e k.dealer x0 M x2 _ iX ho)).mono ?_
  rintro d w6 ⟨rfl,p⟩;refine yd p B C v y z w D E F ?_;clear B C v y z w D E F;intro B C v y z w D E F;refine uc p G P Q R ?_;clear G P Q R;intro G P Q R;obtain⟨N,K,I,H,O,T,S,X,W⟩:=fx (N.1.below p) (K.1.below p) (I.1.below p) (H.1.below p) (O.1.below p) (az p T.1) (az p S.1) (az p X.1) (az p W.1);obtain⟨QC,t,x,u⟩:=cY (az p QC.1) (az p t.1) (az p x.1) (ar u.1 p);clear p;clear ho;generalize CZ e k.dealer x0 M x2=z9 at *;go_wp2_with fail;with_reducible refine((aaN 0 z9 _ kJ.1)).mono ?_
  rintro d w7 ⟨rfl,rfl⟩;go_wp2_with fail;exact⟨rfl,Mo u.1 HV.1 kJ.1 QC.1 t.1 x.1⟩
 have dH:=A (UK.1 ho);replace HE:=A (HE.1.trans ho);clear ho;with_reducible refine((agX e k.dealer x0 M x2 _ dH.1.1 dH.1.2.1 dH.1.2.2 N.1)).mono ?_
 rintro d w6 ⟨rfl,p⟩;refine yd p B C v y z w D E F ?_;clear B C v y z w D E F;intro B C v y z w D E F;refine uc p G P Q R ?_;clear G P Q R;intro G P Q R;obtain⟨N,K,I,H,O,T,S,X,W⟩:=fx (N.1.below p) (K.1.below p) (I.1.below p) (H.1.below p) (O.1.below p) (az p T.1) (az p S.1) (az p X.1) (az p W.1);obtain⟨QC,t,x,u⟩:=cY (az p QC.1) (az p t.1) (az p x.1) (ar u.1 p);clear p;have Qo:Hid (mkV e k (z3:Int)=tx (bm M e) k.dealer x0 x2):=A (by unfold mkV;rw[<-HX.1.1,<-HX.1.2.1,<-HX.1.2.2]);have BH:=A (aav (bm M e) k.dealer x0 x2);generalize tx (bm M e) k.dealer x0 x2=l at *;go_wp2_with fail;with_reducible refine((aaM l _)).mono ?_
 rintro d w7 ⟨rfl,rfl⟩;have iK:=A (λh h1 h2 h3=>Ep (.slice a1 b.length k1) (.slice a2 c.length k2) (.slice a3 k.cs.length k3) b c k.cs (z3:Int) l h h1 h2 h3 da (dK BH.1));rw[aaK qf.1 gZ.1 BH.1,aaL qf.1 gZ.1 BH.1]at iK;cases hf:BG b k (z3:Int) l with
 |true =>
  rw[hf]at iK;have Mp:Hid (mkB b c e k (z3:Int)=false):=A (arX (by rw[Qo.1];exact hf));clear hf;go_wp2_with fail;with_reducible refine((iK.1 _ K.1 I.1 H.1)).mono ?_
  rintro d w8 ⟨rfl,q⟩;refine yd q B C v y z w D E F ?_;clear B C v y z w D E F;intro B C v y z w D E F;refine uc q G P Q R ?_;clear G P Q R;intro G P Q R;obtain⟨N,K,I,H,O,T,S,X,W⟩:=fx (N.1.below q) (K.1.below q) (I.1.below q) (H.1.below q) (O.1.below q) (az q T.1) (az q S.1) (az q X.1) (az q W.1);obtain⟨QC,t,x,u⟩:=cY (az q QC.1) (az q t.1) (az q x.1) (ar u.1 q);clear q;go_wp2_with fail;with_reducible refine((U0 true _)).mono ?_
  rintro d w9 ⟨rfl,rfl⟩;go_wp2_with fail;go_end0;exact⟨⟨0,by rw[Js rfl],by rw[<-HE.1];exact agY u.1 Mp.1 QC.1 t.1⟩,x.1⟩
 |false =>
  rw[hf]at iK;have Mp:Hid (mkB b c e k (z3:Int)=true):=A (arY HE.1 (by rw[Qo.1];exact hf));clear hf;go_wp2_with fail;with_reducible refine((iK.1 _ K.1 I.1 H.1)).mono ?_
  rintro d w8 ⟨rfl,q⟩;refine yd q B C v y z w D E F ?_;clear B C v y z w D E F;intro B C v y z w D E F;refine uc q G P Q R ?_;clear G P Q R;intro G P Q R;obtain⟨N,K,I,H,O,T,S,X,W⟩:=fx (N.1.below q) (K.1.below q) (I.1.below q) (H.1.below q) (O.1.below q) (az q T.1) (az q S.1) (az q X.1) (az q W.1);obtain⟨QC,t,x,u⟩:=cY (az q QC.1) (az q t.1) (az q x.1) (ar u.1 q);clear q;go_wp2_with fail;with_reducible refine((U0 false _)).mono ?_
  rintro d w9 ⟨rfl,rfl⟩;have Qp:=A dH.1.2.2.pt;go_wp2_with fail;with_reducible refine((aqK e M _ HS.1.1 (by have:=HS.1.2;omega) Qp.1 N.1)).mono ?_
  rintro d pg ⟨rfl,dI⟩;refine yd dI B C v y z w D E F ?_;clear B C v y z w D E F;intro B C v y z w D E F;refine uc dI G P Q R ?_;clear G P Q R;intro G P Q R;obtain⟨N,K,I,H,O,T,S,X,W⟩:=fx (N.1.below dI) (K.1.below dI) (I.1.below dI) (H.1.below dI) (O.1.below dI) (az dI T.1) (az dI S.1) (az dI X.1) (az dI W.1);obtain⟨QC,t,x,u⟩:=cY (az dI QC.1) (az dI t.1) (az dI x.1) (ar u.1 dI);clear dI;obtain⟨D1,hD1⟩:=aK (bm M e);obtain⟨E1,hE1⟩:=aK (tw e M);obtain⟨S1,ud⟩:=aK (yO e M);rw[<-hD1,<-hE1,<-ud];have U9:Hid (pB b c e k (z3:Int)=⟨k.dealer,(z3:Int),D1,E1,S1⟩):=A (by unfold pB;rw[Mp.1,aD rfl,<-HX.1.2.1,<-hD1,<-hE1,<-ud]);clear hD1 hE1 ud;obtain⟨Mq,GO,Z,Qq,-⟩:=ee pg (.int .i64 E1) (.int .i64 S1) 90;obtain⟨aaS,Q11⟩:=aR GO Qq;clear GO Qq;have azK:pg.heap.size<=Mq.heap.size:=Z.size;go_wp2_with (rw[<-aaS.1]);refine yd Z B C v y z w D E F ?_;clear B C v y z w D E F;intro B C v y z w D E F;refine uc Z G P Q R ?_;clear G P Q R;intro G P Q R;obtain⟨N,K,I,H,O,T,S,X,W⟩:=fx (N.1.below Z) (K.1.below Z) (I.1.below Z) (H.1.below Z) (O.1.below Z) (az Z T.1) (az Z S.1) (az Z X.1) (az Z W.1);obtain⟨QC,t,x,u⟩:=cY (az Z QC.1) (az Z t.1) (az Z x.1) (ar u.1 Z);clear Z;obtain⟨m0,m1⟩:=ez Q11.1;with_reducible refine((Qe 0 _)).mono ?_
  rintro d EK ⟨rfl,rfl⟩;obtain⟨t0,t1,t2,t3,t4⟩:=Ie QC.1;obtain⟨f0,f1,f2,f3,f4⟩:=acz QC.1;have u0:=Y t.1 (k:=0) rfl;have g0:=cB t.1 0;have n1:=dG.1.2.2.1;go_wp2_with fail;go_end0;have hq:=cK (cK (cK (cK (cK QC.1 0 (.int .i64 k.dealer)) 1 (.int .i64 (z3:Int))) 2 (.int .i64 D1)) 3 (.int .i64 E1)) 4 (.int .i64 S1);obtain⟨M,x2,x3,x4,x5⟩:=dG.1;refine⟨⟨0,by rw[Js rfl],HE.1.symm,?_,?_,?_⟩,?_⟩
  ·exact(((((u.1.setCell M _).setCell M _).setCell M _).setCell M _).setCell M _).setCell x2 _
  ·rw[U9.1,dJ _ _ _ _ x3];exact hq
  ·rw[Mp.1];have hk:((((((Mq.setCell ⟨g,0,none⟩ (.int .i64 k.dealer)).setCell ⟨g,1,none⟩ (.int .i64 (z3:Int))).setCell ⟨g,2,none⟩ (.int .i64 D1)).setCell ⟨g,3,none⟩ (.int .i64 E1)).setCell ⟨g,4,none⟩ (.int .i64 S1)).heap[i]?=some (.cells #[.bool false] 4 (0,0))):=by
    rw[dJ _ _ _ _ x3.symm,dJ _ _ _ _ x3.symm,dJ _ _ _ _ x3.symm,dJ _ _ _ _ x3.symm,dJ _ _ _ _ x3.symm];exact t.1
   exact cK hk 0 _
  ·rw[dJ _ _ _ _ x5,dJ _ _ _ _ x4,dJ _ _ _ _ x4,dJ _ _ _ _ x4,dJ _ _ _ _ x4,dJ _ _ _ _ x4];exact x.1
def Vb(f:World)(u:Nat)(b:ak)(c:V)(j:Int)(q:bD)(p:cP)(d:Int)(k:World):Prop:=
 d=tE b c j q p/\Below f.heap.size f k/\∃t,k.heap[u]?=some (.cells #[.int .i64 t] 3 (0,0))/\(d=0->t=vE b c j q p)
theorem Qr{k p:Nat}{u:bD}{t:cP}{d v:Int}(w:Below f f a)(x:tE b c j u t=d)(q:d≠0)
  (z:a.heap[p]?=QC.mk #[v] 3) (y:a.heap[k]?=QC.mk #[(0:Int)] 29):
  Mm k (Vb f p b c j u t) (.panicked (Mk d)) a:=
 ⟨⟨d,by rw[Jt q],x.symm,w,v,z,λB=>absurd B q⟩,y⟩
theorem aaT{t u:Nat}{p:bD}{k:cP}{q:Int}(v:Below f f a)(w:tE b c j p k=0)(x:vE b c j p k=q)
  (z:a.heap[u]?=QC.mk #[q] 3) (y:a.heap[t]?=QC.mk #[(0:Int)] 29):
  Mm t (Vb f u b c j p k) (.returned (.tuple #[])) a:=
 ⟨⟨0,by rw[Js rfl],w.symm,v,q,z,λ_=>x.symm⟩,y⟩
theorem ar2:eQ prog 162:=iw func162 (by kernel_rfl) rfl
structure C5(k:cP):Prop where
 dealer:aN k.dealer
 row:aN k.row
 D:aN k.D
 E:aN k.E
 S:aN k.S
theorem ar3(f:World)(z5 z3 g K i z4:Nat)(rv ov cv pv:Value)(b:ak)(c:V)(k:bD)(z0z:cP)(j:Int)(a:World)
  (hb:Below f.heap.size f a) (hG:gz f) (hR:bI f rv b) (hO:aM f ov c) (hC:aM f cv k.cs) (hP:ir f pv k.ps)
  (qP:a.heap[z5]?=some (.cells #[rv,ov] 25 (0,0))) (qD:a.heap[z3]?=some (.cells #[.int .i64 k.dealer,cv,pv] 84 (0,0))) (qC:a.heap[g]?=some (.cells (uB z0z) 92 (0,0)))
  (qG:a.heap[K]?=some (.cells #[.int .i64 0] 3 (0,0))) (qK:a.heap[i]?=some (.cells #[.int .i64 j] 3 (0,0))) (qE:a.heap[z4]?=some (.cells #[.int .i64 0] 29 (0,0)))
  (hnG:f.heap.size<=K) (hPG:z5≠K) (hDG:z3≠K) (hCG:g≠K) (hKG:i≠K) (hEG:z4≠K) (tJ:aN j) (S:C5 z0z):
  Calls prog 162 #[.pointer (some ⟨z5,0,none⟩),.pointer (some ⟨z3,0,none⟩),.pointer (some ⟨g,0,none⟩),.pointer (some ⟨K,0,none⟩),.pointer (some ⟨i,0,none⟩)] a (Mm z4 (Vb f K b c j k z0z)):=by
 obtain⟨L,HG,HR,HO,HC,HP,QP,QD,QC⟩:=fx hb (λh (O:Below f.heap.size f h)=>hG.below O) (λh (O:Below f.heap.size f h)=>hR.below O) (λh (O:Below f.heap.size f h)=>hO.below O) (λh (O:Below f.heap.size f h)=>hC.below O) (λh (O:Below f.heap.size f h)=>hP.below O) qP qD qC;obtain⟨QG,QK,QE,dG,BI⟩:=gw qG qK qE (And.intro hnG (And.intro hPG (And.intro hDG (And.intro hCG (And.intro hKG hEG))))) (And.intro tJ S);obtain⟨a1,k1,rfl,-,eI,-⟩:=id hR;obtain⟨a2,k2,rfl,-,dR,-⟩:=id hO;obtain⟨a3,k3,rfl,-,gC,-⟩:=id hC;obtain⟨a4,k4,rfl,-,fj,-⟩:=id hP;clear hb hG hR hO hC hP qP qD qC qG qK qE hnG hPG hDG hCG hKG hEG tJ S;obtain⟨cd,p,E,Jy,cS⟩:=z0z;obtain⟨x,y⟩:=ez QP.1;obtain⟨v,w,d2⟩:=jZ QD.1;obtain⟨c0,t,u,c3,c4⟩:=Ie QC.1;have k0:=Y QK.1 (k:=0) (d:=.int .i64 j) rfl;go_enter func162,ntmps162;go_wp2_with fail;with_reducible refine((agU _ _ _ _ b c k _ (HR.1 _ L.1) (HO.1 _ L.1) (HC.1 _ L.1) (HP.1 _ L.1))).mono ?_
 rintro d w2 ⟨rfl,W⟩;refine yd W x y v w d2 c0 t u c3 ?_;clear x y v w d2 c0 t u c3;intro x y v w d2 c0 t u c3;refine jM W c4 k0 ?_;clear c4 k0;intro c4 k0;obtain⟨QP,QD,QC,QG,QK,QE,L⟩:=qy (az W QP.1) (az W QD.1) (az W QC.1) (az W QG.1) (az W QK.1) (az W QE.1) (ar L.1 W);clear W;by_cases S:cE b c k=0;rotate_left
 ·have T:Hid (tE b c j k ⟨cd,p,E,Jy,cS⟩=cE b c k):=A (by unfold tE;rw[aD S]);rw[Jt S];have kJ:=A S;clear S;go_wp2_with fail;exact⟨rfl,Qr L.1 T.1 kJ.1 QG.1 QE.1⟩
 have qf:=A (aaJ.1 S);have M:Hid (tE b c j k ⟨cd,p,E,Jy,cS⟩=if cd≠k.dealer\/p<0\/(k.ps.length:Int)<=p then 360 else
  if yN j (eO k p).2.1 E Jy cS=false then 0 else BD E k.dealer (eO k p).1 (eO k p).2.1 (eO k p).2.2):=A (by unfold tE;rw[aA (by simp[S])])
 rw[S,Js rfl];clear S;by_cases hm:cd≠k.dealer\/p<0\/(k.ps.length:Int)<=p
 ·have T:=A (M.1.trans (aD hm));by_cases F5:cd=k.dealer
  ·have e0:(cd==k.dealer)=true:=gI.2 F5;by_cases h0:0<=p
   ·have g0:decide (0<=p)=true:=bB h0;have g1:decide (p<(k.ps.length:Int))=false:=bw (by omega);clear hm h0 F5;go_wp2_with fail;with_reducible refine((GN 360 _)).mono ?_
    rintro d w4 ⟨rfl,rfl⟩;go_wp2_with fail;exact⟨rfl,Qr L.1 T.1 (by decide) QG.1 QE.1⟩
   ·have g0:decide (0<=p)=false:=bw h0;clear hm h0 F5;go_wp2_with fail;with_reducible refine((GN 360 _)).mono ?_
    rintro d w4 ⟨rfl,rfl⟩;go_wp2_with fail;exact⟨rfl,Qr L.1 T.1 (by decide) QG.1 QE.1⟩
  ·have e0:(cd==k.dealer)=false:=eH.2 F5;clear hm F5;go_wp2_with fail;with_reducible refine((GN 360 _)).mono ?_
   rintro d w4 ⟨rfl,rfl⟩;go_wp2_with fail;exact⟨rfl,Qr L.1 T.1 (by decide) QG.1 QE.1⟩
 replace M:=A (M.1.trans (aA hm));obtain rfl:cd=k.dealer:=by omega
 have gZ:Hid (0<=p/\p<(k.ps.length:Int)):=A (by omega);have g0:decide (0<=p)=true:=bB gZ.1.1;have g1:decide (p<(k.ps.length:Int))=true:=bB gZ.1.2;have e0:(k.dealer==k.dealer)=true:=gI.2 rfl;clear hm;obtain⟨C,hk⟩:∃C:Nat,p=(C:Int):=⟨p.toNat,by have:=gZ.1.1;omega⟩;have dg:C<k.ps.length:=by have:=gZ.1.2;omega
 have qW:=A (show eO k p=k.ps[C] by obtain⟨O,d⟩:=Qd gZ.1;rw[d];congr 1;rw[hk];rfl);obtain⟨xb,xo,hx,y0,y1,y2,iX⟩:=(HP.1 _ L.1).at dg;subst hx;obtain⟨X,pD⟩:=aK ((eO k p).1);obtain⟨Z,fW⟩:=aK ((eO k p).2.1);obtain⟨x2,xe⟩:=aK ((eO k p).2.2);rw[<-qW.1,<-pD]at y0;rw[<-qW.1,<-fW]at y1 iX;rw[<-qW.1,<-xe]at y2;rw[<-pD,<-fW,<-xe]at M;have HX:Hid (X=(eO k p).1/\Z=(eO k p).2.1/\x2=(eO k p).2.2):=A ⟨pD,fW,xe⟩;clear pD fW xe qW;subst hk;have i0:0<=(C:Int):=gZ.1.1;have i1:(C:Int)<(k.ps.length:Int):=gZ.1.2;go_wp2_with fail;with_reducible refine((Qe 360 _)).mono ?_
 rintro d w4 ⟨rfl,rfl⟩;clear g0 g1;obtain⟨W5,dk,aG,gD,rQ⟩:=C4 w2 (.int .i64 X) (.int .i64 Z) (.int .i64 x2) 88;obtain⟨gX,Q5,Vd⟩:=bJ dk gD (az aG QG.1);have v0:=Y Vd.1 (k:=0) (d:=.int .i64 0) rfl;have f0:=cB Vd.1 0;have hGx:K≠w2.heap.size:=by have:=bG QG.1;omega
 have HGX:=A hGx;obtain⟨W6,cH⟩:=aK (W5.setCell ⟨K,0,none⟩ (.int .i64 2));have dh:w2.heap.size<=W5.heap.size:=aG.size;have aF:Below f.heap.size f W6:=by rw[cH];exact(ar L.1 aG).setCell dG.1.1 _
 have hq:∀C,C≠K->C<w2.heap.size->W6.heap[C]?=w2.heap[C]?:=λC h1 h2=>by rw[cH,dJ _ _ _ _ h1];exact aG.block C h2
 obtain⟨P,Q,N,R,I,Q6⟩:=oJ ((hq _ dG.1.2.1 (bG QP.1)).trans QP.1) ((hq _ dG.1.2.2.1 (bG QD.1)).trans QD.1) ((hq _ dG.1.2.2.2.1 (bG QC.1)).trans QC.1) ((hq _ dG.1.2.2.2.2.1 (bG QK.1)).trans QK.1) ((hq _ dG.1.2.2.2.2.2 (bG QE.1)).trans QE.1) ((show W6.heap[w2.heap.size]?=W5.heap[w2.heap.size]? by rw[cH,dJ _ _ _ _ hGx.symm]).trans Q5.1);have F:Hid (W6.heap[K]?=some (.cells #[.int .i64 2] 3 (0,0))):=A (by rw[cH];exact cK Vd.1 0 _);obtain⟨fR,q⟩:=aR cH aF;obtain⟨-,-,c26,c36,c46⟩:=Ie N.1;have k06:=Y R.1 (k:=0) (d:=.int .i64 j) rfl;have D:=Y Q6.1 (k:=1) (d:=.int .i64 Z) rfl;clear dk aG gD cH aF hq;go_wp2_with (first|rw[<-gX.1]|rw[<-fR.1]);clear x y v w d2 c0 t u c3 c4 k0 y0 y1 y2 c26 c36 c46 k06 D;clear QP QD QC QG QK QE L Q5 Vd gX v0 f0;obtain⟨x,y⟩:=ez P.1;obtain⟨v,w⟩:=ez Q.1;obtain⟨-,t,u⟩:=jZ N.1;obtain⟨G,D,H⟩:=jZ Q6.1;with_reducible refine((aqH j Z E Jy cS _ BI.1.1 iX BI.1.2.D BI.1.2.E BI.1.2.S (HG.1 _ q.1))).mono ?_
 rintro d w7 ⟨rfl,bz⟩;refine yd bz x y v w t u G D H ?_;clear x y v w t u G D H;intro x y v w t u G D H;obtain⟨P,Q,N,R,I,F,q⟩:=qy (az bz P.1) (az bz Q.1) (az bz N.1) (az bz R.1) (az bz I.1) (az bz F.1) (ar q.1 bz);clear bz;cases vF:yN j Z E Jy cS with
 |false =>
  have T:=A (M.1.trans (aD vF));have EW:Hid (vE b c j k ⟨k.dealer,(C:Int),E,Jy,cS⟩=2):=A (by
   unfold vE;rw[aA (by simp[T.1]),aD (by rw[<-HX.1.2.1];exact vF)])
  clear vF;go_wp2_with fail;go_end0;exact aaT q.1 T.1 EW.1 F.1 I.1
 |true =>
 replace M:=A (M.1.trans (aA (by rw[vF];decide)));have Ve:Hid (BD E k.dealer X Z x2=0->vE b c j k ⟨k.dealer,(C:Int),E,Jy,cS⟩=if BG b k (C:Int) (tx E k.dealer X x2)=true then 2 else 1):=A (by
  intro O;unfold vE;rw[aA (by simp[M.1,O]),aA (by rw[<-HX.1.2.1,vF];decide),<-HX.1.1,<-HX.1.2.2])
 clear vF;by_cases ho:BD E k.dealer X Z x2=0;rotate_left
 ·obtain⟨T,kJ⟩:=aR M.1 ho;go_wp2_with fail;with_reducible refine((arT E k.dealer X Z x2 _ BI.1.2.D iX ho)).mono ?_
  rintro d w8 ⟨rfl,z⟩;refine yd z x y v w t u G D H ?_;clear x y v w t u G D H;intro x y v w t u G D H;obtain⟨P,Q,N,R,I,F,q⟩:=qy (az z P.1) (az z Q.1) (az z N.1) (az z R.1) (az z I.1) (az z F.1) (ar q.1 z);clear z;clear ho;generalize BD E k.dealer X Z x2=z6 at *;go_wp2_with fail;with_reducible refine((aaN 0 z6 _ kJ.1)).mono ?_
  rintro d w9 ⟨rfl,rfl⟩;go_wp2_with fail;exact⟨rfl,Qr q.1 T.1 kJ.1 F.1 I.1⟩
 have dH:=A (aat.1 ho);replace M:=A (M.1.trans ho);replace Ve:=A (Ve.1 ho);clear ho;go_wp2_with fail;with_reducible refine((arU E k.dealer X Z x2 _ dH.1.1 dH.1.2.1 dH.1.2.2 (HG.1 _ q.1))).mono ?_
 rintro d w8 ⟨rfl,z⟩;refine yd z x y v w t u G D H ?_;clear x y v w t u G D H;intro x y v w t u G D H;obtain⟨P,Q,N,R,I,F,q⟩:=qy (az z P.1) (az z Q.1) (az z N.1) (az z R.1) (az z I.1) (az z F.1) (ar q.1 z);clear z;have BH:=A (aav E k.dealer X x2);generalize tx E k.dealer X x2=l at *;go_wp2_with fail;with_reducible refine((aaM l _)).mono ?_
 rintro d w9 ⟨rfl,rfl⟩;have iK:=A (λh h1 h2 h3=>Ep (.slice a1 b.length k1) (.slice a2 c.length k2) (.slice a3 k.cs.length k3) b c k.cs (C:Int) l h h1 h2 h3 BI.1.2.row (dK BH.1));rw[aaK qf.1 gZ.1 BH.1,aaL qf.1 gZ.1 BH.1]at iK;cases hf:BG b k (C:Int) l with
 |true =>
  rw[hf]at iK;have EW:=A (Ve.1.trans (aD hf));clear hf;go_wp2_with fail;with_reducible refine((iK.1 _ (HR.1 _ q.1) (HO.1 _ q.1) (HC.1 _ q.1))).mono ?_
  rintro d pg ⟨rfl,B⟩;refine yd B x y v w t u G D H ?_;clear x y v w t u G D H;intro x y v w t u G D H;obtain⟨P,Q,N,R,I,F,q⟩:=qy (az B P.1) (az B Q.1) (az B N.1) (az B R.1) (az B I.1) (az B F.1) (ar q.1 B);clear B;go_wp2_with fail;with_reducible refine((U0 true _)).mono ?_
  rintro d sx ⟨rfl,rfl⟩;go_wp2_with fail;go_end0;exact aaT q.1 M.1 EW.1 F.1 I.1
 |false =>
  rw[hf]at iK;have EW:=A (Ve.1.trans (aA (by rw[hf];decide)));clear hf;go_wp2_with fail;with_reducible refine((iK.1 _ (HR.1 _ q.1) (HO.1 _ q.1) (HC.1 _ q.1))).mono ?_
  rintro d pg ⟨rfl,B⟩;refine yd B x y v w t u G D H ?_;clear x y v w t u G D H;intro x y v w t u G D H;obtain⟨P,Q,N,R,I,F,q⟩:=qy (az B P.1) (az B Q.1) (az B N.1) (az B R.1) (az B I.1) (az B F.1) (ar q.1 B);clear B;go_wp2_with fail;with_reducible refine((U0 false _)).mono ?_
  rintro d sx ⟨rfl,rfl⟩;have v0:=Y F.1 (k:=0) (d:=.int .i64 2) rfl;have f0:=cB F.1 0;go_wp2_with fail;go_end0;refine aaT (q.1.setCell dG.1.1 _) M.1 EW.1 (cK F.1 0 _) ?_;rw[dJ _ _ _ _ dG.1.2.2.2.2.2];exact I.1
def Jz(h:World)(g:Nat)(k:cP):World:=((((h.setCell ⟨g,0,none⟩ (.int .i64 k.dealer)).setCell ⟨g,1,none⟩ (.int .i64 k.row)).setCell ⟨g,2,none⟩ (.int .i64 k.D)).setCell ⟨g,3,none⟩ (.int .i64 k.E)).setCell ⟨g,4,none⟩ (.int .i64 k.S)
theorem ar4(k:cP)(q:l.size=5)(p:TypeId)(t:h.heap[g]?=QC.mk l p):(Jz h g k).heap[g]?=QC.mk (uB k) p:=by
 obtain⟨u⟩:=l
 match u,q with
 |[v,w,x,y,z],_=>exact cK (cK (cK (cK (cK t 0 k.dealer) 1 k.row) 2 k.D) 3 k.E) 4 k.S
theorem ar5(p:cP)(k:i≠g):(Jz h g p).heap[i]?=h.heap[i]?:=by
 unfold Jz;rw[dJ _ _ _ _ k,dJ _ _ _ _ k,dJ _ _ _ _ k,dJ _ _ _ _ k,dJ _ _ _ _ k]
theorem ar6{p:Nat}(t:cP)(q:Below p f h)(k:p<=g):Below p f (Jz h g t):=
 ((((q.setCell k _).setCell k _).setCell k _).setCell k _).setCell k _
theorem ar7{y:Nat}{k q t u v:Int}{w:Bool}(I:Below y f h)(F:y<=g)(G:y<=i)(B:g≠i)(M:h.heap[g]?=QC.mk (uB ⟨k,q,t,u,v⟩) 92)(N:h.heap[i]?=QC.mk #[.bool w] 4):
  ∃x,x=(((((((h.setCell (g,0) k).setCell (g,1) q).setCell (g,2) t).setCell (g,3) u).setCell (g,4) v).setCell (i,0) w).drew)/\Below y f x/\x.heap[g]?=QC.mk (uB ⟨k,q,t,u,v⟩) 92/\x.heap[i]?=QC.mk #[.bool w] 4:=by
 have K:=ar4 ⟨k,q,t,u,v⟩ rfl _ M;have L:=(ar5 (h:=h) (g:=g) (i:=i) ⟨k,q,t,u,v⟩ B.symm).trans N;have C:=(dJ (Jz h g ⟨k,q,t,u,v⟩) (i,0) w g B).trans K;have D:((Jz h g ⟨k,q,t,u,v⟩).setCell (i,0) w).heap[i]?=QC.mk #[.bool w] 4:=cK L 0 w;have z:=((ar6 ⟨k,q,t,u,v⟩ I F).setCell (p:=(i,0)) G w).drew;generalize H:(Jz h g ⟨k,q,t,u,v⟩).setCell (i,0) w=E at C D z;refine⟨E.drew,by rw[<-H];rfl,z,C,D⟩
theorem ar8(S R cv pv:Value)(b:ak)(c:V)(u:bD)(e row:Int)(a:World)(hG:gz a)(hR:bI a S b)(hO:aM a R c)(hC:aM a cv u.cs)(hP:ir a pv u.ps)(hs:aN e)(da:aN row):
  Calls prog 29 #[.agg #[S,R],e,.agg #[u.dealer,cv,pv],row] a λz3z w' =>
   z3z=.returned (.tuple #[Jq (pB b c e u row),.bool (mkB b c e u row),(tD b c e u row:Int)])/\Below a a w':=by
 obtain⟨x,O⟩:=aK (a.alloc (.cells #[S,R] 25));have F:x.heap.size=a.heap.size+1:=by rw[O];simp
 have bO:Below a a x:=by rw[O];exact(aY _ _).alloc (aP _) _
 have q:=World.alloc_heap_new a (.cells #[S,R] 25);rw[<-O]at q;obtain⟨y,L⟩:=aK (x.alloc (.cells #[e] 3));have H:y.heap.size=x.heap.size+1:=by rw[L];simp
 have p:Below x x y:=by rw[L];exact(aY _ _).alloc (aP _) _
 have v:=World.alloc_heap_new x (.cells #[e] 3);rw[<-L]at v;obtain⟨z,M⟩:=aK (y.alloc (.cells #[u.dealer,cv,pv] 84));have P:z.heap.size=y.heap.size+1:=by rw[M];simp
 have k:Below y y z:=by rw[M];exact(aY _ _).alloc (aP _) _
 have G:=World.alloc_heap_new y (.cells #[u.dealer,cv,pv] 84);rw[<-M]at G;obtain⟨W3,N⟩:=aK (z.alloc (.cells #[row] 3));have X:W3.heap.size=z.heap.size+1:=by rw[N];simp
 have t:Below z z W3:=by rw[N];exact(aY _ _).alloc (aP _) _
 have W:=World.alloc_heap_new z (.cells #[row] 3);rw[<-N]at W;obtain⟨B,Q⟩:=aK (W3.alloc (.cells (uB Jw) 92));have Z:B.heap.size=W3.heap.size+1:=by rw[Q];simp
 have w:Below W3 W3 B:=by rw[Q];exact(aY _ _).alloc (aP _) _
 have gE:=World.alloc_heap_new W3 (.cells (uB Jw) 92);rw[<-Q]at gE;obtain⟨C,I⟩:=aK (B.alloc (.cells #[false] 4));have rQ:C.heap.size=B.heap.size+1:=by rw[I];simp
 have D:Below B B C:=by rw[I];exact(aY _ _).alloc (aP _) _
 have gD:=World.alloc_heap_new B (.cells #[false] 4);rw[<-I]at gD;have t0:Below a a x:=bO;have t1:Below a a y:=ar t0 p;have t2:Below a a z:=ar t1 k;have t3:Below a a W3:=ar t2 t;have t4:Below a a B:=ar t3 w;have t5:Below a a C:=ar t4 D;obtain⟨Q0,Q1,Q2,Q3,Q4,Q5⟩:=oJ ((D.block _ (bG ((w.block _ (bG ((t.block _ (bG ((k.block _ (bG (az p q))).trans (az p q)))).trans ((k.block _ (bG (az p q))).trans (az p q))))).trans ((t.block _ (bG ((k.block _ (bG (az p q))).trans (az p q)))).trans ((k.block _ (bG (az p q))).trans (az p q)))))).trans ((w.block _ (bG ((t.block _ (bG ((k.block _ (bG (az p q))).trans (az p q)))).trans ((k.block _ (bG (az p q))).trans (az p q))))).trans ((t.block _ (bG ((k.block _ (bG (az p q))).trans (az p q)))).trans ((k.block _ (bG (az p q))).trans (az p q))))) ((D.block _ (bG ((w.block _ (bG ((t.block _ (bG (az k v))).trans (az k v)))).trans ((t.block _ (bG (az k v))).trans (az k v))))).trans ((w.block _ (bG ((t.block _ (bG (az k v))).trans (az k v)))).trans ((t.block _ (bG (az k v))).trans (az k v)))) ((D.block _ (bG ((w.block _ (bG (az t G))).trans (az t G)))).trans ((w.block _ (bG (az t G))).trans (az t G))) ((D.block _ (bG (az w W))).trans (az w W)) (az D gE) gD;rw[F]at Q1;rw[H,F]at Q2;rw[P,H,F]at Q3;rw[X,P,H,F]at Q4;rw[Z,X,P,H,F]at Q5;have lX:C.heap.size=a.heap.size+1+1+1+1+1+1:=by rw[rQ,Z,X,P,H,F]
 have HB:=A t5;rw[Q,N,M,L,O]at I;have Vf:=A I;clear O bO q F t0 L p v H t1 M k G P t2 N t W X t3 Q w gE Z t4 I D gD rQ t5;have HT:=A (agT 79 #[(a,0),(a.heap.size+1+1,0),(a.heap.size+1,0),(a.heap.size+1+1+1,0),(a.heap.size+1+1+1+1,0),(a.heap.size+1+1+1+1+1,0)] C (U8 a (a.heap.size+1+1+1+1) (a.heap.size+1+1+1+1+1) b c e u row) ar0 (by
  have E:=bk C #[(0:Int)] 29;have K:=ar HB.1 E;refine ar1 a _ _ _ _ _ _ C.heap.size S R cv pv b c u e row _ K (hG.below K) (hR.below K) (hO.below K) (hC.below K) (hP.below K)
   (az E Q0.1) (az E Q2.1) (az E Q1.1) (az E Q3.1) (az E Q4.1) (az E Q5.1) (World.alloc_heap_new _ _)
   (by omega) (by omega) (by omega) (by omega) (by omega) hs da))
 obtain⟨a1,k1,rfl,-⟩:=id hR;obtain⟨a2,k2,rfl,-⟩:=id hO;obtain⟨a3,k3,rfl,-⟩:=id hC;obtain⟨a4,k4,rfl,-⟩:=id hP;clear hG hR hO hC hP hs da;unfold uB Jw at Vf;go_enter func29,ntmps29;go_wp2_with (rw[<-Vf.1]);refine HT.1.mono ?_;rintro z3z w2 ⟨d,w1,rfl,⟨h1,h2,h3,h4⟩,aq,eG,iz⟩;obtain⟨QC,T,ev⟩:=bJ ((iz _ (by omega) (bG h3)).trans h3) ((iz _ (by omega) (bG h4)).trans h4) (eG _ _ HB.1.size h2);clear h2 h3 h4 eG iz HT;subst h1;obtain⟨z1z,hc⟩:=aK (pB b c e u row);obtain⟨z0z,rS⟩:=aK (mkB b c e u row);obtain⟨z0,hq⟩:=aK (tD b c e u row);rw[<-hc]at QC;rw[<-rS]at T;rw[<-hq];have HF:=A (And.intro hc (And.intro rS hq));clear hc rS hq;obtain⟨c1,c2,c3,c4,c5⟩:=z1z;obtain⟨t0,t1,t2,t3,t4⟩:=Ie QC.1;obtain⟨f0,f1,f2,f3,f4⟩:=acz QC.1;have u0:=Y T.1 (k:=0) (d:=.bool z0z) rfl;have g0:=cB T.1 0;obtain⟨Wf,fY,fD,qC,qK⟩:=ar7 ev.1 (by omega) (by omega) (by omega) QC.1 T.1;obtain⟨x0,x1,x2,x3,x4⟩:=Ie qC;have y0:=Y qK (k:=0) (d:=.bool z0z) rfl;go_wp2_with fail;go_region_with (fail);all_goals
  rw[<-fY];clear fY;go_wp2_with fail;refine gB (v:=.tuple #[.agg #[c1,c2,c3,c4,c5],.bool z0z,z0]) (by simp[results,results29,go_sem,x0,x1,x2,x3,x4,y0]) rfl ⟨by rw[<-HF.1.1,<-HF.1.2.1,<-HF.1.2.2];rfl,fD⟩
theorem ar9(R Q cv pv:Value)(b:ak)(c:V)(q:bD)(k:cP)(j:Int)(a:World)(hG:gz a)(hR:bI a R b)(hO:aM a Q c)(hC:aM a cv q.cs)(hP:ir a pv q.ps)(tJ:aN j)(hc:C5 k):
  Calls prog 89 #[.agg #[R,Q],j,.agg #[q.dealer,cv,pv],Jq k] a λz4z w' =>
   z4z=.returned (.tuple #[(vE b c j q k:Int),(tE b c j q k:Int)])/\Below a a w':=by
 obtain⟨w,O⟩:=aK (a.alloc (.cells #[R,Q] 25));have F:w.heap.size=a.heap.size+1:=by rw[O];simp
 have bO:Below a a w:=by rw[O];exact(aY _ _).alloc (aP _) _
 have v:=World.alloc_heap_new a (.cells #[R,Q] 25);rw[<-O]at v;obtain⟨x,K⟩:=aK (w.alloc (.cells #[j] 3));have L:x.heap.size=w.heap.size+1:=by rw[K];simp
 have u:Below w w x:=by rw[K];exact(aY _ _).alloc (aP _) _
 have C:=World.alloc_heap_new w (.cells #[j] 3);rw[<-K]at C;obtain⟨y,M⟩:=aK (x.alloc (.cells #[q.dealer,cv,pv] 84));have W:y.heap.size=x.heap.size+1:=by rw[M];simp
 have t:Below x x y:=by rw[M];exact(aY _ _).alloc (aP _) _
 have T:=World.alloc_heap_new x (.cells #[q.dealer,cv,pv] 84);rw[<-M]at T;obtain⟨W3,N⟩:=aK (y.alloc (.cells (uB k) 92));have uE:W3.heap.size=y.heap.size+1:=by rw[N];simp
 have z:Below y y W3:=by rw[N];exact(aY _ _).alloc (aP _) _
 have X:=World.alloc_heap_new y (.cells (uB k) 92);rw[<-N]at X;obtain⟨B,G⟩:=aK (W3.alloc (.cells #[(0:Int)] 3));have Ad:B.heap.size=W3.heap.size+1:=by rw[G];simp
 have D:Below W3 W3 B:=by rw[G];exact(aY _ _).alloc (aP _) _
 have gE:=World.alloc_heap_new W3 (.cells #[(0:Int)] 3);rw[<-G]at gE;have t0:Below a a w:=bO;have t1:Below a a x:=ar t0 u;have t2:Below a a y:=ar t1 t;have t3:Below a a W3:=ar t2 z;have t4:Below a a B:=ar t3 D;obtain⟨Q0,Q1,Q2,Q3,Q4⟩:=gw ((D.block _ (bG ((z.block _ (bG ((t.block _ (bG (az u v))).trans (az u v)))).trans ((t.block _ (bG (az u v))).trans (az u v))))).trans ((z.block _ (bG ((t.block _ (bG (az u v))).trans (az u v)))).trans ((t.block _ (bG (az u v))).trans (az u v)))) ((D.block _ (bG ((z.block _ (bG (az t C))).trans (az t C)))).trans ((z.block _ (bG (az t C))).trans (az t C))) ((D.block _ (bG (az z T))).trans (az z T)) (az D X) gE;rw[F]at Q1;rw[L,F]at Q2;rw[W,L,F]at Q3;rw[uE,W,L,F]at Q4;have lX:B.heap.size=a.heap.size+1+1+1+1+1:=by rw[Ad,uE,W,L,F]
 have HB:=A t4;rw[N,M,K,O]at G;have Vf:=A G;clear O bO v F t0 K u C L t1 M t T W t2 N z X uE t3 G D gE Ad t4;have HT:=A (agT 162 #[(a,0),(a.heap.size+1+1,0),(a.heap.size+1+1+1,0),(a.heap.size+1+1+1+1,0),(a.heap.size+1,0)] B (Vb a (a.heap.size+1+1+1+1) b c j q k) ar2 (by
  have E:=bk B #[(0:Int)] 29;have hb:=ar HB.1 E;refine ar3 a _ _ _ _ _ B.heap.size R Q cv pv b c q k j _ hb hG hR hO hC hP
   (az E Q0.1) (az E Q2.1) (az E Q3.1) (az E Q4.1) (az E Q1.1) (World.alloc_heap_new _ _)
   (by omega) (by omega) (by omega) (by omega) (by omega) (by omega) tJ hc))
 obtain⟨a1,k1,rfl,-⟩:=id hR;obtain⟨a2,k2,rfl,-⟩:=id hO;obtain⟨a3,k3,rfl,-⟩:=id hC;obtain⟨a4,k4,rfl,-⟩:=id hP;have EW:Hid (tE b c j q k≠0->vE b c j q k=0):=A (λz3z=>by unfold vE;rw[aD z3z]);clear hG hR hO hC hP tJ hc;obtain⟨c1,c2,c3,c4,c5⟩:=k;unfold Jq uB at *;go_enter func89,ntmps89;go_wp2_with (rw[<-Vf.1]);refine HT.1.mono ?_;rintro z4z w2 ⟨d,w1,rfl,⟨P,h2,H,h3,h4⟩,aq,eG,iz⟩;obtain⟨S,ev⟩:=aR ((iz _ (by omega) (bG h3)).trans h3) (eG _ _ HB.1.size h2);clear h2 h3 eG iz HT;have t0:=Y S.1 (k:=0) (d:=H) rfl;have f0:=cB S.1 0;by_cases he:d=0
 ·subst he;have I:=A (And.intro P.symm (h4 rfl));clear P h4;have z0:=cK S.1 0 H;have Z:=ev.1.setCell (p:=(a.heap.size+1+1+1+1,0)) (by show a.heap.size<=a.heap.size+1+1+1+1;omega) H;generalize hX:w2.setCell (a.heap.size+1+1+1+1,0) H=z1 at *;have x0:=Y z0 (k:=0) (d:=H) rfl;go_wp2_with (rw[hX]);refine gB (v:=.tuple #[H,(0:Int)]) (by simp[results,results89,go_sem,x0]) rfl ⟨by rw[I.1.1,I.1.2],Z⟩
 ·have d0:(d !=0)=true:=jg.2 he;have I:=A (And.intro P.symm (EW.1 (by rw[<-P];exact he)));clear P h4;have z0:=cK S.1 0 (0:Int);have Z:=ev.1.setCell (p:=(a.heap.size+1+1+1+1,0)) (by show a.heap.size<=a.heap.size+1+1+1+1;omega) (0:Int);generalize hX:w2.setCell (a.heap.size+1+1+1+1,0) (0:Int)=z1 at *;have x0:=Y z0 (k:=0) (d:=(0:Int)) rfl;go_wp2_with (rw[hX]);refine gB (v:=.tuple #[(0:Int),d]) (by simp[results,results89,go_sem,x0]) rfl ⟨by rw[I.1.1,I.1.2],Z⟩
theorem asa{p q:Nat}{l:Value}(u:h.ownsRow p d q l n o):∃m k t,l=.slice m k t:=by
 rcases u.2 with⟨rfl,-⟩|⟨x,v,w,rfl,-⟩
 ·exact⟨_,_,_,rfl⟩
 ·exact⟨_,_,_,rfl⟩
theorem ints_at{x:Nat}{p:V}(y:aM a (.slice m n x) p){k:Nat}(w:k<p.length):∃t q,m=some ⟨t,q,none⟩/\a.cell? ⟨t,q+k,none⟩=some (.int .i64 p[k]):=by
 obtain⟨z,B,u,-,-,-,v⟩:=y;cases u;exact v k w
theorem ir.set{p O u:Nat}{v:List gG}(N:ir a (.slice m n u) v)(E:∀t L,m=some ⟨t,L,none⟩->t≠p)(l:Value):ir (a.setCell (p,O) l) (.slice m n u) v:=by
 obtain⟨w,y,q,z,B,C,D⟩:=N;refine⟨w,y,q,z,B,C,λK I=>?_⟩;obtain⟨x,M,d,F,G,H⟩:=D K I;cases q;have k:=E _ _ d;exact⟨x,M,d,(jS (.inl k.symm)).trans F,(jS (.inl k.symm)).trans G,(jS (.inl k.symm)).trans H⟩
def c36(k:Nat):Int:=if k=0 then 5 else 7
theorem asb{y:Oper}{m:Act}{D:Exit->Act->World->Prop}(N:y.guard=none)(e B:Operand)(X:y.op=.call {callee:=.builtin .append,args:=#[e,B],argTypes:=#[82,82]})
  (q n:Nat) (l:Value) (o:List Value) (Z:m.eval e=l) (F:h.ownsRow q 88 3 l n o) (z:Addr) (C:Nat) (k:List gG) (hx:m.eval B=.slice (some z) k.length C) (Q:ir h (.slice (some z) k.length C) k) (hn:n+k.length<=1000000) (G:q<=h.heap.size)
  (z2z:∀w u,u.ownsRow q 88 3 w (n+k.length) (o++k.flatMap gW)->Below q h u->wpList prog r D s (m.put y.dst w) u):wpList prog r D (y::s) m h:=by
 obtain⟨ad2,c2,K,hc,hl,hr,W⟩:=Q;simp only[dr]at K;obtain⟨rfl,-,rfl⟩:=K;obtain⟨z3z,S,H⟩:=kA.1 agQ;simp only[pN]at H;obtain⟨hz,M,R⟩:=H;obtain⟨zv,oW,oX⟩:=kA.1 hz;refine SF _ N e B 82 X q 88 z3z zv 3 24 underlying82 S oW M R oX (by decide) _ n o Z F z k.length C (k.flatMap gW) hx (aaI k) ?_ ?_ ?_ ?_ G ?_
 ·intro x z0 p;have T:x<(k.flatMap gW).length:=(DI.1 p).1;rw[aaI]at T;obtain⟨t,v,E,rfl⟩:∃t v,v<3/\x=t*3+v:=⟨x/3,x%3,by omega,by omega⟩;have I:t<k.length:=by omega
  obtain⟨z0z,off,d,q1,q2,q3⟩:=W t I;injection d with d;subst d;rw[aaH k t v I E]at p;rw[zS]
  match v,E with
  |0,_=>simp[gW]at p;rw[<-p];exact q1
  |1,_=>simp[gW]at p;rw[<-p,<-Oa];exact q2
  |2,_=>simp[gW]at p;rw[<-p,<-Oa];exact q3
 ·intro z0 p;obtain⟨z1,-,L⟩:=List.mem_flatMap.1 p;simp only[gW,iu,oG,oH]at L;rcases L with rfl|rfl|rfl<;>rfl
 ·unfold maxLen;omega
 ·omega
 ·intro w u O P _;exact z2z w u O (fH F P G)
theorem EX{t p u y:Nat}(q:h.ownsRow t d y (.slice (p,0) n u) n o)(k:Nat)(z:Value):
  h.frozen? (p,k)=false/\t<=p/\(h.setCell (p,k) z).ownsRow t d y (.slice (p,0) n u) n (o.set k z):=by
 obtain⟨C,q⟩:=q;rcases q with⟨q,-⟩|⟨H,I,G,v,w,x,E,D,B,F⟩
 ·cases q
 ·simp only[dr,tX,Cn]at v;obtain⟨⟨rfl,-,-⟩,-,rfl⟩:=v;refine⟨cB x k,w,by rw[Oe];exact C,.inr ⟨p,u,_,rfl,w,cK x k z,E,D,by rw[Array.size_setIfInBounds];exact B,?_⟩⟩;rw[Array.toList_setIfInBounds,List.take_set,F]
