/- Package moving: Deal, fits, Fits. -/
import Derived.Test.YtaifagjclanodaaGreatDoorMCoM
set_option maxHeartbeats 8000000
set_option maxRecDepth 100000
namespace Go.Proofs.YtaifagjclanodaaGreatDoor
open Go.Proofs.Tryz
open Go.RowKit FP
variable{m:Array Value}{g:Int}{c a h:Nat}{C:TypeId}{F G v l i:Value}{e B u w w':World}{f s x j:V}{n t d:ak}{r:gu}
theorem abx{o b:Nat}{H:Value}{z:TypeId}(D:Below o w e)(q:o<=b)(y:e.heap[b]?=QC.mk #[H] z)(g:Int):
  ∃k,k=(e.alloc (.cells #[g] 231)).setCell (b,0) g/\Below o w k/\k.cell? (b,0)=g:=by
 have p:=bk e #[g] 231;have E:=az p y;exact⟨_,rfl,(D.trans (p.mono (bK q (gQ (bG y))))).setCell q _,Y (cK E 0 _) rfl⟩
theorem JY(w:World)(i:Value)(C:TypeId):∃e,e=w.alloc (.cells #[i] C)/\Below w w e/\e.heap[w.heap.size]?=QC.mk #[i] C/\e.heap.size=w.heap.size+1:=
 ⟨_,rfl,bk _ _ _,World.alloc_heap_new _ _,by simp⟩
def JZ(d:ak)(f:V)(k:Int)(m:V)(n:ak)(b:V)(p i:Int)(o:V):Int:=
 if ox d f k m n b≠0 then ox d f k m n b else if ke d f m p i=false then 340 else mo n b i o
theorem RI.nil0(e:World):RI e () []:=⟨aM.nil _ _ _,λb g=>by cases g⟩
theorem RS.nil0(e:World):RS e () []:=⟨fK.nil _ _ _,λb g=>by cases g⟩
theorem RI.set1{Q:V}{p L:Nat}{T:Nat×Nat}(E:RI e i Q)(Z:e.heap[p]?=some (.cells m C T))(y:3 ≠ C)(P:Value):RI (e.setCell (p,L) P) i Q:=by
 have H:∀o,i.ownBlock=some o->o≠p:=λo q z=>by
  subst z;obtain⟨N,O,k⟩:=E.2 o q;rw[Z]at k;injection k with k;injection k with _ D _;exact y D.symm
 have I:∀b,b≠p->(e.setCell (p,L) P).heap[b]?=e.heap[b]?:=λb y=>dJ _ _ _ _ y;refine⟨?_,λo q=>by obtain⟨N,O,k⟩:=E.2 o q;exact⟨N,O,(I _ (H o q)).trans k⟩⟩;obtain⟨⟨R,S,rfl,z,k,D,W⟩,-⟩:=E;refine⟨R,S,rfl,z,k,D,λK hk=>?_⟩;obtain⟨b,M,rfl,X⟩:=W K hk;exact⟨b,M,rfl,(rB (a:=⟨b,M+K,none⟩) (I b (H b rfl))).trans X⟩
theorem RS.set1{P:bF}{p M:Nat}{T:Nat×Nat}(L:RS e i P)(hS:e.heap[p]?=some (.cells m C T))(y:66 ≠ C)(Q:Value):RS (e.setCell (p,M) Q) i P:=by
 have E:∀o,i.ownBlock=some o->o≠p:=λo q z=>by
  subst z;obtain⟨N,O,k⟩:=L.2 o q;rw[hS]at k;injection k with k;injection k with _ D _;exact y D.symm
 have H:∀b,b≠p->(e.setCell (p,M) Q).heap[b]?=e.heap[b]?:=λb y=>dJ _ _ _ _ y;refine⟨?_,λo q=>by obtain⟨N,O,k⟩:=L.2 o q;exact⟨N,O,(H _ (E o q)).trans k⟩⟩;obtain⟨⟨R,S,rfl,z,k,D,W⟩,-⟩:=L;refine⟨R,S,rfl,z,k,D,λI hk=>?_⟩;obtain⟨b,K,rfl,X,Z⟩:=W I hk;exact⟨b,K,rfl,(rB (a:=⟨b,K+I*2,none⟩) (H b (E b rfl))).trans X,(rB (a:=⟨b,K+I*2+1,none⟩) (H b (E b rfl))).trans Z⟩
theorem auG(l v q:Value)(d:ak)(f:V)(k:Int)(o:V)(w:World)(E:bI w l d)(D:aM w v f)(z:aM w q o)(M:aN k):
  Calls prog 74 #[.agg #[l,v],k,q] w λI w'=>∃H cv,I=.returned (.tuple #[H,cv,(mo d f k o:Int)])/\RS w' H (if mo d f k o=0 then bV d (k::o) else [])/\RI w' cv (if mo d f k o=0 then bt (k::o) else [])/\(∀y,cv.ownBlock=some y->w.heap.size<=y)/\Below w w w':=by
 by_cases b:mo d f k o=0
 ·have p:bH d f=0:=by
   unfold mo at b;by_cases p:bH d f=0
   ·exact p
   ·rw[aD p]at b;exact absurd b p
  rw[aD b,aD b,b];exact aaZ l v q d f k o w E D z (Zt b) p
 ·rw[aA b,aA b];exact(afw l v q d f k o w E D z M b).mono λI w' ⟨K,L⟩=>⟨_,_,K,RS.nil0 _,RI.nil0 _,(λy g=>by cases g),L⟩
def aim(n:ak)(i:Int)(o:V)(b:Int)(w:World)(g:Ending)(w':World):Prop:=
 ∃q k,g=.returned (.tuple #[q,k,.int .i64 b])/\RS w' q (if b=0 then bV n (i::o) else [])/\RI w' k (if b=0 then bt (i::o) else [])/\(∀p,k.ownBlock=some p->w.heap.size<=p)/\Below w.heap.size w w'
theorem aby{i:Int}{p:V}{k b:Int}(y:k=b)(o:b≠0)(q:Below w w w'):aim n i p k w (.returned (.tuple #[(),(),b])) w':=by
 subst y;refine⟨_,_,rfl,?_,?_,(λz g=>by cases g),q⟩
 ·rw[aA o];exact RS.nil0 _
 ·rw[aA o];exact RI.nil0 _
theorem auH{m:V}{b i:Int}(k:j9 d f m b i≠0):ke d f m b i=false:=by
 unfold ke;rw[aA k]
theorem auI(ep:Int)(l v cv ef eh mv:Value)(N i:Int)(d:ak)(f m:V)(n:ak)(y aQ:V)(w:World)(hR:bI w l d)(hO:aM w v f)(hC:aM w cv m)(hR2:bI w ef n)(hO2:aM w eh y)(hM:aM w mv aQ)(hr:aN N)(hv:aN i):
  Calls prog 39 #[.agg #[ep,l,v,cv],.agg #[ef,eh],.agg #[N,i],mv] w (aim n i aQ (JZ d f ep m n y N i aQ) w):=by
 obtain⟨u,dx,bO,cF,fl⟩:=lF w ep l v cv 33;obtain⟨W1,aE,au,aI,bX⟩:∃e,e=u.alloc (.cells #[ef,eh] 25)/\Below u u e/\e.heap[u.heap.size]?=QC.mk #[ef,eh] 25/\e.heap.size=u.heap.size+1:=⟨_,rfl,bk _ _ _,World.alloc_heap_new _ _,by simp⟩;obtain⟨W2,cG,an,bE,gS⟩:∃e,e=W1.alloc (.cells #[N,i] 66)/\Below W1 W1 e/\e.heap[W1.heap.size]?=QC.mk #[N,i] 66/\e.heap.size=W1.heap.size+1:=⟨_,rfl,bk _ _ _,World.alloc_heap_new _ _,by simp⟩;obtain⟨W3,dV,aJ,dX,uE⟩:=JY W2 (0:Int) 29;have Au:=ar bO au;have h02:=ar Au an;have hb:Below w w W3:=ar h02 aJ;obtain⟨Q,P,O,S,R,T⟩:=oJ (hR.below hb) (hO.below hb) (hC.below hb) (hR2.below hb) (hO2.below hb) (hM.below hb);obtain⟨a1,k1,rfl,-,eI,-⟩:=id hR;obtain⟨a2,k2,rfl,-,dR,-⟩:=id hO;obtain⟨a3,k3,rfl,-,gC,-⟩:=id hC;obtain⟨a4,k4,rfl,-,fj,-⟩:=id hR2;obtain⟨a5,k5,rfl,-,xt,-⟩:=id hO2;obtain⟨a6,k6,rfl,-,JM,-⟩:=id hM;have e1:u.heap.size=w.heap.size+1:=fl;have e2:W1.heap.size=w.heap.size+1+1:=by omega
 have e3:W2.heap.size=w.heap.size+1+1+1:=by omega
 rw[e1]at aI;rw[e2]at bE;rw[e3]at dX;obtain⟨W,X,Z,k⟩:=cY (((ar au an).trans (aJ.mono (ar au an).size)).block _ (bG cF) |>.trans cF) ((ar an aJ).block _ (bG aI) |>.trans aI) (aJ.block _ (bG bE) |>.trans bE) dX;rw[cG,aE,dx]at dV;obtain⟨HW,o,Vw,Qo⟩:=cY dV hb hr hv;clear hR hO hC hR2 hO2 hM hb bO au an aJ Au h02 cF aI bE dX dx aE cG dV fl bX gS uE e1 e2 e3 hr hv;have VN:=A (λww h1 h2 h3 h4 h5=>ahU ep (.slice a1 d.length k1) (.slice a2 f.length k2) (.slice a3 m.length k3) (.slice a4 n.length k4) (.slice a5 y.length k5) d f m n y ww h1 h2 h3 h4 h5);obtain⟨z,D,E,H⟩:=fh W.1;obtain⟨I,K⟩:=ez X.1;obtain⟨L,M⟩:=ez Z.1;obtain⟨ME,mW⟩:=aK (JZ d f ep m n y N i aQ);rw[<-mW];have J0:=A mW;clear mW;by_cases tq:ox d f ep m n y=0;rotate_left
 ·have HV:Hid (ME=ox d f ep m n y):=A (by rw[J0.1];unfold JZ;rw[aD tq]);have kJ:=A tq;clear tq J0;generalize ox d f ep m n y=z2 at *;go_enter_defers func39,ntmps39;go_wp2_with (rw[<-HW.1]);with_reducible refine(uU (VN.1 _ Q.1 P.1 O.1 S.1 R.1) (MN kJ.1)).mono ?_
  rintro g w4 ⟨rfl,b⟩;refine SZ b z D E H I K L M ?_;clear z D E H I K L M;intro z D E H I K L M;obtain⟨Q,P,O,S,R,T,W,X,Z⟩:=fx (Q.1.below b) (P.1.below b) (O.1.below b) (S.1.below b) (R.1.below b) (T.1.below b) (az b W.1) (az b X.1) (az b Z.1);replace k:=A (az b k.1);replace o:=A (ar o.1 b);clear b;refine sQ (f:=106) (args:=#[(w.heap.size+1+1+1,0)]) (by simp) (by simp[go_sem]) ?_;refine(Zo (w.heap.size+1+1+1) 0 0 z2 [] _ (Y k.1 rfl) (cB k.1 0) (bG k.1)).mono ?_;rintro g u' eN ⟨rfl,rfl,rfl⟩;obtain⟨Wf,fY,fD,eX⟩:=abx o.1 (show w.heap.size<=w.heap.size+1+1+1 by omega) k.1 z2;rw[<-fY];simp[Leaves,settle,results,results39,go_sem,eX];exact aby HV.1 kJ.1 fD
 have HE:Hid (ME=if ke d f m N i=false then 340 else mo n y i aQ):=A (by rw[J0.1];unfold JZ;rw[aA (by simp[tq])]);have VO:=A tq;clear tq;go_enter_defers func39,ntmps39;go_wp2_with (rw[<-HW.1]);with_reducible refine(uU (VN.1 _ Q.1 P.1 O.1 S.1 R.1) (abl VO.1)).mono ?_
 rintro g w4 ⟨rfl,b⟩;refine SZ b z D E H I K L M ?_;clear z D E H I K L M;intro z D E H I K L M;obtain⟨Q,P,O,S,R,T,W,X,Z⟩:=fx (Q.1.below b) (P.1.below b) (O.1.below b) (S.1.below b) (R.1.below b) (T.1.below b) (az b W.1) (az b X.1) (az b Z.1);replace k:=A (az b k.1);replace o:=A (ar o.1 b);clear b;go_wp2_with fail;with_reducible refine(Ep _ _ _ d f m N i _ Q.1 P.1 O.1 Vw.1 Qo.1).mono ?_
 rintro g w5 ⟨rfl,p⟩;refine SZ p z D E H I K L M ?_;clear z D E H I K L M;intro z D E H I K L M;obtain⟨Q,P,O,S,R,T,W,X,Z⟩:=fx (Q.1.below p) (P.1.below p) (O.1.below p) (S.1.below p) (R.1.below p) (T.1.below p) (az p W.1) (az p X.1) (az p Z.1);replace k:=A (az p k.1);replace o:=A (ar o.1 p);clear p;cases fZ:ke d f m N i with
 |false =>
  have HV:Hid (ME=340):=A (HE.1.trans (aD fZ));clear fZ HE;generalize vM:j9 d f m N i=z2 at *;clear vM;have key:∀(z2z:Bool),z2z=(z2==0)->True:=λ_ _=>trivial;cases hq:(z2==0) with
  |false =>
   go_wp2_with fail;with_reducible refine(IV 340 _).mono ?_
   rintro g w6 ⟨rfl,rfl⟩;refine sQ (f:=106) (args:=#[(w.heap.size+1+1+1,0)]) (by simp) (by simp[go_sem]) ?_;refine(Zo (w.heap.size+1+1+1) 0 0 340 [] _ (Y k.1 rfl) (cB k.1 0) (bG k.1)).mono ?_;rintro g u' eN ⟨rfl,rfl,rfl⟩;obtain⟨Wf,fY,fD,eX⟩:=abx o.1 (show w.heap.size<=w.heap.size+1+1+1 by omega) k.1 340;rw[<-fY];simp[Leaves,settle,results,results39,go_sem,eX];exact aby HV.1 (by decide) fD
  |true =>
   go_wp2_with fail;with_reducible refine(IV 340 _).mono ?_
   rintro g w6 ⟨rfl,rfl⟩;refine sQ (f:=106) (args:=#[(w.heap.size+1+1+1,0)]) (by simp) (by simp[go_sem]) ?_;refine(Zo (w.heap.size+1+1+1) 0 0 340 [] _ (Y k.1 rfl) (cB k.1 0) (bG k.1)).mono ?_;rintro g u' eN ⟨rfl,rfl,rfl⟩;obtain⟨Wf,fY,fD,eX⟩:=abx o.1 (show w.heap.size<=w.heap.size+1+1+1 by omega) k.1 340;rw[<-fY];simp[Leaves,settle,results,results39,go_sem,eX];exact aby HV.1 (by decide) fD
 |true =>
  have vM:j9 d f m N i=0:=by
   by_cases z0z:j9 d f m N i=0
   ·exact z0z
   ·rw[auH z0z]at fZ;cases fZ
  rw[vM];have HV:Hid (ME=mo n y i aQ):=A (HE.1.trans (aA (by rw[fZ];decide)));clear vM fZ HE;go_wp2_with fail;with_reducible refine(Bl 340 _).mono ?_
  rintro g w6 ⟨rfl,rfl⟩;have Fb:=A (λww h1 h2 h3=>auG (.slice a4 n.length k4) (.slice a5 y.length k5) (.slice a6 aQ.length k6) n y i aQ ww h1 h2 h3 Qo.1);rw[<-HV.1]at Fb;go_wp2_with fail;with_reducible refine(Fb.1 _ S.1 R.1 T.1).mono ?_
  rintro g w7 ⟨lv,kv,rfl,hsh,mJ,rU,q⟩;obtain⟨E4,Up,qf⟩:=bJ (λz3 z0z=>bK o.1.size (rU z3 z0z)) hsh mJ;clear hsh mJ rU;refine SZ q z D E H I K L M ?_;clear z D E H I K L M;intro z D E H I K L M;obtain⟨Q,P,O,S,R,T,W,X,Z⟩:=fx (Q.1.below q) (P.1.below q) (O.1.below q) (S.1.below q) (R.1.below q) (T.1.below q) (az q W.1) (az q X.1) (az q Z.1);replace k:=A (az q k.1);replace o:=A (ar o.1 q);clear q;have z0:=Y k.1 (k:=0) rfl;have z1:=cB k.1 0;go_wp2_with fail;refine sQ (f:=106) (args:=#[(w.heap.size+1+1+1,0)]) (by simp) (by simp[go_sem]) ?_;refine(afq _ _).mono ?_;rintro g u' eN ⟨rfl,rfl,rfl⟩;have eX:=Y (cK k.1 0 ME) (k:=0) rfl;simp[Leaves,settle,results,results39,go_sem,eX];exact⟨_,_,rfl,Up.1.set1 k.1 (by decide) _,qf.1.set1 k.1 (by decide) _,E4.1,o.1.setCell (show w.heap.size<=w.heap.size+1+1+1 by omega) _⟩
def BW(d:ak)(f m:V)(n:ak)(b:Int)(k:V):Bool:=decide (iQ d f m b=0)&&(fQ n k&&J k 0==pZ d f m b)
theorem auJ(ep:Int)(l v cv P Q lv:Value)(b:Int)(d:ak)(f m:V)(n:ak)(bl o:V)(w:World)(W:bI w l d)(T:aM w v f)(R:aM w cv m)(X:bI w P n)(hO2:aM w Q bl)(S:aM w lv o)(hr:aN b)(nH:bH n bl=0):
  Calls prog 113 #[.agg #[ep,l,v,cv],.agg #[P,Q],b,lv] w λg w'=>g=.returned (.bool (BW d f m n b o))/\Below w w w':=by
 obtain⟨u,dx,Z,cF,fl⟩:=lF w ep l v cv 33;obtain⟨W1,K,N,L,hz⟩:=ee u P Q 25;have q:Below w w W1:=ar Z N;obtain⟨HR,HO,HC,O,y⟩:=gw (W.below q) (T.below q) (R.below q) (X.below q) (S.below q);obtain⟨a1,k1,rfl,-,eI,-⟩:=id W;obtain⟨a2,k2,rfl,-,dR,-⟩:=id T;obtain⟨a3,k3,rfl,-,gC,-⟩:=id R;obtain⟨a4,k4,rfl,-,fj,-⟩:=id X;obtain⟨a5,k5,rfl,-,xt,-⟩:=id hO2;obtain⟨a6,k6,rfl,-,JM,-⟩:=id S;have Q1:=A (az N cF);rw[fl]at L;have I:=A L;rw[dx]at K;obtain⟨bp,p,gZ⟩:=bJ K q hr;have lj:=(fs nH).cols;clear W T R X hO2 S q Z N cF L dx K fl hz hr nH;obtain⟨-,c1,c2,c3⟩:=fh Q1.1;go_enter func113,ntmps113;go_wp2_with (rw[<-bp.1]);clear c1 c2 c3;with_reducible refine(T9 _ _ _ d f m b _ HR.1 HO.1 HC.1 gZ.1).mono ?_
 rintro g w2 ⟨rfl,E⟩;obtain⟨O,y,I,p⟩:=cY (O.1.below E) (y.1.below E) (az E I.1) (ar p.1 E);clear E;by_cases D:iQ d f m b=0;rotate_left
 ·have z:Hid (BW d f m n b o=false):=A (by unfold BW;rw[bw D];rfl);have d0:(iQ d f m b==0)=false:=eH.2 D;clear D;generalize iQ d f m b=z0 at *;generalize pZ d f m b=z1z at *;go_wp2_with fail;go_ret;exact⟨cg z.1.symm,p.1⟩
 have z:Hid (BW d f m n b o=(fQ n o&&J o 0==pZ d f m b)):=A (by unfold BW;rw[bB D];rfl);rw[D];clear D;generalize pZ d f m b=z1z at *;obtain⟨e0,e1⟩:=ez I.1;go_wp2_with fail;clear e0 e1;with_reducible refine(ahT _ _ _ n o _ O.1 ⟨_,_,_,rfl⟩ y.1).mono ?_
 rintro g w3 ⟨rfl,M⟩;replace y:=A (y.1.below M);replace p:=A (ar p.1 M);clear M;cases H:fQ n o with
 |false =>
  rw[H]at z;clear H;go_wp2_with fail;go_ret;exact⟨cg z.1.symm,p.1⟩
 |true =>
  have hlen:=(GP H).2;rw[H]at z;obtain⟨-,bd,od,nd,kd,ed,qd⟩:=y.1.get (k:=0) (by omega);simp only[dr]at ed;obtain⟨rfl,-,-⟩:=ed;rw[rF]at qd;have j2:0<o.length:=by omega
  clear H hlen lj;generalize J o 0=j at *;go_wp2_with fail;go_ret;exact⟨cg z.1.symm,p.1⟩
theorem auK{o:Int}{m p:V}(b:ox d f o m n p=0):bH d f=0/\ks d o m=true/\bH n p=0:=by
 unfold ox at b;by_cases k:bH d f=0
 ·rw[aA (by simp[k])]at b;cases q:ks d o m with
  |false=>rw[aD q]at b;cases b
  |true=>rw[aA (by rw[q];decide)]at b;exact⟨k,rfl,b⟩
 ·rw[aD k]at b;exact absurd b k
theorem ain(b i r2 I:Int)(w:World):
  Calls prog 112 #[.agg #[b,i],.agg #[r2,I]] w λg w'=>g=.returned (.bool (b==r2))/\Below w w w':=by
 obtain⟨q,k,D,z,-⟩:=ee w b i 66;obtain⟨y,p,o,E,-⟩:=ee q r2 I 66;have H:q.heap.size=w.heap.size+1:=by rw[k];simp
 have M:y.cell? (w,0)=b:=U o (Y z rfl);have N:y.cell? (w.heap.size+1,0)=r2:=by rw[<-H];exact Y E rfl
 have K:=A (ar D o);rw[k]at p;have L:=A p;clear p k z E D o H;go_enter func112,ntmps112;go_wp2_with (rw[<-L.1]);go_ret;exact⟨rfl,K.1⟩
theorem auL(z2z i:Value)(k o:bF)(w:World)(hA:fK w z2z k)(hB:fK w i o):
  Calls prog 97 #[z2z,i,.func (.func 112) #[] #[]] w λg w'=>g=.returned (.bool (decide (gH k=gH o)))/\Below w w w':=by
 obtain⟨a1,k1,rfl,iP,eI,aI,cU⟩:=hA;obtain⟨a2,k2,rfl,lj,dR,bE,bW⟩:=hB;by_cases z:k.length=o.length;rotate_left
 ·have yY:((k.length:Int)!=(o.length:Int))=true:=by rw[jg];omega
  have H:Hid (decide (gH k=gH o)=false):=A (bw (λE=>z (aa6 E)));clear z;go_enter func97,ntmps97;go_wp2_with fail;go_ret;exact⟨cg H.1.symm,aY _ _⟩
 have yY:((k.length:Int)!=(o.length:Int))=false:=by rw[z];simp
 have Q:=A z;have yZ:Hid (∀b (E:b<k.length),∃p D,p=(o[b]'(by rw[<-Q.1];exact E)).1/\∃X P,a2=some ⟨X,P,none⟩/\w.cell? ⟨X,P+b*2,none⟩=some (.int .i64 p)/\w.cell? ⟨X,P+b*2+1,none⟩=some (.int .i64 D)):=A (λb E=>⟨_,_,rfl,bW b (by omega)⟩);have Az:=A cU;rw[<-z]at yY dR ⊢;clear z cU bW;go_enter func97,ntmps97;go_wp2_with fail;go_loopw[17] (λc e=>∃b:Nat,b<=k.length/\c=.int .i64 b/\Hid (∀a (K:a<k.length) (L:a<o.length),a<b->k[a].1=o[a].1)/\Below w w e) (λc _=>k.length-(intOf c).toNat);case atStart=>exact⟨0,bS _,rfl,A λa _ _ E=>absurd E (fG _),aY _ _⟩
 case round =>
  obtain⟨b,dg,rfl,HP,q⟩:=hrel;by_cases O:b<k.length
  ·obtain⟨z0,P,rfl,qa,qb⟩:=Az.1 b O;obtain⟨j,D,hy,p',Lr,rfl,qc,qd⟩:=yZ.1 b O;have y1:=U q qa;have y2:=U q qb;have y3:=U q qc;have y4:=U q qd;obtain⟨p,T⟩:=aK (k[b].1);obtain⟨C,ht⟩:=aK (k[b].2);rw[<-T]at y1;rw[<-ht]at y2;have i1:(0:Int)<=(b:Int):=by omega
   have i2:(b:Int)<(k.length:Int):=by omega
   obtain⟨HX,HY⟩:=aR T hy;obtain⟨I,dk,N,S,-⟩:=ee wr (.int .i64 p) C 66;have s0:I.cell? (wr,0)=some (.int .i64 p):=Y S rfl;have s1:I.cell? (wr,1)=C:=Y S rfl;have z3:=U N y3;have z4:=U N y4;obtain⟨W6,cH,M,W,-⟩:=ee I j (.int .i64 D) 66;have u0:=U M s0;have u1:=U M s1;have u2:W6.cell? (I,0)=j:=Y W rfl;have u3:W6.cell? (I,1)=some (.int .i64 D):=Y W rfl;obtain⟨gX,fR⟩:=aR dk cH;have fo:=ar q N;have df:=A (ar fo M);clear T hy ht qa qb qc qd q S W dk cH N M fo;by_cases y:p=j
   ·have Z:(p==j)=true:=by simpa using y
    have HN:=A (show ∀a (K:a<k.length) (L:a<o.length),a<b+1->k[a].1=o[a].1 from λa K L h3=>by
     by_cases g:a=b
     ·subst g;rw[<-HX.1,<-HY.1,y]
     ·exact HP.1 a K L (by omega))
    clear y;go_wp2_with (first|rw[<-gX.1]|rw[<-fR.1]);refine(ain p C j D _).mono ?_;rintro g w7 ⟨rfl,R⟩;rw[Z];go_wp2_with fail;go_roundw;case rel=>exact⟨b+1,by omega,by go_num,HN,ar df.1 R⟩
    case measure=>simp[intOf];omega
   ·have Z:(p==j)=false:=by simpa using y
    have H:Hid (decide (gH k=gH o)=false):=A (bw (ahm O (by rw[<-Q.1];exact O) (by rw[<-HX.1,<-HY.1];exact y)));clear y;go_wp2_with (first|rw[<-gX.1]|rw[<-fR.1]);refine(ain p C j D _).mono ?_;rintro g w7 ⟨rfl,R⟩;rw[Z];go_wp2_with fail;go_ret;exact⟨cg H.1.symm,ar df.1 R⟩
  ·have H:Hid (decide (gH k=gH o)=true):=A (bB (ahn Q.1 λa K L=>HP.1 a K L (by omega)));go_wp2_with fail;go_ret;exact⟨cg H.1.symm,q⟩
theorem auM(i:Value)(k:V)(w:World)(L:aM w i k):
  Calls prog 109 #[i] w λg w'=>g=.returned (.bool (eU (-1) k))/\Below w w w':=by
 have T:=A L;obtain⟨a1,k1,rfl,-,eI,-⟩:=id L;clear L;go_enter func109,ntmps109;go_wp2_with fail;go_loopw[3,8] (λlast c e=>∃b:Nat,b<=k.length/\c=b/\last=(mr (-1) (k.take b):Int)/\Hid (eU (-1) (k.take b)=true)/\Hid (-1<=mr (-1) (k.take b))/\e=w) (λ_ c _=>k.length-(intOf c).toNat);case atStart=>exact⟨0,bS _,rfl,rfl,A rfl,A (by unfold mr;simp),rfl⟩
 case round =>
  obtain⟨b,dg,rfl,rfl,I,H,rfl⟩:=hrel;by_cases D:b<k.length
  ·obtain⟨O,b1,o1,n1,c1,M,R⟩:=T.1.get D;simp only[dr]at M;obtain⟨rfl,-,-⟩:=M;rw[di D]at R O;obtain⟨p,K,N⟩:=bJ (Uy (m:=-1) D) (Ux (m:=-1) D) (λz0z=>aqy (i:=k) (m:=-1) (k:=b) z0z);have i0:(0:Int)<=(b:Int):=by omega
   have i1:(b:Int)<(k.length:Int):=by omega
   obtain⟨o,P⟩:=aK (k[b]);obtain⟨z,Q⟩:=aK (mr (-1) (k.take b));rw[<-P]at R p K;rw[<-Q]at p H ⊢;rw[I.1,jY]at p;have hg:=H.1;clear O P Q I H;by_cases y:o<=z
   ·have X:decide (o<=z)=true:=bB y;have q:=A (N.1 (by rw[p.1,bw (show ¬ z<o by omega),KU]));clear y;go_wp2_with fail;go_ret;exact⟨cg q.1.symm,aY _ _⟩
   have X:decide (o<=z)=false:=bw y;by_cases E:64<=o
   ·have Z:decide (64<=o)=true:=bB E;have q:=A (N.1 (by rw[p.1,S6 (by omega),uP]));clear y E;go_wp2_with fail;go_ret;exact⟨cg q.1.symm,aY _ _⟩
   have Z:decide (64<=o)=false:=bw E;have S:Hid (eU (-1) (k.take (b+1))=true):=A (by rw[p.1,jo.2 (by omega),bB (show z<o by omega)];rfl);have W:Hid (-1<=mr (-1) (k.take (b+1))):=A (by rw[K.1];omega);clear y E hg;go_wp2_with fail;go_roundw;case rel=>exact⟨b+1,by omega,by go_num,by rw[K.1],S,W,by trivial⟩
   case measure=>simp[intOf];omega
  ·obtain rfl:b=k.length:=by omega
   have q:Hid (eU (-1) k=true):=A (by have:=I.1;rwa [m9]at this);go_wp2_with fail;go_ret;exact⟨cg q.1.symm,aY _ _⟩
def dY(f b:V)(h:Nat):V:=(bP f b h).map λ(c:Nat)=>(c:Int)
theorem aio(f b:V)(h:Nat):(dY f b h).length<=h:=by unfold dY;rw[dy];exact GG _ _ _
theorem auN(l v wv:Value)(f k:V)(w:World)(hr:∃z0z h z1z,l=.slice z0z h z1z)(E:aM w v f)(H:aM w wv k)(hl:f.length<=1000):
  Calls prog 111 #[.agg #[l,v],wv] w λg w'=>∃i,g=.returned i/\aM w' i (dY f k f.length)/\Below w.heap.size w w':=by
 obtain⟨p,N,y,O,W⟩:=ee w l v 25;obtain⟨a1,n1,k1,rfl⟩:=hr;obtain⟨HO,HWW⟩:=aR (E.below y) (H.below y);obtain⟨a2,k2,rfl,-,dR,-⟩:=id E;obtain⟨a3,k3,rfl,-,gC,-⟩:=id H;have c1:p.cell? ⟨w.heap.size,1,none⟩=some (.slice a2 f.length k2):=Y O rfl;obtain⟨bp,du⟩:=aR N y;have X:p.ownsRow p.heap.size 3 1 (.slice none 0 0) (bP f k 0).length ((dY f k 0).map (Value.int .i64)):=iv _ _ _ _;clear E H O N y;go_enter func111,ntmps111;go_wp2_with (rw[<-bp.1]);go_loopw[4,10] (λF c e=>∃b:Nat,b<=f.length/\c=.int .i64 b/\e.ownsRow p.heap.size 3 1 F (bP f k b).length ((dY f k b).map (Value.int .i64))/\Below p.heap.size p e) (λ_ c _=>f.length-(intOf c).toNat);case atStart=>exact⟨0,bS _,rfl,X,aY _ _⟩
 case round =>
  clear X;obtain⟨b,dg,rfl,z,q⟩:=hrel;obtain⟨P,Q⟩:=aR z q;by_cases aq:b<f.length
  ·obtain⟨-,b1,o1,n2,c2,R,q1⟩:=(HO.1.below q).get aq;simp only[dr]at R;obtain⟨rfl,-,-⟩:=R;have L:=A (HWW.1.below q);have i0:(0:Int)<=(b:Int):=by omega
   have i1:(b:Int)<(f.length:Int):=by omega
   have lJ:(bP f k b).length<=1000000:=by have:=GG f k b;omega
   clear z q;by_cases o:J f b∈k
   ·have D:Hid ((dY f k (b+1)).map (Value.int .i64)=(dY f k b).map (Value.int .i64)++[.int .i64 (b:Int)]):=A (by unfold dY;rw[Mb o,gJ,gJ];rfl);have K:Hid ((bP f k (b+1)).length=(bP f k b).length+1):=A (by rw[Mb o,fu];rfl);obtain⟨I,M⟩:=aR (amT _ k (J f b) _ L.1 o) (bk wr #[.int .i64 b] 3);obtain⟨kq,yV,Z⟩:=bJ (dM P.1 M.1) (show(wr.alloc (.cells #[.int .i64 b] 3)).cell? ⟨wr.heap.size,0,none⟩=some (.int .i64 b) from Y (World.alloc_heap_new _ _) rfl) (ar Q.1 M.1);have S:=A Z.1.size;clear o;generalize J f b=z2z at *;go_wp2_with fail;with_reducible refine I.1.mono ?_
    rintro g w2 ⟨rfl,rfl⟩;go_wp2_with (refine zX rfl _ _ rfl p.heap.size (bP f k b).length _ _ rfl kq.1 wr.heap.size 1 (b:Int) rfl yV.1 lJ S.1 ?_;intro v9 w9 T o9;have H9:=A T;have O9:=A o9;clear T o9);go_roundw;case rel=>exact⟨b+1,by omega,by go_num,by rw[D.1,K.1];exact H9.1,Z.1.trans (fH kq.1 O9.1 S.1)⟩
    case measure=>simp[intOf];omega
   ·have K:Hid (bP f k (b+1)=bP f k b):=A (PX o);have D:Hid (dY f k (b+1)=dY f k b):=A (by unfold dY;rw[PX o]);have I:=A (amU _ k (J f b) _ L.1 o);clear o;generalize J f b=z2z at *;go_wp2_with fail;with_reducible refine I.1.mono ?_
    rintro g w2 ⟨rfl,rfl⟩;go_wp2_with fail;go_roundw;case rel=>exact⟨b+1,by omega,by go_num,by rw[D.1,K.1];exact P.1,Q.1⟩
    case measure=>simp[intOf];omega
  ·obtain rfl:b=f.length:=by omega
   have HIF:=A (aM.own (zs:=dY f k f.length) z (λz0 W=>by
    obtain⟨c,hi,rfl⟩:=ey.1 W;have:=(By hi).1;exact aN.mk (by omega) (by omega)) (by have:=aio f k f.length;omega))
   have HF:=A (ar du.1 q);clear z q;go_wp2_with fail;go_ret;exact⟨_,rfl,HIF.1,HF.1⟩
attribute [local go_sem] DF
structure M9(w:World)(k:Nat->Int)(b:Value)(a:Nat)(e:World):Prop where
 be:Below w w e
 bx:e.heap[w.heap.size]?=QC.mk #[(k a:Int)] 3
 bf:e.heap[w.heap.size+1]?=QC.mk #[b] 190
theorem aip{q:Nat->Int}{o:Value}{p:Nat}(k:M9 w q o a e)(y:w.heap.size<=p)(b:eM p e B):M9 w q o a B:=
 ⟨k.be.trans ((nf b).mono y),b.cells _ _ k.bx rfl,b.cells _ _ k.bf rfl⟩
theorem auO(H:FuncId)(P:Array Value)(p:Nat)(z D:Nat->Int)(q y:Value)(b:Nat->Int)(w:World)(CM:eQ prog H)
  (nK:∀R:Nat->World->Prop,(∀a e,R a e->Below w w e)->wL prog H P p (λa=>#[(z a:Int),(D a:Int)]) R)
  (S:∀a,a<p->∀e,Below w w e->Calls prog 117 #[(b a:Int),(z a:Int),(D a:Int),q,y] e λg B=>g=.returned (b (a+1):Int)/\Below e e B):
  Calls prog 115 #[.func (.func H) #[] P,(b 0:Int),.func (.func 117) #[] #[q,y]] w λg w'=>g=.returned (b p:Int)/\Below w w w':=by
 have abz:=A S;clear S;refine wu func115 rfl ?_;simp only[ntmps115,kS,dZ,je,Nat.reduceAdd,Nat.reduceSub,kU,kV,kW,kX,jf,jn];obtain⟨K,T,X,W,bX⟩:=JY w (b 0:Int) 3;obtain⟨L,N,M,Z,gS⟩:=JY K (.func (.func 117) #[] #[q,y]) 190;have h0:M9 w b (.func (.func 117) #[] #[q,y]) 0 L:=⟨ar X M,az M W,by rw[<-bX];exact Z⟩;have dh:w.heap.size<=L.heap.size:=by omega
 rw[T]at N;have kG:=A N;clear N T X M W Z bX gS;go_wp2_with (rw[<-kG.1]);refine OU (h:=H) (m:=P) (i:=p) (fi:=λa=>#[(z a:Int),(D a:Int)]) rfl CM (λ_=>rfl)
  (λa=>M9 w b (.func (.func 117) #[] #[q,y]) a) (λ_ _ _=>False) ?seq ?qH (λ_ _ _ _ k _=>k) h0
  (λa C=>(((C.setIfInBounds 10 (z a:Int)).setIfInBounds 11 (D a:Int)).setIfInBounds 7 (z a:Int)).setIfInBounds 8 (D a:Int)) ?assign ?body ?done (λ_ _ _ _ _ _ k=>k.elim)
 case seq=>exact nK _ (λa e k=>k.be)
 case qH=>exact λa e B k O=>aip k dh O
 case assign =>
  intro z2z a e z2 hK
  gi_wp2
  exact hK
 case body =>
  intro z2z a e o aq;simp only[vZ,zH,AV];have x0:e.cell? (w,0)=(b a:Int):=Y o.bx rfl;have x1:e.cell? (w.heap.size+1,0)=some (.func (.func 117) #[] #[q,y]):=Y o.bf rfl;obtain⟨I,HC⟩:=aR o (abz.1 a aq e o.be);clear o
  gi_wp2
  refine⟨trivial,rfl,Hw (CallsIn.inRound z2z ((Dz (n:=0)).2 HC.1)) ?_⟩;rintro g W3 ⟨rfl,E⟩;have Q:=az E I.1.bx;have f3:=az E I.1.bf;have gp:=A E;have y0:W3.cell? (w,0)=(b a:Int):=Y Q rfl;have z0:W3.frozen? (w,0)=false:=cB Q 0;clear E
  gi_wp2
  refine⟨(Bg gp.1).trans (KeepsOthers.setCell _ _ _),⟨?_,cK Q 0 _,?_⟩⟩
  ·exact(ar I.1.be gp.1).setCell (aP _) _
  ·exact(dJ _ _ _ _ (by simp)).trans f3
 case done =>
  intro z1 e hD o np hO;have x0:e.cell? (w,0)=(b p:Int):=Y o.bx rfl;go_wp2_with fail;refine Ik (f:=w.heap.size) (b:=(b p:Int)) ?_ ?_ _ _ ⟨⟨z1,rfl,bK dh hD,np,λ_ k=>by cases k⟩,trivial⟩ ⟨rfl,o.be⟩
  ·intro K;simp[results,results115,go_sem]
  ·rintro K L ⟨h1,h3⟩ O;exact⟨h1,h3.trans (nf O)⟩
theorem auP(H:FuncId)(P:Array Value)(p:Nat)(z D:Nat->Int)(q y:Value)(b:Nat->Int)(w:World)(CM:eQ prog H)
  (nK:∀R:Nat->World->Prop,(∀a e,R a e->Below w w e)->wL prog H P p (λa=>#[(z a:Int),(D a:Int)]) R)
  (S:∀a,a<p->∀e,Below w w e->Calls prog 118 #[(b a:Int),(z a:Int),(D a:Int),q,y] e λg B=>g=.returned (b (a+1):Int)/\Below e e B):
  Calls prog 115 #[.func (.func H) #[] P,(b 0:Int),.func (.func 118) #[] #[q,y]] w λg w'=>g=.returned (b p:Int)/\Below w w w':=by
 have abz:=A S;clear S;refine wu func115 rfl ?_;simp only[ntmps115,kS,dZ,je,Nat.reduceAdd,Nat.reduceSub,kU,kV,kW,kX,jf,jn];obtain⟨K,T,X,W,bX⟩:=JY w (b 0:Int) 3;obtain⟨L,N,M,Z,gS⟩:=JY K (.func (.func 118) #[] #[q,y]) 190;have h0:M9 w b (.func (.func 118) #[] #[q,y]) 0 L:=⟨ar X M,az M W,by rw[<-bX];exact Z⟩;have dh:w.heap.size<=L.heap.size:=by omega
 rw[T]at N;have kG:=A N;clear N T X M W Z bX gS;go_wp2_with (rw[<-kG.1]);refine OU (h:=H) (m:=P) (i:=p) (fi:=λa=>#[(z a:Int),(D a:Int)]) rfl CM (λ_=>rfl)
  (λa=>M9 w b (.func (.func 118) #[] #[q,y]) a) (λ_ _ _=>False) ?seq ?qH (λ_ _ _ _ k _=>k) h0
  (λa C=>(((C.setIfInBounds 10 (z a:Int)).setIfInBounds 11 (D a:Int)).setIfInBounds 7 (z a:Int)).setIfInBounds 8 (D a:Int)) ?assign ?body ?done (λ_ _ _ _ _ _ k=>k.elim)
 case seq=>exact nK _ (λa e k=>k.be)
 case qH=>exact λa e B k O=>aip k dh O
 case assign =>
  intro z2z a e z2 hK
  gi_wp2
  exact hK
 case body =>
  intro z2z a e o aq;simp only[vZ,zH,AV];have x0:e.cell? (w,0)=(b a:Int):=Y o.bx rfl;have x1:e.cell? (w.heap.size+1,0)=some (.func (.func 118) #[] #[q,y]):=Y o.bf rfl;obtain⟨I,HC⟩:=aR o (abz.1 a aq e o.be);clear o
  gi_wp2
  refine⟨trivial,rfl,Hw (CallsIn.inRound z2z ((Dz (n:=0)).2 HC.1)) ?_⟩;rintro g W3 ⟨rfl,E⟩;have Q:=az E I.1.bx;have f3:=az E I.1.bf;have gp:=A E;have y0:W3.cell? (w,0)=(b a:Int):=Y Q rfl;have z0:W3.frozen? (w,0)=false:=cB Q 0;clear E
  gi_wp2
  refine⟨(Bg gp.1).trans (KeepsOthers.setCell _ _ _),⟨?_,cK Q 0 _,?_⟩⟩
  ·exact(ar I.1.be gp.1).setCell (aP _) _
  ·exact(dJ _ _ _ _ (by simp)).trans f3
 case done =>
  intro z1 e hD o np hO;have x0:e.cell? (w,0)=(b p:Int):=Y o.bx rfl;go_wp2_with fail;refine Ik (f:=w.heap.size) (b:=(b p:Int)) ?_ ?_ _ _ ⟨⟨z1,rfl,bK dh hD,np,λ_ k=>by cases k⟩,trivial⟩ ⟨rfl,o.be⟩
  ·intro K;simp[results,results115,go_sem]
  ·rintro K L ⟨h1,h3⟩ O;exact⟨h1,h3.trans (nf O)⟩
structure Ri(k o:Nat)(l b:Value)(d j:V)(e:World):Prop where
 row:e.cell? (k,0)=some l
 num:e.cell? (o,0)=some b
 rs:aM e l d
 ys:aM e b j
theorem aiq(O P:Nat)(l Z:Value)(d j:V)(H:∀k,k<d.length->0<=J d k/\J d k<j.length)(y:Nat->World->Prop)(L:∀a e,y a e->Ri O P l Z d j e):
  wL prog 171 #[(O,0),(P,0)] d.length (λa=>#[(a:Int),(J j (J d a).toNat:Int)]) y:=by
 intro z2z S Jx e M _ N K;obtain⟨Q,R⟩:=aR H N;clear H N;obtain⟨aI,bE,z,I⟩:=L 0 e (M 0 e K);obtain⟨z0z,z1z,rfl,iP,lj,-,-⟩:=id z;obtain⟨a2,c2,rfl,-,-,-,-⟩:=id I;clear z I;refine FH func171 rfl trivial ?_ rfl;simp only[ntmps171,kS,dZ,je,Nat.reduceAdd,Nat.reduceSub,kU,kV,kW,kX,jf,jn]
 gi_wp2
 gi_loopw[8] (λc wr=>∃a:Nat,a<=d.length/\c=(a:Int)/\S a wr) (λc _=>d.length-(intOf c).toNat)
 case atStart=>exact⟨0,bS _,rfl,K⟩
 case round =>
  obtain⟨a,hj,rfl,o⟩:=hrel;obtain⟨q1,q2,p,q⟩:=L a wr (M a wr o);by_cases b:a<d.length
  ·obtain⟨-,z0,z1,h,c',D,x1⟩:=p.get b;simp only[dr]at D;obtain⟨rfl,-,-⟩:=D;obtain⟨g1,g2⟩:=Q.1 a b;obtain⟨-,b2,o2,n2,c2',E,x2⟩:=q.get (k:=(J d a).toNat) (by omega);simp only[dr]at E;obtain⟨rfl,-,-⟩:=E;obtain⟨fn,tmps,assign,body,hy,T⟩:=R.1 a wr o b;have i1:(a:Int)<(d.length:Int):=by omega
   clear p q;generalize J d a=z3z at *;generalize J j z3z.toNat=z2 at *
   gi_wp2
   refine⟨rfl,T.mono ?_⟩;rintro g W3 (⟨rfl,X⟩|⟨rfl,W⟩)
   ·gi_wp2
    go_roundw;case rel=>exact⟨a+1,by omega,by go_num,X⟩
    case measure=>simp[intOf];omega
   ·gi_wp2
    refine gB (xX rfl _ _ _) rfl ?_;exact⟨⟨_,rfl⟩,.inr ⟨a+1,by omega,W⟩⟩
  ·obtain rfl:a=d.length:=by omega
   clear p q
   gi_wp2
   go_end0;exact⟨⟨_,rfl⟩,.inl o⟩
theorem air:eQ prog 171:=iw func171 (by kernel_rfl) rfl
theorem auQ(l o:Value)(w:World)(p:∃b h k,l=.slice b h k)(q:∃b h k,o=.slice b h k):
  Calls prog 116 #[l,o] w λg w' =>
   g=.returned (.func (.func 171) #[] #[(w,0),(w.heap.size+1,0)])/\w'=(w.alloc (.cells #[l] 23)).alloc (.cells #[o] 23):=by
 obtain⟨b,h,k,rfl⟩:=p;obtain⟨y,D,z,rfl⟩:=q;go_enter func116,ntmps116;go_wp2;go_ret;exact⟨rfl,rfl⟩
theorem bI.get2(N:bI w i d)(y:c<d.length)(q:a<(d.getD c []).length):
  ∃b p h M k o z E,i=.slice (some ⟨b,p,none⟩) h M/\w.cell? ⟨b,p+c,none⟩=some (.slice (some ⟨k,o,none⟩) z E)/\w.cell? ⟨k,o+a,none⟩=(J (d.getD c []) a:Int)/\h=d.length/\z=(d.getD c []).length:=by
 obtain⟨R,P,rfl,-,-,K⟩:=N;obtain⟨b,p,S,rfl,I,H⟩:=K c y;have g:d.getD c []=d[c]:=by rw[kR,fw y];rfl
 rw[g]at q ⊢;obtain⟨O,Q,rfl,-,-,-,D⟩:=H;obtain⟨k,o,rfl,L⟩:=D a q;exact⟨b,p,_,_,k,o,_,_,rfl,I,by rw[di q];exact L,rfl,rfl⟩
theorem auR(q y:Nat)(cv:Value)(t:ak)(c a:Nat)(k h:Int)(w:World)(x0:w.cell? (q,0)=some cv)(xj:w.cell? (y,0)=a)
  (Q:bI w cv t) (R:c<t.length) (S:a<(t.getD c []).length) (X:El (J (t.getD c []) a)) (hc:El k) (hn:aN h):
  Calls prog 117 #[k,c,h,(q,0),(y,0)] w λg w' =>
   g=.returned (k*bm (J (t.getD c []) a) h%2147483579:Int)/\Below w w w':=by
 obtain⟨o,D,I,T,p,z,K,W,rfl,y1,y2,e1,e2⟩:=Q.get2 R S;clear Q;generalize t.getD c []=row at *;generalize hg:J row a=E at *;clear hg;have L:=A (λe=>vf E h e X hn);obtain⟨Z,H⟩:=aK (bm E h);have HM:=A (λe=>Ej k Z e hc (by rw[H];exact fJ X h));rw[<-H]at L ⊢;generalize hz:k*Z%2147483579=z4 at *;clear hz H;have i1:(c:Int)<(I:Int):=by omega
 have j1:(a:Int)<(K:Int):=by omega
 have i0:0<=(c:Int):=by omega
 have j0:0<=(a:Int):=by omega
 have M:w.drew.cell? (q,0)=some (.slice (o,D) I T):=x0;have N:w.drew.cell? (y,0)=a:=xj;have O:w.drew.cell? (o,D+c)=some (.slice (p,z) K W):=y1;have P:w.drew.cell? (p,z+a)=E:=y2;have HB:=A ((aY w.heap.size w).drew);clear x0 xj y1 y2 e1 e2 R S;go_enter func117,ntmps117;go_wp2_with fail;go_region_held3 (λw'=>w'.cell? (q,0)=some (.slice (o,D) I T)/\w'.cell? (y,0)=a/\w'.cell? (o,D+c)=some (.slice (p,z) K W)/\w'.cell? (p,z+a)=E) (first|go_keep|exact⟨M,N,O,P⟩|exact⟨z0,z1,z2,z3⟩)
  ((go_at_call 24;(with_reducible refine(L.1 _).mono ?_);rintro g w6 ⟨rfl,b⟩;have z0:=U b M;have z1:=U b N;have z2:=U b O;have z3:=U b P;have cO:=A (ar HB.1 b);clear b))
 all_goals
  go_wp2_with fail;refine(Bl _ _).mono ?_;rintro g w7 ⟨rfl,rfl⟩;go_wp2_with fail;refine(HM.1 _).mono ?_;rintro g w7 ⟨rfl,rfl⟩;go_wp2_with fail;refine(Bl _ _).mono ?_;rintro g w7 ⟨rfl,rfl⟩;go_wp2_with fail;go_ret;exact⟨rfl,cO.1⟩
theorem auS(y z:Nat)(cv:Value)(r:gu)(c a:Nat)(o h:Int)(w:World)(x0:w.cell? (y,0)=some cv)(xj:w.cell? (z,0)=a)
  (K:oq w cv r) (W:c<r.length) (L:a<(r.getD c []).length) (hc:aN o) (hn:aN h):
  Calls prog 118 #[o,c,h,(y,0),(z,0)] w λg w' =>
   g=.returned ((o+h*((r.getD c [])[a]).2%1073741789)%1073741789:Int)/\Below w w w':=by
 obtain⟨p,H,D,k1,z4z,T,y1,hS⟩:=K.get W;have e1:D=r.length:=by
  obtain⟨z0z,cap,N,-⟩:=K;rw[T]at N;simp only[dr]at N;exact N.2.1
 subst T;clear K;generalize r.getD c []=k at *;obtain⟨a2,k2,rfl,-,-,Z,X⟩:=hS;obtain⟨q,E,rfl,-,y2⟩:=X a L;have hg:aN k[a].2:=(Z _ (bM L)).2;generalize k[a].2=I at *;clear X Z;have O:=A (λe=>A9 h I e hn hg);obtain⟨z4,M⟩:=aK (h*I%1073741789);have HA:=A (λe=>yr o z4 e hc (by rw[M];exact Tc _));rw[<-M]at O ⊢;generalize hz:(o+z4)%1073741789=z5 at *;clear hz M;have i1:(c:Int)<(D:Int):=by omega
 have j1:(a:Int)<(k.length:Int):=by omega
 have i0:0<=(c:Int):=by omega
 have j0:0<=(a:Int):=by omega
 have P:w.drew.cell? (y,0)=some (.slice (p,H) D k1):=x0;have Q:w.drew.cell? (z,0)=a:=xj;have R:w.drew.cell? (p,H+c)=some (.slice (q,E) k.length k2):=y1;have S:w.drew.cell? (q,E+a*2+1)=I:=y2;have HB:=A ((aY w.heap.size w).drew);clear x0 xj y1 y2 e1 W L;go_enter func118,ntmps118;go_wp2_with fail;go_region_held3 (λw'=>w'.cell? (y,0)=some (.slice (p,H) D k1)/\w'.cell? (z,0)=a/\w'.cell? (p,H+c)=some (.slice (q,E) k.length k2)/\w'.cell? (q,E+a*2+1)=I) (first|go_keep|exact⟨P,Q,R,S⟩|exact⟨z0,z1,z2,z3⟩)
  (first
   |(go_at_call 20;(with_reducible refine(O.1 _).mono ?_);rintro g w6 ⟨rfl,rfl⟩)
   |(go_at_call 19;(with_reducible refine(HA.1 _).mono ?_);rintro g w6 ⟨rfl,b⟩;have z0:=U b P;have z1:=U b Q;have z2:=U b R;have z3:=U b S;have cO:=A (ar HB.1 b);clear b))
 all_goals
  go_wp2_with fail;go_ret;exact⟨rfl,cO.1⟩
def tS(b:bF)(a:Nat):Int×Int:=b.getD a (0,0)
theorem J1{b:bF}(k:a<b.length):tS b a=b[a]:=by
 unfold tS;rw[kR,fw k];rfl
def AG(j s:V)(c:Nat):Int:=J j (J s c).toNat
def zi(t:ak)(s j:V)(a:Nat):Nat->Int
 |0=>1
 |c+1=>zi t s j a c*bm (J (t.getD c []) a) (AG j s c)%2147483579
def AH(r:gu)(s j:V)(a:Nat):Nat->Int
 |0=>0
 |c+1=>(AH r s j a c+AG j s c*(tS (r.getD c []) a).2%1073741789)%1073741789
def BX(t:ak)(s j:V)(h:Nat):V:=(List.range h).map λa=>zi t s j a s.length
def Di(r:gu)(s j:V)(a:Nat):Int×Int:=((tS (r.getD 0 []) a).1,AH r s j a s.length)
def BY(r:gu)(s j:V):bF:=(List.range (r.getD 0 []).length).map (Di r s j)
theorem ais(r:gu)(s j:V):(BY r s j).length=(r.getD 0 []).length:=by unfold BY;simp
theorem auT(t:ak)(s j:V)(h:Nat):(BX t s j h).length=h:=by unfold BX;simp
def xF(d:ak)(f m:V)(n:ak)(s:V)(t:ak)(r:gu)(c:Nat):Bool:=
 (BW d f m n (J s c) (t.getD c [])&&decide (gH (r.getD 0 [])=gH (r.getD c [])))&&kM n (t.getD c []) (r.getD c [])
def Dj(d:ak)(f m:V)(n:ak)(s:V)(t:ak)(r:gu)(h:Nat):Bool:=
 (List.range h).all (xF d f m n s t r)
theorem VP{m:V}(k:c<h)(b:xF d f m n s t r c=false):Dj d f m n s t r h=false:=by
 cases g:Dj d f m n s t r h with
 |false=>rfl
 |true=>unfold Dj at g;rw[fg]at g;rw[g c (dT.2 k)]at b;cases b
theorem ait{m:V}(k:∀c,c<h->xF d f m n s t r c=true):Dj d f m n s t r h=true:=by
 unfold Dj;rw[fg];exact λc b=>k c (dT.1 b)
def Fg(d:ak)(f:V)(b:Int)(m:V)(n:ak)(o k s:V)(t:ak)(r:gu):Int:=
 if ox d f b m n o≠0 then ox d f b m n o else if 64<=b then 2
 else if ¬ (eU (-1) k=true/\s=dY f k f.length) then 1
 else if ¬ (kK d f k=true/\t.length=s.length/\r.length=s.length) then 340
 else if Dj d f m n s t r s.length=true then 0 else 340
theorem auU{k:Nat}(o:∀c,J j c=0):∀h,y7 j d k h=0:=by
 intro h
 induction h with
 |zero=>rfl
 |succ h b=>unfold y7;rw[b,o h];simp
theorem abA{b:V}(E:bH d f=0)(H:kK d f b=true):dY f b f.length≠[]:=by
 intro g;have p:=fs E;have o:=QM p H;have D:bP f b d.length=[]:=by
  unfold dY at g;rw[K3]at g;rwa [<-p.len]at g
 have z:∀c,J (bQ d f b) c=0:=λc=>by
  by_cases q:c<d.length
  ·by_cases k:J (bQ d f b) c=0
   ·exact k
   ·have y:c∈bP f b d.length:=atf.2 ⟨q,o.own c q k⟩;rw[D]at y;cases y
  ·exact TH (by rw[o.len];exact q)
 have k:=o.sum 0 p.cols;rw[auU z,aD rfl]at k;exact absurd k (by decide)
structure Dk(u:World)(g:Int)(l v F:Value)(h:Nat)(x:V)(e:World):Prop where
 b:Below u u e
 q:e.heap[u.heap.size]?=QC.mk #[g,l,v,F] 33
 o:e.ownsRow (u.heap.size+1) 3 1 F h (x.map (Value.int .i64))
structure J2(u:World)(g:Int)(l v F:Value)(h:Nat)(x:V)(G:Value)(e:World):Prop where
 sl:∃p k,G=.slice (some ⟨p,0,none⟩) h k
 b:Below u u e
 q:e.heap[u.heap.size]?=QC.mk #[g,l,v,F] 33
 o:e.ownsRow (u.heap.size+1) 3 1 G h (x.map (Value.int .i64))
theorem Dk.below(k:Dk u g l v F h x e)(b:Below e e B):Dk u g l v F h x B:=
 ⟨ar k.b b,az b k.q,dM k.o b⟩
theorem J2.below(b:J2 u g l v F h x G e)(k:Below e e B):J2 u g l v F h x G B:=
 ⟨b.sl,ar b.b k,az k b.q,dM b.o k⟩
theorem Dk.app{z:Int}{p o:Nat}(b:Dk u g l v F h x e)(y:B.ownsRow (u.heap.size+1) 3 1 (.slice (some ⟨p,0,none⟩) (h+1) o) (h+1) (x.map (Value.int .i64)++[.int .i64 z]))(q:e.grownBy B F.ownBlock):J2 u g l v F (h+1) (x++[z]) (.slice (some ⟨p,0,none⟩) (h+1) o) B:=by
 have D:=bG b.q;have k:Below (u.heap.size+1) e B:=fH b.o q (by omega);exact⟨⟨_,_,rfl⟩,b.b.trans (k.mono (eP _)),(k.block _ (pO _)).trans b.q,by rw[gJ];exact y⟩
theorem J2.store(b:J2 u g l v F h x G e):Dk u g l v G h x (e.setCell (u,3) G):=
 ⟨b.b.setCell (aP _) _,cK b.q 3 _,K2 b.o (a:=(u,3)) (λk=>by have:=pP b.o _ k;simp only at this;omega) _⟩
def GZ(z:Int)(i:Value)(w:World):Prop:=∃b,i=.slice (some ⟨b,0,none⟩) 1 1/\w.cell? ⟨b,0,none⟩=some (.int .i64 z)
theorem GZ.below{z:Int}(q:GZ z i w)(p:Below w w w'):GZ z i w':=by
 obtain⟨b,k,o⟩:=q;exact⟨b,k,U p o⟩
theorem GZ.new(z:Int)(w:World)(b:TypeId):GZ z (.slice (w,0) 1 1) (w.alloc (.cells #[z] b)):=
 ⟨_,rfl,by rw[wg _ _ _ _ rfl];rfl⟩
theorem auV{o:Oper}{p:Act}{y:Act->World->Prop}{I:Exit->Act->World->Prop}(K:o.guard=none)(E H:Operand)(S:o.op=.call {callee:=.builtin .append,args:=#[E,H],argTypes:=#[23,23]})
  (b h:Nat) (i:Value) (x:List Value) (T:p.eval E=i) (N:e.ownsRow b 3 1 i h x) (L:Value) (z:Int) (W:p.eval H=L) (R:GZ z L e) (hn:h<=1000000) (P:b<=e.heap.size)
  (X:∀q k w',w'.ownsRow b 3 1 (.slice (some ⟨q,0,none⟩) (h+1) k) (h+1) (x++[.int .i64 z])->e.grownBy w' i.ownBlock->y (p.put o.dst (.slice (some ⟨q,0,none⟩) (h+1) k)) w'):Oper.wp prog o p e y I:=by
 obtain⟨M,rfl,O⟩:=R;have D:=TY (s:=#[]) (F:=True) (y:=y) (Q:=I) K E H S b h i x T N M 1 z W O hn P e.heap.size rfl (λq k w' D Q _ _=>X q k w' D Q);rwa [aD (by unfold Region.wanted;rw[K])]at D
def G0(l o:Value)(d j:V)(i:Value)(w:World):Prop:=∃b k,i=.func (.func 171) #[] #[.pointer (some ⟨b,0,none⟩),.pointer (some ⟨k,0,none⟩)]/\Ri b k l o d j w
theorem Ri.below{o p:Nat}{q:Value}{d:V}(k:Ri o p l q d j w)(b:Below w w w'):Ri o p l q d j w':=
 ⟨U b k.row,U b k.num,k.rs.below b,k.ys.below b⟩
theorem G0.below{b:Value}{d:V}(z:G0 l b d j i w)(y:Below w w w'):G0 l b d j i w':=by
 obtain⟨k,o,p,q⟩:=z;exact⟨k,o,p,q.below y⟩
theorem aiu(l b:Value)(d j:V)(w:World)(p:aM w l d)(q:aM w b j):
  Calls prog 116 #[l,b] w λg w'=>∃i,g=.returned i/\G0 l b d j i w'/\Below w w w':=by
 obtain⟨K,M,z,-⟩:=id p;obtain⟨L,N,D,-⟩:=id q;refine(auQ l b w ⟨_,_,_,z⟩ ⟨_,_,_,D⟩).mono ?_;rintro g w' ⟨rfl,rfl⟩;have y:=bk w #[l] 23;have o:=bk (w.alloc (.cells #[l] 23)) #[b] 23;have E:(w.alloc (.cells #[l] 23)).heap.size=w.heap.size+1:=by simp
 have k:=ar y o;have H:(w.alloc (.cells #[l] 23)).heap[w.heap.size]?=QC.mk #[l] 23:=World.alloc_heap_new _ _;have I:((w.alloc (.cells #[l] 23)).alloc (.cells #[b] 23)).heap[w.heap.size+1]?=QC.mk #[b] 23:=by rw[<-E];exact World.alloc_heap_new _ _
 exact⟨_,rfl,⟨_,_,rfl,Y (az o H) rfl,Y I rfl,p.below k,q.below k⟩,k⟩
theorem aiv(k:∀c,c<s.length->El (J (t.getD c []) a)):∀c,c<=s.length->El (zi t s j a c):=by
 intro c
 induction c with
 |zero=>intro _;exact LG
 |succ c b=>intro o;unfold zi;exact Eh (b (by omega)) (fJ (k c (by omega)) _)
theorem abB(c:Nat):0<=AH r s j a c/\AH r s j a c<1073741789:=by
 cases c<;>unfold AH<;>omega
theorem auW(p y:Nat)(l z cv:Value)(d j:V)(t:ak)(a:Nat)(i:Value)(w:World)(N:G0 l z d j i w)(P:w.cell? (p,0)=some cv)(Q:w.cell? (y,0)=a)
  (K:bI w cv t) (S:t.length=d.length) (I:∀k,k<d.length->0<=J d k/\J d k<j.length) (o:∀c,c<d.length->a<(t.getD c []).length/\El (J (t.getD c []) a)) (O:∀c,aN (J j c)):
  Calls prog 115 #[i,(1:Int),.func (.func 117) #[] #[(p,0),(y,0)]] w λg w'=>g=.returned (zi t d j a d.length:Int)/\Below w w w':=by
 obtain⟨E,H,rfl,M⟩:=N;refine auO 171 _ d.length (λc=>(c:Int)) (λc=>J j (J d c).toNat) _ _ (zi t d j a) w air ?_ ?_
 ·intro D L;exact aiq E H l z d j I D (λc e R=>M.below (L c e R))
 ·intro c b e q;exact auR p y cv t c a _ _ e (U q P) (U q Q) (K.below q) (by omega) (o c b).1 (o c b).2 (aiv (λc b=>(o c b).2) c (gQ b)) (O _)
theorem auX(o q:Nat)(l D cv:Value)(d j:V)(r:gu)(a:Nat)(i:Value)(w:World)(O:G0 l D d j i w)(Q:w.cell? (o,0)=some cv)(R:w.cell? (q,0)=a)
  (L:oq w cv r) (S:r.length=d.length) (K:∀k,k<d.length->0<=J d k/\J d k<j.length) (y:∀c,c<d.length->a<(r.getD c []).length) (P:∀c,aN (J j c)):
  Calls prog 115 #[i,(0:Int),.func (.func 118) #[] #[(o,0),(q,0)]] w λg w'=>g=.returned (AH r d j a d.length:Int)/\Below w w w':=by
 obtain⟨H,I,rfl,N⟩:=O;refine auP 171 _ d.length (λc=>(c:Int)) (λc=>J j (J d c).toNat) _ _ (AH r d j a) w air ?_ ?_
 ·intro E M;exact aiq H I l D d j K E (λc e b=>N.below (M c e b))
 ·intro c z e p;have b:=auS o q cv r c a (AH r d j a c) (J j (J d c).toNat) e (U p Q) (U p R) (L.below p) (by omega) (y c z) (dK (abB c)) (P _);rw[<-J1 (y c z)]at b;exact b
theorem auY(k:∀z∈j,0<=z/\z<1073741789)(c:Nat):aN (J j c):=by
 by_cases b:c<j.length
 ·rw[di b];exact dK (k _ (bM b))
 ·rw[TH b];exact dK ⟨Int.le_refl _,by decide⟩
theorem aiw{b:V}(k:fQ n b=true)(q:a<bh n):a<b.length/\El (J b a):=by
 unfold fQ at k;rw[cu,fU,FL]at k;refine⟨by omega,?_⟩;have p:a<b.length:=by omega
 have o:=FK.1 k.1 _ (bM p);rw[di p];exact oU.1 (by unfold j8 at o;simpa using o)
theorem aix{b:V}{k:Nat}(o:k<(dY f b h).length):0<=J (dY f b h) k/\J (dY f b h) k<h:=by
 rw[di o];obtain⟨c,q,p⟩:=ey.1 (bM o);have:=(By q).1;rw[<-p];omega
theorem VQ{m:V}(k:xF d f m n s t r c=true):
  fQ n (t.getD c [])=true/\(r.getD c []).length=(r.getD 0 []).length/\kM n (t.getD c []) (r.getD c [])=true:=by
 unfold xF at k;rw[cu,cu,fU]at k;obtain⟨⟨b,p⟩,q⟩:=k;unfold BW at b;rw[cu,cu]at b;refine⟨b.2.1,?_,q⟩;have o:=congrArg List.length p;unfold gH at o;simpa using o.symm
theorem auZ(p:∀c a,c<s.length->a<h->El (J (t.getD c []) a)):∀z∈BX t s j h,aN z:=λz b=>by
 unfold BX at b;obtain⟨a,o,rfl⟩:=ey.1 b;have q:=(aiv (j:=j) (λc k=>p c a k (dT.1 o)) s.length (aP _)).num;unfold aN;omega
theorem au0(o:∀p∈r.getD 0 [],aN p.1/\aN p.2):∀p∈BY r s j,aN p.1/\aN p.2:=λp b=>by
 unfold BY at b;obtain⟨a,k,rfl⟩:=ey.1 b;unfold Di;rw[J1 (dT.1 k)];exact⟨(o _ (bM _)).1,dK (abB _)⟩
