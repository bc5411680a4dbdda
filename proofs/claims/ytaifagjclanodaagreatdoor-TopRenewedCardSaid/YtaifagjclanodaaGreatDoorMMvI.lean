/- Package moving: Move. -/
import Derived.Test.YtaifagjclanodaaGreatDoorMMvC
set_option maxHeartbeats 8000000
set_option maxRecDepth 100000
namespace Go.Proofs.YtaifagjclanodaaGreatDoor
open Go.Proofs.Tryz
open Go.RowKit FP
variable{c:Int}{d:World}{a:ak}
structure Ke(f:Nat)(d:World)(c:Int)(l k cv g h j i v t:Value)(a:ak)(o q:V)(m:ak)(p u s:V)(n:ak)(r:gu)(e:World):Prop where
 b:Below f d e
 q1:e.heap[f]?=QC.mk #[c,l,k,cv] 33
 q2:e.heap[f+1]?=QC.mk #[g,h] 25
 q3:e.heap[f+1+1]?=QC.mk #[j] 22
 q4:e.heap[f+1+1+1]?=QC.mk #[i] 104
 qk:e.heap[f+1+1+1+1]?=QC.mk #[(0:Int),(),(),()] 33
 qe:e.heap[f+1+1+1+1+1]?=QC.mk #[(0:Int)] 29
 hR:bI e l a
 hO:aM e k o
 hC:aM e cv q
 hR2:bI e g m
 hO2:aM e h p
 hCS:bI e j n
 hLS:oq e i r
 hWH:aM e v u
 hRW:aM e t s
theorem Ke.below{g:Nat}{t s cv n o r q x v:Value}{k m:V}{i:ak}{l w u:V}{j:ak}{p:gu}{f h:World}(b:Ke g d c t s cv n o r q x v a k m i l w u j p f)(y:g<=f.heap.size)(e:Below f f h):Ke g d c t s cv n o r q x v a k m i l w u j p h:=
 ⟨b.b.trans (e.mono y),az e b.q1,az e b.q2,az e b.q3,az e b.q4,az e b.qk,az e b.qe,
  b.hR.below e,b.hO.below e,b.hC.below e,b.hR2.below e,b.hO2.below e,b.hCS.below e,b.hLS.below e,b.hWH.below e,b.hRW.below e⟩
theorem Ke.later{e:Nat}{s r cv l m q p w u:Value}{i k:V}{g:ak}{j v t:V}{h:ak}{o:gu}{b f:World}(n:Ke e d c s r cv l m q p w u a i k g j v t h o b)(x:Below b b f):Ke e d c s r cv l m q p w u a i k g j v t h o f:=
 n.below (by have:=bG n.q1;omega) x
theorem bI.getRow{g:World}{i:Value}(j:bI g i a){k:Nat}(h:k<a.length):∃b e o p f,i=.slice (some ⟨b,e,none⟩) o p/\g.cell? ⟨b,e+k,none⟩=some f/\aM g f (a.getD k []):=by
 obtain⟨r,q,rfl,-,-,l⟩:=j;obtain⟨b,e,f,rfl,m,n⟩:=l k h;exact⟨b,e,_,_,f,rfl,m,by rw[kR,fw h];exact n⟩
def awD(c:Int)(o p:Value)(l:V)(m:bF)(e:Int)(k:World)(n:Ending)(j:World):Prop:=
 ∃b f g i h,n=.returned (.tuple #[.agg #[.int .i64 b,f,g,i],h,.int .i64 e]) /\
  (e=0->b=c+1/\f=o/\g=p/\RI j i l/\RS j h m) /\
  (e≠0->b=0/\f=.slice none 0 0/\g=.slice none 0 0/\i=.slice none 0 0/\h=.slice none 0 0)/\Below k.heap.size k j
structure awE(d:World)(o s r j t u w p:Value)(v:Int)(k m q i l:Nat)(g h:Bool)(e:Nat->Bool)(f:Nat->Value)(x:World):Prop where
 b:Below d d x
 f0:KQ e f 0 o
 f1:KQ e f 1 s
 f2:KQ e f 2 v
 f3:KQ e f 3 r
 f4:KQ e f 4 k
 f5:KQ e f 5 (m,q+k)
 f6:KQ e f 6 t
 f7:KQ e f 7 g
 f8:KQ e f 8 g
 f9:e 9=true->g=true->f 9=j
 f10:e 10=true->g=true->f 10=(i,l)
 f11:e 11=true->g=true->f 11=w
 f12:e 12=true->g=true->f 12=j
 f13:e 13=true->g=true->f 13=k
 f14:e 14=true->g=true->f 14=(i,l+k)
 f15:e 15=true->g=true->f 15=u
 f16:e 16=true->g=true->f 16=p
 f17:e 17=true->g=true->f 17=.bool h
 f18:KQ e f 18 (.bool (g&&h))
 n:e 19=true->(g&&h)=true
structure awF(d:World)(m l o:Value)(n q h:Int)(k i j:Nat)(g:Bool)(e:Nat->Bool)(f:Nat->Value)(p:World):Prop where
 b:Below d d p
 f0:KQ e f 0 m
 f1:KQ e f 1 l
 f2:KQ e f 2 k
 f3:KQ e f 3 (i,j+k)
 f4:KQ e f 4 o
 f5:KQ e f 5 (.agg #[n,q])
 f6:KQ e f 6 (.tuple #[.bool g,h])
 f7:KQ e f 7 (.tuple #[.bool g,h])
 f8:KQ e f 8 g
 f9:KQ e f 9 h
 f10:KQ e f 10 g
 f11:KQ e f 11 h
structure awG(h d:World)(j:Int)(m l i n p:Value)(k s r:Nat)(t u o:V)(z:Int)(e:Nat->Bool)(f:Nat->Value)(g:World):Prop where
 b:e 8=false->Below d d g
 f0:KQ e f 0 (h,3)
 f1:KQ e f 1 i
 f2:KQ e f 2 n
 f3:KQ e f 3 p
 f4:e 4=true->e 6=false->G0 n p t u (f 4) g
 f5:KQ e f 5 (.func (.func 117) #[] #[(r,0),(s,0)])
 f6:KQ e f 6 z
 f7:e 7=true->e 8=false->GZ z (f 7) g
 f8:e 8=true->e 10=false->J2 h j m l i (k+1) (o++[z]) (f 8) g
 f9:KQ e f 9 (h,3)
 z:e 10=true->∃q,Dk h j m l q (k+1) (o++[z]) g
theorem awH(c:Int)(rv ov cv ef eh oF lv wv sL:Value)(a:ak)(h y:V)(l:ak)(w p i:V)(t:ak)(q:gu)(o:World)(hR:bI o rv a)(hO:aM o ov h)(hC:aM o cv y)(hR2:bI o ef l)(hO2:aM o eh w)(hCS:bI o oF t)(hLS:oq o lv q)(hWH:aM o wv p)(hRW:aM o sL i)(iZ:Fg a h c y l w p i t q=0):
  Calls prog 40 #[.agg #[c,rv,ov,cv],.agg #[ef,eh],wv,sL,oF,lv] o (awD c ef eh (BX t i (bQ a h p) (bh l)) (BY q i (bQ a h p)) (Fg a h c y l w p i t q) o):=by
 obtain⟨W0,dx,bO,cF,fl⟩:∃s,s=o.alloc (.cells #[c,rv,ov,cv] 33)/\Below o o s/\s.heap[o.heap.size]?=QC.mk #[c,rv,ov,cv] 33/\s.heap.size=o.heap.size+1:=⟨_,rfl,bk _ _ _,World.alloc_heap_new _ _,by simp⟩;obtain⟨v,aE,au,aI,bX⟩:∃s,s=W0.alloc (.cells #[ef,eh] 25)/\Below W0 W0 s/\s.heap[W0.heap.size]?=QC.mk #[ef,eh] 25/\s.heap.size=W0.heap.size+1:=⟨_,rfl,bk _ _ _,World.alloc_heap_new _ _,by simp⟩;obtain⟨W2,cG,an,bE,gS⟩:∃s,s=v.alloc (.cells #[oF] 22)/\Below v v s/\s.heap[v.heap.size]?=QC.mk #[oF] 22/\s.heap.size=v.heap.size+1:=⟨_,rfl,bk _ _ _,World.alloc_heap_new _ _,by simp⟩;obtain⟨W3,dV,aJ,dX,uE⟩:∃s,s=W2.alloc (.cells #[lv] 104)/\Below W2 W2 s/\s.heap[W2.heap.size]?=QC.mk #[lv] 104/\s.heap.size=W2.heap.size+1:=⟨_,rfl,bk _ _ _,World.alloc_heap_new _ _,by simp⟩;obtain⟨W4,lD,aU,gE,Ad⟩:∃s,s=W3.alloc (.cells #[(0:Int),(),(),()] 33)/\Below W3 W3 s/\s.heap[W3.heap.size]?=QC.mk #[(0:Int),(),(),()] 33/\s.heap.size=W3.heap.size+1:=⟨_,rfl,bk _ _ _,World.alloc_heap_new _ _,by simp⟩;obtain⟨W5,dk,aG,gD,rQ⟩:∃s,s=W4.alloc (.cells #[(0:Int)] 29)/\Below W4 W4 s/\s.heap[W4.heap.size]?=QC.mk #[(0:Int)] 29/\s.heap.size=W4.heap.size+1:=⟨_,rfl,bk _ _ _,World.alloc_heap_new _ _,by simp⟩;have t45:Below W4 W4 W5:=aG;have t35:Below W3 W3 W5:=ar aU t45;have t25:Below W2 W2 W5:=ar aJ t35;have t15:Below v v W5:=ar an t25;have t05:Below W0 W0 W5:=ar au t15;have u:Below o o W5:=ar bO t05;have e0:W0.heap.size=o.heap.size+1:=fl;have B:v.heap.size=o.heap.size+1+1:=by omega
 have e2:W2.heap.size=o.heap.size+1+1+1:=by omega
 have e3:W3.heap.size=o.heap.size+1+1+1+1:=by omega
 have e4:W4.heap.size=o.heap.size+1+1+1+1+1:=by omega
 rw[e0]at aI;rw[B]at bE;rw[e2]at dX;rw[e3]at gE;rw[e4]at gD;have g:Hid (Ke o.heap.size o c rv ov cv ef eh oF lv wv sL a h y l w p i t q W5):=A ⟨u,az t05 cF,az t15 aI,az t25 bE,az t35 dX,az t45 gE,gD,hR.below u,hO.below u,hC.below u,hR2.below u,hO2.below u,hCS.below u,hLS.below u,hWH.below u,hRW.below u⟩;obtain⟨a1,M,rfl,-,eI,-⟩:=id hR;obtain⟨a2,k2,rfl,-,dR,-⟩:=id hO;obtain⟨a3,k3,rfl,-,gC,-⟩:=id hC;obtain⟨F,H,rfl,-,fj,-⟩:=id hR2;obtain⟨G,I,rfl,-,xt,-⟩:=id hO2;obtain⟨a6,k6,rfl,-,JM,-⟩:=id hCS;obtain⟨a7,k7,rfl,-,Ha,-⟩:=id hLS;obtain⟨a8,k8,rfl,-,Ao,-⟩:=id hWH;obtain⟨a9,k9,rfl,-,Uw,-⟩:=id hRW;rw[lD,dV,cG,aE,dx]at dk;have HW:=A dk;clear hR hO hC hR2 hO2 hCS hLS hWH hRW u bO au an aJ aU aG t05 t15 t25 t35 t45 cF aI bE dX gE gD dx aE cG dV lD dk fl bX gS uE Ad rQ e0 B e2 e3 e4;obtain⟨c0,c1,c2,c3⟩:=fh g.1.q1;obtain⟨Z,d1⟩:=ez g.1.q2;have x3:=Y g.1.q3 (k:=0) (d:=.slice a6 t.length k6) rfl;have X:=Y g.1.q4 (k:=0) (d:=.slice a7 q.length k7) rfl;obtain⟨S,mW⟩:=aK (Fg a h c y l w p i t q);have ot:=A (mW.trans iZ);clear iZ;rw[<-mW];have J0:=A mW;clear mW;have VN:=A (λww m r h3 h4 h5=>ahU c (.slice a1 a.length M) (.slice a2 h.length k2) (.slice a3 y.length k3) (.slice F l.length H) (.slice G w.length I) a h y l w ww m r h3 h4 h5);by_cases tq:ox a h c y l w=0;rotate_left
 ·have E:Hid (S=ox a h c y l w):=A (by rw[J0.1];unfold Fg;rw[aD tq]);exact absurd (E.1.symm.trans ot.1) tq
 have VO:=A tq;have CE:Hid (S=if 64<=c then 2 else (if ¬ (eU (-1) p=true/\i=dY h p h.length) then 1 else (if ¬ (kK a h p=true/\t.length=i.length/\q.length=i.length) then 340 else (if Dj a h y l i t q i.length=true then 0 else 340)))):=A (by rw[J0.1];unfold Fg;rw[aA (by simp[tq])]);clear tq;obtain⟨Dg,Ro,nH⟩:=auK VO.1;obtain⟨HKY,Wa,nG,eT⟩:=cY (ahO Ro) Dg nH (fs Dg);clear Dg nH Ro J0;go_enter_defers func40,ntmps40;go_wp2_with (rw[<-HW.1]);with_reducible refine(uU (VN.1 _ g.1.hR g.1.hO g.1.hC g.1.hR2 g.1.hO2) (abl VO.1)).mono ?_
 rintro x w4 ⟨rfl,aU⟩;replace g:=A (g.1.later aU);replace c0:=Y g.1.q1 (k:=0) (d:=c) rfl;replace c1:=Y g.1.q1 (k:=1) (d:=.slice a1 a.length M) rfl;replace c2:=Y g.1.q1 (k:=2) (d:=.slice a2 h.length k2) rfl;replace c3:=Y g.1.q1 (k:=3) (d:=.slice a3 y.length k3) rfl;replace Z:=Y g.1.q2 (k:=0) (d:=.slice F l.length H) rfl;replace d1:=Y g.1.q2 (k:=1) (d:=.slice G w.length I) rfl;replace x3:=Y g.1.q3 (k:=0) (d:=.slice a6 t.length k6) rfl;replace X:=Y g.1.q4 (k:=0) (d:=.slice a7 q.length k7) rfl;clear aU;by_cases LO:c<64;rotate_left
 ·have E:Hid (S=2):=A (CE.1.trans (aD (by omega)));exact absurd (ot.1.symm.trans E.1) (by decide)
 have Ak:Hid (S=(if ¬ (eU (-1) p=true/\i=dY h p h.length) then 1 else (if ¬ (kK a h p=true/\t.length=i.length/\q.length=i.length) then 340 else (if Dj a h y l i t q i.length=true then 0 else 340)))):=A (CE.1.trans (aA (by simp[LO])));have hd:decide (c<64)=true:=bB LO;clear LO CE;go_wp2_with fail;with_reducible refine(Bl 2 _).mono ?_
 rintro x w5 ⟨rfl,rfl⟩;clear hd;have hol:h.length<=1000:=by have m:=eT.1.few;have r:=eT.1.len;omega
 cases mw:eU (-1) p with
 |false =>
  have E:Hid (S=1):=A (Ak.1.trans (aD (by rw[mw];simp)));exact absurd (ot.1.symm.trans E.1) (by decide)
 |true =>
 go_wp2_with fail;with_reducible refine(uU (auM _ p _ g.1.hWH) (show _=Ending.returned true by rw[mw])).mono ?_
 rintro x w5 ⟨rfl,aG⟩;replace g:=A (g.1.later aG);replace c0:=Y g.1.q1 (k:=0) (d:=c) rfl;replace c1:=Y g.1.q1 (k:=1) (d:=.slice a1 a.length M) rfl;replace c2:=Y g.1.q1 (k:=2) (d:=.slice a2 h.length k2) rfl;replace c3:=Y g.1.q1 (k:=3) (d:=.slice a3 y.length k3) rfl;replace Z:=Y g.1.q2 (k:=0) (d:=.slice F l.length H) rfl;replace d1:=Y g.1.q2 (k:=1) (d:=.slice G w.length I) rfl;replace x3:=Y g.1.q3 (k:=0) (d:=.slice a6 t.length k6) rfl;replace X:=Y g.1.q4 (k:=0) (d:=.slice a7 q.length k7) rfl;clear aG;go_wp2_with fail;with_reducible refine(auN _ _ _ h p _ ⟨_,_,_,rfl⟩ g.1.hO g.1.hWH hol).mono ?_
 rintro x w6 ⟨vo,rfl,hvo,aF⟩;have HVO:=A hvo;clear hvo;replace g:=A (g.1.later aF);replace c0:=Y g.1.q1 (k:=0) (d:=c) rfl;replace c1:=Y g.1.q1 (k:=1) (d:=.slice a1 a.length M) rfl;replace c2:=Y g.1.q1 (k:=2) (d:=.slice a2 h.length k2) rfl;replace c3:=Y g.1.q1 (k:=3) (d:=.slice a3 y.length k3) rfl;replace Z:=Y g.1.q2 (k:=0) (d:=.slice F l.length H) rfl;replace d1:=Y g.1.q2 (k:=1) (d:=.slice G w.length I) rfl;replace x3:=Y g.1.q3 (k:=0) (d:=.slice a6 t.length k6) rfl;replace X:=Y g.1.q4 (k:=0) (d:=.slice a7 q.length k7) rfl;clear aF;go_wp2_with fail;with_reducible refine(ate _ _ i (dY h p h.length) _ g.1.hRW HVO.1).mono ?_
 rintro x w7 ⟨rfl,bz⟩;replace g:=A (g.1.later bz);replace c0:=Y g.1.q1 (k:=0) (d:=c) rfl;replace c1:=Y g.1.q1 (k:=1) (d:=.slice a1 a.length M) rfl;replace c2:=Y g.1.q1 (k:=2) (d:=.slice a2 h.length k2) rfl;replace c3:=Y g.1.q1 (k:=3) (d:=.slice a3 y.length k3) rfl;replace Z:=Y g.1.q2 (k:=0) (d:=.slice F l.length H) rfl;replace d1:=Y g.1.q2 (k:=1) (d:=.slice G w.length I) rfl;replace x3:=Y g.1.q3 (k:=0) (d:=.slice a6 t.length k6) rfl;replace X:=Y g.1.q4 (k:=0) (d:=.slice a7 q.length k7) rfl;clear bz;clear HVO hol;by_cases RP:i=dY h p h.length;rotate_left
 ·have E:Hid (S=1):=A (Ak.1.trans (aD (by simp[RP])));exact absurd (ot.1.symm.trans E.1) (by decide)
 have Hc:Hid (S=(if ¬ (kK a h p=true/\t.length=i.length/\q.length=i.length) then 340 else (if Dj a h y l i t q i.length=true then 0 else 340))):=A (Ak.1.trans (aA (by simp[mw,RP])));have LZ:=A RP;rw[bB RP];clear Ak RP;go_wp2_with fail;with_reducible refine(Bl 1 _).mono ?_
 rintro x w8 ⟨rfl,rfl⟩;have BZ:mu a h p=0:=by unfold mu;rw[aA (by simp[Wa.1]),mw];rfl
 have HQE:=A BZ;clear BZ mw;go_wp2_with fail;with_reducible refine(ag5 _ _ _ a h p _ g.1.hR g.1.hO g.1.hWH).mono ?_
 rintro x w9 ⟨yv,rfl,GR,bA⟩;have HY:=A GR;obtain⟨ay,ky,rfl,-,hly,-⟩:=id GR;clear GR;replace g:=A (g.1.later bA);replace c0:=Y g.1.q1 (k:=0) (d:=c) rfl;replace c1:=Y g.1.q1 (k:=1) (d:=.slice a1 a.length M) rfl;replace c2:=Y g.1.q1 (k:=2) (d:=.slice a2 h.length k2) rfl;replace c3:=Y g.1.q1 (k:=3) (d:=.slice a3 y.length k3) rfl;replace Z:=Y g.1.q2 (k:=0) (d:=.slice F l.length H) rfl;replace d1:=Y g.1.q2 (k:=1) (d:=.slice G w.length I) rfl;replace x3:=Y g.1.q3 (k:=0) (d:=.slice a6 t.length k6) rfl;replace X:=Y g.1.q4 (k:=0) (d:=.slice a7 q.length k7) rfl;clear bA;rw[HQE.1];cases bU:kK a h p with
 |false =>
  have E:Hid (S=340):=A (Hc.1.trans (aD (by rw[bU];simp)));exact absurd (ot.1.symm.trans E.1) (by decide)
 |true =>
 by_cases eI:t.length=i.length;rotate_left
 ·have rK:((t.length:Int)==(i.length:Int))=false:=by rw[eH];omega
  have E:Hid (S=340):=A (Hc.1.trans (aD (by intro e;exact eI e.2.1)));exact absurd (ot.1.symm.trans E.1) (by decide)
 by_cases dR:q.length=i.length;rotate_left
 ·have rK:((t.length:Int)==(i.length:Int))=true:=by rw[gI];omega
  have ym:((q.length:Int)==(i.length:Int))=false:=by rw[eH];omega
  have E:Hid (S=340):=A (Hc.1.trans (aD (by intro e;exact dR e.2.2)));exact absurd (ot.1.symm.trans E.1) (by decide)
 have rK:((t.length:Int)==(i.length:Int))=true:=by rw[gI];omega
 have ym:((q.length:Int)==(i.length:Int))=true:=by rw[gI];omega
 have Fv:Hid (S=(if Dj a h y l i t q i.length=true then 0 else 340)):=A (Hc.1.trans (aA (λe=>e ⟨bU,eI,dR⟩)));obtain⟨Es,n7⟩:=aR eI dR;have sT:0<i.length:=by rw[LZ.1];exact SR.2 (abA Wa.1 bU)
 obtain⟨RQ,Nu,nS⟩:=bJ sT (QM eT.1 bU) bU;clear Hc eI dR sT;go_wp2_with fail;with_reducible refine(Bl 340 _).mono ?_
 rintro x pg ⟨rfl,rfl⟩;clear rK ym bU;go_wp2_with fail;go_loopw[79] (λL s=>∃k:Nat,k<=i.length/\L=.int .i64 k/\Hid (∀j,j<k->xF a h y l i t q j=true)/\Hid (Below w9 w9 s)) (λL _=>i.length-(intOf L).toNat);case atStart=>exact⟨0,bS _,rfl,A λj e=>absurd e (fG _),A (aY _ _)⟩
 case round =>
  obtain⟨k,dg,rfl,HD,kx⟩:=hrel;replace g:=A (g.1.later kx.1);replace HY:=A (HY.1.below kx.1);replace c0:=Y g.1.q1 (k:=0) (d:=c) rfl;replace c1:=Y g.1.q1 (k:=1) (d:=.slice a1 a.length M) rfl;replace c2:=Y g.1.q1 (k:=2) (d:=.slice a2 h.length k2) rfl;replace c3:=Y g.1.q1 (k:=3) (d:=.slice a3 y.length k3) rfl;replace Z:=Y g.1.q2 (k:=0) (d:=.slice F l.length H) rfl;replace d1:=Y g.1.q2 (k:=1) (d:=.slice G w.length I) rfl;replace x3:=Y g.1.q3 (k:=0) (d:=.slice a6 t.length k6) rfl;replace X:=Y g.1.q4 (k:=0) (d:=.slice a7 q.length k7) rfl;by_cases aq:k<i.length
  ·obtain⟨rT,bR,oR,nR,cR,eR,qR⟩:=g.1.hRW.get aq;obtain⟨bC,oC,nC,cC,rC,eC,qC,hIC⟩:=g.1.hCS.getRow (k:=k) (by rw[Es.1];exact aq);obtain⟨bL,oL,nL,cL,rL,eL,qL,vO⟩:=g.1.hLS.get (k:=k) (by rw[n7.1];exact aq);obtain⟨bZ,oZ,nZ,cZ,rZ,eZ,qZ,Hd⟩:=g.1.hLS.get (k:=0) (by rw[n7.1];exact RQ.1);simp only[dr]at eR eC eL eZ;obtain⟨rfl,-,-⟩:=eR;obtain⟨rfl,-,-⟩:=eC;obtain⟨rfl,-,-⟩:=eL;obtain⟨eZ,-,-⟩:=eZ;simp only[tX,Cn]at eZ;obtain⟨rfl,rfl,-⟩:=eZ;obtain⟨aC,kC,rfl,-⟩:=id hIC;obtain⟨aL,kL,rfl,-⟩:=id vO;obtain⟨aZ,kZ,rfl,-⟩:=id Hd;rw[rF]at qZ;obtain⟨lG,il,lX,RR⟩:=cY hIC vO Hd rT;have i0:0<=(k:Int):=by omega
   have i1:(k:Int)<(i.length:Int):=by omega
   have i2:(k:Int)<(t.length:Int):=by have:=Es.1;omega
   have i3:(k:Int)<(q.length:Int):=by have:=n7.1;omega
   have i4:(0:Int)<(q.length:Int):=by have:=n7.1;omega
   clear hIC vO Hd rT;obtain⟨row,da⟩:=aK (J i k);rw[<-da]at qR RR;have Gn:=A da;obtain⟨W,Kf⟩:=aK (q.getD 0 []);rw[<-Kf]at qZ lX;have AS:=A Kf;obtain⟨N,lJ⟩:=aK (q.getD k []);rw[<-lJ]at qL il;have Nv:=A lJ;obtain⟨T,tq⟩:=aK (t.getD k []);rw[<-tq]at qC lG;have Nw:=A tq;clear da Kf lJ tq;go_wp2_with fail;have HF:=A (λ(v:World) (m:Below wr wr v)=>show v.cell? (o,0)=c/\v.cell? (o,1)=some (.slice a1 a.length M)/\v.cell? (o,2)=some (.slice a2 h.length k2)/\v.cell? (o,3)=some (.slice a3 y.length k3)/\v.cell? (o.heap.size+1,0)=some (.slice F l.length H)/\v.cell? (o.heap.size+1,1)=some (.slice G w.length I)/\v.cell? (o.heap.size+1+1,0)=some (.slice (bC,oC) t.length k6)/\v.cell? (o.heap.size+1+1+1,0)=some (.slice (bL,oL) q.length k7)/\v.cell? (bC,oC+k)=some (.slice aC T.length kC)/\v.cell? (bL,oL+k)=some (.slice aL N.length kL)/\v.cell? (bL,oL)=some (.slice aZ W.length kZ) from
    ⟨U m c0,U m c1,U m c2,U m c3,U m Z,U m d1,U m x3,U m X,U m qC,U m qL,U m qZ⟩)
   obtain⟨iK,HEQ⟩:=aR (λ(v:World) (m:Below wr wr v)=>auJ c (.slice a1 a.length M) (.slice a2 h.length k2) (.slice a3 y.length k3) (.slice F l.length H) (.slice G w.length I) (.slice aC T.length kC) row a h y l w T v (g.1.later m).hR (g.1.later m).hO (g.1.later m).hC (g.1.later m).hR2 (g.1.later m).hO2 (lG.1.below m) RR.1 nG.1) (λ(v:World) (m:Below wr wr v)=>auL (.slice aZ W.length kZ) (.slice aL N.length kL) W N v (lX.1.below m) (il.1.below m));obtain⟨fb,C⟩:=aK (BW a h y l row T);obtain⟨eb,heb⟩:=aK (decide (gH W=gH N));rw[<-C]at iK;rw[<-heb]at HEQ;obtain⟨Mz,P2⟩:=aR C heb;clear C heb;have i5:0<q.length:=by have:=n7.1;omega
   cases sU:(fb&&eb) with
   |false =>
    have E:Hid (S=340):=A (Fv.1.trans (aA (by rw[VP (c:=k) (by omega) (by unfold xF;rw[<-Gn.1,<-AS.1,<-Nv.1,<-Nw.1,<-Mz.1,<-P2.1,sU,uP])];decide)));exact absurd (ot.1.symm.trans E.1) (by decide)
   |true =>
   refine nW (awE wr (.agg #[c,.slice a1 a.length M,.slice a2 h.length k2,.slice a3 y.length k3]) (.agg #[.slice F l.length H,.slice G w.length I]) (.slice (bC,oC) t.length k6) (.slice (bL,oL) q.length k7) (.slice aC T.length kC) (.slice aL N.length kL) (.slice aZ W.length kZ) (.func (.func 112) #[] #[]) row k bC oC bL oL fb eb) (λz3=>?_) ?_ (λz3 s e=>?_)
   ·exact⟨(aY _ _).drew,ax,ax,ax,ax,ax,ax,ax,ax,ax,ax,ax,ax,ax,ax,ax,ax,ax,ax,ax,ax⟩
   ·refine⟨?_,?_,?_,?_,?_,?_,?_,?_,?_,?_,?_,?_,?_,?_,?_,?_,?_,?_,?_,?_,trivial⟩;all_goals intro dn z3 s z8 e f
    ·have x:=f.b 6 (o,0);have azR:=U e.b c0;have azS:=U e.b c1;have azT:=U e.b c2;have azU:=U e.b c3;clear f;go_simp;exact⟨_,rfl,{e with f0:=aB}⟩
    ·have x:=f.b 7 (o.heap.size+1,0);have awI:=U e.b Z;have awJ:=U e.b d1;clear f;go_simp;exact⟨_,rfl,{e with f1:=aB}⟩
    ·have x:=f.b 20 row;clear f;go_simp;exact⟨_,rfl,{e with f2:=aB}⟩
    ·have x:=f.b 10 (o.heap.size+1+1,0);have awK:=U e.b x3;clear f;go_simp;exact⟨_,rfl,{e with f3:=aB}⟩
    ·have x:=f.b 19 (k:Int);clear f;go_simp;exact⟨_,rfl,{e with f4:=aB}⟩
    ·have B:=f.e 3 87 e.f3;have e2:=f.e 4 88 e.f4;clear f;go_simp;exact⟨_,rfl,{e with f5:=aB}⟩
    ·have B:=f.e 5 89 e.f5;have awL:=U e.b qC;clear f;go_simp;exact⟨_,rfl,{e with f6:=aB}⟩
    ·have B:=f.e 0 84 e.f0;have e2:=f.e 1 85 e.f1;have e3:=f.e 2 86 e.f2;have e4:=f.e 6 90 e.f6;clear f;go_simp;refine(iK.1 s e.b).mono ?_;rintro x wq ⟨rfl,u⟩;exact⟨_,rfl,{e with b:=ar e.b u,f7:=aB}⟩
    ·have B:=f.e 7 91 e.f7;clear f;go_simp;exact⟨_,rfl,{e with f8:=aB}⟩
    ·refine⟨fb,e.f8 (f.d 8),λC=>?_,λQ=>?_⟩
     ·have x:=f.b 11 (o.heap.size+1+1+1,0);have awM:=U e.b X;clear f C;go_simp;exact⟨_,rfl,{e with f9:=(λ_=>λ_=>rfl)}⟩
     ·exact {e with f9:=(λ_=>λr=>absurd r Q)}
    ·refine⟨fb,e.f8 (f.d 8),λC=>?_,λQ=>?_⟩
     ·have B:=(f.E 9 93).trans (e.f9 (f.d 9) C);clear f C;go_simp;exact⟨_,rfl,{e with f10:=(λ_=>λ_=>rfl)}⟩
     ·exact {e with f10:=(λ_=>λr=>absurd r Q)}
    ·refine⟨fb,e.f8 (f.d 8),λC=>?_,λQ=>?_⟩
     ·have B:=(f.E 10 94).trans (e.f10 (f.d 10) C);have azV:=U e.b qZ;clear f C;go_simp;exact⟨_,rfl,{e with f11:=(λ_=>λ_=>rfl)}⟩
     ·exact {e with f11:=(λ_=>λr=>absurd r Q)}
    ·refine⟨fb,e.f8 (f.d 8),λC=>?_,λQ=>?_⟩
     ·have x:=f.b 11 (o.heap.size+1+1+1,0);have awM:=U e.b X;clear f C;go_simp;exact⟨_,rfl,{e with f12:=(λ_=>λ_=>rfl)}⟩
     ·exact {e with f12:=(λ_=>λr=>absurd r Q)}
    ·refine⟨fb,e.f8 (f.d 8),λC=>?_,λQ=>?_⟩
     ·have x:=f.b 19 (k:Int);clear f C;go_simp;exact⟨_,rfl,{e with f13:=(λ_=>λ_=>rfl)}⟩
     ·exact {e with f13:=(λ_=>λr=>absurd r Q)}
    ·refine⟨fb,e.f8 (f.d 8),λC=>?_,λQ=>?_⟩
     ·have B:=(f.E 12 96).trans (e.f12 (f.d 12) C);have e2:=(f.E 13 97).trans (e.f13 (f.d 13) C);clear f C;go_simp;exact⟨_,rfl,{e with f14:=(λ_=>λ_=>rfl)}⟩
     ·exact {e with f14:=(λ_=>λr=>absurd r Q)}
    ·refine⟨fb,e.f8 (f.d 8),λC=>?_,λQ=>?_⟩
     ·have B:=(f.E 14 98).trans (e.f14 (f.d 14) C);have azW:=U e.b qL;clear f C;go_simp;exact⟨_,rfl,{e with f15:=(λ_=>λ_=>rfl)}⟩
     ·exact {e with f15:=(λ_=>λr=>absurd r Q)}
    ·refine⟨fb,e.f8 (f.d 8),λC=>?_,λQ=>?_⟩
     ·have x:=f.b 18 (.func (.func 112) #[] #[]);clear f C;go_simp;exact⟨_,rfl,{e with f16:=(λ_=>λ_=>rfl)}⟩
     ·exact {e with f16:=(λ_=>λr=>absurd r Q)}
    ·refine⟨fb,e.f8 (f.d 8),λC=>?_,λQ=>?_⟩
     ·have B:=(f.E 11 95).trans (e.f11 (f.d 11) C);have e2:=(f.E 15 99).trans (e.f15 (f.d 15) C);have e3:=(f.E 16 100).trans (e.f16 (f.d 16) C);clear f C;go_simp;refine(HEQ.1 s e.b).mono ?_;rintro x wq ⟨rfl,u⟩;exact⟨_,rfl,{e with b:=ar e.b u,f17:=(λ_=>λ_=>rfl)}⟩
     ·exact {e with f17:=(λ_=>λr=>absurd r Q)}
    ·have awN:=f.d 17;have B:=f.e 8 92 e.f8;cases fb with
     |false=>clear f sU;go_simp;exact⟨_,rfl,{e with f18:=aB}⟩
     |true=>have e2:=(f.E 17 101).trans (e.f17 awN rfl);clear f sU;go_simp;exact⟨_,rfl,{e with f18:=aB}⟩
    ·have B:=f.e 18 102 e.f18;rw[sU]at B;have XY:=f.b 13 ();have zU:=f.b 12 (o.heap.size+1+1+1+1,0);have h14:=f.b 14 (o.heap.size+1+1+1+1+1,0);clear f;go_simp;clear zU XY h14;refine(Bl 340 _).mono ?_;rintro x wq ⟨rfl,rfl⟩;exact⟨_,rfl,{e with n:=(λ_=>sU)}⟩
   simp only[jG,Act.put,Nat.reduceAdd,dD];have R:=e.b;obtain⟨g,HY,il,lX,lG,kx⟩:=oJ (g.1.later R) (HY.1.below R) (il.1.below R) (lX.1.below R) (lG.1.below R) (ar kx.1 R);replace qR:=U R qR;replace qC:=U R qC;replace qL:=U R qL;replace qZ:=U R qZ;replace c0:=Y g.1.q1 (k:=0) (d:=c) rfl;replace c1:=Y g.1.q1 (k:=1) (d:=.slice a1 a.length M) rfl;replace c2:=Y g.1.q1 (k:=2) (d:=.slice a2 h.length k2) rfl;replace c3:=Y g.1.q1 (k:=3) (d:=.slice a3 y.length k3) rfl;replace Z:=Y g.1.q2 (k:=0) (d:=.slice F l.length H) rfl;replace d1:=Y g.1.q2 (k:=1) (d:=.slice G w.length I) rfl;replace x3:=Y g.1.q3 (k:=0) (d:=.slice (bC,oC) t.length k6) rfl;replace X:=Y g.1.q4 (k:=0) (d:=.slice (bL,oL) q.length k7) rfl;clear e R HF iK HEQ;obtain⟨ajo,ajp⟩:=Bool.and_eq_true_iff.1 sU;obtain⟨Nx,RT⟩:=aR (Mz.1.symm.trans ajo) (P2.1.symm.trans ajp);clear sU ajo ajp Mz P2;have qf:=A (show fQ l T=true by have e:=Nx.1;unfold BW at e;rw[cu,cu]at e;exact e.2.1);go_wp2_with fail;go_loopw[21,109] (λlast L z6=>∃f:Nat,f<=N.length/\L=.int .i64 f/\last=(mS (-1) (N.take f):Int)/\Hid (kM l T (N.take f)=true)/\Hid (Below s s z6)) (λ_ L _=>N.length-(intOf L).toNat);case atStart=>exact⟨0,bS _,rfl,rfl,A rfl,A (aY _ _)⟩
   case round =>
    obtain⟨f,Eb,rfl,rfl,JU,pU⟩:=hrel;obtain⟨g,HY,il,lX,lG,kx⟩:=oJ (g.1.later pU.1) (HY.1.below pU.1) (il.1.below pU.1) (lX.1.below pU.1) (lG.1.below pU.1) (ar kx.1 pU.1);replace qR:=U pU.1 qR;replace qC:=U pU.1 qC;replace qL:=U pU.1 qL;replace qZ:=U pU.1 qZ;replace c0:=Y g.1.q1 (k:=0) (d:=c) rfl;replace c1:=Y g.1.q1 (k:=1) (d:=.slice a1 a.length M) rfl;replace c2:=Y g.1.q1 (k:=2) (d:=.slice a2 h.length k2) rfl;replace c3:=Y g.1.q1 (k:=3) (d:=.slice a3 y.length k3) rfl;replace Z:=Y g.1.q2 (k:=0) (d:=.slice F l.length H) rfl;replace d1:=Y g.1.q2 (k:=1) (d:=.slice G w.length I) rfl;replace x3:=Y g.1.q3 (k:=0) (d:=.slice (bC,oC) t.length k6) rfl;replace X:=Y g.1.q4 (k:=0) (d:=.slice (bL,oL) q.length k7) rfl;by_cases He:f<N.length
    ·obtain⟨aS,cS,eS,-,lJ,xM,cU⟩:=il.1;obtain⟨b1,o1,ea,y1,y2⟩:=cU f He;simp only[dr]at eS;obtain⟨rfl,-,-⟩:=eS;subst ea;have hr:=xM _ (bM He);have mz:=A (Vm He JU.1);have gM:Hid (Ax l T (mS (-1) (N.take f)) N[f]=false->kM l T N=false):=A (λe=>ahg (k:=f+1) ((Vm He JU.1).trans e));have dq:=A (Ub (i:=-1) He);obtain⟨O,rf⟩:=aK (N[f].1);obtain⟨z2,Dd⟩:=aK (N[f].2);have hp:N[f]=(O,z2):=by rw[rf,Dd]
     rw[hp]at mz gM;rw[<-rf]at y1 hr dq;rw[<-Dd]at y2 hr;obtain⟨la,lA⟩:=aK (mS (-1) (N.take f));rw[<-lA]at mz gM ⊢;obtain⟨W5,dk,aG,ij,-⟩:=ee wr O z2 66;have s0:W5.cell? (wr,0)=O:=Y ij rfl;have s1:W5.cell? (wr,1)=z2:=Y ij rfl;have gX:=A dk;have i0:(0:Int)<=(f:Int):=by omega
     have i1:(f:Int)<(N.length:Int):=by omega
     obtain⟨HQ,wU⟩:=aR He (abi nG.1 qf.1);clear cU xM rf Dd hp lA ij dk He Eb JU HY il lX kx qR qL qZ;go_wp2_with (rw[<-gX.1]);clear y1 y2 i0 i1;obtain⟨g,lG,pU⟩:=bJ (g.1.later aG) (lG.1.below aG) (ar pU.1 aG);replace qC:=U aG qC;replace c0:=Y g.1.q1 (k:=0) (d:=c) rfl;replace c1:=Y g.1.q1 (k:=1) (d:=.slice a1 a.length M) rfl;replace c2:=Y g.1.q1 (k:=2) (d:=.slice a2 h.length k2) rfl;replace c3:=Y g.1.q1 (k:=3) (d:=.slice a3 y.length k3) rfl;replace Z:=Y g.1.q2 (k:=0) (d:=.slice F l.length H) rfl;replace d1:=Y g.1.q2 (k:=1) (d:=.slice G w.length I) rfl;replace x3:=Y g.1.q3 (k:=0) (d:=.slice (bC,oC) t.length k6) rfl;replace X:=Y g.1.q4 (k:=0) (d:=.slice (bL,oL) q.length k7) rfl;clear aG;obtain⟨ok,bU⟩:=aK (ke l w T O z2);obtain⟨fe,vM⟩:=aK (j9 l w T O z2);have RU:=A (λ(v:World) (m:Below W5 W5 v)=>Ep (.slice F l.length H) (.slice G w.length I) (.slice aC T.length kC) l w T O z2 v (g.1.later m).hR2 (g.1.later m).hO2 (lG.1.below m) hr.1 hr.2);rw[<-bU,<-vM]at RU;rw[(Vn wU.1).2]at bU;rw[(Vn wU.1).1]at vM;obtain⟨Wg,uu⟩:=aR bU vM;clear bU vM hr;refine nW (awF W5 (.agg #[.slice F l.length H,.slice G w.length I]) (.slice (bC,oC) t.length k6) (.slice aC T.length kC) O z2 fe k bC oC ok) (λz3=>?_) ?_ (λz3 s e=>?_)
     ·exact⟨(aY _ _).drew,ax,ax,ax,ax,ax,ax,ax,ax,ax,ax,ax,ax⟩
     ·refine⟨?_,?_,?_,?_,?_,?_,?_,?_,?_,?_,?_,?_,trivial⟩;all_goals intro dn z3 s z8 e f
      ·have x:=f.b 7 (o.heap.size+1,0);have awI:=U e.b Z;have awJ:=U e.b d1;clear f;go_simp;exact⟨_,rfl,{e with f0:=aB}⟩
      ·have x:=f.b 10 (o.heap.size+1+1,0);have awK:=U e.b x3;clear f;go_simp;exact⟨_,rfl,{e with f1:=aB}⟩
      ·have x:=f.b 19 (k:Int);clear f;go_simp;exact⟨_,rfl,{e with f2:=aB}⟩
      ·have B:=f.e 1 115 e.f1;have e2:=f.e 2 116 e.f2;clear f;go_simp;exact⟨_,rfl,{e with f3:=aB}⟩
      ·have B:=f.e 3 117 e.f3;have awL:=U e.b qC;clear f;go_simp;exact⟨_,rfl,{e with f4:=aB}⟩
      ·have x:=f.b 23 (wr,0);have azX:=U e.b s0;have azY:=U e.b s1;clear f;go_simp;exact⟨_,rfl,{e with f5:=aB}⟩
      ·have B:=f.e 0 114 e.f0;have e2:=f.e 4 118 e.f4;have e3:=f.e 5 119 e.f5;clear f;go_simp;refine(RU.1 s e.b).mono ?_;rintro x wq ⟨rfl,u⟩;exact⟨_,rfl,{e with b:=ar e.b u,f6:=aB}⟩
      ·have B:=f.e 6 120 e.f6;clear f;go_simp;exact⟨_,rfl,{e with f7:=aB}⟩
      ·have B:=f.e 7 113 e.f7;clear f;go_simp;exact⟨_,rfl,{e with f8:=aB}⟩
      ·have B:=f.e 7 113 e.f7;clear f;go_simp;exact⟨_,rfl,{e with f9:=aB}⟩
      ·have B:=f.e 8 121 e.f8;clear f;go_simp;exact⟨_,rfl,{e with f10:=aB}⟩
      ·have B:=f.e 9 122 e.f9;clear f;go_simp;exact⟨_,rfl,{e with f11:=aB}⟩
     simp only[jG,Act.put,Nat.reduceAdd,dD];rw[e.f10 rfl,e.f11 rfl];have R:=e.b;replace g:=A (g.1.later R);replace pU:=A (ar pU.1 R);replace s0:=U R s0;replace s1:=U R s1;clear e R RU lG qC wU c0 c1 c2 c3 Z d1 x3 X;cases tL:jR l O z2 with
     |false =>
      obtain rfl:ok=false:=Wg.1.trans (by rw[tL];rfl);obtain rfl:fe=340:=uu.1.trans (by rw[tL];rfl);have E:Hid (S=340):=A (Fv.1.trans (aA (by rw[VP (c:=k) (by omega) (by unfold xF;rw[<-Gn.1,<-AS.1,<-Nv.1,<-Nw.1,Nx.1,RT.1,gM.1 (by unfold Ax;rw[tL];rfl)];rfl)];decide)));exact absurd (ot.1.symm.trans E.1) (by decide)
     |true =>
     obtain rfl:fe=0:=uu.1.trans (by rw[tL];rfl);cases yX:My l T (O,z2) with
     |false =>
      obtain rfl:ok=false:=Wg.1.trans (by rw[tL,yX];rfl);have E:Hid (S=340):=A (Fv.1.trans (aA (by rw[VP (c:=k) (by omega) (by unfold xF;rw[<-Gn.1,<-AS.1,<-Nv.1,<-Nw.1,Nx.1,RT.1,gM.1 (by unfold Ax;rw[yX];simp)];rfl)];decide)));exact absurd (ot.1.symm.trans E.1) (by decide)
     |true =>
     obtain rfl:ok=true:=Wg.1.trans (by rw[tL,yX];rfl);by_cases hle:la<O;rotate_left
     ·have d9:decide (la<O)=false:=bw hle;have E:Hid (S=340):=A (Fv.1.trans (aA (by rw[VP (c:=k) (by omega) (by unfold xF;rw[<-Gn.1,<-AS.1,<-Nv.1,<-Nw.1,Nx.1,RT.1,gM.1 (by unfold Ax;rw[d9];simp)];rfl)];decide)));exact absurd (ot.1.symm.trans E.1) (by decide)
     have d9:decide (la<O)=true:=bB hle;have HN:=A (mz.1.trans (by unfold Ax;rw[tL,yX,d9];first|done|rfl));clear tL yX hle Wg uu mz gM;go_wp2_with fail;clear d9;with_reducible refine(Bl 340 _).mono ?_
     rintro x wq ⟨rfl,rfl⟩;have He:=HQ.1;go_wp2_with fail;go_roundw;case rel=>exact⟨f+1,by omega,by go_num,by rw[dq.1],HN,pU⟩
     case measure=>simp[intOf];omega
    ·have uC:Hid (kM l T N=true):=A (by have e:=JU.1;rwa [zJ (by omega)]at e);replace HD:Hid (∀j,j<k+1->xF a h y l i t q j=true):=A (λj hj=>by
      by_cases Bb:j=k
      ·subst Bb;unfold xF;rw[<-Gn.1,<-AS.1,<-Nv.1,<-Nw.1,Nx.1,RT.1,uC.1];rfl
      ·exact HD.1 j (by omega))
     clear JU il lX lG Nx RT uC qf Gn AS Nv Nw qR qC qL qZ;go_wp2_with fail;go_roundw;case rel=>exact⟨k+1,by omega,by go_num,HD,kx⟩
     case measure=>simp[intOf];omega
  ·have E:Hid (S=0):=A (Fv.1.trans (aD (ait λj hj=>HD.1 j (by omega))));replace HD:Hid (∀j,j<i.length->xF a h y l i t q j=true):=A λj hj=>HD.1 j (by omega);obtain⟨awO,awP,-⟩:=HKY.1;have VA:IntKind.i64.wrap (c+1)=c+1:=by rw[KV];omega
   have CX:=A (λk (hk:k<i.length)=>show 0<=J i k/\J i k<(((bQ a h p).length:Nat):Int) from by
    have e:=aix (f:=h) (b:=p) (h:=h.length) (k:=k) (by rw[<-LZ.1];exact hk);rw[<-LZ.1]at e;rw[Nu.1.len,eT.1.len];exact e)
   have HYR:=A (auY Nu.1.num);have vB:=A (fs nG.1).cols_le;obtain⟨W6,cH,aF,ij,kf⟩:=lF wr (c+1:Int) (.slice F l.length H) (.slice G w.length I) () 33;obtain⟨fR,cO⟩:=aR cH aF;have K:Hid (Dk wr (c+1) (.slice F l.length H) (.slice G w.length I) () 0 [] W6):=A ⟨aF,ij,iv _ _ _ _⟩;have z0:=U aF Z;have z1:=U aF d1;clear cH aF ij kf Fv kx awO awP dg;go_wp2_with (rw[<-fR.1]);clear VA Z d1 c0 c1 c2 c3 x3 X z0 z1;with_reducible refine(ahS _ _ l _ (g.1.hR2.below cO.1) ⟨_,_,_,rfl⟩).mono ?_
   rintro x w20 ⟨rfl,ajq⟩;replace K:=A (K.1.below ajq);clear ajq cO fR;obtain⟨wk,Kd⟩:=aK wr;subst Kd;go_wp2_with fail;go_loopw[146] (λL z6=>∃j:Nat,j<=bh l/\L=.int .i64 j/\Hid (∃z4,Dk wk (c+1) (.slice F l.length H) (.slice G w.length I) z4 j ((List.range j).map λf=>zi t i (bQ a h p) f i.length) z6)) (λL _=>bh l-(intOf L).toNat);case atStart=>exact⟨0,bS _,rfl,A ⟨_,K.1⟩⟩
   case round =>
    obtain⟨j,nh,rfl,jt⟩:=hrel;clear K;obtain⟨z4,wY⟩:=jt.1;have K:=A wY;clear wY jt;by_cases mA:j<bh l
    ·obtain⟨W7,eE,bz,xN,qY⟩:=JY wr (.int .i64 (j:Nat)) 3;have ou:=A eE;replace K:=A (K.1.below bz);obtain⟨D,Fw,XJ⟩:=bJ (g.1.later K.1.b) (HY.1.below K.1.b) (show W7.cell? (wr,0)=(j:Int) from Y xN rfl);have HJM:Hid (j<=1000000):=A (by have:=vB.1;omega);have tU:=A mA;obtain⟨z,hz⟩:=aK (zi t i (bQ a h p) j i.length);have HT:Hid (((List.range (j+1)).map λf=>zi t i (bQ a h p) f i.length)=((List.range j).map λf=>zi t i (bQ a h p) f i.length)++[z]):=A (by rw[sP,gJ,hz];rfl);obtain⟨HWF,HFO⟩:=aR (λ(v:World) (m:Below W7 W7 v)=>aiu (.slice a9 i.length k9) (.slice ay (bQ a h p).length ky) i (bQ a h p) v (D.1.hRW.below m) (Fw.1.below m)) (λ(v:World) (v1:Value) (m:Below W7 W7 v) (hv:G0 (.slice a9 i.length k9) (.slice ay (bQ a h p).length ky) i (bQ a h p) v1 v)=>auW (o.heap.size+1+1) wr.heap.size (.slice a9 i.length k9) (.slice ay (bQ a h p).length ky) (.slice a6 t.length k6) i (bQ a h p) t j v1 v hv (U m (Y D.1.q3 (k:=0) rfl)) (U m XJ.1) (D.1.hCS.below m) Es.1 CX.1 (λL hi=>aiw (VQ (HD.1 L hi)).1 tU.1) HYR.1);rw[<-hz]at HFO;clear eE bz xN qY hz;go_wp2_with (rw[<-ou.1]);refine nW (awG wk W7 (c+1) (.slice F l.length H) (.slice G w.length I) z4 (.slice a9 i.length k9) (.slice ay (bQ a h p).length ky) j wr.heap.size (o.heap.size+1+1) i (bQ a h p) ((List.range j).map λf=>zi t i (bQ a h p) f i.length) z) (λz3=>?_) ?_ (λz3 s e=>?_)
     ·exact⟨λ_=>(aY _ _).drew,ax,ax,ax,ax,ax,ax,ax,ax,ax,ax,ax⟩
     ·refine⟨?_,?_,?_,?_,?_,?_,?_,?_,?_,?_,?_,trivial⟩;all_goals intro dn z3 s z8 e f
      ·have x:=f.b 26 (wk,0);clear f;go_simp;exact⟨_,rfl,{e with f0:=aB}⟩
      ·have B:=f.e 0 149 e.f0;have y3:=Y (K.1.below (e.b (f.n 8))).q (k:=3) rfl;clear f;go_simp;exact⟨_,rfl,{e with f1:=aB}⟩
      ·have x:=f.b 3 (.slice a9 i.length k9);clear f;go_simp;exact⟨_,rfl,{e with f2:=aB}⟩
      ·have x:=f.b 15 (.slice ay (bQ a h p).length ky);clear f;go_simp;exact⟨_,rfl,{e with f3:=aB}⟩
      ·have awQ:dn 8=false:=rX (λhj=>f.hu 6 4 rfl (f.hu 8 6 rfl (hj))) f.hd;have P:=e.b awQ;have B:=f.e 2 151 e.f2;have e2:=f.e 3 152 e.f3;clear f;go_simp;with_reducible refine(HWF.1 s P).mono ?_
       rintro x wq ⟨z9,rfl,h4,u⟩;exact⟨_,rfl,{e with b:=(λP=>(e.b P).trans (u.mono (e.b P).size)),f4:=(λ_ _=>h4),f7:=(λm r=>(e.f7 m r).below u),f8:=(λm r=>(e.f8 m r).below u),z:=(λm=>(e.z m).elim λL1 M=>⟨L1,M.below u⟩)}⟩
      ·have s1:=f.b 10 (o.heap.size+1+1,0);have s2:=f.b 27 (wr,0);have hmf:∀(fn:Fn) (first cap:Array Value) (o:World),(Instr.makeFunc fn first cap).run prog o=.ok (.func fn first cap) o:=λ_ _ _ _=>rfl;clear f;go_simp;exact⟨_,rfl,{e with f5:=aB}⟩
      ·have P:=e.b (f.n 8);have B:=f.E 4 153;have e2:=f.e 5 154 e.f5;have h4:=e.f4 (f.d 4) f.hd;clear f;go_simp;with_reducible refine(HFO.1 s _ P h4).mono ?_
       rintro x wq ⟨rfl,u⟩;exact⟨_,rfl,{e with b:=(λP=>(e.b P).trans (u.mono (e.b P).size)),f4:=(λ_=>wj),f6:=aB,f7:=(λm r=>(e.f7 m r).below u),f8:=(λm r=>(e.f8 m r).below u),z:=(λm=>(e.z m).elim λL1 M=>⟨L1,M.below u⟩)}⟩
      ·have B:=f.e 6 155 e.f6;have u:=bk s #[z] 3;clear f;go_simp;exact⟨_,rfl,{e with b:=(λP=>(e.b P).trans (u.mono (e.b P).size)),f4:=(λm r=>(e.f4 m r).below u),f7:=(λ_ _=>GZ.new z s _),f8:=(λm r=>(e.f8 m r).below u),z:=(λm=>(e.z m).elim λL1 M=>⟨L1,M.below u⟩)}⟩
      ·have B:=f.e 1 150 e.f1;have e2:=f.E 7 156;have h7:=e.f7 (f.d 7) f.hd;have HKW:=K.1.below (e.b f.hd);refine auV rfl _ _ rfl (wk.heap.size+1) j z4 _ ((gi ..).trans B) HKW.o (z3 7) z ((gi ..).trans e2) h7 HJM.1 (bG HKW.q) ?_;intro z7 z1z w2 ho hg;have HKA:=HKW.app ho hg;exact⟨_,rfl,{e with b:=(λr=>absurd (show true=false from r) (by decide)),f4:=(λ_ r=>absurd ((f.d 6).symm.trans r) (by decide)),f7:=(λ_=>wj),f8:=(λ_ _=>HKA),z:=(kY ((f.n 10)))}⟩
      ·have x:=f.b 26 (wk,0);clear f;go_simp;exact⟨_,rfl,{e with f9:=aB}⟩
      ·have m8:=f.d 6;have pK:=f.d 8;have B:=f.e 9 158 e.f9;have e2:=f.E 8 157;have P:=e.f8 pK f.hd;obtain⟨z7,z1z,e8⟩:=P.sl;rw[e8]at e2 P;have u3:=Y P.q (k:=3) rfl;have g3:=cB P.q 3;clear f;go_simp;exact⟨undef,{e with b:=(λr=>absurd (pK.symm.trans r) (by decide)),f4:=(λ_ r=>absurd (m8.symm.trans r) (by decide)),f7:=(λ_ r=>absurd (pK.symm.trans r) (by decide)),f8:=(λ_=>wj),z:=(λ_=>⟨_,P.store⟩)}⟩
     simp only[jG,Act.put,Nat.reduceAdd,dD];obtain⟨L2,bW⟩:=e.z rfl;replace K:=A bW;clear e bW HFO HWF D Fw ou XJ HJM mA;have mA:=tU.1;have bT:=vB.1;go_wp2_with fail;go_roundw;case rel=>exact⟨j+1,by omega,by go_num,A ⟨L2,by rw[HT.1];exact K.1⟩⟩
     case measure=>simp[intOf];omega
    ·obtain rfl:j=bh l:=by omega
     replace K:Hid (Dk wk (c+1) (.slice F l.length H) (.slice G w.length I) z4 (bh l) (BX t i (bQ a h p) (bh l)) wr):=K;obtain⟨D,Fw⟩:=aR (g.1.later K.1.b) (HY.1.below K.1.b);obtain⟨bZ,oZ,nZ,cZ,rZ,eZ,qZ,Hd⟩:=D.1.hLS.get (k:=0) (by rw[n7.1];exact RQ.1);simp only[dr]at eZ;obtain⟨rfl,-,-⟩:=eZ;obtain⟨aZ,kZ,rfl,-,-,hrz,-⟩:=id Hd;rw[rF]at qZ;have X:=Y D.1.q4 (k:=0) rfl;have i4:(0:Int)<(q.length:Int):=by have m:=n7.1;have r:=RQ.1;omega
     have i5:0<q.length:=by have m:=n7.1;have r:=RQ.1;omega
     have GS:Hid ((q.getD 0 []).length<=64):=A (by have m:=Ud (ahh (VQ (HD.1 0 RQ.1)).2.2);have r:=(fs nG.1).few;omega);obtain⟨W,Kf⟩:=aK (q.getD 0 []);rw[<-Kf]at qZ Hd hrz GS;obtain⟨AS,lX,HRZ⟩:=bJ Kf Hd hrz;clear Hd Kf hrz nh;obtain⟨wl,oY⟩:=aK wr;subst oY;go_wp2_with fail;clear X i4 i5 qZ mA;go_loopw[28,164] (λT0 L z6=>∃(j:Nat) (z5:Value),j<=W.length/\z5=T0/\L=.int .i64 j/\Hid (z6.ownsRow wl.heap.size 66 2 z5 j (((List.range j).map (Di q i (bQ a h p))).flatMap gU))/\Hid (Below wl wl z6)) (λ_ L _=>W.length-(intOf L).toNat);case atStart=>exact⟨0,_,bS _,rfl,rfl,A (iv _ _ _ _),A (aY _ _)⟩
     case round =>
      obtain⟨j,z5,nh,rfl,rfl,de,df⟩:=hrel;obtain⟨D,Fw,K⟩:=bJ (D.1.later df.1) (Fw.1.below df.1) (K.1.below df.1);by_cases mA:j<W.length
      ·obtain⟨aS,cS,eS,-,-,xM,cU⟩:=lX.1;obtain⟨b1,o1,ea,qa,qb⟩:=cU j mA;simp only[dr]at eS;obtain⟨rfl,-,-⟩:=eS;subst ea;have y1:=U df.1 qa;have y2:=U df.1 qb;obtain⟨O,rf⟩:=aK (W[j].1);obtain⟨z2,Dd⟩:=aK (W[j].2);rw[<-rf]at y1;rw[<-Dd]at y2;obtain⟨z,hz⟩:=aK (AH q i (bQ a h p) j i.length);have HT:Hid (((List.range (j+1)).map (Di q i (bQ a h p)))=((List.range j).map (Di q i (bQ a h p)))++[(O,z)]):=A (by rw[sP,gJ,hz,rf];unfold Di;rw[<-AS.1];simp only[zQ,FI];rw[J1 mA]);obtain⟨W8,ie,bg,dW,Wh⟩:=JY wr (.int .i64 (j:Nat)) 3;obtain⟨W9,ff,bA,kI,Du⟩:=ee W8 O z2 66;have u:=ar bg bA;have hj9:=az bA dW;rw[ie]at ff;rw[Wh]at kI;obtain⟨jI,XJ,QS,tU⟩:=cY ff (show W9.cell? (wr,0)=(j:Int) from Y hj9 rfl) kI mA;have i0:(0:Int)<=(j:Int):=by omega
       have i1:(j:Int)<(W.length:Int):=by omega
       have yG:Hid (∀z7,z5.ownBlock=some z7->z7<wr.heap.size):=A λz7 hg=>(pP de.1 z7 hg).2;have eF:=A (ar df.1 u);obtain⟨de,D,Fw⟩:=bJ (dM de.1 u) (D.1.later u) (Fw.1.below u);have HHS:Hid (wr.heap.size+2<=W9.heap.size):=A (by omega);clear cU xM qa qb rf Dd ie bg dW Wh ff bA kI Du u hj9 mA nh K lX;go_wp2_with (rw[<-jI.1]);clear y1 y2 i0 i1;with_reducible refine(aiu (.slice a9 i.length k9) (.slice ay (bQ a h p).length ky) i (bQ a h p) _ D.1.hRW Fw.1).mono ?_
       rintro x w31 ⟨fv,rfl,hfv,Ny⟩;have HFV:=A hfv;obtain⟨QS,eF,de,D,XJ⟩:=gw (az Ny QS.1) (ar eF.1 Ny) (dM de.1 Ny) (D.1.later Ny) (U Ny XJ.1);clear hfv Ny Fw jI;have hmf:∀(fn:Fn) (first cap:Array Value) (o:World),(Instr.makeFunc fn first cap).run prog o=.ok (.func fn first cap) o:=λ_ _ _ _=>rfl;go_wp2_with fail;clear hmf;with_reducible refine(auX (o.heap.size+1+1+1) wr.heap.size (.slice a9 i.length k9) (.slice ay (bQ a h p).length ky) (.slice (bZ,oZ) q.length k7) i (bQ a h p) q j fv _ HFV.1 (Y D.1.q4 (k:=0) rfl) XJ.1 D.1.hLS n7.1 CX.1 (λL hi=>by rw[(VQ (HD.1 L hi)).2.1,<-AS.1];exact tU.1) HYR.1).mono ?_
       rintro x w32 ⟨rfl,Nz⟩;obtain⟨QS,eF,de,D,XJ⟩:=gw (az Nz QS.1) (ar eF.1 Nz) (dM de.1 Nz) (D.1.later Nz) (U Nz XJ.1);clear Nz HFV;rw[<-hz];clear hz;have s1:=Y QS.1 (k:=1) rfl;have f1:=cB QS.1 1;obtain⟨NA,RV⟩:=aK (w32.setCell (wr.heap.size+1,1) z);have q12:NA.heap[wr.heap.size+1]?=QC.mk #[O,z] 66:=by rw[RV];exact cK QS.1 1 _
       obtain⟨t0,t1⟩:=ez q12;have xO:NA.ownsRow wl.heap.size 66 2 z5 j (((List.range j).map (Di q i (bQ a h p))).flatMap gU):=by rw[RV];exact K2 de.1 (a:=(wr.heap.size+1,1)) (λhc=>by have:=yG.1 _ hc;simp only at this;omega) _
       have b12:Below wl wl NA:=by rw[RV];exact eF.1.setCell (show wl.heap.size<=wr.heap.size+1 by have:=df.1.size;omega) _
       have HN:=A (bk NA #[O,z] 66);have kq:=A (dM xO HN.1);have E3:=World.alloc_heap_new NA (.cells #[O,z] 66);obtain⟨yV,om,jl⟩:=bJ (Y E3 (k:=0) rfl) (Y E3 (k:=1) rfl) (ar b12 HN.1);obtain⟨fA,ab4⟩:=aR jl.1.size RV;have FX:j<=1000000:=by have m:=GS.1;have r:=tU.1;omega
       clear E3 xO b12 q12 RV de df eF QS XJ;have mA:=tU.1;have I4:=GS.1;go_wp2_with (first|rw[<-ab4.1]|(refine T7 rfl _ _ rfl wl.heap.size _ ((List.range j).map (Di q i (bQ a h p))) j rfl kq.1 NA.heap.size 0 1 (O,z) rfl yV.1 om.1 FX fA.1 ?_;intro g8 uq w9 h9 o9;have H9:=A h9;have O9:=A o9;clear h9 o9));go_roundw;case rel=>exact⟨j+1,_,by omega,rfl,by go_num,by rw[HT.1];exact H9,A (jl.1.trans (fH kq.1 O9.1.1 fA.1))⟩
       case measure=>simp[intOf];omega
      ·obtain rfl:j=W.length:=by omega
       have oK:decide ((W.length:Int)<(W.length:Int))=false:=bw (by omega);have rq:Hid (RI wr z4 (BX t i (bQ a h p) (bh l))):=A (RI.own K.1.o (auZ λL j hi hj=>(aiw (VQ (HD.1 L hi)).1 hj).2) (by rw[auT];have:=vB.1;omega));have vm:Hid (RS wr z5 (BY q i (bQ a h p))):=A (RS.own (n:=W.length) (by have e:=de.1;rw[AS.1]at e ⊢;exact e) (au0 (by rw[<-AS.1];exact HRZ.1)) (by rw[ais,<-AS.1];have:=GS.1;omega));obtain⟨aL,nL,kL,rfl⟩:∃z0z n k,z4=.slice z0z n k:=by obtain⟨z0z,k,e,-⟩:=rq.1.1;exact⟨_,_,_,e⟩
       obtain⟨aT,nT,kT,rfl⟩:∃z0z n k,z5=.slice z0z n k:=by obtain⟨z0z,k,e,-⟩:=vm.1.1;exact⟨_,_,_,e⟩
       obtain⟨u0,u1,u2,u3⟩:=fh D.1.qk;obtain⟨f0,f1,f2,f3⟩:=wm D.1.qk;have v0:=Y D.1.qe (k:=0) rfl;have g0:=cB D.1.qe 0;obtain⟨k0_,k1_,k2_,k3_⟩:=fh K.1.q;obtain⟨W14,Hf⟩:=aK (putKey wr (o.heap.size+1+1+1+1) (c+1:Int) (.slice F l.length H) (.slice G w.length I) (.slice aL nL kL));obtain⟨awR,awS,Kg⟩:=bJ (Hf▸rq.1.keyW D.1.qk (by decide) _ _ _ _) (Hf▸vm.1.keyW D.1.qk (by decide) _ _ _ _) (Hf▸JQ D.1.b (show o.heap.size<=o.heap.size+1+1+1+1 by omega) _ _ _ _);have ajr:=Hf▸MM D.1.qk (c+1:Int) (.slice F l.length H) (.slice G w.length I) (.slice aL nL kL);have J9:=Hf▸(GW wr (show o.heap.size+1+1+1+1+1≠o.heap.size+1+1+1+1 by omega) (c+1:Int) (.slice F l.length H) (.slice G w.length I) (.slice aL nL kL)).trans D.1.qe;obtain⟨QK,QE⟩:=aR ajr J9;have y0:=Y J9 (k:=0) rfl;have yf:=cB J9 0;unfold putKey at Hf;obtain⟨awT,awU⟩:=aR Hf (show W14.setCell (o.heap.size+1+1+1+1+1,0) (0:Int)=W14 from mC y0);clear Hf ajr J9 rq vm;go_wp2_with (first|rw[<-awT.1]|rw[awU.1]);refine sQ (f:=106) (args:=#[(o.heap.size+1+1+1+1+1,0)]) (by simp) (by simp[go_sem]) ?_;refine(afq _ _).mono ?_;rintro x u' eN ⟨rfl,rfl,rfl⟩;obtain⟨h0,m,r,h3⟩:=fh QK.1;have eX:=Y QE.1 (k:=0) rfl;simp[Leaves,settle,results,results40,go_sem,eX,h0,m,r,h3];exact⟨_,_,_,_,_,by rw[E.1],λ_=>⟨rfl,rfl,rfl,awR.1,awS.1⟩,λe=>absurd E.1 e,Kg.1⟩
