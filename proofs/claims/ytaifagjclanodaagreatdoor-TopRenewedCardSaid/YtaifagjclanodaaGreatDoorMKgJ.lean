/- Package keygen: Qualified. -/
import Derived.Test.YtaifagjclanodaaGreatDoorMKgM
set_option maxHeartbeats 16000000
set_option maxRecDepth 100000
namespace Go.Proofs.YtaifagjclanodaaGreatDoor
open Go.Proofs.Tryz
open Go.RowKit FP
attribute [local go_sem] Oper.semAt_some
theorem ajG(a:World):(zeroValue 78).run prog a=.ok () a:=by kernel_rfl
structure ajH(i h:Value)(a:Int)(e:List bD)(f:World)(g:Ending)(d:World):Prop where
 out:∃c b,g=.returned (.tuple #[c,b,a])/\Below f f d /\
  (a≠0->c=()/\b=.agg #[(0:Int),(),(),()]) /\
  (a=0->RI d c (eW e)/\∃cv,b=.agg #[(0:Int),i,h,cv]/\RI d cv (lH e))
theorem NN(i g:Value){a:Int}(h:List bD){b c:World}(e:a≠0)(f:Below b b c):ajH i g a h b (.returned (.tuple #[(),.agg #[(0:Int),(),(),()],a])) c:=
 ⟨_,_,rfl,f,λ_=>⟨rfl,rfl⟩,λd=>absurd d e⟩
theorem axq(a:World)(o n m:Value):∃e,e=(((a.alloc (.cells #[o,n] 25)).alloc (.cells #[m] 23)).alloc (.cells #[(0:Int),(),(),()] 33)).alloc (.cells #[(0:Int)] 29)/\Below a a e /\
  e.heap[a.heap.size]?=QC.mk #[o,n] 25/\e.heap[a.heap.size+1]?=QC.mk #[m] 23 /\
  e.heap[a.heap.size+1+1]?=QC.mk #[(0:Int),(),(),()] 33/\e.heap[a.heap.size+1+1+1]?=QC.mk #[(0:Int)] 29:=by
 obtain⟨b,j⟩:=aK (a.alloc (.cells #[o,n] 25));obtain⟨c,k⟩:=aK (b.alloc (.cells #[m] 23));obtain⟨d,l⟩:=aK (c.alloc (.cells #[(0:Int),(),(),()] 33));obtain⟨p,q⟩:=aK (d.alloc (.cells #[(0:Int)] 29));have f:Below a a b:=by rw[j];exact bk _ _ _
 have g:Below b b c:=by rw[k];exact bk _ _ _
 have h:Below c c d:=by rw[l];exact bk _ _ _
 have i:Below d d p:=by rw[q];exact bk _ _ _
 have r:b.heap.size=a.heap.size+1:=by rw[j];simp
 have s:c.heap.size=a.heap.size+1+1:=by rw[k];simp[r]
 have s3:d.heap.size=a.heap.size+1+1+1:=by rw[l];simp[s]
 have w:b.heap[a.heap.size]?=QC.mk #[o,n] 25:=by rw[j];exact World.alloc_heap_new _ _
 have r2:c.heap[a.heap.size+1]?=QC.mk #[m] 23:=by rw[k,<-r];exact World.alloc_heap_new _ _
 have x:d.heap[a.heap.size+1+1]?=QC.mk #[(0:Int),(),(),()] 33:=by rw[l,<-s];exact World.alloc_heap_new _ _
 have y:p.heap[a.heap.size+1+1+1]?=QC.mk #[(0:Int)] 29:=by rw[q,<-s3];exact World.alloc_heap_new _ _
 have t:=g.mono f.size;have u:=h.mono (bK f.size g.size);have v:=i.mono (bK (bK f.size g.size) h.size);exact⟨p,by rw[q,l,k,j],f.trans (t.trans (u.trans v)),
  (i.block _ (by omega)).trans ((h.block _ (by omega)).trans ((g.block _ (by omega)).trans w)),(i.block _ (by omega)).trans ((h.block _ (by omega)).trans r2),(i.block _ (by omega)).trans x,y⟩
theorem axr(w:World):∃a,a=(w.alloc (.map #[] 0)).alloc (.cells #[.map (some w.heap.size)] 161)/\Below w w a/\jH a w.heap.size (λ_=>none)/\a.heap[w.heap.size+1]?=QC.mk #[.map (some w.heap.size)] 161/\a.heap.size=w.heap.size+1+1:=by
 obtain⟨b,c⟩:=aK (w.alloc (.map #[] 0));have f:b.heap.size=w.heap.size+1:=by rw[c];simp
 have g:Below w w b:=by rw[c];exact(aY _ _).alloc (aP _) _
 have d:=bk b #[.map (some w.heap.size)] 161;refine⟨b.alloc (.cells #[.map (some w.heap.size)] 161),by rw[c],ar g d,?_,?_,by simp[f]⟩
 ·have e:=jH.new (w:=w);rw[<-c]at e;exact e.below d
 ·rw[<-f];exact World.alloc_heap_new _ _
structure QuS(a:World)(e:Int)(d:List cP)(b:World):Prop where
 out:∃c,jH b a.heap.size c/\tR (a.heap.size+1+1) b c (vL e d)
 tab:b.cell? (a.heap.size+1,0)=some (.map (some a.heap.size))
 be:Below a a b
 big:a.heap.size+1+1<=b.heap.size
theorem axs(b:World)(a:Nat)(f g h i:Value)(j:TypeId){m n o p:Value}(q:b.heap[a]?=QC.mk #[m,n,o,p] j):∃c,c=(((b.setCell (a,0) f).setCell (a,1) g).setCell (a,2) h).setCell (a,3) i/\c.heap[a]?=QC.mk #[f,g,h,i] j/\(∀k,k≠a->c.heap[k]?=b.heap[k]?)/\∀{e:Nat} {l:World},Below e l b->e<=a->Below e l c:=by
 refine⟨_,rfl,?_,λk d=>?_,λr hn=>(((r.setCell hn _).setCell hn _).setCell hn _).setCell hn _⟩
 ·exact cK (cK (cK (cK q 0 f) 1 g) 2 h) 3 i
 ·rw[dJ _ _ _ _ d,dJ _ _ _ _ d,dJ _ _ _ _ d,dJ _ _ _ _ d]
theorem axt(a:World)(f e:Value):∃c,c=(a.alloc (.cells #[(0:Int),f,e,()] 33)).alloc (.cells #[()] 23)/\Below a a c/\c.heap[a.heap.size]?=QC.mk #[(0:Int),f,e,()] 33/\c.heap[a.heap.size+1]?=QC.mk #[()] 23/\c.heap.size=a.heap.size+1+1:=by
 obtain⟨b,d⟩:=aK (a.alloc (.cells #[(0:Int),f,e,()] 33));have h:b.heap.size=a.heap.size+1:=by rw[d];simp
 have i:Below a a b:=by rw[d];exact bk _ _ _
 have j:b.heap[a.heap.size]?=QC.mk #[(0:Int),f,e,()] 33:=by rw[d];exact World.alloc_heap_new _ _
 have g:=bk b #[()] 23;refine⟨b.alloc (.cells #[()] 23),by rw[d],ar i g,(g.block _ (by omega)).trans j,?_,by simp[h]⟩;rw[<-h];exact World.alloc_heap_new _ _
structure axu(l:World)(e k f j:Nat)(h:Int->Option Value)(i:Int->List cP)(c:cP)(a:Nat->Bool)(d:Nat->Value)(g:World):Prop where
 b:Below e l g
 f0:KQ a d 0 (.map (some e))
 f1:KQ a d 1 (f,0)
 f2:KQ a d 2 c.dealer
 f3:KQ a d 3 (.map (some e))
 f4:KQ a d 4 (f,0)
 f5:KQ a d 5 c.dealer
 f6:KQ a d 6 (uH h c.dealer)
 f7:KQ a d 7 (.agg #[c.dealer,c.row,c.D,c.E,c.S])
 f8:a 8=true->a 9=false->VJ g (d 8) c
 bx:zf e k f j h i c (a 9) (a 10) (d 9) g
structure axv(l:World)(h d i g k:Nat)(j z f:Int)(a:Nat->Bool)(c:Nat->Value)(e:World):Prop where
 b:Below d l e
 f0:KQ a c 0 (h,3)
 f1:KQ a c 1 (.slice (d,0) i g)
 f2:KQ a c 2 k
 f3:KQ a c 3 (h,3)
 f4:KQ a c 4 (.slice (d,0) i g)
 f5:KQ a c 5 k
 f6:KQ a c 6 (d,k)
 f7:KQ a c 7 j
 f8:KQ a c 8 z
 f9:KQ a c 9 (.tuple #[f,(0:Int)])
 f10:KQ a c 10 f
 f11:KQ a c 11 (0:Int)
 f12:KQ a c 12 f
 f13:KQ a c 13 (d,k)
 zc:a 14=false->(e.cell? (h,3)=some (.slice (d,0) i g)/\e.cell? (d,k)=j)
 fr:a 14=false->e.frozen? (d,k)=false
 st:AK l d k f (a 14) e
theorem axw(rv ov kv dv cv:Value)(d:ak)(l t:V)(g:List bD)(vs:tQ)(j:List cP)(e:World)(hG:gz e)(hR:bI e rv d)(hO:aM e ov l)(hK:aM e kv t)(hD:ze e dv g vs)(hC:xD e cv j):
  Calls prog 30 #[.agg #[rv,ov],kv,dv,cv] e (ajH rv ov (MS d l t g j) (GY d l t j g) e):=by
 obtain⟨W0,dx,bO,r0,r1,r2,r3⟩:=axq e rv ov kv;obtain⟨Q0,Q1,u,p,HG,HR,HO,HK,W⟩:=fx r0 r1 r2 r3 (hG.below bO) (hR.below bO) (hO.below bO) (hK.below bO) (hD.below bO);have HC:=A (hC.below bO);obtain⟨a1,k1,rfl,-,eI,-⟩:=id hR;obtain⟨a2,k2,rfl,-,dR,-⟩:=id hO;obtain⟨a3,k3,rfl,-,gC,-⟩:=id hK;obtain⟨a4,k4,rfl,-,fj,-⟩:=id hD;obtain⟨a5,k5,rfl,-,xt,-⟩:=id hC;obtain⟨HW,C⟩:=aR dx bO;obtain⟨G,M⟩:=ez r0;have R:=Y r1 (k:=0) (d:=.slice a3 t.length k3) rfl;clear hG hR hO hK hD hC bO r0 r1 r2 r3 dx;have qh:=@run_makeMap prog;obtain⟨ME,mW⟩:=aK (MS d l t g j);obtain⟨X,hMQ⟩:=aK (GY d l t j g);rw[<-mW,<-hMQ];have v:Hid (ME=MS d l t g j):=A mW;have Sa:=A hMQ;clear mW hMQ;unfold MS at v;refine wu func30 rfl ?_;simp only[ntmps30,kS,dZ,je,Nat.reduceAdd,Nat.reduceSub,kU,kV,kW,kX,jf,jn];go_wp2_with (rw[<-HW.1]);clear HW;with_reducible refine(sW _ _ d l _ HR.1 HO.1).mono ?_
 rintro m w4 ⟨rfl,z⟩;refine ua z G M R ?_;clear G M R;intro G M R;obtain⟨HG,HR,HO,HK,W,HC,Q0,Q1,u⟩:=fx (HG.1.below z) (HR.1.below z) (HO.1.below z) (HK.1.below z) (W.1.below z) (HC.1.below z) (az z Q0.1) (az z Q1.1) (az z u.1);replace p:=A (az z p.1);replace C:=A (ar C.1 z);clear z;by_cases hp:bH d l=0;rotate_left
 ·obtain⟨F,kJ⟩:=aR (v.1.trans (aD hp)) hp;clear hp v;generalize bH d l=c at *;go_wp2_with fail;with_reducible refine(Q9 0 c _ kJ.1).mono ?_
  rintro m w5 ⟨rfl,rfl⟩;refine zh (e.heap.size+1+1+1,0) 0 c _ (Y p.1 rfl) (cB p.1 0) ?_;obtain⟨Wf,fY,fD,iC,S⟩:=rl C.1 (show e.heap.size<=e.heap.size+1+1+1 by omega) p.1 u.1 (show e.heap.size+1+1≠e.heap.size+1+1+1 by omega) c;obtain⟨I,K,E,L⟩:=fh iC;rw[<-fY];simp[LeavesInM,LeavesIn,results,results30,go_sem,S,I,K,E,L];rw[F.1];exact NN _ _ _ kJ.1 fD
 replace v:=A (v.1.trans (aA (by simp[hp])));have eT:=A (fs hp);rw[hp];clear hp;go_wp2_with fail;with_reducible refine(JT 0 _).mono ?_
 rintro m w5 ⟨rfl,rfl⟩;go_wp2_with fail;with_reducible refine(ah4 _ _ _ l t _ ⟨_,_,_,rfl⟩ HO.1 HK.1 (λz10 a=>(eT.1.own z10 a).1)).mono ?_
 rintro m w5 ⟨rfl,P⟩;refine ua P G M R ?_;clear G M R;intro G M R;obtain⟨HG,HR,HO,HK,W,HC,Q0,Q1,u⟩:=fx (HG.1.below P) (HR.1.below P) (HO.1.below P) (HK.1.below P) (W.1.below P) (HC.1.below P) (az P Q0.1) (az P Q1.1) (az P u.1);replace p:=A (az P p.1);replace C:=A (ar C.1 P);clear P;cases nE:AE l t with
 |false =>
  have F:=A (v.1.trans (aD nE));clear nE v;go_wp2_with fail;with_reducible refine(vI 370 _ (by decide)).mono ?_
  rintro m w6 ⟨rfl,rfl⟩;refine zh (e.heap.size+1+1+1,0) 0 370 _ (Y p.1 rfl) (cB p.1 0) ?_;obtain⟨Wf,fY,fD,iC,S⟩:=rl C.1 (show e.heap.size<=e.heap.size+1+1+1 by omega) p.1 u.1 (show e.heap.size+1+1≠e.heap.size+1+1+1 by omega) 370;obtain⟨I,K,E,L⟩:=fh iC;rw[<-fY];simp[LeavesInM,LeavesIn,results,results30,go_sem,S,I,K,E,L];rw[F.1];exact NN _ _ _ (by decide) fD
 |true =>
 replace v:=A (v.1.trans (aA (by rw[nE];decide)));have vN:=A (QY.1 nE);clear nE;go_wp2_with fail;with_reducible refine(zd 370 _).mono ?_
 rintro m w6 ⟨rfl,rfl⟩;by_cases oS:g.length<=64;rotate_left
 ·have F:=A (v.1.trans (aD (.inl (by omega))));have x1:decide ((g.length:Int)<=64)=false:=bw (by omega);clear v;go_wp2_with fail;with_reducible refine(vI 2 _ (by decide)).mono ?_
  rintro m w6 ⟨rfl,rfl⟩;refine zh (e.heap.size+1+1+1,0) 0 2 _ (Y p.1 rfl) (cB p.1 0) ?_;obtain⟨Wf,fY,fD,iC,S⟩:=rl C.1 (show e.heap.size<=e.heap.size+1+1+1 by omega) p.1 u.1 (show e.heap.size+1+1≠e.heap.size+1+1+1 by omega) 2;obtain⟨I,K,E,L⟩:=fh iC;rw[<-fY];simp[LeavesInM,LeavesIn,results,results30,go_sem,S,I,K,E,L];rw[F.1];exact NN _ _ _ (by decide) fD
 have x1:decide ((g.length:Int)<=64)=true:=bB (by omega);by_cases xf:j.length<=4096;rotate_left
 ·have F:=A (v.1.trans (aD (.inr (by omega))));have x2:decide ((j.length:Int)<=4096)=false:=bw (by omega);clear v;go_wp2_with fail;with_reducible refine(vI 2 _ (by decide)).mono ?_
  rintro m w6 ⟨rfl,rfl⟩;refine zh (e.heap.size+1+1+1,0) 0 2 _ (Y p.1 rfl) (cB p.1 0) ?_;obtain⟨Wf,fY,fD,iC,S⟩:=rl C.1 (show e.heap.size<=e.heap.size+1+1+1 by omega) p.1 u.1 (show e.heap.size+1+1≠e.heap.size+1+1+1 by omega) 2;obtain⟨I,K,E,L⟩:=fh iC;rw[<-fY];simp[LeavesInM,LeavesIn,results,results30,go_sem,S,I,K,E,L];rw[F.1];exact NN _ _ _ (by decide) fD
 have x2:decide ((j.length:Int)<=4096)=true:=bB (by omega);replace v:=A (v.1.trans (aA (by omega)));go_wp2_with fail;with_reducible refine(zd 2 _).mono ?_
 rintro m w6 ⟨rfl,rfl⟩;clear x1 x2;go_wp2_with fail;with_reducible refine(ah5 _ g vs _ W.1).mono ?_
 rintro m T ⟨rfl,Q⟩;refine ua Q G M R ?_;clear G M R;intro G M R;obtain⟨HG,HR,HO,HK,W,HC,Q0,Q1,u⟩:=fx (HG.1.below Q) (HR.1.below Q) (HO.1.below Q) (HK.1.below Q) (W.1.below Q) (HC.1.below Q) (az Q Q0.1) (az Q Q1.1) (az Q u.1);replace p:=A (az Q p.1);replace C:=A (ar C.1 Q);clear Q;cases uL:qt g with
 |false =>
  have F:=A (v.1.trans (aD uL));clear uL v;go_wp2_with fail;with_reducible refine(vI 370 _ (by decide)).mono ?_
  rintro m w6 ⟨rfl,rfl⟩;refine zh (e.heap.size+1+1+1,0) 0 370 _ (Y p.1 rfl) (cB p.1 0) ?_;obtain⟨Wf,fY,fD,iC,S⟩:=rl C.1 (show e.heap.size<=e.heap.size+1+1+1 by omega) p.1 u.1 (show e.heap.size+1+1≠e.heap.size+1+1+1 by omega) 370;obtain⟨I,K,E,L⟩:=fh iC;rw[<-fY];simp[LeavesInM,LeavesIn,results,results30,go_sem,S,I,K,E,L];rw[F.1];exact NN _ _ _ (by decide) fD
 |true =>
 replace v:=A (v.1.trans (aA (by rw[uL];decide)));clear uL;go_wp2_with fail;with_reducible refine(zd 370 _).mono ?_
 rintro m w9 ⟨rfl,rfl⟩;obtain⟨W9,ff,bA,R4,kI,Du⟩:=axr T;have Fi:Hid (QuS T (d.length:Int) (j.take 0) W9):=A ⟨⟨_,R4,tR.nil _ _⟩,Y kI rfl,bA,by omega⟩;have jI:=A ff;clear ff bA R4 kI Du;go_wp2_with (rw[<-jI.1]);have jD:=Fi.1;clear Fi jI;go_loopw[43] (λz9 h=>∃f:Nat,f<=j.length/\z9=.int .i64 f/\QuS T (d.length:Int) (j.take f) h) (λz9 _=>j.length-(intOf z9).toNat);case atStart=>exact⟨0,bS _,rfl,jD⟩
 case round =>
  clear jD;obtain⟨f,dg,rfl,hS⟩:=hrel;by_cases aq:f<j.length
  ·obtain⟨cb0,co0,ea,iY,I,K,E,L,y4⟩:=(HC.1.below hS.be).at aq;subst ea;have lW:Hid (j.take (f+1)=j.take f++[j[f]]):=A (jv aq);obtain⟨n,hc⟩:=aK (j[f]);rw[<-hc]at iY I K E L y4 lW;obtain⟨Z,N⟩:=aK (wr.alloc (.cells #[n.dealer,n.row,n.D,n.E,n.S] 92));have aF:Below wr wr Z:=by rw[N];exact bk _ _ _
   have ij:Z.heap[wr.heap.size]?=QC.mk #[n.dealer,n.row,n.D,n.E,n.S] 92:=by rw[N];exact World.alloc_heap_new _ _
   have z1:=Y ij (k:=1) (d:=n.row) rfl;have p0:=U (ar hS.be aF) G;obtain⟨HRD,fR,Gv,cO,HS⟩:=gw (show aN n.dealer from iY.dealer) N ij aF hS;have i0:(0:Int)<=(f:Int):=me f;have i1:(f:Int)<(j.length:Int):=by omega
   have Fj:Hid ((vL (d.length:Int) (j.take f) n.dealer).length<=1000000):=A (by
    have s:=aib (F:=(d.length:Int)) (k:=j.take f) (n:=n.dealer);have h2:=List.length_take_le' f j;omega)
   clear hc iY N ij aF hS;go_wp2_with (rw[<-fR.1]);with_reducible refine(JS n.row (d.length:Int) _).mono ?_
   rintro z13 i ⟨rfl,rfl⟩;cases iz:nF n.row (d.length:Int) with
   |false =>
    have Av:=A (auz (k:=j.take f) iz);clear iz;go_wp2_with fail;go_roundw;case rel =>
     refine⟨f+1,by omega,by go_num,?_⟩;obtain⟨⟨z8,B,hf⟩,sU,w,jT⟩:=HS.1;exact⟨⟨z8,B.below cO.1,by rw[lW.1,Av.1];exact hf.below cO.1⟩,U cO.1 sU,ar w cO.1,bK jT cO.1.size⟩
    case measure=>simp[intOf];omega
   |true =>
    have Av:=A (auy (l:=j.take f) iz);clear iz;obtain⟨⟨z8,B,hf⟩,sU,w,jT⟩:=HS.1;have jt:Hid (∀v9,zf T.heap.size (T.heap.size+1) wr.heap.size (T.heap.size+1+1) z8 (vL (d.length:Int) (j.take f)) n false false v9 Z.drew):=A (λv9 =>
     ⟨λ_=>B.below cO.1.drew,(λm=>by cases m),λ_=>hf.below cO.1.drew,(λm=>by cases m),λo z20 hj=>abu (b:=wr.heap.size) (W:=Z.drew) Gv.1 o z20 hj,U cO.1.drew sU,
      λ_ m=>absurd (pP (hf.own n.dealer) _ m).2 (KT _),by omega,by omega,by omega,eJ (bG Gv.1) (aP _),by omega⟩)
    clear B hf sU w jT;go_wp2_with fail;refine nW (axu Z T.heap.size (T.heap.size+1) wr.heap.size (T.heap.size+1+1) z8 ((vL (d.length:Int) (j.take f))) n) (λz14=>?_) ?_ (λz14 h a=>?_)
    ·exact⟨(aY _ _).drew,(λa=>by cases a),(λa=>by cases a),(λa=>by cases a),(λa=>by cases a),(λa=>by cases a),(λa=>by cases a),(λa=>by cases a),(λa=>by cases a),(λa=>by cases a),jt.1 _⟩
    ·refine⟨?_,?_,?_,?_,?_,?_,?_,?_,?_,?_,?_,trivial⟩;all_goals intro dn z14 h z18 a c
     ·have q:=c.b 11 ((T.heap.size+1),0);have cJ:=a.bx.tab;clear c;go_simp;exact⟨_,rfl,{a with f0:=aB}⟩
     ·have q:=c.b 13 (wr,0);clear c;go_simp;exact⟨_,rfl,{a with f1:=aB}⟩
     ·have q:=c.e 1 54 a.f1;have cJ:=a.bx.cell 0 _ rfl;clear c;go_simp;exact⟨_,rfl,{a with f2:=aB}⟩
     ·have q:=c.b 11 ((T.heap.size+1),0);have cJ:=a.bx.tab;clear c;go_simp;exact⟨_,rfl,{a with f3:=aB}⟩
     ·have q:=c.b 13 (wr,0);clear c;go_simp;exact⟨_,rfl,{a with f4:=aB}⟩
     ·have q:=c.e 4 57 a.f4;have cJ:=a.bx.cell 0 _ rfl;clear c;go_simp;exact⟨_,rfl,{a with f5:=aB}⟩
     ·have q:=c.e 3 56 a.f3;have e1:=c.e 5 58 a.f5;have mp:=a.bx.map0 (c.n 10);refine auv 161 78 56 58 rfl underlying161 mp (ajG h) HRD.1 q e1 ?_;exact⟨_,rfl,{a with f6:=aB}⟩
     ·have q:=c.b 13 (wr,0);have cJ:=a.bx.cell 0 _ rfl;have jd:=a.bx.cell 1 _ rfl;have vK:=a.bx.cell 2 _ rfl;have xE:=a.bx.cell 3 _ rfl;have y4_:=a.bx.cell 4 _ rfl;clear c;go_simp;exact⟨_,rfl,{a with f7:=aB}⟩
     ·have q:=c.e 7 60 a.f7;have O:=bk h #[n.dealer,n.row,n.D,n.E,n.S] 92;clear c;go_simp;exact⟨_,rfl,{a with b:=a.b.trans (O.mono (bK (gQ a.bx.lt.1) a.bx.big)),f8:=(λ_ _=>VJ.new h n 92),bx:=(a.bx.below O)}⟩
     ·have m7:=a.f8 (c.d 8) c.hd;obtain⟨b7,c7,e7,zm⟩:=m7;have e1:=c.e 6 59 a.f6;have e2:=(c.E 8 61).trans e7;have ow:=(a.bx.rows0 c.hd).own n.dealer;have jT:=a.bx.big;have oz:=a.bx;have axx:=gQ a.bx.lt.1;refine auB rfl _ _ rfl (T.heap.size+1+1) _ _ _ e1 ow b7 c7 n e2 zm Fj.1 jT ?_;intro D uq wq8 h8 o8;have vP:=oz.app c.hd (c.n 10) o8 h8;exact⟨_,rfl,{a with b:=a.b.trans ((fH ow o8.1 jT).mono axx),f8:=(λ_ h2=>absurd (show true=false from h2) (by decide)),bx:=(vP)}⟩
     ·have Wt:=c.d 9;have q:=c.e 0 53 a.f0;have e1:=c.e 2 55 a.f2;have e2:=c.E 9 62;have mp:=a.bx.map0 c.hd;have oz:=a.bx;refine auw 161 78 53 55 62 rfl underlying161 mp HRD.1 (z14 9) q e1 e2 ?_;rintro wq B ⟨ob,eb⟩ hk;have hz:wq.heap.size=h.heap.size:=by rw[eb];simp[Go.ChangeMaps.setBlock]
      have bq:Below T Z wq:=by rw[eb];exact afp a.b (aP _)
      have Fk:=oz.turn Wt B hz hk;exact⟨undef,rfl,{a with b:=bq,f8:=(λ_ h2=>absurd (Wt.symm.trans h2) (by decide)),bx:=(Fk)}⟩
    simp only[jG,Act.put,Nat.reduceAdd,dD];have cA:=a.b;have gb:=a.bx;clear a;go_wp2_with fail;go_roundw;case rel =>
     refine⟨f+1,by omega,by go_num,?_⟩;obtain⟨-,sU,w,jT⟩:=HS.1;exact⟨⟨_,gb.map1 rfl,by rw[lW.1,Av.1];exact gb.rows1 rfl⟩,gb.tab,w.trans ((cO.1.mono w.size).trans cA),bK jT (bK cO.1.size cA.size)⟩
    case measure=>simp[intOf];omega
  ·obtain rfl:f=j.length:=by omega
   rw[m9]at hS;obtain⟨⟨z8,B,hf⟩,sU,w,jT⟩:=hS;refine ua w G M R ?_;clear G M R;intro G M R;obtain⟨HG,HR,HO,HK,W,HC,Q0,Q1,u⟩:=fx (HG.1.below w) (HR.1.below w) (HO.1.below w) (HK.1.below w) (W.1.below w) (HC.1.below w) (az w Q0.1) (az w Q1.1) (az w u.1);replace p:=A (az w p.1);replace C:=A (ar C.1 w);obtain⟨i,rfl⟩:=aK wr;obtain⟨HMZ,BI,Q3w⟩:=bJ B hf p.1;obtain⟨vT,Nn,GH,ajI,ajJ,Wu⟩:=axt i (.slice a1 d.length k1) (.slice a2 l.length k2);obtain⟨R5,R6,jV,Ko,Kp,acd⟩:=aiO vT (.slice a1 d.length k1) (.slice a2 l.length k2) (.slice a4 g.length k4);have d0:=U GH G;have d1:=U GH M;have Fi:Hid (G2 i (.slice a1 d.length k1) (.slice a2 l.length k2) (.slice a4 g.length k4) (qj d l t j g 0) R5):=A ⟨(),(),ar GH jV,az jV ajI,az jV ajJ,
    by rw[Wu]at Ko;exact Ko,by rw[Wu]at Kp;exact Kp,iv _ _ _ _,iv _ _ _ _,λD m=>by cases m⟩
   have Kq:Hid (i.heap.size+4<=R5.heap.size):=A (by omega);obtain⟨ajK,ajL,R7⟩:=bJ Nn Wu R6;have t0:=sU;have wT:=A (show ∀n∈j,C5 n from by obtain⟨_,_,_,_,_,hr,_⟩:=HC.1;exact hr);clear B hf sU w jT Nn GH ajI ajJ Wu R6 jV Ko Kp acd;go_wp2_with (rw[<-ajK.1]);with_reducible refine(aif _ _ a4 g.length k4 _ ⟨_,_,_,rfl⟩ ⟨_,_,_,rfl⟩).mono ?_
   rintro m ZK ⟨rfl,rfl⟩;rw[<-R7.1,ajL.1];clear d0 d1 R7 ajK ajL;go_wp2_with fail;refine aik (P:=160) (K:=#[(i.heap.size+1+1+1,0),(i.heap.size+1+1,0)]) (s:=(gh d g g.length).length)
    (fi:=λo=>#[.int .i64 (qd d g o).dealer,.agg #[.int .i64 (qd d g o).dealer,(vs (qx d g o)).1,(vs (qx d g o)).2]]) rfl aie (λ_=>rfl)
    (λo=>G2 i (.slice a1 d.length k1) (.slice a2 l.length k2) (.slice a4 g.length k4) (qj d l t j g o)) ?seq ?qH Fi.1
    (λo z3 z19=>(((z19.setIfInBounds 69 (.int .i64 (qd d g o).dealer)).setIfInBounds 70 (.agg #[.int .i64 (qd d g o).dealer,(vs (qx d g o)).1,(vs (qx d g o)).2])).setIfInBounds 16 (.int .i64 (qd d g o).dealer)).setIfInBounds 17 (.pointer (some ⟨z3,0,none⟩)))
    (λo z3 h=>G2 i (.slice a1 d.length k1) (.slice a2 l.length k2) (.slice a4 g.length k4) (qj d l t j g o) h/\i.heap.size+4<=z3/\h.heap[z3]?=QC.mk #[.int .i64 (qd d g o).dealer,(vs (qx d g o)).1,(vs (qx d g o)).2] 84) ?Pk ?assign ?body ?done
   case seq=>exact aih i (i.heap.size+1+1+1) (i.heap.size+1+1) _ _ _ d g vs HR.1 ⟨_,_,_,rfl⟩ W.1 _ (λo h a=>by
    obtain⟨z15,z11,a⟩:=a;exact⟨a.be,Y a.ds rfl,Y a.pr rfl,Y a.pr rfl⟩)
   case qH=>exact λo h W' a hs=>a.sim (by have:=Kq.1;omega) hs
   case Pk=>exact λo z3 h W' ⟨a,h2,h3⟩ hs=>⟨a.sim (by have:=Kq.1;omega) hs,h2,hs.cells _ _ h3 rfl⟩
   case assign =>
    intro ll o h z21 hI aq hK;obtain⟨hi,-,-⟩:=VV aq;obtain⟨_,_,-,fk⟩:=W.1.at hi;obtain⟨ca,cc,e1,-⟩:=fk.cs;obtain⟨pa,pc,e2,-⟩:=fk.ps;rw[e1,e2]at hK ⊢
    gi_wp2
    obtain⟨z15,z11,a⟩:=hI;exact hK h.heap.size _ ⟨⟨z15,z11,a.below (bk _ _ _)⟩,a.big,World.alloc_heap_new _ _⟩ (ft.alloc _ _)
   case body =>
    intro ll o z3 Wb hM aq;obtain⟨⟨z15,z11,r⟩,hX4,hX⟩:=hM;obtain⟨hi,zx,zZ⟩:=VV aq;obtain⟨_,_,-,fk⟩:=W.1.at hi;rw[<-zx]at zZ fk;have CU:=A (avo (c:=l) (F:=t) (q:=j) aq);generalize (vs (qx d g o)).1=v1 at *;generalize (vs (qx d g o)).2=v2 at *;obtain⟨k,hd⟩:=aK (qd d g o);rw[<-hd]at zZ fk hX CU;simp only[<-hd];clear zx hd;obtain⟨ca,cc,rfl,-,JM,-⟩:=id fk.cs;obtain⟨pa,pc,rfl,-⟩:=id fk.ps;obtain⟨HFD,qW,F,HX,R8⟩:=gw (MP.1 zZ) fk r hX (show aN k.dealer from fk.r);have jE:=(HMZ.1.below (w':=Wb) (r.be.mono (Oc rfl)));have lJ:=jE.look underlying161 (ajG Wb) R8.1;have mJ:xD Wb (uH z8 k.dealer) (vL (d.length:Int) j k.dealer):=(BI.1.below r.be).cmps _ (λn hc=>wT.1 n (Cq.1 hc).1) (by have:=aib (F:=(d.length:Int)) (k:=j) (n:=k.dealer);omega);have g0:=U r.be t0;have ji:Hid (Calls prog 90 #[uH z8 k.dealer,.func (.func 88) #[] #[(e,0),(e.heap.size+1,0),.pointer (some ⟨z3,0,none⟩)]] Wb λm w'=>m=.returned (.bool ((vL (d.length:Int) j k.dealer).any (M5 d l t k)))/\Below Wb Wb w'):=A
     (aur _ _ (M5 d l t k) _ _ Wb mJ aut (λn hc w' rS=>by
      have eG:=ar r.be rS;have s:=(Cq.1 hc).2;rw[cu]at s;have h2:=s.2;unfold nF at h2;rw[cu,fU,fU]at h2;exact auu e.heap.size (e.heap.size+1) z3 _ _ _ _ _ d l t k n w' (HG.1.below eG) (HR.1.below eG) (HO.1.below eG) (HK.1.below eG) (fk.cs.below eG) (fk.ps.below eG) (U eG G) (U eG M) (U eG R) (U rS (Y hX rfl)) (U rS (Y hX rfl)) (U rS (Y hX rfl)) (wT.1 n (Cq.1 hc).1) h2 eT.1.len (λz10 a=>(eT.1.own z10 a).1) vN.1))
    rw[avp]at ji;simp only[vZ,zH,AV];clear r zZ fk hX jE mJ
    gi_wp2
    refine⟨trivial,rfl,Hw (CallsIn.inRound ll ((Dz (n:=0)).2 ji.1)) ?_⟩;rintro m W3 ⟨rfl,aJ⟩;clear ji lJ g0;obtain⟨tk,Wv,HK3⟩:=bJ (F.1.below aJ) (az aJ HX.1) (MB aJ);clear aJ;cases Cf:j.any (GX d l t k) with
    |true =>
     replace CU:=A (CU.1.trans (aA (by unfold Nf;rw[Cf];decide)));clear Cf
     gi_wp2
     exact⟨HK3.1,_,_,by rw[CU.1];exact tk.1⟩
    |false =>
    replace CU:=A (CU.1.trans (aD (by unfold Nf;rw[Cf];decide)));clear Cf;have HQL:Hid ((qj d l t j g o).length<=g.length):=A aiK;have Ww:Hid (∀z16∈qj d l t j g o,tO d z16):=A aiJ;generalize qj d l t j g o=c at *;have x0:W3.cell? (i.heap.size+1,0)=some z15:=Y tk.1.ro rfl;have x1:W3.cell? ⟨z3,1,none⟩=some (.slice ca k.cs.length cc):=Y Wv.1 rfl;have x2:W3.cell? (i,3)=some z11:=Y tk.1.rk rfl;have z2:=cB tk.1.rk 3;have ql:=A (qW.1.cs.below tk.1.be);obtain⟨ajM,bT⟩:=GP HFD.1.com;have lC:=A ajM;have RZ:Hid ((eW c).length<=64):=A (by rw[xA];have:=HQL.1;omega);have BV:=A bT;clear ajM bT;cases c with
    |nil =>
     obtain⟨La,Lc,rfl⟩:=xI tk.1.oL;have pF:0<k.cs.length:=by
      rw[BV.1];exact eT.1.cols
     obtain⟨cb,co,rfl⟩:∃b z10,ca=some ⟨b,z10,none⟩:=by
      obtain⟨b,z10,m,-⟩:=ints_at ql.1 pF;exact⟨b,z10,m⟩
     clear pF;have vB:=A (amf _ k.cs W3 ql.1 ⟨_,_,_,_,rfl⟩)
     gi_wp2
     refine⟨trivial,rfl,Hw (CallsIn.inRound ll ((Dz (n:=0)).2 vB.1)) ?_⟩;rintro m W4 ⟨V5,rfl,hv5,z⟩;clear vB;obtain⟨Va,Vc,rfl⟩:=xI hv5;have E:W4.cell? (i,3)=some z11:=U z x2;have z4:=abD z x2 z2;obtain⟨W5,dk⟩:=aK (W4.setCell (i,3) (.slice Va k.cs.length Vc));have Sb:Hid (oA i (.slice a1 d.length k1) (.slice a2 l.length k2) (.slice a4 g.length k4) (.slice La (eW []).length Lc) (.slice Va k.cs.length Vc) (eW []) (lH ([]++[k])) W5):=A (by rw[dk];exact tk.1.first z hv5);have HK5:Hid (ft Wb W5):=A (by rw[dk];exact HK3.1.trans ((MB z).trans (ft.setCell _ _ _)));have gX:=A dk;clear dk hv5 z;have u0:W5.cell? (i.heap.size+1,0)=some _:=Y Sb.1.ro rfl;obtain⟨Z,N⟩:=aK (W5.alloc (.cells #[k.dealer] 3));have aF:Below W5 W5 Z:=by rw[N];exact bk _ _ _
     have ja:Hid (Z.cell? (W5,0)=k.dealer):=A (by rw[N];exact Y (World.alloc_heap_new _ _) rfl);obtain⟨H,Wx,fR⟩:=bJ (Sb.1.below aF) (HK5.1.trans (MB aF)) N;have px:Hid ((eW []).length<=1000000):=A (by have:=RZ.1;omega);clear aF N
     gi_wp2_with (first|rw[<-gX.1]|rw[<-fR.1]|(gi_at_builtin;refine ail rfl _ _ rfl (i.heap.size+4) _ _ _ rfl H.1.oL W5.heap.size 1 k.dealer rfl ja.1 px.1 H.1.big ?_;intro v8 w9 h8 g8 l8;have r8:=((fH H.1.oL g8 H.1.big).block _ (by omega)).trans H.1.ro;have y8:w9.cell? (i.heap.size+1,0)=some _:=Y r8 rfl;have f8:=cB r8 0;have H8:=A h8;have G8:=A g8;have L8:=A l8;obtain⟨g9,k9,c9,Gr⟩:=UA h8;subst Gr;clear h8 g8 l8 r8))
     have B:=H.1.more (z:=k.dealer) G8.1 H8.1 L8.1;rw[<-aiL]at B;refine(show ft Wb _/\G2 i _ _ _ (qj d l t j g (o+1)) _ from ?_);rw[CU.1];exact⟨Wx.1.trans ((aiM H.1.oL G8.1).trans (ft.setCell _ _ _)),_,_,B⟩
    |cons x y =>
     obtain⟨La,Lc,rfl⟩:=xI tk.1.oL;have qf:=A (ah2 (L:=x::y) (by simp) Ww.1);obtain⟨z0,hn⟩:∃z0,z0=(lH (x::y)).length:=⟨_,rfl⟩;have nY:z0=k.cs.length:=hn.trans (qf.1.2.trans BV.1.symm);obtain⟨D,cap,hVe,-,-,-⟩:=aiN tk.1.oV (by rw[qf.1.2];exact eT.1.cols);rw[<-hn]at hVe;subst hVe;obtain⟨dG,Kn⟩:=aR hn nY;have n1:(((eW (x::y)).length:Int)==0)=false:=eH.2 (by rw[xA];simp;omega);clear hn nY
     gi_wp2
     gi_loopw[19,20,87] (λ_ _ z9 z17=>∃f:Nat,f<=k.cs.length/\z9=.int .i64 f/\oA i (.slice a1 d.length k1) (.slice a2 l.length k2) (.slice a4 g.length k4) (.slice La (eW (x::y)).length Lc) (.slice (some ⟨D,0,none⟩) z0 cap) (eW (x::y)) (vQ (lH (x::y)) k.cs f) z17/\ft Wb z17) (λ_ _ z9 _=>k.cs.length-(intOf z9).toNat)
     case atStart=>exact⟨0,bS _,rfl,by rw[avq];exact tk.1,HK3.1⟩
     case round =>
      obtain⟨f,dg,rfl,hv,hk⟩:=hrel;by_cases pR:f<k.cs.length
      ·obtain⟨b2,o2,ea,q2⟩:=ints_at (qW.1.cs.below hv.be) pR;subst ea;have pY:f<(lH (x::y)).length:=by rw[<-dG.1,Kn.1];exact pR
       have ho:=hv.oV;rw[Dm,<-dG.1]at ho;have hgx:((vQ (lH (x::y)) k.cs f).map (Value.int .i64))[f]?=some (.int .i64 (J (lH (x::y)) f)):=by
        rw[tY,fw (by rw[Dm];exact pY),<-avs (b:=k.cs) pY,di (by rw[Dm];exact pY)];rfl
       have hg0:=avv ho (by rw[Kn.1];exact pR) hgx;clear ho hgx;obtain⟨Bq,ML,Km⟩:=hg0;have hpc:wr.cell? (i,3)=some (.slice (some ⟨D,0,none⟩) z0 cap):=Y hv.rk rfl;have hae:El (J (lH (x::y)) f):=by rw[di pY];exact qf.1.1 _ (bM pY)
       have Fo:El k.cs[f]:=lC.1 _ (bM pR);have AU:=avt (e:=lH (x::y)) (b:=k.cs) pY;rw[di pR]at AU;obtain⟨z5,hz⟩:=aK (k.cs[f]);obtain⟨z6,ha⟩:∃z6,z6=J (lH (x::y)) f:=⟨_,rfl⟩;rw[<-hz]at q2 Fo AU;rw[<-ha]at ML hae AU;have J5:Hid (∀h,Calls prog 92 #[.int .i64 z6,.int .i64 z5] h λz13 w'=>z13=.returned (.tuple #[(z6*z5%2147483579:Int),(0:Int)])/\Below h h w'):=A (λh=>(Ej z6 z5 h hae Fo).mono λz13 w' a=>⟨a.1,a.2▸aY _ _⟩);obtain⟨z12,B⟩:=aK (z6*z5%2147483579);rw[<-B]at AU J5;have Wq:Hid (∀h,Calls prog 70 #[z12,(0:Int)] h λz13 w'=>z13=.returned z12/\Below h h w'):=A (λh=>(JT z12 h).mono λz13 w' a=>⟨a.1,a.2▸aY _ _⟩);obtain⟨Dx,Sc,dq⟩:=bJ AU Bq pR;have Rp:Hid (wr.drew.cell? (i,3)=some (.slice (some ⟨D,0,none⟩) z0 cap)/\wr.drew.cell? ⟨D,f,none⟩=some (.int .i64 z6)):=A ⟨hpc,ML⟩;have E4:Hid (wr.drew.frozen? ⟨D,f,none⟩=false):=A Km;have mz:Hid (AK wr D f z12 false wr.drew):=A ⟨⟨wr.drew,(aY _ _).drew,by simp⟩⟩;obtain⟨HVK,HKK⟩:=aR hv hk;have i0:(0:Int)<=(f:Int):=me f;have i1:(f:Int)<(k.cs.length:Int):=by omega
       have i2:(f:Int)<(z0:Int):=by rw[Kn.1];exact i1
       clear B ha hz AU hae Fo hpc Km ML Bq pY hv hk
       gi_wp2
       refine Zq (by kernel_rfl) (λ⟨_,_,a⟩=>a) (axv wr i.heap.size D z0 cap f z6 z5 z12) (λz14=>?_) ?_ (λz14 h a=>?_)
       ·exact⟨(aY _ _).drew,(λa=>by cases a),(λa=>by cases a),(λa=>by cases a),(λa=>by cases a),(λa=>by cases a),(λa=>by cases a),(λa=>by cases a),(λa=>by cases a),(λa=>by cases a),(λa=>by cases a),(λa=>by cases a),(λa=>by cases a),(λa=>by cases a),(λa=>by cases a),(λ_=>Rp.1),(λ_=>E4.1),mz.1⟩
       ·refine⟨?_,?_,?_,?_,?_,?_,?_,?_,?_,?_,?_,?_,?_,?_,?_,trivial⟩;all_goals intro dn z14 h z18 a c
        ·have q:=c.b 14 (i,0);clear c;go_simp;exact⟨_,rfl,{a with f0:=aB}⟩
        ·have q:=c.e 0 92 a.f0;have cJ:=(a.zc (c.n 14)).1;clear c;go_simp;exact⟨_,rfl,{a with f1:=aB}⟩
        ·have q:=c.b 19 (f:Int);clear c;go_simp;exact⟨_,rfl,{a with f2:=aB}⟩
        ·have q:=c.b 14 (i,0);clear c;go_simp;exact⟨_,rfl,{a with f3:=aB}⟩
        ·have q:=c.e 3 95 a.f3;have cJ:=(a.zc (c.n 14)).1;clear c;go_simp;exact⟨_,rfl,{a with f4:=aB}⟩
        ·have q:=c.b 19 (f:Int);clear c;go_simp;exact⟨_,rfl,{a with f5:=aB}⟩
        ·have q:=c.e 4 96 a.f4;have e1:=c.e 5 97 a.f5;clear c;go_simp;exact⟨_,rfl,{a with f6:=aB}⟩
        ·have q:=c.e 6 98 a.f6;have cJ:=(a.zc (c.n 14)).2;clear c;go_simp;exact⟨_,rfl,{a with f7:=aB}⟩
        ·have q:=c.b 20 (.int .i64 z5);clear c;go_simp;exact⟨_,rfl,{a with f8:=aB}⟩
        ·have q:=c.e 7 99 a.f7;have e1:=c.e 8 100 a.f8;have n14:=(c.n 14);clear c;go_simp;with_reducible refine(J5.1 h).mono ?_
         rintro m wq ⟨rfl,O⟩;exact⟨_,rfl,{a with b:=a.b.trans (O.mono (gQ (eJ Sc.1 (a.st.size)))),f9:=aB,zc:=((λs=>⟨U O (a.zc s).1,U O (a.zc s).2⟩)),fr:=((λs=>abD O (a.zc s).2 (a.fr s))),st:=((a.st.below n14 O))}⟩
        ·have q:=c.e 9 101 a.f9;clear c;go_simp;exact⟨_,rfl,{a with f10:=aB}⟩
        ·have q:=c.e 9 101 a.f9;clear c;go_simp;exact⟨_,rfl,{a with f11:=aB}⟩
        ·have q:=c.e 10 102 a.f10;have e1:=c.e 11 103 a.f11;have n14:=(c.n 14);clear c;go_simp;with_reducible refine(Wq.1 h).mono ?_
         rintro m wq ⟨rfl,O⟩;exact⟨_,rfl,{a with b:=a.b.trans (O.mono (gQ (eJ Sc.1 (a.st.size)))),f12:=aB,zc:=((λs=>⟨U O (a.zc s).1,U O (a.zc s).2⟩)),fr:=((λs=>abD O (a.zc s).2 (a.fr s))),st:=((a.st.below n14 O))}⟩
        ·have q:=c.e 1 93 a.f1;have e1:=c.e 2 94 a.f2;clear c;go_simp;exact⟨_,rfl,{a with f13:=aB}⟩
        ·have e1:=c.e 13 105 a.f13;have e2:=c.e 12 104 a.f12;have u3:=(a.zc c.hd).2;have g3:=a.fr c.hd;have s9:=a.st.put c.hd f z12;clear c;go_simp;exact⟨undef,{a with b:=a.b.setCell (aP _) _,zc:=((λs=>by cases s)),fr:=((λs=>by cases s)),st:=(s9)}⟩
       simp only[jG,Act.put,Nat.reduceAdd,dD];obtain⟨Y2,an,hY2⟩:=a.st.done;have qT:Hid (oA i (.slice a1 d.length k1) (.slice a2 l.length k2) (.slice a4 g.length k4) (.slice La (eW (x::y)).length Lc) (.slice (some ⟨D,0,none⟩) z0 cap) (eW (x::y)) (vQ (lH (x::y)) k.cs (f+1)) h):=A (by
        rw[hY2,<-Dx.1];exact(HVK.1.below an).put (by rw[Dm];exact dG.1))
       have yZ:Hid (ft Wb h):=A (by rw[hY2];exact HKK.1.trans ((MB an).trans (ft.setCell _ _ _)));clear a an hY2
       gi_wp2
       go_roundw;case rel=>exact⟨f+1,dq.1,by go_num,qT.1,yZ.1⟩
       case measure =>
        simp[intOf];omega
      ·obtain rfl:f=k.cs.length:=by omega
       have Sb:Hid (oA i (.slice a1 d.length k1) (.slice a2 l.length k2) (.slice a4 g.length k4) (.slice La (eW (x::y)).length Lc) (.slice (some ⟨D,0,none⟩) z0 cap) (eW (x::y)) (lH (x::y++[k])) wr):=A (by
        rw[avu (by simp),<-avr,show(lH (x::y)).length=k.cs.length from dG.1.symm.trans Kn.1];exact hv)
       have HK5:=A hk;clear hv hk;have u0:wr.cell? (i.heap.size+1,0)=some _:=Y Sb.1.ro rfl;obtain⟨Z,N⟩:=aK (wr.alloc (.cells #[k.dealer] 3));have aF:Below wr wr Z:=by rw[N];exact bk _ _ _
       have ja:Hid (Z.cell? (wr,0)=k.dealer):=A (by rw[N];exact Y (World.alloc_heap_new _ _) rfl);obtain⟨H,Wx,fR⟩:=bJ (Sb.1.below aF) (HK5.1.trans (MB aF)) N;have px:Hid ((eW (x::y)).length<=1000000):=A (by have:=RZ.1;omega);clear aF N
       gi_wp2_with (first|rw[<-fR.1]|(gi_at_builtin;refine ail rfl _ _ rfl (i.heap.size+4) _ _ _ rfl H.1.oL wr.heap.size 1 k.dealer rfl ja.1 px.1 H.1.big ?_;intro v8 w9 h8 g8 l8;have r8:=((fH H.1.oL g8 H.1.big).block _ (by omega)).trans H.1.ro;have y8:w9.cell? (i.heap.size+1,0)=some _:=Y r8 rfl;have f8:=cB r8 0;have H8:=A h8;have G8:=A g8;have L8:=A l8;obtain⟨g9,k9,c9,Gr⟩:=UA h8;subst Gr;clear h8 g8 l8 r8))
       have B:=H.1.more (z:=k.dealer) G8.1 H8.1 L8.1;rw[<-aiL]at B;refine(show ft Wb _/\G2 i _ _ _ (qj d l t j g (o+1)) _ from ?_);rw[CU.1];exact⟨Wx.1.trans ((aiM H.1.oL G8.1).trans (ft.setCell _ _ _)),_,_,B⟩
   case done =>
    intro z7 h hD hI np hO;obtain⟨z15,z11,r⟩:=hI;rw[abC,<-Sa.1]at r;obtain⟨u,p,C⟩:=bJ (az r.be u.1) (az r.be p.1) (ar C.1 r.be);have hDz:i.heap.size+4<=z7:=bK Kq.1 hD;have qA:e.heap.size+1+1+1<i.heap.size:=bG Q3w.1;have kQ:=mF (c:=h) (b:=z7) (d:=i.heap.size) (.deferred none) (by omega) np rfl;have hE:=v.1;rw[<-Sa.1]at hE;have Ww:Hid (∀z16∈X,tO d z16):=A (by rw[Sa.1,<-abC];exact aiJ);clear v;by_cases hq:X=[]
    ·have F:=A (hE.trans (aD hq));clear Sa hE;subst hq;obtain⟨La,Lc,rfl⟩:=xI r.oL;have x0:h.cell? (i.heap.size+1,0)=some (.slice La 0 Lc):=Y r.ro rfl;obtain⟨Wp,rz⟩:=aK (h.putObj z7 (.deferred none));rw[<-rz]at kQ;obtain⟨q2,q3,Fx,ma,AT⟩:=gw (kQ.cells _ _ u.1 rfl) (kQ.cells _ _ p.1 rfl) (C.1.trans ((nf kQ).mono (by omega))) np rz;clear r rz kQ np hO;go_wp2_with fail;with_reducible refine(vI 370 _ (by decide)).mono ?_
     rintro m w6 ⟨rfl,rfl⟩;refine Rg (by simp) ma.1 ?_;rw[<-AT.1];refine zh (e.heap.size+1+1+1,0) 0 370 _ (Y q3.1 rfl) (cB q3.1 0) ?_;obtain⟨Wf,fY,fD,iC,S⟩:=rl Fx.1 (show e.heap.size<=e.heap.size+1+1+1 by omega) q3.1 q2.1 (show e.heap.size+1+1≠e.heap.size+1+1+1 by omega) 370;obtain⟨I,K,E,L⟩:=fh iC;rw[<-fY];simp[LeavesInM,LeavesIn,results,results30,go_sem,S,I,K,E,L];rw[F.1];exact NN _ _ _ (by decide) fD
    ·have F:=A (hE.trans (aA hq));obtain⟨La,Lc,rfl⟩:=xI r.oL;obtain⟨Va,Vc,rfl⟩:=xI r.oV;have x0:h.cell? (i.heap.size+1,0)=some (.slice La (eW X).length Lc):=Y r.ro rfl;have hn:0<(eW X).length:=by rw[xA];exact SR.2 hq
     have v0:h.cell? (i,0)=(0:Int):=Y r.rk rfl;have v1:h.cell? (i,1)=some (.slice a1 d.length k1):=Y r.rk rfl;have v2:h.cell? (i,2)=some (.slice a2 l.length k2):=Y r.rk rfl;have v3:h.cell? (i,3)=some (.slice Va (lH X).length Vc):=Y r.rk rfl;have b0:h.cell? (e.heap.size+1+1,0)=(0:Int):=Y u.1 rfl;have b1:h.cell? (e.heap.size+1+1,1)=some (.slice none 0 0):=Y u.1 rfl;have b2:h.cell? (e.heap.size+1+1,2)=some (.slice none 0 0):=Y u.1 rfl;have b3:h.cell? (e.heap.size+1+1,3)=some (.slice none 0 0):=Y u.1 rfl;have q:h.cell? (e.heap.size+1+1+1,0)=(0:Int):=Y p.1 rfl;obtain⟨f0,f1,f2,f3⟩:=wm u.1;have f4:=cB p.1 0;obtain⟨We,hWe,bE,Kr,ajN⟩:=axs h (e.heap.size+1+1) (0:Int) (.slice a1 d.length k1) (.slice a2 l.length k2) (.slice Va (lH X).length Vc) _ u.1;obtain⟨Wd,nr⟩:=aK (We.setCell (e.heap.size+1+1+1,0) (0:Int));have far:∀f,f≠e.heap.size+1+1->f≠e.heap.size+1+1+1->Wd.heap[f]?=h.heap[f]?:=λf s h2=>by rw[nr,dJ _ _ _ _ h2];exact Kr f s
     have tV:Wd.drew.heap[z7]?=some (.deferred (some [])):=(far z7 (by omega) (by omega)).trans np;have e2:Wd.drew.heap[e.heap.size+1+1]?=QC.mk #[(0:Int),.slice a1 d.length k1,.slice a2 l.length k2,.slice Va (lH X).length Vc] 33:=by
      show Wd.heap[_]?=_;rw[nr,dJ _ _ _ _ (show e.heap.size+1+1≠e.heap.size+1+1+1 by omega)];exact bE
     have e3:Wd.drew.heap[e.heap.size+1+1+1]?=QC.mk #[(0:Int)] 29:=by
      show Wd.heap[_]?=_;rw[nr];exact cK ((Kr _ (by omega)).trans p.1) 0 _
     have vu:Below e e Wd.drew:=by rw[nr];exact((ajN C.1 (by omega)).setCell (show e.heap.size<=e.heap.size+1+1+1 by omega) _).drew
     obtain⟨Wp,rz⟩:=aK (Wd.drew.putObj z7 (.deferred none));have Kt:=mF (c:=Wd.drew) (b:=z7) (d:=i.heap.size) (.deferred none) (by omega) tV rfl;rw[<-rz]at Kt;obtain⟨zA,Hi,Fx⟩:=bJ (Kt.cells _ _ e2 rfl) (Kt.cells _ _ e3 rfl) (vu.trans ((nf Kt).mono (by omega)));have hML:X.length<=64:=by
      have s:=aiK (a:=d) (c:=l) (F:=t) (q:=j) (l:=g) (d:=(gh d g g.length).length);rw[abC,<-Sa.1]at s;omega
     have hCM:=ah2 hq Ww.1;have HIL:Hid (RI Wp (.slice La (eW X).length Lc) (eW X)):=A (RI.own (Gq (abt (p:=Wd.drew) r.oL (λD m=>by have:=(pP r.oL D m).1;exact far D (by omega) (by omega))) Kt) (λz5 hz=>by
      obtain⟨z16,hx,rfl⟩:=ey.1 hz;have:=(Ww.1 z16 hx).dealer;exact aN.mk (by omega) (by omega)) (by rw[xA];omega))
     have HIV:Hid (RI Wp (.slice Va (lH X).length Vc) (lH X)):=A (RI.own (Gq (abt (p:=Wd.drew) r.oV (λD m=>by have:=(pP r.oV D m).1;exact far D (by omega) (by omega))) Kt) (λz5 hz=>(hCM.1 z5 hz).r64) (by rw[hCM.2];have:=eT.1.cols_le;omega));rw[hWe]at nr;obtain⟨HWe,Fy,AT⟩:=bJ nr tV rz;clear hWe bE Kr ajN nr far tV e2 e3 vu rz Kt hML hCM;clear r kQ np hO;go_wp2_with fail;with_reducible refine(zd 370 _).mono ?_
     rintro m w6 ⟨rfl,rfl⟩;go_wp2_with fail;go_region;rw[<-HWe.1];go_wp2_with fail;refine Rg (by simp) Fy.1 ?_;rw[<-AT.1];refine aij _ _ ?_;obtain⟨I,K,E,L⟩:=fh zA.1;have S:=Y Hi.1 (k:=0) (d:=(0:Int)) rfl;simp[LeavesInM,LeavesIn,results,results30,go_sem,S,I,K,E,L];rw[F.1];exact⟨_,_,rfl,Fx.1,(λm=>absurd rfl m),λ_=>⟨HIL.1,_,rfl,HIV.1⟩⟩
