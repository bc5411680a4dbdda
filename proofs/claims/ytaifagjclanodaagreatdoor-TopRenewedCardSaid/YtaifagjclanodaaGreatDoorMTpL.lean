/- TopRenewed: a key is dealt by up to three dealers. -/
import Derived.Test.YtaifagjclanodaaGreatDoorMMvL
import Derived.Test.YtaifagjclanodaaGreatDoorMKgS
import Derived.Test.YtaifagjclanodaaGreatDoorMKgJ
set_option maxHeartbeats 16000000
set_option maxRecDepth 100000
namespace Go.Proofs.YtaifagjclanodaaGreatDoor
open Go.Proofs.Tryz
open Go.RowKit FP
variable{d:List Value}{c:V}{a:ak}
theorem axy{h:World}{i l f:Nat}{j:TypeId}{g:Value}(k:h.ownsRow i j l g f d)(hn:0<f):∃e b,g=.slice (some ⟨e,0,none⟩) f b:=by
 rcases k.2 with⟨rfl,n⟩|⟨e,b,m,rfl,-⟩
 ·omega
 ·exact⟨e,b,rfl⟩
theorem ajO(b:World)(f:Int)(cv pv:Value):∃e,e=b.alloc (.cells #[f,cv,pv] 84)/\Below b b e/\e.heap[b.heap.size]?=QC.mk #[f,cv,pv] 84:=⟨_,rfl,bk _ _ _,World.alloc_heap_new _ _⟩
theorem axz(b:World)(e:Nat)(g h f i:Value):b.grownBy (putKey b e g h f i) (some e):=iW (iW (iW (Rs _ _ _ _) (Rs _ _ _ _)) (Rs _ _ _ _)) (Rs _ _ _ _)
theorem axA{m i:V}{h f:Nat}{e:List Dl}(j:uK a c m e)(l:bH a c=0)(ha:f<a.length):∀g∈nJ a c i h f e,C5 g:=λg b=>by
 unfold nJ at b;split at b
 ·rename_i k;rw[jJ.1 b];exact avO (abN (j.getD k)) l ha _
 ·cases b
def Hl(a:ak)(e:V)(b:Nat):bF:=(List.range b).map (lV a e)
theorem axB(a:ak)(e:V)(b:Nat):Hl a e (b+1)=Hl a e b++[((b:Int),cz (a.getD b []) e)]:=Af _ _
theorem ajP{g:Func}{p i j k l:Tmp}{h:TypeId}(m:g.results=#[.cell p h,.tmp i,.tmp j,.tmp k,.tmp l])(b:Array Value)(f:Program)(e:World):
  (results g b).run f e=((asAddr (b.getD p undef)).run f e).andThen λn e₁=>((loadVar h n).run f e₁).andThen λz e₂=>.ok (.tuple #[z,b.getD i undef,b.getD j undef,b.getD k undef,b.getD l undef]) e₂:=by
 simp only[results,m];simp[Result.andThen]
def Ku(e:Nat):V:=(List.range e).map λ(b:Nat)=>(b:Int)+2
def zG(b:Nat):V:=(Ku b).map (bm 4)
theorem axC(b:Nat):zG (b+1)=zG b++[bm 4 ((b:Int)+2)]:=by
 unfold zG Ku;rw[sP,gJ,gJ];rfl
theorem Wy(b:Nat):(zG b).length=b:=by simp[zG,Ku]
theorem acg(e:Nat):∀k∈zG e,El k:=λk b=>by
 obtain⟨f,-,rfl⟩:=ey.1 b;exact fJ fO _
theorem axD(g:bH a c=0)(j:∀l∈c,l<16):KeysOf c (Ku 16) (zG 16) where
 eq:=rfl
 sec s hs:=by
  obtain⟨o,h,rfl⟩:=ey.1 hs;have:=dT.1 h;omega
 ok:=⟨by rw[Wy];omega,λk i=>.inr (acg 16 k i),λb e=>by
  have m:=j b e;have n:=(fs g).own b e;have f:b.toNat<(zG 16).length:=by rw[Wy];omega
  refine⟨by rw[Wy];omega,?_⟩;rw[di f];have:=(acg 16 _ (bM f)).lo;omega⟩
 own b e:=((fs g).own b e).1
theorem axE(g:bH a c=0)(f:∀h∈c,h<16){e:Nat}(b:e<c.length):gO c (Ku 16) e=c[e]+2:=by
 have i:=f _ (bM b);have j:=(fs g).own _ (bM b);unfold gO Ku;rw[di b,di (by simp;omega),gj,Ct];omega
structure axF(q:World)(k n g j i h:Nat)(o:List Value)(p l:Int)(e:Nat->Bool)(f:Nat->Value)(m:World):Prop where
 b:Below k q m
 f0:KQ e f 0 (n,2)
 f1:KQ e f 1 (.slice (g,0) j i)
 f2:KQ e f 2 h
 f3:KQ e f 3 (n,2)
 f4:KQ e f 4 (.slice (g,0) j i)
 f5:KQ e f 5 h
 f6:KQ e f 6 (g,h*3)
 f7:KQ e f 7 (g,h*3+2)
 f8:KQ e f 8 p
 f9:KQ e f 9 l
 f10:KQ e f 10 (g,h*3)
 f11:KQ e f 11 (g,h*3+2)
 cp:Dv k g j i (h*3+2) o l (e 12) m
structure axG(o:World)(s p:Nat)(m l:Value)(h i j g:Nat)(k:Value)(q n:Int)(e:Nat->Bool)(f:Nat->Value)(r:World):Prop where
 b:Below o o r
 f0:KQ e f 0 (.agg #[(0:Int),m,l,.slice (h,i) g j])
 f1:KQ e f 1 k
 f2:KQ e f 2 n
 f3:KQ e f 3 (0:Int)
 f4:KQ e f 4 true
 f5:KQ e f 5 true
 f6:KQ e f 6 (p,3)
 f7:KQ e f 7 (.slice (h,i) g j)
 f8:KQ e f 8 g
 f9:KQ e f 9 (.agg #[m,l])
 f10:KQ e f 10 g
 f11:KQ e f 11 true
 f12:KQ e f 12 true
 f13:KQ e f 13 true
 f14:KQ e f 14 (p,3)
 f15:KQ e f 15 (.slice (h,i) g j)
 f16:KQ e f 16 (h,i)
 f17:KQ e f 17 q
 f18:KQ e f 18 q
 f19:KQ e f 19 true
 f20:KQ e f 20 true
 f21:KQ e f 21 true
 f22:KQ e f 22 (.agg #[(0:Int),m,l,.slice (h,i) g j])
 f23:KQ e f 23 k
 f24:KQ e f 24 true
 f25:KQ e f 25 true
 f27:KQ e f 27 k
 f28:KQ e f 28 n
 f29:KQ e f 29 true
 f30:KQ e f 30 true
theorem axH(z0:Nat)(z4:Int)(rv ov:Value)(a:ak)(c:V)(n:Nat)(l:Int)(W0 H:World)
  (hW:Below W0 W0 H) (hB:W0.heap.size<=z0) (hG:gz W0) (hR:bI W0 rv a) (hO:aM W0 ov c) (hD:dO z0 z4 H) (hm:z4+2000<1000000)
  (hF:aiR a c) (hn:1<=n/\n<=3) (xq:0<=l/\l<256):
  Calls prog 6 #[.agg #[rv,ov],(z0,0),.int .i64 n,.int .u8 l] H λk w'=>(∃lv sv,k=.returned (.tuple #[.agg #[(0:Int),(),(),()],lv,sv,false,true]) \/
   ∃cv z1 r,k=.returned (.tuple #[.agg #[(0:Int),rv,ov,cv],lv,.int .i64 z1,true,true])/\RI w' cv (bt (z1::r))/\RS w' lv (bV a (z1::r))/\dU a c z1 r)/\dO z0 (z4+2000) w'/\H.grownBy w' (some z0):=by
 obtain⟨W1,aE,au,aI,dP⟩:=ee H rv ov 25;have bX:W1.heap.size=H.heap.size+1:=by rw[aE];simp
 obtain⟨W2,cG,an,bE,gS⟩:=lF W1 (0:Int) () () () 33;have s:Below H H W2:=ar au an;obtain⟨hp,axI⟩:bH a c=0/\bh a<=16:=⟨(EO hF.1).2.1,(EO hF.1).2.2⟩;have AI:=(fs hp).cols;have r8:a.length<=8:=hF.2.2.1;have r0:0<a.length:=hF.2.1;obtain⟨HD,HB,iV,HG,HR,HO,HP,kt,iR⟩:=fx (hD.below s) (ar hW s) hD.lt hG hR hO hp hB hm;have tK:=A (fs hp).len;obtain⟨de,vN⟩:=aR hF.2.2.2 (axD hp hF.2.2.2);obtain⟨nc,kE⟩:∃z1z,bh a=z1z+1:=⟨bh a-1,by omega⟩;have HNC:=A kE;have Sd:Hid (nc<=15):=A (by omega);rw[bX]at bE;obtain⟨Q1,Q2⟩:=aR (az an aI) bE;rw[aE]at cG;have kG:=A cG;have dG:Hid (∀b h:Nat,H.heap.size<=b->some (⟨b,h,none⟩:Addr).block≠some z0):=A (λb h s k=>by
  have P:=hD.lt;simp at k;omega)
 obtain⟨qw,gM⟩:=aR (lK (r:=some z0) s) xq;have n3:=hn.2;have n1:=hn.1;clear hW hB hG hR hO hD hm hF xq s au an aI bE bX gS dP aE cG hp axI AI kE hn;obtain⟨a1,k1,rfl,-,eI,-⟩:=id HR.1;obtain⟨a2,k2,rfl,-,dR,-⟩:=id HO.1;go_enter func6,ntmps6;go_wp2_with (rw[<-kG.1]);go_loopw[9,10,13,42] (λz5 z1 z3 j L=>∃g:Nat,g<=16/\z5=()/\z1=(0:Int)/\j=g/\L.ownsRow W2.heap.size 3 1 z3 g ((zG g).map (Value.int .i64))/\Below W2 W2 L) (λ_ _ _ j _=>16-(intOf j).toNat);case atStart=>exact⟨0,bS _,rfl,rfl,rfl,iv _ _ _ _,aY _ _⟩
 case round =>
  obtain⟨g,dg,rfl,rfl,rfl,W,s⟩:=hrel;obtain⟨xa,xc,hx⟩:=xI W;subst hx;by_cases aq:g<16
  ·have i1:decide ((g:Int)<16)=true:=bB (by omega);have qA:IntKind.i64.wrap ((g:Int)+2)=(g:Int)+2:=jw _ (by omega);obtain⟨kq,eF,dq⟩:=bJ W s aq;clear W s;go_wp2_with fail;with_reducible refine(vf 4 ((g:Int)+2) _ fO (by unfold aN;omega)).mono ?_
   rintro k R ⟨rfl,aU⟩;obtain⟨M,hy⟩:∃M,M=bm 4 ((g:Int)+2):=⟨_,rfl⟩;rw[<-hy];obtain⟨W5,dk⟩:=aK (R.alloc (.cells #[.int .i64 M] 3));have y:Below R R W5:=by rw[dk];exact bk _ _ _
   have yW:Hid (W5.cell? (R,0)=some (.int .i64 M)):=A (by rw[dk];exact Y (World.alloc_heap_new _ _) rfl);have wR:=A (dM (dM kq.1 aU) y);have ajQ:=ar eF.1 aU;have kF:=A (ar ajQ y);have HN5:Hid (g<=1000000):=A (by omega);obtain⟨Kk,gX⟩:=aR kF.1.size dk;have Wz:Hid ((zG g).map (Value.int .i64)++[.int .i64 M]=(zG (g+1)).map (Value.int .i64)):=A (by rw[axC,gJ,hy];rfl);clear dk y ajQ aU hy;go_wp2_with (first|rw[<-gX.1]|(at_builtin;refine zX rfl _ _ rfl W2.heap.size g _ _ rfl wR.1 R.heap.size 1 M rfl yW.1 HN5.1 Kk.1 ?_;intro v9 w9 T g9;have H9:=A T;have B9:=A (fH wR.1 g9 Kk.1);clear T g9));go_roundw;case rel=>exact⟨g+1,dq.1,rfl,rfl,by go_num,by rw[<-Wz.1];exact H9.1,kF.1.trans B9.1⟩
   case measure =>
    have T:=dq.1;simp[intOf];omega
  ·obtain rfl:g=16:=by omega
   have Oy:RI wr (.slice xa 16 xc) (zG 16):=RI.own (n:=16) W (λz Q=>(acg 16 z Q).r64) (by rw[Wy];omega);obtain⟨w3,PO⟩:=aK wr;subst PO;have HK:=A Oy;obtain⟨HD,HB,qw,Q1,Q2⟩:=gw (HD.1.below s) (ar HB.1 s) (fT qw.1 (s.mono qw.1.size)) (az s Q1.1) (az s Q2.1);obtain⟨b,bO⟩:∃b:Nat,l%4=b/\b<4:=⟨(l%4).toNat,by omega,by omega⟩;obtain⟨i,D8⟩:∃i:Nat,(l/4)%(a.length:Int)=i/\i<a.length:=⟨((l/4)%(a.length:Int)).toNat,by have:=Og (l/4) (b:=(a.length:Int)) (by omega);omega,by have:=Og (l/4) (b:=(a.length:Int)) (by omega);have:=Int.emod_lt_of_pos (l/4) (b:=(a.length:Int)) (by omega);omega⟩;obtain⟨yS,HAA⟩:=aR bO D8;have Se:i<a.length:=D8.2;have ajR:=A (gP.nil w3.heap.size w3);obtain⟨C,Nh⟩:=aK (Ku 16);obtain⟨keys,tJ⟩:=aK (zG 16);rw[<-Nh,<-tJ]at vN;rw[<-tJ]at HK;have HSO:Hid (∀j (hi:j<c.length),gO c C j=c[j]+2):=A (λj hi=>by rw[Nh];exact axE HP.1 de.1 hi);clear Oy W s aq dg bO D8 Nh tJ;go_wp2_with fail;go_loopw[9,10,17,18,19,60] (λz5 z1 z8 z10 z12 j L=>∃(g:Nat) (x:List Dl) (Z:List DV),g<=n/\z5=()/\z1=(uI (jm b x):Int)/\j=g/\Hid (x.length=g/\uK a c keys x/\Z.map (·.1)=pJ a c C b i x)/\Hid (gP w3.heap.size L Z Z z8 z12 z10 (oD b g) (nJ a c C b i x))/\dO z0 (z4+30*(g:Int)) L/\w3.grownBy L (some z0)) (λ_ _ _ _ _ j _=>n-(intOf j).toNat);case atStart=>exact⟨0,[],[],bS _,rfl,rfl,rfl,A ⟨rfl,λh e=>absurd e (fG _),rfl⟩,ajR,by simpa using HD.1,lK (aY _ _)⟩
   case round =>
    clear ajR;obtain⟨g,x,Z,dg,rfl,rfl,rfl,N,w,hd,G⟩:=hrel;by_cases aq:g<n
    ·have iL:=(G.block _ (bG Q1.1) (dG.1 _ 0 (aP _))).trans Q1.1;obtain⟨om,dq,iD,kh,xg⟩:=gw iL aq hd G (aiI (u:=jm b x));obtain⟨K,hX⟩:=aK (uI (jm b x));rw[<-hX]at xg ⊢;have HXE:=A hX;have i1:decide ((g:Int)<(n:Int))=true:=bB (by omega);have k6:(g:Int)<3:=by omega
     clear iL hd G hX;go_wp2_with fail;with_reducible refine(Ng z0 _ _ iD.1 (by have P:=iR.1;omega)).mono ?_
     rintro k R ⟨E,rfl,Ad,NJ,Kv⟩;obtain⟨W5,dk⟩:=aK (R.alloc (.cells #[] 3));have y:Below R R W5:=by rw[dk];exact bk _ _ _
     have HU5:Hid (W5.ownsRow R.heap.size 3 1 (.slice (R,0) 0 0) 0 (([]:V).map (Value.int .i64))):=A (by rw[dk];exact World.ownsRow_made _ #[] 0 (aP _) (by unfold maxLen;omega) rfl);obtain⟨HS4,pL⟩:=aR Ad (NJ.below y);have ach:=w.1.dic iD.1 Kv;obtain⟨LX,ajS,axJ⟩:=bJ ach.low (ach.keep y) NJ.lt;have LW:Hid (W5.heap.size=R.heap.size+1):=A (by rw[dk];simp);have oe:=A (fT (iW kh.1 Kv) (y.mono (bK kh.1.size Kv.size)));have hq5:=(y.block _ (bG ((Kv.block _ (bG om.1) (dG.1 _ 0 (aP _))).trans om.1))).trans ((Kv.block _ (bG om.1) (dG.1 _ 0 (aP _))).trans om.1);obtain⟨O,D⟩:=ez hq5;obtain⟨HQ5,VR,gX,NK⟩:=cY hq5 (bK kh.1.size Kv.size) dk (HB.1.trans (rp oe.1 kt.1 HB.1.size));clear dk y Ad NJ Kv hq5 ach iD w kh om;go_wp2_with (rw[<-gX.1]);with_reducible refine(Mh _ _ a c _ (HR.1.below NK.1) (HO.1.below NK.1)).mono ?_
     rintro k w6 ⟨rfl,aF⟩;rw[HNC.1];have VM:IntKind.i64.wrap (nc:Int)=(nc:Int):=jw _ (by have:=Sd.1;omega);obtain⟨HU6,pG,Hm,my,Kw⟩:=gw (dM HU5.1 aF) (pL.1.below aF) (ajS.1.keep aF) (fT oe.1 (aF.mono oe.1.size)) (az aF HQ5.1);have aci:Hid (R.heap.size<w6.heap.size):=A (by have P:=aF.size;have h2:=LW.1;omega);clear aF HU5 pL ajS oe HQ5 NK O D gX;go_wp2_with fail;with_reducible refine(abF z0 _ nc _ pG.1 (by have P:=iR.1;have h2:=Sd.1;omega)).mono ?_
     rintro k w7 ⟨WB,F,rfl,rP,pS,gm,hrf,hd7,NO⟩;obtain⟨HU7,Hn,Ho,tW⟩:=cY (B1 HU6.1 pG.1 (by decide) NO) (Hm.1.dic pG.1 NO) hd7 (iW my.1 NO);have hq7:=(NO.block _ (bG Kw.1) (dG.1 _ 0 (aP _))).trans Kw.1;have O:=Y hq7 (k:=0) (d:=.slice a1 a.length k1) rfl;obtain⟨HQ7,rq,zy⟩:=bJ hq7 rP (And.intro pS gm);have ajT:Hid (R.heap.size<w7.heap.size):=A (eJ aci.1 NO.size);have ajU:Hid (∀b,WB.ownBlock=some b->(Value.slice (R,0) 0 0).ownBlock≠some b):=A (λb s k=>by
      have P:=hrf b s;have h2:=aci.1;have e2:R.heap.size=b:=by injection k
      omega)
     clear rP pS gm hrf hd7 NO hq7 HU6 Hm pG my Kw VM;go_wp2_with fail;go_loopw[22,74] (λz3 j L=>∃(h:Nat) (u:V),h<=a.length/\j=.int .i64 h/\Hid (u.length=h/\∀r∈u,1<=r/\r<=1073741788)/\L.ownsRow R.heap.size 3 1 z3 h (u.map (Value.int .i64))/\dO z0 (z4+30*(g:Int)+1+(nc:Int)+(h:Int)) L/\w3.grownBy L (some z0)/\Hid (gP w3.heap.size L Z Z u17 u19 u18 (oD b g) (nJ a c C b i x))/\Hid (RI L WB F)/\Hid (∀b,WB.ownBlock=some b->z3.ownBlock≠some b)/\Hid (R.heap.size<L.heap.size)) (λ_ j _=>a.length-(intOf j).toNat);case atStart=>exact⟨0,[],bS _,rfl,A ⟨rfl,λr e=>by cases e⟩,HU7.1,by simpa using Ho.1,tW.1,Hn,rq,ajU,ajT⟩
     case round =>
      clear HU7 Hn Ho tW rq ajU ajT aci;obtain⟨h,u,nh,rfl,Fh,W,hd,G,w,rq,Nu,lX⟩:=hrel;obtain⟨xa2,xc2,xe⟩:=xI W;subst xe;by_cases mA:h<a.length
      ·obtain⟨kq,iD,kh,tU⟩:=cY W hd G mA;have j6:(h:Int)<64:=by omega
       clear W hd G;go_wp2_with fail;with_reducible refine(Ng z0 _ _ iD.1 (by have P:=iR.1;have h2:=Sd.1;omega)).mono ?_
       rintro k X ⟨z,rfl,Q,pK,vY⟩;have hzm:z.tmod 1073741788=z%1073741788:=pM Q.1;have hzw:IntKind.i64.wrap (1+z%1073741788)=1+z%1073741788:=jw _ (by omega);obtain⟨r,hu⟩:∃r,r=1+z%1073741788:=⟨_,rfl⟩;have hur:1<=r/\r<=1073741788:=by omega
       obtain⟨W9,ff⟩:=aK (X.alloc (.cells #[.int .i64 r] 3));have v:Below X X W9:=by rw[ff];exact bk _ _ _
       have AJ:Hid (W9.cell? (X,0)=some (.int .i64 r)):=A (by rw[ff];exact Y (World.alloc_heap_new _ _) rfl);obtain⟨NM,Sf,ajV,xR,zE⟩:=gw (dM (B1 kq.1 iD.1 (by decide) vY) v) ((w.1.dic iD.1 vY).keep v) ((rq.1.dic iD.1 vY).below v) (pK.below v) (fT (iW kh.1 vY) (v.mono (bK kh.1.size vY.size)));have Rq:Hid (R.heap.size<W9.heap.size):=A (by
        have P:=lX.1;have h2:=vY.size;have h3:=v.size;omega)
       have vz:=A (gQ Rq.1);have Ma:Hid (h<=1000000):=A (by omega);obtain⟨jI,HU⟩:=aR ff hu;have axK:Hid ((u++[r]).length=h+1/\∀M∈u++[r],1<=M/\M<=1073741788):=A ⟨by rw[fu,Fh.1.1];rfl,λM e=>by
        rcases lN.1 e with e|e
        ·exact Fh.1.2 _ e
        ·rw[jJ.1 e];exact hur⟩
       clear ff v pK vY Q hu hur iD kh kq w rq;go_wp2_with (first|rw[<-HU.1]|rw[<-jI.1]|(at_builtin;refine aaX rfl _ _ rfl R.heap.size h _ _ rfl NM.1 X.heap.size 1 r rfl AJ.1 Ma.1 vz.1 ?_;intro g9 c9 w9 T o9 l9;have H9:=A T;have B9:=A (fH NM.1 o9 vz.1);have axL:=A (Sf.1.away LX.1 NM.1 o9);have axM:=A (ajV.1.apart o9 Nu.1);have D6:=A l9;clear T o9 l9));go_roundw;case rel=>exact⟨h+1,u++[r],tU.1,by go_num,axK,by rw[gJ];exact H9.1,(by have h7:=xR.1.low B9.1 axJ.1;rw[show z4+30*(g:Int)+1+(nc:Int)+((h+1:Nat):Int)=z4+30*(g:Int)+1+(nc:Int)+(h:Int)+1 by omega];exact h7),fT zE.1 (B9.1.mono VR.1),axL,axM,A (λb s k=>by
        have e2:g9=b:=by injection k
        rcases D6.1 with e3|e3
        ·exact Nu.1 b s (e2▸e3)
        ·have:=ajV.1.lt b s;omega),A (eJ Rq.1 B9.1.size)⟩
       case measure =>
        have T:=tU.1;simp[intOf];omega
      ·obtain rfl:h=a.length:=by omega
       have hiu:aM wr (.slice xa2 a.length xc2) u:=aM.own W (λM hy=>dK ⟨by have:=Fh.1.2 M hy;omega,by have:=Fh.1.2 M hy;omega⟩) (by rw[Fh.1.1];omega);have B:=HB.1.trans (rp G kt.1 HB.1.size);have A8:dU a c E F:=⟨fs HP.1,HS4.1,zy.1.2,by rw[zy.1.1,HNC.1]⟩;have yq:tP a c keys (g:Int) E F u:=⟨HP.1,vN.1.ok,⟨by omega,by omega⟩,A8,agv A8 HP.1,Fh.1.1,Fh.1.2⟩;have Kx:=A yq;have mY:=avc (.slice a1 a.length k1) (.slice a2 c.length k2) (.slice xa 16 xc) WB (.slice xa2 a.length xc2) a c keys (g:Int) E F u wr (HG.1.below B) (HR.1.below B) (HO.1.below B) (HK.1.dic HD.1 G).1 (aN.mk (by omega) (by omega)) (dK HS4.1) rq.1.1 hiu;rw[abm.2 yq]at mY;have Fb:=A mY;have hq:=(G.block _ (bG Q1.1) (dG.1 _ 0 (aP _))).trans Q1.1;obtain⟨O,D⟩:=ez hq;obtain⟨ma,m6,HQ⟩:=bJ hd G hq;clear hiu B A8 yq mY W hd G hq rq Nu lX;go_wp2_with fail;with_reducible refine Fb.1.mono ?_
       rintro k S ⟨z7,rfl,Rf,y,NP⟩;obtain⟨m,tV⟩:∃m,m=sG a c keys (g:Int) E F u:=⟨_,rfl⟩;rw[<-tV]at Rf;obtain⟨cv9,pv9,rfl,WC,hxc,hxp⟩:=Rf;obtain⟨d9,cv8,pv8,e9,Uh,Uo,rU⟩:=NP rfl;cases e9;obtain⟨ya,yk,rfl,-⟩:=id hxc;obtain⟨za,zk,rfl,-⟩:=id hxp;obtain⟨I,cH,aF,ij⟩:=ajO S m.dealer (.slice ya m.cs.length yk) (.slice za m.ps.length zk);obtain⟨x0,x1,x2⟩:=jZ ij;have acj:=(w.1.keep y).live (z:=(m,(.slice ya m.cs.length yk,.slice za m.ps.length zk))) ⟨⟨WC,hxc,hxp⟩,Uh,Uo⟩ (λb s k=>by
        have P:=rU b s;have h2:=w.1.low.2.1 b k;omega)
       have Gu:=A acj.low;have R0:=A (ma.1.below y).lt;have axN:Hid (H.heap.size<S.heap.size):=A (eJ (bG HQ.1) y.size);have axO:Hid (w3.heap.size<=S.heap.size):=A (bK m6.1.size y.size);have Hm:=A (acj.keep aF);have Sg:=ar y aF;obtain⟨pG,my,Kw,JP,fR,Fy⟩:=oJ (ma.1.below Sg) (fT m6.1 (Sg.mono m6.1.size)) (az Sg HQ.1) ij cH tV;have rh:Hid (m.ps.length=a.length):=A (by rw[tV];exact(MX Kx.1).2.2);have Sh:Hid (m.dealer=(g:Int)):=A (by rw[tV];exact(MX Kx.1).1);refine jM Sg O D ?_;clear O D;intro O D;clear tV WC hxc hxp Uh Uo rU NP y cH aF ij acj Sg Fb ma m6 HQ w;have br:((m.ps.length:Int)!=(a.length:Int))=false:=by rw[rh.1];simp
       by_cases jF:b=g
       case' pos =>
        have q0:(l%4==(g:Int))=true:=by rw[yS.1.1,jF];simp
        have q1:decide (l%4=(g:Int))=true:=by rw[yS.1.1,jF];simp
        have q2:IntKind.i64.wrap l=l:=jw _ (by have:=gM.1;omega);have q3:l.tmod 4=l%4:=pM gM.1.1;have Dy:(0:Int)<=l/4/\l/4<64:=by have:=gM.1;omega
        have q4:l.tdiv 4=l/4:=Int.tdiv_eq_ediv_of_nonneg gM.1.1;have q5:IntKind.u8.wrap (l/4)=l/4:=N4 Dy.1 (by show _<(256:Int);omega);have q6:IntKind.i64.wrap (l/4)=l/4:=jw _ (by omega);have q7:(l/4).tmod (a.length:Int)=(i:Int):=by rw[pM Dy.1];exact HAA.1.1
        have WD:a.length≠0:=by omega
        have iI:0<m.ps.length:=by rw[rh.1];exact r0
        have lQ:=(Hm.1.tv _ (Ia _ (jJ.2 rfl))).ok.ps;obtain⟨pb,po,ea,-⟩:=ir.at lQ iI;subst ea;obtain⟨W7,eE⟩:=aK (I.alloc (.cells #[] 88));have bz:Below I I W7:=by rw[eE];exact bk _ _ _
        have H7:Hid (W7.ownsRow I.heap.size 88 3 (.slice (I,0) 0 0) 0 []):=A (by rw[eE];exact World.ownsRow_made _ #[] 0 (aP _) (by unfold maxLen;omega) rfl);have WE:Hid (ir W7 (.slice (pb,po) m.ps.length zk) m.ps):=A (ir.below lQ bz);have hZ:=A bz;have Fz:Hid (S.heap.size<I.heap.size):=A (bG JP.1);have hx7:=az bz JP.1;have De:=A hx7;have z2:=Y hx7 (k:=2) (d:=.slice (pb,po) m.ps.length zk) rfl;have jU:=A bz.size;have uu:Hid (0+m.ps.length<=1000000):=A (by rw[rh.1];omega);obtain⟨AP,ou⟩:=aR iI eE;clear lQ iI eE bz hx7 Dy;go_wp2_with (first|rw[<-fR.1]|rw[<-ou.1]|rw[<-jI.1]|(at_builtin;refine asb rfl _ _ rfl I.heap.size 0 (.slice (I,0) 0 0) [] rfl H7.1 (pb,po) zk m.ps rfl WE.1 uu.1 jU.1 ?_;intro v8 X h8 bg;rw[iN,jf]at h8;obtain⟨z6,cap,rfl⟩:=axy h8 AP.1;have q8:=(bg.block _ Fz.1).trans De.1;have y2:=Y q8 (k:=2) (d:=.slice (pb,po) m.ps.length zk) rfl;have g2:=cB q8 2;clear x2 z2;obtain⟨W9,ff⟩:=aK (X.setCell (S,2) (.slice (z6,0) m.ps.length cap));have q9:=cK q8 2 (.slice (z6,0) m.ps.length cap);rw[<-ff]at q9;have x2:=Y q9 (k:=2) (d:=.slice (z6,0) m.ps.length cap) rfl;have H8:=A h8;have ik:=A bg;have RB:=A q9;have jI:=A ff;clear h8 bg q8 q9 ff));clear br;have Ky:i<m.ps.length:=by rw[rh.1];exact Se
        obtain⟨ci,xH⟩:=aK (m.ps[i].2.2);obtain⟨D,iP⟩:=aK ((ci+1)%1073741789);obtain⟨z9,hL⟩:=aK (m.ps.flatMap gW);have HLC:Hid (z9[i*3+2]?=ci):=A (by rw[hL,xH];exact ajx m.ps i Ky);have iY:aN ci:=by
         rw[xH];obtain⟨_,_,_,_,_,hr,-⟩:=WE.1;exact(hr _ (bM Ky)).2.2
        have xy:Hid (∀o,Calls prog 19 #[ci,(1:Int)] o λk w'=>k=.returned D/\Below o o w'):=A (λo=>by rw[iP];exact yr ci 1 o iY (by unfold aN;omega));obtain⟨GV,Ag,CW⟩:=bJ xH iP hL;rw[<-hL]at H8;have BM:Hid (Dv I.heap.size z6 m.ps.length cap (i*3+2) z9 D false W9.drew):=A (by
         rw[jI.1];exact⟨(nM H8.1 Fz.1 _).drew,by simp[World.setCell,World.drew];exact bK hZ.1.size ik.1.size⟩)
        have i0:(0:Int)<=(i:Int):=me i;have iA:(i:Int)<(m.ps.length:Int):=by omega
        clear xH iP hL iY;refine nW (axF W9 I.heap.size S.heap.size z6 m.ps.length cap i z9 ci D) (λz7=>?_) ?_ (λz7 o e=>?_)
        ·exact⟨(aY _ _).drew,ax,ax,ax,ax,ax,ax,ax,ax,ax,ax,ax,ax,BM.1⟩
        ·refine⟨?_,?_,?_,?_,?_,?_,?_,?_,?_,?_,?_,?_,?_,trivial⟩;all_goals intro dn z7 o z8 e f
         ·have q:=f.b 24 (S,0);clear f;go_simp;exact⟨_,rfl,{e with f0:=aB}⟩
         ·have q:=f.e 0 123 e.f0;have cJ:=ajw e.b Fz.1 x2;clear f;go_simp;exact⟨_,rfl,{e with f1:=aB}⟩
         ·have q:=f.b 26 (i:Int);clear f;go_simp;exact⟨_,rfl,{e with f2:=aB}⟩
         ·have q:=f.b 24 (S,0);clear f;go_simp;exact⟨_,rfl,{e with f3:=aB}⟩
         ·have q:=f.e 3 126 e.f3;have cJ:=ajw e.b Fz.1 x2;clear f;go_simp;exact⟨_,rfl,{e with f4:=aB}⟩
         ·have q:=f.b 26 (i:Int);clear f;go_simp;exact⟨_,rfl,{e with f5:=aB}⟩
         ·have q:=f.e 4 127 e.f4;have e1:=f.e 5 128 e.f5;clear f;go_simp;exact⟨_,rfl,{e with f6:=aB}⟩
         ·have q:=f.e 6 129 e.f6;clear f;go_simp;exact⟨_,rfl,{e with f7:=aB}⟩
         ·have q:=f.e 7 130 e.f7;have pF:=e.cp;rw[(f.n 12)]at pF;obtain⟨cJ,-⟩:=pF.get HLC.1;clear f;go_simp;exact⟨_,rfl,{e with f8:=aB}⟩
         ·have q:=f.e 8 131 e.f8;clear f;go_simp;with_reducible refine(xy.1 o).mono ?_
          rintro k wq ⟨rfl,s⟩;exact⟨_,rfl,{e with b:=e.b.trans (s.mono e.cp.wide),f9:=aB,cp:=(e.cp.below s)}⟩
         ·have q:=f.e 1 124 e.f1;have e1:=f.e 2 125 e.f2;clear f;go_simp;exact⟨_,rfl,{e with f10:=aB}⟩
         ·have q:=f.e 10 133 e.f10;clear f;go_simp;exact⟨_,rfl,{e with f11:=aB}⟩
         ·have pF:=e.cp;rw[f.hd]at pF;obtain⟨u0,g0⟩:=pF.get HLC.1;obtain⟨iq,axP⟩:=pF.store;have e1:=f.e 11 134 e.f11;have e2:=f.e 9 132 e.f9;clear f;go_simp;exact⟨undef,{e with b:=e.b.setCell iq _,cp:=(axP)}⟩
        simp only[jG,Act.put,Nat.reduceAdd,dD];have cA:=e.b;obtain⟨WJ,hWJ⟩:=aK o;subst hWJ;have FA:WJ.ownsRow I.heap.size 88 3 (.slice (z6,0) m.ps.length cap) m.ps.length (z9.set (i*3+2) D):=e.cp.ow;rw[CW.1,ajy m.ps i Ky]at FA;have hJ:Below S I WJ:=by
         have P:Below S I X:=(hZ.1.mono (gQ Fz.1)).trans (ik.1.mono (gQ Fz.1));have h2:=P.setCell (p:=(S,2)) (aP _) (.slice (z6,0) m.ps.length cap);rw[<-jI.1]at h2;exact h2.trans (cA.mono (gQ Fz.1))
        have hxj:=(cA.block _ Fz.1).trans RB.1;have Kz:=Hm.1.keepB Gu.1 hJ;obtain⟨DJ,KA⟩:∃z3,z3=dA a c C b i g ((E,F,u):Dl):=⟨_,rfl⟩;have oK:DJ=⟨(g:Int),m.cs,m.ps.set i (m.ps[i].1,m.ps[i].2.1,D)⟩:=by
         have tV:=Fy.1;subst jF;rw[KA,Ag.1,GV.1];have T:=awa (t:=(E,F,u)) (e:=i) Kx.1 vN.1 (by rw[<-tV];exact Ky);rw[T];simp only[<-tV]
         congr 1
         rw[tV];exact((MX Kx.1).2.1).symm
        have hzt:=Kz.tv _ (Ia _ (jJ.2 rfl));have NQ:=Kz.ap _ (Ia _ (jJ.2 rfl));obtain⟨xT,nq⟩:=aK (Value.slice (z6,0) m.ps.length cap);have hpj:ir WJ xT DJ.ps:=by
         rw[nq,oK];exact ir.own FA (λp hp=>by
          obtain⟨_,_,_,_,_,hr,-⟩:=WE.1;rcases List.mem_or_eq_of_mem_set hp with hp|rfl
          ·exact hr p hp
          ·exact⟨(hr _ (bM Ky)).1,(hr _ (bM Ky)).2.1,dK (by rw[Ag.1];dsimp only;omega)⟩) (by rw[Oe,rh.1];omega)
        have htj:dS WJ 88 xT:=by rw[nq];exact dS.own FA
        have Hp:=A ((Kz.sub (p:=Z) (λz Q=>KM _ Q)).live (z:=(DJ,(.slice ya m.cs.length yk,xT))) ⟨⟨by rw[oK];show aN (g:Int);unfold aN;omega,by rw[oK];exact hzt.ok.cs,hpj⟩,hzt.tc,htj⟩ NQ);obtain⟨Ch,Bv⟩:=aK (Value.slice ya m.cs.length yk);rw[<-awl jF,<-Bv]at Hp;have Si:Hid (WJ.heap[S.heap.size]?=QC.mk #[DJ.dealer,Ch,xT] 84):=A (by rw[Bv,nq,oK,<-Sh.1];exact hxj);obtain⟨ack,Er,HQJ⟩:=bJ ((pG.1.low hJ R0.1).mono (show _<=z4+30*((g+1:Nat):Int) by have:=Sd.1;omega)) (fT my.1 (hJ.mono axO.1)) ((hJ.block _ axN.1).trans Kw.1);obtain⟨XJ,Sj⟩:=aK K;subst Sj;obtain⟨IJ,WG⟩:=aK u19;subst WG;have ajW:Hid (XJ=uI (jm b (x++[(E,F,u)]))):=A (by rw[ajl,aD (by rw[N.1.1];exact jF),FN];exact HXE.1);have WH:=A KA;clear Bv nq hpj htj hzt NQ KA oK Kz hxj hJ FA e cA Ky i0 iA x2 q0 q1 q2 q3 q4 q5 q6 q7 WD x0 x1 O D jI RB BM xy GV Ag CW HLC H8 ik ou uu AP jU De Fz hZ WE H7 fR JP Kw my pG Hm Gu
       case' neg =>
        have q0:(l%4==(g:Int))=false:=by rw[yS.1.1];exact eH.2 (by omega)
        have q1:decide (l%4=(g:Int))=false:=by rw[yS.1.1];exact bw (by omega)
        have q2:IntKind.i64.wrap l=l:=jw _ (by have:=gM.1;omega);have q3:l.tmod 4=l%4:=pM gM.1.1;obtain⟨W7,eE⟩:∃o,o=I.alloc (.cells #[g] 3):=⟨_,rfl⟩;have bz:Below I I W7:=by rw[eE];exact bk _ _ _
        obtain⟨Hn,Ho,tW,De⟩:=cY (Hm.1.keep bz) (pG.1.below bz) (fT my.1 (bz.mono my.1.size)) (az bz JP.1);have HC7:Hid (W7.cell? (I,0)=g):=A (by rw[eE];exact Y (World.alloc_heap_new _ _) rfl);have EZ:=A tW.1.size;have MG:Hid ((oD b g).length<=1000000):=A (by rw[abS];have:=abQ b g;omega);obtain⟨ou,xy⟩:=aR eE (λo=>yr K E o (dK xg.1) (dK HS4.1));clear eE bz x0 x1;go_wp2_with (first|rw[<-fR.1]|rw[<-ou.1]|(at_builtin;refine aaX rfl _ _ rfl w3.heap.size (oD b g).length _ _ rfl Hn.1.oi I.heap.size 1 (g:Int) rfl HC7.1 MG.1 EZ.1 ?_;intro g9 c9 X T o9 l9;have ajX:=A (Hn.1.addI T o9 l9);have B8:=A (fH Hn.1.oi o9 EZ.1);have Vz:=A (ajv De.1 Hn.1.oi (by decide) o9);clear T o9 l9));with_reducible refine(xy.1 _).mono ?_
        rintro k WJ ⟨rfl,v⟩;have ack:=A (((Ho.1.low B8.1 HD.1.lt).below v).mono (show _<=z4+30*((g+1:Nat):Int) by have:=Sd.1;omega));have vY:=fT tW.1 B8.1;have Er:=A (fT vY (v.mono vY.size));have Kz:=ajX.1.keep v;obtain⟨DJ,KA⟩:∃z3,z3=dA a c C b i g ((E,F,u):Dl):=⟨_,rfl⟩;have oK:m=DJ:=by rw[KA,av9 (t:=(E,F,u)) Kx.1 vN.1 jF];exact Fy.1
        obtain⟨xT,nq⟩:=aK (Value.slice za m.ps.length zk);obtain⟨Ch,Bv⟩:=aK (Value.slice ya m.cs.length yk);obtain⟨Si,HQJ,Hp⟩:=bJ (az v Vz.1) ((Er.1.block _ (bG Q1.1) (dG.1 _ 0 (aP _))).trans Q1.1) Kz;rw[<-awk jF]at Hp;rw[<-nq,<-Bv]at Hp Si;rw[oK]at Hp Si;obtain⟨XJ,Sj⟩:=aK ((K+E)%1073741789);obtain⟨IJ,WG⟩:=aK (Value.slice (g9,0) ((oD b g).length+1) c9);have ajW:Hid (XJ=uI (jm b (x++[(E,F,u)]))):=A (by rw[ajl,aA (by rw[N.1.1];exact jF),avn,Sj,HXE.1]);rw[<-WG]at Hp ⊢;rw[<-Sj];have WH:=A KA;clear oK;clear Bv nq KA Sj WG Kz v vY q0 q1 q2 q3 x2 O D Hn Ho tW De HC7 EZ MG ou xy ajX B8 Vz fR JP Kw my pG Hm Gu
       all_goals
        have D:=Y HQJ.1 (k:=1) (d:=.slice a2 c.length k2) rfl;go_wp2_with fail;go_loopw[9,10,18,145] (λz5 z1 z10 j L=>∃h:Nat,h<=c.length/\z5=()/\z1=XJ/\j=.int .i64 h/\Hid (gP w3.heap.size L Z (Z++[((DJ,(Ch,xT)):DV)]) u17 IJ z10 (oD b (g+1)) (nJ a c C b i x++xL a c C b i g ((E,F,u):Dl) h))/\Hid (L.heap[S.heap.size]?=QC.mk #[DJ.dealer,Ch,xT] 84)/\dO z0 (z4+30*((g+1:Nat):Int)) L/\w3.grownBy L (some z0)) (λ_ _ _ j _=>c.length-(intOf j).toNat);case atStart=>exact⟨0,bS _,rfl,rfl,rfl,by rw[awp,FN];exact Hp,Si,ack.1,Er.1⟩
        case round =>
         clear Hp Si ack Er HQJ D;obtain⟨h,nh,rfl,rfl,rfl,w,HX,hd,G⟩:=hrel;by_cases mA:h<c.length
         ·have B:=HB.1.trans (rp G kt.1 HB.1.size);obtain⟨ob,oo,ea,qo⟩:=B3 (HO.1.below B) mA;subst ea;have KB:=HSO.1 h mA;have CD:=(fs HP.1).own _ (bM mA);obtain⟨oj,rM⟩:=aK (c[h]);rw[<-rM]at qo KB CD;have hjr:h<a.length:=by have:=tK.1;omega
          have Q:=w.1.tv _ (Ia _ (jJ.2 rfl));obtain⟨mE,mB⟩:=abM (b:=b) (e:=i) (t:=(E,F,u)) Kx.1 vN.1 hjr;have jE:=ar8 (.slice a1 a.length k1) (.slice (ob,oo) c.length k2) Ch xT a c DJ (gO c C h) (h:Int) wr (HG.1.below B) (HR.1.below B) (HO.1.below B) Q.ok.cs Q.ok.ps (dK ⟨by omega,by omega⟩) (by unfold aN;omega);have Tu:=(G.block _ (bG Q1.1) (dG.1 _ 0 (aP _))).trans Q1.1;obtain⟨O,D⟩:=ez Tu;obtain⟨x0,x1,x2⟩:=jZ HX.1;obtain⟨z11,hC⟩:∃z3,z3=pB a c (gO c C h) DJ (h:Int):=⟨_,rfl⟩;have lC:=A (WH.1▸hC);rw[<-hC]at jE;rw[<-WH.1]at mE mB;rw[mE,mB,KB]at jE;obtain⟨cd,cr,D1,E1,S1⟩:=z11;unfold Jq uB at jE;dsimp only at jE;obtain⟨EY,HN0,iD,kh,tU⟩:=gw (awr (a:=a) (c:=c) (g:=C) (b:=b) (e:=i) (k:=g) (t:=(E,F,u)) (i:=h)) (aws (a:=a) (c:=c) (g:=C) (b:=b) (e:=i) (k:=g) (t:=(E,F,u)) (i:=h)) hd G mA;have q2:IntKind.i64.wrap l=l:=jw _ (by have:=gM.1;omega);have q3:l.tmod 4=l%4:=pM gM.1.1;have Dy:(0:Int)<=l/4/\l/4<64:=by have:=gM.1;omega
          have q4:l.tdiv 4=l/4:=Int.tdiv_eq_ediv_of_nonneg gM.1.1;have q5:IntKind.u8.wrap (l/4)=l/4:=N4 Dy.1 (by show _<(256:Int);omega);have q6:IntKind.i64.wrap (l/4)=l/4:=jw _ (by omega);have q7:(l/4).tmod (a.length:Int)=(i:Int):=by rw[pM Dy.1];exact HAA.1.1
          have WD:a.length≠0:=by omega
          have q8:IntKind.i64.wrap (oj+2)=oj+2:=jw _ (by omega);have q0:(l%4==(g:Int))=decide (b=g):=by
           rw[yS.1.1];by_cases k:b=g
           ·rw[bB k,k];simp
           ·rw[bw k];exact eH.2 (by omega)
          have q1:decide (l%4=(g:Int))=decide (b=g):=by
           rw[yS.1.1];by_cases k:b=g
           ·rw[bB k,k];simp
           ·rw[bw k];exact bw (by omega)
          have i0:(0:Int)<=(h:Int):=me h;have i2:(h:Int)<(c.length:Int):=by omega
          have j6:(h:Int)<64:=by omega
          (first|rw[bB jF]at q0 q1|rw[bw jF]at q0 q1)
          have Dx:=A jE;clear jE hC mE mB KB Q hd G Tu B mA CD rM Dy;by_cases hw:b=g/\h=i
          ·(try exact absurd hw.1 jF)
           all_goals
            rw[bB hw]at Dx;have JF:=A (EY.1 hw);have r0_:((h:Int)==(i:Int))=true:=by rw[hw.2];simp
            have r1_:decide ((h:Int)=(i:Int))=true:=by rw[hw.2];simp
            obtain⟨CS,hCS⟩:∃z3,z3=nJ a c C b i x++xL a c C b i g ((E,F,u):Dl) h:=⟨_,rfl⟩;have lS:CS++[⟨cd,cr,D1,E1,S1⟩]=nJ a c C b i x++xL a c C b i g ((E,F,u):Dl) (h+1):=by rw[hCS,JF.1.1,JF.1.2,lC.1,FN]
            have BV:=A lS;have vB:Hid (CS.length<=1000000):=A (by
             have P:=abP (a:=a) (c:=c) (g:=C) (b:=b) (e:=i) (d:=x);have h2:=awt (a:=a) (c:=c) (g:=C) (b:=b) (e:=i) (k:=g) (t:=(E,F,u)) (i:=h);rw[hCS,fu];omega)
            rw[<-hCS]at w;clear lS hCS hw;go_wp2_with fail;with_reducible refine Dx.1.mono ?_
            rintro k w9 ⟨rfl,v⟩;obtain⟨xS,Cg,dI,su⟩:∃o,o=w9.alloc (.cells #[cd,cr,D1,E1,S1] 92)/\Below w9 w9 o/\o.heap[w9.heap.size]?=QC.mk #[cd,cr,D1,E1,S1] 92:=⟨_,rfl,bk _ _ _,World.alloc_heap_new _ _⟩;obtain⟨g0,g1,g2,g3,g4⟩:=Ie su;obtain⟨Mq,GO,iT,Qq⟩:∃o,o=xS.alloc (.cells #[cd,cr,D1,E1,S1] 92)/\Below xS xS o/\o.heap[xS.heap.size]?=QC.mk #[cd,cr,D1,E1,S1] 92:=⟨_,rfl,bk _ _ _,World.alloc_heap_new _ _⟩;have gb:Below wr wr Mq:=(ar v dI).trans (iT.mono (bK v.size dI.size));obtain⟨NR,acm,WI,acn⟩:=cY (w.1.keep gb) (iD.1.below gb) (fT kh.1 (gb.mono kh.1.size)) (az gb HX.1);have axQ:Hid (∀j r,(iM ⟨cd,cr,D1,E1,S1⟩)[j]?=some r->Mq.cell? ⟨xS.heap.size,j,none⟩=some r):=A (λj r hu=>abu Qq j r hu);obtain⟨KC,Ks,aaS⟩:=bJ WI.1.size Cg GO;have q:=U (ar v dI) O;clear Cg GO v dI iT su Qq gb Dx w iD kh HX;go_wp2_with (first|rw[<-Ks.1]|rw[<-aaS.1]|(at_builtin;refine avM rfl _ _ rfl w3.heap.size _ CS CS.length rfl NR.1.os xS.heap.size 1 ⟨cd,cr,D1,E1,S1⟩ rfl axQ.1 vB.1 KC.1 ?_;intro g9 c9 EK zU xO;have aco:=A (NR.1.addS zU xO.1);have KD:=A (fH NR.1.os xO.1 KC.1);have axR:=A (ajv acn.1 NR.1.os (by decide) xO.1);clear zU xO));go_roundw;case rel=>exact⟨h+1,tU.1,rfl,rfl,by go_num,by rw[<-BV.1];exact aco,axR,acm.1.low KD.1 HD.1.lt,fT WI.1 KD.1⟩
            case measure =>
             have T:=tU.1;simp[intOf];omega
          ·rw[bw hw]at Dx;have F0:=HN0.1 hw;rw[<-F0]at w;have r0_:((h:Int)==(i:Int))=decide (h=i):=by
            by_cases k:h=i
            ·rw[bB k,k];simp
            ·rw[bw k];exact eH.2 (by omega)
           have r1_:decide ((h:Int)=(i:Int))=decide (h=i):=by
            by_cases k:h=i
            ·rw[bB k,k];simp
            ·rw[bw k];exact bw (by omega)
           (first|rw[bw (λk=>hw ⟨jF,k⟩)]at r0_ r1_|skip)
           clear F0 hw;go_wp2_with fail;with_reducible refine Dx.1.mono ?_
           rintro k w9 ⟨rfl,v⟩;obtain⟨xS,Cg,dI⟩:∃o,o=w9.alloc (.cells #[cd,cr,D1,E1,S1] 92)/\Below w9 w9 o:=⟨_,rfl,bk _ _ _⟩;have gb:Below wr wr xS:=ar v dI;obtain⟨NR,acm,WI,acn,Ks⟩:=gw (w.1.keep gb) (iD.1.below gb) (fT kh.1 (gb.mono kh.1.size)) (az gb HX.1) Cg;have q:=U gb O;clear Cg v dI gb Dx w iD kh HX;go_wp2_with (rw[<-Ks.1]);go_roundw;case rel=>exact⟨h+1,tU.1,rfl,rfl,by go_num,NR,acn,acm.1,WI.1⟩
           case measure =>
            have T:=tU.1;simp[intOf];omega
         ·obtain rfl:h=c.length:=by omega
          have hse:=awq (a:=a) (c:=c) (g:=C) (b:=b) (e:=i) (d:=x) (t:=(E,F,u)) (m:=c.length) (by have:=tK.1;omega);rw[N.1.1]at hse;rw[<-hse]at w;obtain⟨x0,x1,x2⟩:=jZ HX.1;have Q:=w.1.tv _ (Ia _ (jJ.2 rfl));have HSF:Hid ((∃i n z1z,Ch=.slice i n z1z)/\∃i n z1z,xT=.slice i n z1z):=A (by
           obtain⟨a8,c8,e8,-⟩:=Q.ok.cs;obtain⟨a9,c9,e9,-⟩:=Q.ok.ps;exact⟨⟨_,_,_,e8⟩,⟨_,_,_,e9⟩⟩)
          obtain⟨W9,ff,v,kI⟩:=ajO wr DJ.dealer Ch xT;obtain⟨Sf,xR,zE⟩:=bJ (w.1.keep v) (hd.below v) (fT G (v.mono G.size));have kj:Hid (∀h r,(pH (DJ,(Ch,xT)))[h]?=some r->W9.cell? ⟨wr.heap.size,h,none⟩=some r):=A (avN kI);have HZL:Hid (Z.length<=1000000):=A (by
           have P:=congrArg List.length N.1.2.2;rw[dy,No,N.1.1]at P;omega)
          obtain⟨vz,jI⟩:=aR zE.1.size ff;have ve:Hid ((x++[((E,F,u):Dl)]).length=g+1/\uK a c keys (x++[((E,F,u):Dl)])/\(Z++[((DJ,(Ch,xT)):DV)]).map (·.1)=pJ a c C b i (x++[((E,F,u):Dl)])):=by
           refine A ⟨?_,?_,?_⟩
           ·rw[fu,N.1.1];rfl
           ·exact N.1.2.1.snoc (t:=((E,F,u):Dl)) (by rw[N.1.1];exact Kx.1)
           ·have P:=awm (a:=a) (c:=c) (g:=C) (b:=b) (e:=i) (d:=x) (t:=((E,F,u):Dl));rw[N.1.1,<-WH.1]at P;rw[P,gJ,N.1.2.2,SO]
          clear hse Q ff v kI hd G HX w;go_wp2_with (first|rw[<-jI.1]|(at_builtin;refine avL rfl _ _ rfl w3.heap.size _ Z Z.length rfl Sf.1.oa wr.heap.size 1 (DJ,(Ch,xT)) rfl HSF.1 kj.1 HZL.1 vz.1 ?_;intro g9 c9 EK zU xO;have aco:=A (Sf.1.addA zU xO.1);have KD:=A (fH Sf.1.oa xO.1 vz.1);clear zU xO));refine⟨?_,?_⟩;all_goals first
           |((repeat apply Exists.intro);refine⟨?_,rfl⟩;refine⟨g+1,x++[((E,F,u):Dl)],Z++[((DJ,(Ch,xT)):DV)],dq.1,rfl,?_,?_,ve,aco,xR.1.low KD.1 HD.1.lt,fT zE.1 KD.1⟩;(rw[ajW.1]);go_num)
           |(have T:=dq.1;simp[intOf];omega)
    ·obtain rfl:g=n:=by omega
     have FV:=N.1.1;have B:=HB.1.trans (rp G kt.1 HB.1.size);have Bk:Z.length<=3:=by
      have P:=congrArg List.length N.1.2.2;rw[dy,No,FV]at P;omega
     have mY:=ze.own w.1.oa (λz Q=>(w.1.tv z Q).ok) (by omega);have mJ:=xD.own w.1.os (axA N.1.2.1 HP.1 Se) (by have:=abP (a:=a) (c:=c) (g:=C) (b:=b) (e:=i) (d:=x);omega);rw[N.1.2.2]at mY;have KE:=axw (.slice a1 a.length k1) (.slice a2 c.length k2) (.slice xa 16 xc) u17 u18 a c keys (pJ a c C b i x) (Rx Z) (nJ a c C b i x) wr (HG.1.below B) (HR.1.below B) (HO.1.below B) (HK.1.dic HD.1 G).1 mY mJ;rw[quA N.1.2.1 vN.1 tK.1 Se HP.1 (by omega),abO N.1.2.1 vN.1 tK.1 Se,FV]at KE;have iL:=(G.block _ (bG Q1.1) (dG.1 _ 0 (aP _))).trans Q1.1;have fE:=(G.block _ (bG Q2.1) (dG.1 _ 0 (eP _))).trans Q2.1;obtain⟨O,D⟩:=ez iL;obtain⟨om,zA,l7,wZ,ma,m6⟩:=oJ iL fE B FV hd (iW qw.1 G);obtain⟨wa,wc,hx⟩:=xI w.1.oi;subst hx;obtain⟨gl,Gx⟩:=aK ((oD b g).length);have Sc:Hid (gl<=3):=A (by rw[Gx,abS];have:=abQ b g;omega);have WK:kP b g=[]↔gl=0:=by rw[Gx,abS];exact N5.symm
     rw[<-Gx]at w ⊢;have ND:=A Gx;clear mY mJ B iL fE FV hd G Gx Bk aq;by_cases KF:kP b g=[]
     ·rw[aD KF]at KE;have d0:((gl:Int)==0)=true:=by rw[WK.1 KF];rfl
      have WL:=A KE;clear KE WK KF w;go_wp2_with fail;with_reducible refine WL.1.mono ?_
      rintro k S ⟨z7,kv,rfl,y,ajY,-⟩;obtain⟨rfl,rfl⟩:=ajY (by decide);have hq:=az y zA.1;obtain⟨g0,g1,g2,g3⟩:=fh hq;obtain⟨r0_,r1_,r2_,r3_⟩:=wm hq;obtain⟨S0,S1,S2,S3,kF⟩:=gw (mC g0) (mC g1) (mC g2) (mC g3) y;clear hq y ajY;go_wp2_with (first|rw[S0.1]|rw[S1.1]|rw[S2.1]|rw[S3.1]);try simp only[Exit.inBlock,Exit.then]
      refine gB (v:=.tuple #[.agg #[(0:Int),(),(),()],(),(0:Int),false,true]) ?_ rfl ?_
      ·rw[ajP rfl];go_simp
      ·exact⟨⟨_,_,Or.inl rfl⟩,(ma.1.below kF.1).mono (by omega),fT m6.1 (kF.1.mono m6.1.size)⟩
     ·rw[aA KF]at KE;have hg0:gl≠0:=λk=>KF (WK.2 k);have d0:((gl:Int)==0)=false:=eH.2 (by omega);have WN:kP b x.length≠[]:=by rw[wZ.1];exact KF
      obtain⟨r,hsu,UC⟩:=awj N.1.2.1 (by have:=wZ.1;omega) WN HP.1;have WO:=awg (g:=C) (e:=i) N.1.2.1 (by have:=wZ.1;omega) WN;have Hq:=ajh (a:=a) (c:=c) (g:=C) (b:=b) (e:=i) (d:=x);rw[hsu]at WO;rw[wZ.1]at Hq;have bo:=λ(j:Nat) (hi:j<a.length)=>awi (e:=i) N.1.2.1 vN.1 tK.1 Se HP.1 (by have:=wZ.1;omega) WN hi;rw[hsu,wZ.1]at bo;obtain⟨K,hX⟩:=aK (uI (jm b x));rw[<-hX]at UC WO bo ⊢;obtain⟨AL,hAL⟩:=aK (pJ a c C b i x);obtain⟨WT,hWT⟩:=aK (oD b g);rw[<-hAL]at bo;rw[<-hWT]at bo Hq w ND;obtain⟨Sk,qf,Nm,axS,axT,axU,WL⟩:=qy UC WO Hq bo hAL hWT KE;clear KE WK KF WN hsu UC WO Hq bo hX hAL hWT;go_wp2_with fail;with_reducible refine WL.1.mono ?_
      rintro k S ⟨z7,kv,rfl,y,-,lp⟩;obtain⟨Sl,cv2,rfl,xH⟩:=lp rfl;rw[Nm.1]at Sl;rw[qf.1]at xH;obtain⟨va,vc,rfl,-⟩:=id Sl.1;obtain⟨ca,cc,rfl,-⟩:=id xH.1;have e1:(bt (K::r)).length=bh a:=by rw[At];exact Sk.1.full
      rw[e1]at xH ⊢;rw[<-ND.1]at Sl ⊢;clear e1 lp;have iL:=az y om.1;have fE:=az y zA.1;obtain⟨u0,u1_,u2_,u3_⟩:=fh fE;obtain⟨f0,f1,f2,f3⟩:=wm fE;obtain⟨I,cH⟩:=aK (putKey S (H.heap.size+1) (0:Int) (.slice a1 a.length k1) (.slice a2 c.length k2) (.slice ca (bh a) cc));obtain⟨ja,sO⟩:=aR (cH▸xH.keyW fE (by decide) _ _ _ _) (cH▸Sl.keyW fE (by decide) _ _ _ _);have wX:S.grownBy I (some (H.heap.size+1)):=cH▸axz _ _ _ _ _ _;have WQ:=(w.1.keep y).box fE (by decide) (by decide) (by decide) (by decide) wX;have acp:=ze.own WQ.oa (λz Q=>(WQ.tv z Q).ok) (by
       have P:=congrArg List.length N.1.2.2;rw[dy,No,wZ.1]at P;omega)
      rw[N.1.2.2,<-axT.1]at acp;have ajZ:aM I (.slice wa gl wc) WT:=aM.own WQ.oi (λz Q=>by
       have P:z∈oD b g:=by rw[<-axU.1];exact Q
       obtain⟨h,hj,rfl⟩:=ey.1 P;have:=(RF hj).1;exact aN.mk (by omega) (by omega)) (by have:=ND.1;have:=Sc.1;omega)
      have vU:Below H S I:=cH▸JQ (aY _ S) (eP H.heap.size) _ _ _ _;have dh:=m6.1.size;obtain⟨pG,my,aj0⟩:=bJ ((ma.1.below y).low vU iV.1) (fT (fT m6.1 (y.mono dh)) vU) ((ar l7.1 y).trans (vU.mono (bK kt.1 (gQ iV.1))));have pn:=cH▸MM fE (0:Int) (.slice a1 a.length k1) (.slice a2 c.length k2) (.slice ca (bh a) cc);have Fu:=cH▸(GW S (show H.heap.size≠H.heap.size+1 by omega) (0:Int) (.slice a1 a.length k1) (.slice a2 c.length k2) (.slice ca (bh a) cc)).trans iL;obtain⟨Ka,axV,axW⟩:=bJ pn acp ajZ;unfold putKey at cH;have fR:=A cH;replace O:=Y Fu (k:=0) (d:=.slice a1 a.length k1) rfl;replace D:=Y Fu (k:=1) (d:=.slice a2 c.length k2) rfl;clear cH pn Fu wX WQ acp ajZ vU dh iL fE Sl xH y om zA WL w ma m6 l7;go_wp2_with (rw[<-fR.1]);clear u0 u1_ u2_ u3_ f0 f1 f2 f3 d0;go_loopw[9,10,221] (λz5 z1 j L=>∃h:Nat,h<=gl/\z5=()/\z1=K/\j=.int .i64 h/\L=I) (λ_ _ j _=>gl-(intOf j).toNat);case atStart=>exact⟨0,bS _,rfl,rfl,rfl,rfl⟩
      case round =>
       obtain⟨h,nh,rfl,rfl,rfl,rfl⟩:=hrel;by_cases mA:h<gl
       ·have hjw:h<WT.length:=by have:=ND.1;omega
        obtain⟨pb,po,ea,p0⟩:=B3 axW.1 hjw;obtain⟨qb,qo,eb,p1⟩:=B3 sO.1.1 hjw;subst ea;subst eb;obtain⟨M,hy⟩:=aK (WT[h]);rw[<-hy]at p0 p1;have i0:(0:Int)<=(h:Int):=me h;have i1:(h:Int)<(gl:Int):=by omega
        have j6:(h:Int)<64:=by have:=Sc.1;omega
        have tU:=A mA;clear hy hjw;go_wp2_with fail;go_roundw;case rel=>exact⟨h+1,tU.1,rfl,rfl,by go_num,by trivial⟩
        case measure =>
         have T:=tU.1;simp[intOf];omega
       ·obtain rfl:h=gl:=by omega
        clear mA nh;obtain⟨W7,eE⟩:=aK wr;subst eE;go_wp2_with fail;go_loopw[9,10,237] (λz5 z1 j L=>∃h:Nat,h<=c.length/\z1=K/\j=.int .i64 h/\L.ownsRow W7.heap.size 66 2 z5 h ((Hl a (K::r) h).flatMap gU)/\Below W7 W7 L) (λ_ _ j _=>c.length-(intOf j).toNat);case atStart=>exact⟨0,bS _,rfl,rfl,iv _ _ _ _,aY _ _⟩
        case round =>
         obtain⟨j,OW,rfl,rfl,W,s⟩:=hrel;refine jM s O D ?_;clear O D;intro O D;by_cases Sm:j<c.length
         ·have B:=ar aj0.1 s;obtain⟨ob,oo,ea,qo⟩:=B3 (HO.1.below B) Sm;subst ea;have KB:=HSO.1 j Sm;have CD:=(fs HP.1).own _ (bM Sm);obtain⟨oj,rM⟩:=aK (c[j]);rw[<-rM]at qo KB CD;have hir:j<a.length:=by have:=tK.1;omega
          obtain⟨oE,oV,oR⟩:=axS.1 j hir;have FA:=axg (.slice a1 a.length k1) (.slice (ob,oo) c.length k2) (.slice va h vc) u17 a c (gO c C j) (j:Int) WT AL (Rx Z) wr (HG.1.below B) (HR.1.below B) (HO.1.below B) (dK ⟨by omega,by omega⟩) (by unfold aN;omega) (sO.1.below s).1 (axV.1.below s);rw[oE,oV,oR,KB]at FA;obtain⟨M,hy⟩:∃M,M=cz (a.getD j []) (K::r):=⟨_,rfl⟩;rw[<-hy]at FA;have axX:=A FA;have C6:Hid (Hl a (K::r) (j+1)=Hl a (K::r) j++[((j:Int),M)]):=A (by rw[axB,hy]);have q8:IntKind.i64.wrap (oj+2)=oj+2:=jw _ (by omega);have i0:(0:Int)<=(j:Int):=me j;have i1:(j:Int)<(c.length:Int):=by omega
          have j6:(j:Int)<64:=by omega
          obtain⟨HIT,kq,eF⟩:=bJ Sm W s;clear FA hy oE oV oR KB rM Sm W s B;go_wp2_with fail;with_reducible refine axX.1.mono ?_
          rintro k X ⟨rfl,bg⟩;obtain⟨W9,ff,v,kI,-⟩:=ee X (j:Int) (.int .i64 M) 66;obtain⟨x0,x1⟩:=ez kI;obtain⟨xS,Cg,dI,su,-⟩:=ee W9 (j:Int) (.int .i64 M) 66;have gb:Below wr wr xS:=(ar bg v).trans (dI.mono (bK bg.size v.size));obtain⟨aj1,Fs⟩:=aR (dM kq.1 gb) (ar eF.1 gb);have X0:Hid (xS.cell? (W9,0)=(j:Int)):=A (Y su rfl);have X1:Hid (xS.cell? (W9,0+1)=some (.int .i64 M)):=A (Y su rfl);have axY:Hid (j<=1000000):=A (by omega);obtain⟨aj2,jI,Ks⟩:=bJ Fs.1.size ff Cg;clear ff Cg bg v dI kI su gb;go_wp2_with (first|rw[<-jI.1]|rw[<-Ks.1]|(at_builtin;refine T7 rfl _ _ rfl W7.heap.size _ (Hl a (K::r) j) j rfl aj1.1 W9.heap.size 0 1 ((j:Int),M) rfl X0.1 X1.1 axY.1 aj2.1 ?_;intro g9 c9 EK zU xO;have H12:=A zU;have KD:=A (fH aj1.1 xO.1 aj2.1);clear zU xO));go_roundw;case rel=>exact⟨j+1,HIT.1,rfl,by go_num,by rw[C6.1];exact H12.1,Fs.1.trans KD.1⟩
          case measure =>
           have T:=HIT.1;simp[intOf];omega
         ·obtain rfl:j=c.length:=by omega
          have qN:Hl a (K::r) c.length=bV a (K::r):=by unfold Hl bV;rw[tK.1]
          rw[qN]at W;have xM:RS wr u9 (bV a (K::r)):=RS.own W (λp hp=>by
           obtain⟨f,hq,rfl⟩:=ey.1 hp;have:=dT.1 hq;exact⟨aN.mk (by show _<=(f:Int);omega) (by show(f:Int)<=_;omega),dK (n6 _ _)⟩) (by rw[ju];omega)
          obtain⟨la,lc,rfl,-⟩:=id xM.1;rw[ju]at xM ⊢;obtain⟨vm,eF⟩:=aR xM s;have hXr:=Sk.1.hx;have HXR:=A (dK hXr);clear W s qN xM;go_wp2_with fail;with_reducible refine(vf 4 K _ fO HXR.1).mono ?_
          rintro k X ⟨rfl,bg⟩;have eG:=ar eF.1 bg;refine jM bg O D ?_;clear O D;intro O D;have CI:=ja.1.below eG;have Ao:=vm.1.below bg;have pn:=az eG Ka.1;obtain⟨g0,g1,g2,g3⟩:=fh pn;obtain⟨db,jX,eb,q2⟩:=RH CI.1;subst eb;have acq:=ar aj0.1 eG;obtain⟨Nr,gR⟩:=aK (bm 4 K);rw[<-gR]at q2 ⊢;have C9:Hid (∀o,Below X X o->Calls prog 32 #[.agg #[(0:Int),.slice a1 a.length k1,.slice a2 c.length k2,.slice (db,jX) (bh a) cc],.slice la a.length lc] o λk w'=>k=.returned true/\Below o o w'):=A (λo fo=>by
           have B:=ar acq fo;exact abG 0 _ _ _ _ a c (bt (K::r)) (bV a (K::r)) o (HR.1.below B) (HO.1.below B) (CI.below fo).1 (Ao.below fo).1 (ju _ _) (abT Sk.1 HP.1))
          have ab9:Hid (∀o,Below X X o->Calls prog 27 #[.agg #[.slice a1 a.length k1,.slice a2 c.length k2]] o λk w'=>k=.returned (bh a:Int)/\Below o o w'):=A (λo fo=>by
           have B:=ar acq fo;exact Mh _ _ a c o (HR.1.below B) (HO.1.below B))
          have pF:0<bh a:=by
           have:=Sk.1.prog.cols;omega
          replace Ka:=A pn;obtain⟨Dt,Hb,ik⟩:=bJ CI Ao eG;clear eG bg CI Ao pn acq gR hXr;go_wp2_with fail;refine nW (axG X H.heap.size (H.heap.size+1) (.slice a1 a.length k1) (.slice a2 c.length k2) db jX cc (bh a) (.slice la a.length lc) Nr K) (λz7=>?_) ?_ (λz7 o e=>?_)
          ·exact⟨(aY _ _).drew,ax,ax,ax,ax,ax,ax,ax,ax,ax,ax,ax,ax,ax,ax,ax,ax,ax,ax,ax,ax,ax,ax,ax,ax,ax,ax,ax,ax,ax,ax⟩
          ·refine⟨?_,?_,?_,?_,?_,?_,?_,?_,?_,?_,?_,?_,?_,?_,?_,?_,?_,?_,?_,?_,?_,?_,?_,?_,?_,?_,?_,?_,?_,?_,?_,trivial⟩;all_goals intro dn z7 o z8 e f
           ·have q:=f.b 8 ((H.heap.size+1),0);have cJ:=U e.b g0;have jd:=U e.b g1;have vK:=U e.b g2;have xE:=U e.b g3;clear f;go_simp;exact⟨_,rfl,{e with f0:=aB}⟩
           ·have q:z8.tmps[9]?.getD undef=.slice la a.length lc:=f.hf.2 27 9 rfl (f.n 27);clear f;go_simp;exact⟨_,rfl,{e with f1:=aB}⟩
           ·have q:z8.tmps[10]?.getD undef=K:=f.hf.2 28 10 rfl (f.n 28);clear f;go_simp;exact⟨_,rfl,{e with f2:=aB}⟩
           ·have q:=f.b 41 (0:Int);clear f;go_simp;exact⟨_,rfl,{e with f3:=aB}⟩
           ·have q:=f.e 3 268 e.f3;clear f;go_simp;exact⟨_,rfl,{e with f4:=aB}⟩
           ·have q:=f.e 4 269 e.f4;clear f;go_simp;exact⟨_,rfl,{e with f5:=aB}⟩
           ·refine f.g 5 e.f5 ?_;have q:=f.b 8 ((H.heap.size+1),0);clear f;go_simp;exact⟨_,rfl,{e with f6:=aB}⟩
           ·refine f.g 5 e.f5 ?_;have q:=f.e 6 271 e.f6;have cJ:=U e.b g3;clear f;go_simp;exact⟨_,rfl,{e with f7:=aB}⟩
           ·refine f.g 5 e.f5 ?_;have q:=f.e 7 272 e.f7;clear f;go_simp;exact⟨_,rfl,{e with f8:=aB}⟩
           ·refine f.g 5 e.f5 ?_;have q:=f.b 4 (H,0);have cJ:=U e.b O;have jd:=U e.b D;clear f;go_simp;exact⟨_,rfl,{e with f9:=aB}⟩
           ·refine f.g 5 e.f5 ?_;have q:=f.e 9 274 e.f9;clear f;go_simp;with_reducible refine(ab9.1 o e.b).mono ?_
            rintro k wq ⟨rfl,s⟩;exact⟨_,rfl,{e with b:=ar e.b s,f10:=aB}⟩
           ·refine f.g 5 e.f5 ?_;have q:=f.e 8 273 e.f8;have e1:=f.e 10 275 e.f10;clear f;go_simp;exact⟨_,rfl,{e with f11:=aB}⟩
           ·have q:=f.e 5 270 e.f5;have e1:=f.e 11 276 e.f11;clear f;go_simp;exact⟨_,rfl,{e with f12:=aB}⟩
           ·have q:=f.e 12 277 e.f12;clear f;go_simp;exact⟨_,rfl,{e with f13:=aB}⟩
           ·refine f.g 13 e.f13 ?_;have q:=f.b 8 ((H.heap.size+1),0);clear f;go_simp;exact⟨_,rfl,{e with f14:=aB}⟩
           ·refine f.g 13 e.f13 ?_;have q:=f.e 14 279 e.f14;have cJ:=U e.b g3;clear f;go_simp;exact⟨_,rfl,{e with f15:=aB}⟩
           ·refine f.g 13 e.f13 ?_;have q:=f.e 15 280 e.f15;clear f;go_simp;exact⟨_,rfl,{e with f16:=aB}⟩
           ·refine f.g 13 e.f13 ?_;have q:=f.e 16 281 e.f16;have cJ:=U e.b q2;clear f;go_simp;exact⟨_,rfl,{e with f17:=aB}⟩
           ·refine f.g 13 e.f13 ?_;have q:=f.b 40 Nr;clear f;go_simp;exact⟨_,rfl,{e with f18:=aB}⟩
           ·refine f.g 13 e.f13 ?_;have q:=f.e 17 282 e.f17;have e1:=f.e 18 283 e.f18;clear f;go_simp;exact⟨_,rfl,{e with f19:=aB}⟩
           ·have q:=f.e 13 278 e.f13;have e1:=f.e 19 284 e.f19;clear f;go_simp;exact⟨_,rfl,{e with f20:=aB}⟩
           ·have q:=f.e 20 285 e.f20;clear f;go_simp;exact⟨_,rfl,{e with f21:=aB}⟩
           ·refine f.g 21 e.f21 ?_;have q:=f.b 8 ((H.heap.size+1),0);have cJ:=U e.b g0;have jd:=U e.b g1;have vK:=U e.b g2;have xE:=U e.b g3;clear f;go_simp;exact⟨_,rfl,{e with f22:=aB}⟩
           ·refine f.g 21 e.f21 ?_;have q:z8.tmps[9]?.getD undef=.slice la a.length lc:=f.hf.2 27 9 rfl (f.n 27);clear f;go_simp;exact⟨_,rfl,{e with f23:=aB}⟩
           ·refine f.g 21 e.f21 ?_;have q:=f.e 22 287 e.f22;have e1:=f.e 23 288 e.f23;clear f;go_simp;with_reducible refine(C9.1 o e.b).mono ?_
            rintro k wq ⟨rfl,s⟩;exact⟨_,rfl,{e with b:=ar e.b s,f24:=aB}⟩
           ·have q:=f.e 21 286 e.f21;have e1:=f.e 24 289 e.f24;clear f;go_simp;exact⟨_,rfl,{e with f25:=aB}⟩
           ·have cJ:=U e.b g0;have jd:=U e.b g1;have vK:=U e.b g2;have xE:=U e.b g3;have qJ:=az e.b Ka.1;obtain⟨r0,r1,r2,r3⟩:=wm qJ;have e1:=f.b 8 ((H.heap.size+1),0);have e2:=f.e 0 265 e.f0;have S0:=mC cJ;have S1:=mC jd;have S2:=mC vK;have S3:=mC xE;clear f;clear qJ;go_simp;exact⟨undef,{e with  }⟩
           ·have q:=f.e 1 266 e.f1;clear f;go_simp;exact⟨_,rfl,{e with f27:=aB}⟩
           ·have q:=f.e 2 267 e.f2;clear f;go_simp;exact⟨_,rfl,{e with f28:=aB}⟩
           ·clear f;go_simp;exact⟨_,rfl,{e with f29:=aB}⟩
           ·have q:=f.e 25 290 e.f25;clear f;go_simp;exact⟨_,rfl,{e with f30:=aB}⟩
          simp only[jG,Act.put,Nat.reduceAdd,dD];rw[e.f27 rfl];rw[e.f28 rfl];rw[e.f29 rfl];rw[e.f30 rfl];have cA:=e.b;have HF:=A cA;refine uc cA g0 g1 g2 g3 ?_;clear g0 g1 g2 g3;intro g0 g1 g2 g3;clear e cA q2 O D;go_wp2_with fail;try simp only[Exit.inBlock,Exit.then]
          refine gB (v:=.tuple #[.agg #[(0:Int),.slice a1 a.length k1,.slice a2 c.length k2,.slice (db,jX) (bh a) cc],.slice la a.length lc,K,true,true]) ?_ rfl ?_
          ·rw[ajP rfl];go_simp
          ·exact⟨⟨_,undef,Or.inr ⟨_,K,r,rfl,Dt.1.below HF.1,Hb.1.below HF.1,Sk.1⟩⟩,((pG.1.below ik.1).below HF.1).mono (by omega),fT (fT my.1 (ik.1.mono my.1.size)) (HF.1.mono (bK my.1.size ik.1.size))⟩
