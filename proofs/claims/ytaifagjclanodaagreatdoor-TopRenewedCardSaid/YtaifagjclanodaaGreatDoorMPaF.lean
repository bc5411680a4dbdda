/- Package partial: begin, where all is right. -/
import Derived.Test.YtaifagjclanodaaGreatDoorMKgP
set_option maxHeartbeats 16000000
set_option maxRecDepth 100000
namespace Go.Proofs.YtaifagjclanodaaGreatDoor
open Go.Proofs.Tryz
open Go.RowKit FP
variable{r c e:Int}{d k:Nat}{l g h f n o m:Value}{a i:World}
def AN(d:Nat)(n:Value)(j:V)(a:World):Prop:=aM a n j/\∀b,n.ownBlock=some b->b≠d
theorem AN.below{p:V}{b:World}(j:AN d n p a)(q:Below a a b):AN d n p b:=⟨j.1.below q,j.2⟩
theorem AN.set{p:V}(D:AN d n p a)(z:Value):AN d n p (a.setCell ⟨d,k,none⟩ z):=by
 obtain⟨⟨B,q,rfl,s,t,u,v⟩,j⟩:=D;refine⟨⟨B,q,rfl,s,t,u,λk x=>?_⟩,j⟩;obtain⟨b,y,rfl,w⟩:=v k x;exact⟨b,y,rfl,(jS (.inl (λC=>j b rfl C.symm))).trans w⟩
def zt(p:Int×Int×Int×Int):List aO:=[dB p.1,dB p.2.1,dB p.2.2.1,dB p.2.2.2]
def oB(j:List (Int×Int×Int×Int)):List aO:=j.map λb=>gg (zt b)
theorem avZ{j:List (Int×Int×Int×Int)}{b:Nat}(q:b<(oB j).length)(p:b<j.length):(oB j)[b]=gg (zt j[b]):=gj ..
structure V0(b:List (Int×Int×Int×Int)):Prop where
 who:eU (-1) (b.map (·.1))=true
 no:∀p∈b,0<=p.2.1/\p.2.1<4096
 el:∀p∈b,El p.2.2.1/\El p.2.2.2
structure vS(d:Nat)(c:Int)(h g cv f pv o m:Value)(e r:Int)(l:Value)(j:List (Int×Int×ByteArray×Option Addr×Nat×Nat))(q:List (Int×Int×Int×Int))(k:Nat)(i a:World):Prop where
 row:a.heap[d]?=QC.mk (MF c h g cv f pv m l e r) 74
 own:a.ownsRow (d+1) 72 4 l k (j.flatMap fS)
 who:a.ownsRow (d+1) 3 1 o k (((q.take k).map (·.1)).map (Value.int .i64))
 len:j.length=k
 ins:∀p (s:p<j.length),oy (d+1) l a j[p] ((q.map zt).getD p [])
 b:Below d i a
 big:d<a.heap.size
theorem vS.vl{cv pv:Value}{w:List (Int×Int×ByteArray×Option Addr×Nat×Nat)}{b:List (Int×Int×Int×Int)}(p:vS d c h g cv f pv o m e r l w b k i a)(B:k=b.length)(C:b.length<=64):VL (ig 1) a l (oB b):=by
 have z:=p.len;refine VL.own (R:=ig 1) p.own (by unfold oB;rw[dy];omega) (by unfold oB;rw[dy];omega) λj u v=>?_;obtain⟨x,y,q,s,-⟩:=p.ins j u;have t:(b.map zt).getD j []=zt (b[j]'(by omega)):=by rw[dp (by rw[dy];omega),gj]
 rw[t]at q s;rw[q];exact .inr ⟨x,_,y,_,rfl,s,avZ v _⟩
theorem av0{q:List (Int×Int×Int×Int)}(x:∀p∈q,aN p.1/\aN p.2.1/\aN p.2.2.1/\aN p.2.2.2):∀j∈oB q,j.length<=1000:=by
 intro j y;obtain⟨p,w,rfl⟩:=ey.1 y;obtain⟨s,t,u,v⟩:=x p w;have:=QL (j:=zt p) (y:=11) (by simp[zt]) (by
  intro z b;simp only[zt,iu,oG,oH]at b;rcases b with rfl|rfl|rfl|rfl
  ·exact Bu s
  ·exact Bu t
  ·exact Bu u
  ·exact Bu v)
 simp only[zt,dZ,je]at this ⊢;omega
def sI(p:Int)(j:aO)(b:List (Int×Int×Int×Int)):Int:=BP p j (oB b) b b.length
def xK(j:Int)(b:aO)(p:List (Int×Int×Int×Int)):Int:=uz (fp MC) (gg [dB (sI j b p),dB j,lB b])
theorem ajb(j:Int)(b:aO)(p:List (Int×Int×Int×Int)):0<=xK j b p/\xK j b p<1073741789:=PV _ _
theorem vS.keep{cv pv:Value}{q:List (Int×Int×ByteArray×Option Addr×Nat×Nat)}{s:List (Int×Int×Int×Int)}{p:World}(b:vS d c h g cv f pv o m e r l q s k i a)(j:Below a a p):vS d c h g cv f pv o m e r l q s k i p:=
 ⟨(j.block _ b.big).trans b.row,dM b.own j,dM b.who j,b.len,λu t=>(b.ins u t).below j,b.b.trans (j.mono (gQ b.big)),eJ b.big j.size⟩
theorem vS.set{j:Nat}{cv pv Nj:Value}{Rz RA:Int}{s:List (Int×Int×ByteArray×Option Addr×Nat×Nat)}{t:List (Int×Int×Int×Int)}(b:vS d c h g cv f pv o m e r l s t k i a)(p:Value)(v:(MF c h g cv f pv m l e r).setIfInBounds j p=MF c h g cv f pv Nj l Rz RA):
  vS d c h g cv f pv o Nj Rz RA l s t k i (a.setCell (d,j) p):=by
 have q:=cK b.row j p;rw[v]at q;exact⟨q,nM b.own (pO _) _,nM b.who (pO _) _,b.len,λw u=>(b.ins w u).setL (pO _) _,b.b.setCell (aP _) _,by simpa [World.setCell] using b.big⟩
theorem vS.wrk{cv pv:Value}{D:List (Int×Int×ByteArray×Option Addr×Nat×Nat)}{j:List (Int×Int×Int×Int)}{t:V}{s:aO}(q:vS i.heap.size c h g cv f pv o m e r l D j j.length i a)(u:j.length<=64)(C:∀p∈j,aN p.1/\aN p.2.1/\aN p.2.2.1/\aN p.2.2.2)(y:aM i cv t)(b:0<t.length)(z:fC i f s)(H:s.length<=65536):
  xx i.heap.size c h g cv f pv m l e r (J t 0) s (oB j) a:=by
 obtain⟨K,F,rfl,I,G,w,B⟩:=y.below q.b;obtain⟨v,E,rfl,x⟩:=B 0 b;exact⟨q.row,⟨_,_,_,v,E,rfl,rfl,b,by rw[di b];exact w _ (bM b),by rw[di b];exact x⟩,z.below q.b,by omega,q.vl rfl u,by unfold oB;rw[dy];exact u,av0 C⟩
def abL(c:Int)(h g cv f pv:Value)(v:ak)(t:V)(s:Int)(j:aO)(b:List (Int×Int×Int×Int))(p:World)(w:Ending)(q:World):Prop:=
 ∃d m u,w=.returned (.tuple #[.pointer (some ⟨d,0,none⟩),.int .i64 0])/\xx d c h g cv f pv m u (sI s j b) (xK s j b) s j (oB b) q/\aM q m (bQ v t (b.map (·.1)))/\p.heap.size<=d/\Below p.heap.size p q
theorem av1{cv pv:Value}{F:List (Int×Int×ByteArray×Option Addr×Nat×Nat)}{u:ak}{t:V}{b:List (Int×Int×Int×Int)}{q:V}{j:aO}{s:World}(G:vS i.heap.size c h g cv f pv o m (sI (J q 0) j b) (xK (J q 0) j b) l F b b.length i a)(D:b.length<=64)(E:∀p∈b,aN p.1/\aN p.2.1/\aN p.2.2.1/\aN p.2.2.2)(y:aM i cv q)(v:0<q.length)(z:fC i f j)(C:j.length<=65536)
  (B:aM a m (bQ u t (b.map (·.1)))) (w:s.heap.size<=i.heap.size) (x:Below s s a):abL c h g cv f pv u t (J q 0) j b s (.returned (.tuple #[(i,0),(0:Int)])) a:=
 ⟨i.heap.size,m,l,rfl,G.wrk D E y v z C,B,w,x⟩
theorem ajc(c:Int)(h g cv f pv:Value)(v:ak)(w t:V)(x:aO)(p:List (Int×Int×Int×Int))(z:World)(hG:gz z)(hR:bI z h v)(hO:aM z g w)(hC:aM z cv t)(hT:fC z f x)(hL:vG z pv p)
  (hp:bH v w=0) (hk:ks v c t=true) (h0:0<v.length) (C:x.length<=65536) (hl:V0 p) (hn:0<p.length) (ha:kK v w (p.map (·.1))=true):
  Calls prog 15 #[.agg #[c,h,g,cv],f,pv] z (abL c h g cv f pv v w (J t 0) x p z):=by
 obtain⟨W0,dx,bO,cF,-⟩:=lF z c h g cv 33;obtain⟨Q0,HG,HR,HO,HC,HT,HL⟩:=qy cF (hG.below bO) (hR.below bO) (hO.below bO) (hC.below bO) (hT.below bO) (hL.below bO);obtain⟨K,R,rfl,-,eI,-⟩:=id hR;obtain⟨T,X,rfl,-,dR,-⟩:=id hO;obtain⟨L,G,rfl,-,gC,-⟩:=id hC;obtain⟨Z,tC,rfl,-⟩:=id hT;obtain⟨pA,pC,rfl,-,xt,AO,-⟩:=id hL;obtain⟨M,N,O,P⟩:=fh cF;obtain⟨tr,HB,wV,nS,HA,HK,HP⟩:=qy dx bO AO hl ha hk hp;have IQ:decide ((x.length:Int)>65536)=false:=bw (by omega);have aq:decide ((p.length:Int)>64)=false:=bw (by omega);obtain⟨fA,V1,Mc⟩:=bJ C xt h0;have HAR:Hid (∀ww,bI ww (.slice K v.length R) v->aM ww (.slice L t.length G) t->Calls prog 52 #[.agg #[c,.slice K v.length R,.slice T w.length X,.slice L t.length G]] ww λB D=>B=.returned true/\Below ww ww D):=A (λww F y=>aui c _ _ _ v t ww F ⟨_,_,_,rfl⟩ y hk h0);clear hG hR hO hC hT hL cF dx bO AO hl ha hk hp C h0;have Nk:=A (sW (.slice K v.length R) (.slice T w.length X) v w W0 HR.1 HO.1);rw[HP.1]at Nk;go_enter func15,ntmps15;go_wp2_with (rw[<-tr.1]);refine Nk.1.mono ?_;rintro B w1 ⟨rfl,au⟩;refine uc au M N O P ?_;clear M N O P;intro M N O P;obtain⟨HG,HR,HO,HC,HT,HL,Q0,HB⟩:=DL (HG.1.below au) (HR.1.below au) (HO.1.below au) (HC.1.below au) (HT.1.below au) (HL.1.below au) (az au Q0.1) (ar HB.1 au);clear au;clear Nk tr;go_wp2_with fail;refine(HAR.1 _ HR.1 HC.1).mono ?_;rintro B w2 ⟨rfl,I⟩;refine uc I M N O P ?_;clear M N O P;intro M N O P;obtain⟨HG,HR,HO,HC,HT,HL,Q0,HB⟩:=DL (HG.1.below I) (HR.1.below I) (HO.1.below I) (HC.1.below I) (HT.1.below I) (HL.1.below I) (az I Q0.1) (ar HB.1 I);clear I;clear HAR;go_wp2_with fail;have jU:Hid (∀D,Below w2 w2 D->D.cell? (z,0)=c/\D.cell? (z,1)=some (.slice K v.length R)/\D.cell? (z,2)=some (.slice T w.length X)/\D.cell? (z,3)=some (.slice L t.length G)):=A (λD C=>⟨U C M,U C N,U C O,U C P⟩);have Cb:=jU.1 w2 (aY _ _);go_region_held3 (λD=>D.cell? (z,0)=c/\D.cell? (z,1)=some (.slice K v.length R)/\D.cell? (z,2)=some (.slice T w.length X)/\D.cell? (z,3)=some (.slice L t.length G)) (first|go_keep|exact kf|exact Cb)
  (first|(go_simp;go_at_call 53;(refine(auf _).mono ?_);rintro B u ⟨rfl,aF⟩;have kf:=jU.1 u ((aY _ _).drew.trans aF);have cO:=A ((aY w2.heap.size w2).drew.trans aF);clear aF))
 have hZ:=A cO.1;have Dq:=cO.1;refine uc Dq M N O P ?_;clear M N O P;intro M N O P;obtain⟨HG,HR,HO,HC,HT,HL,Q0,HB⟩:=DL (HG.1.below Dq) (HR.1.below Dq) (HO.1.below Dq) (HC.1.below Dq) (HT.1.below Dq) (HL.1.below Dq) (az Dq Q0.1) (ar HB.1 Dq);clear Dq;clear jU Cb kf cO;have ajd:Hid (Below z z u):=HB;have Pv:Hid (vG u (.slice pA p.length pC) p):=HL;have my:Hid (gz u):=HG;have ja:Hid (aM u (.slice L t.length G) t):=HC;have LY:Hid (fC u (.slice Z x.length tC) x):=HT;have rN:Hid (vS u.heap.size c (.slice K v.length R) (.slice T w.length X) (.slice L t.length G) (.slice Z x.length tC) (.slice pA p.length pC) () () 0 0 () [] p 0 u (u.alloc (.cells #[c,.slice K v.length R,.slice T w.length X,.slice L t.length G,.slice Z x.length tC,.slice pA p.length pC,(),(3:Int),(0:Int),.string ⟨#[]⟩,(),(0:Int),(0:Int)] 74))):=
  A ⟨World.alloc_heap_new _ _,iv _ _ _ _,iv _ _ _ _,rfl,λj q=>absurd q (fG _),bk _ _ _,by simp⟩
 have sX:Hid (∀k,k<(p.map (·.1)).length->mr (-1) ((p.map (·.1)).take k)<(p.map (·.1)).getD k 0/\(p.map (·.1)).getD k 0<=63):=A (λk hk=>by
  have F:=Uz nS.1.who (k+1);rw[Uy hk,cu,cu,fU]at F;rw[dp hk];exact⟨F.2.2,(jo.1 F.2.1).2⟩)
 go_wp2_with fail;go_loopw[6,9,10,41] (λpw o last z3z a=>∃(k:Nat) (aL:Option Addr) (cL:Nat) (aW:Option Addr) (cW:Nat) (qs:List (Int×Int×ByteArray×Option Addr×Nat×Nat)),k<=p.length/\pw=(u,0)/\z3z=.int .i64 k/\last=(mr (-1) ((p.map (·.1)).take k):Int)/\o=.slice aW k cW/\Hid (vS u.heap.size c (.slice K v.length R) (.slice T w.length X) (.slice L t.length G) (.slice Z x.length tC) (.slice pA p.length pC) o () 0 0 (.slice aL k cL) qs p k u a)) (λ_ _ _ z3z _=>p.length-(intOf z3z).toNat);case atStart=>exact⟨0,none,0,none,0,[],bS _,rfl,rfl,rfl,rfl,rN⟩
 case round =>
  clear rN;obtain⟨k,aL,cL,aW,cW,qs,dg,rfl,rfl,rfl,rfl,HI⟩:=hrel;have Q:=HI.1.b;refine uc Q M N O P ?_;clear M N O P;intro M N O P;obtain⟨HG,HR,HO,HC,HT,HL,Q0,HB⟩:=DL (HG.1.below Q) (HR.1.below Q) (HO.1.below Q) (HC.1.below Q) (HT.1.below Q) (HL.1.below Q) (az Q Q0.1) (ar HB.1 Q);clear Q;by_cases aq:k<p.length
  ·obtain⟨aS,cS,eS,-,-,-,cU⟩:=HL.1;obtain⟨pb,po,ea,q1,q2,q3,q4⟩:=cU k aq;simp only[dr]at eS;obtain⟨rfl,-,rfl⟩:=eS;subst ea;have hm:=bM aq;obtain⟨dP,dQ,Ez,EG⟩:=wV.1 _ hm;obtain⟨Aa,oS⟩:=nS.1.no _ hm;obtain⟨he3,he4⟩:=nS.1.el _ hm;have V2:k<(p.map (·.1)).length:=by rw[dy];exact aq
   obtain⟨Dg,nH⟩:=sX.1 k V2;have wX:(p.map (·.1)).getD k 0=p[k].1:=by rw[dp V2,gj]
   have Mt:Hid (mr (-1) ((p.map (·.1)).take (k+1))=p[k].1):=A (by rw[Ux V2,gj]);have HWS:Hid (((p.take (k+1)).map (·.1))=(p.take k).map (·.1)++[p[k].1]):=A (by rw[jv aq,gJ];rfl);have HES:Hid ((p.map zt).getD k []=[dB p[k].1,dB p[k].2.1,dB p[k].2.2.1,dB p[k].2.2.2]):=A (by rw[dp (by rw[dy];exact aq),gj];rfl);rw[wX]at Dg nH;have HZ:Hid ((aN p[k].1/\aN p[k].2.1/\aN p[k].2.2.1/\aN p[k].2.2.2)/\El p[k].2.2.1/\El p[k].2.2.2):=A ⟨⟨dP,dQ,Ez,EG⟩,he3,he4⟩;clear cU hm dP dQ Ez EG he3 he4 V2 wX;generalize p[k].1=H at *;generalize p[k].2.1=z2 at *;generalize p[k].2.2.1=z3 at *;generalize p[k].2.2.2=z4 at *;obtain⟨lst,Cc⟩:=aK (mr (-1) ((p.map (·.1)).take k));rw[<-Cc]at Dg ⊢;clear Cc;have d1:decide (H<=lst)=false:=bw (by omega);have d2:decide (H>=64)=false:=bw (by omega);have d3:decide (z2<0)=false:=bw (by omega);have d4:decide (z2>=4096)=false:=bw (by omega);have Fj:Hid (k<=1000000):=A (by omega);have qB:(0:Int)<=(k:Int):=me k;have bW:(k:Int)<(p.length:Int):=by omega
   obtain⟨W8,ie,bg,dW⟩:=tm wr H z2 z3 z4 59;have Dp:=A ie;obtain⟨x0,x1,x2,x3⟩:=fh dW;obtain⟨ik,I2⟩:=aR bg dW;clear ie bg dW Dg nH Aa oS;go_wp2_with (rw[<-Dp.1]);with_reducible refine(tf z3 _ HZ.1.1.2.2.1).mono ?_
   rintro B w9 ⟨rfl,rfl⟩;rw[show eA z3=true from oU.2 HZ.1.2.1];go_wp2_with fail;with_reducible refine(tf z4 _ HZ.1.1.2.2.2).mono ?_
   rintro B w9 ⟨rfl,rfl⟩;rw[show eA z4=true from oU.2 HZ.1.2.2];obtain⟨W9,ff⟩:=aK (W8.alloc (.cells #[H] 3));have bA:Below W8 W8 W9:=by rw[ff];exact bk _ _ _
   have AJ:Hid (W9.cell? (W8,0)=H):=A (by rw[ff];exact Y (World.alloc_heap_new _ _) rfl);obtain⟨Cd,HR9,jI⟩:=bJ ((HI.1.keep ik.1).keep bA) (az bA I2.1) ff;have vz:Hid (u.heap.size+1<=W9.heap.size):=A (bK HI.1.big (bK ik.1.size bA.size));have RB:Hid ((Value.slice aL k cL).ownBlock≠some wr.heap.size):=A (pQ HI.1.own (.inl (aP _)));clear ff bA;go_wp2_with (first|rw[<-jI.1]|(at_builtin;refine zX rfl _ _ rfl (u.heap.size+1) k _ _ rfl Cd.1.who W8.heap.size 1 H rfl AJ.1 Fj.1 vz.1 ?_;intro v7 pg h7 g7;have H7:=A h7;have G7:=A g7;have B7:=A (fH Cd.1.who g7 vz.1);clear h7 g7));obtain⟨ws,JG⟩:=aK ((p.take k).map (·.1));have V3:=A JG;clear JG;have pD:∀sH nI,ri u.heap.size wr.heap.size (u.heap.size+1) c (.slice K v.length R) (.slice T w.length X) (.slice L t.length G) (.slice Z x.length tC) (.slice (pb,po) p.length pC) v7 (ws++[H]) (.slice aL k cL) k qs (p.map zt) H z2 z3 z4 false false false false sH nI pg.drew:=λsH nI=>by
    have hd:Below pg pg pg.drew:=(aY _ _).drew;have jF:=B7.1.block u.heap.size (pO _);have br:(Value.slice aW k cW).ownBlock≠some wr.heap.size:=pQ HI.1.who (.inl (aP _));have lJ:ws.length=k:=by rw[V3.1,dy,SW];omega
    refine⟨jF.trans Cd.1.row,(G7.1.block _ (bG HR9.1) (λB=>br B.symm)).trans HR9.1,λ_=>(sF Cd.1.own Cd.1.who (by decide) G7.1).drew,ax,?_,ax,RB.1,λj hj=>((Cd.1.ins j hj).other Cd.1.who (by decide) G7.1).below hd,ax,ax,pO _,eJ Cd.1.big B7.1.size,bK vz.1 B7.1.size,Cd.1.len⟩;rw[fu,lJ,gJ,V3.1];exact H7.1.drew
   obtain⟨HX0,Fs⟩:=aR pD (Cd.1.b.trans (B7.1.mono (eP _)));have AN4:Hid (∀a:World,Db 0 (a.alloc (.cells #[.iface 3 H,.iface 3 z2,.iface 3 z3,.iface 3 z4] 20)) (.slice (a,0) 4 4) [dB H,dB z2,dB z3,dB z4]):=A (λa=>auj a HZ.1.1.1 HZ.1.1.2.1 HZ.1.1.2.2.1 HZ.1.1.2.2.2);have H7F:=A (H7.1.form (Nat.succ_pos k));clear pD Cd HR9 AJ jI vz RB G7 H7 B7 x0 x1 x2 x3 d1 d2 d3 d4;refine nW (aum pg u.heap.size wr.heap.size (u.heap.size+1) c (.slice K v.length R) (.slice T w.length X) (.slice L t.length G) (.slice Z x.length tC) (.slice (pb,po) p.length pC) v7 (ws++[H]) aL cL k qs (p.map zt) H z2 z3 z4) (λn=>?_) ?_ (λn a q=>?_)
   ·exact⟨(aY _ _).drew,ax,ax,ax,ax,ax,ax,ax,ax,ax,ax,ax,ax,ax,ax,ax,ax,ax,ax,ax,ax,ax,ax,ax,ax,(HX0.1 _ _)⟩
   ·refine⟨?_,?_,?_,?_,?_,?_,?_,?_,?_,?_,?_,?_,?_,?_,?_,?_,?_,?_,?_,?_,?_,?_,?_,?_,?_,?_,?_,?_,trivial⟩;all_goals intro dn n a z5 q s
    ·have E:=s.b 6 (u,0);clear s;go_simp;exact⟨_,rfl,{q with f0:=aB}⟩
    ·have E:=s.e 0 83 q.f0;clear s;go_simp;exact⟨_,rfl,{q with f1:=aB}⟩
    ·have E:=s.e 1 84 q.f1;clear s;go_simp;exact⟨_,rfl,{q with f2:=aB}⟩
    ·have E:=s.e 2 85 q.f2;clear s;go_simp;exact⟨_,rfl,{q with f3:=aB}⟩
    ·have E:=s.e 3 86 q.f3;have cJ:=q.bx.cell (s.n 27);clear s;go_simp;exact⟨_,rfl,{q with f4:=aB}⟩
    ·have E:=s.b 12 (wr,0);clear s;go_simp;exact⟨_,rfl,{q with f5:=aB}⟩
    ·have E:=s.e 5 88 q.f5;have cJ:=Y q.bx.xr (k:=0) (d:=H) rfl;clear s;go_simp;exact⟨_,rfl,{q with f6:=aB}⟩
    ·have E:=s.e 6 89 q.f6;clear s;go_simp;exact⟨_,rfl,{q with f7:=aB}⟩
    ·have E:=s.b 12 (wr,0);clear s;go_simp;exact⟨_,rfl,{q with f8:=aB}⟩
    ·have E:=s.e 8 91 q.f8;have cJ:=Y q.bx.xr (k:=1) (d:=z2) rfl;clear s;go_simp;exact⟨_,rfl,{q with f9:=aB}⟩
    ·have E:=s.e 9 92 q.f9;clear s;go_simp;exact⟨_,rfl,{q with f10:=aB}⟩
    ·have E:=s.b 12 (wr,0);clear s;go_simp;exact⟨_,rfl,{q with f11:=aB}⟩
    ·have E:=s.e 11 94 q.f11;have cJ:=Y q.bx.xr (k:=2) (d:=z3) rfl;clear s;go_simp;exact⟨_,rfl,{q with f12:=aB}⟩
    ·have E:=s.e 12 95 q.f12;clear s;go_simp;exact⟨_,rfl,{q with f13:=aB}⟩
    ·have E:=s.b 12 (wr,0);clear s;go_simp;exact⟨_,rfl,{q with f14:=aB}⟩
    ·have E:=s.e 14 97 q.f14;have cJ:=Y q.bx.xr (k:=3) (d:=z4) rfl;clear s;go_simp;exact⟨_,rfl,{q with f15:=aB}⟩
    ·have E:=s.e 15 98 q.f15;clear s;go_simp;exact⟨_,rfl,{q with f16:=aB}⟩
    ·have E:=s.e 7 90 q.f7;have e1:=s.e 10 93 q.f10;have W:=s.e 13 96 q.f13;have e3:=s.e 16 99 q.f16;have C:=bk a #[.iface 3 H,.iface 3 z2,.iface 3 z3,.iface 3 z4] 20;clear s;go_simp;exact⟨_,rfl,{q with b:=q.b.trans (C.mono (gQ q.bx.big)),f17:=(λ_ _=>AN4.1 a),f20:=(λF y=>(q.f20 F y).below C),bx:=(q.bx.below C)}⟩
    ·have hd:=s.hd;have av2:=s.n 21;have m17:=q.f17 (s.d 17) hd;have E:=s.E 17 100;clear s;go_simp;with_reducible refine(ahz 0 (n 17) _ _ m17).mono ?_
     rintro B wq ⟨a8,c8,rfl,hV,rU,C⟩;have vP:=q.bx.call hd av2 hV rU C;exact⟨_,rfl,{q with b:=q.b.trans (C.mono (gQ q.bx.big)),f17:=(λ_=>wj),f20:=(λF y=>(q.f20 F y).below C),bx:=(vP)}⟩
    ·have E:=s.e 4 87 q.f4;clear s;go_simp;exact⟨_,rfl,{q with f19:=aB}⟩
    ·have C:=bk a #[(0:Int),(0:Int),.string ⟨#[]⟩,()] 72;clear s;go_simp;exact⟨_,rfl,{q with b:=q.b.trans (C.mono (gQ q.bx.big)),f17:=(λF y=>(q.f17 F y).below C),f20:=(λ_ _=>JV.new a),bx:=(q.bx.below C)}⟩
    ·have m20:=q.f20 (s.d 20) s.hd;obtain⟨b7,c7,e7,zm⟩:=m20;have e1:=s.e 4 87 q.f4;have W:=(s.E 20 103).trans e7;have ow:=q.bx.own0 s.hd;have jT:=q.bx.wide;have oz:=q.bx;refine ahy _ _ rfl _ (.slice aL k cL) qs k ((gi ..).trans e1) ow b7 c7 qz ((gi ..).trans W) zm Fj.1 jT ?_;intro z1z uq w8 h8 o8;have vP:=oz.app s.hd (s.n 23) (s.n 27) h8 o8;exact⟨_,rfl,{q with b:=q.b.trans ((fH ow o8.1 jT).mono (gQ oz.lo)),f17:=(λ_ y=>absurd ((s.d 18).symm.trans y) (by decide)),f20:=(λ_=>wj),f22:=(kY ((s.n 22))),bx:=(vP)}⟩
    ·obtain⟨g8,c8,e8⟩:=q.bx.val (s.d 21);have e1:=(s.E 21 104).trans e8;have W:=s.e 19 102 q.f19;have i0:(0:Int)<=(k:Int):=me k;have i1:(k:Int)<(k:Int)+1:=by omega
     clear s;go_simp;exact⟨_,rfl,{q with f22:=(λ_=>⟨g8,c8,e8,rfl⟩)}⟩
    ·have RC:=s.d 18;have Nl:=s.d 21;obtain⟨g8,c8,e8,e9⟩:=q.f22 (s.d 22);have e1:=(s.E 22 105).trans e9;obtain⟨a5,c5,e5⟩:=q.bx.form RC;have W:=(s.E 18 101).trans e5;obtain⟨⟨u0,u1,u2,u3⟩,⟨g0,g1,g2,g3⟩,jT,Fk⟩:=q.bx.put1 RC Nl s.hd e8 e5;clear s;go_simp;exact⟨undef,{q with b:=(((q.b.setCell jT _).setCell jT _).setCell jT _).setCell jT _,f17:=(λ_ y=>absurd (RC.symm.trans y) (by decide)),f20:=(λ_ y=>absurd (Nl.symm.trans y) (by decide)),bx:=(Fk)}⟩
    ·have E:=s.e 0 83 q.f0;clear s;go_simp;exact⟨_,rfl,{q with f24:=aB}⟩
    ·have E:=s.e 24 106 q.f24;clear s;go_simp;exact⟨_,rfl,{q with f25:=aB}⟩
    ·have E:=s.e 25 107 q.f25;clear s;go_simp;exact⟨_,rfl,{q with f26:=aB}⟩
    ·have RC:=s.d 18;have Nl:=s.d 21;have oz:=q.bx;obtain⟨g8,c8,e8⟩:=oz.val Nl;have e1:=s.e 26 108 q.f26;have W:=(s.E 21 104).trans e8;have u3:=oz.cell s.hd;have g3:=cB oz.row 10;have Fk:=oz.store Nl s.hd;clear s;go_simp;rw[<-e8];exact⟨undef,{q with b:=q.b.setCell (aP _) _,f17:=(λ_ y=>absurd (RC.symm.trans y) (by decide)),f20:=(λ_ y=>absurd (Nl.symm.trans y) (by decide)),bx:=(Fk)}⟩
   simp only[jG,Act.put,Nat.reduceAdd,dD];have Q:=q.b;have fW:=q.bx;obtain⟨g8,c8,e8⟩:=fW.val rfl;obtain⟨g7,c7,e7,-⟩:=H7F.1;have F:=fW.row;have y:=fW.own1 rfl;have h3:=fW.ins;have h4:=fW.new rfl;have h5:=fW.who;rw[aD (by rfl),e8]at F h4;rw[aD (by rfl),e8]at y;have h3:∀j (q:j<qs.length),oy (u.heap.size+1) (n 21) a qs[j] ((p.map zt).getD j []):=h3;rw[e8]at h3;have lJ:(ws++[H]).length=k+1:=by rw[V3.1,fu,dy,SW,KW];omega
   rw[lJ,V3.1,<-HWS.1]at h5;have HN:Hid (vS u.heap.size c (.slice K v.length R) (.slice T w.length X) (.slice L t.length G) (.slice Z x.length tC) (.slice (pb,po) p.length pC) v7 () 0 0 (.slice (g8,0) (k+1) c8) (qs++[VH (n 18)]) p (k+1) u a):=A
    ⟨F,y,h5,by rw[fu,fW.few];rfl,λj hj=>by
     by_cases B:j<qs.length
     ·rw[AX B];exact h3 j B
     ·have W:j=qs.length:=by simp at hj;omega
      subst W;rw[Cr (aP _)];simp only[zI,K1];rw[fW.few,HES.1];exact h4,Fs.1.trans Q,fW.big⟩
   rw[e7]at HN ⊢;clear fW F y h3 h4 h5 Q q lJ e8;go_wp2_with fail;go_roundw;case rel=>exact⟨k+1,_,_,_,_,_,by omega,rfl,by go_num,by rw[Mt.1],rfl,HN⟩
   case measure=>simp[intOf];omega
  ·obtain rfl:k=p.length:=by omega
   have hwI:=HI.1.who;rw[m9]at hwI;have Nm:=A (aM.own hwI (λz7 hz=>by obtain⟨z0,hp,rfl⟩:=ey.1 hz;exact(wV.1 z0 hp).1) (by rw[dy];have:=V1.1;omega));have hHI:=HI.1;clear hwI;go_wp2_with fail;refine(aaW _ _ _ v w (p.map (·.1)) _ HR.1 HO.1 Nm.1).mono ?_;rintro B sx ⟨m,rfl,hy,YG,iT⟩;rw[HA.1,show mu v w (p.map (·.1))=0 from(by have q:=HA.1;unfold kK at q;rw[cu,fU]at q;exact q.1)];obtain⟨ya,yc,rfl,-⟩:=id hy;have Bf:=hHI.keep iT;have dl0:((p.length:Int)==0)=false:=eH.2 (by omega);have Ll:0<t.length:=by
    have F:=HK.1;unfold ks fQ at F;rw[cu,cu,cu,fU,fU,fU]at F;have y:=(fs HP.1).cols;omega
   have aI:=Bf.row;have y6:=Y aI (k:=6) (d:=()) rfl;have f6:=cB aI 6;have xd:=A (Bf.set (j:=6) (Nj:=.slice ya (bQ v w (p.map (·.1))).length yc) (Rz:=0) (RA:=0) (.slice ya (bQ v w (p.map (·.1))).length yc) rfl);have HYI:Hid (AN u.heap.size (.slice ya (bQ v w (p.map (·.1))).length yc) (bQ v w (p.map (·.1))) sx):=A ⟨hy,λb B=>by have F:=YG b B;have y:=HI.1.big;omega⟩;obtain⟨HPV,BM,az3⟩:=bJ (show sI (J t 0) x p=BP (J t 0) x (oB p) p p.length from rfl) Ll iT;clear hy YG Bf hHI aI Ll iT;go_wp2_with fail;have AP:=A (atc u.heap.size c _ _ _ _ _ _ _ 0 0 (J t 0) x (oB p) _ p _ (xd.1.wrk V1.1 wV.1 ja.1 BM.1 LY.1 fA.1) (Pv.1.below xd.1.b) nS.1.el (my.1.below xd.1.b));refine AP.1.mono ?_;rintro B EK ⟨rfl,js⟩;rw[<-HPV.1];have OM:=xd.1.keep js;have dX:=OM.row;have y11:=Y dX (k:=11) (d:=(0:Int)) rfl;have f11:=cB dX 11;obtain⟨RD,V4⟩:=aR (OM.set (j:=11) (Nj:=.slice ya (bQ v w (p.map (·.1))).length yc) (Rz:=sI (J t 0) x p) (RA:=0) (sI (J t 0) x p:Int) rfl) js;have HRP:Hid (aN (sI (J t 0) x p)):=A (El.r64 (HPV.1▸abg nS.1.el p.length (aP _)));clear OM dX AP js;have U6:Hid (xK (J t 0) x p=uz (fp MC) (gg [dB (sI (J t 0) x p),dB (J t 0),lB x])):=A rfl;have df:Hid (z.heap.size<=u.heap.size):=A ajd.1.size;have Vr:Hid (∀b z5z,aM u (.slice (some ⟨b,z5z,none⟩) t.length G) t->b<u.heap.size):=A (λb z5z q=>by
    obtain⟨_,_,B,-,-,-,y⟩:=q;obtain⟨b',o',W,h3⟩:=y 0 BM.1;simp only[dr]at B;rw[<-B.1]at W;have h4:=iO h3;injection W with W;injection W with e3;omega)
   have PR:Hid (∀W',vS u.heap.size c (.slice K v.length R) (.slice T w.length X) (.slice L t.length G) (.slice Z x.length tC) (.slice pA p.length pC) (.slice aW p.length cW) (.slice ya (bQ v w (p.map (·.1))).length yc) (sI (J t 0) x p) (xK (J t 0) x p) (.slice aL p.length cL) qs p p.length u W'->aM W' (.slice ya (bQ v w (p.map (·.1))).length yc) (bQ v w (p.map (·.1)))->Below z z W'->abL c (.slice K v.length R) (.slice T w.length X) (.slice L t.length G) (.slice Z x.length tC) (.slice pA p.length pC) v w (J t 0) x p z (.returned (.tuple #[(u,0),(0:Int)])) W'):=A (λW' F y h3 =>
    av1 (i:=u) (q:=t) (s:=z) (a:=W') F V1.1 wV.1 ja.1 BM.1 LY.1 fA.1 y df.1 h3)
   have av3:Hid (AN u.heap.size (.slice ya (bQ v w (p.map (·.1))).length yc) (bQ v w (p.map (·.1))) (sx.setCell (u,6) (.slice ya (bQ v w (p.map (·.1))).length yc))):=A (AN.set HYI.1 _);have av4:Hid (AN u.heap.size (.slice ya (bQ v w (p.map (·.1))).length yc) (bQ v w (p.map (·.1))) EK):=A (AN.below av3.1 V4.1);generalize sI (J t 0) x p=e at *;generalize xK (J t 0) x p=zu at *;go_wp2_with fail;obtain⟨S,Nn⟩:=aK (EK.setCell (u,11) e);rw[<-Nn]at RD ⊢;obtain⟨E8,av5⟩:=aR (RD.1.wrk V1.1 wV.1 ja.1 BM.1 LY.1 fA.1) (my.1.below RD.1.b);obtain⟨ca,cn,ck,cb,co,ew,rfl,lS,iY,lT⟩:=E8.1.com;simp only[dr]at ew;obtain⟨rfl,rfl,rfl⟩:=ew;have gE:=RD.1.row;have x11:=Y gE (k:=11) (d:=e) rfl;have x3:=Y gE (k:=3) (d:=.slice (cb,co) t.length G) rfl;have jU:Hid (∀D,Below S S D->D.cell? (u,11)=e/\D.cell? (u,3)=some (.slice (cb,co) t.length G)/\D.cell? (cb,co)=(J t 0:Int)):=A (λD C=>⟨U C x11,U C x3,U C lT⟩);have HF:Hid (∀W2:World,W2=(S.alloc (.cells #[.iface 3 e,.iface 3 (J t 0:Int),.iface 28 (.slice Z x.length tC)] 20)).drew->Db 0 W2 (.slice (S,0) 3 3) [dB e,dB (J t 0),lB x]/\Below S S W2/\gz W2):=A (λW2 B=>by
    have I:Below S S W2:=by rw[B];exact(bk S _ _).drew
    have hq:=World.alloc_heap_new S (.cells #[.iface 3 e,.iface 3 (J t 0:Int),.iface 28 (.slice Z x.length tC)] 20);have fE:W2.heap[S.heap.size]?=QC.mk #[.iface 3 e,.iface 3 (J t 0:Int),.iface 28 (.slice Z x.length tC)] 20:=by rw[B];exact hq
    exact⟨ahD (Y fE rfl) (Y fE rfl) (Y fE rfl) (anyI HRP.1) (anyI iY) (ahE (E8.1.txt.below I) (by have:=fA.1;omega)),I,av5.1.below I⟩)
   have CW:Hid ((gg [dB e,dB (J t 0),lB x]).length<=1099511627776):=A (by
    have F:=Bu HRP.1;have y:=Bu iY;have h3:=abe (i:=x) (by have:=fA.1;omega);have:=QL (j:=[dB e,dB (J t 0),lB x]) (y:=1100000) (by simp) (by
     intro z6 hx;simp only[iu,oG,oH]at hx;rcases hx with rfl|rfl|rfl<;>omega)
    simp only[dZ,je]at this;omega)
   have Cb:=jU.1 S (aY _ _);have i9:(0:Int)<(t.length:Int):=by have:=BM.1;omega
   have i8:0<t.length:=BM.1;have av6:Hid (AN u.heap.size (.slice ya (bQ v w (p.map (·.1))).length yc) (bQ v w (p.map (·.1))) S):=A (by rw[Nn];exact av4.1.set (k:=11) e);clear Nn gE iY lT lS x11 x3;go_region_held3 (λD=>D.cell? (u,11)=e/\D.cell? (u,3)=some (.slice (cb,co) t.length G)/\D.cell? (cb,co)=(J t 0:Int)) (first|go_keep|exact qY|exact kf|exact Cb)
    (first|(go_simp;go_at_call 57;obtain⟨hA,rJ,GU⟩:=HF.1 _ rfl;(refine(ahB 0 (by decide) MC _ _ _ (by decide) hA CW.1 GU).mono ?_);rintro B Ft ⟨J9,EL⟩;rw[<-U6.1]at J9;subst J9;have jV:=ar rJ EL;have kf:=jU.1 Ft jV;have V6:=RD.1.keep jV;have z12:=Y V6.row (k:=12) (d:=(0:Int)) rfl;have g12:=cB V6.row 12;have qY:(Ft.setCell (u,12) zu).cell? (u,11)=e/\(Ft.setCell (u,12) zu).cell? (u,3)=some (.slice (cb,co) t.length G)/\(Ft.setCell (u,12) zu).cell? (cb,co)=(J t 0:Int):=⟨(jS (.inr (by decide))).trans kf.1,(jS (.inr (by decide))).trans kf.2.1,(jS (.inl (λB=>by have:=Vr.1 cb co ja.1;omega))).trans kf.2.2⟩;have av7:=A jV;have HI5:=A V6;clear EL jV V6 hA rJ GU))
   have Qv:=A (HI5.1.set (j:=12) (Nj:=.slice ya (bQ v w (p.map (·.1))).length yc) (Rz:=e) (RA:=zu) zu rfl);have HY6:=A ((av6.1.below av7.1).set (k:=12) zu).1;have cO:=A (ajd.1.trans (Qv.1.b.mono df.1));clear kf qY z12 g12 Cb;go_wp2_with fail;go_ret2;exact PR.1 _ Qv.1 HY6.1 cO.1
