/- Values whose memory is of a known type; Deal once more: its lists are of its own making. -/
import Derived.Test.YtaifagjclanodaaGreatDoorMDeaX
import Derived.Laws.ResultCell
set_option maxHeartbeats 8000000
set_option maxRecDepth 100000
namespace Go.Proofs.YtaifagjclanodaaGreatDoor
open Go.Proofs.Tryz
open Go.RowKit FP
variable{r:Array Value}{f:Int}{o:List Value}{j n m:Nat}{d g:TypeId}{i v:Value}{b h:World}{c e zs:V}{a:ak}{l:bF}
def dS(b:World)(g:TypeId)(v:Value):Prop:=∀k,v.ownBlock=some k->∃e p,b.heap[k]?=some (.cells e g p)
theorem dS.below(t:dS b g v)(q:Below b b h):dS h g v:=λs d=>by
 obtain⟨e,k,p⟩:=t s d;exact⟨e,k,az q p⟩
theorem dS.own(q:b.ownsRow j g m v n o):dS b g v:=λt d=>by
 rcases q.2 with⟨rfl,-⟩|⟨u,s,k,rfl,-,p,-⟩
 ·cases d
 ·injection d with d;subst d;exact⟨k,_,p⟩
theorem dS.ne(x:dS b g v)(w:b.ownsRow j d m i n o)(q:g≠d):∀k,v.ownBlock=some k->i.ownBlock≠some k:=λk s t=>by
 obtain⟨e,y,u⟩:=x k s;obtain⟨z,B,p⟩:=dS.own w k t;rw[u]at p;injection p with p;injection p with _ h5 _;exact q h5
theorem dS.grown(s:dS b g v)(y:b.ownsRow j d m i n o)(t:g≠d)(x:b.grownBy h i.ownBlock):dS h g v:=λk p=>by
 obtain⟨e,w,q⟩:=s k p;exact⟨e,w,(x.block k (bG q) (λu=>s.ne y t k p u.symm)).trans q⟩
theorem sF{p q x:Nat}{w:List Value}(k:b.ownsRow j g m v n o)(u:b.ownsRow p d q i x w)(s:g≠d)(t:b.grownBy h i.ownBlock):h.ownsRow j g m v n o:=
 FQ k t ((dS.own k).ne u s)
theorem asi{p:Nat}{q:Nat×Nat}(s:b.heap[p]?=some (.cells r g q))(k:Nat)(v:Value):∃t,(b.setCell (p,k) v).heap[p]?=some (.cells t g q):=by
 have u:=bG s;have w:b.heap[p]=.cells r g q:=(fF.1 s).2;refine⟨r.setIfInBounds k v,?_⟩;show(b.heap.modify p _)[p]?=_;rw[lM (by simpa using u),Array.getElem_modify_self,w];rfl
theorem dS.set(y:dS b g v)(t u:Nat)(s:Value):dS (b.setCell (t,u) s) g v:=λq d=>by
 obtain⟨e,w,k⟩:=y q d;by_cases p:q=t
 ·subst p;obtain⟨z,x⟩:=asi k u s;exact⟨_,_,x⟩
 ·exact⟨e,w,(dJ _ _ _ _ p).trans k⟩
def RI(b:World)(v:Value)(zs:V):Prop:=aM b v zs/\dS b 3 v
def RS(b:World)(v:Value)(l:bF):Prop:=fK b v l/\dS b 66 v
theorem RI.below(p:RI b v zs)(k:Below b b h):RI h v zs:=⟨p.1.below k,p.2.below k⟩
theorem RS.below(p:RS b v l)(k:Below b b h):RS h v l:=⟨p.1.below k,p.2.below k⟩
theorem RI.grown(t:RI b v zs)(q:b.ownsRow j d m i n o)(k:3 ≠ d)(p:b.grownBy h i.ownBlock):RI h v zs:=by
 refine⟨?_,t.2.grown q k p⟩;obtain⟨⟨H,u,rfl,x,y,z,B⟩,D⟩:=t;refine⟨H,u,rfl,x,y,z,λF E=>?_⟩;obtain⟨s,G,rfl,C⟩:=B F E;exact⟨s,G,rfl,p.cell C (λw=>D.ne q k s rfl w.symm)⟩
theorem RS.grown(w:RS b v l)(s:b.ownsRow j d m i n o)(k:66 ≠ d)(q:b.grownBy h i.ownBlock):RS h v l:=by
 refine⟨?_,w.2.grown s k q⟩;obtain⟨⟨I,x,rfl,y,z,B,C⟩,u⟩:=w;refine⟨I,x,rfl,y,z,B,λG F=>?_⟩;obtain⟨t,H,rfl,D,E⟩:=C G F;exact⟨t,H,rfl,q.cell D (λp=>u.ne s k t rfl p.symm),q.cell E (λp=>u.ne s k t rfl p.symm)⟩
theorem RI.own(k:b.ownsRow j 3 1 v n (zs.map (Value.int .i64)))(q:∀z∈zs,aN z)(p:zs.length<=17592186044416):RI b v zs:=⟨aM.own k q p,dS.own k⟩
theorem RS.own(k:b.ownsRow j 66 2 v n (l.flatMap gU))(s:∀p∈l,aN p.1/\aN p.2)(q:l.length<=1000000):RS b v l:=⟨fK.own k s q,dS.own k⟩
theorem aaZ(rv ov mv:Value)(a:ak)(c:V)(s:Int)(x:V)(t:World)(hR:bI t rv a)(hO:aM t ov c)(hM:aM t mv x)(K:dU a c s x)(JC:bH a c=0):
  Calls prog 74 #[.agg #[rv,ov],s,mv] t λB w'=>∃lv cv,B=.returned (.tuple #[lv,cv,(0:Int)])/\RS w' lv (bV a (s::x))/\RI w' cv (bt (s::x))/\(∀O,cv.ownBlock=some O->t.heap.size<=O)/\Below t t w':=by
 obtain⟨W1,aE,R,aI,hz⟩:=ee t rv ov 25;obtain⟨gF,jr,IY⟩:=bJ (hR.below R) (hO.below R) (hM.below R);have gd:=A (sW rv ov a c W1 gF.1 jr.1);rw[JC]at gd;obtain⟨z0z,cap,rfl,-,hlen,-⟩:=id hR;obtain⟨a2,dj,rfl,-,qF,-⟩:=id hO;obtain⟨a3,fP,rfl,-,En,-⟩:=id hM;have c0:W1.cell? (t,0)=some (.slice z0z a.length cap):=Y aI rfl;have c1:W1.cell? (t,1)=some (.slice a2 c.length dj):=Y aI rfl;obtain⟨bp,du⟩:=aR aE R;have hx:aN s:=dK K.hx;obtain⟨HX,LL⟩:=aR (IX K.hx) (Pq K.hr);have bT:=K.len;have IN:=K.prog.cols_le;have Ae:((x.length:Int)!=((bh a:Nat):Int)-1)=false:=bne_eq_false_iff_eq.2 (by omega);have HD:=A K;clear hR hO hM aI aE R JC K;go_enter func74,ntmps74;go_wp2_with fail;rw[<-bp.1];refine gd.1.mono ?_;rintro B w2 ⟨rfl,F⟩;obtain⟨ev,Gm,dz,dH⟩:=cY (ar du.1 F) (IY.1.below F) (gF.1.below F) (jr.1.below F);have S:=U F c0;have d1:=U F c1;clear F gd c0 c1;go_wp2_with fail;refine(Gl _ [s] _ (LK w2 s 3 _ rfl hx)).mono ?_;rintro B w3 ⟨rfl,aJ⟩;rw[Pr,HX.1];have M:=(bk w2 #[s] 3).trans (aJ.mono (by simp));obtain⟨IZ,vj,Eo⟩:=bJ (Gm.1.below M) (dz.1.below M) (dH.1.below M);have f0:=U M S;have f1:=U M d1;have qQ:=A (ar ev.1 M);clear aJ M S d1;go_wp2_with fail;refine(Gl _ x _ IZ.1).mono ?_;rintro B w4 ⟨rfl,E⟩;rw[LL.1];have g0:=U E f0;have g1:=U E f1;obtain⟨HM5,ur,wR,kF⟩:=cY (IZ.1.below E) (vj.1.below E) (Eo.1.below E) (ar qQ.1 E);clear E f0 f1;go_wp2_with fail;refine(T6 _ _ a c _ ur.1 wR.1).mono ?_;rintro B y ⟨rfl,Q⟩;have S:=U Q g0;obtain⟨HM6,Gv,cO⟩:=bJ (HM5.1.below Q) (ur.1.below Q) (ar kF.1 Q);have pE:=LK y s 3 _ rfl hx;have oS:=bk y #[s] 3;have xf:=bk (y.alloc (.cells #[s] 3)) #[.slice (y,0) 1 1,.slice a3 x.length fP] 23;have C:=World.alloc_heap_new (y.alloc (.cells #[s] 3)) (.cells #[.slice (y,0) 1 1,.slice a3 x.length fP] 23);have OR:(y.alloc (.cells #[s] 3)).heap.size=y.heap.size+1:=by simp
 rw[OR]at C;have kj:=A (aoX (y.heap.size+1) _ _ s x _ (pE.below xf) ((HM6.1.below oS).below xf) (by omega) (Y C (k:=0) rfl) (Y C (k:=1) rfl));have ag6:=ar oS xf;have ag7:=A ag6;clear Q g0 g1 pE oS xf C ag6 OR ur HM5 wR Eo vj IZ Gm dz dH gF jr IY;go_wp2_with fail;refine kj.1.mono ?_;rintro B N ⟨sv,rfl,qY,bz⟩;obtain⟨p,hs⟩:∃p,p=s::x:=⟨_,rfl⟩;obtain⟨C6,Ms⟩:=aR (show p.length=bh a by rw[hs,dZ];exact bT) hs;rw[<-hs]at qY;clear hs;have yU:=ar ag7.1 bz;obtain⟨EZ,E0,hZ⟩:=bJ qY (Gv.1.below yU) (ar cO.1 yU);have x0:=U yU S;obtain⟨a10,c10,rfl,-⟩:=id qY;clear qY bz yU S kj ag7 HM6 Gv;have iZ:N.ownsRow N.heap.size 66 2 () 0 (((List.range 0).map (lV a p)).flatMap gU):=iv _ _ _ _;go_wp2_with fail;go_loopw[6,47] (λr D b=>∃k:Nat,k<=a.length/\D=k/\b.ownsRow N.heap.size 66 2 r k (((List.range k).map (lV a p)).flatMap gU)/\Below N N b) (λ_ D _=>a.length-(intOf D).toNat);case atStart=>exact⟨0,bS _,rfl,iZ,aY _ _⟩
 case round =>
  clear iZ;obtain⟨k,dg,rfl,w,q⟩:=hrel;by_cases G:k<a.length
  ·obtain⟨aa,cc,e1,-,-,X⟩:=E0.1;obtain⟨O,off,B,ha,q1,hI⟩:=X k G;simp only[dr]at e1;obtain⟨rfl,-,rfl⟩:=e1;subst ha;have y1:=U q q1;obtain⟨HI,HSW⟩:=aR (hI.below q) (EZ.1.below q);obtain⟨ra,rc,rfl,-⟩:=id hI;have pS:=HD.1.prog.row G;have CJ:=HD.1.prog.few;have HT:=A (aoS _ _ a[k] p wr HI.1 HSW.1 (by rw[pS,C6.1];exact aP _));have HF:Hid (lV a p k=((k:Int),cz a[k] p)):=A (by unfold lV;rw[dp G]);obtain⟨df,de⟩:=aR q w;clear X hI q1 q w pS;generalize a[k]=f at *;generalize cz f p=L at *;go_wp2_with fail;refine HT.1.mono ?_;rintro B u ⟨rfl,I⟩;have H:=I.alloc I.size (.cells #[k,L] 66);have kq:=A (dM de.1 H);have C:=World.alloc_heap_new u (.cells #[k,L] 66);have P:(u.alloc (.cells #[k,L] 66)).cell? (u,0)=k:=Y C rfl;have iL:(u.alloc (.cells #[k,L] 66)).cell? (u,0+1)=L:=Y C rfl;obtain⟨yV,om,Z⟩:=bJ P iL (ar df.1 H);have rV:N.heap.size<=(u.alloc (.cells #[k,L] 66)).heap.size:=Z.1.size;have T:=A rV;clear I H C P iL rV;go_wp2_with (refine T7 rfl _ _ rfl N.heap.size _ ((List.range k).map (lV a p)) k rfl kq.1 u.heap.size 0 1 ((k:Int),L) rfl yV.1 om.1 (by omega) T.1 ?_;intro g8 uq w9 W o9;have H9:=A W;have O9:=A o9;clear W o9);go_roundw;case rel=>exact⟨k+1,by omega,by go_num,by rw[Af,HF.1];exact H9.1,Z.1.trans (fH kq.1 O9.1.1 T.1)⟩
   case measure=>simp[intOf];omega
  ·obtain rfl:k=a.length:=by omega
   have CJ:=HD.1.prog.few;obtain⟨HL,iV,il⟩:=bJ w q (EZ.1.below q);obtain⟨z,oY⟩:∃z:World,z=wr:=⟨_,rfl⟩;rw[<-oY]at HL iV il ⊢;clear w q oY x0;have Au:z.ownsRow z.heap.size 3 1 () 0 (((p.take 0).map (bm 4)).map (Value.int .i64)):=iv _ _ _ _;go_wp2_with fail;go_loopw[6,7,63] (λL' z1 D b=>∃k:Nat,k<=p.length/\D=k/\L'=u6/\b.ownsRow z.heap.size 3 1 z1 k (((p.take k).map (bm 4)).map (Value.int .i64))/\Below z z b) (λ_ _ D _=>p.length-(intOf D).toNat);case atStart=>exact⟨0,bS _,rfl,rfl,Au,aY _ _⟩
   case round =>
    clear Au;obtain⟨k,dg,rfl,rfl,w,q⟩:=hrel;by_cases G:k<p.length
    ·obtain⟨a9,c9,e9,-,-,kB,X⟩:=il.1;obtain⟨O,off,ha,q1⟩:=X k G;simp only[dr]at e9;obtain⟨rfl,-,rfl⟩:=e9;subst ha;have y1:=U q q1;have asj:=kB _ (bM G);have lW:Hid ((p.take (k+1)).map (bm 4)=(p.take k).map (bm 4)++[bm 4 p[k]]):=A (by rw[jv G,gJ];rfl);have LP:=A (λt=>vf 4 p[k] t fO asj);have azL:k<=64:=by have:=C6.1;omega
     obtain⟨df,de⟩:=aR q w;clear X kB q1 q w;generalize p[k]=z0 at *;generalize bm 4 z0=pz at *;go_wp2_with fail;refine(LP.1 _).mono ?_;rintro B u ⟨rfl,I⟩;have H:=I.alloc I.size (.cells #[pz] 3);have kq:=A (dM de.1 H);have P:(u.alloc (.cells #[pz] 3)).cell? (u,0)=pz:=Y (World.alloc_heap_new _ _) rfl;obtain⟨yV,Z⟩:=aR P (ar df.1 H);have rV:z.heap.size<=(u.alloc (.cells #[pz] 3)).heap.size:=Z.1.size;have T:=A rV;clear I H P rV;go_wp2_with (refine zX rfl _ _ rfl z.heap.size k _ _ rfl kq.1 u.heap.size 1 pz rfl yV.1 (by omega) T.1 ?_;intro v9 w9 W o9;have H9:=A W;have O9:=A o9;clear W o9);go_roundw;case rel=>exact⟨k+1,by omega,by go_num,rfl,by rw[lW.1,gJ];exact H9.1,Z.1.trans (fH kq.1 O9.1 T.1)⟩
     case measure=>simp[intOf];omega
    ·have bW:k=p.length:=by omega
     rw[bW,m9]at w;have l7:=A (dM HL.1 q);have Mt:=A (RS.own (l:=bV a p) l7.1 (by
      intro z2 hp;obtain⟨D,hi,rfl⟩:=ey.1 hp;exact aoZ a _ (by have:=dT.1 hi;omega)) (by unfold bV;simp;omega))
     have qN:p.length<=64:=by have:=C6.1;omega
     have ql:=A (RI.own (zs:=bt p) w (by
      intro z0 hz;obtain⟨n,-,rfl⟩:=ey.1 hz;exact(fJ fO n).r64) (by unfold bt;simp;omega))
     have JB:=A (hZ.1.trans ((ar iV.1 q).mono hZ.1.size));have Av:=Ms.1;subst Av;have E4:=A (λO z2z=>bK (bK hZ.1.size iV.1.size) (pP w O z2z).1);clear w q HL l7;go_wp2_with fail;go_ret3;exact⟨_,_,rfl,Mt.1,ql.1,E4.1,JB.1⟩
theorem asl(w u t:Value)(a:ak)(c:V)(q:Int)(p:V)(k:World)(H:bI k w a)(G:aM k u c)(F:aM k t p)(E:dU a c q p)(y:bH a c=0):
  Calls prog 74 #[.agg #[w,u],q,t] k λI x=>∃s cv,I=.returned (.tuple #[s,cv,(0:Int)])/\RS x s (bV a (q::p))/\RI x cv (bt (q::p))/\Below k k x:=by
 exact(aaZ w u t a c q p k H G F E y).mono λ_ _ ⟨s,cv,z,B,C,_,D⟩=>⟨s,cv,z,B,C,D⟩
theorem Vi{q s v:Int}{p:V}:vD q s v p=if cM q=true\/sD p=false then 1 else if s<0\/64<=s\/cM v=true then 340 else 0:=by
 unfold vD;by_cases k:cM q=true\/sD p=false
 ·rw[aD k,aD (k.imp_right US.1)]
 ·rw[aA k,aA (λt=>k (t.imp_right US.2))]
theorem ag8{z:Int}(k:cM z=false):0<=z/\z<1073741789:=Lv k
theorem asm{k v:Int}(q:0<=k/\k<1073741789)(p:0<=v/\v<1073741789):0<=k*v/\k*v<=1152921429444920521:=by
 refine⟨Sw q.1 p.1,?_⟩;have:k*v<=1073741789*1073741789:=Sx (by omega) (by omega) p.1 (by omega);omega
theorem asn(q:World)(k p:Int)(g:TypeId)(s:Nat)(u:q.heap.size=s)(w:aN k)(x:aN p):aM (q.alloc (.cells #[k,p] g)) (.slice (s,0) 2 2) [k,p]:=by
 subst u;have t:=World.alloc_heap_new q (.cells #[k,p] g);exact aq2 (Y t rfl) (Y t rfl) w x (aP _)
theorem aso(k p:Int):gq [k%1073741789,p]=(k%1073741789+p)%1073741789:=by
 show((0+k%1073741789)%1073741789+p)%1073741789=_;omega
theorem asp(k p:Int)(q:World)(g:TypeId)(t:0<=p/\p<1073741789):
  Calls prog 105 #[.slice (q,0) 2 2] (q.alloc (.cells #[(k%1073741789:Int),p] g)).drew λx w=>x=.returned ((k%1073741789+p)%1073741789:Int)/\(q.alloc (.cells #[(k%1073741789:Int),p] g)).drew=w:=by
 have s:0<=k%1073741789/\k%1073741789<1073741789:=by omega
 rw[<-aso];exact aaG _ _ _ ((asn q _ _ g _ rfl (dK s) (dK t)).below ((aY _ _).drew)) (by
  intro y u;simp only[iu,oG,oH]at u;rcases u with rfl|rfl
  ·exact s
  ·exact t)
theorem asq{p:Int}(k:0<=p/\p<=1152921429444920521):IntKind.i64.wrap p=p/\p.tmod 1073741789=p%1073741789:=by
 refine⟨?_,?_⟩
 ·rw[KV];omega
 ·rw[pM k.1]
theorem asr(s p v:Int)(mv:Value)(q:V)(B:World)(X:aM B mv q):
  Calls prog 37 #[s,.agg #[p,v],mv] B λd Z=>d=.returned (.tuple #[(GJ s p v q:Int),(vD s p v q:Int)])/\Below B B Z:=by
 have off:vD s p v q≠0->GJ s p v q=0:=λz0z=>by unfold GJ;rw[aA z0z]
 obtain⟨H,T⟩:=aK (B.alloc (.cells #[p,v] 66));have W:Below B B H:=T▸bk _ _ _;have D:H.heap[B.heap.size]?=QC.mk #[p,v] 66:=by rw[T];exact World.alloc_heap_new _ _
 have y:H.cell? (B,0)=p:=Y D rfl;have w:H.cell? (B,1)=v:=Y D rfl;have x:=A (X.below W);obtain⟨a3,k3,rfl,-,gC,-⟩:=id X;obtain⟨t,N,O⟩:=bJ W T off;clear X W D T off;cases C:cM s with
 |true =>
  have u:Hid (vD s p v q=1):=A (by rw[Vi,aD (.inl C)]);obtain⟨z,F⟩:=aR (O.1 (by rw[u.1];decide)) (Qc s H);rw[C]at F;clear C;go_enter func37,ntmps37;go_wp2_with (rw[<-N.1]);refine(F.1).mono ?_;rintro d Q ⟨rfl,rfl⟩;go_wp2_with fail;go_ret2;exact⟨by rw[u.1,z.1];rfl,t.1⟩
 |false =>
  have P:=ag8 C;have F:=A (Qc s H);rw[C]at F;cases E:sD q with
  |false =>
   have u:Hid (vD s p v q=1):=A (by rw[Vi,aD (.inr E)]);obtain⟨z,G⟩:=aR (O.1 (by rw[u.1];decide)) (UT _ q H x.1);rw[E]at G;clear C E P;go_enter func37,ntmps37;go_wp2_with (rw[<-N.1]);refine(F.1).mono ?_;rintro d Q ⟨rfl,rfl⟩;go_wp2_with fail;refine(G.1).mono ?_;rintro d I ⟨rfl,k⟩;refine jM k y w ?_;clear y w;intro y w;replace x:=A (x.1.below k);replace t:=A (ar t.1 k);clear k;go_wp2_with fail;go_ret2;exact⟨by rw[u.1,z.1];rfl,t.1⟩
  |true =>
   have G:=A (UT _ q H x.1);rw[E]at G;have GQ:=A (agO E).2;have S:Hid (vD s p v q=if p<0\/64<=p\/cM v=true then 340 else 0):=A (by rw[Vi,aA (by rw[C,E];simp)]);by_cases M:p<0
   ·have u:Hid (vD s p v q=340):=A (by rw[S.1,aD (.inl M)]);have z:=A (O.1 (by rw[u.1];decide));have d0:decide (p<0)=true:=bB M;clear C E P M;go_enter func37,ntmps37;go_wp2_with (rw[<-N.1]);refine(F.1).mono ?_;rintro d Q ⟨rfl,rfl⟩;go_wp2_with fail;refine(G.1).mono ?_;rintro d I ⟨rfl,k⟩;refine jM k y w ?_;clear y w;intro y w;replace x:=A (x.1.below k);replace t:=A (ar t.1 k);clear k;go_wp2_with fail;go_ret2;exact⟨by rw[u.1,z.1];rfl,t.1⟩
   have d0:decide (p<0)=false:=bw M;by_cases D:64<=p
   ·have u:Hid (vD s p v q=340):=A (by rw[S.1,aD (.inr (.inl D))]);have z:=A (O.1 (by rw[u.1];decide));have d1:decide (64<=p)=true:=bB D;clear C E P M D;go_enter func37,ntmps37;go_wp2_with (rw[<-N.1]);refine(F.1).mono ?_;rintro d Q ⟨rfl,rfl⟩;go_wp2_with fail;refine(G.1).mono ?_;rintro d I ⟨rfl,k⟩;refine jM k y w ?_;clear y w;intro y w;replace x:=A (x.1.below k);replace t:=A (ar t.1 k);clear k;go_wp2_with fail;go_ret2;exact⟨by rw[u.1,z.1];rfl,t.1⟩
   have d1:decide (64<=p)=false:=bw D;cases L:cM v with
   |true =>
    have u:Hid (vD s p v q=340):=A (by rw[S.1,aD (.inr (.inr L))]);obtain⟨z,R⟩:=aR (O.1 (by rw[u.1];decide)) (λK=>Qc v K);rw[L]at R;clear C E P M D L;go_enter func37,ntmps37;go_wp2_with (rw[<-N.1]);refine(F.1).mono ?_;rintro d Q ⟨rfl,rfl⟩;go_wp2_with fail;refine(G.1).mono ?_;rintro d I ⟨rfl,k⟩;refine jM k y w ?_;clear y w;intro y w;replace x:=A (x.1.below k);replace t:=A (ar t.1 k);clear k;go_wp2_with fail;refine(R.1 _).mono ?_;rintro d w4 ⟨rfl,rfl⟩;go_wp2_with fail;go_ret2;exact⟨by rw[u.1,z.1];rfl,t.1⟩
   |false =>
    have u:Hid (vD s p v q=0):=A (by rw[S.1,aA (by rw[L];simp;omega)]);have z:Hid (GJ s p v q=(s*v+gq q)%1073741789):=A (by unfold GJ;rw[u.1,aD rfl];generalize s*v=z1;omega);have R:=A (λK=>Qc v K);rw[L]at R;have F6:=ag8 L;have GR:=asm P F6;have Mu:=C2 q;obtain⟨z0,hs⟩:=aK (gq q);have Qt:=A (λK (z0z:aM K (.slice a3 q.length k3) q)=>aaG _ q K z0z GQ.1);rw[<-hs]at z Qt Mu;clear C E M D L hs;go_enter func37,ntmps37;go_wp2_with (rw[<-N.1]);refine(F.1).mono ?_;rintro d Q ⟨rfl,rfl⟩;go_wp2_with fail;refine(G.1).mono ?_;rintro d I ⟨rfl,k⟩;refine jM k y w ?_;clear y w;intro y w;replace x:=A (x.1.below k);replace t:=A (ar t.1 k);clear k;go_wp2_with fail;refine(R.1 _).mono ?_;rintro d w4 ⟨rfl,rfl⟩;have ti:=A ((t.1.alloc t.1.size (.cells #[(s*v%1073741789:Int),z0] 3)).drew);have jh:Below I I I.drew:=(aY _ _).drew;replace x:=A (x.1.below jh);replace t:=A (t.1.drew);clear jh;go_wp2_with fail;have Qu:I.drew.cell? (B,1)=v:=w;have Vj:=A (λK=>asp (s*v) z0 K 3 Mu);obtain⟨C7,Uo⟩:=asq GR;go_region_held3 (λZ=>Z.cell? (B,1)=v) (first|go_keep|exact Qu|exact U (((aY _ _).alloc (aP _) _).drew) w)
     (first
      |(go_at_call 105;(with_reducible refine(Qt.1 _ x.1).mono ?_);rintro d w5 ⟨rfl,rfl⟩)
      |(go_at_call 105;(with_reducible refine(Vj.1 _).mono ?_);rintro d w6 ⟨rfl,rfl⟩))
    all_goals
     go_wp2_with fail;go_ret2;exact⟨by rw[u.1,z.1];rfl,ti.1⟩
theorem Mv{t:Func}{p i v:Tmp}{u:TypeId}(y:t.results=#[.cell p u,.tmp i,.tmp v])(q:Array Value)(s:Program)(k:World):
  (results t q).run s k=((asAddr (q.getD p undef)).run s k).andThen λx k₁=>((loadVar u x).run s k₁).andThen λw k₂=>.ok (.tuple #[w,q.getD i undef,q.getD v undef]) k₂:=by
 simp only[results,y];simp[Result.andThen]
theorem lF(k:World)(d q p cv:Value)(g:TypeId):∃b,b=k.alloc (.cells #[d,q,p,cv] g)/\Below k k b/\b.heap[k.heap.size]?=QC.mk #[d,q,p,cv] g/\b.heap.size=k.heap.size+1:=
 ⟨_,rfl,bk _ _ _,World.alloc_heap_new _ _,by simp⟩
theorem ass{parts:V}(p:iQ a c e f≠0):yQ a c e f parts=iQ a c e f/\tB a c e f parts=false:=by
 have k:yQ a c e f parts=iQ a c e f:=by unfold yQ;rw[aD p]
 exact⟨k,by unfold tB;rw[k,bw p];rfl⟩
theorem aa0{parts:V}(p:iQ a c e f=0):yQ a c e f parts=if sD parts=true then 0 else 1:=by
 unfold yQ;rw[aA (by simp[p])];cases d:sD parts with
 |false=>rw[aD (US.1 d)];rfl
 |true=>rw[aA (λk=>by rw[US.2 k]at d;cases d)];rfl
theorem Vk{parts:V}(k:tB a c e f parts=false):Jp a c e f parts=0/\GK a c e f parts=0:=by
 unfold Jp GK;rw[k];exact⟨rfl,rfl⟩
theorem aa1{parts:V}(k:tB a c e f parts=true):Jp a c e f parts=f/\GK a c e f parts=gq parts:=by
 unfold Jp GK;rw[k];exact⟨rfl,rfl⟩
theorem ag9(k:iQ a c e f=0):jQ a c e=0/\0<=f/\f<(a.length:Int):=by
 unfold iQ at k;by_cases p:jQ a c e=0
 ·rw[aA (by simp[p])]at k;by_cases q:f<0\/(a.length:Int)<=f
  ·rw[aD q]at k;cases k
  ·exact⟨p,by omega,by omega⟩
 ·rw[aD p]at k;exact absurd k p
theorem ast{v:Int}(s:iQ a c e f=0)(q:0<=v/\v<1073741789):j9 a c e f v=0:=by
 obtain⟨k,p⟩:=ag9 s;unfold j9;rw[aA (by simp[k]),aD (CL.2 ⟨p,q⟩)]
theorem asu(ep f:Int)(rv ov cv pv:Value)(a:ak)(c e parts:V)(q:World)(hR:bI q rv a)(hO:aM q ov c)(hC:aM q cv e)(hP:aM q pv parts)(da:aN f):
  Calls prog 38 #[.agg #[ep,rv,ov,cv],f,pv] q λz1z w' =>
   z1z=.returned (.tuple #[.agg #[(Jp a c e f parts:Int),(GK a c e f parts:Int)],.bool (tB a c e f parts),(yQ a c e f parts:Int)])/\Below q q w':=by
 obtain⟨W0,dx,bO,cF,fl⟩:=lF q ep rv ov cv 33;obtain⟨W1,aE,au,aI,hz⟩:=ee W0 (0:Int) (0:Int) 66;have W:Below q q W1:=ar bO au;obtain⟨E,D,C,B,Mc,HO0,BM⟩:=qy (hR.below W) (hO.below W) (hC.below W) (hP.below W) hR hO hC;obtain⟨a1,k1,rfl,-,eI,-⟩:=id hR;obtain⟨a2,k2,rfl,-,dR,-⟩:=id hO;obtain⟨a3,k3,rfl,-,gC,-⟩:=id hC;obtain⟨a4,k4,rfl,-,fj,-⟩:=id hP;have s:W1.cell? (q,1)=some (.slice a1 a.length k1):=U au (Y cF rfl);have t:W1.cell? (q,2)=some (.slice a2 c.length k2):=U au (Y cF rfl);have u:W1.cell? (q,3)=some (.slice a3 e.length k3):=U au (Y cF rfl);rw[fl]at aI;have w:=A aI;rw[dx]at aE;obtain⟨bp,z⟩:=aR aE W;clear hR hO hC hP W bO au cF aI dx aE hz;have I0:=A (T9 _ _ _ a c e f _ E.1 D.1 C.1 da);by_cases M:iQ a c e f=0;rotate_left
 ·obtain⟨I,R⟩:=ass (parts:=parts) M;obtain⟨x3,x4⟩:=Vk R;have F:=A (And.intro I (And.intro R (And.intro x3 x4)));have d0:(iQ a c e f !=0)=true:=jg.2 M;generalize iQ a c e f=z0 at *;generalize pZ a c e f=q2 at *;clear M I R x3 x4;go_enter func38,ntmps38;go_wp2_with (rw[<-bp.1]);refine(I0.1).mono ?_;rintro d w2 ⟨rfl,k⟩;refine ua k s t u ?_;clear s t u;intro s t u;obtain⟨E,D,C,B,w,z⟩:=oJ (E.1.below k) (D.1.below k) (C.1.below k) (B.1.below k) (az k w.1) (ar z.1 k);clear k;obtain⟨x0,I⟩:=ez w.1;obtain⟨S,T⟩:=A2 w.1;go_wp2_with fail;try simp only[Exit.inBlock,Exit.then]
  refine gB (v:=.tuple #[.agg #[(0:Int),(0:Int)],false,z0]) ?_ rfl ?_
  ·rw[Mv rfl];go_simp
  ·exact⟨by rw[F.1.1,F.1.2.1,F.1.2.2.1,F.1.2.2.2],(z.1.setCell (eP _) _).setCell (eP _) _⟩
 obtain⟨HE,HF0⟩:=aR (aa0 (parts:=parts) M) (λv hv=>ast (v:=v) M hv);have CX:=A (ag9 M).2;rw[M]at I0;generalize pZ a c e f=q2 at *;clear M;cases P:sD parts with
 |false =>
  have F:Hid (yQ a c e f parts=1):=A (by rw[HE.1,P];rfl);have R:tB a c e f parts=false:=by unfold tB;rw[F.1];rfl
  obtain⟨x3,x4⟩:=Vk R;obtain⟨G,HA⟩:=aR (And.intro R (And.intro x3 x4)) (λN K=>UT (.slice a4 parts.length k4) parts N K);rw[P]at HA;clear P R x3 x4;go_enter func38,ntmps38;go_wp2_with (rw[<-bp.1]);refine(I0.1).mono ?_;rintro d w2 ⟨rfl,k⟩;refine ua k s t u ?_;clear s t u;intro s t u;obtain⟨E,D,C,B,w,z⟩:=oJ (E.1.below k) (D.1.below k) (C.1.below k) (B.1.below k) (az k w.1) (ar z.1 k);clear k;go_wp2_with fail;refine(HA.1 _ B.1).mono ?_;rintro d w3 ⟨rfl,x⟩;refine ua x s t u ?_;clear s t u;intro s t u;obtain⟨E,D,C,B,w,z⟩:=oJ (E.1.below x) (D.1.below x) (C.1.below x) (B.1.below x) (az x w.1) (ar z.1 x);clear x;obtain⟨x0,I⟩:=ez w.1;obtain⟨S,T⟩:=A2 w.1;go_wp2_with fail;try simp only[Exit.inBlock,Exit.then]
  refine gB (v:=.tuple #[.agg #[(0:Int),(0:Int)],false,(1:Int)]) ?_ rfl ?_
  ·rw[Mv rfl];go_simp
  ·exact⟨by rw[F.1,G.1.1,G.1.2.1,G.1.2.2],(z.1.setCell (eP _) _).setCell (eP _) _⟩
 |true =>
  have F:Hid (yQ a c e f parts=0):=A (by rw[HE.1,P];rfl);have GQ:=A (agO P).2;have Mu:=C2 parts;have O:Hid (tB a c e f parts=ke a c e f (gq parts)):=A (by unfold tB;rw[F.1];rfl);obtain⟨jc,Jg,HA⟩:=bJ (λK=>Vk (a:=a) (c:=c) (e:=e) (f:=f) (parts:=parts) K) (λK=>aa1 (a:=a) (c:=c) (e:=e) (f:=f) (parts:=parts) K) (λN K=>UT (.slice a4 parts.length k4) parts N K);rw[P]at HA;have Qt:=A (λN (K:aM N (.slice a4 parts.length k4) parts)=>aaG _ parts N K GQ.1);obtain⟨Q,hs⟩:=aK (gq parts);rw[<-hs]at Qt Mu O Jg;have aaR:aN Q:=dK Mu;obtain⟨uu,iK⟩:=aR (HF0.1 Q Mu) (λrv ov cv N h1 h2 h3=>Ep rv ov cv a c e f Q N h1 h2 h3 da aaR);rw[uu.1]at iK;clear P hs HF0 HE uu;go_enter func38,ntmps38;go_wp2_with (rw[<-bp.1]);refine(I0.1).mono ?_;rintro d w2 ⟨rfl,k⟩;refine ua k s t u ?_;clear s t u;intro s t u;obtain⟨E,D,C,B,w,z⟩:=oJ (E.1.below k) (D.1.below k) (C.1.below k) (B.1.below k) (az k w.1) (ar z.1 k);clear k;go_wp2_with fail;refine(HA.1 _ B.1).mono ?_;rintro d w3 ⟨rfl,x⟩;refine ua x s t u ?_;clear s t u;intro s t u;obtain⟨E,D,C,B,w,z⟩:=oJ (E.1.below x) (D.1.below x) (C.1.below x) (B.1.below x) (az x w.1) (ar z.1 x);clear x;go_wp2_with fail;refine(Qt.1 _ B.1).mono ?_;rintro d w4 ⟨rfl,rfl⟩;obtain⟨x0,I⟩:=ez w.1;obtain⟨S,T⟩:=A2 w.1;have lX:Hid (q.heap.size<w3.heap.size):=A (by have:=bG w.1;omega);obtain⟨W5,dk⟩:=aK ((w3.setCell (q.heap.size+1,0) f).setCell (q.heap.size+1,1) Q);have hq:W5.heap[q.heap.size+1]?=QC.mk #[f,Q] 66:=by
   rw[dk];exact cK (cK w.1 0 _) 1 _
  have aG:Below (q.heap.size+1) w3 W5:=by
   rw[dk];exact((aY (q.heap.size+1) w3).setCell (p:=(q.heap.size+1,0)) (aP _) _).setCell (p:=(q.heap.size+1,1)) (aP _) _
  have H:Hid (Below q q W5):=A (z.1.trans (aG.mono (eP _)));obtain⟨X,Z,yW⟩:=bJ (Mc.1.below H.1) (HO0.1.below H.1) (BM.1.below H.1);have s:=(aG.cell (p:=(q,1)) (pO _)).trans s;have t:=(aG.cell (p:=(q,2)) (pO _)).trans t;have u:=(aG.cell (p:=(q,3)) (pO _)).trans u;obtain⟨y0,y1⟩:=ez hq;obtain⟨L,gX⟩:=aR hq dk;clear dk hq aG w E D C B z;cases fZ:ke a c e f Q with
  |false =>
   rw[fZ]at iK O;have G:=A (jc.1 O.1);clear fZ;go_wp2_with (rw[<-gX.1]);clear x0 I S T;refine(iK.1 _ _ _ _ X.1 Z.1 yW.1).mono ?_;rintro d w6 ⟨rfl,y⟩;refine ua y s t u ?_;clear s t u;intro s t u;obtain⟨X,Z,yW,L,H⟩:=gw (X.1.below y) (Z.1.below y) (yW.1.below y) (az y L.1) (ar H.1 y);clear y;obtain⟨x0,I⟩:=ez L.1;obtain⟨S,T⟩:=A2 L.1;go_wp2_with fail;try simp only[Exit.inBlock,Exit.then]
   refine gB (v:=.tuple #[.agg #[(0:Int),(0:Int)],false,(0:Int)]) ?_ rfl ?_
   ·rw[Mv rfl];go_simp
   ·exact⟨by rw[F.1,O.1,G.1.1,G.1.2],(H.1.setCell (eP _) _).setCell (eP _) _⟩
  |true =>
   rw[fZ]at iK O;have G:=A (Jg.1 O.1);clear fZ;go_wp2_with (rw[<-gX.1]);clear x0 I S T;refine(iK.1 _ _ _ _ X.1 Z.1 yW.1).mono ?_;rintro d w6 ⟨rfl,y⟩;refine ua y s t u ?_;clear s t u;intro s t u;obtain⟨X,Z,yW,L,H⟩:=gw (X.1.below y) (Z.1.below y) (yW.1.below y) (az y L.1) (ar H.1 y);clear y;obtain⟨x0,I⟩:=ez L.1;obtain⟨S,T⟩:=A2 L.1;go_wp2_with fail;try simp only[Exit.inBlock,Exit.then]
   refine gB (v:=.tuple #[.agg #[f,Q],true,(0:Int)]) ?_ rfl ?_
   ·rw[Mv rfl];go_simp
   ·exact⟨by rw[F.1,O.1,G.1.1,G.1.2],(H.1.setCell (eP _) _).setCell (eP _) _⟩
