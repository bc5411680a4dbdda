/- Package parcels: Seal, Open, With. Package parcels: right, opened, Seal. Package parcels: With, Open. -/
import Derived.Test.YtaifagjclanodaaGreatDoorMEqA
set_option maxHeartbeats 2000000
set_option maxRecDepth 100000
namespace Go.Proofs.YtaifagjclanodaaGreatDoor
open Go.Proofs.Tryz
open Go.RowKit FP
theorem aaP(f:Int)(a:World):
  Calls prog 145 #[f] a (P8 (ct f 1 1073741788) 110 a):=by
 have g:=bk a #[.nilFunc,(0:Int)] 214;go_enter func145,ntmps145;go_wp2_with fail;refine(Mf f 1 1073741788 110 _).mono ?_;rintro q j ⟨d,c,rfl,i,e⟩;have b:=(e.block a.heap.size (by simp)).trans (World.alloc_heap_new a (.cells #[.nilFunc,(0:Int)] 214));have r:j.cell? (a,0)=some .nilFunc:=Y b rfl;have s:j.cell? (a,1)=(0:Int):=Y b rfl;obtain⟨o,p⟩:=A2 b;have l:=ar g e;have h:=cK (cK b 0 (.func (.func d) #[] c)) 1 (110:Int);obtain⟨m,n⟩:=ez h;have k:=A i;clear i e g h;go_wp2_with fail;refine gB (v:=.agg #[.func (.func d) #[] c,(110:Int)]) (by simp[results,results145,go_sem,m,n]) rfl ?_;refine⟨d,c,rfl,?_,?_⟩
 ·exact(k.1.keep (((gN.refl _ _).setCell (by simp) _).setCell (by simp) _)).low (by simp)
 ·exact(l.setCell (aP _) _).setCell (aP _) _
theorem Qf(f:Int)(a:World):
  Calls prog 147 #[f] a (P8 (ct f 0 63) 1 a):=by
 have g:=bk a #[.nilFunc,(0:Int)] 214;go_enter func147,ntmps147;go_wp2_with fail;refine(Mf f 0 63 1 _).mono ?_;rintro q j ⟨d,c,rfl,i,e⟩;have b:=(e.block a.heap.size (by simp)).trans (World.alloc_heap_new a (.cells #[.nilFunc,(0:Int)] 214));have r:j.cell? (a,0)=some .nilFunc:=Y b rfl;have s:j.cell? (a,1)=(0:Int):=Y b rfl;obtain⟨o,p⟩:=A2 b;have l:=ar g e;have h:=cK (cK b 0 (.func (.func d) #[] c)) 1 (1:Int);obtain⟨m,n⟩:=ez h;have k:=A i;clear i e g h;go_wp2_with fail;refine gB (v:=.agg #[.func (.func d) #[] c,(1:Int)]) (by simp[results,results147,go_sem,m,n]) rfl ?_;refine⟨d,c,rfl,?_,?_⟩
 ·exact(k.1.keep (((gN.refl _ _).setCell (by simp) _).setCell (by simp) _)).low (by simp)
 ·exact(l.setCell (aP _) _).setCell (aP _) _
theorem Qg(a:World)(m:TypeId)(n:Nat)(y:a.heap.size=n){o p q:Nat}{d e f:FuncId}{h c g:Array Value}{r s t:Bool}(i j k:Int)(v:tz o a d h r)(w:tz p a e c s)(x:tz q a f g t):
  UM (a.alloc (.cells #[.func (.func d) #[] h,i,.func (.func e) #[] c,j,.func (.func f) #[] g,k] m)) (.slice (n,0) 3 3) [(r,i),(s,j),(t,k)]:=by
 subst y;have b:=World.alloc_heap_new a (.cells #[.func (.func d) #[] h,i,.func (.func e) #[] c,j,.func (.func f) #[] g,k] m);have l:∀u,gN u a (a.alloc (.cells #[.func (.func d) #[] h,i,.func (.func e) #[] c,j,.func (.func f) #[] g,k] m)):=λu=>gN.below (bk _ _ _);refine⟨_,0,3,rfl,by simp,by simp,λB z=>?_⟩
 match B,z with
 |0,_=>exact⟨o,d,h,Y b rfl,Y b rfl,v.keep (l _)⟩
 |1,_=>exact⟨p,e,c,Y b rfl,Y b rfl,w.keep (l _)⟩
 |2,_=>exact⟨q,f,g,Y b rfl,Y b rfl,x.keep (l _)⟩
theorem arO(b:World)(s:TypeId)(t:Nat)(M:b.heap.size=t){u v w E F:Nat}{e f g h i:FuncId}{l d j m c:Array Value}{x y z B C:Bool}(n o p q r:Int)(G:tz u b e l x)(H:tz v b f d y)(I:tz w b g j z)(K:tz E b h m B)(L:tz F b i c C):
  UM (b.alloc (.cells #[.func (.func e) #[] l,n,.func (.func f) #[] d,o,.func (.func g) #[] j,p,.func (.func h) #[] m,q,.func (.func i) #[] c,r] s)) (.slice (t,0) 5 5) [(x,n),(y,o),(z,p),(B,q),(C,r)]:=by
 subst M;have a:=World.alloc_heap_new b (.cells #[.func (.func e) #[] l,n,.func (.func f) #[] d,o,.func (.func g) #[] j,p,.func (.func h) #[] m,q,.func (.func i) #[] c,r] s);have k:∀D,gN D b (b.alloc (.cells #[.func (.func e) #[] l,n,.func (.func f) #[] d,o,.func (.func g) #[] j,p,.func (.func h) #[] m,q,.func (.func i) #[] c,r] s)):=λD=>gN.below (bk _ _ _);refine⟨_,0,5,rfl,by simp,by simp,λO N=>?_⟩
 match O,N with
 |0,_=>exact⟨u,e,l,Y a rfl,Y a rfl,G.keep (k _)⟩
 |1,_=>exact⟨v,f,d,Y a rfl,Y a rfl,H.keep (k _)⟩
 |2,_=>exact⟨w,g,j,Y a rfl,Y a rfl,I.keep (k _)⟩
 |3,_=>exact⟨E,h,m,Y a rfl,Y a rfl,K.keep (k _)⟩
 |4,_=>exact⟨F,i,c,Y a rfl,Y a rfl,L.keep (k _)⟩
theorem arP(a:Nat)(d b c:Int)(e:World)(G:aN b)(X:e.cell? (a,0)=d)(Z:e.cell? (a,1)=b)(x2:e.cell? (a,2)=c):
  Calls prog 192 #[(a,0)] e λh i=>h=.returned (.bool (uA d b c))/\Below e e i:=by
 have w:=A (aqM d b c);go_enter func192,ntmps192;go_wp2_with fail;go_region_held3 (λi=>i.cell? (a,0)=d/\i.cell? (a,1)=b/\i.cell? (a,2)=c) (go_keep)
  (first
   |(go_at_call 148;(with_reducible refine(Mf d 0 63 350 _).mono ?_);rintro h l ⟨y,H,rfl,q,k⟩;have R:l.cell? (a,0)=d:=U k (by assumption);have S:l.cell? (a,1)=b:=U k (by assumption);have T:l.cell? (a,2)=c:=U k (by assumption);have K:=A q;clear q)
   |(go_at_call 146;(with_reducible refine(UL b 350 _ G).mono ?_);rintro h m ⟨z,x,rfl,r,g⟩;have N:m.cell? (a,0)=d:=U g (by assumption);have W:m.cell? (a,1)=b:=U g (by assumption);have O:m.cell? (a,2)=c:=U g (by assumption);have I:=A r;clear r)
   |(go_at_call 148;(with_reducible refine(Mf c 0 1073741788 350 _).mono ?_);rintro h n ⟨B,C,rfl,s,f⟩;have t:n.cell? (a,0)=d:=U f (by assumption);have u:n.cell? (a,1)=b:=U f (by assumption);have v:n.cell? (a,2)=c:=U f (by assumption);have L:=A s;clear s)
   |(go_at_call 144;(refine(Mg _ _ _ (Qg _ _ _ rfl 350 350 350 (K.1.keep (gN.below (ar g f))) (I.1.keep (gN.below f)) L.1)).mono ?_);rintro h o ⟨rfl,j⟩;have P:o.cell? (a,0)=d:=U j (U (bk _ _ _) t);have M:o.cell? (a,1)=b:=U j (U (bk _ _ _) u);have Q:o.cell? (a,2)=c:=U j (U (bk _ _ _) v)))
 go_wp2_with fail;go_ret;refine⟨cg w.1,?_⟩;have D:Below e e l:=(aY _ _).drew.trans k;have E:=ar D g;have p:=ar E f;have F:=p.alloc p.size (.cells #[.func (.func y) #[] H,(350:Int),.func (.func z) #[] x,(350:Int),.func (.func B) #[] C,(350:Int)] 214);exact ar F j
theorem Mn(a:World)(c d e:Int)(f:TypeId):∃b,b=a.alloc (.cells #[c,d,e] f)/\Below a a b/\b.heap[a.heap.size]?=QC.mk #[c,d,e] f/\a.heap.size<b.heap.size:=
 ⟨_,rfl,bk _ _ _,World.alloc_heap_new _ _,by simp[go_sem]⟩
theorem U5(d a b:Int)(e:World)(f:aN a):
  Calls prog 155 #[.agg #[d,a,b]] e (P8 (uA d a b) 350 e):=by
 go_enter func155,ntmps155;go_wp2_with fail;refine gB (v:=.agg #[.func (.func 192) #[] #[(e,0)],(350:Int)]) (by simp[results,results155,go_sem]) rfl ?_;refine⟨_,_,rfl,⟨aqT,λg c=>?_⟩,?_⟩
 ·exact arP _ d a b g f (c.cell (aP _) (by simp[go_sem])) (c.cell (aP _) (by simp[go_sem])) (c.cell (aP _) (by simp[go_sem]))
 ·repeat (first|exact aY _ _|refine zR ?_ (by simp;try omega) _|refine tZ ?_ (by simp;try omega) _|refine A1 ?_)
theorem agV(d e a s b:Int)(c:World)(p:aN d)(q:aN e)(r:aN a)(B:0<=b/\b<=1073741788)(o:gz c):
  Calls prog 156 #[d,e,.agg #[a,s,b]] c λt g=>t=.returned (tx d e a b:Int)/\Below c c g:=by
 obtain⟨i,m,l,j,f⟩:=Mn c a s b 88;obtain⟨z,n⟩:=aR m l;have G:i.cell? (c,0)=a:=Y j rfl;have H:i.cell? (c,2)=b:=Y j rfl;have h:=o.below l;have y:Hid (gz i.drew):=A ⟨h.num,h.sta⟩;have w:Hid (∀v∈[d,e,a],aN v):=A (by intro v f;simp at f;rcases f with rfl|rfl|rfl;exact p;exact q;exact r);obtain⟨C,D⟩:=aaq d e a;obtain⟨I,K⟩:=B;have x:Hid ((IntKind.i64.wrap (IntKind.i64.wrap (b-EM d e a)+1073741789)).tmod 1073741789=tx d e a b):=A (by
  rw[jw (b-EM d e a) (by omega),jw (b-EM d e a+1073741789) (by omega),pM (by omega)];rfl)
 clear m l j h p q r f o;go_enter func156,ntmps156;go_wp2_with fail;rw[<-z.1];go_region_held3 (λg=>g.cell? (c,0)=a/\g.cell? (c,2)=b) (go_keep)
  (first
   |(go_at_call 149;(with_reducible refine(agu d e a _ w.1 y.1).mono ?_);rintro t u ⟨rfl,k⟩;have E:u.cell? (c,0)=a:=U k (by assumption);have F:u.cell? (c,2)=b:=U k (by assumption)))
 rw[x.1];clear C D;go_wp2_with fail;go_ret;exact⟨rfl,n.1.trans (((aY _ _).drew.trans k).mono n.1.size)⟩
theorem arQ(a d c b f:Int)(g:World)(Q:aas a d c b f)(hG:gz g):
  Calls prog 77 #[a,d,c,b,f] g λe w'=>e=.returned (.tuple #[.agg #[b,(bm 4 a:Int),(sy a d c b f:Int)],(0:Int)])/\Below g g w':=by
 obtain⟨W1,z,m,C,i⟩:=Mn g 0 0 0 88;have bp:=A z;have HE:Hid (qi [(ct a 1 1073741788,110),(eA d,100),(ct c 0 63,1),(ct b 0 63,1),(ct f 0 1073741788,350)]=0):=A (aqN.2 Q);obtain⟨⟨u1,u2⟩,n,⟨l1,l2⟩,⟨r1,r2⟩,⟨v1,v2⟩⟩:=Q;have F:aN a:=⟨by omega,by omega⟩;have arR:=n.r64;have gd:Hid (∀z0∈[bm d a,c,b],aN z0):=A (by intro z0 i;simp at i;rcases i with rfl|rfl|rfl;exact(fJ n a).r64;exact⟨by omega,by omega⟩;exact⟨by omega,by omega⟩);have y:Hid ((f+EM (bm d a) c b)%1073741789=sy a d c b f):=A rfl;clear z;go_enter func77,ntmps77;go_wp2_with fail;rw[<-bp.1];with_reducible refine(aaP a _).mono ?_
 rintro e w2 ⟨f1,im,rfl,Z,G⟩;have uC:=A Z;clear Z;go_wp2_with fail;with_reducible refine(UL d 100 _ arR).mono ?_
 rintro e w3 ⟨f2,dj,rfl,tH,D⟩;have W:=A tH;clear tH;go_wp2_with fail;with_reducible refine(Qf c _).mono ?_
 rintro e w4 ⟨f3,fP,rfl,tI,E⟩;have yT:=A tI;clear tI;go_wp2_with fail;with_reducible refine(Mf b 0 63 1 _).mono ?_
 rintro e w5 ⟨f4,xl,rfl,O,B⟩;have u:=A O;clear O;go_wp2_with fail;with_reducible refine(Mf f 0 1073741788 350 _).mono ?_
 rintro e w6 ⟨f5,Ju,rfl,P,l⟩;have S:=l;have s:=ar B l;have r:=ar E s;have q:=ar D r;have o:=ar G q;have T:=o.alloc o.size (.cells #[.func (.func f1) #[] im,(110:Int),.func (.func f2) #[] dj,(100:Int),.func (.func f3) #[] fP,(1:Int),.func (.func f4) #[] xl,(1:Int),.func (.func f5) #[] Ju,(350:Int)] 214);have j:=A (Mg _ _ _ (arO w6 214 _ rfl 110 100 1 1 350 (uC.1.keep (gN.below q)) (W.1.keep (gN.below r)) (yT.1.keep (gN.below s)) (u.1.keep (gN.below S)) P));rw[HE.1]at j;have v:=A T;clear uC W yT u P G D E B l o q r s S T;go_wp2_with fail;refine j.1.mono ?_;rintro e w8 ⟨rfl,I⟩;have w:=A (ar v.1 I);clear I j v;go_wp2_with fail;with_reducible refine(vf 4 a _ fO F).mono ?_
 rintro e w9 ⟨rfl,H⟩;have x:=A (ar w.1 H);clear H w;go_wp2_with fail;with_reducible refine(vf d a _ n F).mono ?_
 rintro e pg ⟨rfl,N⟩;have k:=A (ar x.1 N);have arS:=A (hG.below (ar m k.1));obtain⟨p1,p2⟩:=aaq (bm d a) c b;clear N x;go_wp2_with fail;with_reducible refine(agu _ c b _ gd.1 arS.1).mono ?_
 rintro e t ⟨rfl,R⟩;have p:=ar k.1 R;have h:=(p.block _ i).trans C;have x0:t.cell? (g,0)=(0:Int):=Y h rfl;have x1:t.cell? (g,1)=(0:Int):=Y h rfl;have x2:t.cell? (g,2)=(0:Int):=Y h rfl;obtain⟨f0,f1',f2'⟩:=Xw h;have X:=cK (cK (cK h 0 b) 1 (bm 4 a:Int)) 2 (sy a d c b f:Int);obtain⟨K,L,M⟩:=jZ X;have HB:=A (ar m p);rw[<-y.1]at K L M;clear X h p R C m i k;go_wp2_with fail;refine gB (v:=.tuple #[.agg #[b,(bm 4 a:Int),(sy a d c b f:Int)],(0:Int)]) (by rw[<-y.1];simp[results,results77,go_sem,K,L,M]) rfl ⟨rfl,?_⟩;repeat (first|exact HB.1|refine zR ?_ (by simp) _)
theorem arT(f h d b c:Int)(a:World)(S:aN f)(T:aN b)(y:BD f h d b c≠0):
  Calls prog 164 #[f,h,.agg #[d,b,c]] a λl m=>l=.returned (.tuple #[(0:Int),(BD f h d b c:Int)])/\Below a a m:=by
 obtain⟨i,v,w,n,W⟩:=Mn a d b c 88;obtain⟨M,x⟩:=aR v w;have x0:i.cell? (a,0)=d:=Y n rfl;have x1:i.cell? (a,1)=b:=Y n rfl;have x2:i.cell? (a,2)=c:=Y n rfl;obtain⟨u,q⟩:=aK (BD f h d b c);rw[<-q]at y ⊢;have L:Hid (qi [(eA f,100),(ct h 0 63,1),(uA d b c,350)]=u):=A q.symm;have h2:(u !=0)=true:=jg.2 y;clear v q n w W;go_enter func164,ntmps164;go_wp2_with fail;rw[<-M.1];go_region_held3 (λm=>m.cell? (a,0)=d/\m.cell? (a,1)=b/\m.cell? (a,2)=c) (go_keep)
  (first
   |(go_at_call 146;(with_reducible refine(UL f 100 _ S).mono ?_);rintro l o ⟨O,X,rfl,D,k⟩;have U1:o.cell? (a,0)=d:=U k (by assumption);have U2:o.cell? (a,1)=b:=U k (by assumption);have U3:o.cell? (a,2)=c:=U k (by assumption);have uC:=A D;clear D)
   |(go_at_call 147;(with_reducible refine(Qf h _).mono ?_);rintro l r ⟨P,N,rfl,E,g⟩;have Qk:r.cell? (a,0)=d:=U g (by assumption);have U4:r.cell? (a,1)=b:=U g (by assumption);have Ql:r.cell? (a,2)=c:=U g (by assumption);have Z:=A E;clear E)
   |(go_at_call 155;(with_reducible refine(U5 d b c _ T).mono ?_);rintro l s ⟨Q,R,rfl,F,e⟩;have G:s.cell? (a,0)=d:=U e (by assumption);have H:s.cell? (a,1)=b:=U e (by assumption);have I:s.cell? (a,2)=c:=U e (by assumption);have yT:=A F;clear F)
   |(go_at_call 144;(refine(Mg _ _ _ (Qg _ _ _ rfl 100 1 350 (uC.1.keep (gN.below (ar g e))) (Z.1.keep (gN.below e)) yT.1)).mono ?_);rintro l t ⟨rfl,j⟩;have Qm:t.cell? (a,0)=d:=U j (U (bk _ _ _) G);have EH:t.cell? (a,1)=b:=U j (U (bk _ _ _) H);have Qn:t.cell? (a,2)=c:=U j (U (bk _ _ _) I)))
 rw[L.1];have z:Below i i o:=(aY _ _).drew.trans k;have B:=ar z g;have p:=ar B e;have C:=p.alloc p.size (.cells #[.func (.func O) #[] X,(100:Int),.func (.func P) #[] N,(1:Int),.func (.func Q) #[] R,(350:Int)] 214);have K:=A (x.1.trans ((ar C j).mono x.1.size));clear z B p C k g e j;go_wp2_with fail;go_ret2;exact⟨rfl,K.1⟩
theorem arU(h e b d c:Int)(a:World)(E:El h)(F:0<=e/\e<=63)(D:Jl b d c)(C:gz a):
  Calls prog 164 #[h,e,.agg #[b,d,c]] a λi m=>i=.returned (.tuple #[(tx h e b c:Int),(0:Int)])/\Below a a m:=by
 obtain⟨j,v,w,n,hz⟩:=Mn a b d c 88;obtain⟨R,x⟩:=aR v w;have x0:j.cell? (a,0)=b:=Y n rfl;have x1:j.cell? (a,1)=d:=Y n rfl;have x2:j.cell? (a,2)=c:=Y n rfl;have O:Hid (qi [(eA h,100),(ct e 0 63,1),(uA b d c,350)]=0):=A (aat.2 ⟨E,F,D⟩);obtain⟨⟨r1,r2⟩,G,hc⟩:=D;have hp:=G.r64;have u:=E.r64;have Q:aN e:=⟨by omega,by omega⟩;have mq:aN b:=⟨by omega,by omega⟩;clear v n w hz r1 r2 G F;go_enter func164,ntmps164;go_wp2_with fail;rw[<-R.1];go_region_held3 (λm=>m.cell? (a,0)=b/\m.cell? (a,1)=d/\m.cell? (a,2)=c) (go_keep)
  (first
   |(go_at_call 146;(with_reducible refine(UL h 100 _ u).mono ?_);rintro i o ⟨T,im,rfl,H,l⟩;have U1:o.cell? (a,0)=b:=U l (by assumption);have U2:o.cell? (a,1)=d:=U l (by assumption);have U3:o.cell? (a,2)=c:=U l (by assumption);have uC:=A H;clear H)
   |(go_at_call 147;(with_reducible refine(Qf e _).mono ?_);rintro i q ⟨W,S,rfl,I,g⟩;have Qk:q.cell? (a,0)=b:=U g (by assumption);have U4:q.cell? (a,1)=d:=U g (by assumption);have Ql:q.cell? (a,2)=c:=U g (by assumption);have mM:=A I;clear I)
   |(go_at_call 155;(with_reducible refine(U5 b d c _ hp).mono ?_);rintro i r ⟨X,Z,rfl,K,f⟩;have L:r.cell? (a,0)=b:=U f (by assumption);have M:r.cell? (a,1)=d:=U f (by assumption);have N:r.cell? (a,2)=c:=U f (by assumption);have yT:=A K;clear K)
   |(go_at_call 144;(refine(Mg _ _ _ (Qg _ _ _ rfl 100 1 350 (uC.1.keep (gN.below (ar g f))) (mM.1.keep (gN.below f)) yT.1)).mono ?_);rintro i s ⟨rfl,k⟩;have Qm:s.cell? (a,0)=b:=U k (U (bk _ _ _) L);have EH:s.cell? (a,1)=d:=U k (U (bk _ _ _) M);have Qn:s.cell? (a,2)=c:=U k (U (bk _ _ _) N)))
 rw[O.1];have y:Below j j o:=(aY _ _).drew.trans l;have z:=ar y g;have p:=ar z f;have B:=p.alloc p.size (.cells #[.func (.func T) #[] im,(100:Int),.func (.func W) #[] S,(1:Int),.func (.func X) #[] Z,(350:Int)] 214);have t:=A (x.1.trans ((ar B k).mono x.1.size));have oe:=A (C.below t.1);clear y z p B l g f k C;go_wp2_with fail;with_reducible refine(agV h e b d c _ u Q mq hc oe.1).mono ?_
 rintro i w6 ⟨rfl,P⟩;go_wp2_with fail;go_ret2;exact⟨rfl,ar t.1 P⟩
theorem arV(h g d b c:Int)(a:World)(S:aN b)(y:CZ h g d b c≠0):
  Calls prog 83 #[h,g,.agg #[d,b,c]] a λl m=>l=.returned (.tuple #[(0:Int),(CZ h g d b c:Int)])/\Below a a m:=by
 obtain⟨i,v,w,n,T⟩:=Mn a d b c 88;obtain⟨M,x⟩:=aR v w;have x0:i.cell? (a,0)=d:=Y n rfl;have x1:i.cell? (a,1)=b:=Y n rfl;have x2:i.cell? (a,2)=c:=Y n rfl;obtain⟨u,q⟩:=aK (CZ h g d b c);rw[<-q]at y ⊢;have L:Hid (qi [(ct h 1 1073741788,110),(ct g 0 63,1),(uA d b c,350)]=u):=A q.symm;have h2:(u !=0)=true:=jg.2 y;clear v q n w T;go_enter func83,ntmps83;go_wp2_with fail;rw[<-M.1];go_region_held3 (λm=>m.cell? (a,0)=d/\m.cell? (a,1)=b/\m.cell? (a,2)=c) (go_keep)
  (first
   |(go_at_call 145;(with_reducible refine(aaP h _).mono ?_);rintro l o ⟨O,W,rfl,D,k⟩;have U1:o.cell? (a,0)=d:=U k (by assumption);have U2:o.cell? (a,1)=b:=U k (by assumption);have U3:o.cell? (a,2)=c:=U k (by assumption);have Z:=A D;clear D)
   |(go_at_call 147;(with_reducible refine(Qf g _).mono ?_);rintro l r ⟨P,N,rfl,E,f⟩;have Qk:r.cell? (a,0)=d:=U f (by assumption);have U4:r.cell? (a,1)=b:=U f (by assumption);have Ql:r.cell? (a,2)=c:=U f (by assumption);have X:=A E;clear E)
   |(go_at_call 155;(with_reducible refine(U5 d b c _ S).mono ?_);rintro l s ⟨Q,R,rfl,F,e⟩;have G:s.cell? (a,0)=d:=U e (by assumption);have H:s.cell? (a,1)=b:=U e (by assumption);have I:s.cell? (a,2)=c:=U e (by assumption);have yT:=A F;clear F)
   |(go_at_call 144;(refine(Mg _ _ _ (Qg _ _ _ rfl 110 1 350 (Z.1.keep (gN.below (ar f e))) (X.1.keep (gN.below e)) yT.1)).mono ?_);rintro l t ⟨rfl,j⟩;have Qm:t.cell? (a,0)=d:=U j (U (bk _ _ _) G);have EH:t.cell? (a,1)=b:=U j (U (bk _ _ _) H);have Qn:t.cell? (a,2)=c:=U j (U (bk _ _ _) I)))
 rw[L.1];have z:Below i i o:=(aY _ _).drew.trans k;have B:=ar z f;have p:=ar B e;have C:=p.alloc p.size (.cells #[.func (.func O) #[] W,(110:Int),.func (.func P) #[] N,(1:Int),.func (.func Q) #[] R,(350:Int)] 214);have K:=A (x.1.trans ((ar C j).mono x.1.size));clear z B p C k f e j;go_wp2_with fail;go_ret2;exact⟨rfl,K.1⟩
theorem agX(e f c b d:Int)(a:World)(H:1<=e/\e<=1073741788)(G:0<=f/\f<=63)(F:Jl c b d)(E:gz a):
  Calls prog 83 #[e,f,.agg #[c,b,d]] a λh n=>h=.returned (.tuple #[(tx (bm b e) f c d:Int),(0:Int)])/\Below a a n:=by
 obtain⟨k,x,y,o,hz⟩:=Mn a c b d 88;obtain⟨bp,z⟩:=aR x y;have x0:k.cell? (a,0)=c:=Y o rfl;have x1:k.cell? (a,1)=b:=Y o rfl;have x2:k.cell? (a,2)=d:=Y o rfl;have w:Hid (qi [(ct e 1 1073741788,110),(ct f 0 63,1),(uA c b d,350)]=0):=A (UK.2 ⟨H,G,F⟩);obtain⟨⟨r1,r2⟩,r,hc⟩:=F;have hp:=r.r64;have aaR:aN e:=⟨by omega,by omega⟩;have aaQ:aN f:=⟨by omega,by omega⟩;have mq:aN c:=⟨by omega,by omega⟩;have Z:=(fJ r e).r64;clear x o y hz r1 r2 G H;go_enter func83,ntmps83;go_wp2_with fail;rw[<-bp.1];go_region_held3 (λn=>n.cell? (a,0)=c/\n.cell? (a,1)=b/\n.cell? (a,2)=d) (go_keep)
  (first
   |(go_at_call 145;(with_reducible refine(aaP e _).mono ?_);rintro h p ⟨f1,im,rfl,L,m⟩;have U1:p.cell? (a,0)=c:=U m (by assumption);have U2:p.cell? (a,1)=b:=U m (by assumption);have U3:p.cell? (a,2)=d:=U m (by assumption);have O:=A L;clear L)
   |(go_at_call 147;(with_reducible refine(Qf f _).mono ?_);rintro h s ⟨f2,dj,rfl,M,j⟩;have Qk:s.cell? (a,0)=c:=U j (by assumption);have U4:s.cell? (a,1)=b:=U j (by assumption);have Ql:s.cell? (a,2)=d:=U j (by assumption);have I:=A M;clear M)
   |(go_at_call 155;(with_reducible refine(U5 c b d _ hp).mono ?_);rintro h t ⟨f3,fP,rfl,N,g⟩;have R:t.cell? (a,0)=c:=U g (by assumption);have S:t.cell? (a,1)=b:=U g (by assumption);have T:t.cell? (a,2)=d:=U g (by assumption);have P:=A N;clear N)
   |(go_at_call 144;(refine(Mg _ _ _ (Qg _ _ _ rfl 110 1 350 (O.1.keep (gN.below (ar j g))) (I.1.keep (gN.below g)) P.1)).mono ?_);rintro h u ⟨rfl,l⟩;have W:u.cell? (a,0)=c:=U l (U (bk _ _ _) R);have Q:u.cell? (a,1)=b:=U l (U (bk _ _ _) S);have X:u.cell? (a,2)=d:=U l (U (bk _ _ _) T)))
 rw[w.1];have B:Below k k p:=(aY _ _).drew.trans m;have C:=ar B j;have q:=ar C g;have D:=q.alloc q.size (.cells #[.func (.func f1) #[] im,(110:Int),.func (.func f2) #[] dj,(1:Int),.func (.func f3) #[] fP,(350:Int)] 214);have v:=A (z.1.trans ((ar D l).mono z.1.size));have K:=E.below v.1;have e0:=W;have e1:=Q;have e2:=X;clear B C q D m j g l E w O I P;go_wp2_with fail;with_reducible refine(vf b e _ r aaR).mono ?_
 rintro h w6 ⟨rfl,i⟩;obtain⟨my,cO⟩:=aR (K.below i) (ar v.1 i);have g0:=U i e0;have g1:=U i e1;have g2:=U i e2;clear i K;go_wp2_with fail;with_reducible refine(agV (bm b e) f c b d _ Z aaQ mq hc my.1).mono ?_
 rintro h w7 ⟨rfl,bz⟩;go_wp2_with fail;go_ret2;exact⟨rfl,ar cO.1 bz⟩
