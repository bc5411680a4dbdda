/- TopRenewed: one key, dealt, renewed, rebuilt and moved. -/
import Derived.Test.YtaifagjclanodaaGreatDoorMTpL
import Derived.Test.YtaifagjclanodaaGreatDoorMSgA
set_option maxHeartbeats 16000000
set_option maxRecDepth 100000
namespace Go.Proofs.YtaifagjclanodaaGreatDoor
open Go.Proofs.Tryz
open Go.RowKit FP
variable{h:Array Value}{d e:Bool}{N:Nat}{a f g:Value}{c w':World}
theorem ayA{i:Addr}(b:c.cell? i=some a):i.block<c.heap.size:=by
 unfold World.cell? at b;split at b
 ·rename_i j;exact bG j
 ·cases b
def NV(c:World)(a:Value):Prop:=∃b,RI c a b/\eU (-1) b=true/\b.length<=16
theorem NV.below(l:NV c a)(j:Below c c w'):NV w' a:=by
 obtain⟨k,b,i⟩:=l;exact⟨k,b.below j,i⟩
def Hs(w x:Value)(k:ak)(v:V)(i:Int)(c:World)(a:Value):Prop:=∃j t s r2 r p q n l m o u,a=.tuple #[.agg #[.int .i64 j,.slice t s r2,.slice r p q,.slice n l m],o,.bool u,.bool true]/\(u=true->j=2/\Value.slice t s r2=w/\Value.slice r p q=x/\∃b,RI c (.slice n l m) (bt (i::b))/\RS c o (bV k (i::b))/\dU k v i b)
theorem Hs.below{j k:Value}{b:ak}{i:V}{m:Int}(K:Hs j k b i m c a)(l:Below c c w'):Hs j k b i m w' a:=by
 obtain⟨n,F,E,r2,D,B,C,q,o,p,z,H,x,y⟩:=K;exact⟨n,F,E,r2,D,B,C,q,o,p,z,H,x,λI=>by obtain⟨r,s,t,G,u,v,w⟩:=y I;exact⟨r,s,t,G,u.below l,v.below l,w⟩⟩
theorem Hs.keyW{k l:Value}{i:ak}{j:V}{n:Int}(R:Hs k l i j n c a){b:Nat}{u:Nat×Nat}(m:c.heap[b]?=some (.cells h 33 u))(Q O p P:Value):Hs k l i j n (putKey c b Q O p P) a:=by
 obtain⟨o,K,I,r2,H,F,G,s,q,r,E,M,C,D⟩:=R;exact⟨o,K,I,r2,H,F,G,s,q,r,E,M,C,λt=>by obtain⟨v,w,x,L,y,z,B⟩:=D t;exact⟨v,w,x,L,y.keyW m (by decide) _ _ _ _,z.keyW m (by decide) _ _ _ _,B⟩⟩
def rA(N:Nat)(d e:Bool)(g f:Value)(c:World):Prop:=d=true->∃b,g=.pointer (some ⟨b,0,none⟩)/\N<=b/\(e=false->c.heap[b]?=some (.cells #[.int .i64 0,.slice none 0 0,.slice none 0 0,.slice none 0 0] 33 (0,0)))/\(e=true->∃l j i k,f=.agg #[l,j,i,k]/\c.heap[b]?=some (.cells #[l,j,i,k] 33 (0,0)))
theorem rA.nil(N:Nat)(e:Bool)(g f:Value)(c:World):rA N false e g f c:=λb=>by cases b
theorem rA.below(v:rA N d e g f c)(j:Below c c w'):rA N d e g f w':=λs=>by
 obtain⟨k,p,q,i,r⟩:=v s;exact⟨k,p,q,λb=>(j.block _ (bG (i b))).trans (i b),λb=>by obtain⟨m,t,l,u,n,o⟩:=r b;exact⟨m,t,l,u,n,az j o⟩⟩
theorem rA.keep{i:Nat}(w:rA N d e g f c)(x:i<N)(m:c.grownBy w' (some i)):rA N d e g f w':=λt=>by
 obtain⟨j,q,r,l,s⟩:=w t;have hn:some j≠some i:=λb=>by injection b with b;omega
 exact⟨j,q,r,λb=>(m.block _ (bG (l b)) hn).trans (l b),λb=>by obtain⟨o,u,n,v,p,k⟩:=s b;exact⟨o,u,n,v,p,(m.block _ (bG k) hn).trans k⟩⟩
theorem rA.swap{o:Value}(p:rA N d e g f c)(n:e=false):rA N d e g o c:=λm=>by
 obtain⟨i,j,k,l,-⟩:=p m;exact⟨i,j,k,l,λb=>by rw[n]at b;cases b⟩
theorem rA.alloc(_j:rA N d e g f c)(i:e=false)(hn:N<=c.heap.size):rA N true e (c,0) f (c.alloc (.cells #[(0:Int),(),(),()] 33)):=λ_ =>
 ⟨_,rfl,hn,λ_=>World.alloc_heap_new _ _,λb=>by rw[i]at b;cases b⟩
theorem rA.store{b:Nat}(p:g=(b,0))(m:N<=b)(q:c.heap[b]?=QC.mk #[(0:Int),(),(),()] 33){l j i k:Value}(o:f=.agg #[l,j,i,k]):rA N d true g f (putKey c b l j i k):=λ_ =>
 ⟨b,p,m,λn=>(by cases n),λ_=>⟨_,_,_,_,o,MM q _ _ _ _⟩⟩
structure ayB(r:World)(j:Nat)(o:Int)(s:Nat)(p:Value)(l:Option Addr)(k m q:Nat)(n:Int)(i:Nat->Bool)(a:Nat->Value)(c:World):Prop where
 b:r.grownBy c (some j)
 f0:KQ i a 0 true
 f1:KQ i a 1 false
 f2:KQ i a 2 false
 f3:KQ i a 3 p
 f4:KQ i a 4 (.slice l k m)
 f5:KQ i a 5 (.int .u8 n)
 f6:KQ i a 6 n
 f7:KQ i a 7 (.slice l k m)
 f8:KQ i a 8 k
 f9:KQ i a 9 q
 f10:KQ i a 10 (j,0)
 f11:KQ i a 11 true
 f12:KQ i a 12 false
 f13:KQ i a 13 false
 dd:dO j (bif i 11 then o+100 else o) c
structure ayC(t:World)(N j:Nat)(k:Int)(v w:Nat)(p r q:Value)(s:Int)(n o:Value)(l:ak)(m:V)(u:Int)(i:Nat->Bool)(a:Nat->Value)(c:World):Prop where
 b:t.grownBy c (some j)
 f0:KQ i a 0 p
 f1:KQ i a 1 q
 f2:KQ i a 2 r
 f3:KQ i a 3 (.int .u16 s)
 f4:i 4=true->i 6=false->NV c (a 4)
 f5:KQ i a 5 (j,0)
 f6:i 6=true->Hs n o l m u c (a 6)
 f7:KQ i a 7 (a 6)
 f8:KQ i a 8 (ku 0 (a 6))
 f9:KQ i a 9 (ku 1 (a 6))
 f10:KQ i a 10 (ku 2 (a 6))
 f11:KQ i a 11 (ku 3 (a 6))
 f14:KQ i a 14 (ku 1 (a 6))
 f15:KQ i a 15 (ku 2 (a 6))
 f16:KQ i a 16 (ku 3 (a 6))
 dd:dO j (bif i 6 then k+2000 else k) c
 bx:rA N (i 12) (i 13) (a 12) (a 8) c
structure ayD(m:World)(q:Nat)(l o p:Value)(n:bF)(k:Int)(j:Bool)(i:Nat->Bool)(a:Nat->Value)(c:World):Prop where
 b:Below m m c
 f0:KQ i a 0 l
 f1:KQ i a 1 l
 f2:KQ i a 2 o
 f3:KQ i a 3 p
 f4:i 4=true->i 5=false->fK c (a 4) n
 f5:KQ i a 5 (.tuple #[k,.bool j,(0:Int)])
 f6:KQ i a 6 (.tuple #[k,.bool j,(0:Int)])
 f7:KQ i a 7 k
 f8:KQ i a 8 j
 f9:KQ i a 9 (0:Int)
 f10:KQ i a 10 k
 f11:KQ i a 11 j
 f12:KQ i a 12 (0:Int)
theorem topRenewed_any(rv ov ef eh wv:Value)(ta:Option Addr)(tn tcp:Nat)(n:ak)(z:V)(p:ak)(q:V)(dl bad F some_ others:Int)(nl:V)(c:World)(hG:gz c)
  (hR:bI c rv n) (hO:aM c ov z) (hR2:bI c ef p) (hO2:aM c eh q) (mY:0<=dl/\dl<256) (xq:0<=bad/\bad<256) (akj:0<=F/\F<256) (akk:0<=some_/\some_<65536) (akl:0<=others/\others<65536) (hN:Words c wv nl) (hT:tn<=300->∃bs:aO,bs.length=tn/\fC c (.slice ta tn tcp) bs):
  Calls prog 3 #[.agg #[rv,ov],.agg #[ef,eh],.int .u8 dl,.int .u8 bad,.int .u8 F,.int .u16 some_,.int .u16 others,wv,.slice ta tn tcp] c λo w'=>o=.returned true/\Below c c w':=by
 obtain⟨W1,aE,au,aI,dP⟩:=ee c rv ov 25;have bX:W1.heap.size=c.heap.size+1:=by rw[aE];simp
 obtain⟨W2,cG,an,bE,dQ⟩:=ee W1 ef eh 25;have r:Below c c W2:=ar au an;obtain⟨HG,Q,P,X,K,HN,HT0,y⟩:=DL (hG.below r) (hR.below r) (hO.below r) (hR2.below r) (hO2.below r) (hN.below r) hT r;rw[bX]at bE;obtain⟨Q1,G,vt⟩:=bJ (az an aI) bE (And.intro mY (And.intro xq (And.intro akj (And.intro akk akl))));rw[aE]at cG;have kG:=A cG;obtain⟨a1,k1,rfl,-,eI,-⟩:=id hR;obtain⟨a2,k2,rfl,-,dR,-⟩:=id hO;obtain⟨H,M,rfl,-,fj,-⟩:=id hR2;obtain⟨I,O,rfl,-,xt,-⟩:=id hO2;obtain⟨na,ncp,rfl,-,EF,-⟩:=id hN;clear hG hR hO hR2 hO2 hN hT r au an aI bE bX dP dQ aE cG mY xq akj akk akl;go_enter func3,ntmps3;go_wp2_with (rw[<-kG.1]);with_reducible refine(ayr _).mono ?_
 rintro o w3 ⟨rfl,aJ⟩;obtain⟨HG,Q,P,X,K,HN,Q1,G,y⟩:=fx (HG.1.below aJ) (Q.1.below aJ) (P.1.below aJ) (X.1.below aJ) (K.1.below aJ) (HN.1.below aJ) (az aJ Q1.1) (az aJ G.1) (ar y.1 aJ);clear aJ;obtain⟨c0,C⟩:=ez Q1.1;clear kG;go_wp2_with fail;with_reducible refine(aiS _ _ n z _ Q.1 P.1).mono ?_
 rintro o w4 ⟨⟨b,rfl,hf⟩,aU⟩;clear c0 C;obtain⟨HG,Q,P,X,K,HN,Q1,G,y⟩:=fx (HG.1.below aU) (Q.1.below aU) (P.1.below aU) (X.1.below aU) (K.1.below aU) (HN.1.below aU) (az aU Q1.1) (az aU G.1) (ar y.1 aU);clear aU;cases b with
 |false =>
  clear hf;go_wp2_with fail;go_ret;exact⟨rfl,y.1⟩
 |true =>
 have HF:=A (hf rfl);clear hf;obtain⟨S,T⟩:=ez G.1;go_wp2_with fail;with_reducible refine(aiS _ _ p q _ X.1 K.1).mono ?_
 rintro o m ⟨⟨b,rfl,hf⟩,aG⟩;clear S T;obtain⟨HG,Q,P,X,K,HN,Q1,G,y⟩:=fx (HG.1.below aG) (Q.1.below aG) (P.1.below aG) (X.1.below aG) (K.1.below aG) (HN.1.below aG) (az aG Q1.1) (az aG G.1) (ar y.1 aG);clear aG;cases b with
 |false =>
  clear hf;go_wp2_with fail;go_ret;exact⟨rfl,y.1⟩
 |true =>
 have mM:=A (hf rfl);clear hf;by_cases ht:tn<=300;rotate_left
 ·have t0:decide ((300:Int)<(tn:Int))=true:=bB (by omega);go_wp2_with fail;go_ret;exact⟨rfl,y.1⟩
 have t0:decide ((300:Int)<(tn:Int))=false:=bw (by omega);obtain⟨bs,iz,IQ⟩:=HT0.1 ht;obtain⟨HT,HBT⟩:=aR (IQ.below y.1) (And.intro ht iz);clear ht iz IQ;obtain⟨W6,cH⟩:=aK (m.alloc (.cells #[.slice na nl.length ncp,(0:Int)] 37));have aF:Below m m W6:=by rw[cH];exact bk _ _ _
 have hdc:dO m.heap.size 0 W6:=by
  refine⟨na,nl.length,ncp,nl,0,by rw[cH];exact World.alloc_heap_new _ _,HN.1.below aF,λd E h0=>?_,by omega,by omega⟩;obtain⟨_,_,w,-,-,-,hk⟩:=HN.1;obtain⟨b,off,u,h7⟩:=hk 0 h0;simp only[dr]at w;obtain⟨rfl,-,-⟩:=w;rw[E]at u;injection u with u;rw[u];exact ayA h7
 obtain⟨z4,hn⟩:∃z4:Nat,1+dl%3=z4/\1<=z4/\z4<=3:=⟨(1+dl%3).toNat,by have:=vt.1;omega,by have:=vt.1;omega,by have:=vt.1;omega⟩;have q0:IntKind.i64.wrap dl=dl:=jw _ (by have:=vt.1;omega);have q1:dl.tmod 3=dl%3:=pM vt.1.1.1;have q2:IntKind.i64.wrap (1+dl%3)=(z4:Int):=by rw[hn.1];exact jw _ (by omega)
 have Df:=axH m.heap.size 0 (.slice a1 n.length k1) (.slice a2 z.length k2) n z z4 bad m W6 aF (aP _) HG.1 Q.1 P.1 hdc (by omega) HF.1 hn.2 vt.1.2.1;have Fy:=A Df;have iL:=az aF Q1.1;obtain⟨c0,C⟩:=ez iL;obtain⟨cO,fR⟩:=aR aF cH;clear hn Df hdc iL cH aF;go_wp2_with (rw[<-fR.1]);with_reducible refine Fy.1.mono ?_
 rintro o w6 ⟨⟨lv,sv,CD⟩,x,pT⟩;have Sr:=iW (lK (r:=some m.heap.size) cO.1) pT;clear c0 C q0 q1 q2 Fy fR HN;rcases CD with rfl|⟨cv,s,z5,rfl,hc6,JM,BN⟩
 ·obtain⟨W7,eE,bz,xN,-⟩:=lF w6 (0:Int) () () () 33;have bY:=y.1.trans ((rp Sr (aP _) (aP _)).mono y.1.size);obtain⟨HE,ou⟩:=aR (ar bY bz) eE;obtain⟨Z,g1,g2,g3⟩:=fh xN;obtain⟨f0,f1,f2,f3⟩:=wm xN;obtain⟨S0,S1,S2,S3⟩:=cY (mC Z) (mC g1) (mC g2) (mC g3);clear eE bz xN bY x pT Sr t0;go_wp2_with (first|rw[<-ou.1]|rw[S0.1]|rw[S1.1]|rw[S2.1]|rw[S3.1]);go_ret;exact⟨rfl,HE.1⟩
 obtain⟨c6,k6,rfl,-⟩:=id hc6.1;obtain⟨W7,eE,bz,xN,-⟩:=lF w6 (0:Int) (.slice a1 n.length k1) (.slice a2 z.length k2) (.slice c6 (bt (s::z5)).length k6) 33;have acw:=fT Sr (bz.mono (bK (aP _) Sr.size));have hD7:dO m.heap.size 2000 W7:=(x.below bz).mono (by omega);have rf:=awz m.heap.size 2000 0 (.slice a1 n.length k1) (.slice a2 z.length k2) (.slice c6 (bt (s::z5)).length k6) lv n z s z5 m W7 (rp acw (aP _) (aP _)) (aP _) Q.1 P.1 (hc6.below bz) (JM.below bz) hD7 (by omega) (EO HF.1.1).2.1 BN (EO HF.1.1).2.2 (by omega) (by omega);rw[Int.zero_add]at rf;have JA:=A rf;obtain⟨Z,g1,g2,g3⟩:=fh xN;obtain⟨E0,tW,Wx⟩:=bJ xN acw BN;have kx:Hid (m.heap.size<w6.heap.size):=A x.lt;have sM:Hid (∀z2:Nat,some (⟨w6.heap.size,z2,none⟩:Addr).block≠some m.heap.size):=A (λz2 o=>by
  have v:=x.lt;simp at o;omega)
 have ou:=A eE;clear eE bz xN Sr acw hD7 rf x pT hc6 JM BN t0;go_wp2_with (rw[<-ou.1]);with_reducible refine JA.1.mono ?_
 rintro o w8 ⟨cv7,lv7,u7,rfl,CI,Ao,pn,pK,vY⟩;clear Z g1 g2 g3;have dW:=(vY.block _ (bG E0.1) (sM.1 0)).trans E0.1;obtain⟨u0,u1,u2,u3⟩:=fh dW;obtain⟨f0,f1,f2,f3⟩:=wm dW;obtain⟨la,lc,rfl,-⟩:=id Ao.1;obtain⟨c7,k7,rfl,-⟩:=id CI.1;rw[ju]at Ao ⊢;obtain⟨W9,ff⟩:∃W9,W9=putKey w8 w6.heap.size (1:Int) (.slice a1 n.length k1) (.slice a2 z.length k2) (.slice c7 (bt (s::u7)).length k7):=⟨_,rfl⟩;have KJ:Below w6 w8 W9:=ff▸JQ (aY _ w8) (aP w6.heap.size) _ _ _ _;obtain⟨AJ,D6⟩:=aR (ff▸CI.keyW dW (by decide) _ _ _ _) (ff▸Ao.keyW dW (by decide) _ _ _ _);have qJ:=ff▸MM dW (1:Int) (.slice a1 n.length k1) (.slice a2 z.length k2) (.slice c7 (bt (s::u7)).length k7);have xR:Hid (dO m.heap.size 3000 W9):=A ((pK.low KJ kx.1).mono (by omega));have iq:=fT (iW tW.1 vY) (KJ.mono (gQ kx.1));obtain⟨zE,Ht,vN⟩:=bJ iq qJ pn;obtain⟨Z,g1,g2,g3⟩:=fh qJ;unfold putKey at ff;have jI:=A ff;have r0:0<n.length:=HF.1.2.1;have r8:n.length<=8:=HF.1.2.2.1;obtain⟨z3,kB⟩:∃z3:Nat,F%(n.length:Int)=z3/\z3<n.length:=⟨(F%(n.length:Int)).toNat,by have:=Og F (b:=(n.length:Int)) (by omega);omega,by have:=Og F (b:=(n.length:Int)) (by omega);have:=Int.emod_lt_of_pos F (b:=(n.length:Int)) (by omega);omega⟩;have q4:IntKind.i64.wrap F=F:=jw _ (by have:=vt.1;omega);have q5:F.tmod (n.length:Int)=(z3:Int):=by rw[pM vt.1.2.2.1.1];exact kB.1
 have WD:n.length≠0:=by omega
 have Hk:Hid (∀k,W9.grownBy k (some m.heap.size)->dO m.heap.size 3000 k->Calls prog 8 #[.agg #[(1:Int),.slice a1 n.length k1,.slice a2 z.length k2,(.slice c7 (bt (s::u7)).length k7)],.slice la n.length lc,z3,(m,0)] k λo w'=>o=.returned true/\dO m.heap.size (3000+100) w'/\k.grownBy w' (some m.heap.size)):=A (λk L E=>axo m.heap.size 3000 1 _ _ _ _ n z s u7 z3 m k (rp (iW zE.1 L) (aP _) (aP _)) (aP _) Q.1 P.1 (AJ.1.dic xR.1 L) (D6.1.dic xR.1 L) E (by omega) (EO HF.1.1).2.1 vN.1 kB.2);clear KJ dW qJ iq CI Ao pn pK vY ff kB JA E0 tW ou;go_wp2_with (rw[<-jI.1]);clear u0 u1 u2 u3 f0 f1 f2 f3;refine nW (ayB W9 m.heap.size (3000) w6.heap.size (.agg #[(1:Int),.slice a1 n.length k1,.slice a2 z.length k2,.slice c7 (bt (s::u7)).length k7]) la n.length lc z3 F) (λa=>?_) ?_ (λa k i=>?_)
 ·exact⟨az4 (lK (aY _ _)),ax,ax,ax,ax,ax,ax,ax,ax,ax,ax,ax,ax,ax,ax,(xR.1.below (aY _ _).drew)⟩
 ·refine⟨?_,?_,?_,?_,?_,?_,?_,?_,?_,?_,?_,?_,?_,?_,trivial⟩;all_goals intro W a k z6 i j
  ·have l:=j.b 26 true;clear j;go_simp;exact⟨_,rfl,{i with f0:=aB}⟩
  ·have l:=j.e 0 88 i.f0;clear j;go_simp;exact⟨_,rfl,{i with f1:=aB}⟩
  ·have l:=j.e 1 89 i.f1;clear j;go_simp;exact⟨_,rfl,{i with f2:=aB}⟩
  ·refine j.g 2 i.f2 ?_;have l:=j.b 22 (w6,0);have cJ:=i.b.cell Z (sM.1 0);have jd:=i.b.cell g1 (sM.1 1);have vK:=i.b.cell g2 (sM.1 2);have xE:=i.b.cell g3 (sM.1 3);clear j;go_simp;exact⟨_,rfl,{i with f3:=aB}⟩
  ·refine j.g 2 i.f2 ?_;have l:=j.b 23 (.slice la n.length lc);clear j;go_simp;exact⟨_,rfl,{i with f4:=aB}⟩
  ·refine j.g 2 i.f2 ?_;have l:=j.b 4 (.int .u8 F);clear j;go_simp;exact⟨_,rfl,{i with f5:=aB}⟩
  ·refine j.g 2 i.f2 ?_;have l:=j.e 5 93 i.f5;clear j;go_simp;exact⟨_,rfl,{i with f6:=aB}⟩
  ·refine j.g 2 i.f2 ?_;have l:=j.b 23 (.slice la n.length lc);clear j;go_simp;exact⟨_,rfl,{i with f7:=aB}⟩
  ·refine j.g 2 i.f2 ?_;have l:=j.e 7 95 i.f7;clear j;go_simp;exact⟨_,rfl,{i with f8:=aB}⟩
  ·refine j.g 2 i.f2 ?_;have l:=j.e 6 94 i.f6;have w:=j.e 8 96 i.f8;clear j;go_simp;exact⟨_,rfl,{i with f9:=aB}⟩
  ·refine j.g 2 i.f2 ?_;have l:=j.b 21 (m,0);clear j;go_simp;exact⟨_,rfl,{i with f10:=aB}⟩
  ·have E:=j.hd;refine j.g 2 i.f2 ?_;have l:=j.e 3 91 i.f3;have w:=j.e 4 92 i.f4;have u:=j.e 9 97 i.f9;have e3:=j.e 10 98 i.f10;clear j;go_simp;have An:dO m.heap.size 3000 k:=by have h9:=i.dd;rw[E]at h9;exact h9
   with_reducible refine(Hk.1 k i.b An).mono ?_
   rintro o wq ⟨rfl,zx,L⟩;exact⟨_,rfl,{i with b:=iW i.b L,f11:=aB,dd:=(zx)}⟩
  ·refine j.g 2 i.f2 ?_;have l:=j.e 11 99 i.f11;clear j;go_simp;exact⟨_,rfl,{i with f12:=aB}⟩
  ·have l:=j.e 2 90 i.f2;have u:=j.e 12 100 i.f12;clear j;go_simp;exact⟨_,rfl,{i with f13:=aB}⟩
 simp only[jG,Act.put,Nat.reduceAdd,dD];have D:=i.b;rw[i.f13 rfl];obtain⟨WS,Sp⟩:=aK k;subst Sp;have Ss:Hid (dO m.heap.size 3100 WS):=A i.dd;obtain⟨ql,Mt,Jj,Wz⟩:=cY (AJ.1.dic xR.1 D) (D6.1.dic xR.1 D) (iW zE.1 D) ((D.block _ (bG Ht.1) (sM.1 0)).trans Ht.1);clear i D Z g1 g2 g3 q4 q5 WD Hk xR AJ D6 zE Ht jI;have Eb:c.heap.size+1<m.heap.size:=bG G.1;have Ce:Hid (∀z2:Nat,some (⟨c.heap.size+1,z2,none⟩:Addr).block≠some m.heap.size):=A (λz2 o=>by
  simp at o;omega)
 have hqs:=(Jj.1.block _ (bG G.1) (Ce.1 0)).trans G.1;obtain⟨S,T⟩:=ez hqs;obtain⟨Z,g1,g2,g3⟩:=fh Wz.1;have ti:Hid (m.heap.size<WS.heap.size):=A Ss.1.lt;have Bp:Hid (∀k,Calls prog 10 #[.int .u16 some_] k λo w'=>∃a,o=.returned a/\NV w' a/\Below k k w'):=A (λk=>(aiQ some_ k vt.1.2.2.2.1).mono λo w' ⟨a,B,v,h2,h3,_,h4,_,h5⟩=>⟨a,v,⟨B,h2,h3,h4⟩,h5⟩);have xP:Hid (∀k a,WS.grownBy k (some m.heap.size)->dO m.heap.size 3100 k->NV k a->Calls prog 9 #[.agg #[(1:Int),.slice a1 n.length k1,.slice a2 z.length k2,.slice c7 (bt (s::u7)).length k7],.slice la n.length lc,.agg #[.slice H p.length M,.slice I q.length O],a,(m,0)] k λo w'=>∃z1,o=.returned z1/\Hs (.slice H p.length M) (.slice I q.length O) p q s w' z1/\dO m.heap.size (3100+2000) w'/\k.grownBy w' (some m.heap.size)):=A (λk a L E hp=>by
  obtain⟨B,p1,p2,p3⟩:=hp;refine(aw3 m.heap.size 3100 1 _ _ _ _ (.slice H p.length M) (.slice I q.length O) a n z s u7 p q B m k (rp (iW Jj.1 L) (aP _) (aP _)) (aP _) Q.1 P.1 X.1 K.1 (ql.1.dic Ss.1 L) (Mt.1.dic Ss.1 L) p1 E (by omega) (EO HF.1.1).2.1 (EO mM.1.1).2.1 vN.1 (EO mM.1.1).2.2 (by omega) (by omega) p2 p3).mono ?_;rintro o w' ⟨⟨yv,CD⟩,h2,h3⟩;rcases CD with rfl|⟨R,u9,rfl,h4,h5,h6⟩
  ·exact⟨_,rfl,⟨_,_,_,_,_,_,_,_,_,_,_,_,rfl,λo=>by cases o⟩,h2,h3⟩
  ·obtain⟨ka,kc,rfl,-⟩:=id h4.1;exact⟨_,rfl,⟨_,_,_,_,_,_,_,_,_,_,_,_,rfl,λ_=>⟨rfl,rfl,rfl,u9,h4,h5,h6⟩⟩,h2,h3⟩)
 clear hqs Eb;go_wp2_with fail;refine nW (ayC WS WS.heap.size m.heap.size (3100) w6.heap.size (c.heap.size+1) (.agg #[(1:Int),.slice a1 n.length k1,.slice a2 z.length k2,.slice c7 (bt (s::u7)).length k7]) (.agg #[.slice H p.length M,.slice I q.length O]) (.slice la n.length lc) some_ (.slice H p.length M) (.slice I q.length O) p q s) (λa=>?_) ?_ (λa k i=>?_)
 ·exact⟨az4 (lK (aY _ _)),ax,ax,ax,ax,ax,ax,ax,ax,ax,ax,ax,ax,ax,ax,ax,(Ss.1.below (aY _ _).drew),(rA.nil _ _ _ _ _)⟩
 ·refine⟨?_,?_,?_,?_,?_,?_,?_,?_,?_,?_,?_,?_,?_,?_,?_,?_,?_,trivial⟩;all_goals intro W a k z6 i j
  ·have l:=j.b 22 (w6,0);have cJ:=i.b.cell Z (sM.1 0);have jd:=i.b.cell g1 (sM.1 1);have vK:=i.b.cell g2 (sM.1 2);have xE:=i.b.cell g3 (sM.1 3);clear j;go_simp;exact⟨_,rfl,{i with f0:=aB}⟩
  ·have l:=j.b 23 (.slice la n.length lc);clear j;go_simp;exact⟨_,rfl,{i with f1:=aB}⟩
  ·have l:=j.b 10 ((c.heap.size+1),0);have cJ:=i.b.cell S (Ce.1 0);have jd:=i.b.cell T (Ce.1 1);clear j;go_simp;exact⟨_,rfl,{i with f2:=aB}⟩
  ·have l:=j.b 5 (.int .u16 some_);clear j;go_simp;exact⟨_,rfl,{i with f3:=aB}⟩
  ·have l:=j.e 3 106 i.f3;clear j;go_simp;with_reducible refine(Bp.1 k).mono ?_
   rintro o wq ⟨z5,rfl,hn,r⟩;exact⟨_,rfl,{i with b:=iW i.b (lK r),f4:=(λ_ _=>hn),f6:=(λv=>(i.f6 v).below r),dd:=(i.dd.below r),bx:=(i.bx.below r)}⟩
  ·have l:=j.b 21 (m,0);clear j;go_simp;exact⟨_,rfl,{i with f5:=aB}⟩
  ·have An:=j.d 0;have E:=j.hd;have ayE:=j.n 7;have ayF:W 8=false:=rX (λhj=>j.hu 7 6 rfl (j.hu 8 7 rfl (hj))) E;have ayG:W 9=false:=rX (λhj=>j.hu 7 6 rfl (j.hu 9 7 rfl (hj))) E;have ayH:W 10=false:=rX (λhj=>j.hu 7 6 rfl (j.hu 10 7 rfl (hj))) E;have ayI:W 11=false:=rX (λhj=>j.hu 7 6 rfl (j.hu 11 7 rfl (hj))) E;have ayJ:=j.n 14;have ayK:=j.n 15;have ayL:=j.n 16;have l:=j.e 0 103 i.f0;have w:=j.e 1 104 i.f1;have u:=j.e 2 105 i.f2;have e3:=j.E 4 107;have m3:=i.f4 (j.d 4) E;have e4:=j.e 5 108 i.f5;clear j;go_simp;have An:dO m.heap.size 3100 k:=by have h9:=i.dd;rw[E]at h9;exact h9
   with_reducible refine(xP.1 k _ i.b An m3).mono ?_
   rintro o wq ⟨z5,rfl,hv,zx,L⟩;exact⟨_,rfl,{i with b:=iW i.b L,f4:=(λ_=>wj),f6:=(λ_=>hv),f7:=(kY (ayE)),f8:=(kY (ayF)),f9:=(kY (ayG)),f10:=(kY (ayH)),f11:=(kY (ayI)),f14:=(kY (ayJ)),f15:=(kY (ayK)),f16:=(kY (ayL)),dd:=(zx),bx:=(i.bx.keep ti.1 L)}⟩
  ·have l:=j.E 6 109;clear j;go_simp;exact⟨_,rfl,{i with f7:=aB}⟩
  ·have x:W 6=true:=j.hu 7 6 rfl (j.hp 7 rfl);have RK:=j.n 13;obtain⟨z0,ra,r1,r2,oa,o1,o2,R,C,c2,NW,us,t,hM⟩:=i.f6 x;have l:=(j.E 7 102).trans ((i.f7 (j.d 7)).trans t);clear j;go_simp;exact⟨_,rfl,{i with f8:=(λ_=>(by show _=ku 0 (a 6);rw[t];rfl)),bx:=(i.bx.swap RK)}⟩
  ·have x:W 6=true:=j.hu 7 6 rfl (j.hp 7 rfl);obtain⟨z0,ra,r1,r2,oa,o1,o2,R,C,c2,NW,us,t,hM⟩:=i.f6 x;have l:=(j.E 7 102).trans ((i.f7 (j.d 7)).trans t);clear j;go_simp;exact⟨_,rfl,{i with f9:=(λ_=>(by show _=ku 1 (a 6);rw[t];rfl))}⟩
  ·have x:W 6=true:=j.hu 7 6 rfl (j.hp 7 rfl);obtain⟨z0,ra,r1,r2,oa,o1,o2,R,C,c2,NW,us,t,hM⟩:=i.f6 x;have l:=(j.E 7 102).trans ((i.f7 (j.d 7)).trans t);clear j;go_simp;exact⟨_,rfl,{i with f10:=(λ_=>(by show _=ku 2 (a 6);rw[t];rfl))}⟩
  ·have x:W 6=true:=j.hu 7 6 rfl (j.hp 7 rfl);obtain⟨z0,ra,r1,r2,oa,o1,o2,R,C,c2,NW,us,t,hM⟩:=i.f6 x;have l:=(j.E 7 102).trans ((i.f7 (j.d 7)).trans t);clear j;go_simp;exact⟨_,rfl,{i with f11:=(λ_=>(by show _=ku 3 (a 6);rw[t];rfl))}⟩
  ·have ayM:=j.n 13;have r:=bk k #[(0:Int),(),(),()] 33;have hn:=i.b.size;clear j;go_simp;exact⟨_,rfl,{i with b:=iW i.b (lK r),f4:=(λv h2=>(i.f4 v h2).below r),f6:=(λv=>(i.f6 v).below r),dd:=(i.dd.below r),bx:=(i.bx.alloc ayM hn)}⟩
  ·have x:=j.d 6;have bx:=i.bx;rw[j.hd]at bx;obtain⟨z7,eB,Aa,ph,-⟩:=bx (j.d 12);have hS:=ph rfl;obtain⟨z0,ra,r1,r2,oa,o1,o2,R,C,c2,NW,us,t,hM⟩:=i.f6 x;have e8:a 8=.agg #[z0,.slice ra r1 r2,.slice oa o1 o2,.slice R C c2]:=(i.f8 (j.d 8)).trans (by rw[t];rfl);have w:=(j.E 12 27).trans eB;have u:=(j.E 8 110).trans e8;obtain⟨u0,u1,u2,u3⟩:=fh hS;obtain⟨g0_,g1_,g2_,g3_⟩:=wm hS;have Fk:=rA.store (N:=WS.heap.size) (d:=W 12) eB Aa hS e8;have ayN:=i.dd.low (JQ (aY _ k) Aa z0 (.slice ra r1 r2) (.slice oa o1 o2) (.slice R C c2)) ti.1;have iq:=fT i.b (JQ (aY _ k) Aa z0 (.slice ra r1 r2) (.slice oa o1 o2) (.slice R C c2));clear j;go_simp;exact⟨undef,{i with b:=iq,f4:=(λ_ h2=>absurd (x.symm.trans h2) (by decide)),f6:=(λv=>(i.f6 v).keyW hS z0 (.slice ra r1 r2) (.slice oa o1 o2) (.slice R C c2)),dd:=(ayN),bx:=(Fk)}⟩
  ·have Wt:=j.d 9;have l:=j.E 9 111;clear j;go_simp;exact⟨_,rfl,{i with f14:=(λ_=>(i.f9 Wt))}⟩
  ·have RL:=j.d 10;have l:=j.E 10 112;clear j;go_simp;exact⟨_,rfl,{i with f15:=(λ_=>(i.f10 RL))}⟩
  ·have RM:=j.d 11;have l:=j.E 11 113;clear j;go_simp;exact⟨_,rfl,{i with f16:=(λ_=>(i.f11 RM))}⟩
 simp only[jG,Act.put,Nat.reduceAdd,dD];obtain⟨z0,ra,r1,r2,oa,o1,o2,R,C,c2,NW,us,t,hM⟩:=i.f6 rfl;rw[show a 14=NW from(i.f14 rfl).trans (by rw[t];rfl)];rw[show a 15=.bool us from(i.f15 rfl).trans (by rw[t];rfl)];rw[show a 16=.bool true from(i.f16 rfl).trans (by rw[t];rfl)];have D:=i.b;obtain⟨z7,eK,hK0,-,hKs⟩:=i.bx rfl;rw[eK];obtain⟨e_,a_,b_,c_,e8,hKK⟩:=hKs rfl;have e9:a 8=.agg #[z0,.slice ra r1 r2,.slice oa o1 o2,.slice R C c2]:=(i.f8 rfl).trans (by rw[t];rfl);rw[e8]at e9;simp only[Value.agg.injEq,Array.mk.injEq,List.cons.injEq,and_true]at e9;obtain⟨rfl,rfl,rfl,rfl⟩:=e9;obtain⟨WM,hWM⟩:=aK k;subst hWM;have HDM:Hid (dO m.heap.size 5100 WM):=A i.dd;obtain⟨HGM,HKM⟩:=aR (iW Jj.1 D) hKK;obtain⟨HLM,iR⟩:=aR (rp HGM.1 (aP _) (aP _)) hM;clear i D t e8 eK hKs hKK hK0 hM Z g1 g2 g3 S T Bp xP ql Mt Jj Wz Ss ti;have Eb:c.heap.size+1<m.heap.size:=bG G.1;cases us with
 |false =>
  have HE:=A (ar y.1 HLM.1);clear Eb;go_wp2_with fail;go_ret;exact⟨rfl,HE.1⟩
 |true =>
 obtain⟨rfl,hra,hoa,u9,hc9,Uw,qJ⟩:=iR.1 rfl;simp only[dr]at hra hoa;obtain⟨w,u,e3⟩:=hra;replace w:=w.symm;replace u:=u.symm;replace e3:=e3.symm;subst w;subst u;subst e3;obtain⟨w,u,e3⟩:=hoa;replace w:=w.symm;replace u:=u.symm;replace e3:=e3.symm;subst w;subst u;subst e3;obtain⟨AJ,D6,Ht⟩:=bJ hc9 Uw qJ;clear iR hc9 Uw qJ;go_wp2_with fail;with_reducible refine(aiQ others _ vt.1.2.2.2.2).mono ?_
 rintro o pg ⟨wv9,B,rfl,rP,zB,-,oY,-,dI⟩;have Xj:=ar HLM.1 dI;have Us:=(Xj.block _ Eb).trans G.1;obtain⟨S,T⟩:=ez Us;have Hh:=ag5 (.slice H p.length M) (.slice I q.length O) wv9 p q B pg (X.1.below Xj) (K.1.below Xj) rP.1;have nH:bH p q=0:=(EO mM.1.1).2.1;have BZ:mu p q B=0:=by unfold mu;rw[aA (by simp[nH]),aD zB]
 rw[BZ]at Hh;obtain⟨ok,bU⟩:=aK (kK p q B);rw[<-bU]at Hh;obtain⟨Kj,rq,AP,nS,nG,Fs⟩:=oJ Hh rP (And.intro zB oY) bU nH dI;clear Hh BZ rP zB oY bU Us Xj nH dI;go_wp2_with fail;with_reducible refine Kj.1.mono ?_
 rintro o sx ⟨yv,rfl,-,iT⟩;have Xk:=ar Fs.1 iT;have HBM:=A Xk;have Su:=ar HLM.1 Xk;have ayO:=A Su;refine jM iT S T ?_;clear S T;intro S T;have Hq:=rq.1.below iT;have KJ:=D6.1.below Xk;obtain⟨la9,lc9,rfl,-⟩:=id KJ.1;obtain⟨wa9,wc9,rfl,-⟩:=id Hq.1;obtain⟨Nm,akm⟩:=aR Hq KJ;obtain⟨SL,vO⟩:∃z1,z1=jW q B (bV p (s::u9)):=⟨_,rfl⟩;obtain⟨rn,gm⟩:=aK (if ok=true then s else 0);have acx:∀z1∈s::u9,0<=z1/\z1<1073741789:=λz1 hz=>by
  rcases iu.1 hz with rfl|hz
  ·exact Ht.1.hx
  ·exact Ht.1.hr z1 hz
 have GQ:=A acx;have dR:=(fs nG.1).len;have YC:=(fs nG.1).few;have Fm:Hid (∀k,Below sx sx k->Calls prog 13 #[.agg #[.slice H p.length M,.slice I q.length O],.slice la9 (bV p (s::u9)).length lc9,.slice wa9 B.length wc9] k λo w'=>∃a,o=.returned a/\fK w' a SL/\Below k k w'):=A (λk fo=>by
  rw[vO];exact ahp (.slice H p.length M) (.slice I q.length O) _ _ q B (bV p (s::u9)) k ⟨_,_,_,rfl⟩ (K.1.below (ar Su fo)) (akm.1.below fo).1 (Nm.1.below fo).1 (by rw[ju];omega) (by have:=AP.1.2;omega) (λz9 hp=>by
   obtain⟨z2,hj,rfl⟩:=ey.1 hp;have:=dT.1 hj;show(0:Int)<=(z2:Int)/\(z2:Int)<_;omega))
 have BI:Hid (∀k,Below sx sx k->∀a,fK k a SL->Calls prog 12 #[.agg #[.slice H p.length M,.slice I q.length O],a] k λo w'=>o=.returned (.tuple #[rn,.bool ok,(0:Int)])/\Below k k w'):=A (λk fo a hv=>by
  have hr:=asg (b:=q) nG.1 acx (asZ (o:=p) (m:=q) (b:=s::u9) AP.1.1);rw[as1 nG.1 AP.1.1,<-nS.1,<-vO]at hr;have v:=hr (.slice H p.length M) (.slice I q.length O) a k (X.1.below (ar Su fo)) (K.1.below (ar Su fo)) hv;rw[gm];exact v)
 have zy:=A gm;clear vO gm acx dR YC Hq KJ Su Xk iT Kj;go_wp2_with fail;refine nW (ayD sx (c.heap.size+1) (.agg #[.slice H p.length M,.slice I q.length O]) (.slice la9 (bV p (s::u9)).length lc9) (.slice wa9 B.length wc9) SL rn ok) (λa=>?_) ?_ (λa k i=>?_)
 ·exact⟨(aY _ _).drew,ax,ax,ax,ax,ax,ax,ax,ax,ax,ax,ax,ax,ax⟩
 ·refine⟨?_,?_,?_,?_,?_,?_,?_,?_,?_,?_,?_,?_,?_,trivial⟩;all_goals intro W a k z6 i j
  ·have l:=j.b 10 ((c.heap.size+1),0);have cJ:=U i.b S;have jd:=U i.b T;clear j;go_simp;exact⟨_,rfl,{i with f0:=aB}⟩
  ·have l:=j.b 10 ((c.heap.size+1),0);have cJ:=U i.b S;have jd:=U i.b T;clear j;go_simp;exact⟨_,rfl,{i with f1:=aB}⟩
  ·have l:=j.b 28 (.slice la9 (bV p (s::u9)).length lc9);clear j;go_simp;exact⟨_,rfl,{i with f2:=aB}⟩
  ·have l:=j.b 29 (.slice wa9 B.length wc9);clear j;go_simp;exact⟨_,rfl,{i with f3:=aB}⟩
  ·have l:=j.e 1 132 i.f1;have w:=j.e 2 133 i.f2;have u:=j.e 3 134 i.f3;clear j;go_simp;with_reducible refine(Fm.1 k i.b).mono ?_
   rintro o wq ⟨z5,rfl,hn,r⟩;exact⟨_,rfl,{i with b:=ar i.b r,f4:=(λ_ _=>hn)}⟩
  ·have l:=j.e 0 131 i.f0;have w:=j.E 4 135;have m1:=i.f4 (j.d 4) j.hd;clear j;go_simp;with_reducible refine(BI.1 k i.b _ m1).mono ?_
   rintro o wq ⟨rfl,r⟩;exact⟨_,rfl,{i with b:=ar i.b r,f4:=(λ_=>wj),f5:=aB}⟩
  ·have l:=j.e 5 136 i.f5;clear j;go_simp;exact⟨_,rfl,{i with f6:=aB}⟩
  ·have l:=j.e 6 130 i.f6;clear j;go_simp;exact⟨_,rfl,{i with f7:=aB}⟩
  ·have l:=j.e 6 130 i.f6;clear j;go_simp;exact⟨_,rfl,{i with f8:=aB}⟩
  ·have l:=j.e 6 130 i.f6;clear j;go_simp;exact⟨_,rfl,{i with f9:=aB}⟩
  ·have l:=j.e 7 137 i.f7;clear j;go_simp;exact⟨_,rfl,{i with f10:=aB}⟩
  ·have l:=j.e 8 138 i.f8;clear j;go_simp;exact⟨_,rfl,{i with f11:=aB}⟩
  ·have l:=j.e 9 139 i.f9;clear j;go_simp;exact⟨_,rfl,{i with f12:=aB}⟩
 simp only[jG,Act.put,Nat.reduceAdd,dD];rw[i.f10 rfl];rw[i.f11 rfl];rw[i.f12 rfl];have D:=i.b;have acy:=ar ayO.1 D;have HE:=A (ar y.1 acy);have js:=ar HBM.1 D;obtain⟨ab4,ayP,ayQ,ayR⟩:=cY (Nm.1.below D) (akm.1.below D) (AJ.1.below js) (HDM.1.below js);have akn:=az js HKM.1;obtain⟨Z,g1,g2,g3⟩:=fh akn;have yG:=A acy;clear i D S T acy js akn Eb Fm BI;cases ok with
 |false =>
  clear Z g1 g2 g3;go_wp2_with fail;go_ret;exact⟨rfl,HE.1⟩
 |true =>
 have WC:rn=s:=zy.1.trans (aD rfl);subst WC;obtain⟨wz,Py⟩:=aK k;subst Py;have sT:0<B.length:=by
  have v:=abA nG.1 nS.1.symm;cases B with
  |nil =>
   refine absurd ?_ v;unfold dY bP;rw[K3,List.filter_eq_nil_iff];intro z0z _;simp
  |cons z0z z10=>simp
 have hsg:=ayp m.heap.size 5100 2 (.slice H p.length M) (.slice I q.length O) _ _ _ (.slice ta tn tcp) p q B (rn::u9) bs m wz yG.1 (aP _) HG.1 X.1 K.1 HT.1 ayQ.1 ayP.1 ab4.1 ayR.1 (by omega) nG.1 (VB Ht.1 nG.1 (by omega) (by omega)) mM.1.2.1 (by have:=HBT.1.1;have:=HBT.1.2;omega) AP.1.1 sT nS.1.symm GQ.1 (λz8 hi=>by
  have v:=Jn Ht.1 nG.1 hi (n6 (p.getD z8 []) (rn::u9));exact⟨by unfold lV;rw[v.2];exact bB rfl,v.1⟩)
 have EW:=A hsg;clear hsg sT;go_wp2_with fail;with_reducible refine EW.1.mono ?_
 rintro o wy ⟨rfl,hby⟩;have HF9:=A (HE.1.trans (hby.mono y.1.size));clear hby;go_wp2_with fail;go_ret;exact⟨rfl,HF9.1⟩
