/- Package sign: list, power and Verify. -/
import Derived.Test.YtaifagjclanodaaGreatDoorMPaG
import Derived.Test.YtaifagjclanodaaGreatDoorMTpI
import Derived.Lib.LaidTab
import Derived.LaidMore
import Derived.Stop.LaidErr
import Derived.MakeChecks
import Derived.Stop.Joined
set_option maxHeartbeats 16000000
set_option maxRecDepth 100000
namespace Go.Proofs.YtaifagjclanodaaGreatDoor
open Go.Proofs.Tryz
open Go.RowKit
variable{a:bF}
theorem ayj(z0:Value)(g:List aO)(b:World)(hA:QH QI b z0 g)(dR:(gg g).length<=1099511627776):
  Calls prog 134 #[z0] b λz1z w'=>∃v',z1z=.returned v'/\fC w' v' (gg g)/\Below b b w':=by
 obtain⟨z0z,cap,rfl,jC,hlen,S⟩:=hA;have HK:=A S;clear S;have T:Dc 0 b g 0 (b.alloc (.cells #[(3:Int),(0:Int),.string ⟨#[]⟩,()] 72)) () []:=⟨World.alloc_heap_new _ _,iv _ _ _ _,rfl,λh z1=>absurd z1 (fG _),bk _ _ _⟩;go_enter func134,ntmps134;go_wp2_with fail;go_loopw[13] (λG c=>∃(i:Nat) (p:Value) (y:List (Int×Int×ByteArray×Option Addr×Nat×Nat)),i<=g.length/\G=i/\Dc 0 b g i c p y) (λG _=>g.length-(intOf G).toNat);case atStart=>exact⟨0,_,_,bS _,rfl,T⟩
 case round =>
  clear T;obtain⟨i,p,y,dg,rfl,f⟩:=hrel;by_cases N:i<g.length
  ·obtain⟨z2,off,l,rfl,Z,F⟩:=HK.1 i N;have c1:=U f.b Z;obtain⟨HU,Vp⟩:=aR (F.below f.b) F;have x3:wr.cell? (b,3)=some p:=Y f.row rfl;obtain⟨z,Q⟩:=aR f N;have P:i<=1000000:=by omega
   clear Z F f;rcases Vp.1 with⟨k,hn,rfl,t⟩|⟨M,X,W,bs,rfl,m,eI,t⟩
   ·have B:Hid (ig 1 b (.agg (fS (1,k,⟨#[]⟩,none,0,0)).toArray) g[i]):=A (.inl (.inl ⟨k,hn,rfl,t⟩));have t1:=λc=>aht c k;obtain⟨C,q,m,r⟩:=tm wr (1:Int) k (.string ⟨#[]⟩) () 72;have o:=A (z.1.keep m);have H:Hid (∀h l,(fS (1,k,⟨#[]⟩,none,0,0))[h]?=some l->C.cell? ⟨wr.heap.size,h,none⟩=some l):=A (λh l u=>Y r (by
     match h with
     |0|1|2|3=>exact u
     |k+4=>simp[fS]at u))
    obtain⟨D,j⟩:=aR (bG o.1.row) q;clear q m r t hn;go_wp2_with (refine QJ rfl _ _ rfl (b.heap.size+1) _ y _ rfl (j.1▸o.1.own) wr.heap.size 1 (1,k,⟨#[]⟩,none,0,0) rfl (j.1▸H.1) P (j.1▸D.1) ?_;rw[<-j.1];intro g8 uq K s v;obtain⟨n,x⟩:=o.1.next Q.1 B.1 s v;have y3:K.cell? (b,3)=some p:=Y n rfl;have f3:=cB n 3;have I:=A x;clear n x s v);go_roundw;case rel=>exact⟨i+1,_,_,by omega,by go_num,I.1⟩
    case measure=>simp[intOf];omega
   ·obtain⟨w,O,gS,uE⟩:=ahw (m.below z.1.b);have B:Hid (ig 1 b (.agg (fS (2,0,w,none,0,0)).toArray) g[i]):=A (.inl (.inr ⟨w,by omega,rfl,t.trans (by rw[O])⟩));have t1:=λc=>ahu c (.slice M X W);have t2:=λc=>ahv c (.slice M X W);obtain⟨C,q,m,r⟩:=tm wr (2:Int) (0:Int) (.string w) () 72;have o:=A (z.1.keep m);have H:Hid (∀h l,(fS (2,0,w,none,0,0))[h]?=some l->C.cell? ⟨wr.heap.size,h,none⟩=some l):=A (λh l u=>Y r (by
     match h with
     |0|1|2|3=>exact u
     |k+4=>simp[fS]at u))
    obtain⟨D,j⟩:=aR (bG o.1.row) q;clear q m r t O gS eI;go_wp2_with (refine QJ rfl _ _ rfl (b.heap.size+1) _ y _ rfl (j.1▸o.1.own) wr.heap.size 1 (2,0,w,none,0,0) rfl (j.1▸H.1) P (j.1▸D.1) ?_;rw[<-j.1];intro g8 uq K s v;obtain⟨n,x⟩:=o.1.next Q.1 B.1 s v;have y3:K.cell? (b,3)=some p:=Y n rfl;have f3:=cB n 3;have I:=A x;clear n x s v);go_roundw;case rel=>exact⟨i+1,_,_,by omega,by go_num,I.1⟩
    case measure=>simp[intOf];omega
  ·obtain rfl:i=g.length:=by omega
   have x0:wr.cell? (b,0)=(3:Int):=Y f.row rfl;have x1:wr.cell? (b,1)=(0:Int):=Y f.row rfl;have x2:wr.cell? (b,2)=some (.string ⟨#[]⟩):=Y f.row rfl;have x3:wr.cell? (b,3)=some p:=Y f.row rfl;have E:=VL.own (R:=ig 1) f.own f.len (by omega) (λh h1 h2=>(f.each h h1 h2).below f.b);obtain⟨aL,cL,rfl,-⟩:=id E;obtain⟨L,HB⟩:=aR (aad 1 (by omega) aL _ cL g wr E dR) f.b;unfold qV at L;clear E f;go_wp2_with fail;refine L.1.mono ?_;rintro z1z w2 ⟨v2,rfl,xw,an⟩;have qT:=A xw;clear xw;go_wp2_with fail;go_ret;exact⟨_,rfl,qT.1,ar HB.1 an⟩
theorem aj8(f b:Int)(g:World)(ha:El f)(hn:aN b):
  Calls prog 132 #[f,b] g λh j=>h=.returned (bm f b:Int)/\Below g g j:=by
 go_enter func132,ntmps132;go_wp2_with fail;with_reducible refine(vf f b _ ha hn).mono ?_
 rintro h k ⟨rfl,i⟩;go_wp2_with fail;go_ret;exact⟨rfl,i⟩
def NU(g b f:Int):Int:=bm 4 f*bm g (-b)%2147483579
theorem ayk(g b f:Int)(z0:Value)(k:aO)(i:World)(q:El g)(Z:0<=b/\b<1073741789)(hS:0<=f/\f<1073741789)(z:fC i z0 k)(m:k.length<=1000000)(hG:gz i):
  Calls prog 51 #[g,z0,.agg #[b,f]] i λl h=>l=.returned (.bool (b==uz (fp MC) (gg [dB (NU g b f),dB g,lB k])))/\Below i i h:=by
 obtain⟨r,Q,s,S,-⟩:=ee i b f 127;obtain⟨E,F,rfl,-⟩:=id z;obtain⟨x0,x1⟩:=ez S;have B:Hid (∀h,Below r r h->h.cell? (i,0)=b/\h.cell? (i,1)=f):=A (λh m=>⟨U m x0,U m x1⟩);obtain⟨M,L,HB,bp,HK,HE,HS,N,Wa⟩:=fx (z.below s) (hG.below s) s Q q Z hS (show NU g b f=bm 4 f*bm g (-b)%2147483579 from rfl) (fJ fO f);have nG:=A (fJ q (-b));have hRV:aN (NU g b f):=(Eh (fJ fO f) (fJ q (-b))).r64;obtain⟨v,iV⟩:=aR hRV m;have d0:decide (min b f<0)=false:=bw (by omega);have d1:decide (max b f>=1073741789)=false:=bw (by omega);have hw:IntKind.i64.wrap (-b)=-b:=by rw[KV];omega
 have C:=q.r64;have O:=A C;clear z hG s S Q Z hS m hRV;go_enter func51,ntmps51;go_wp2_with (rw[<-bp.1]);with_reducible refine(tf g _ C).mono ?_
 rintro l w2 ⟨rfl,rfl⟩;rw[show eA g=true from oU.2 q];go_wp2_with fail;have H:=B.1 r (aY _ _);clear C q d0 d1;go_region_held3 (λh=>h.cell? (i,0)=b/\h.cell? (i,1)=f) (first|go_keep|exact u|exact kf|exact H)
  (first
   |(go_simp;go_at_call 132;(with_reducible refine(aj8 4 f _ fO (dK HS.1)).mono ?_);rintro l w6 ⟨rfl,R⟩;have W:=A ((aY r.heap.size r).drew.trans R);have kf:=B.1 w6 W.1;clear R)
   |(go_simp;go_at_call 132;(with_reducible refine(aj8 g (-b) _ HK.1 (by have:=HE.1;unfold aN;omega)).mono ?_);rintro l j ⟨rfl,T⟩;have t:=A (ar W.1 T);have u:=B.1 j t.1;clear T)
   |(go_simp;go_at_call 92;(with_reducible refine(Ej (bm 4 f) (bm g (-b)) _ Wa.1 nG.1).mono ?_);rintro l w8 ⟨rfl,rfl⟩))
 all_goals
  rw[<-N.1];obtain⟨o,D⟩:=aK (NU g b f);rw[<-D]at v ⊢;have JA:=A D;clear D N;obtain⟨tW,HV7⟩:=aR (L.1.below t.1) (M.1.below t.1);have HF:Hid (∀n:World,n=(j.alloc (.cells #[.iface 3 o,.iface 3 g,.iface 28 (.slice E k.length F)] 20)).drew->QH QI n (.slice (j,0) 3 3) [dB o,dB g,lB k]/\Below j j n/\gz n):=A (λn l=>by
   have w:Below j j n:=by rw[l];exact(bk j _ _).drew
   have hq:=World.alloc_heap_new j (.cells #[.iface 3 o,.iface 3 g,.iface 28 (.slice E k.length F)] 20);have y:n.heap[j.heap.size]?=QC.mk #[.iface 3 o,.iface 3 g,.iface 28 (.slice E k.length F)] 20:=by rw[l];exact hq
   exact⟨ahD (Y y rfl) (Y y rfl) (Y y rfl) (.inl ⟨o,v.1,rfl,rfl⟩) (.inl ⟨g,O.1,rfl,rfl⟩) (.inr ⟨_,_,_,k,rfl,HV7.1.below w,iV.1,rfl⟩),w,tW.1.below w⟩)
  have G:Hid ((gg [dB o,dB g,lB k]).length<=1099511627776):=A (by
   have h1:=Bu v.1;have h2:=Bu O.1;have h3:=abe iV.1;have:=QL (j:=[dB o,dB g,lB k]) (y:=1100000) (by simp) (by
    intro z1 hx;simp only[iu,oG,oH]at hx;rcases hx with rfl|rfl|rfl<;>omega)
   simp only[dZ,je]at this;omega)
  have df:=A (ar HB.1 t.1);have P:Hid (∀h,Below j j h->h.cell? (i,0)=b/\h.cell? (i,1)=f):=A (λh m=>⟨U m u.1,U m u.2⟩);clear H kf M L x0 x1;go_wp2_with fail;go_region_held3 (λh=>h.cell? (i,0)=b/\h.cell? (i,1)=f) (first|go_keep|exact Du|exact Wh|exact u)
   (first
    |(go_simp;go_at_call 134;obtain⟨X,rJ,I⟩:=HF.1 _ rfl;(refine(ayj _ _ _ X G.1).mono ?_);rintro l w8 ⟨v8,rfl,K,x⟩;have p:=ar rJ x;have Wh:=P.1 w8 p;have HV8:=A K;have AR:=A (I.below x);have ik:=A p;clear X rJ I x p K)
    |(go_simp;go_at_call 133;(refine(PW MC v8 _ _ (by decide) HV8.1 (ahA _) (by have:=G.1;omega) AR.1).mono ?_);rintro l w9 ⟨rfl,p⟩;have jl:=A (ar ik.1 p);have Du:=P.1 w9 jl.1;clear p))
  all_goals
   go_wp2_with fail;go_ret;exact⟨cg (by rw[JA.1]),ar df.1 jl.1⟩
open FP
structure ayl(u:World)(l v k:Nat)(o:Option Addr)(p:Nat)(m:Option Addr)(n:Nat)(t:List (Int×Int×Int×Int))(a:bF)(h i j r s:Int)(g:Nat->Bool)(f:Nat->Value)(q:World):Prop where
 b:Below l u q
 f0:KQ g f 0 (.slice o k p)
 f1:KQ g f 1 h
 f2:KQ g f 2 k
 f3:KQ g f 3 i
 f4:KQ g f 4 j
 f5:KQ g f 5 (.agg #[h,k,i,j])
 f8:KQ g f 8 (.slice m k n)
 f9:KQ g f 9 (.agg #[r,s])
 f12:KQ g f 12 (f 7)
 f13:KQ g f 13 (f 11)
 bx:tT l v (.slice o k p) (.slice m k n) k t a (h,(k:Int),i,j) (r,s) (g 6) (g 7) (g 10) (g 11) (f 6) (f 7) (f 10) (f 11) q
structure aym(q:World)(t:Nat)(s:Int)(p o cv v pv u:Value)(j:Int)(k m h n:Nat)(w x i:Int)(r:bF)(f:Nat->Bool)(g:Nat->Value)(l:World):Prop where
 b:Below q q l
 f0:KQ f g 0 (.agg #[s,p,o,cv])
 f1:KQ f g 1 v
 f2:KQ f g 2 pv
 f3:KQ f g 3 j
 f4:KQ f g 4 (t,1)
 f5:KQ f g 5 (.agg #[p,o])
 f6:KQ f g 6 u
 f7:KQ f g 7 j
 f8:f 8=true->f 9=false->aM l (g 8) [j]
 f9:f 9=true->f 20=false->fK l (g 9) r
 f10:KQ f g 10 (.slice (h,0) m n)
 f11:KQ f g 11 k
 f12:KQ f g 12 (h,k*2)
 f13:KQ f g 13 (h,k*2)
 f14:KQ f g 14 w
 f15:KQ f g 15 (.slice (h,0) m n)
 f16:KQ f g 16 k
 f17:KQ f g 17 (h,k*2)
 f18:KQ f g 18 (h,k*2+1)
 f19:KQ f g 19 x
 f20:KQ f g 20 (.tuple #[i,(0:Int)])
 f21:KQ f g 21 (.tuple #[i,(0:Int)])
 f22:KQ f g 22 i
 f23:KQ f g 23 (0:Int)
 f24:KQ f g 24 i
 f25:KQ f g 25 (0:Int)
structure ayn(j:World)(o h i n m:Nat)(p:Value)(s:Nat)(r k l:Int)(f:Nat->Bool)(g:Nat->Value)(q:World):Prop where
 b:Below j j q
 f0:KQ f g 0 (0:Int)
 f1:KQ f g 1 true
 f2:KQ f g 2 true
 f3:KQ f g 3 (o,3)
 f4:KQ f g 4 (.slice (h,i) n m)
 f5:KQ f g 5 (h,i)
 f6:KQ f g 6 r
 f7:KQ f g 7 p
 f8:KQ f g 8 (.agg #[k,l])
 f9:KQ f g 9 true
 f10:KQ f g 10 true
 f11:KQ f g 11 true
def Ci(g:V)(k:Nat)(f:List (Int×Int×Int×Int))(a:bF):Prop:=f.length=k/\a.length=k/\∀b,b<k->f.getD b (0,0,0,0)=(J g b,(b:Int),bm 4 (a.getD b (0,0)).1,bm 4 (a.getD b (0,0)).2)/\(0<=(a.getD b (0,0)).1/\(a.getD b (0,0)).1<1073741789)/\(0<=(a.getD b (0,0)).2/\(a.getD b (0,0)).2<1073741789)
theorem Ci.snoc{h:V}{k:Nat}{j:List (Int×Int×Int×Int)}(m:Ci h k j a){b f:Int}(n:0<=b/\b<1073741789)(o:0<=f/\f<1073741789):Ci h (k+1) (j++[(J h k,(k:Int),bm 4 b,bm 4 f)]) (a++[(b,f)]):=by
 obtain⟨i,hn,q⟩:=m;refine⟨by simp[i],by simp[hn],λg r=>?_⟩;by_cases l:g<k
 ·have p:=q g l;rw[G3 (by omega),G3 (by omega)];exact p
 ·obtain rfl:g=k:=by omega
  rw[G4 i,G4 hn];exact⟨rfl,n,o⟩
theorem Ci.at{k:V}{j b:Nat}{f:List (Int×Int×Int×Int)}(l:Ci k j f a)(p:b<j):∃(m:b<f.length) (n:b<a.length),f[b]=(J k b,(b:Int),bm 4 a[b].1,bm 4 a[b].2)/\(0<=a[b].1/\a[b].1<1073741789)/\(0<=a[b].2/\a[b].2<1073741789):=by
 obtain⟨m,n,o⟩:=l;obtain⟨g,h,i⟩:=o b p;rw[dp (show b<a.length by omega)]at g h i;rw[dp (show b<f.length by omega)]at g;exact⟨by omega,by omega,g,h,i⟩
theorem Ci.who{b:V}{h:List (Int×Int×Int×Int)}(f:Ci b b.length h a):h.map (·.1)=b:=by
 refine x8 (by rw[dy,f.1]) λm j g=>?_;obtain⟨k,l,i,-⟩:=f.at g;rw[gj,i];exact di g
theorem Ci.ok{b:V}{k:List (Int×Int×Int×Int)}(f:Ci b b.length k a)(n:eU (-1) b=true)(r:b.length<=64):V0 k/\∀p∈k,aN p.1/\aN p.2.1/\aN p.2.2.1/\aN p.2.2.2:=by
 refine⟨⟨by rw[f.who];exact n,λp j=>?_,λp j=>?_⟩,λp j=>?_⟩<;>obtain⟨h,q,rfl⟩:=Cs j<;>have i:h<b.length:=by have:=f.1;omega
 ·obtain⟨l,m,g,-⟩:=f.at i;rw[g];show(0:Int)<=(h:Int)/\(h:Int)<4096;omega
 ·obtain⟨l,m,g,-⟩:=f.at i;rw[g];exact⟨fJ fO _,fJ fO _⟩
 ·obtain⟨l,m,g,-⟩:=f.at i;have o:=(Bz n).1 _ (bM i);rw[g,di i];exact⟨by show aN b[h];unfold aN;omega,by show aN (h:Int);unfold aN;omega,(fJ fO _).r64,(fJ fO _).r64⟩
def dN(a:bF)(k:Nat):Int:=(a.getD k (0,0)).1
def fN(a:bF)(k:Nat):Int:=(a.getD k (0,0)).2
def bN(h:Int)(b:aO)(f:List (Int×Int×Int×Int))(g:V)(k:Nat):Int:=BO h b (oB f) (J g k)
theorem aj9{j:V}{i:Nat}{b:List (Int×Int×Int×Int)}(h:Ci j i b a)(g:Int)(f:aO):∀k,k<=i->BP g f (oB b) b k=Ni (dN a) (fN a) (bN g f b j) k
 |0,_=>rfl
 |k+1,l=>by
  unfold BP Ni;rw[aj9 h g f k (by omega),(h.2.2 k l).1];rfl
theorem ayo{b:ak}{f g:V}(s:lU b f)(t:∀j,j<b.length->ke b f (bt g) (lV b g j).1 (lV b g j).2=true/\j9 b f (bt g) (lV b g j).1 (lV b g j).2=0)(h:Int):
  (mZ b f g h).length=(bP f [h] f.length).length/\∀i (k:i<(mZ b f g h).length),(mZ b f g h)[i].1=((bP f [h] f.length).getD i 0:Nat)/\0<=(mZ b f g h)[i].2/\(mZ b f g h)[i].2<1073741789/\ke b f (bt g) (mZ b f g h)[i].1 (mZ b f g h)[i].2=true/\j9 b f (bt g) (mZ b f g h)[i].1 (mZ b f g h)[i].2=0:=by
 have n:b.length=f.length:=by have:=s.len;omega
 refine⟨by rw[VZ,n],λi k=>?_⟩;have l:i<(bP f [h] b.length).length:=by rw[VZ]at k;exact k
 have o:(mZ b f g h)[i]=lV b g ((bP f [h] b.length)[i]):=gj (lV b g);have r:(bP f [h] b.length)[i]<b.length:=by
  have m:=bM l;unfold bP at m;exact dT.1 (Cq.1 m).1
 obtain⟨p,q⟩:=t _ r;rw[o,<-n,dp l];exact⟨rfl,(n6 _ _).1,(n6 _ _).2,p,q⟩
theorem ayp(z0:Nat)(z4 ep:Int)(rv ov cv lv wv tv:Value)(m:ak)(t i o:V)(k:aO)(R y:World)
  (hW:Below R R y) (hB:R.heap.size<=z0) (hG:gz R) (hR:bI R rv m) (hO:aM R ov t) (hT:fC R tv k)
  (hC:RI y cv (bt o)) (hL:RS y lv (bV m o)) (hWH:RI y wv i) (hD:dO z0 z4 y) (hm:z4+200<1000000)
  (hp:bH m t=0) (hk:ks m ep (bt o)=true) (h0:0<m.length) (l:k.length<=65536) (hw:eU (-1) i=true) (Hr:0<i.length) (ha:kK m t i=true) (hs:∀z∈o,0<=z/\z<1073741789)
  (hf:∀x,x<m.length->ke m t (bt o) (lV m o x).1 (lV m o x).2=true/\j9 m t (bt o) (lV m o x).1 (lV m o x).2=0):
  Calls prog 14 #[.agg #[ep,rv,ov,cv],lv,wv,tv,(z0,0)] y λn w'=>n=.returned true/\Below R y w':=by
 obtain⟨W1,aE,au,aI,-⟩:=lF y ep rv ov cv 33;obtain⟨HC,HL,iB,HD,HB,df,HG,HR,HO⟩:=fx (hC.below au) (hL.below au) (hWH.below au) (hD.below au) (ar hW au) (au.mono hW.size) hG hR hO;obtain⟨HT,Q,HK,Mc,iV,AT,tr,HA,HS⟩:=fx hT hp hk h0 l hw Hr ha hs;obtain⟨HF,HM,kt,acf,HQ⟩:=gw hf hm hB hD.lt aI;obtain⟨wA,wC,VA,-,-,-⟩:=id hWH.1;subst VA;have bp:=A aE;have w64:i.length<=64:=by
  have G:=(Bz hw).2.2.2 (by intro n;rw[n]at Hr;cases Hr);omega
 clear hW hB hG hR hO hT hC hL hWH hD hm hp hk h0 l hw Hr ha hs hf au aI aE;obtain⟨a1,k1,rfl,-,eI,-⟩:=id HR.1;obtain⟨a2,k2,rfl,-,dR,-⟩:=id HO.1;obtain⟨a3,k3,rfl,-⟩:=id HC.1.1;obtain⟨tA,tC,rfl,-⟩:=id HT.1;obtain⟨a4,k4,rfl,-⟩:=id HL.1.1;go_enter func14,ntmps14;go_wp2_with (rw[<-bp.1]);go_loopw[11,12,31] (λz8 z9 x z3=>∃(h:Nat) (p:List (Int×Int×Int×Int)) (a:bF),h<=i.length/\x=h/\Hid (Ci i h p a)/\z3.ownsRow W1.heap.size 59 4 z8 h (p.flatMap vR)/\z3.ownsRow W1.heap.size 124 2 z9 h (a.flatMap uJ)/\dO z0 (z4+2*h) z3/\W1.grownBy z3 (some z0)) (λ_ _ x _=>i.length-(intOf x).toNat);case atStart=>exact⟨0,[],[],bS _,rfl,A ⟨rfl,rfl,λS f=>absurd f (fG _)⟩,iv _ _ _ _,iv _ _ _ _,by simpa using HD.1,lK (aY _ _)⟩
 case round =>
  obtain⟨h,p,a,dg,rfl,M,pE,yj,hd,L⟩:=hrel;obtain⟨N,O,hx⟩:=aiW pE;obtain⟨na,W,hy⟩:=aiW yj;subst hx;subst hy;have Bx:RI wr (.slice wA i.length wC) i:=iB.1.dic HD.1 L;by_cases I:h<i.length
  ·obtain⟨qb,qo,ea,P⟩:=B3 Bx.1 I;subst ea;have HNW:Hid (J i h=i[h]):=A (di I);obtain⟨r,KI⟩:=aK (i[h]);rw[<-KI]at P HNW;obtain⟨jr,dH,iD,kh,dq⟩:=gw pE yj hd L I;have i0:(0:Int)<=(h:Int):=me h;have i1:(h:Int)<(i.length:Int):=by omega
   have k6:(h:Int)<64:=by omega
   clear pE yj hd L Bx KI;go_wp2_with fail;refine(Ng z0 _ _ iD.1 (by have G:=HM.1;omega)).mono ?_;rintro n w5 ⟨C,rfl,dP,Rt,rR⟩;obtain⟨pL,oe,HZ1⟩:=bJ Rt rR dP;clear Rt rR dP;go_wp2_with fail;refine(Ng z0 _ _ pL.1 (by have G:=HM.1;omega)).mono ?_;rintro n w6 ⟨D,rfl,dQ,m8,pT⟩;obtain⟨W7,eE,bz,xN,-⟩:=ee w6 C D 124;obtain⟨x0,x1⟩:=ez xN;obtain⟨E0,ou,Ho,Pt,aka,akb,tW⟩:=qy xN eE (m8.below bz) dQ (dM (B1 (B1 jr.1 iD.1 (by decide) oe.1) pL.1 (by decide) pT) bz) (dM (B1 (B1 dH.1 iD.1 (by decide) oe.1) pL.1 (by decide) pT) bz) (fT (iW (iW kh.1 oe.1) pT) (bz.mono (bK kh.1.size (bK oe.1.size pT.size))));clear xN eE bz m8 pT dQ jr dH iD pL oe kh;go_wp2_with (rw[<-ou.1]);refine(vf 4 C _ fO (dK HZ1.1)).mono ?_;rintro n w8 ⟨rfl,bg⟩;have E:=A bg;have x18:=U bg x1;clear bg;go_wp2_with fail;refine(vf 4 D _ fO (dK Pt.1)).mono ?_;rintro n w9 ⟨rfl,bA⟩;obtain⟨za,NQ⟩:=aK (bm 4 C);obtain⟨zb,hzb⟩:=aK (bm 4 D);rw[<-NQ,<-hzb];obtain⟨HZA,HZB⟩:=aR NQ hzb;have HX0:Hid (∀v6 v7 v10 v11:Value,tT W1.heap.size w6.heap.size (.slice N h O) (.slice na h W) h p a (r,(h:Int),za,zb) (C,D) false false false false v6 v7 v10 v11 w9):=A (λ_ _ _ _=>⟨λ_=>dM (dM aka.1 E.1) bA,λn=>(by cases n),λ_=>dM (dM akb.1 E.1) bA,λn=>(by cases n),λ_=>(bA.block _ (bG (az E.1 E0.1))).trans (az E.1 E0.1),λn=>(by cases n),λn=>(by cases n),bK tW.1.size (bK E.1.size bA.size)⟩);obtain⟨xR,zE⟩:=aR ((Ho.1.below E.1).below bA) (fT (fT tW.1 (E.1.mono tW.1.size)) (bA.mono (bK tW.1.size E.1.size)));have Fj:Hid (h<=1000000):=A (by omega);clear bA NQ hzb E Ho tW aka akb E0 x0 x1 x18 P;go_wp2_with fail;refine nW (ayl w9 W1.heap.size w6.heap.size h N O na W p a r za zb C D) (λu=>?_) ?_ (λu c f=>?_)
   ·exact⟨(aY _ _).drew,ax,ax,ax,ax,ax,ax,ax,ax,ax,ax,((HX0.1 _ _ _ _).below (aY _ _).drew)⟩
   ·refine⟨?_,?_,?_,?_,?_,?_,?_,?_,?_,?_,?_,?_,?_,?_,trivial⟩;all_goals intro dn u c z5 f g
    ·have j:z5.tmps[11]?.getD undef=.slice N h O:=g.hf.2 12 11 rfl (g.n 12);clear g;go_simp;exact⟨_,rfl,{f with f0:=aB}⟩
    ·have j:=g.b 14 r;clear g;go_simp;exact⟨_,rfl,{f with f1:=aB}⟩
    ·have j:=g.b 13 h;clear g;go_simp;exact⟨_,rfl,{f with f2:=aB}⟩
    ·have j:=g.b 16 za;clear g;go_simp;exact⟨_,rfl,{f with f3:=aB}⟩
    ·have j:=g.b 18 zb;clear g;go_simp;exact⟨_,rfl,{f with f4:=aB}⟩
    ·have j:=g.e 1 60 f.f1;have F:=g.e 2 61 f.f2;have e2:=g.e 3 62 f.f3;have e3:=g.e 4 63 f.f4;clear g;go_simp;exact⟨_,rfl,{f with f5:=aB}⟩
    ·have j:=g.e 5 64 f.f5;have l:=bk c #[r,h,za,zb] 59;have vP:=f.bx.six;clear g;go_simp;exact⟨_,rfl,{f with b:=f.b.trans (l.mono f.bx.wide),bx:=(vP)}⟩
    ·obtain⟨b7,c7,e7,h7⟩:=f.bx.pb (g.d 6) g.hd;have F:=g.e 0 59 f.f0;have e2:=(g.E 6 65).trans e7;have ow:=f.bx.p0 g.hd;have jT:=f.bx.wide;have oz:=f.bx;refine avA _ _ rfl _ (.slice N h O) p h ((gi ..).trans F) ow b7 c7 (r,(h:Int),za,zb) ((gi ..).trans e2) (λS v hu=>Y h7 (by rw[SU];exact hu)) Fj.1 jT ?_;intro z7 uq w8 h8 o8;have vP:=oz.seven g.hd h8 o8;exact⟨_,rfl,{f with b:=f.b.trans (fH ow o8.1 jT),f12:=(kY ((g.n 12))),bx:=(vP)}⟩
    ·have j:z5.tmps[12]?.getD undef=.slice na h W:=g.hf.2 13 12 rfl (g.n 13);clear g;go_simp;exact⟨_,rfl,{f with f8:=aB}⟩
    ·have ayq:dn 11=false:=rX (λhj=>g.hu 10 9 rfl (g.hu 11 10 rfl (hj))) g.hd;have j:=g.b 15 (w6,0);have x0_:=f.bx.xr ayq;obtain⟨cJ,jd⟩:=ez x0_;clear g;go_simp;exact⟨_,rfl,{f with f9:=aB}⟩
    ·have j:=g.e 9 68 f.f9;have l:=bk c #[C,D] 124;have vP:=f.bx.ten;clear g;go_simp;exact⟨_,rfl,{f with b:=f.b.trans (l.mono f.bx.wide),bx:=(vP)}⟩
    ·obtain⟨b7,c7,e7,h7⟩:=f.bx.nb (g.d 10) g.hd;have F:=g.e 8 67 f.f8;have e2:=(g.E 10 69).trans e7;have ow:=f.bx.n0 g.hd;have jT:=f.bx.wide;have oz:=f.bx;refine avB _ _ rfl _ (.slice na h W) a h ((gi ..).trans F) ow b7 c7 (C,D) ((gi ..).trans e2) (λS v hu=>Y h7 (by rw[SU];exact hu)) Fj.1 jT ?_;intro z7 uq w8 h8 o8;have vP:=oz.elev g.hd h8 o8;exact⟨_,rfl,{f with b:=f.b.trans (fH ow o8.1 jT),f13:=(kY ((g.n 13))),bx:=(vP)}⟩
    ·have j:=g.E 7 66;clear g;go_simp;exact⟨_,rfl,{f with f12:=aB}⟩
    ·have j:=g.E 11 70;clear g;go_simp;exact⟨_,rfl,{f with f13:=aB}⟩
   simp only[jG,Act.put,Nat.reduceAdd,dD];have g1:=f.bx.p1 rfl;have g2:=f.bx.n1 rfl;rw[<-f.f12 rfl]at g1;rw[<-f.f13 rfl]at g2;have B:=f.b;go_wp2_with fail;go_roundw;case rel=>exact⟨h+1,_,_,dq.1,by go_num,A (by rw[<-HNW.1,HZA.1,HZB.1];exact M.1.snoc HZ1.1 Pt.1),g1,g2,(by have h7:=xR.1.low B HD.1.lt;rw[show z4+2*((h+1:Nat):Int)=z4+2*(h:Int)+1+1 by omega];exact h7),fT zE.1 B⟩
   case measure =>
    simp[intOf];omega
  ·obtain rfl:h=i.length:=by omega
   have nE:=(L.block _ (bG HQ.1) (by have G:=acf.1;intro n;injection n with n;omega)).trans HQ.1;have iY:=HC.1.dic HD.1 L;have QO:=HL.1.dic HD.1 L;have w:=HB.1.trans (rp L kt.1 HB.1.size);obtain⟨acv,akc⟩:=M.1.ok AT.1 w64;have az1:=M.1.1;have AO:vG wr (.slice N i.length O) p:=vG.own pE (by omega) akc;have htw:J6 wr (.slice na i.length W) a:=J6.own yj;obtain⟨q,Nt⟩:=aK (J (bt o) 0);obtain⟨s,hEe⟩:=aK (xK q k p);obtain⟨PT,hPe⟩:=aK (sI q k p);have jh:=awC ep _ _ _ _ _ m t (bt o) k p wr (HG.1.below w) (HR.1.below w) (HO.1.below w) iY.1 (HT.1.below w) AO Q.1 HK.1 Mc.1 iV.1 acv (by have:=tr.1;omega) (by rw[M.1.who];exact HA.1);rw[<-Nt]at jh;unfold ajn at jh;rw[<-hEe,<-hPe]at jh;obtain⟨gM,MZ,wT,JN,EC,l7,eT,wV,HTW⟩:=fx jh nE iY QO Bx w acv AO htw;obtain⟨lC,HEE,yG⟩:=bJ Nt hEe (df.1.trans (rp L kt.1 HB.1.size));obtain⟨zD,Z,sK,X⟩:=fh nE;clear nE iY QO w acv akc AO htw jh Nt hEe hPe pE yj hd L Bx;go_wp2_with fail;refine gM.1.mono ?_;rintro n w2 ⟨xv,rfl,H⟩;obtain⟨W3,dV,aJ,dX,-⟩:=ee w2 s (0:Int) 127;obtain⟨JO,gp,vj,HHA⟩:=cY dV aJ dX (QM (fs Q.1) HA.1);have hu0:∃v:Nat->Int,v=λS=>pI (bQ m t i) (mZ m t o (J i S)) (mZ m t o (J i S)).length:=⟨_,rfl⟩;obtain⟨v,hu⟩:=hu0;have HU:=A hu;refine uc H zD Z sK X ?_;clear zD Z sK X;intro zD Z sK X;obtain⟨wT,JN,EC,wV,HTW⟩:=gw (wT.1.below H) (JN.1.below H) (EC.1.below H) (wV.1.below H) (HTW.1.below H);have HWS:=A (yG.1.trans (H.mono l7.1.size));replace l7:=A (ar l7.1 H);clear dV aJ dX H hu;go_wp2_with (rw[<-JO.1]);go_loopw[85] (λx z3=>∃(h:Nat),h<=i.length/\x=h/\z3.heap[w2.heap.size]?=QC.mk #[s,(zq (dN a) (fN a) (bN q k p i) s v h:Int)] 127/\Below w2 w2 z3) (λx _=>i.length-(intOf x).toNat);case atStart=>exact⟨0,bS _,rfl,vj.1,gp.1⟩
   case round =>
    obtain⟨h,dg,rfl,OL,l⟩:=hrel;refine uc l zD Z sK X ?_;clear zD Z sK X;intro zD Z sK X;obtain⟨sc0,sc1⟩:=ez OL;by_cases I:h<i.length
    ·have Bx:=EC.1.below l;obtain⟨qb,qo,ea,q0⟩:=B3 Bx.1 I;subst ea;obtain⟨ta,tc,te,-,E5⟩:=HTW.1.below l;obtain⟨h3,h4,K,dP,dQ⟩:=M.1.at I;obtain⟨nb,eb,P,q2⟩:=E5 h h4;simp only[dr]at te;obtain⟨rfl,CN,rfl⟩:=te;subst eb;have rK:dN a h=a[h].1:=by unfold dN;rw[dp h4]
     have ym:fN a h=a[h].2:=by unfold fN;rw[dp h4]
     obtain⟨r,KI⟩:=aK (i[h]);obtain⟨C,Fo⟩:=aK (a[h].1);obtain⟨D,Ru⟩:=aK (a[h].2);have Xf:J i h=r:=by rw[KI];exact di I
     rw[<-KI]at q0;rw[<-Fo]at P K dP rK;rw[<-Ru]at q2 K dQ ym;rw[Xf]at K;have w:=ar l7.1 l;have wY:0<=r/\r<=63:=by rw[KI];exact(Bz AT.1).1 _ (bM I)
     obtain⟨cU,bW⟩:=ayo (fs Q.1) HF.1 r;obtain⟨SL,vO⟩:=aK (mZ m t o r);obtain⟨zz,dL⟩:=aK (Sn q k p r C D (pI (bQ m t i) SL SL.length));have dh:G5 (dN a) (fN a) (bN q k p i) s v h=zz:=by
      unfold G5 bN;rw[rK,ym,Xf,HU.1,dL,HEE.1];unfold Sn;dsimp only;rw[Xf,vO]
     rw[<-vO]at cU bW;have Dx:Hid (∀c,Below wr wr c->∀sv,fK c sv SL->Calls prog 4 #[.agg #[ep,.slice a1 m.length k1,.slice a2 t.length k2,.slice a3 (bt o).length k3],.slice tA k.length tC,.slice N i.length O,r,sv,C,D] c λn w'=>n=.returned (.tuple #[zz,(0:Int)])/\Below c c w'):=A (λc T sv hSV=>by
      have B:=ar w T;have f:=aye ep (.slice a1 m.length k1) (.slice a2 t.length k2) (.slice a3 (bt o).length k3) (.slice tA k.length tC) (.slice N i.length O) sv m t (bt o) k p SL h C D c (HG.1.below B) (HR.1.below B) (HO.1.below B) ((wT.1.below l).below T).1 (HT.1.below B) ((wV.1.below l).below T) hSV Q.1 HK.1 Mc.1 iV.1 eT.1 (by rw[M.1.who];exact HA.1) h3 dP dQ (by rw[K]) (by rw[K]) (by rw[K];exact cU) (by rw[K];exact bW);rw[K,M.1.who,<-lC.1]at f;unfold aj4 at f;rw[<-dL]at f;exact f)
     have Fm:Hid (∀c,Below wr wr c->∀u,aM c u [r]->Calls prog 13 #[.agg #[.slice a1 m.length k1,.slice a2 t.length k2],.slice a4 (bV m o).length k4,u] c λn w'=>∃u,n=.returned u/\fK w' u SL/\Below c c w'):=A (λc T u hV=>by
      have B:=ar w T;have hle:=(fs Q.1).len;have vM:=(fs Q.1).few;have f:=ahp (.slice a1 m.length k1) (.slice a2 t.length k2) (.slice a4 (bV m o).length k4) u t [r] (bV m o) c ⟨_,_,_,rfl⟩ (HO.1.below B) ((JN.1.below l).below T).1 hV (by rw[ju];omega) (by simp) (λz10 hp=>by
       obtain⟨S,hj,rfl⟩:=ey.1 hp;have:=dT.1 hj;show(0:Int)<=(S:Int)/\(S:Int)<_;omega)
      rw[avR wY.1 (by omega),<-vO]at f;exact f)
     have mc:Hid (aN r):=A (by unfold aN;omega);obtain⟨lX,Xe,Gz⟩:=bJ dh OL l;have HZZ:Hid (0<=zz/\zz<1073741789):=A (by rw[<-dh];exact avT _ _ _ _ _ _);have dq:=A I;have i0:(0:Int)<=(h:Int):=me h;have i1:(h:Int)<(i.length:Int):=by omega
     have k6:(h:Int)<64:=by omega
     clear cU bW vO dL dh wY w Xf Fo Ru KI rK ym h3 h4 K E5 Bx OL l CN dP dQ;go_wp2_with fail;refine nW (aym wr y.heap.size ep (.slice a1 m.length k1) (.slice a2 t.length k2) (.slice a3 (bt o).length k3) (.slice tA k.length tC) (.slice N i.length O) (.slice a4 (bV m o).length k4) r h i.length nb W C D zz SL) (λu=>?_) ?_ (λu c f=>?_)
     ·exact⟨(aY _ _).drew,ax,ax,ax,ax,ax,ax,ax,ax,ax,ax,ax,ax,ax,ax,ax,ax,ax,ax,ax,ax,ax,ax,ax,ax,ax,ax⟩
     ·refine⟨?_,?_,?_,?_,?_,?_,?_,?_,?_,?_,?_,?_,?_,?_,?_,?_,?_,?_,?_,?_,?_,?_,?_,?_,?_,?_,trivial⟩;all_goals intro dn u c z5 f g
      ·have j:=g.b 5 (y,0);have cJ:=U f.b zD;have jd:=U f.b Z;have vK:=U f.b sK;have xE:=U f.b X;clear g;go_simp;exact⟨_,rfl,{f with f0:=aB}⟩
      ·have j:=g.b 3 (.slice tA k.length tC);clear g;go_simp;exact⟨_,rfl,{f with f1:=aB}⟩
      ·have j:=g.b 11 (.slice N i.length O);clear g;go_simp;exact⟨_,rfl,{f with f2:=aB}⟩
      ·have j:=g.b 26 r;clear g;go_simp;exact⟨_,rfl,{f with f3:=aB}⟩
      ·have j:=g.b 5 (y,0);clear g;go_simp;exact⟨_,rfl,{f with f4:=aB}⟩
      ·have j:=g.e 4 95 f.f4;have cJ:=U f.b Z;have jd:=U f.b sK;clear g;go_simp;exact⟨_,rfl,{f with f5:=aB}⟩
      ·have j:=g.b 1 (.slice a4 (bV m o).length k4);clear g;go_simp;exact⟨_,rfl,{f with f6:=aB}⟩
      ·have j:=g.b 26 r;clear g;go_simp;exact⟨_,rfl,{f with f7:=aB}⟩
      ·have j:=g.e 7 98 f.f7;have l:=bk c #[r] 3;clear g;go_simp;exact⟨_,rfl,{f with b:=ar f.b l,f8:=(λ_ _=>aM.one c r 3 mc.1),f9:=(λG h2=>(f.f9 G h2).below l)}⟩
      ·have j:=g.e 5 96 f.f5;have F:=g.e 6 97 f.f6;have e2:=g.E 8 99;have m2:=f.f8 (g.d 8) g.hd;clear g;go_simp;with_reducible refine(Fm.1 c f.b _ m2).mono ?_
       rintro n wq ⟨v,rfl,hn,l⟩;exact⟨_,rfl,{f with b:=ar f.b l,f8:=(λ_=>wj),f9:=(λ_ _=>hn)}⟩
      ·have j:=g.b 12 (.slice (nb,0) i.length W);clear g;go_simp;exact⟨_,rfl,{f with f10:=aB}⟩
      ·have j:=g.b 25 h;clear g;go_simp;exact⟨_,rfl,{f with f11:=aB}⟩
      ·have j:=g.e 10 101 f.f10;have F:=g.e 11 102 f.f11;clear g;go_simp;exact⟨_,rfl,{f with f12:=aB}⟩
      ·have j:=g.e 12 103 f.f12;clear g;go_simp;exact⟨_,rfl,{f with f13:=aB}⟩
      ·have j:=g.e 13 104 f.f13;have cJ:=U f.b P;clear g;go_simp;exact⟨_,rfl,{f with f14:=aB}⟩
      ·have j:=g.b 12 (.slice (nb,0) i.length W);clear g;go_simp;exact⟨_,rfl,{f with f15:=aB}⟩
      ·have j:=g.b 25 h;clear g;go_simp;exact⟨_,rfl,{f with f16:=aB}⟩
      ·have j:=g.e 15 106 f.f15;have F:=g.e 16 107 f.f16;clear g;go_simp;exact⟨_,rfl,{f with f17:=aB}⟩
      ·have j:=g.e 17 108 f.f17;clear g;go_simp;exact⟨_,rfl,{f with f18:=aB}⟩
      ·have j:=g.e 18 109 f.f18;have cJ:=U f.b q2;clear g;go_simp;exact⟨_,rfl,{f with f19:=aB}⟩
      ·have j:=g.e 0 91 f.f0;have F:=g.e 1 92 f.f1;have e2:=g.e 2 93 f.f2;have e3:=g.e 3 94 f.f3;have e4:=g.E 9 100;have m4:=f.f9 (g.d 9) g.hd;have e5:=g.e 14 105 f.f14;have e6:=g.e 19 110 f.f19;clear g;go_simp;with_reducible refine(Dx.1 c f.b _ m4).mono ?_
       rintro n wq ⟨rfl,l⟩;exact⟨_,rfl,{f with b:=ar f.b l,f8:=(λG h2=>(f.f8 G h2).below l),f9:=(λ_=>wj),f20:=aB}⟩
      ·have j:=g.e 20 111 f.f20;clear g;go_simp;exact⟨_,rfl,{f with f21:=aB}⟩
      ·have j:=g.e 21 90 f.f21;clear g;go_simp;exact⟨_,rfl,{f with f22:=aB}⟩
      ·have j:=g.e 21 90 f.f21;clear g;go_simp;exact⟨_,rfl,{f with f23:=aB}⟩
      ·have j:=g.e 22 112 f.f22;clear g;go_simp;exact⟨_,rfl,{f with f24:=aB}⟩
      ·have j:=g.e 23 113 f.f23;clear g;go_simp;exact⟨_,rfl,{f with f25:=aB}⟩
     simp only[jG,Act.put,Nat.reduceAdd,dD];rw[f.f24 rfl];rw[f.f25 rfl];have fo:=f.b;have Xg:=az fo Xe.1;have sd1:=Y Xg (k:=1) (d:=(zq (dN a) (fN a) (bN q k p i) s v h:Int)) rfl;have C6:=A (ai8 (dN a) (fN a) (bN q k p i) s v h);obtain⟨SK,hSK⟩:=aK (zq (dN a) (fN a) (bN q k p i) s v h);have CH:zq (dN a) (fN a) (bN q k p i) s v (h+1)=(SK+zz)%1073741789:=by
      show(zq (dN a) (fN a) (bN q k p i) s v h+G5 (dN a) (fN a) (bN q k p i) s v h)%1073741789=_;rw[lX.1,hSK]
     have mO:=A CH;rw[<-hSK]at sd1 Xg C6;obtain⟨HS2,Xh⟩:=aR Xg fo;clear CH hSK Xg fo sc0 sc1 q0 P q2;go_wp2_with fail;refine(yr SK zz _ (dK C6.1) (dK HZZ.1)).mono ?_;rintro n w8 ⟨rfl,bg⟩;have da:=az bg HS2.1;have se1:=Y da (k:=1) (d:=SK) rfl;have fe1:=cB da 1;obtain⟨gZ,E⟩:=aR da ((ar Gz.1 Xh.1).trans (bg.mono (bK Gz.1.size Xh.1.size)));clear da bg sd1;go_wp2_with fail;go_roundw;case rel=>exact⟨h+1,dq.1,by go_num,by rw[mO.1];exact cK gZ.1 1 _,E.1.setCell (aP _) _⟩
     case measure =>
      simp[intOf];omega
    ·obtain rfl:h=i.length:=by omega
     have pY:=HK.1;unfold ks fQ at pY;rw[cu,cu,cu,fU,fU,fU]at pY;have pF:0<(bt o).length:=by have:=(fs Q.1).cols;omega
     have wN:0<o.length:=by rw[At]at pF;exact pF
     obtain⟨cb,co,ea,P⟩:=B3 (wT.1.below l).1 pF;subst ea;rw[<-di pF,<-lC.1,rF]at P;have hCp:q=bm 4 (J o 0):=by rw[lC.1];unfold bt;rw[EN wN]
     obtain⟨z6,hS⟩:=aK (zq (dN a) (fN a) (bN q k p i) s v i.length);have hSn:=ai8 (dN a) (fN a) (bN q k p i) s v i.length;have w:=ar l7.1 l;have akd:NU q s z6=sI q k p:=by
      have G:=avY (i:=dN a) (y:=fN a) (b:=bN q k p i) (q:=s) (fs Q.1) HHA.1 (by rw[di wN];exact HS.1 _ (bM wN)) AT.1;rw[<-HU.1,<-hS,<-hCp,<-aj9 M.1 q k i.length (aP _)]at G;unfold NU sI;rw[M.1.1];exact G
     have R9:Hid (∀c,Below wr wr c->Calls prog 51 #[q,.slice tA k.length tC,.agg #[s,z6]] c λn w'=>n=.returned true/\Below c c w'):=A (λc T=>by
      have B:=ar w T;have f:=ayk q s z6 (.slice tA k.length tC) k c (by rw[hCp];exact fJ fO _) (by rw[HEE.1];exact ajb _ _ _) (by rw[hS];exact hSn) (HT.1.below B) (by have:=iV.1;omega) (HG.1.below B);rw[akd,show(s==uz (fp MC) (gg [dB (sI q k p),dB q,lB k]))=true by rw[HEE.1];exact beq_self_eq_true _]at f;exact f)
     rw[<-hS]at sc1;have Gz:=A l;clear hS hSn w akd pY OL hCp l wN;go_wp2_with fail;refine nW (ayn wr y.heap.size cb co ((bt o).length) k3 (.slice tA k.length tC) w2.heap.size q s z6) (λu=>?_) ?_ (λu c f=>?_)
     ·exact⟨(aY _ _).drew,ax,ax,ax,ax,ax,ax,ax,ax,ax,ax,ax,ax⟩
     ·refine⟨?_,?_,?_,?_,?_,?_,?_,?_,?_,?_,?_,?_,trivial⟩;all_goals intro dn u c z5 f g
      ·have j:=g.b 23 (0:Int);clear g;go_simp;exact⟨_,rfl,{f with f0:=aB}⟩
      ·have j:=g.e 0 122 f.f0;clear g;go_simp;exact⟨_,rfl,{f with f1:=aB}⟩
      ·have j:=g.e 1 123 f.f1;clear g;go_simp;exact⟨_,rfl,{f with f2:=aB}⟩
      ·refine g.g 2 f.f2 ?_;have j:=g.b 5 (y,0);clear g;go_simp;exact⟨_,rfl,{f with f3:=aB}⟩
      ·refine g.g 2 f.f2 ?_;have j:=g.e 3 125 f.f3;have cJ:=U f.b X;clear g;go_simp;exact⟨_,rfl,{f with f4:=aB}⟩
      ·refine g.g 2 f.f2 ?_;have j:=g.e 4 126 f.f4;clear g;go_simp;exact⟨_,rfl,{f with f5:=aB}⟩
      ·refine g.g 2 f.f2 ?_;have j:=g.e 5 127 f.f5;have cJ:=U f.b P;clear g;go_simp;exact⟨_,rfl,{f with f6:=aB}⟩
      ·refine g.g 2 f.f2 ?_;have j:=g.b 3 (.slice tA k.length tC);clear g;go_simp;exact⟨_,rfl,{f with f7:=aB}⟩
      ·refine g.g 2 f.f2 ?_;have j:=g.b 24 (w2,0);have cJ:=U f.b sc0;have jd:=U f.b sc1;clear g;go_simp;exact⟨_,rfl,{f with f8:=aB}⟩
      ·refine g.g 2 f.f2 ?_;have j:=g.e 6 128 f.f6;have F:=g.e 7 129 f.f7;have e2:=g.e 8 130 f.f8;clear g;go_simp;with_reducible refine(R9.1 c f.b).mono ?_
       rintro n wq ⟨rfl,l⟩;exact⟨_,rfl,{f with b:=ar f.b l,f9:=aB}⟩
      ·have j:=g.e 2 124 f.f2;have F:=g.e 9 131 f.f9;clear g;go_simp;exact⟨_,rfl,{f with f10:=aB}⟩
      ·have j:=g.e 10 132 f.f10;clear g;go_simp;exact⟨_,rfl,{f with f11:=aB}⟩
     simp only[jG,Act.put,Nat.reduceAdd,dD];rw[f.f11 rfl];have Xh:=A f.b;go_wp2_with fail;go_ret;exact⟨rfl,HWS.1.trans ((ar Gz.1 Xh.1).mono (bK l7.1.size (aP _)))⟩
theorem ayr(b:World):Calls prog 4 #[.agg #[.int .i64 0,.slice none 0 0,.slice none 0 0,.slice none 0 0],.slice none 0 0,.slice none 0 0,.int .i64 0,.slice none 0 0,.int .i64 0,.int .i64 0] b λP y=>P=.returned (.tuple #[.int .i64 0,.int .i64 380])/\Below b.heap.size b y:=by
 obtain⟨s,H,h,K,M⟩:=lF b (.int .i64 0) (.slice none 0 0) (.slice none 0 0) (.slice none 0 0) 33;obtain⟨i,v⟩:=aK (s.alloc (.cells #[.slice none 0 0] 38));obtain⟨W3,j⟩:=aK (i.alloc (.cells #[.int .i64 0] 3));obtain⟨t,n⟩:=aK (W3.alloc (.cells #[.int .i64 0] 29));have E:i.heap.size=b.heap.size+1+1:=by rw[v];simp[M]
 have s3:W3.heap.size=b.heap.size+1+1+1:=by rw[j];simp[E]
 have z:Below s.heap.size s i:=v▸bk _ _ _;have B:Below i.heap.size i W3:=j▸bk _ _ _;have u:Below W3.heap.size W3 t:=n▸bk _ _ _;have L:Below b.heap.size b t:=h.trans ((z.mono h.size).trans ((B.mono (by omega)).trans (u.mono (by omega))));have N:=(u.block _ (by omega)).trans ((B.block _ (by omega)).trans ((z.block _ (by omega)).trans K));have q:t.heap[b.heap.size+1+1]?=some (.cells #[.int .i64 0] 3 (0,0)):=(u.block _ (by omega)).trans (by rw[j,<-E];exact World.alloc_heap_new _ _);have g:t.heap[b.heap.size+1+1+1]?=some (.cells #[.int .i64 0] 29 (0,0)):=by rw[n,<-s3];exact World.alloc_heap_new _ _
 obtain⟨X,Z,c2,c3⟩:=fh N;rw[j,v,H]at n;obtain⟨S,Q,T,W⟩:=cY n L q g;clear H v j n h K M E s3 z B u L N q g;refine wu func4 rfl ?_;simp only[ntmps4,kS,dZ,je,Nat.reduceAdd,Nat.reduceSub,kU,kV,kW,kX,jf,jn];go_wp2_with (rw[<-S.1]);refine(aya _).mono ?_;rintro P O ⟨rfl,h⟩;have I:=bk O #[.pointer none] 55;have x:=ar h I;have q:=az x T.1;have g:=az x W.1;have z4:=Y g (k:=0) (d:=.int .i64 0) rfl;have g4:=cB g 0;have C:=(kO (B:=b.heap.size+1+1+1) (k:=0) (a:=.int .i64 380) (show b.heap.size+1+1≠b.heap.size+1+1+1 by omega)).trans q;have D:=cK g 0 (.int .i64 380);have z3b:=Y C (k:=0) (d:=.int .i64 0) rfl;have g3b:=cB C 0;have z4b:=Y D (k:=0) (d:=.int .i64 380) rfl;have g4b:=cB D 0;have kF:=A ((ar Q.1 x).setCell (p:=⟨b.heap.size+1+1+1,0,none⟩) (show b.heap.size<=b.heap.size+1+1+1 by omega) (.int .i64 380));clear I x q g C D h X Z c2 c3;go_wp2_with fail;have r:∀f:World,(f.cell? ⟨b.heap.size+1+1+1,0,none⟩=some (.int .i64 380)/\f.cell? ⟨b.heap.size+1+1,0,none⟩=some (.int .i64 0))->(f.setCell ⟨b.heap.size+1+1,0,none⟩ (.int .i64 0)).cell? ⟨b.heap.size+1+1+1,0,none⟩=some (.int .i64 380)/\(f.setCell ⟨b.heap.size+1+1,0,none⟩ (.int .i64 0)).cell? ⟨b.heap.size+1+1,0,none⟩=some (.int .i64 0):=λf ⟨l,m⟩=>⟨(jS (.inl (by omega))).trans l,jL _ _ _ (by rw[m];rfl)⟩;have F:∀f:World,(f.cell? ⟨b.heap.size+1+1+1,0,none⟩=some (.int .i64 380)/\f.cell? ⟨b.heap.size+1+1,0,none⟩=some (.int .i64 0))->(f.setCell ⟨b.heap.size+1+1+1,0,none⟩ (.int .i64 380)).cell? ⟨b.heap.size+1+1+1,0,none⟩=some (.int .i64 380)/\(f.setCell ⟨b.heap.size+1+1+1,0,none⟩ (.int .i64 380)).cell? ⟨b.heap.size+1+1,0,none⟩=some (.int .i64 0):=λf ⟨l,m⟩=>⟨jL _ _ _ (by rw[l];rfl),(jS (.inl (by omega))).trans m⟩;have o:=And.intro z4b z3b;have R:Hid ((((O.alloc (.cells #[.pointer none] 55)).setCell ⟨b.heap.size+1+1+1,0,none⟩ (.int .i64 380)).setCell ⟨b.heap.size+1+1,0,none⟩ (.int .i64 0)).frozen? ⟨b.heap.size+1+1+1,0,none⟩=false):=A (by rw[jK];exact g4b);have g5b:=R.1;go_region_held3 (λy=>y.cell? ⟨b.heap.size+1+1+1,0,none⟩=some (.int .i64 380)/\y.cell? ⟨b.heap.size+1+1,0,none⟩=some (.int .i64 0)) (first|go_keep|exact o|exact F _ (r _ o)|exact r _ o) (fail);all_goals
  go_wp2_with fail;refine F9 (f:=b.heap.size) (k:=.tuple #[.int .i64 0,.int .i64 380]) (λG=>G.cell? ⟨b.heap.size+1+1,0,none⟩=some (.int .i64 0)/\G.cell? ⟨b.heap.size+1+1+1,0,none⟩=some (.int .i64 380)) ?_ (λ_ _ k w=>⟨jx w k.1,jx w k.2⟩) (λ_ _ k w=>⟨k.1,k.2.trans (nf w)⟩) [] _ trivial ⟨(F _ (r _ o)).2,(F _ (r _ o)).1⟩ ⟨rfl,((kF.1.setCell (show b.heap.size<=b.heap.size+1+1 by omega) _).setCell (show b.heap.size<=b.heap.size+1+1+1 by omega) _).drew⟩;rintro s ⟨l,m⟩;simp[results,results4,go_sem,l,m]
open Go.ChangeShapes Go.WideShapes Go.ChangeAt Go.Deep Go.Joins
abbrev ake{d : Type}: List (String×DataW d):= [("signatory/digest.start", Rows.laid_signatory_digest_start), ("signatory/digest.numbers", Rows.laid_signatory_digest_numbers)]
theorem Xi{b:Int}(f:(Lit.int .u8 b).wf=true):0<=b/\b<256:=by
 simp[Lit.wf,IntKind.min,IntKind.max,IntKind.signed,IntKind.bits]at f;omega
theorem akf: prog.globalNamed "signatory/digest.numbers" = some 1 := by kernel_rfl
theorem akg: prog.globalNamed "signatory/digest.start" = some 0 := by kernel_rfl
theorem ays:(prog.globals[1]?).map (·.type)=some 274:=by kernel_rfl
theorem ayt:(prog.globals[0]?).map (·.type)=some 266:=by kernel_rfl
theorem akh:prog.cellsOf 143 = 1:=by kernel_rfl
theorem ayu:prog.cellsOf 274 = 64:=by kernel_rfl
theorem ayv:prog.cellsOf 266 = 8:=by kernel_rfl
theorem ayw{c:World}(g:laidMetH prog ake c):gz c:=by
 rw[MakeChecks.laidMetH_plain _ _ _ (by kernel_rfl)]at g;have h : Lib.TabIs prog c "signatory/digest.start" .u32 [1779033703, 3144134277, 1013904242, 2773480762, 1359893119, 2600822924, 528734635, 1541459225] :=
  Lib.tabIs_of_head akg ayt underlying266 underlying143 akh ayv g
 have hn : Lib.TabIs prog c "signatory/digest.numbers" .u32 (Oi.map λ(i : Nat)=>(i : Int)):=
  Lib.tabIs_of_head akf ays underlying274 underlying143 akh ayu (laidMet.tail g)
 refine⟨λb f=>?_,λb f=>?_⟩
 ·have:=hn.cell akf b (by simpa [Oi] using f);rw[this]
  congr 2
  simp[K6,List.getD,show b<Oi.length from by simpa [Oi] using f]
 ·have:=h.cell akg b (by simpa using f);rw[this];have:b=0\/b=1\/b=2\/b=3\/b=4\/b=5\/b=6\/b=7:=by omega
  rcases this with rfl|rfl|rfl|rfl|rfl|rfl|rfl|rfl<;>rfl
theorem ayx(b:Os)(args:Array Value):laidMetH prog ake ((World.doorLaid prog 4000 b).forCall (λ_ _=>0) ⟨#[],args,[]⟩).memory:=
 laidMetH_of_parts3 (fuel:=8) (laidMet_of_run' 8 (by kernel_rfl) (by kernel_rfl)) (by kernel_rfl) (by kernel_rfl)
section
variable {d:Type} {e:TypeId×Value->d} {c:World}
theorem aki{b:Int}(f:(Lit.int .u16 b).wf=true):0<=b/\b<65536:=by
 simp[Lit.wf,IntKind.min,IntKind.max,IntKind.signed,IntKind.bits]at f;omega
theorem ayy:prog.cellsOf 5 = 1:=by kernel_rfl
theorem ayz{k:Value}{M:DataW d}{I:List MemPlace}(F:∃f i p,k=.slice f i p)(n:DataW.Trod e prog c 0 (λ_=>true) true 28 k M I):∃f i p,k=.slice f i p/\(i<=300->∃q:aO,q.length=i/\fC c k q):=by
 obtain⟨y,j,s,rfl⟩:=F;refine⟨y,j,s,rfl,λhn=>?_⟩;obtain⟨O,D⟩:=n;rcases open_ints underlying28 underlying5 ayy D with⟨g,-⟩|⟨f,N,S,l,g,-,u,Q,w,R,r,x⟩
 ·simp[Value.cells]at g;obtain⟨rfl,rfl,rfl⟩:=g;exact⟨[],rfl,none,0,rfl,aP _,by simp,by simp,λo n=>absurd n (fG _)⟩
 ·simp[Value.cells]at g;obtain⟨rfl,rfl,rfl⟩:=g;simp only[if_true]at w;have v:∀b∈l,0<=b/\b<256:=λb m=>Xi (x b m);have h:((l.take j).map Int.toNat).length=j:=by simp[w,u]
  refine⟨(l.take j).map Int.toNat,h,some f,s,by rw[h],by rw[h];exact u,by rw[h];omega,λT G=>?_,λo E=>?_⟩
  ·obtain⟨b,m,rfl⟩:=ey.1 G;have:=v b (FM m);omega
  ·rw[h]at E;have C:=r o (by omega);obtain⟨z,H,K⟩:=f;have L:K=none:=by
    have B:=N8 (r 0 (by omega));simpa [Addr.add] using B
   subst L;refine⟨z,H,rfl,?_⟩;rw[<-add_plain,C];have t:o<l.length:=by omega
   have P:=v _ (bM t);simp[List.getD,fw t];omega
end
