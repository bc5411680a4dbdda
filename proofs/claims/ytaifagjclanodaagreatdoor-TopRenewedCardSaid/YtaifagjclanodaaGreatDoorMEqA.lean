/- Package equal: powers, products and challenges. -/
import Derived.Test.YtaifagjclanodaaGreatDoorMCodD
import Derived.Test.YtaifagjclanodaaGreatDoorMHash
import Derived.Deep.RegionWith
set_option maxHeartbeats 2000000
set_option maxRecDepth 100000
namespace Go.Proofs.YtaifagjclanodaaGreatDoor
open Go.Proofs.Tryz
open Go.RowKit FP
variable{h:Array Value}{e:Bool}{g:FuncId}{dealer key row:Int}{f:Nat}{b w':World}
theorem Jk(a c:Int)(b:World)(ha:El a)(hn:aN c):
  Calls prog 157 #[a,c] b λd w'=>d=.returned (bm a c:Int)/\Below b b w':=by
 go_enter func157,ntmps157;go_wp2_with fail;with_reducible refine(vf a c _ ha hn).mono ?_
 rintro d j ⟨rfl,i⟩;go_wp2_with fail;go_ret;exact⟨rfl,i⟩
theorem agk(q:Value)(a e:Int)(b:World)(t:aM b q [a,e])(ha:El a)(u:El e):
  Calls prog 198 #[q] b λk w'=>k=.returned (a*e%2147483579:Int)/\b=w':=by
 obtain⟨x,h,rfl,D,C,-,i⟩:=t;obtain⟨m,p,rfl,n⟩:=i 0 (by simp);obtain⟨y,E,v,o⟩:=i 1 (by simp);cases v;have z:b.cell? (m,p)=a:=n;have B:b.cell? (m,p+1)=e:=o;have d:=ha.num;have r:Hid (1*a%2147483579=a):=A (by rw[Hy,N4 d.1 d.2]);clear i n o d;obtain⟨l,s⟩:=aR ha u;go_enter func198,ntmps198;go_wp2_with fail;go_loop [3,8] (λj c=>(c=(0:Int)/\j=(1:Int))\/(c=(1:Int)/\j=a)\/(c=(2:Int)/\j=(a*e%2147483579:Int))) (λ_ c=>2-(intOf c).toNat);case atStart=>exact .inl ⟨rfl,rfl⟩
 case round =>
  rcases hrel with⟨rfl,rfl⟩|⟨rfl,rfl⟩|⟨rfl,rfl⟩
  ·go_wp2_with fail;with_reducible refine(Ej 1 a _ LG l.1).mono ?_
   rintro k w ⟨rfl,rfl⟩;rw[r.1];go_wp2_with fail;go_round;case rel=>exact .inr (.inl ⟨rfl,rfl⟩)
   case measure=>simp[intOf]
  ·go_wp2_with fail;with_reducible refine(Ej a e _ l.1 s.1).mono ?_
   rintro k w ⟨rfl,rfl⟩;go_wp2_with fail;go_round;case rel=>exact .inr (.inr ⟨rfl,rfl⟩)
   case measure=>simp[intOf]
  ·go_wp2_with fail;go_ret;exact⟨rfl,rfl⟩
def agl:ByteArray:=⟨#[101,113,117,97,108]⟩
def P3:ByteArray:=⟨#[101,113,117,97,108,32,110,111,110,99,101]⟩
def CY(key a c d i:Int):Int:=uz (fp agl) (sn [key,a,c,d,i])
theorem aqD(key a c d i:Int):0<=CY key a c d i/\CY key a c d i<1073741789:=PV _ _
theorem UF(b:World)(a:V)(k:TypeId)(c:Nat)(d:b.heap.size=c)(j:∀z∈a,aN z)(l:a.length<=1000):aM (b.alloc (.cells (a.map (Value.int .i64)).toArray k)) (.slice (c,0) a.length a.length) a:=by
 subst d;refine⟨_,_,rfl,aP _,by omega,j,λm i=>⟨_,_,rfl,?_⟩⟩;rw[iN];exact Y (World.alloc_heap_new b _) (by simp[i])
theorem agm(key a c d i:Int)(b:World)(m:∀z∈[key,a,c,d,i],aN z)(r:gz b):
  Calls prog 159 #[key,a,c,d,i] b λj w'=>j=.returned (CY key a c d i:Int)/\Below b b w':=by
 have s:=A (UF b [key,a,c,d,i] 3 b.heap.size rfl m (by simp));have q:=bk b #[key,a,c,d,i] 3;go_enter func159,ntmps159;go_wp2_with fail;refine(agf _ [key,a,c,d,i] _ s.1 (by simp)).mono ?_;rintro j u ⟨t,rfl,k,p⟩;have l:=ar q p;have n:=A k;clear k;go_wp2_with fail;refine(PW agl t (sn [key,a,c,d,i]) _ (by decide) n.1 (Z4 _) (by have:=Un m (by simp);simp at this;omega) (r.below l)).mono ?_;rintro j v ⟨rfl,o⟩;go_wp2_with fail;go_ret;exact⟨rfl,ar l o⟩
def sw(a:Int):Bool:=decide (0<=a)&&decide (a<1073741789)
theorem UG{a:Int}:sw a=true↔0<=a/\a<1073741789:=by unfold sw;rw[cu,fU,fU]
theorem agn(a:Int)(b:World)(hn:aN a):
  Calls prog 196 #[a] b λi w'=>i=.returned (.bool (sw a))/\b=w':=by
 obtain⟨j,k⟩:=hn;by_cases d:0<=a
 ·have c:=A (show sw a=decide (a<1073741789) by unfold sw;rw[bB d,jY]);go_enter func196,ntmps196;go_wp2_with fail;go_ret;exact⟨cg c.1.symm,rfl⟩
 ·have c:=A (show sw a=false by unfold sw;rw[bw d,uP]);go_enter func196,ntmps196;go_wp2_with fail;go_ret;exact⟨cg c.1.symm,rfl⟩
theorem aqE(o m n:Nat)(key c l:Int)(b:World)(r:aN key)(ha:aN c)(q:aN l)(s:b.cell? (o,0)=key)(t:b.cell? (m,0)=c)(u:b.cell? (n,0)=l):
  Calls prog 194 #[(o,0),(m,0),(n,0)] b λj w'=>j=.returned (.bool (eA key&&(eA c&&eA l)))/\b=w':=by
 go_enter func194,ntmps194;go_wp2_with fail;with_reducible refine(tf _ _ r).mono ?_
 rintro j p ⟨rfl,rfl⟩;cases d:eA key with
 |false =>
  have a:=A d;clear d;go_wp2_with fail;go_ret;exact⟨cg (by rw[a.1];rfl),rfl⟩
 |true =>
  have a:=A d;clear d;go_wp2_with fail;with_reducible refine(tf _ _ ha).mono ?_
  rintro j p ⟨rfl,rfl⟩;cases i:eA c with
  |false =>
   have k:=A i;clear i;go_wp2_with fail;go_ret;exact⟨cg (by rw[a.1,k.1];rfl),rfl⟩
  |true =>
   have k:=A i;clear i;go_wp2_with fail;with_reducible refine(tf _ _ q).mono ?_
   rintro j p ⟨rfl,rfl⟩;go_wp2_with fail;go_ret;exact⟨cg (by rw[a.1,k.1,jY,jY]),rfl⟩
theorem aqF(j:Nat)(a i:Int)(b:World)(l:aN a)(m:aN i)(o:b.cell? (j,0)=a)(p:b.cell? (j,1)=i):
  Calls prog 195 #[(j,0)] b λk w'=>k=.returned (.bool (sw a&&sw i))/\b=w':=by
 go_enter func195,ntmps195;go_wp2_with fail;with_reducible refine(agn _ _ l).mono ?_
 rintro k n ⟨rfl,rfl⟩;cases c:sw a with
 |false =>
  have d:=A c;clear c;go_wp2_with fail;go_ret;exact⟨cg (by rw[d.1];rfl),rfl⟩
 |true =>
  have d:=A c;clear c;go_wp2_with fail;with_reducible refine(agn _ _ m).mono ?_
  rintro k n ⟨rfl,rfl⟩;go_wp2_with fail;go_ret;exact⟨cg (by rw[d.1,jY]),rfl⟩
theorem aal(b:World)(a c:Int)(j:TypeId)(d:Nat)(k:b.heap.size=d)(l:aN a)(m:aN c):aM (b.alloc (.cells #[a,c] j)) (.slice (d,0) 2 2) [a,c]:=
 UF b [a,c] j d k (by intro n i;simp at i;rcases i with rfl|rfl;exact l;exact m) (by simp)
theorem aqG(j m k l:Nat)(key d i a c:Int)(b:World)(z:El key)(ha:El d)(y:El i)(hE:0<=a/\a<1073741789)(hS:0<=c/\c<1073741789)
  (p0:b.cell? (j,0)=a) (p1:b.cell? (j,1)=c) (c0:b.cell? (m,0)=key) (c1:b.cell? (k,0)=d) (c2:b.cell? (l,0)=i) (hG:gz b):
  Calls prog 197 #[(j,0),(m,0),(k,0),(l,0)] b λn w'=>n=.returned (.bool (a==CY key d i (rE key a c) (sE d i a c)))/\Below b b w':=by
 obtain⟨E1,E2⟩:=hE;obtain⟨S1,S2⟩:=hS;have F:aN (-a):=⟨by omega,by omega⟩;have G:aN c:=⟨by omega,by omega⟩;have hwE:=jw (-a) (by omega);have H:=fJ fO c;have I:=fJ z (-a);have K:=fJ ha c;have L:=fJ y (-a);obtain⟨D,B⟩:=aK (rE key a c);have R:Hid (bm 4 c*bm key (-a)%2147483579=D):=A B.symm;obtain⟨E,C⟩:=aK (sE d i a c);have Q:Hid (bm d c*bm i (-a)%2147483579=E):=A C.symm;have kB:aN D:=by rw[B];exact(aoh z a c).r64
 have Td:aN E:=by rw[C];exact(aoi ha y a c).r64
 rw[<-B,<-C];have HC:=A (show ∀Z∈[key,d,i,D,E],aN Z by intro Z X;simp at X;rcases X with rfl|rfl|rfl|rfl|rfl;exact z.r64;exact ha.r64;exact y.r64;exact kB;exact Td);clear B C;go_enter func197,ntmps197;go_wp2_with fail;go_region_held3 (λw'=>w'.cell? (j,0)=a/\w'.cell? (j,1)=c/\w'.cell? (m,0)=key/\w'.cell? (k,0)=d/\w'.cell? (l,0)=i) (go_keep)
  (first
   |(go_at_call 157;(with_reducible refine(Jk 4 c _ fO G).mono ?_);rintro n t ⟨rfl,o⟩;have azq:t.cell? (j,0)=a:=U o (by first|assumption|exact U (bk _ _ _) (by assumption));have azr:t.cell? (j,1)=c:=U o (by first|assumption|exact U (bk _ _ _) (by assumption));have azs:t.cell? (m,0)=key:=U o (by first|assumption|exact U (bk _ _ _) (by assumption));have azt:t.cell? (k,0)=d:=U o (by first|assumption|exact U (bk _ _ _) (by assumption));have azu:t.cell? (l,0)=i:=U o (by first|assumption|exact U (bk _ _ _) (by assumption)))
   |(go_at_call 157;(with_reducible refine(Jk key (-a) _ z F).mono ?_);rintro n w ⟨rfl,r⟩;have azv:w.cell? (j,0)=a:=U r (by first|assumption|exact U (bk _ _ _) (by assumption));have azw:w.cell? (j,1)=c:=U r (by first|assumption|exact U (bk _ _ _) (by assumption));have azx:w.cell? (m,0)=key:=U r (by first|assumption|exact U (bk _ _ _) (by assumption));have azy:w.cell? (k,0)=d:=U r (by first|assumption|exact U (bk _ _ _) (by assumption));have azz:w.cell? (l,0)=i:=U r (by first|assumption|exact U (bk _ _ _) (by assumption)))
   |(go_at_call 157;(with_reducible refine(Jk d c _ ha G).mono ?_);rintro n x ⟨rfl,q⟩;have azA:x.cell? (j,0)=a:=U q (by first|assumption|exact U (bk _ _ _) (by assumption));have azB:x.cell? (j,1)=c:=U q (by first|assumption|exact U (bk _ _ _) (by assumption));have azC:x.cell? (m,0)=key:=U q (by first|assumption|exact U (bk _ _ _) (by assumption));have azD:x.cell? (k,0)=d:=U q (by first|assumption|exact U (bk _ _ _) (by assumption));have azE:x.cell? (l,0)=i:=U q (by first|assumption|exact U (bk _ _ _) (by assumption)))
   |(go_at_call 157;(with_reducible refine(Jk i (-a) _ y F).mono ?_);rintro n u ⟨rfl,p⟩;have azF:u.cell? (j,0)=a:=U p (by first|assumption|exact U (bk _ _ _) (by assumption));have azG:u.cell? (j,1)=c:=U p (by first|assumption|exact U (bk _ _ _) (by assumption));have azH:u.cell? (m,0)=key:=U p (by first|assumption|exact U (bk _ _ _) (by assumption));have azI:u.cell? (k,0)=d:=U p (by first|assumption|exact U (bk _ _ _) (by assumption));have azJ:u.cell? (l,0)=i:=U p (by first|assumption|exact U (bk _ _ _) (by assumption)))
   |(go_at_call 198;(refine(agk _ (bm 4 c) (bm key (-a)) _ (aal _ _ _ _ _ rfl H.r64 I.r64) H I).mono ?_);rintro n pg ⟨rfl,rfl⟩)
   |(go_at_call 198;(refine(agk _ (bm d c) (bm i (-a)) _ (aal _ _ _ _ _ rfl K.r64 L.r64) K L).mono ?_);rintro n sx ⟨rfl,rfl⟩))
 rw[R.1,Q.1];clear R Q H I K L hwE F G;have S:Below b b t:=(aY _ _).drew.trans o;have M:=ar S r;have T:=M.alloc M.size (.cells #[(bm 4 c:Int),(bm key (-a):Int)] 3);have W:=ar T q;have N:=ar W p;have s:=N.alloc N.size (.cells #[(bm d c:Int),(bm i (-a):Int)] 3);generalize u.alloc (.cells #[(bm d c:Int),(bm i (-a):Int)] 3)=W5 at *;have q0:=U s p0;have q2:=U s c0;have q3:=U s c1;have q4:=U s c2;have O:=hG.below s;have oe:Hid (gz W5.drew):=A ⟨O.num,O.sta⟩;have P:=A s;clear S M T W N o r q p s O;go_wp2_with fail;go_region_held3 (λw'=>w'.cell? (j,0)=a/\w'.cell? (m,0)=key/\w'.cell? (k,0)=d/\w'.cell? (l,0)=i) (go_keep)
  (first
   |(go_at_call 159;(with_reducible refine(agm key d i D E _ HC.1 oe.1).mono ?_);rintro n EK ⟨rfl,v⟩;have t0:=U v q0;have t1:=U v q2;have t2:=U v q3;have t3:=U v q4))
 go_wp2_with fail;go_ret;exact⟨rfl,P.1.trans (((aY _ _).drew.trans v).mono P.1.size)⟩
def yN(key d i a c:Int):Bool:=(eA key&&(eA d&&eA i))&&((sw a&&sw c)&&(a==CY key d i (rE key a c) (sE d i a c)))
structure P5(b:World)(key a d i j:Int)(c:World):Prop where
 be:Below b b c
 k:c.cell? (b,0)=key
 a:c.cell? (b.heap.size+1,0)=a
 d:c.cell? (b.heap.size+1+1,0)=d
 p0:c.cell? (b.heap.size+1+1+1,0)=i
 p1:c.cell? (b.heap.size+1+1+1,1)=j
 f0:c.cell? (b.heap.size+1+1+1+1,0)=some (.func (.func 194) #[] #[(b,0),(b.heap.size+1,0),(b.heap.size+1+1,0)])
 f1:c.cell? (b.heap.size+1+1+1+1,1)=some (.func (.func 195) #[] #[(b.heap.size+1+1+1,0)])
 f2:c.cell? (b.heap.size+1+1+1+1,2)=some (.func (.func 197) #[] #[(b.heap.size+1+1+1,0),(b,0),(b.heap.size+1,0),(b.heap.size+1+1,0)])
theorem P5.below{l m i j:Int}{d k:World}(c:P5 b key l m i j d)(a:Below d d k):P5 b key l m i j k:=
 ⟨ar c.be a,U a c.k,U a c.a,U a c.d,U a c.p0,U a c.p1,U a c.f0,U a c.f1,U a c.f2⟩
theorem aqH(key c d a i:Int)(b:World)(R:aN key)(ha:aN c)(Q:aN d)(N:aN a)(P:aN i)(O:gz b):
  Calls prog 163 #[key,c,d,.agg #[a,i]] b λo w'=>o=.returned (.bool (yN key c d a i))/\Below b b w':=by
 go_enter func163,ntmps163;go_wp2_with fail;have y:P5 b key c d a i (((((b.alloc (.cells #[key] 3)).alloc (.cells #[c] 3)).alloc (.cells #[d] 3)).alloc (.cells #[a,i] 90)).alloc (.cells #[.func (.func 194) #[] #[(b,0),(b.heap.size+1,0),(b.heap.size+1+1,0)],.func (.func 195) #[] #[(b.heap.size+1+1+1,0)],.func (.func 197) #[] #[(b.heap.size+1+1+1,0),(b,0),(b.heap.size+1,0),(b.heap.size+1+1,0)]] 173)):=by
  refine⟨by repeat (first|exact aY _ _|refine tZ ?_ (by simp;try omega) _),?_,?_,?_,?_,?_,?_,?_,?_⟩<;>simp[go_sem]
 go_loopw[16] (λl M=>P5 b key c d a i M/\((l=(0:Int))\/(l=(1:Int)/\(eA key&&(eA c&&eA d))=true)\/(l=(2:Int)/\(eA key&&(eA c&&eA d))=true/\(sw a&&sw i)=true)\/(l=(3:Int)/\yN key c d a i=true))) (λl _=>3-(intOf l).toNat);case atStart=>exact⟨y,.inl rfl⟩
 case round =>
  clear y;obtain⟨q,S⟩:=hrel;obtain⟨m,v,t,u,w,x,T,W,X⟩:=id q;have p:=A q;clear q;rcases S with rfl|⟨rfl,t1⟩|⟨rfl,t1,t2⟩|⟨rfl,G⟩
  ·go_wp2_with fail;refine(aqE _ _ _ key c d _ R ha Q v t u).mono ?_;rintro o H ⟨rfl,rfl⟩;cases j:(eA key&&(eA c&&eA d)) with
   |false =>
    have k:=A j;clear j;go_wp2_with fail;go_ret;exact⟨cg (by unfold yN;rw[k.1];rfl),m⟩
   |true =>
    have k:=A j;clear j;go_wp2_with fail;go_roundw;case rel=>exact⟨p.1,.inr (.inl ⟨rfl,k.1⟩)⟩
    case measure=>simp[intOf]
  ·have n:=A t1;clear t1;go_wp2_with fail;refine(aqF _ a i _ N P w x).mono ?_;rintro o H ⟨rfl,rfl⟩;cases j:(sw a&&sw i) with
   |false =>
    have k:=A j;clear j;go_wp2_with fail;go_ret;exact⟨cg (by unfold yN;rw[k.1,n.1];rfl),m⟩
   |true =>
    have k:=A j;clear j;go_wp2_with fail;go_roundw;case rel=>exact⟨p.1,.inr (.inr (.inl ⟨rfl,n.1,k.1⟩))⟩
    case measure=>simp[intOf]
  ·obtain⟨n,K⟩:=aR t1 t2;rw[cu,cu,oU,oU,oU]at t1;rw[cu,UG,UG]at t2;obtain⟨B,C,D⟩:=t1;obtain⟨E,F⟩:=t2;have z:=O.below m;have I:=A (aqG _ _ _ _ key c d a i wr B C D E F w x v t u z);clear B C D E F z;go_wp2_with fail;refine I.1.mono ?_;rintro o H ⟨rfl,s⟩;have r:=A (show yN key c d a i=(a==CY key c d (rE key a i) (sE c d a i)) by unfold yN;rw[n.1,K.1,jY,jY]);cases j:(a==CY key c d (rE key a i) (sE c d a i)) with
   |false =>
    have k:=A j;clear j;go_wp2_with fail;go_ret;exact⟨cg (by rw[r.1,k.1]),ar m s⟩
   |true =>
    have k:=A j;clear j;go_wp2_with fail;go_roundw;case rel=>exact⟨p.1.below s,.inr (.inr (.inr ⟨rfl,by rw[r.1,k.1]⟩))⟩
    case measure=>simp[intOf]
  ·have L:=A G;clear G;go_wp2_with fail;go_ret;exact⟨cg L.1.symm,m⟩
def xh(c a:Int):Int:=max 1 (uz (fp P3) (sn [c,a]))
def tw(c a:Int):Int:=CY (bm 4 c) a (bm a c) (bm 4 (xh c a)) (bm a (xh c a))
def yO(a c:Int):Int:=(xh a c+tw a c*a)%1073741789
theorem aqI(c a:Int):1<=xh c a/\xh c a<1073741789:=by
 unfold xh;have:=PV (fp P3) (sn [c,a]);omega
theorem aao(c a:Int):0<=tw c a/\tw c a<1073741789:=aqD _ _ _ _ _
theorem ago(c a:Int):0<=yO c a/\yO c a<1073741789:=by unfold yO;omega
theorem aqJ(b:World)(c:TypeId):∃a,a=b.alloc (.cells #[(0:Int),(0:Int)] c)/\Below b b a/\a.heap[b.heap.size]?=QC.mk #[(0:Int),(0:Int)] c:=
 ⟨_,rfl,bk _ _ _,World.alloc_heap_new _ _⟩
theorem aqK(a c:Int)(b:World)(h1:1<=a)(h2:a<1073741789)(ha:El c)(R:gz b):
  Calls prog 85 #[a,c] b λd w'=>d=.returned (.tuple #[(bm c a:Int),.agg #[(tw a c:Int),(yO a c:Int)],(0:Int)])/\Below b b w':=by
 obtain⟨W1,F,N,G⟩:=aqJ b 90;have bp:=A F;clear F;have o:aN a:=⟨by omega,by omega⟩;obtain⟨n1,n2⟩:=aqI a c;have I:aN (xh a c):=⟨by omega,by omega⟩;have UJ:Hid (max 1 (uz (fp P3) (sn [a,c]))=xh a c):=A rfl;obtain⟨X,E2⟩:=aao a c;have HEV:Hid (CY (bm 4 a) c (bm c a) (bm 4 (xh a c)) (bm c (xh a c))=tw a c):=A rfl;have HSV:Hid ((xh a c+tw a c*a)%1073741789=yO a c):=A rfl;have l:0<=tw a c*a:=Sw X (by omega);have B:tw a c*a<=1073741789*1073741789:=Sx (by omega) (by omega) (by omega) (by omega);have IY:=A l;have Z:Hid (tw a c*a<=1152921429444920521):=A (by omega);generalize xh a c=i at *;generalize tw a c=m at *;generalize yO a c=n at *;clear l B;go_enter func85,ntmps85;go_wp2_with fail;rw[<-bp.1];with_reducible refine(vf c a _ ha o).mono ?_
 rintro d w2 ⟨rfl,v⟩;have H:=ar N v;go_wp2_with fail;with_reducible refine(Jk 4 a _ fO o).mono ?_
 rintro d w3 ⟨rfl,t⟩;have s:=ar H t;go_wp2_with fail;refine(agf _ [a,c] _ (aal _ a c _ _ rfl o ha.r64) (by simp)).mono ?_;rintro d w4 ⟨v4,rfl,D,r⟩;have O:=(s.alloc s.size (.cells #[a,c] 3));have x:=ar O r;have E:=A D;clear D;go_wp2_with fail;refine(PW P3 v4 (sn [a,c]) _ (by decide) E.1 (Z4 _) (by have:=Un (c:=[a,c]) (by intro C k;simp at k;rcases k with rfl|rfl;exact o;exact ha.r64) (by simp);simp at this;omega) (R.below x)).mono ?_;rintro d w5 ⟨rfl,w⟩;have P:=ar x w;generalize uz (fp P3) (sn [a,c])=hh at *;have T:w5.heap[b.heap.size]?=QC.mk #[(0:Int),(0:Int)] 90:=by
  have e1:=az v G;have Q:=az t e1;have e3:=((bk w3 #[a,c] 3).block _ (bG Q)).trans Q;have e4:=az r e3;exact az w e4
 clear G N v H t s r O x w E;go_wp2_with fail;rw[UJ.1];with_reducible refine(Jk 4 i _ fO I).mono ?_
 rintro d w6 ⟨rfl,y⟩;have S:=ar P y;have K:=az y T;clear T y;go_wp2_with fail;with_reducible refine(Jk c i _ ha I).mono ?_
 rintro d w7 ⟨rfl,q⟩;have p:=ar S q;have L:=az q K;have M:=R.below p;have vm:=A (show ∀C∈[bm 4 a,c,bm c a,bm 4 i,bm c i],aN C by intro C k;simp at k;rcases k with rfl|rfl|rfl|rfl|rfl;exact(fJ fO a).r64;exact ha.r64;exact(fJ ha a).r64;exact(fJ fO i).r64;exact(fJ ha i).r64);clear K q S P;go_wp2_with fail;with_reducible refine(agm _ _ _ _ _ _ vm.1 M).mono ?_
 rintro d W ⟨rfl,z⟩;rw[HEV.1];have aqL:=ar p z;have j:=az z L;have c0:W.cell? (b,0)=(0:Int):=Y j rfl;have c1:W.cell? (b,1)=(0:Int):=Y j rfl;obtain⟨f0,f1⟩:=A2 j;have u:=cK (cK (cK (cK j 0 m) 1 n) 0 m) 1 n;obtain⟨d0,d1⟩:=aR (Y u (k:=0) (d:=m) rfl) (Y u (k:=1) (d:=n) rfl);clear L z p M j u;have l:=IY.1;have B:=Z.1;go_wp2_with fail;rw[HSV.1];clear l B;go_region_with (fail);all_goals
  go_wp2_with fail;refine gB (v:=.tuple #[(bm c a:Int),.agg #[m,n],(0:Int)]) (by simp[results,results85,go_sem,d0.1,d1.1]) rfl ⟨rfl,?_⟩;repeat (first|exact aqL|refine A1 ?_|refine zR ?_ (by simp) _|refine tZ ?_ (by simp) _)
def ags:ByteArray:=⟨#[112,97,100]⟩
def EM(a dealer row:Int):Int:=uz (fp ags) (sn [a,dealer,row])
theorem aaq(a dealer row:Int):0<=EM a dealer row/\EM a dealer row<1073741789:=PV _ _
def qi:List (Bool×Int)->Int
 |[]=>0
 |(true,_)::a=>qi a
 |(false,c)::_=>c
def uA(row c a:Int):Bool:=ct row 0 63&&(eA c&&ct a 0 1073741788)
theorem aqM(row c a:Int):(qi [(ct row 0 63,350),(eA c,350),(ct a 0 1073741788,350)]==0)=uA row c a:=by
 unfold uA;cases ct row 0 63<;>cases eA c<;>cases ct a 0 1073741788<;>rfl
def aar(a key dealer row c:Int):Int:=qi [(ct a 1 1073741788,110),(eA key,100),(ct dealer 0 63,1),(ct row 0 63,1),(ct c 0 1073741788,350)]
def CZ(d dealer row c a:Int):Int:=qi [(ct d 1 1073741788,110),(ct dealer 0 63,1),(uA row c a,350)]
def BD(c dealer row d a:Int):Int:=qi [(eA c,100),(ct dealer 0 63,1),(uA row d a,350)]
structure aas(u key dealer row value:Int):Prop where
 u:1<=u/\u<=1073741788
 key:El key
 dealer:0<=dealer/\dealer<=63
 row:0<=row/\row<=63
 value:0<=value/\value<=1073741788
structure Jl(row pt c:Int):Prop where
 row:0<=row/\row<=63
 pt:El pt
 c:0<=c/\c<=1073741788
theorem agt{d a:Int}:uA row d a=true↔Jl row d a:=by
 unfold uA;rw[cu,cu,jo,oU,jo];exact⟨λ⟨c,e,a⟩=>⟨c,e,a⟩,λ⟨c,e,a⟩=>⟨c,e,a⟩⟩
theorem aqN{a c:Int}:aar a key dealer row c=0↔aas a key dealer row c:=by
 have l:aar a key dealer row c=0↔ct a 1 1073741788=true/\eA key=true/\ct dealer 0 63=true/\ct row 0 63=true/\ct c 0 1073741788=true:=by
  unfold aar;cases ct a 1 1073741788<;>cases eA key<;>cases ct dealer 0 63<;>cases ct row 0 63<;>cases ct c 0 1073741788<;>simp[qi]
 rw[l,jo,oU,jo,jo,jo];exact⟨λ⟨d,e,i,j,k⟩=>⟨d,e,i,j,k⟩,λ⟨d,e,i,j,k⟩=>⟨d,e,i,j,k⟩⟩
theorem UK{a d c:Int}:CZ a dealer row d c=0↔(1<=a/\a<=1073741788)/\(0<=dealer/\dealer<=63)/\Jl row d c:=by
 have i:CZ a dealer row d c=0↔ct a 1 1073741788=true/\ct dealer 0 63=true/\uA row d c=true:=by
  unfold CZ;cases ct a 1 1073741788<;>cases ct dealer 0 63<;>cases uA row d c<;>simp[qi]
 rw[i,jo,jo,agt]
theorem aat{c d a:Int}:BD c dealer row d a=0↔El c/\(0<=dealer/\dealer<=63)/\Jl row d a:=by
 have i:BD c dealer row d a=0↔eA c=true/\ct dealer 0 63=true/\uA row d a=true:=by
  unfold BD;cases eA c<;>cases ct dealer 0 63<;>cases uA row d a<;>simp[qi]
 rw[i,oU,jo,agt]
def sy(a key dealer row c:Int):Int:=(c+EM (bm key a) dealer row)%1073741789
def tx(c dealer row a:Int):Int:=(a-EM c dealer row+1073741789)%1073741789
theorem aau(a key dealer row c:Int):0<=sy a key dealer row c/\sy a key dealer row c<1073741789:=by unfold sy;omega
theorem aav(c dealer row a:Int):0<=tx c dealer row a/\tx c dealer row a<1073741789:=by unfold tx;omega
theorem aqO{c a:Int}(d:0<=a/\a<=1073741788):tx (bm key c) dealer row (sy c key dealer row a)=a:=by
 unfold tx sy;have:=aaq (bm key c) dealer row;omega
theorem aqP(c a:Int):bm (bm 4 c) a=bm (bm 4 a) c:=by
 rw[Gg fO,Gg fO,Hz]
theorem aqQ(N:Value)(a:V)(b:World)(hI:aM b N a)(hl:a.length<=1000):
  Calls prog 191 #[N] b λn w'=>∃O,n=.returned O/\fC w' O (sn a)/\Below b b w':=by
 obtain⟨z0,h,rfl,jC,hlen,I,H⟩:=hI;obtain⟨R,Q⟩:=aR I H;clear I H;go_enter func191,ntmps191;go_wp2_with fail;have K:Uu b a 0 (b.alloc (.cells #[(3:Int),(0:Int),.string ⟨#[]⟩,()] 72)):=⟨_,World.alloc_heap_new _ _,iv _ _ _ _,(aY _ _).alloc (aP _) _⟩;go_loopw[11] (λs Z=>∃c:Nat,c<=a.length/\s=c/\Uu b a c Z) (λs _=>a.length-(intOf s).toNat);case atStart=>exact⟨0,bS _,rfl,K⟩
 case round =>
  clear K;obtain⟨c,dg,rfl,o,d,j,q⟩:=hrel;have r:=bG d;by_cases B:c<a.length
  ·obtain⟨e,off,rfl,L⟩:=Q.1 c B;have c1:=U q L;have S:=A (show a.take c++[a[c]]=a.take (c+1) from(jv B).symm);generalize a[c]=v at *;have x3:wr.cell? (b,3)=some o:=Y d rfl;obtain⟨p,y,i,z⟩:=tm wr (1:Int) v (.string ⟨#[]⟩) () 72;have D:=A (dM j i);have lC:Hid (∀m u,(pj v)[m]?=some u->p.cell? ⟨wr.heap.size,m,none⟩=some u):=A (λm u G=>Y z (by
    match m with
    |0|1|2|3=>exact G
    |z1+4=>simp[pj]at G))
   obtain⟨dG,gZ⟩:=aR (pQ j (a:=b.heap.size) (.inr (by omega))) ((i.block _ r).trans d);have eF:Hid (b.heap.size<p.heap.size):=A (eJ r i.size);obtain⟨du,k⟩:=aR i y;have cU:c<=1000:=by omega
   have M:b.heap.size+1<=p.heap.size:=eJ r i.size;have E:=A M;clear L j d z i y M;go_wp2_with (refine age rfl _ _ rfl (b.heap.size+1) _ (a.take c) _ rfl (k.1▸D.1) wr.heap.size 1 v rfl (k.1▸lC.1) (by omega) (k.1▸E.1) ?_;rw[<-k.1];intro g8 uq w8 F t;have l:=(t.1.block _ eF.1 (λn=>dG.1 n.symm)).trans gZ.1;have y3:w8.cell? (b,3)=some o:=Y l rfl;have f3:=cB l 3;have W:=A l;have P:=A F;have X:=A t;clear l F t);go_roundw;case rel=>exact⟨c+1,by omega,by go_num,_,cK W.1 3 _,by
    refine nM ?_ (pO _) _;rw[<-S.1];exact P.1,((ar q du.1).trans (fH D.1 X.1.1 E.1 |>.mono (eP _))).setCell (aP _) _⟩
   case measure=>simp[intOf];omega
  ·have C:c=a.length:=by omega
   rw[C,m9]at j;have w:=A (Jh.own j R.1 (by omega));have x0:wr.cell? (b,0)=(3:Int):=Y d rfl;have x1:wr.cell? (b,1)=(0:Int):=Y d rfl;have x2:wr.cell? (b,2)=some (.string ⟨#[]⟩):=Y d rfl;have x3:wr.cell? (b,3)=some o:=Y d rfl;obtain⟨aL,cL,hLe,-⟩:=id w.1;subst hLe;clear j d C;go_wp2_with fail;refine(agb _ a _ w.1).mono ?_;rintro n w9 ⟨v9,rfl,x,bA⟩;have T:=A x;clear x;go_wp2_with fail;go_ret;exact⟨_,rfl,T.1,ar q bA⟩
theorem agu(a dealer row:Int)(b:World)(j:∀z∈[a,dealer,row],aN z)(o:gz b):
  Calls prog 149 #[a,dealer,row] b λc w'=>c=.returned (EM a dealer row:Int)/\Below b b w':=by
 have p:=A (UF b [a,dealer,row] 3 b.heap.size rfl j (by simp));have n:=bk b #[a,dealer,row] 3;go_enter func149,ntmps149;go_wp2_with fail;refine(aqQ _ [a,dealer,row] _ p.1 (by simp)).mono ?_;rintro c r ⟨q,rfl,d,m⟩;have i:=ar n m;have k:=A d;clear d;go_wp2_with fail;refine(PW ags q (sn [a,dealer,row]) _ (by decide) k.1 (Z4 _) (by have:=Un j (by simp);simp at this;omega) (o.below i)).mono ?_;rintro c s ⟨rfl,l⟩;go_wp2_with fail;go_ret;exact⟨rfl,ar i l⟩
structure gN(f:Nat)(b w':World):Prop where
 size:b.heap.size<=w'.heap.size
 block:∀k,f<=k->k<b.heap.size->w'.heap[k]?=b.heap[k]?
theorem gN.below(a:Below b b w'):gN f b w':=⟨a.size,λd _ c=>a.block d c⟩
theorem gN.trans{c e d:World}(a:gN f c e)(k:gN f e d):gN f c d:=
 ⟨bK a.size k.size,λl i j=>(k.block l i (eJ j a.size)).trans (a.block l i j)⟩
theorem gN.low{a:Nat}(c:gN f b w')(j:f<=a):gN a b w':=⟨c.size,λk d i=>c.block k (bK j d) i⟩
theorem gN.setCell(c:gN f b w'){e j:Nat}(l:e<f)(k:Value):gN f b (w'.setCell (e,j) k):=
 ⟨by simpa [World.setCell] using c.size,λa d i=>(dJ _ _ _ _ (by show a≠e;omega)).trans (c.block a d i)⟩
theorem gN.refl(f:Nat)(b:World):gN f b b:=⟨aP _,λ_ _ _=>rfl⟩
theorem gN.cell(j:gN f b w'){e c:Nat}{d:Value}(i:f<=e)(a:b.cell? (e,c)=some d):w'.cell? (e,c)=some d:=by
 have:=j.block e i (iO a);unfold World.cell? at a ⊢;rw[this];exact a
def tz(f:Nat)(b:World)(g:FuncId)(h:Array Value)(e:Bool):Prop:=
 eQ prog g/\∀w',gN f b w'->Calls prog g h w' λc a=>c=.returned (.bool e)/\Below w'.heap.size w' a
theorem tz.keep(a:tz f b g h e)(i:gN f b w'):tz f w' g h e:=
 ⟨a.1,λc d=>a.2 c (i.trans d)⟩
theorem tz.low{a:Nat}(c:tz a b g h e)(j:f<=a):tz f b g h e:=
 ⟨c.1,λd i=>c.2 d (i.low j)⟩
def P8(e:Bool)(c:Int)(b:World)(a:Ending)(w':World):Prop:=
 ∃g h,a=.returned (.agg #[.func (.func g) #[] h,.int .i64 c])/\tz b.heap.size w' g h e/\Below b.heap.size b w'
theorem aqR:eQ prog 190:=iw func190 (by kernel_rfl) rfl
theorem aqS:eQ prog 189:=iw func189 (by kernel_rfl) rfl
theorem aqT:eQ prog 192:=iw func192 (by kernel_rfl) rfl
theorem aqU(k l j:Nat)(a f c:Int)(b:World)(n:b.cell? (k,0)=f)(o:b.cell? (l,0)=a)(p:b.cell? (j,0)=c):
  Calls prog 190 #[(k,0),(l,0),(j,0)] b λm w'=>m=.returned (.bool (ct a f c))/\Below b b w':=by
 by_cases i:f<=a
 ·have d:=A (show ct a f c=decide (a<=c) by unfold ct;rw[bB i,jY]);go_enter func190,ntmps190;go_wp2_with fail;go_ret;exact⟨cg d.1.symm,aY _ _⟩
 ·have d:=A (show ct a f c=false by unfold ct;rw[bw i,uP]);go_enter func190,ntmps190;go_wp2_with fail;go_ret;exact⟨cg d.1.symm,aY _ _⟩
theorem aqV(c:Nat)(a:Int)(b:World)(hn:aN a)(i:b.cell? (c,0)=a):
  Calls prog 189 #[(c,0)] b λd w'=>d=.returned (.bool (eA a))/\Below b b w':=by
 go_enter func189,ntmps189;go_wp2_with fail;with_reducible refine(tf _ _ hn).mono ?_
 rintro d j ⟨rfl,rfl⟩;go_wp2_with fail;go_ret;exact⟨rfl,aY _ _⟩
theorem Mf(d f c i:Int)(b:World):
  Calls prog 148 #[d,f,c,i] b (P8 (ct d f c) i b):=by
 go_enter func148,ntmps148;go_wp2_with fail;refine gB (v:=.agg #[.func (.func 190) #[] #[(b.heap.size+1,0),(b,0),(b.heap.size+1+1,0)],i]) (by simp[results,results148,go_sem]) rfl ?_;refine⟨_,_,rfl,⟨aqR,λw' a=>?_⟩,?_⟩
 ·exact aqU _ _ _ d f c w' (a.cell (by omega) (by simp[go_sem])) (a.cell (by omega) (by simp[go_sem])) (a.cell (by omega) (by simp[go_sem]))
 ·repeat (first|exact aY _ _|refine zR ?_ (by simp;try omega) _|refine tZ ?_ (by simp;try omega) _|refine A1 ?_)
theorem UL(a c:Int)(b:World)(hn:aN a):
  Calls prog 146 #[a,c] b (P8 (eA a) c b):=by
 go_enter func146,ntmps146;go_wp2_with fail;refine gB (v:=.agg #[.func (.func 189) #[] #[(b,0)],c]) (by simp[results,results146,go_sem]) rfl ?_;refine⟨_,_,rfl,⟨aqS,λw' d=>?_⟩,?_⟩
 ·exact aqV _ a w' hn (d.cell (aP _) (by simp[go_sem]))
 ·repeat (first|exact aY _ _|refine zR ?_ (by simp;try omega) _|refine tZ ?_ (by simp;try omega) _|refine A1 ?_)
def UM(b:World)(j:Value)(a:List (Bool×Int)):Prop:=
 ∃e d i,j=.slice (some ⟨e,d,none⟩) a.length i/\a.length<=i/\a.length<=1000 /\
  ∀c (k:c<a.length),∃f g h,b.cell? ⟨e,d+c*2,none⟩=some (.func (.func g) #[] h)/\b.cell? ⟨e,d+c*2+1,none⟩=some (.int .i64 a[c].2)/\tz f b g h a[c].1
theorem aqW{a:List (Bool×Int)}(d:∀c∈a,c.1=true):qi a=0:=by
 induction a with
 |nil=>rfl
 |cons c m j =>
  obtain⟨e,l⟩:=c;have:e=true:=d (e,l) (by simp);subst this;exact j (λk i=>d k (by simp[i]))
theorem aqX{a:List (Bool×Int)}{k:Nat}(d:k<a.length)(j:∀c∈a.take k,c.1=true)(i:a[k].1=false):qi a=a[k].2:=by
 induction a generalizing k with
 |nil=>exact absurd d (fG _)
 |cons c p m =>
  obtain⟨e,o⟩:=c;cases k with
  |zero =>
   have:e=false:=i;subst this;rfl
  |succ k =>
   have:e=true:=j (e,o) (by simp);subst this;exact m (by simpa using d) (λn l=>j n (by simp[l])) i
theorem aqY(g:FuncId)(h:Array Value)(e:Bool)(i:Int)(f:Nat)(b:World)(a:tz f b g h e):
  Calls prog 188 #[.agg #[.func (.func g) #[] h,i]] b λd w'=>d=.returned (.bool (!e))/\Below b b w':=by
 have l:∀(args:Array Value) (b:World),(callFunc g args).run prog b=.ok (.enter g args) b:=a.1;have c:=A (bk b #[.func (.func g) #[] h,i] 214);have j:=A (a.2 _ (gN.below c.1));clear a;go_enter func188,ntmps188;go_wp2_with fail;refine j.1.mono ?_;rintro d m ⟨rfl,k⟩;go_wp2_with fail;go_ret;exact⟨rfl,ar c.1 k⟩
def aqZ(a:List (Bool×Int))(b:World)(c:Ending)(w':World):Prop:=
 ((∃g h,c=.returned (.tuple #[.agg #[.func (.func g) #[] h,.int .i64 (qi a)],.bool true]))\/(c=.returned (.tuple #[.agg #[.nilFunc,.int .i64 0],.bool false])/\qi a=0))/\Below b.heap.size b w'
theorem aq0(b:World)(c:TypeId):∃a,a=b.alloc (.cells #[.nilFunc,(0:Int)] c)/\Below b b a/\a.heap[b.heap.size]?=QC.mk #[.nilFunc,(0:Int)] c:=
 ⟨_,rfl,bk _ _ _,World.alloc_heap_new _ _⟩
theorem aq1(N:Value)(a:List (Bool×Int))(b:World)(hC:UM b N a):
  Calls prog 187 #[.func (.func 188) #[] #[],N] b (aqZ a b):=by
 obtain⟨e,off,z6,rfl,jC,hlen,I⟩:=hC;obtain⟨D,E,d,F⟩:=aq0 b 214;obtain⟨S,bp,q,G⟩:=cY I E d F;have j5:=λ(z2:Addr) (fn:Fn) (n z4:Array Value) (b:World)=>run_store prog b z2 (.func fn n z4) .plain rfl;clear I E d F;go_enter func187,ntmps187;go_wp2_with fail;rw[<-bp.1];go_loopw[10] (λz W=>∃c:Nat,c<=a.length/\z=c/\Hid (∀n∈a.take c,n.1=true)/\Below D D W) (λz _=>a.length-(intOf z).toNat);case atStart=>exact⟨0,bS _,rfl,A (by simp),aY _ _⟩
 case round =>
  obtain⟨c,dg,rfl,r,k⟩:=hrel;by_cases t:c<a.length
  ·obtain⟨f,g,h,K,L,M⟩:=S.1 c t;have p:=ar q.1 k;have c1:=U p K;have c2:=U p L;have R:=A (M.keep (gN.below p));obtain⟨i,y⟩:=aK (a[c].2);rw[<-y]at c2;have Q:=A y;have j:=az k G.1;obtain⟨w,H,o⟩:=bJ j (k.alloc k.size (.cells #[.func (.func g) #[] h,i] 214)) (aqY g h a[c].1 i f _ (R.1.keep (gN.below (bk wr #[.func (.func g) #[] h,i] 214))));have O:(wr.alloc (.cells #[.func (.func g) #[] h,i] 214)).cell? (wr,0)=some (.func (.func g) #[] h):=by simp[go_sem]
   have P:(wr.alloc (.cells #[.func (.func g) #[] h,i] 214)).cell? (wr,1)=i:=by simp[go_sem]
   obtain⟨X,Z⟩:=aR O P;clear K L M y j k p O P;cases l:a[c].1 with
   |true =>
    have T:=A (show ∀n∈a.take (c+1),n.1=true by
     rw[jv t];intro z5 hz;rcases lN.1 hz with C|C
     ·exact r.1 z5 C
     ·rw[jJ.1 C];exact l)
    rw[l]at o;clear l;go_wp2_with fail;refine o.1.mono ?_;rintro z3 B ⟨rfl,d⟩;go_wp2_with fail;go_roundw;case rel=>exact⟨c+1,by omega,by go_num,T,ar H.1 d⟩
    case measure=>simp[intOf];omega
   |false =>
    have s:=A (show qi a=i by rw[Q.1];exact aqX t r.1 l);rw[l]at o;clear l;go_wp2_with fail;refine o.1.mono ?_;rintro z3 B ⟨rfl,d⟩;have z0:=U d X.1;have z1:=U d Z.1;have m:=(d.block _ (eJ (bG w.1) (by simp))).trans (((bk wr #[.func (.func g) #[] h,i] 214).block _ (bG w.1)).trans w.1);have x0:B.cell? (b,0)=some .nilFunc:=Y m rfl;have x1:B.cell? (b,1)=(0:Int):=Y m rfl;obtain⟨f0,f1⟩:=A2 m;obtain⟨vj,qQ⟩:=aR m (q.1.trans ((ar H.1 d).mono q.1.size));clear m d;go_wp2_with fail;have x:=cK (cK vj.1 0 (.func (.func g) #[] h)) 1 i;obtain⟨u,v⟩:=ez x;refine gB (v:=.tuple #[.agg #[.func (.func g) #[] h,i],true]) (by simp[results,results187,go_sem,u,v]) rfl ?_;refine⟨.inl ⟨g,h,?_⟩,?_⟩
    ·rw[s.1]
    ·repeat (first|exact qQ.1|refine zR ?_ (by simp) _)
  ·have s:=A (show qi a=0 from aqW (by have:=r.1;rwa [zJ (by omega)]at this));have j:=az k G.1;have x0:wr.cell? (b,0)=some .nilFunc:=Y j rfl;have x1:wr.cell? (b,1)=(0:Int):=Y j rfl;obtain⟨f0,f1⟩:=A2 j;go_wp2_with fail;have x:=cK (cK j 0 .nilFunc) 1 (0:Int);obtain⟨u,v⟩:=ez x;refine gB (v:=.tuple #[.agg #[.nilFunc,(0:Int)],false]) (by simp[results,results187,go_sem,u,v]) rfl ?_;refine⟨.inr ⟨rfl,s.1⟩,?_⟩;have aJ:=ar q.1 k;repeat (first|exact aJ|refine zR ?_ (by simp) _)
theorem Mg(d:Value)(c:List (Bool×Int))(b:World)(j:UM b d c):
  Calls prog 144 #[d] b λk w'=>k=.returned (qi c:Int)/\Below b b w':=by
 go_enter func144,ntmps144;go_wp2_with fail;refine(aq1 d c b j).mono ?_;clear j;rintro k m ⟨⟨g,h,rfl⟩|⟨rfl,i⟩,a⟩
 ·go_wp2_with fail;go_ret;exact⟨rfl,by repeat (first|exact a|refine zR ?_ (by simp) _|refine tZ ?_ a.size _)⟩
 ·have l:=A i;clear i;go_wp2_with fail;go_ret;exact⟨fL l.1.symm,by repeat (first|exact a|refine zR ?_ (by simp) _|refine tZ ?_ a.size _)⟩
