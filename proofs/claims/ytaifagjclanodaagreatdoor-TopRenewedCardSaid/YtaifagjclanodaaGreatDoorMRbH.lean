/- The reference of rebuilding a share: Rows, Some. -/
import Derived.Test.YtaifagjclanodaaGreatDoorMRbD
import Derived.Test.YtaifagjclanodaaGreatDoorMMuA
import Derived.Test.YtaifagjclanodaaGreatDoorMDeT
set_option maxHeartbeats 8000000
set_option maxRecDepth 100000
namespace Go.Proofs.YtaifagjclanodaaGreatDoor
open Go.Proofs.Tryz
open Go.RowKit FP
variable{g:Int}{j:List Value}{c k f:Nat}{e d:V}{i a:ak}{b:bF}{h:gu}
def Qy(a:ak)(g:Int)(d:V):Bool:=(decide (0<=g)&&decide (g<(a.length:Int)))&&iU a g d
theorem asC{m l:Int}(n:m<l)(o:l<(f:Int))(p:l≠g):xi f g m l=true:=by
 unfold xi;rw[bB n,bB o,bB p];rfl
theorem asD(l:Qy a g d=true):(0<=g/\g<(a.length:Int))/\iU a g d=true:=by
 unfold Qy at l;simp only[cu,fU]at l;exact l
abbrev W3:V:=[0,1,2]
theorem asE{m:World}{n o:Nat}{r:TypeId}{l:Value}(s:m.ownsRow n r o l f j):∃p q,l=.slice p f q:=by
 rcases s.2 with⟨rfl,rfl⟩|⟨v,t,u,rfl,-⟩
 ·exact⟨_,_,rfl⟩
 ·exact⟨_,_,rfl⟩
theorem aa4:∀(b:V) (m:Int),b.foldl (λf l=>(f+l)%1073741789) m%1073741789=(m+gq b)%1073741789
 |[],m=>by show m%_=(m+0)%_;rw[Int.add_zero]
 |l::b,m=>by
  have p:=aa4 b ((m+l)%1073741789);have n:=aa4 b ((0+l)%1073741789);have o:gq (l::b)=b.foldl (λf l=>(f+l)%1073741789) ((0+l)%1073741789):=rfl;have q:=C2 (l::b);show b.foldl (λf l=>(f+l)%1073741789) ((m+l)%1073741789)%1073741789=_;rw[<-o]at n;omega
theorem aha(l:Int)(b:V):gq (l::b)=(l+gq b)%1073741789:=by
 have m:=aa4 b ((0+l)%1073741789);have n:gq (l::b)=b.foldl (λf l=>(f+l)%1073741789) ((0+l)%1073741789):=rfl;have o:=C2 (l::b);rw[<-n]at m;omega
theorem asF{b:V}(o:0<b.length)(l:Int):gq (b.set 0 ((J b 0+l)%1073741789))=(gq b+l)%1073741789:=by
 match b,o with
 |n::m,_ =>
  show gq ((n+l)%1073741789::m)=(gq (n::m)+l)%1073741789;rw[aha,aha];omega
theorem ahb{o p n m:Int}(t:0<=o/\o<1073741789)(u:0<=p/\p<64)(s:0<=n/\n<1073741789)(r:0<=m/\m<1073741789):GJ o p n [m]=(o*n%1073741789+m)%1073741789/\vD o p n [m]=0:=by
 have q:vD o p n [m]=0:=by
  rw[Vi,aA,aA]
  ·rintro(l|l|l)
   ·omega
   ·omega
   ·rw[IX s]at l;cases l
  ·rintro(l|l)
   ·rw[IX t]at l;cases l
   ·unfold sD at l;simp[IX r]at l
 refine⟨?_,q⟩;unfold GJ;rw[aD q];show(_+(0+m)%1073741789)%1073741789=_;omega
structure asG(a:ak)(n:V)(o:Int)(m:V)(g:Int)(d r q l:V)(s:Nat->Int):Prop where
 few:d.length<=64
 lenY:r.length=d.length
 azM:q.length=d.length
 azN:l.length=d.length
 numP:∀z∈l,0<=z/\z<1073741789
 azO:∀k,0<=J q k/\J q k<1073741789
 part:∀(c f:Nat),c<d.length->J d c=f->f<a.length/\GJ (J r c) f (s f) [J q c]=J l c/\vD (J r c) f (s f) [J q c]=0
 numY:∀c,c<d.length->0<=J r c/\J r c<1073741789
 idx:∀c,c<d.length->0<=J d c/\J d c<(a.length:Int)
 fin:yQ a n (bt (o::m)) g l=0/\tB a n (bt (o::m)) g l=true/\Jp a n (bt (o::m)) g l=g/\GK a n (bt (o::m)) g l=s g.toNat
 bad:∀p:Int,0<=p->p%1073741789≠0->0<d.length->yQ a n (bt (o::m)) g (l.set 0 ((J l 0+p)%1073741789))=0/\tB a n (bt (o::m)) g (l.set 0 ((J l 0+p)%1073741789))=false/\Jp a n (bt (o::m)) g (l.set 0 ((J l 0+p)%1073741789))=0/\GK a n (bt (o::m)) g (l.set 0 ((J l 0+p)%1073741789))=0
theorem ahc(l:c<d.length):J d c=d[c]:=di l
theorem ahd{o l n:V}{m:Int}(q:dU a o m l)(M:bH a o=0)(mI:Qy a g d=true)(Q:mR (gV a d) (a.getD g.toNat [])=true)(X:∀z∈n,0<=z/\z<1073741789):
  asG a o m l g d (fy (gV a d) (a.getD g.toNat [])) (ki d.length n d.length) (py (fy (gV a d) (a.getD g.toNat [])) (yR a (m::l) d) (ki d.length n d.length) d.length) (λf=>cz (a.getD f []) (m::l)):=by
 obtain⟨F,v⟩:=asD mI;have S:agM a o g d:=⟨q.prog,F,v⟩;have W:=aq9 q.prog v;obtain⟨pS,R⟩:=aaE q.prog F;have K:=UQ q.prog v;rw[<-pS]at K;have L:∀c,c<d.length->0<=J (fy (gV a d) (a.getD g.toNat [])) c/\J (fy (gV a d) (a.getD g.toNat [])) c<1073741789:=λc p=>Zl K R (by rw[C3];exact p);have D:∀c,c<d.length->0<=J d c/\J d c<(a.length:Int):=λc p=>by
  rw[ahc p];exact(aaD v _ (bM p)).1
 have I:∀k,0<=J (ki d.length n d.length) k/\J (ki d.length n d.length) k<1073741789:=λk=>aaz (agN _ _ X _) k;have u:=arf (e:=m::l) S Q (UR d.length n d.length) (arb d.length n);have E:iQ a o (bt (m::l)) g=0:=by
  unfold iQ;rw[LN (P9 q M),aA (by simp),aA (by omega)]
 have C:∀t:Int,0<=t/\t<1073741789->ke a o (bt (m::l)) g t=decide (t=cz (a.getD g.toNat []) (m::l)):=λt Z=>by
  have:=(Jn q M (k:=g.toNat) (by omega) Z).2;rwa [show((g.toNat:Nat):Int)=g by omega]at this
 have B:∀b:V,b.length=d.length->(∀z∈b,0<=z/\z<1073741789)->sD b=true:=λb G w=>by
  unfold sD;rw[bB (by omega),Pq w];rfl
 have CJ:=q.prog.few;refine⟨W,by rw[Pn,C3],UR _ _ _,Qb _ _ _ _,aaF _ _ _ _,I,?_,L,D,?_,?_⟩
 ·intro c f p hn;have G:=D c p;rw[hn]at G;have T:J (yR a (m::l) d) c=cz (a.getD f []) (m::l):=by
   have w:d[c]=f:=by rw[<-ahc p];exact hn
   unfold yR J;rw[tY,fw p,w];rfl
  have H:=ahb (o:=J (fy (gV a d) (a.getD g.toNat [])) c) (p:=f) (n:=cz (a.getD f []) (m::l)) (m:=J (ki d.length n d.length) c) (L c p) (by omega) (n6 _ _) (I c);refine⟨by omega,?_,H.2⟩;rw[H.1];unfold py;rw[IU _ _ p,T]
 ·have s:yQ a o (bt (m::l)) g (py (fy (gV a d) (a.getD g.toNat [])) (yR a (m::l) d) (ki d.length n d.length) d.length)=0:=by
   rw[aa0 E,aD (B _ (Qb _ _ _ _) (aaF _ _ _ _))]
  have r:tB a o (bt (m::l)) g (py (fy (gV a d) (a.getD g.toNat [])) (yR a (m::l) d) (ki d.length n d.length) d.length)=true:=by
   unfold tB;rw[s,C _ (C2 _),u];simp
  exact⟨s,r,(aa1 r).1,by rw[(aa1 r).2,u]⟩
 ·intro N bO hb sT;obtain⟨b,x⟩:∃b,b=(py (fy (gV a d) (a.getD g.toNat [])) (yR a (m::l) d) (ki d.length n d.length) d.length):=⟨_,rfl⟩;have P:b.length=d.length:=by rw[x];exact Qb _ _ _ _
  have O:∀z∈b,0<=z/\z<1073741789:=by rw[x];exact aaF _ _ _ _
  rw[<-x]at u ⊢;have s:yQ a o (bt (m::l)) g (b.set 0 ((J b 0+N)%1073741789))=0:=by
   rw[aa0 E,aD (B _ (by rw[Oe];exact P) (λz hz=>?_))];rcases List.mem_or_eq_of_mem_set hz with y|y
   ·exact O z y
   ·rw[y];omega
  have r:tB a o (bt (m::l)) g (b.set 0 ((J b 0+N)%1073741789))=false:=by
   unfold tB;rw[s,C _ (C2 _),asF (by omega),u];have:=n6 (a.getD g.toNat []) (m::l);simp;omega
  exact⟨s,r,Vk r⟩
def ks(a:ak)(l:Int)(e:V):Bool:=decide (0<=l)&&(decide (l<=64)&&fQ a e)
def My(a:ak)(e:V)(p:Int×Int):Bool:=bm 4 p.2==CK (a.getD p.1.toNat []) e
def kM(a:ak)(e:V)(b:bF):Bool:=jk a (-1) b&&b.all (My a e)
def Ax(a:ak)(e:V)(l:Int)(p:Int×Int):Bool:=jR a p.1 p.2&&(My a e p&&decide (l<p.1))
theorem Vm(m:k<b.length)(l:kM a e (b.take k)=true):kM a e (b.take (k+1))=Ax a e (mS (-1) (b.take k)) b[k]:=by
 unfold kM at l ⊢;rw[cu]at l;rw[Zx m,l.1,jY,jv m,List.all_append,l.2,jY];unfold Ax;simp only[List.all_cons,List.all_nil,Bool.and_true];cases jR a b[k].1 b[k].2<;>cases decide (mS (-1) (b.take k)<b[k].1)<;>cases My a e b[k]<;>rfl
theorem asH(l:kM a e b=true)(k:Nat):kM a e (b.take k)=true:=by
 unfold kM at l ⊢;rw[cu]at l ⊢;exact⟨Uc l.1 k,fg.2 λn m=>fg.1 l.2 n (FM m)⟩
theorem ahg(l:kM a e (b.take k)=false):kM a e b=false:=by
 cases m:kM a e b with
 |false=>rfl
 |true=>rw[asH m k]at l;cases l
theorem ahh(l:kM a e b=true):jk a (-1) b=true:=by
 unfold kM at l;rw[cu]at l;exact l.1
theorem Vn{n:V}{l m:Int}(p:jQ a n e=0):j9 a n e l m=(if jR a l m=true then 0 else 340)/\ke a n e l m=(jR a l m&&My a e (l,m)):=by
 have o:j9 a n e l m=(if jR a l m=true then 0 else 340):=by unfold j9;rw[aA (by simp[p])]
 refine⟨o,?_⟩;unfold ke;rw[o];cases q:jR a l m with
 |true=>rw[aD (by simp)];rfl
 |false=>rw[aA (by simp)];rfl
def gH(b:bF):V:=b.map Prod.fst
def E6(a:ak)(b:bF)(e:V)(l:bF):Bool:=fQ a e&&(J e 0==1&&(decide (gH l=gH b)&&kM a e l))
def E7(a:ak)(b:bF)(i:ak)(h:gu)(c:Nat):Bool:=E6 a b (i.getD c []) (h.getD c [])
def Ay(a:ak)(b:bF)(i:ak)(h:gu)(f:Nat):Bool:=(List.range f).all (E7 a b i h)
def Da(l m:bF)(c:Nat):Int×Int:=((l.getD c (0,0)).1,((l.getD c (0,0)).2+(m.getD c (0,0)).2)%1073741789)
def addS(l m:bF):bF:=(List.range l.length).map (Da l m)
def uG(b:bF)(h:gu):bF:=h.foldl addS b
def re(a:ak)(l:V)(m:Int)(e:V)(b:bF)(i:ak)(h:gu):Int:=
 if bH a l≠0 then bH a l
 else if ks a m e=false then 380
 else if m=64\/64<i.length then 2
 else if kM a e b=false then 340
 else if h.length≠i.length then 1
 else if Ay a b i h i.length=true then 0 else 380
theorem Vo(l m:bF):(addS l m).length=l.length:=by simp[addS]
theorem asI(b:bF)(h:gu)(l:k<h.length):uG b (h.take (k+1))=addS (uG b (h.take k)) h[k]:=by
 unfold uG;rw[jv l,DC];rfl
theorem asJ(b:bF)(h:gu):(uG b h).length=b.length:=by
 unfold uG
 induction h generalizing b with
 |nil=>rfl
 |cons n m l=>rw[SX,l,Vo]
theorem aa5(m:Ay a b i h f=true)(l:c<f):E7 a b i h c=true:=
 fg.1 m c (by simpa using l)
theorem asK(a:ak)(b:bF)(i:ak)(h:gu)(f:Nat):Ay a b i h (f+1)=(Ay a b i h f&&E7 a b i h f):=by
 unfold Ay;rw[sP,List.all_append];simp
theorem asL(m:c<f)(l:E7 a b i h c=false):Ay a b i h f=false:=by
 cases n:Ay a b i h f with
 |false=>rfl
 |true=>rw[aa5 n m]at l;cases l
theorem aa6{l m:bF}(n:gH l=gH m):l.length=m.length:=by
 have:=congrArg List.length n;simpa [gH] using this
theorem ahi(m:fQ a e=true)(n:Ay a b i h i.length=true):∀k,k<=i.length->(∀q∈lZ e (i.take k),El q)/\(lZ e (i.take k)).length=bh a
 |0,_=>by rw[KS];exact GP m
 |k+1,r=>by
  have o:=ahi m n k (by omega);have l:=aa5 n (show k<i.length by omega);unfold E7 E6 at l;rw[cu,dp (show k<i.length by omega)]at l;have p:=GP l.1;rw[ag0 e i (by omega)];exact⟨aaU o.1 p.1 (by omega),by rw[Mr];exact o.2⟩
theorem asM(b:bF)(h:gu)(q:∀l∈h,l.length=b.length)(m:∀p∈b,aN p.1/\aN p.2):∀p∈uG b h,aN p.1/\aN p.2:=by
 unfold uG
 induction h generalizing b with
 |nil=>exact m
 |cons t v s =>
  rw[SX];refine s (addS b t) (λl u=>by rw[Vo];exact q l (wi _ u)) (λp r=>?_);obtain⟨c,o,rfl⟩:=ey.1 r;have n:c<b.length:=by simpa using o
  unfold Da;rw[dp n];exact⟨(m _ (bM n)).1,dK (by omega)⟩
theorem asN(z:Int)(m:World)(n:aN z):Calls prog 166 #[z] m λl o=>l=.returned (.bool (j8 z))/\m=o:=by
 go_enter func166,ntmps166;go_wp2_with fail;with_reducible refine(tf z _ n).mono ?_
 rintro l p ⟨rfl,rfl⟩;go_wp2_with fail;go_ret;exact⟨rfl,rfl⟩
theorem asO:eQ prog 166:=iw func166 (by kernel_rfl) rfl
theorem asP(o:World)(l:V)(m:∀z∈l,aN z):yl 166 #[] o j8 l:=λz n p _ =>
 (asN z p (m z n)).mono λ_ _ ⟨r,q⟩=>⟨r,q▸aY _ _⟩
theorem aa7{b:V}(l:b.length≠bh a):fQ a b=false:=by
 unfold fQ;rw[bw l,KU]
theorem aa8{b:V}(l:b.length=bh a):fQ a b=!b.any j8:=by
 unfold fQ;rw[bB l,Bool.and_true]
theorem ahj(K:Int)(C B cv P:Value)(a:ak)(b:V)(n:World)(y:bI n C a)(T:∃D f E,B=.slice D f E)(S:∃D f E,cv=.slice D f E)(x:aM n P b):
  Calls prog 96 #[.agg #[K,C,B,cv],P] n λF X=>F=.returned (.bool (fQ a b))/\Below n n X:=by
 obtain⟨G,H,p,I,-⟩:=lF n K C B cv 172;obtain⟨HR,Q⟩:=aR (y.below p) (x.below p);obtain⟨R,W,rfl,-,eI,v⟩:=id y;obtain⟨a2,n2,k2,rfl⟩:=T;obtain⟨a3,n3,k3,rfl⟩:=S;obtain⟨a4,k4,rfl,-,fj,N,-⟩:=id x;have c1:G.cell? (n,1)=some (.slice R a.length W):=Y I rfl;obtain⟨r,q,O⟩:=bJ H p (wx 166 #[] j8 _ b G Q.1 asO (asP _ _ N));clear y x I H N;by_cases s:a.length=0
 ·have o:Hid (bh a=1):=A (by unfold bh;rw[aD s]);have d0':decide (0<a.length)=false:=bw (by omega);clear v s p;by_cases l:b.length=1
  ·have m:=A (aa8 (a:=a) (b:=b) (by rw[o.1,l]));have w:((b.length:Int)==1)=true:=by rw[l];rfl
   clear l;go_enter func96,ntmps96;go_wp2_with (rw[<-r.1]);refine(O.1).mono ?_;rintro F Z ⟨rfl,u⟩;go_wp2_with fail;go_ret;exact⟨cg (by rw[m.1]),ar q.1 u⟩
  ·have m:=A (aa7 (a:=a) (b:=b) (by rw[o.1];exact l));have w:((b.length:Int)==1)=false:=eH.2 (by omega);clear l;go_enter func96,ntmps96;go_wp2_with (rw[<-r.1]);go_ret;exact⟨cg m.1.symm,q.1⟩
 ·have o:Hid (bh a=wide a):=A (by unfold bh;rw[aA s]);have i3:(0:Int)<(a.length:Int):=by omega
  have i4:0<a.length:=by omega
  obtain⟨z1z,off,z0,rfl,t,L⟩:=v 0 (by omega);rw[rF]at t;obtain⟨ra,rc,rfl,-⟩:=id L;rw[A7 a (by omega)]at t;have y1:=U p t;clear v L s p t;obtain⟨z,M⟩:=aK (wide a);rw[<-M]at o y1;clear M;by_cases l:b.length=z
  ·have m:=A (aa8 (a:=a) (b:=b) (by rw[o.1,l]));have w:((b.length:Int)==(z:Int))=true:=by rw[l];simp
   clear l;go_enter func96,ntmps96;go_wp2_with (rw[<-r.1]);refine(O.1).mono ?_;rintro F Z ⟨rfl,u⟩;go_wp2_with fail;go_ret;exact⟨cg (by rw[m.1]),ar q.1 u⟩
  ·have m:=A (aa7 (a:=a) (b:=b) (by rw[o.1];exact l));have w:((b.length:Int)==(z:Int))=false:=eH.2 (by omega);clear l;go_enter func96,ntmps96;go_wp2_with (rw[<-r.1]);go_ret;exact⟨cg m.1.symm,q.1⟩
theorem asQ(l:Int)(D C cv:Value)(a:ak)(e:V)(m:World)(z:bI m D a)(Q:∃S f T,C=.slice S f T)(y:aM m cv e):
  Calls prog 93 #[.agg #[l,D,C,cv]] m λL R=>L=.returned (.bool (ks a l e))/\Below m m R:=by
 obtain⟨o,G,r,p,-⟩:=lF m l D C cv 172;obtain⟨N,M⟩:=aR (z.below r) (y.below r);obtain⟨E,H,rfl,-,eI,-⟩:=id z;obtain⟨F,K,I,rfl⟩:=Q;obtain⟨v,B,rfl,-,gC,-⟩:=id y;have W:o.cell? (m,0)=l:=Y p rfl;have X:o.cell? (m,1)=some (.slice E a.length H):=Y p rfl;have Z:o.cell? (m,2)=some (.slice F K I):=Y p rfl;have c3:o.cell? (m,3)=some (.slice v e.length B):=Y p rfl;obtain⟨w,u,O⟩:=bJ G r (ahj l (.slice E a.length H) (.slice F K I) (.slice v e.length B) (.slice v e.length B) a e o N.1 ⟨_,_,_,rfl⟩ ⟨_,_,_,rfl⟩ M.1);clear z y p G r;by_cases q:0<=l
 ·have s:decide (0<=l)=true:=bB q;by_cases t:l<=64
  ·have x:decide (l<=64)=true:=bB t;have n:Hid (ks a l e=fQ a e):=A (by unfold ks;rw[s,x];rfl);clear q t;go_enter func93,ntmps93;go_wp2_with (rw[<-w.1]);refine(O.1).mono ?_;rintro L w2 ⟨rfl,P⟩;go_wp2_with fail;go_ret;exact⟨cg n.1.symm,ar u.1 P⟩
  ·have x:decide (l<=64)=false:=bw t;have n:Hid (ks a l e=false):=A (by unfold ks;rw[s,x];rfl);clear q t;go_enter func93,ntmps93;go_wp2_with (rw[<-w.1]);go_ret;exact⟨cg n.1.symm,u.1⟩
 ·have s:decide (0<=l)=false:=bw q;have n:Hid (ks a l e=false):=A (by unfold ks;rw[s];rfl);clear q;go_enter func93,ntmps93;go_wp2_with (rw[<-w.1]);go_ret;exact⟨cg n.1.symm,u.1⟩
theorem ahk(ep:Int)(rv ov cv uv lv:Value)(a:ak)(E e:V)(b:bF)(s:World)(T:bI s rv a)(S:aM s ov E)(hc:∃z0z f z1z,cv=.slice z0z f z1z)(W:aM s uv e)(R:fK s lv b)(hd:jQ a E e=0):
  Calls prog 94 #[.agg #[ep,rv,ov,cv],uv,lv] s λI w'=>I=.returned (.bool (kM a e b))/\Below s s w':=by
 obtain⟨L,aE,B,Q,-⟩:=lF s ep rv ov cv 172;obtain⟨p,o,q,HL⟩:=cY (T.below B) (S.below B) (W.below B) (R.below B);obtain⟨a1,k1,rfl,-,eI,-⟩:=id T;obtain⟨a2,k2,rfl,-,dR,-⟩:=id S;obtain⟨a3,n3,k3,rfl⟩:=hc;obtain⟨a4,k4,rfl,-,fj,-⟩:=id W;obtain⟨a5,k5,rfl,-,xt,gD,-⟩:=id R;have C:L.cell? (s,1)=some (.slice a1 a.length k1):=Y Q rfl;have D:L.cell? (s,2)=some (.slice a2 E.length k2):=Y Q rfl;obtain⟨bp,K,ur,Mz⟩:=cY aE B gD (λn r=>Vn (l:=n) (m:=r) hd);clear T S W R Q aE B gD hd;go_enter func94,ntmps94;go_wp2_with (rw[<-bp.1]);go_loopw[7,14] (λlast c z0=>∃k:Nat,k<=b.length/\c=k/\last=(mS (-1) (b.take k):Int)/\Hid (kM a e (b.take k)=true)/\Below L L z0) (λ_ c _=>b.length-(intOf c).toNat);case atStart=>exact⟨0,bS _,rfl,rfl,A rfl,aY _ _⟩
 case round =>
  obtain⟨k,dg,rfl,rfl,P,u⟩:=hrel;have m:=A u;by_cases F:k<b.length
  ·obtain⟨aS,cS,eS,-,-,-,cU⟩:=HL.1;obtain⟨b1,o1,ea,qa,qb⟩:=cU k F;simp only[dr]at eS;obtain⟨rfl,-,-⟩:=eS;subst ea;have y1:=U u qa;have y2:=U u qb;have O:=ur.1 _ (bM F);have mz:=A (Vm F P.1);have G:Hid (Ax a e (mS (-1) (b.take k)) b[k]=false->kM a e b=false):=A (λz3z=>ahg (k:=k+1) ((Vm F P.1).trans z3z));have dq:=A (Ub (i:=-1) F);obtain⟨n,rf⟩:=aK (b[k].1);obtain⟨r,X⟩:=aK (b[k].2);have hp:b[k]=(n,r):=by rw[rf,X]
   rw[hp]at mz G;rw[<-rf]at y1 O dq;rw[<-X]at y2 O;obtain⟨H,lA⟩:=aK (mS (-1) (b.take k));rw[<-lA]at mz G ⊢;obtain⟨W5,dk,z,Z,-⟩:=ee wr (.int .i64 n) (.int .i64 r) 66;have v:W5.cell? (wr,0)=some (.int .i64 n):=Y Z rfl;have s1:W5.cell? (wr,1)=some (.int .i64 r):=Y Z rfl;obtain⟨M,t⟩:=aR dk (λww h1 h2 h3=>Ep (.slice a1 a.length k1) (.slice a2 E.length k2) (.slice a4 e.length k4) a E e n r ww h1 h2 h3 O.1 O.2);rw[(Mz.1 n r).1,(Mz.1 n r).2]at t;have i0:(0:Int)<=(k:Int):=by omega
   have i1:(k:Int)<(b.length:Int):=by omega
   clear cU qa qb rf X hp lA Z dk;refine jM u C D ?_;clear C D;intro C D;obtain⟨p,o,q⟩:=bJ (p.1.below u) (o.1.below u) (q.1.below u);clear u;replace m:=A (ar m.1 z);refine jM z C D ?_;clear C D;intro C D;obtain⟨p,o,q⟩:=bJ (p.1.below z) (o.1.below z) (q.1.below z);clear z;cases w:jR a n r with
   |false =>
    rw[w]at t;have x:=A (G.1 (by unfold Ax;rw[w];rfl));clear w;go_wp2_with (rw[<-M.1]);refine(t.1 _ p.1 o.1 q.1).mono ?_;rintro I w6 ⟨rfl,l⟩;replace v:=U l v;obtain⟨p,o,q,m⟩:=cY (p.1.below l) (o.1.below l) (q.1.below l) (ar m.1 l);clear l;go_wp2_with fail;go_ret;exact⟨cg x.1.symm,ar K.1 m.1⟩
   |true =>
   rw[w]at t;cases y:My a e (n,r) with
   |false =>
    rw[y]at t;have x:=A (G.1 (by unfold Ax;rw[y];simp));clear w y;go_wp2_with (rw[<-M.1]);refine(t.1 _ p.1 o.1 q.1).mono ?_;rintro I w6 ⟨rfl,l⟩;replace v:=U l v;obtain⟨p,o,q,m⟩:=cY (p.1.below l) (o.1.below l) (q.1.below l) (ar m.1 l);clear l;go_wp2_with fail;go_ret;exact⟨cg x.1.symm,ar K.1 m.1⟩
   |true =>
   rw[y]at t;by_cases N:n<=H
   ·have d1:decide (n<=H)=true:=bB N;have x:=A (G.1 (by unfold Ax;rw[bw (by show ¬ H<n;omega)];simp));clear w y N;go_wp2_with (rw[<-M.1]);refine(t.1 _ p.1 o.1 q.1).mono ?_;rintro I w6 ⟨rfl,l⟩;replace v:=U l v;obtain⟨p,o,q,m⟩:=cY (p.1.below l) (o.1.below l) (q.1.below l) (ar m.1 l);clear l;go_wp2_with fail;go_ret;exact⟨cg x.1.symm,ar K.1 m.1⟩
   ·have d1:decide (n<=H)=false:=bw N;have HN:=A (mz.1.trans (by unfold Ax;rw[w,y,bB (by show H<n;omega)];first|done|rfl));clear w y N;go_wp2_with (rw[<-M.1]);refine(t.1 _ p.1 o.1 q.1).mono ?_;rintro I w6 ⟨rfl,l⟩;replace v:=U l v;replace m:=A (ar m.1 l);clear l;go_wp2_with fail;go_roundw;case rel=>exact⟨k+1,by omega,by go_num,by rw[dq.1],HN,m.1⟩
    case measure=>simp[intOf];omega
  ·have x:Hid (kM a e b=true):=A (by have z3z:=P.1;rwa [zJ (by omega)]at z3z);go_wp2_with fail;go_ret;exact⟨cg x.1.symm,ar K.1 m.1⟩
theorem ahl(m v r2 w:Int)(l:World):
  Calls prog 95 #[.agg #[m,v],.agg #[r2,w]] l λB z=>B=.returned (.bool (m==r2))/\Below l l z:=by
 obtain⟨q,n,t,s,-⟩:=ee l m v 66;obtain⟨r,p,o,u,-⟩:=ee q r2 w 66;have d:q.heap.size=l.heap.size+1:=by rw[n];simp
 have C:r.cell? (l,0)=m:=U o (Y s rfl);have D:r.cell? (l.heap.size+1,0)=r2:=by rw[<-d];exact Y u rfl
 have x:=A (ar t o);rw[n]at p;have y:=A p;clear p n s u t o d;go_enter func95,ntmps95;go_wp2_with (rw[<-y.1]);go_ret;exact⟨rfl,x.1⟩
theorem ahm{l m:bF}(o:k<l.length)(p:k<m.length)(r:l[k].1≠m[k].1):gH l≠gH m:=λq=>r (by
 have n:(gH l)[k]?=(gH m)[k]?:=by rw[q]
 unfold gH at n;rw[tY,tY,fw o,fw p]at n;simpa using n)
theorem ahn{l m:bF}(p:l.length=m.length)(q:∀k (n:k<l.length) (o:k<m.length),l[k].1=m[k].1):gH l=gH m:=by
 unfold gH;refine x8 (by simpa using p) λk n o=>?_;rw[gj,gj];exact q k (by simpa using n) (by simpa using o)
theorem asR(z0 z1:Value)(l n:bF)(p:World)(hA:fK p z0 l)(hB:fK p z1 n):
  Calls prog 97 #[z0,z1,.func (.func 95) #[] #[]] p λB w'=>B=.returned (.bool (decide (gH l=gH n)))/\Below p p w':=by
 obtain⟨a1,k1,rfl,iP,eI,aI,X⟩:=hA;obtain⟨a2,k2,rfl,lj,dR,bE,T⟩:=hB;by_cases t:l.length=n.length;rotate_left
 ·have yY:((l.length:Int)!=(n.length:Int))=true:=by rw[jg];omega
  have w:Hid (decide (gH l=gH n)=false):=A (bw (λv=>t (aa6 v)));clear t;go_enter func97,ntmps97;go_wp2_with fail;go_ret;exact⟨cg w.1.symm,aY _ _⟩
 have yY:((l.length:Int)!=(n.length:Int))=false:=by rw[t];simp
 have H:=A t;have yZ:Hid (∀k (v:k<l.length),∃o u,o=(n[k]'(by rw[<-H.1];exact v)).1/\∃N F,a2=some ⟨N,F,none⟩/\p.cell? ⟨N,F+k*2,none⟩=some (.int .i64 o)/\p.cell? ⟨N,F+k*2+1,none⟩=some (.int .i64 u)):=A (λk v=>⟨_,_,rfl,T k (by omega)⟩);have Az:=A X;rw[<-t]at yY dR ⊢;clear t X T;go_enter func97,ntmps97;go_wp2_with fail;go_loopw[17] (λc z2=>∃k:Nat,k<=l.length/\c=.int .i64 k/\Hid (∀m (y:m<l.length) (z:m<n.length),m<k->l[m].1=n[m].1)/\Below p p z2) (λc _=>l.length-(intOf c).toNat);case atStart=>exact⟨0,bS _,rfl,A λm _ _ v=>absurd v (fG _),aY _ _⟩
 case round =>
  obtain⟨k,dg,rfl,P,q⟩:=hrel;by_cases E:k<l.length
  ·obtain⟨z5,F,rfl,qa,qb⟩:=Az.1 k E;obtain⟨r,u,hy,p',Lr,rfl,qc,qd⟩:=yZ.1 k E;have y1:=U q qa;have y2:=U q qb;have y3:=U q qc;have y4:=U q qd;obtain⟨o,L⟩:=aK (l[k].1);obtain⟨G,ht⟩:=aK (l[k].2);rw[<-L]at y1;rw[<-ht]at y2;have i1:(0:Int)<=(k:Int):=by omega
   have i2:(k:Int)<(l.length:Int):=by omega
   obtain⟨Q,R⟩:=aR L hy;obtain⟨x,dk,D,K,-⟩:=ee wr (.int .i64 o) G 66;have s0:x.cell? (wr,0)=some (.int .i64 o):=Y K rfl;have s1:x.cell? (wr,1)=G:=Y K rfl;have z3:=U D y3;have z4:=U D y4;obtain⟨S,W,C,M,-⟩:=ee x r (.int .i64 u) 66;have u0:=U C s0;have u1:=U C s1;have u2:S.cell? (x,0)=r:=Y M rfl;have u3:S.cell? (x,1)=some (.int .i64 u):=Y M rfl;obtain⟨gX,fR⟩:=aR dk W;have fo:=ar q D;have Z:=A (ar fo C);clear L hy ht qa qb qc qd q K M dk W D C fo;by_cases s:o=r
   ·have O:(o==r)=true:=by simpa using s
    have HN:=A (show ∀m (y:m<l.length) (z:m<n.length),m<k+1->l[m].1=n[m].1 from λm y z h3=>by
     by_cases B:m=k
     ·subst B;rw[<-Q.1,<-R.1,s]
     ·exact P.1 m y z (by omega))
    clear s;go_wp2_with (first|rw[<-gX.1]|rw[<-fR.1]);refine(ahl o G r u _).mono ?_;rintro B w7 ⟨rfl,I⟩;rw[O];go_wp2_with fail;go_roundw;case rel=>exact⟨k+1,by omega,by go_num,HN,ar Z.1 I⟩
    case measure=>simp[intOf];omega
   ·have O:(o==r)=false:=by simpa using s
    have w:Hid (decide (gH l=gH n)=false):=A (bw (ahm E (by rw[<-H.1];exact E) (by rw[<-Q.1,<-R.1];exact s)));clear s;go_wp2_with (first|rw[<-gX.1]|rw[<-fR.1]);refine(ahl o G r u _).mono ?_;rintro B w7 ⟨rfl,I⟩;rw[O];go_wp2_with fail;go_ret;exact⟨cg w.1.symm,ar Z.1 I⟩
  ·have w:Hid (decide (gH l=gH n)=true):=A (bB (ahn H.1 λm y z=>P.1 m y z (by omega)));go_wp2_with fail;go_ret;exact⟨cg w.1.symm,q⟩
theorem asS(l m:Int)(n:World)(q:El l)(r:El m):
  Calls prog 98 #[l,m] n λo s=>o=.returned (l*m%2147483579:Int)/\n=s:=by
 have p:=A (Ej l m n q r);generalize l*m%2147483579=u at *;go_enter func98,ntmps98;go_wp2_with fail;refine(p.1).mono ?_;rintro o t ⟨rfl,rfl⟩;go_wp2_with fail;go_ret;exact⟨rfl,rfl⟩
theorem asT(Q R:Value)(l m:V)(n:World)(E:aM n Q l)(F:aM n R m)(hl:l.length<=m.length)(h6:l.length<=1000000)(ha:∀u∈l,El u)(o:∀u∈m,El u):
  Calls prog 100 #[Q,R,.func (.func 98) #[] #[]] n λT S=>∃t,T=.returned t/\S.ownsRow n.heap.size 3 1 t l.length ((mulL l m).map (Value.int .i64))/\Below n n S:=by
 obtain⟨W,mP,CE,X,kt⟩:=gw (λk (p:k<l.length)=>E.get p) (λk (p:k<l.length)=>F.get (k:=k) (by omega)) (λk (p:k<l.length)=>(show El (J l k) from ha _ (by rw[di p];exact bM p))) (λk (p:k<l.length)=>(show El (J m k) from o _ (by rw[di (show k<m.length by omega)];exact bM _))) hl;obtain⟨a1,k1,rfl,-,eI,-⟩:=E;obtain⟨a2,k2,rfl,-,dR,-⟩:=F;clear ha o;have K:n.ownsRow n.heap.size 3 1 () 0 (((List.range 0).map λc=>J l c*J m c%2147483579).map (Value.int .i64)):=iv _ _ _ _;go_enter func100,ntmps100;go_wp2_with fail;go_loopw[6,11] (λz0 c y=>∃k:Nat,k<=l.length/\c=k/\y.ownsRow n.heap.size 3 1 z0 k (((List.range k).map λc=>J l c*J m c%2147483579).map (Value.int .i64))/\Below n n y) (λ_ c _=>l.length-(intOf c).toNat);case atStart=>exact⟨0,bS _,rfl,K,aY _ _⟩
 case round =>
  clear K;obtain⟨k,dg,rfl,r,o⟩:=hrel;by_cases q:k<l.length
  ·obtain⟨-,b1,o1,n1,k9,z,O⟩:=W.1 k q;simp only[dr]at z;obtain⟨rfl,-,-⟩:=z;obtain⟨-,b2,o2,n2,k8,B,P⟩:=mP.1 k q;simp only[dr]at B;obtain⟨rfl,-,-⟩:=B;have y1:=U o O;have y2:=U o P;have H:=CE.1 k q;have I:=X.1 k q;have w:Hid (((List.range (k+1)).map λc=>J l c*J m c%2147483579).map (Value.int .i64)=((List.range k).map λc=>J l c*J m c%2147483579).map (Value.int .i64)++[.int .i64 (J l k*J m k%2147483579)]):=A (by rw[Af,gJ];rfl);have v:=A (asS _ _ wr H I);have i0:(0:Int)<=(k:Int):=by omega
   have i1:(k:Int)<(l.length:Int):=by omega
   have i2:(k:Int)<(m.length:Int):=by have:=kt.1;omega
   have Z:k<=1000000:=by omega
   obtain⟨s,G⟩:=aK (J l k*J m k%2147483579);rw[<-G]at w v;have x:=A (bk wr #[s] 3);have M:=A (dM r x.1);have yV:Hid ((wr.alloc (.cells #[s] 3)).cell? (wr,0)=s):=A (Y (World.alloc_heap_new _ _) rfl);have L:=A (ar o x.1);have C:=A L.1.size;clear O P r o H I G;generalize J l k=t at *;generalize J m k=z1 at *;go_wp2_with fail;refine(v.1).mono ?_;rintro T w5 ⟨rfl,rfl⟩;go_wp2_with (refine zX rfl _ _ rfl n.heap.size k _ _ rfl M.1 wr.heap.size 1 s rfl yV.1 Z C.1 ?_;intro v9 sx D N;have H9:=A D;have O9:=A N;clear D N);go_roundw;case rel=>exact⟨k+1,by omega,by go_num,by rw[w.1];exact H9.1,L.1.trans (fH M.1 O9.1 C.1)⟩
   case measure=>simp[intOf];omega
  ·obtain rfl:k=l.length:=by omega
   obtain⟨de,df⟩:=aR r o;clear r o;go_wp2_with fail;go_ret;exact⟨_,rfl,de.1,df.1⟩
