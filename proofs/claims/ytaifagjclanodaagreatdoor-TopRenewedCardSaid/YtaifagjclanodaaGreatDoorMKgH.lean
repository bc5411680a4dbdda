/- Package keygen: slices of complaints; does any count. -/
import Derived.Test.YtaifagjclanodaaGreatDoorMKgP
import Derived.RecoverIn
import Derived.Maps.OwnIn
set_option maxHeartbeats 8000000
set_option maxRecDepth 100000
namespace Go.Proofs.YtaifagjclanodaaGreatDoor
open Go.Proofs.Tryz
open Go.RowKit FP
variable{d:Act}{L:Array Oper}{K tmps:Array Value}{c:Fence}{h:FrameMode}{fn:Func}{F:Int}{M:List Deferred}{N:List Oper}{I:List Value}{s b f n:Nat}{j:Oper}{G:Program}{v:Value}{W i w:World}{e:ak}
def iM(a:cP):List Value:=[.int .i64 a.dealer,.int .i64 a.row,.int .i64 a.D,.int .i64 a.E,.int .i64 a.S]
def xD(w:World)(v:Value)(k:List cP):Prop:=
 ∃d m,v=.slice d k.length m/\k.length<=m/\k.length<=17592186044416/\(∀a∈k,C5 a) /\
  ∀l (t:l<k.length),∃b p,d=some ⟨b,p,none⟩/\∀q h,(iM k[l])[q]?=some h->w.cell? ⟨b,p+l*5+q,none⟩=some h
theorem xD.below{w':World}{k:List cP}(P:xD w v k)(q:Below w w w'):xD w' v k:=by
 obtain⟨d,m,rfl,t,D,E,z⟩:=P;refine⟨d,m,rfl,t,D,E,λH l=>?_⟩;obtain⟨b,O,ha,p⟩:=z H l;exact⟨b,O,ha,λQ h y=>U q (p Q h y)⟩
theorem xD.at{d:Option Addr}{a:Nat}{l:List cP}(E:xD w (.slice d n a) l){k:Nat}(q:k<l.length):∃b m,d=some ⟨b,m,none⟩/\C5 l[k]/\w.cell? ⟨b,m+k*5,none⟩=some (.int .i64 l[k].dealer)/\w.cell? ⟨b,m+k*5+1,none⟩=some (.int .i64 l[k].row)/\w.cell? ⟨b,m+k*5+2,none⟩=some (.int .i64 l[k].D)/\w.cell? ⟨b,m+k*5+3,none⟩=some (.int .i64 l[k].E)/\w.cell? ⟨b,m+k*5+4,none⟩=some (.int .i64 l[k].S):=by
 obtain⟨H,O,t,-,-,y,z⟩:=E;cases t;obtain⟨b,m,D,p⟩:=z k q;exact⟨b,m,D,y _ (bM q),p 0 _ rfl,p 1 _ rfl,p 2 _ rfl,p 3 _ rfl,p 4 _ rfl⟩
theorem ah6:∀(m:List cP) (k l:Nat) (p:k<m.length),l<5->(m.flatMap iM)[k*5+l]?=(iM m[k])[l]?
 |[],k,_,p,_=>absurd p (fG k)
 |t::m,0,l,_,q=>by
  rw[lP,Ib,iN,uN (by show l<5;exact q)];rfl
 |t::m,k+1,l,p,q=>by
  rw[lP,rD (by show 5<=_;omega)];have y:(k+1)*5+l-(iM t).length=k*5+l:=by show(k+1)*5+l-5=_;omega
  rw[y,ah6 m k l (by simpa using p) q];rfl
theorem aun(k:List cP):(k.flatMap iM).length=k.length*5:=by
 induction k with
 |nil=>rfl
 |cons m k l=>rw[lP,fu,l,dZ];show 5+_=_;omega
theorem ah7(k:List cP)(z:cP):(k++[z]).flatMap iM=k.flatMap iM++iM z:=by rw[AY];simp
theorem xD.own{l:List cP}(q:w.ownsRow f 92 5 v n (l.flatMap iM))(y:∀a∈l,C5 a)(X:l.length<=1000000):xD w v l:=by
 obtain⟨hn,q⟩:=q;rw[aun]at hn;obtain rfl:n=l.length:=by omega
 rcases q with⟨rfl,O⟩|⟨D,E,H,rfl,-,P,R,-,T,S⟩
 ·exact⟨none,0,by rw[O],by omega,by omega,y,λk p=>absurd p (by omega)⟩
 ·refine⟨some (D,0),E,rfl,R,by omega,y,λk p=>⟨D,0,rfl,λm h z=>?_⟩⟩;have Q:m<5:=by
   have:=(DI.1 z).1;simpa [iM] using this
  have t:(H.toList.take (l.length*5))[k*5+m]?=(iM l[k])[m]?:=by rw[S,ah6 l k m p Q]
  rw[we,aD (by omega)]at t;rw[iN];exact Y P (by rw[<-sR,t];exact z)
theorem ah8(a:cP):Jq a=.agg #[a.dealer,a.row,a.D,a.E,a.S]:=rfl
def Fe{α:Type}(p:α->Bool):List α->Int
 |[]=>-1
 |l::k=>if p l then 0 else if Fe p k<0 then -1 else Fe p k+1
theorem ah9{α:Type}(p:α->Bool)(k:List α)(l:∀z∈k,p z=false):Fe p k=-1:=by
 induction k with
 |nil=>rfl
 |cons z k q=>unfold Fe;rw[aA (by simp[l z]),q (λt m=>l t (by simp[m]))];rfl
theorem auo{α:Type}(p:α->Bool)(l:List α)(k:Nat)(q:k<l.length)(t:∀z∈l.take k,p z=false)(m:p l[k]=true):Fe p l=k:=by
 induction l generalizing k with
 |nil=>simp at q
 |cons z l D =>
  unfold Fe;cases k with
  |zero=>simp at m;simp[m]
  |succ k =>
   simp at m q;rw[aA (by rw[t z (by simp)];simp),D k q (λE y=>t E (by simp[y])) m,aA (by omega)];rfl
theorem aup{α:Type}(p:α->Bool)(k:List α):decide (0<=Fe p k)=k.any p:=by
 by_cases l:k.any p=true
 ·rw[l]
  induction k with
  |nil=>simp at l
  |cons q k y =>
   unfold Fe;by_cases m:p q=true
   ·simp[m]
   ·have t:k.any p=true:=by simpa [m] using l
    have:=y t;simp at this;simp[m];omega
 ·have t:∀q∈k,p q=false:=by
   intro q m;simp at l;simpa using l q m
  rw[ah9 p k t];simp at l ⊢;exact l
def aia(y:FuncId)(l:Array Value)(w:World)(p:cP->Bool)(q:List cP):Prop:=
 ∀a∈q,∀k,Below w.heap.size w k->Calls prog y (#[Jq a]++l) k λt m=>t=.returned (.bool (p a))/\Below k.heap.size k m
theorem auq(z:FuncId)(X:Array Value)(p:cP->Bool)(v:Value)(l:List cP)(w:World)(hI:xD w v l)(Z:eQ prog z)(hT:aia z X w p l):
  Calls prog 165 #[v,.func (.func z) #[] X] w λR w'=>R=.returned (Fe p l:Int)/\Below w w w':=by
 have HL:=A hI;obtain⟨d,ue,rfl,jC,hlen,-⟩:=hI;have HT:=A hT;clear hT;have FR:∀(args:Array Value) (w:World),(callFunc z args).run prog w=.ok (.enter z args) w:=Z;clear Z;go_enter func165,ntmps165;go_wp2_with fail;go_loopw[5,8] (λ_ T wr=>∃k:Nat,k<=l.length/\T=k/\Hid (∀y∈l.take k,p y=false)/\Below w w wr) (λ_ T _=>l.length-(intOf T).toNat);case atStart=>exact⟨0,bS _,rfl,A (by simp),aY _ _⟩
 case round =>
  obtain⟨k,dg,rfl,H,q⟩:=hrel;by_cases D:k<l.length
  ·obtain⟨b,off,ha,-,y0,y1,y2,y3,y4⟩:=(HL.1.below q).at D;subst ha;have m:=A (HT.1 l[k] (bM D) wr q);rw[ah8]at m;obtain⟨a,Q⟩:=aK (l[k]);rw[<-Q]at y0 y1 y2 y3 y4 m;have lC:=A Q;clear Q;obtain⟨c0,c1,c2,c3,c4⟩:=a;simp only at y0 y1 y2 y3 y4 m;cases t:p ⟨c0,c1,c2,c3,c4⟩
   ·have HN:=A (show ∀y∈l.take (k+1),p y=false by
     rw[jv D];intro y hz;rcases lN.1 hz with S|S
     ·exact H.1 y S
     ·rw[jJ.1 S,<-lC.1];exact t)
    rw[t]at m;have E:=A q;have i0:(0:Int)<=(k:Int):=by omega
    have i1:(k:Int)<(l.length:Int):=by omega
    clear t q;go_wp2_with fail;refine m.1.mono ?_;rintro R w1 ⟨rfl,P⟩;go_wp2_with fail;go_roundw;case rel=>exact⟨k+1,by omega,by go_num,HN,K4 E.1 (aP _) P⟩
    case measure=>simp[intOf];omega
   ·have O:=A (auo p l k D H.1 (by rw[<-lC.1];exact t));rw[t]at m;have E:=A q;have i0:(0:Int)<=(k:Int):=by omega
    have i1:(k:Int)<(l.length:Int):=by omega
    clear t q;go_wp2_with fail;refine m.1.mono ?_;rintro R w1 ⟨rfl,P⟩;go_wp2_with fail;go_ret;exact⟨fL O.1.symm,K4 E.1 (aP _) P⟩
  ·have O:=A (ah9 p l (by have:=H.1;rwa [zJ (by omega)]at this));go_wp2_with fail;go_ret;exact⟨fL O.1.symm,q⟩
theorem aur(l:FuncId)(m:Array Value)(p:cP->Bool)(v:Value)(k:List cP)(w:World)(D:xD w v k)(z:eQ prog l)(E:aia l m w p k):
  Calls prog 90 #[v,.func (.func l) #[] m] w λq H=>q=.returned (.bool (k.any p))/\Below w w H:=by
 have t:=A (aup p k);go_enter func90,ntmps90;go_wp2_with (go_at_call 165;refine(auq l m p v k _ D z E).mono ?_;rintro q O ⟨rfl,y⟩);go_ret;exact⟨cg t.1,y⟩
structure aus(O:World)(pb kb db o q t H y z D nk X k E:Nat)(rv cv pv:Value)(T Z P Q R S p m:Int)(l:Nat->Bool)(v:Nat->Value)(w:World):Prop where
 b:Below O O w
 f0:KQ l v 0 (.agg #[rv,.slice (q,t) H y])
 f1:KQ l v 1 (.slice (z,D) nk X)
 f2:KQ l v 2 (pb,1)
 f3:KQ l v 3 (.slice (q,t) H y)
 f4:KQ l v 4 (o,1)
 f5:KQ l v 5 k
 f6:KQ l v 6 (q,t+k)
 f7:KQ l v 7 E
 f8:KQ l v 8 (z,D+E)
 f9:KQ l v 9 Z
 f10:KQ l v 10 (.agg #[T,cv,pv])
 f11:KQ l v 11 (.agg #[P,k,Q,R,S])
 f12:KQ l v 12 (.tuple #[p,m])
 f13:KQ l v 13 (.tuple #[p,m])
 f14:KQ l v 14 p
 f15:KQ l v 15 m
 f16:KQ l v 16 p
 f17:KQ l v 17 m
def M5(e:ak)(k l:V)(m:bD)(a:cP):Bool:=tE e k (keyOf k l a.row.toNat) m a==0&&vE e k (keyOf k l a.row.toNat) m a==1
theorem aut:eQ prog 88:=iw func88 (by kernel_rfl) rfl
theorem auu(S kb R:Nat)(rv ov kv cv pv:Value)(e:ak)(p t:V)(z:bD)(a:cP)(w:World)(hG:gz w)(hR:bI w rv e)(hO:aM w ov p)(hK:aM w kv t)(hC:aM w cv z.cs)(hP:ir w pv z.ps)
  (p0:w.cell? (S,0)=some rv) (p1:w.cell? (S,1)=some ov) (k0:w.cell? (kb,0)=some kv) (d0:w.cell? (R,0)=z.dealer) (d1:w.cell? (R,1)=some cv) (d2:w.cell? (R,2)=some pv)
  (hc:C5 a) (hr:0<=a.row/\a.row<(e.length:Int)) (hlen:e.length=p.length) (ho:∀j∈p,0<=j) (wI:MO p t):
  Calls prog 88 #[Jq a,(S,0),(kb,0),(R,0)] w λz4z w'=>z4z=.returned (.bool (M5 e p t z a))/\Below w w w':=by
 have kj:=A hc;obtain⟨D,c1,E,H,O⟩:=a;simp only at hr;obtain⟨m,rfl⟩:∃m:Nat,c1=(m:Int):=⟨c1.toNat,by omega⟩;have X:m<p.length:=by omega
 obtain⟨sZ,JW⟩:=wI.key ho X;have lp:0<=p[m]:=ho _ (bM X);obtain⟨y,hm⟩:∃y:Nat,p[m]=(y:Int):=⟨p[m].toNat,by omega⟩;have JX:(J p m).toNat=y:=by rw[di X,hm];rfl
 rw[JX]at sZ;have tJ:keyOf p t m=t[y]:=by unfold keyOf;rw[JX,di sZ]
 have mz:=A (λW (h0:gz W) h1 h2 h3 h4=>ar9 rv ov cv pv e p z ⟨D,(m:Int),E,H,O⟩ t[y] W h0 h1 h2 h3 h4 (by rw[<-tJ];exact JW.r64) kj.1);have T:Hid (M5 e p t z ⟨D,(m:Int),E,H,O⟩=(tE e p t[y] z ⟨D,(m:Int),E,H,O⟩==0&&vE e p t[y] z ⟨D,(m:Int),E,H,O⟩==1)):=A (by
  unfold M5;rw[show(⟨D,(m:Int),E,H,O⟩:cP).row.toNat=m from rfl,tJ])
 rw[ah8]at mz ⊢;obtain⟨z2z,hg⟩:∃z2z,z2z=vE e p t[y] z ⟨D,(m:Int),E,H,O⟩:=⟨_,rfl⟩;obtain⟨l,Z⟩:∃z2z,z2z=tE e p t[y] z ⟨D,(m:Int),E,H,O⟩:=⟨_,rfl⟩;rw[<-hg,<-Z]at mz T;clear hg Z;obtain⟨W1,aE⟩:∃W,W=w.alloc (.cells #[D,m,E,H,O] 92):=⟨_,rfl⟩;have P:Below w w W1:=by rw[aE];exact bk _ _ _
 have aI:W1.heap[w.heap.size]?=QC.mk #[D,m,E,H,O] 92:=by rw[aE];exact World.alloc_heap_new _ _
 obtain⟨HG,HR,HO,HC,HP⟩:=gw (hG.below P) (hR.below P) (hO.below P) (hC.below P) (hP.below P);obtain⟨a1,k1,rfl,-,eI,-⟩:=id hR;obtain⟨a2,k2,rfl,-,dR,-⟩:=id hO;obtain⟨a3,k3,rfl,-,gC,-⟩:=id hK;obtain⟨a4,k4,rfl,-,fj,-⟩:=id hC;obtain⟨a5,k5,rfl,-,xt,-⟩:=id hP;obtain⟨kk,ko,ea,qk⟩:=ints_at (hK.below P) sZ;obtain⟨ob,oo,eo,qo⟩:=ints_at HO.1 X;rw[hm]at qo;subst ea;subst eo;refine akp P p0 p1 k0 d0 d1 d2 ?_;clear p0 p1 k0 d0 d1 d2;intro p0 p1 k0 d0 d1 d2;obtain⟨x0,x1,x2,x3,x4⟩:=Ie aI;generalize t[y]=key at *;obtain⟨HW,HB⟩:=aR aE P;have i0:(0:Int)<=(m:Int):=me m;have i1:(m:Int)<(p.length:Int):=by omega
 have i2:(0:Int)<=(y:Int):=me y;have i3:(y:Int)<(t.length:Int):=by omega
 clear aE P aI hG hR hO hK hC hP hc hr hlen ho wI JW lp hm JX tJ sZ X;go_enter func88,ntmps88;go_wp2_with (rw[<-HW.1]);clear HW;refine nW (aus W1 S kb R w.heap.size ob oo p.length k2 kk ko t.length k3 m y (.slice a1 e.length k1) (.slice a4 z.cs.length k4) (.slice a5 z.ps.length k5) z.dealer key D E H O z2z l) (λv=>?_) ?_ (λv W k=>?_)
 ·exact⟨(aY _ _).drew,ax,ax,ax,ax,ax,ax,ax,ax,ax,ax,ax,ax,ax,ax,ax,ax,ax,ax⟩
 ·refine⟨?_,?_,?_,?_,?_,?_,?_,?_,?_,?_,?_,?_,?_,?_,?_,?_,?_,?_,trivial⟩;all_goals intro dn v W z1 k l
  ·have q:=l.b 1 (S,0);have Q:=U k.b p0;have jd:=U k.b p1;clear l;go_simp;exact⟨_,rfl,{k with f0:=aB}⟩
  ·have q:=l.b 2 (kb,0);have Q:=U k.b k0;clear l;go_simp;exact⟨_,rfl,{k with f1:=aB}⟩
  ·have q:=l.b 1 (S,0);clear l;go_simp;exact⟨_,rfl,{k with f2:=aB}⟩
  ·have q:=l.e 2 11 k.f2;have Q:=U k.b p1;clear l;go_simp;exact⟨_,rfl,{k with f3:=aB}⟩
  ·have q:=l.b 4 (w,0);clear l;go_simp;exact⟨_,rfl,{k with f4:=aB}⟩
  ·have q:=l.e 4 13 k.f4;have Q:=U k.b x1;clear l;go_simp;exact⟨_,rfl,{k with f5:=aB}⟩
  ·have q:=l.e 3 12 k.f3;have e1:=l.e 5 14 k.f5;clear l;go_simp;exact⟨_,rfl,{k with f6:=aB}⟩
  ·have q:=l.e 6 15 k.f6;have Q:=U k.b qo;clear l;go_simp;exact⟨_,rfl,{k with f7:=aB}⟩
  ·have q:=l.e 1 10 k.f1;have e1:=l.e 7 16 k.f7;clear l;go_simp;exact⟨_,rfl,{k with f8:=aB}⟩
  ·have q:=l.e 8 17 k.f8;have Q:=U k.b qk;clear l;go_simp;exact⟨_,rfl,{k with f9:=aB}⟩
  ·have q:=l.b 3 (R,0);have Q:=U k.b d0;have jd:=U k.b d1;have vK:=U k.b d2;clear l;go_simp;exact⟨_,rfl,{k with f10:=aB}⟩
  ·have q:=l.b 4 (w,0);have Q:=U k.b x0;have jd:=U k.b x1;have vK:=U k.b x2;have xE:=U k.b x3;have y4_:=U k.b x4;clear l;go_simp;exact⟨_,rfl,{k with f11:=aB}⟩
  ·have q:=l.e 0 9 k.f0;have e1:=l.e 9 18 k.f9;have e2:=l.e 10 19 k.f10;have e3:=l.e 11 20 k.f11;clear l;go_simp;with_reducible refine(mz.1 W (HG.1.below k.b) (HR.1.below k.b) (HO.1.below k.b) (HC.1.below k.b) (HP.1.below k.b)).mono ?_
   rintro z1z wq ⟨rfl,hb⟩;exact⟨_,rfl,{k with b:=ar k.b hb,f12:=aB}⟩
  ·have q:=l.e 12 21 k.f12;clear l;go_simp;exact⟨_,rfl,{k with f13:=aB}⟩
  ·have q:=l.e 13 8 k.f13;clear l;go_simp;exact⟨_,rfl,{k with f14:=aB}⟩
  ·have q:=l.e 13 8 k.f13;clear l;go_simp;exact⟨_,rfl,{k with f15:=aB}⟩
  ·have q:=l.e 14 22 k.f14;clear l;go_simp;exact⟨_,rfl,{k with f16:=aB}⟩
  ·have q:=l.e 15 23 k.f15;clear l;go_simp;exact⟨_,rfl,{k with f17:=aB}⟩
 simp only[jG,Act.put,Nat.reduceAdd,dD];rw[k.f16 rfl];rw[k.f17 rfl];have cA:=k.b;have du:=A (ar HB.1 cA);clear k cA;by_cases Z:l=0
 ·have z0:(l==0)=true:=gI.2 Z;rw[z0,jY]at T;go_wp2_with fail;go_ret;exact⟨cg T.1.symm,du.1⟩
 ·have z0:(l==0)=false:=eH.2 Z;rw[z0,uP]at T;go_wp2_with fail;go_ret;exact⟨cg T.1.symm,du.1⟩
open Go.ChangeMaps (setBlock)
theorem auv{p:Act->World->Prop}{t:Exit->Act->World->Prop}(m q:TypeId)(l k:Nat)(P:j.op=.lookup m (.tmp l) (.tmp k) false)(Q:prog.underlying m=some (.map 3 q)){c:Int->Option Value}(T:jH W b c){z:Value}(R:(zeroValue q).run prog W=.ok z W){n:Int}(hn:aN n)
  (H:d.tmps[l]?.getD undef=.map (some b)) (D:d.tmps[k]?.getD undef=n) (y:p (d.put j.dst ((c n).getD z)) W):Oper.wp prog j d W p t:=by
 have O:d.eval (.tmp l)=.map (some b):=by rw[<-H];exact gi
 have S:d.eval (.tmp k)=n:=by rw[<-D];exact gi
 have E:=T.look Q R hn;unfold Oper.wp;simp[execOp,P,O,S,E,Result.andThen];exact y
theorem auw{y:Act->World->Prop}{D:Exit->Act->World->Prop}(t z1z:TypeId)(l k q:Nat)(X:j.op=.mapUpdate t (.tmp l) (.tmp k) (.tmp q))(Z:prog.underlying t=some (.map 3 z1z)){c:Int->Option Value}(z2z:jH W b c){n:Int}(hn:aN n)(v:Value)
  (S:d.tmps[l]?.getD undef=.map (some b)) (R:d.tmps[k]?.getD undef=n) (hx:d.tmps[q]?.getD undef=v)
  (Q:∀i,jH i b (th c n v)->(∃m,i=setBlock W b m)->(∀p,p≠b->i.heap[p]?=W.heap[p]?)->y (d.put j.dst undef) i):Oper.wp prog j d W y D:=by
 have T:d.eval (.tmp l)=.map (some b):=by rw[<-S];exact gi
 have iy:d.eval (.tmp k)=n:=by rw[<-R];exact gi
 have z:d.eval (.tmp q)=v:=by rw[<-hx];exact gi
 obtain⟨w',E,H,m,O,P⟩:=z2z.put Z hn v;unfold Oper.wp;simp[execOp,X,T,iy,z,E,Result.andThen];exact Q w' H ⟨m,O⟩ P
def vL(F:Int)(k:List cP)(n:Int):List cP:=k.filter λa=>decide (a.dealer=n)&&nF a.row F
def M6(g:Int->List cP)(a:cP):Int->List cP:=λk=>if k=a.dealer then g k++[a] else g k
theorem auy{l:List cP}{a:cP}(q:nF a.row F=true):vL F (l++[a])=M6 (vL F l) a:=by
 funext m;unfold vL M6;rw[x9];by_cases k:m=a.dealer
 ·rw[aD k,Xv (by simp[q,k])];rfl
 ·rw[aA k,SY (by simp;intro p;exact absurd p.symm k)];simp
theorem auz{k:List cP}{a:cP}(l:nF a.row F=false):vL F (k++[a])=vL F k:=by
 funext m;unfold vL;rw[x9,SY (by simp[l])];simp
theorem aib{k:List cP}{n:Int}:(vL F k n).length<=k.length:=Od ..
def uH(c:Int->Option Value)(n:Int):Value:=(c n).getD (.slice none 0 0)
theorem abr(c:Int->Option Value)(n:Int)(v:Value):uH (th c n v) n=v:=by unfold uH th;rw[aD rfl];rfl
theorem VI(c:Int->Option Value){n k:Int}(v:Value)(l:k≠n):uH (th c n v) k=uH c k:=by unfold uH th;rw[aA l]
structure tR(f:Nat)(W:World)(c:Int->Option Value)(g:Int->List cP):Prop where
 own:∀n,W.ownsRow f 92 5 (uH c n) (g n).length ((g n).flatMap iM)
 apart:∀n k,n≠k->∀l,(uH c n).ownBlock=some l->(uH c k).ownBlock≠some l
theorem abt{p:World}{m:Nat}{q:TypeId}(H:w.ownsRow f q m v n I)(D:∀k,v.ownBlock=some k->p.heap[k]?=w.heap[k]?):p.ownsRow f q m v n I:=by
 obtain⟨z,l⟩:=H;refine⟨z,?_⟩;rcases l with l|⟨k,t,y,rfl,b,a,E⟩
 ·exact .inl l
 ·exact .inr ⟨k,t,y,rfl,b,(D k rfl).trans a,E⟩
theorem tR.nil(f:Nat)(W:World):tR f W (λ_=>none) (λ_=>[]):=
 ⟨λ_=>⟨rfl,.inl ⟨rfl,rfl⟩⟩,λ_ _ _ l k=>by cases k⟩
theorem tR.kept{c:Int->Option Value}{g:Int->List cP}(l:tR f W c g)(p:∀k,f<=k->k<W.heap.size->i.heap[k]?=W.heap[k]?):tR f i c g:=
 ⟨λn=>abt (l.own n) λk m=>p k (pP (l.own n) k m).1 (pP (l.own n) k m).2,l.apart⟩
theorem tR.below{c:Int->Option Value}{g:Int->List cP}(p:tR f W c g)(k:Below W W i):tR f i c g:=
 p.kept λm _ l=>k.block m l
theorem tR.app{c:Int->Option Value}{g:Int->List cP}(y:tR f W c g)(a:cP)(E:fI W (uH c a.dealer) i v)(O:i.ownsRow f 92 5 v ((g a.dealer).length+1) ((g a.dealer++[a]).flatMap iM)):tR f i (th c a.dealer v) (M6 g a):=by
 have H:∀k,k≠a.dealer->∀m,v.ownBlock=some m->(uH c k).ownBlock≠some m:=λk p m q l=>by
  rcases E.2 with D|⟨P,D,Q⟩
  ·exact y.apart k a.dealer p m l (D▸q)
  ·rw[D]at q;injection q with q;subst q;have:=(pP (y.own k) _ l).2;omega
 refine⟨λk=>?_,λn k z m t l=>?_⟩
 ·by_cases p:k=a.dealer
  ·subst p;rw[abr,show M6 g a a.dealer=g a.dealer++[a] from aD rfl,fu];exact O
  ·rw[VI _ _ p,show M6 g a k=g k from aA p];exact FQ (y.own k) E.1 λm t l=>y.apart k a.dealer p m t l
 ·by_cases hn:n=a.dealer
  ·subst hn;rw[abr]at t;rw[VI _ _ (λq=>z q.symm)]at l;exact H k (λq=>z q.symm) m t l
  ·rw[VI _ _ hn]at t;by_cases p:k=a.dealer
   ·subst p;rw[abr]at l;exact H n hn m l t
   ·rw[VI _ _ p]at l;exact y.apart n k z m t l
theorem tR.cmps{c:Int->Option Value}{g:Int->List cP}(m:tR f W c g)(n:Int)(l:∀a∈g n,C5 a)(k:(g n).length<=1000000):xD W (uH c n) (g n):=xD.own (m.own n) l k
theorem aic:(prog.info? 92).map (λk=>(k.zero.map (·.cells.size),k.size,k.bytes))=some (some 5,5,40):=by kernel_rfl
theorem auA{O:Act->World->Prop}{Q:Exit->Act->World->Prop}{P:Prop}(X:j.guard=none)(D E:Operand)(ho:j.op=.call {callee:=.builtin .append,args:=#[D,E],argTypes:=#[78,78]})
  (f:Nat) (v:Value) (y:List cP) (n:Nat) (hs:d.eval D=v) (S:W.ownsRow f 92 5 v n (y.flatMap iM)) (b a:Nat) (z:cP) (hx:d.eval E=.slice (b,0) 1 a) (T:∀t h,(iM z)[t]?=some h->W.cell? ⟨b,t,none⟩=some h) (hn:n<=1000000) (Z:f<=W.heap.size)
  (z2z:∀k l m,m.ownsRow f 92 5 (.slice (some ⟨k,0,none⟩) (n+1) l) (n+1) ((y++[z]).flatMap iM)->fI W v m (.slice (some ⟨k,0,none⟩) (n+1) l)->O (d.put j.dst (.slice (some ⟨k,0,none⟩) (n+1) l)) m):
  if Region.wanted j (yielded L d.tmps)=true then Oper.wp prog j d W O Q else P:=by
 obtain⟨z3z,hi,H⟩:=kA.1 aic;simp only[pN]at H;obtain⟨hz,R,hb⟩:=H;obtain⟨zv,oW,oX⟩:=kA.1 hz;refine step_append_lies _ X D E 78 ho f 92 z3z zv 5 40 underlying78 hi oW R hb oX (by decide) v n (y.flatMap iM) hs S (b,0) 1 a (iM z) hx rfl ?_ ?_ (by decide) ?_ ?_ Z W.heap.size rfl ?_
 ·intro t h q;rw[Cu];exact T t h q
 ·intro h q;simp only[iM,iu,oG,oH]at q;rcases q with rfl|rfl|rfl|rfl|rfl<;>rfl
 ·unfold maxLen;omega
 ·omega
 ·intro k l m h1 h2 p _;refine z2z k l m (by rw[ah7];exact h1) ⟨h2,?_⟩;rcases p with p|p
  ·exact .inl (p▸rfl)
  ·exact .inr ⟨k,rfl,by omega⟩
theorem auB{H:Act->World->Prop}{y:Exit->Act->World->Prop}(D:j.guard=none)(q t:Nat)(S:j.op=.call {callee:=.builtin .append,args:=#[.tmp q,.tmp t],argTypes:=#[78,78]})
  (f:Nat) (v:Value) (l:List cP) (n:Nat) (T:d.tmps[q]?.getD undef=v) (P:W.ownsRow f 92 5 v n (l.flatMap iM)) (b a:Nat) (z:cP) (X:d.tmps[t]?.getD undef=.slice (b,0) 1 a) (Q:∀O h,(iM z)[O]?=some h->W.cell? ⟨b,O,none⟩=some h) (hn:n<=1000000) (R:f<=W.heap.size)
  (Z:∀p k m,m.ownsRow f 92 5 (.slice (some ⟨p,0,none⟩) (n+1) k) (n+1) ((l++[z]).flatMap iM)->fI W v m (.slice (some ⟨p,0,none⟩) (n+1) k)->H (d.put j.dst (.slice (some ⟨p,0,none⟩) (n+1) k)) m):
  Oper.wp prog j d W H y:=by
 have E:=auA (L:=#[]) (P:=False) (Q:=y) D (.tmp q) (.tmp t) S f v l n (by rw[<-T];exact gi) P b a z (by rw[<-X];exact gi) Q hn R Z;rw[aD (by unfold Region.wanted;rw[D])]at E;exact E
def VJ(w:World)(v:Value)(z:cP):Prop:=∃b a,v=.slice (some ⟨b,0,none⟩) 1 a/\∀k h,(iM z)[k]?=some h->w.cell? ⟨b,k,none⟩=some h
theorem abu{z:cP}{m:TypeId}(p:W.heap[b]?=QC.mk #[z.dealer,z.row,z.D,z.E,z.S] m)(k:Nat)(h:Value)(l:(iM z)[k]?=some h):W.cell? (b,k)=some h:=
 Y p (by
  match k with
  |0|1|2|3|4=>exact l
  |n+5=>simp[iM]at l)
theorem VJ.new(W:World)(z:cP)(l:TypeId):VJ (W.alloc (.cells #[z.dealer,z.row,z.D,z.E,z.S] l)) (.slice (W,0) 1 1) z:=
 ⟨W.heap.size,1,rfl,λm h k=>abu (World.alloc_heap_new _ _) m h k⟩
structure zf(r x o f:Nat)(c:Int->Option Value)(g:Int->List cP)(a:cP)(u B:Bool)(C:Value)(W:World):Prop where
 map0:B=false->jH W r c
 map1:B=true->jH W r (th c a.dealer C)
 rows0:u=false->tR f W c g
 rows1:u=true->tR f W (th c a.dealer C) (M6 g a)
 cell:∀k h,(iM a)[k]?=some h->W.cell? ⟨o,k,none⟩=some h
 tab:W.cell? (x,0)=some (.map (some r))
 far:u=false->(uH c a.dealer).ownBlock≠some o
 lt:r<f/\x<f/\f<=o/\o<W.heap.size/\x≠r
section
variable {r x o f:Nat} {c:Int->Option Value} {g:Int->List cP} {a:cP} {u B:Bool} {C:Value} {W i:World}
theorem zf.below(k:zf r x o f c g a u B C W)(l:Below W W i):zf r x o f c g a u B C i:=
 ⟨λm=>(k.map0 m).below l,λm=>(k.map1 m).below l,λm=>(k.rows0 m).below l,λm=>(k.rows1 m).below l,λq h p=>U l (k.cell q h p),U l k.tab,k.far,⟨k.lt.1,k.lt.2.1,k.lt.2.2.1,eJ k.lt.2.2.2.1 l.size,k.lt.2.2.2.2⟩⟩
theorem zf.big(k:zf r x o f c g a u B C W):f<=W.heap.size:=by have:=k.lt;omega
theorem zf.app(l:zf r x o f c g a u B C W)(p:u=false)(t:B=false){v:Value}(m:fI W (uH c a.dealer) i v)(H:i.ownsRow f 92 5 v ((g a.dealer).length+1) ((g a.dealer++[a]).flatMap iM)):
  zf r x o f c g a true B v i:=by
 obtain⟨y,z,O,D,P⟩:=l.lt;have q:=(l.rows0 p).own a.dealer;refine⟨λ_=>(l.map0 t).kept (m.1.block _ (by omega) (λk=>pQ q (.inr y) k.symm)),(λk=>by rw[t]at k;cases k),(λk=>by cases k),λ_=>(l.rows0 p).app a m H,λQ h E=>?_,?_,(λk=>by cases k),y,z,O,eJ D m.1.size,P⟩
 ·rw[rH m D (l.far p)];exact l.cell Q h E
 ·rw[rH m (by omega) (pQ q (.inr z))];exact l.tab
theorem cell_kept{w k:World}{b j:Nat}{v:Value}(l:w.cell? (b,j)=some v)(m:k.heap[b]?=w.heap[b]?):k.cell? (b,j)=some v:=by
 unfold World.cell? at l ⊢;rw[m];exact l
theorem zf.turn(k:zf r x o f c g a u B C W)(t:u=true)(z:jH i r (th c a.dealer C))(R:i.heap.size=W.heap.size)(m:∀p,p≠r->i.heap[p]?=W.heap[p]?):zf r x o f c g a u true C i:=by
 obtain⟨D,E,H,S,q⟩:=k.lt;exact⟨λl=>(by cases l),λ_=>z,λl=>(by rw[t]at l;cases l),λ_=>(k.rows1 t).kept λO Q _=>m O (by omega),λP h y=>cell_kept (k.cell P h y) (m o (by omega)),cell_kept k.tab (m x q),k.far,D,E,H,by omega,q⟩
end
attribute [local go_sem] Oper.semAt_some
def zg:bD:=⟨0,[],[]⟩
def M7(e:ak)(k:List bD)(l:Nat):Bool:=mX e (k.getD l zg)
def gh(e:ak)(l:List bD)(k:Nat):aO:=(List.range k).filter (M7 e l)
theorem M8{k:List bD}{l:Nat}(m:l<k.length):M7 e k l=mX e k[l]:=by unfold M7;rw[dp m]
theorem abv{k:List bD}(l:M7 e k n=true):gh e k (n+1)=gh e k n++[n]:=by
 unfold gh;rw[sP,x9];simp[l]
theorem aid{k:List bD}(l:M7 e k n=false):gh e k (n+1)=gh e k n:=by
 unfold gh;rw[sP,x9];simp[l]
theorem auC(e:ak)(l:List bD)(p:n<=s):∃m,gh e l s=gh e l n++m:=by
 obtain⟨k,rfl⟩:∃k,s=n+k:=⟨s-n,by omega⟩;unfold gh;rw[List.range_add,x9];exact⟨_,rfl⟩
theorem auD{k:List bD}(p:n<s)(m:M7 e k n=true):(gh e k s).getD (gh e k n).length 0=n/\(gh e k n).length<(gh e k s).length:=by
 obtain⟨q,l⟩:=auC e k (show n+1<=s by omega);rw[abv m]at l;rw[l];constructor
 ·simp
 ·simp
def Ff(m:List bD)(l:tQ)(k:Nat):Value:=.agg #[.int .i64 (m.getD k zg).dealer,(l k).1,(l k).2]
def abw(k:List bD)(m:tQ)(l:Nat):Array Value:=#[.int .i64 (k.getD l zg).dealer,Ff k m l]
theorem aie:eQ prog 160:=iw func160 (by kernel_rfl) rfl
theorem aif(l k:Value)(m:Option Addr)(q p:Nat)(w:World)(y:∃d n a,l=.slice d n a)(t:∃d n a,k=.slice d n a):
  Calls prog 87 #[.agg #[l,k],.slice m q p] w λD z =>
   D=.returned (.func (.func 160) #[] #[(w.heap.size+1,0),(w,0)])/\z=(w.alloc (.cells #[l,k] 25)).alloc (.cells #[.slice m q p] 77):=by
 obtain⟨E,Q,O,rfl⟩:=y;obtain⟨H,R,P,rfl⟩:=t;go_enter func87,ntmps87;go_wp2_with fail;go_ret;exact⟨rfl,rfl⟩
theorem aih(w:World)(K pb:Nat)(rv ov lv:Value)(e:ak)(l:List bD)(q:tQ)(D:bI w rv e)(hO:∃d n a,ov=.slice d n a)(hL:ze w lv l q)(z0z:Nat->World->Prop)
  (hF:∀k W,z0z k W->Below w w W/\W.cell? (K,0)=some lv/\W.cell? (pb,0)=some rv/\W.cell? (pb,1)=some ov):
  wL prog 160 #[(K,0),(pb,0)] (gh e l l.length).length (λk=>abw l q ((gh e l l.length).getD k 0)) z0z:=by
 intro ll z1 Jx W hJ hA hY h0;obtain⟨a1,k1,rfl,-⟩:=id D;obtain⟨a2,n2,k2,rfl⟩:=hO;obtain⟨a3,k3,rfl,-,gC,-⟩:=id hL;obtain⟨-,zl,-,-⟩:=hF 0 W (hJ 0 W h0);obtain⟨HF,HY,HA,HR,HL⟩:=gw hF hY hA D hL;refine FH func160 rfl trivial ?_ rfl;simp only[ntmps160,kS,dZ,je,Nat.reduceAdd,Nat.reduceSub,kU,kV,kW,kX,jf,jn];clear hF hY hA D hL
 gi_wp2
 gi_loopw[5,8] (λ_ z4z wr=>∃k:Nat,k<=l.length/\z4z=.int .i64 k/\z1 (gh e l k).length wr) (λ_ z4z _=>l.length-(intOf z4z).toNat)
 case atStart=>exact⟨0,bS _,rfl,h0⟩
 case round =>
  obtain⟨k,hj,rfl,S⟩:=hrel;by_cases Q:k<l.length
  ·obtain⟨Z,z0,zp0,zp1⟩:=HF.1 _ wr (hJ _ wr S);obtain⟨b,off,ea,t⟩:=(HL.1.below Z).at Q;have Rf:abw l q k=#[.int .i64 l[k].dealer,.agg #[.int .i64 l[k].dealer,(q k).1,(q k).2]]:=by unfold abw Ff;rw[dp Q]
   obtain⟨P,O,H,y⟩:=cY Rf (M8 (e:=e) Q) t.cs t.ps;have y1:=t.c0;have y2:=t.c1;have y3:=t.c2;subst ea;clear Rf t;obtain⟨m,hd⟩:=aK (l[k]);rw[<-hd]at y1 P O H y;clear hd;obtain⟨cv,Bv⟩:=aK ((q k).1);obtain⟨pv,nq⟩:=aK ((q k).2);rw[<-Bv]at y2 H P;rw[<-nq]at y3 y P;clear Bv nq;obtain⟨ac,kc,rfl,-⟩:=id H.1;obtain⟨ap,kp,rfl,-⟩:=id y.1;obtain⟨T,VM,p,R,vg⟩:=C4 wr m.dealer (.slice ac m.cs.length kc) (.slice ap m.ps.length kp) 84;have q0:T.cell? (wr,0)=m.dealer:=Y R rfl;have q1:T.cell? (wr,1)=some (.slice ac m.cs.length kc):=Y R rfl;have q2:T.cell? (wr,2)=some (.slice ap m.ps.length kp):=Y R rfl;have qp0:=U p zp0;have qp1:=U p zp1;obtain⟨HWN,ti,HC⟩:=bJ VM p (at6 _ _ _ _ e m T (HR.1.below (ar Z p)) ⟨a2,n2,k2,rfl⟩ (H.1.below p) (y.1.below p));have i0:0<=(k:Int):=by omega
   have i1:(k:Int)<(l.length:Int):=by omega
   have GF:=A S;clear VM p R vg S Z H y
   gi_wp2_with (rw[<-HWN.1])
   refine⟨trivial,rfl,(Dz (n:=0)).2 (HC.1.mono ?_)⟩;rintro z2z w6 ⟨rfl,z⟩;have cO:=A (ar ti.1 z);have t0:=U z q0;have t1:=U z q1;have t2:=U z q2;clear z;cases E:mX e m with
   |true =>
    obtain⟨wW,lS⟩:=auD (e:=e) (k:=l) Q (O.1.trans E);have X:=A (show(gh e l (k+1)).length=(gh e l k).length+1 by rw[abv (O.1.trans E)];simp);obtain⟨fn,tmps,assign,body,hy,D⟩:=HY.1 _ w6 (HA.1 _ wr w6 GF.1 cO.1) lS;simp only[wW]at hy;rw[P.1]at hy;have BV:=A lS;clear E wW lS
    gi_wp2
    refine⟨rfl,D.mono ?_⟩;rintro z2z W3 (⟨rfl,yu⟩|⟨rfl,uV⟩)
    ·gi_wp2
     go_roundw;case rel=>exact⟨k+1,by omega,by go_num,by rw[X.1];exact yu⟩
     case measure=>simp[intOf];omega
    ·gi_wp2
     refine gB (xX rfl _ _ _) rfl ?_;exact⟨⟨_,rfl⟩,.inr ⟨_,by have:=BV.1;omega,uV⟩⟩
   |false =>
    obtain⟨X,HJ6⟩:=aR (show(gh e l (k+1)).length=(gh e l k).length by rw[aid (O.1.trans E)]) (HA.1 _ wr w6 GF.1 cO.1);clear E
    gi_wp2
    refine⟨λ_ z3z=>(by cases z3z),?_⟩
    gi_wp2
    go_roundw;case rel=>exact⟨k+1,by omega,by go_num,by rw[X.1];exact HJ6.1⟩
    case measure=>simp[intOf];omega
  ·obtain rfl:k=l.length:=by omega
   gi_wp2
   go_end0;exact⟨⟨_,rfl⟩,.inl S⟩
theorem auE(p:Addr)(T l:Int)(q:List PanicEntry)(w:World)(Z:w.cell? p=T)(hz:w.frozen? p=false):
  CallsDIn Fence.wide 0 prog 69 #[.pointer (some p)] (.panicking ({v:=.iface 29 l,recovered:=false}::q)) w λD z k =>
   D=.returned (.tuple #[])/\z=.panicking ({v:=.iface 29 l,recovered:=true}::q)/\k=w.setCell p l:=by
 have X:∀w,(Instr.typeAssert (.iface 29 l) 20 29 true).run prog w=.ok (.tuple #[l,true]) w:=λ_=>by kernel_rfl
 refine callsDIn_of_wpSIn func69 rfl trivial λa₀ E P=>?_;simp only[ntmps69,kS,dZ,je,Nat.reduceAdd,Nat.reduceSub,kU,kV,kW,kX,jf,jn];apply wpSIn_seq;apply wpSIn_region;simp[wpOpsSIn,go_sem,recoverD,P,Exit.thenS];generalize O:({fn:=a₀.fn,tmps:=a₀.tmps,todo:=a₀.todo,defers:=a₀.defers,mode:=FrameMode.panicking ({v:=Value.iface 29 (Value.int IntKind.i64 l),recovered:=true}::q),kind:=a₀.kind,roundOf:=a₀.roundOf}:Frame)=S;have R:=A (show ∀m k,m.defers=[]->k=w.setCell p l->bodyPostS prog Tryz.f69 a₀ E (λD z k=>D=Ending.returned (Value.tuple #[])/\z=FrameMode.panicking ({v:=Value.iface 29 (Value.int IntKind.i64 l),recovered:=true}::q)/\k=w.setCell p (Value.int IntKind.i64 l)) .normal m (S::E) k by
  intro m k t y;simp[bodyPostS,results,results69,t,y,<-O])
 clear O P;refine wpSIn_of_wpIn rfl ?_;refine wpIn_mono (Q:=λH m k=>H=.normal/\m.defers=[]/\k=w.setCell p l) ?_ ?_
 ·gi_wp2
 ·rintro H m k ⟨rfl,t,y⟩;exact R.1 m k t y
theorem auF(p:Addr)(w:World):
  CallsDIn Fence.wide 0 prog 69 #[.pointer (some p)] .returning w λq l m=>q=.returned (.tuple #[])/\l=.returning/\m=w:=by
 refine callsDIn_of_wpSIn func69 rfl trivial λa₀ y k=>?_;apply wpSIn_seq;apply wpSIn_region;simp[wpOpsSIn,go_sem,recoverD,k,ntmps69,Exit.thenS];apply wpSIn_seq;apply wpSIn_region;simp[wpOpsSIn,go_sem,Exit.thenS];refine wpSIn_cond (t:=false) (by simp[Act.eval,Array.replicate]) ?_;simp only[FE,Ck];refine wpSIn_of_wpIn rfl (wpIn_skip ?_);cases a₀;simp_all[bodyPostS,results,results69]
theorem aii{t:FuncId}{args:Array Value}{p q:Ending->FrameMode->World->Prop}(y:CallsDIn c n G t args h w p)(O:∀m k l,p m k l->q m k l):CallsDIn c n G t args h w q:=
 ⟨y.1,λa z P Q=>let ⟨m,k,l,D,E,H⟩:=y.2 a z P Q;⟨m,k,l,D,O _ _ _ E,H⟩⟩
theorem zh{m:Ending->World->Prop}(p:Addr)(q k:Int)(w:World)(t:w.cell? p=q)(y:w.frozen? p=false)(l:LeavesInM Fence.wide 0 prog fn tmps m [] .returning (w.setCell p k)):
  LeavesInM Fence.wide 0 prog fn tmps m [{target:=.fn (.func 69) #[],args:=#[.pointer (some p)]}] (.panicking (Cw k)) w:=by
 refine⟨by simp,.inr ⟨λl=>by simp[Fence.wide]at l,_,_,69,#[.pointer (some p)],rfl,by simp[go_sem],λ_ _=>trivial,?_⟩⟩;refine aii (auE p q k [] w t y) ?_;rintro E z D ⟨rfl,rfl,rfl⟩;exact l
theorem aij{l:Ending->World->Prop}(p:Addr)(w:World)(k:LeavesInM Fence.wide 0 prog fn tmps l [] .returning w):
  LeavesInM Fence.wide 0 prog fn tmps l [{target:=.fn (.func 69) #[],args:=#[.pointer (some p)]}] .returning w:=by
 refine⟨by simp,.inr ⟨λk=>by simp[Fence.wide]at k,_,_,69,#[.pointer (some p)],rfl,by simp[go_sem],λ_ _=>trivial,?_⟩⟩;refine aii (auF p w) ?_;rintro t m q ⟨rfl,rfl,rfl⟩;exact k
theorem Rg{l:Ending->World->Prop}{k:Nat}(p:h≠.run)(m:w.heap[k]?=some (.deferred (some [])))(q:LeavesInM Fence.wide 0 prog fn tmps l M h (w.putObj k (.deferred none))):
  LeavesInM Fence.wide 0 prog fn tmps l ({target:=.collected k,args:=#[]}::M) h w:=⟨p,.inl ⟨k,_,rfl,run_takeDeferred m,q⟩⟩
theorem aik{z3z:Operand}{R:Array Tmp}{Z body:Code}{S:Exit->Act->World->Prop}
  {P:FuncId}  (hg:d.eval z3z=.func (.func P) #[] K) (eg:eQ G P)
   {fi:Nat->Array Value} (lQ:∀k,(fi k).size=R.size)
  (q:Nat->World->Prop) (nK:wL G P K s fi q)
  (hI:∀k W i,q k W->eM w.heap.size W i->q k i)
  (h0:q 0 w) (O:Nat->Nat->Array Value->Array Value) (y:Nat->Nat->World->Prop) (hM3:∀k l W i,y k l W->eM w.heap.size W i->y k l i)
  (yg:∀(t k:Nat) (W:World) (E:Act->World->Prop),q k W->k<s->(∀l i,y k l i->ft W i->E {tmps:=O k l d.tmps,defers:=[]} i) ->
   Z.wpIn (Fence.wide.inRound t) 0 G (Exit.then E (λ_ _ _=>False)) {tmps:=(R.zip (fi k)).foldl (λz (p,v)=>z.setIfInBounds p v) d.tmps,defers:=[]} W)
  (yh:∀(t k l:Nat) (W:World),y k l W->k<s->body.wpIn (Fence.wide.inRound t) 0 G (ahr q (λ_ _ _=>False) k W) {tmps:=O k l d.tmps,defers:=[]} W)
  (yi:∀(H:Nat) (W:World),w.heap.size<=H->q s W->W.heap[H]?=some (.deferred (some []))->ft w W->S .normal {d with defers:={target:=.collected H,args:=#[]}::d.defers} W):
  (Code.rangeFunc z3z R Z body).wp G S d w:=
 as4 hg eg lQ q q (λ_ T X=>T=X) (λ_ _ _=>False) (as3 nK) hI (λ_ _ _ _ m _=>m)
  (λk T X m _ D=>by subst D;exact⟨m,ft.refl _⟩) h0 (λk z W=>∃l,z=O k l d.tmps/\y k l W) (λk z W i ⟨l,D,m⟩ hs=>⟨l,D,hM3 _ _ _ _ m hs⟩)
  (λt k W E m Q hK=>yg t k W E m Q λl i h1 h2=>hK _ _ ⟨l,rfl,h1⟩ h2)
  (λt k z W ⟨l,D,m⟩ Q=>by subst D;exact yh t k l W m Q) yi (λ_ _ _ _ _ _ m=>m.elim)
theorem ail{D:Nat}{y:Exit->Act->World->Prop}(Q:j.guard=none)(q t:Operand)(ho:j.op=.call {callee:=.builtin .append,args:=#[q,t],argTypes:=#[23,23]})
  (f n:Nat) (v:Value) (I:List Value) (hs:d.eval q=v) (O:W.ownsRow f 3 1 v n I) (b a:Nat) (z:Int) (hx:d.eval t=.slice (b,0) 1 a) (P:W.cell? (b,0)=z) (hn:n<=1000000) (R:f<=W.heap.size)
  (z2z:∀k l,l.ownsRow f 3 1 k (n+1) (I++[.int .i64 z])->W.grownBy l v.ownBlock->(k.ownBlock=v.ownBlock\/∃E,k.ownBlock=some E/\W.heap.size<=E)->wpListIn c D prog L y N (d.put j.dst k) l):wpListIn c D prog L y (j::N) d W:=by
 obtain⟨i0,jD,jq,S,T⟩:=xY F2;refine wpListIn_append_own_at (w:=W) Q q t 23 ho f 3 i0 (0:Int) 1 8 underlying23 jD jq S T rfl (by decide) v n I hs O (b,0) 1 a [z] hx rfl ?_ ?_ ?_ ?_ R ?_
 ·intro H h m;cases H with
  |zero=>simp at m;subst m;simpa [Addr.add] using P
  |succ H=>simp at m
 ·simp[Value.oneCell']
 ·unfold maxLen;omega
 ·omega
 ·intro k l X Z _ h3;exact z2z k l X Z (h3.imp (λp=>p) λp=>⟨_,p,aP _⟩)
