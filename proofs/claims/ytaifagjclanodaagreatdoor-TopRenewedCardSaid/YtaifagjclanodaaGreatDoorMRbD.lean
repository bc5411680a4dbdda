/- Package rebuild: helpers, collected. Package rebuild: Plan. -/
import Derived.Test.YtaifagjclanodaaGreatDoorMDeaX
set_option maxHeartbeats 8000000
set_option maxRecDepth 100000
namespace Go.Proofs.YtaifagjclanodaaGreatDoor
open Go.Proofs.Tryz
open Go.RowKit FP
variable{b:Int}{a:ak}
attribute [local go_sem] Oper.semAt_some
theorem aa3{c:V}(d:iU a b c=true)(k:Nat):iU a b (c.take k)=true:=by
 cases e:iU a b (c.take k) with
 |true=>rfl
 |false=>rw[agK e]at d;cases d
theorem asv(a:ak)(b:Int)(d:V):∃c,c<=d.length/\iU a b (d.take c)=true/\∀e:c<d.length,xi a.length b (og (d.take c)) d[c]=false:=by
 suffices ∀f,f<=d.length->(∃c,c<=f/\iU a b (d.take c)=true/\∀e:c<d.length,c<f->xi a.length b (og (d.take c)) d[c]=false) by
  obtain⟨c,j,g,h⟩:=this d.length (aP _);exact⟨c,j,g,λe=>h e e⟩
 intro f
 induction f with
 |zero=>exact λ_=>⟨0,aP _,by rw[KS];rfl,λ_ e=>absurd e (fG _)⟩
 |succ f m =>
  intro n;obtain⟨c,j,g,h⟩:=m (by omega);by_cases k:c=f
  ·subst k;have l:=UP (by omega:c<d.length) g;cases i:xi a.length b (og (d.take c)) (d[c]'(by omega)) with
   |true=>exact⟨c+1,aP _,by rw[l,i],λ_ e=>absurd e (KT _)⟩
   |false=>exact⟨c,by omega,g,λ_ _=>i⟩
  ·exact⟨c,by omega,g,λe _=>h e (by omega)⟩
theorem asw{c:V}{d:Nat}(j:d<=c.length)(g:iU a b (c.take d)=true)(h:∀i:d<c.length,xi a.length b (og (c.take d)) c[d]=false):iU a b c=decide (d=c.length):=by
 by_cases e:d=c.length
 ·rw[bB e];subst e;rwa [m9]at g
 ·have f:d<c.length:=by omega
  rw[bw e];exact agK (k:=d+1) (by rw[UP f g,h f])
theorem asx(h M P:Nat)(Q K:Value)(b:Int)(d:V)(a:ak)(m:World)(Z:Option Addr)(cap:Nat)(q:Nat->Value)(sj:Q=.slice Z a.length cap)
  (z:∀k,k<a.length->∃z1z L,Z=some ⟨z1z,L,none⟩/\m.cell? ⟨z1z,L+k,none⟩=some (q k)) (y:aM m K d) (g:Nat) (hm:g<=d.length) (u:iU a b (d.take g)=true) (W:∀i:g<d.length,xi a.length b (og (d.take g)) d[g]=false)
  (Mw:m.cell? (h,0)=some K) (I3:m.cell? (M,0)=some Q) (mI:m.cell? (P,0)=b) (D:Nat->World->Prop) (H:∀c p,D c p->Below m m p):
  wL prog 167 #[(h,0),(M,0),(P,0)] g (λc=>#[q (d.getD c 0).toNat]) D:=by
 subst sj;intro ll z0 Jx p I hA hY F;have HG:=A (λk (hk:k<d.length)=>y.get hk);obtain⟨al,cl,rfl,-,I4,t,-⟩:=id y;refine FH func167 rfl trivial ?_ rfl;simp only[ntmps167,kS,dZ,je,Nat.reduceAdd,Nat.reduceSub,kU,kV,kW,kX,jf,jn];have E:=H 0 p (I 0 p F);have c0:=U E Mw;obtain⟨w,yS,CX⟩:=bJ u W (λe j=>(aaD u e j).1);clear y u W E t
 gi_wp2
 gi_loopw[5,10] (λlast B wr=>∃c:Nat,c<=g/\B=.int .i64 c/\last=(og (d.take c):Int)/\z0 c wr) (λ_ B _=>d.length-(intOf B).toNat)
 case atStart=>exact⟨0,bS _,rfl,rfl,F⟩
 case round =>
  obtain⟨c,hj,rfl,rfl,r⟩:=hrel;have h:=H c wr (I c wr r);have zp:=U h I3;have zr:=U h mI;by_cases Gb:c=d.length
  ·obtain rfl:c=g:=by omega
   gi_wp2
   go_end0;exact⟨⟨_,rfl⟩,.inl r⟩
  ·have n:c<d.length:=by omega
   obtain⟨t,b1,o1,n1,k1,x,C⟩:=HG.1 c n;simp only[dr]at x;obtain⟨rfl,-,-⟩:=x;have X:=U h C;rw[di n]at X t;have j0:(0:Int)<=(c:Int):=by omega
   have j1:(c:Int)<(d.length:Int):=by omega
   obtain⟨s,o⟩:=aK (og (d.take c));have O:=agJ (aa3 (a:=a) (b:=b) (c:=d.take g) w.1 c);rw[List.take_take,SV hj,<-o]at O;have R:=A (aq8 n);obtain⟨e,j⟩:=aK (d[c]);rw[<-j]at X t R;rw[<-o];by_cases hjm:c<g
   ·have f:xi a.length b s e=true:=by
     have G:=aa3 w.1 (c+1);rw[List.take_take,SV (by omega),UP n (by have h3:=aa3 w.1 c;rwa [List.take_take,SV (by omega)]at h3),<-o,<-j]at G;exact G
    unfold xi at f;simp only[cu,fU]at f;obtain⟨l,hn⟩:∃l:Nat,e=l:=⟨e.toNat,by omega⟩;have CN:l<a.length:=by omega
    obtain⟨b2,oQ,rfl,N⟩:=z l CN;have S:q (d.getD c 0).toNat=q l:=by rw[dp n,<-j,hn,AZ]
    have z2:=U h N;have x:decide (e<=s)=false:=bw (by omega);have e2:decide ((a.length:Int)<=e)=false:=bw (by omega);have e3:(e==b)=false:=eH.2 f.2.2;subst hn;have n0:0<=(l:Int):=by omega
    have n1:(l:Int)<(a.length:Int):=by omega
    obtain⟨fn,tmps,assign,body,hy,hR⟩:=hY c _ r hjm;simp only[S]at hy;clear z C N S f j o h O;generalize q l=gv at *
    gi_wp2
    refine⟨rfl,hR.mono ?_⟩;rintro z1 W3 (⟨rfl,yu⟩|⟨rfl,uV⟩)
    ·gi_wp2
     go_roundw;case rel=>exact⟨c+1,by omega,by go_num,by rw[R.1],yu⟩
     case measure=>simp[intOf];omega
    ·gi_wp2
     refine gB (xX rfl _ _ _) rfl ?_;exact⟨⟨_,rfl⟩,.inr ⟨c+1,by omega,uV⟩⟩
   ·obtain rfl:c=g:=by omega
    have f:=yS.1 n;rw[<-o,<-j]at f;unfold xi at f;have v:=A r;clear z C j o h r;by_cases x1:e<=s
    ·clear f
     gi_wp2
     refine⟨λ_ i=>(by cases i),?_⟩
     gi_wp2
     refine gB (xX rfl _ _ _) rfl ?_;exact⟨⟨_,rfl⟩,.inl v.1⟩
    by_cases x2:(a.length:Int)<=e
    ·clear f
     gi_wp2
     refine⟨λ_ i=>(by cases i),?_⟩
     gi_wp2
     refine gB (xX rfl _ _ _) rfl ?_;exact⟨⟨_,rfl⟩,.inl v.1⟩
    ·have T:e=b:=by
      rw[bB (show s<e by omega),bB (show e<(a.length:Int) by omega),jY,jY]at f;exact Classical.byContradiction λi=>by rw[bB i]at f;cases f
     have e3:(e==b)=true:=by rw[T];simp
     clear f T
     gi_wp2
     refine⟨λ_ i=>(by cases i),?_⟩
     gi_wp2
     refine gB (xX rfl _ _ _) rfl ?_;exact⟨⟨_,rfl⟩,.inl v.1⟩
theorem asy(i h g:Value)(b:Int)(f:World)(m:∃e d c,i=.slice e d c)(l:∃e d c,h=.slice e d c)(k:∃e d c,g=.slice e d c):
  Calls prog 102 #[.agg #[i,h],b,g] f λj n =>
   j=.returned (.func (.func 167) #[] #[(f.heap.size+1+1,0),(f,0),(f.heap.size+1,0)])/\n=((f.alloc (.cells #[i,h] 25)).alloc (.cells #[b] 3)).alloc (.cells #[g] 23):=by
 obtain⟨e,d,c,rfl⟩:=m;obtain⟨o,s,q,rfl⟩:=l;obtain⟨p,t,r,rfl⟩:=k;go_enter func102,ntmps102;go_wp2_with fail;go_ret;exact⟨rfl,rfl⟩
theorem asz:eQ prog 167:=iw func167 (by kernel_rfl) rfl
theorem asA(j E n:Value)(a:ak)(b:Int)(d:V)(c g:World)(v:g=((c.alloc (.cells #[j,E] 25)).alloc (.cells #[b] 3)).alloc (.cells #[n] 23))(hR:bI c j a)(Z:aM c n d)(e:Nat)(hm:e<=d.length)(y:iU a b (d.take e)=true)(xq:∀z0:e<d.length,xi a.length b (og (d.take e)) d[e]=false)(hl:e<=1000000):
  Calls prog 46 #[.func (.func 167) #[] #[(c.heap.size+1+1,0),(c,0),(c.heap.size+1,0)]] g λB x=>∃p,B=.returned p/\bI x p (gV a (d.take e))/\Below c c x:=by
 obtain⟨h,l⟩:=aK (c.alloc (.cells #[j,E] 25));obtain⟨i,m⟩:=aK (h.alloc (.cells #[b] 3));rw[<-l,<-m]at v;have z:Below c c h:=l▸bk _ _ _;have r:Below h h i:=m▸bk _ _ _;have s:Below i i g:=v▸bk _ _ _;have G:h.heap.size=c.heap.size+1:=by rw[l];simp
 have sb:i.heap.size=c.heap.size+1+1:=by rw[m];simp[G]
 have w:Below c c g:=(ar z r).trans (s.mono (bK z.size r.size));have N:g.cell? (c,0)=some j:=U s (U r (by rw[l];exact Y (World.alloc_heap_new c _) rfl));have mI:g.cell? (c.heap.size+1,0)=b:=U s (by rw[m,<-G];exact Y (World.alloc_heap_new h _) rfl);have O:g.cell? (c.heap.size+1+1,0)=some n:=by rw[v,<-sb];exact Y (World.alloc_heap_new i _) rfl
 have hRW:=hR.below w;have P:=Z.below w;obtain⟨z0z,Q,k,sj,L,H⟩:=Zv hRW;refine(afD 167 _ e (λo=>k (d.getD o 0).toNat) g asz (λo=>L _) hl
  (λM X=>asx (c.heap.size+1+1) c.heap.size (c.heap.size+1) j n b d a g z0z Q k sj (λf hk=>by obtain⟨K,D,u,C,-⟩:=H f hk;exact⟨K,D,u,C⟩) P e hm y xq O N mI M X)).mono ?_
 rintro B x ⟨p,rfl,ho,F⟩;have q:(d.take e).length=e:=by rw[SW];omega
 refine⟨p,rfl,bI.own ho (by rw[C3,q];simp) (by rw[C3,q];omega) ?_,ar w F⟩;intro f u C;rw[C3,q]at u;have t:f<(d.take e).length:=by omega
 obtain⟨i0,i1⟩:=(aaD y _ (bM t)).1;have I:(d.take e)[f].toNat<a.length:=by omega
 obtain⟨K,D,-,-,W⟩:=H _ I;have R:(d.take e)[f]=d[f]'(by omega):=List.getElem_take;have S:((List.range e).map (λo=>k (d.getD o 0).toNat))[f]=k (d.take e)[f].toNat:=by
  rw[gj,Ct,dp (show f<d.length by omega),R]
 have T:(gV a (d.take e))[f]'(by rw[C3];exact t)=a[(d.take e)[f].toNat]:=by
  rw[agL a (d.take e) t];exact dp I []
 rw[S,T];exact W.below F
theorem asB(rv ov hv:Value)(a:ak)(h:V)(b:Int)(c:V)(r:World)(hR:bI r rv a)(hO:aM r ov h)(hH:aM r hv c)(da:aN b)(hl:c.length<=1000000):
  Calls prog 35 #[.agg #[rv,ov],b,hv] r λz0 w'=>∃x,z0=.returned (.tuple #[x,.bool (ER a h b c),(yP a h b c:Int)])/\aM w' x (Jo a h b c)/\(∀s,x.ownBlock=some s->r.heap.size<=s)/\Below r r w':=by
 have off:∀f:Int,f≠0->yP a h b c=f->ER a h b c=false/\Jo a h b c=[]:=λf C he=>by
  have h1:ER a h b c=false:=by unfold ER;rw[he,bw C,uP]
  exact⟨h1,by unfold Jo;rw[h1];rfl⟩
 obtain⟨W1,aE,E,W,hz⟩:=ee r rv ov 25;obtain⟨k,l,m⟩:=bJ (hR.below E) (hO.below E) (hH.below E);obtain⟨a1,k1,rfl,-,eI,-⟩:=id hR;obtain⟨a2,k2,rfl,-,dR,-⟩:=id hO;obtain⟨a3,k3,rfl,-,gC,-⟩:=id hH;have i:W1.cell? (r,0)=some (.slice a1 a.length k1):=Y W rfl;have j:W1.cell? (r,1)=some (.slice a2 h.length k2):=Y W rfl;obtain⟨N,g,jc,GS⟩:=cY aE E off hl;clear hR hO hH W aE E hz off hl;by_cases p:bH a h=0;rotate_left
 ·have n:Hid (yP a h b c=bH a h):=A (by unfold yP;rw[aD p]);obtain⟨q,u⟩:=aR (jc.1 _ p n.1) (sW _ _ a h _ k.1 l.1);have X:(bH a h !=0)=true:=jg.2 p;generalize bH a h=z1 at *;clear p;go_enter func35,ntmps35;go_wp2_with (rw[<-N.1]);refine(u.1).mono ?_;rintro f P ⟨rfl,e⟩;refine jM e i j ?_;clear i j;intro i j;obtain⟨k,l,m,g⟩:=cY (k.1.below e) (l.1.below e) (m.1.below e) (ar g.1 e);clear e;go_wp2_with fail;go_ret3;exact⟨(),by rw[q.1.1,n.1];rfl,by rw[q.1.2];exact aM.nil _ none 0,λs f=>(by cases f),g.1⟩
 obtain⟨u,Z⟩:=aR (sW _ _ a h _ k.1 l.1) (fs p);by_cases t:0<=b/\b<(a.length:Int);rotate_left
 ·have n:Hid (yP a h b c=1):=A (by unfold yP;rw[aA (by simp[p]),aA (λB=>t B.1)]);have q:=A (jc.1 _ (by decide) n.1);rw[p]at u;by_cases C:b<0
  ·have X:decide (b<0)=true:=bB C;clear p t C;go_enter func35,ntmps35;go_wp2_with (rw[<-N.1]);refine(u.1).mono ?_;rintro f P ⟨rfl,e⟩;refine jM e i j ?_;clear i j;intro i j;obtain⟨k,l,m,g⟩:=cY (k.1.below e) (l.1.below e) (m.1.below e) (ar g.1 e);clear e;go_wp2_with fail;go_ret3;exact⟨(),by rw[q.1.1,n.1];rfl,by rw[q.1.2];exact aM.nil _ none 0,λs f=>(by cases f),g.1⟩
  ·have X:decide (b<0)=false:=bw C;have d1:decide ((a.length:Int)<=b)=true:=bB (by omega);clear p t C;go_enter func35,ntmps35;go_wp2_with (rw[<-N.1]);refine(u.1).mono ?_;rintro f P ⟨rfl,e⟩;refine jM e i j ?_;clear i j;intro i j;obtain⟨k,l,m,g⟩:=cY (k.1.below e) (l.1.below e) (m.1.below e) (ar g.1 e);clear e;go_wp2_with fail;go_ret3;exact⟨(),by rw[q.1.1,n.1];rfl,by rw[q.1.2];exact aM.nil _ none 0,λs f=>(by cases f),g.1⟩
 obtain⟨d,rfl⟩:∃d:Nat,b=d:=⟨b.toNat,by omega⟩;have X:decide ((d:Int)<0)=false:=bw (by omega);have d1:decide ((a.length:Int)<=(d:Int))=false:=bw (by omega);have i0:(0:Int)<=(d:Int):=t.1;have i1:(d:Int)<(a.length:Int):=t.2;have CN:d<a.length:=by omega
 have HE:Hid (yP a h d c=if iU a d c=true then 0 else 1):=A (by
  unfold yP;rw[aA (by simp[p])];by_cases B:iU a d c=true
  ·rw[aD ⟨t,B⟩,aD B]
  ·rw[aA (λh2=>B h2.2),aA B])
 rw[p]at u;clear p t;obtain⟨v,hm,Q,xq⟩:=asv a d c;obtain⟨I,L,Mx,yS⟩:=cY (asw hm Q xq) hm Q xq;clear hm Q xq;go_enter func35,ntmps35;go_wp2_with (rw[<-N.1]);refine(u.1).mono ?_;rintro f P ⟨rfl,e⟩;refine jM e i j ?_;clear i j;intro i j;obtain⟨k,l,m,g⟩:=cY (k.1.below e) (l.1.below e) (m.1.below e) (ar g.1 e);clear e;go_wp2_with fail;refine(asy _ _ _ _ _ ⟨_,_,_,rfl⟩ ⟨_,_,_,rfl⟩ ⟨_,_,_,rfl⟩).mono ?_;rintro f w3 ⟨rfl,rfl⟩;go_wp2_with fail;refine(asA _ _ _ a d c P _ rfl k.1 m.1 v L.1 Mx.1 yS.1 (by have:=L.1;have:=GS.1;omega)).mono ?_;rintro f w4 ⟨z2,rfl,R,y⟩;obtain⟨va,vc,rfl,-⟩:=id R;have Vl:(gV a (c.take v)).length=v:=by rw[C3,SW];have:=L.1;omega
 have K:=A R;refine jM y i j ?_;clear i j;intro i j;obtain⟨k,l,m,g⟩:=cY (k.1.below y) (l.1.below y) (m.1.below y) (ar g.1 y);clear y;rw[Vl]at K ⊢;clear R Vl;by_cases w:v=c.length;rotate_left
 ·have n:Hid (yP a h d c=1):=A (by rw[HE.1,I.1,bw w];rfl);have q:=A (jc.1 _ (by decide) n.1);have dm:((v:Int)!=(c.length:Int))=true:=jg.2 (by omega);clear w;go_wp2_with fail;go_ret3;exact⟨(),by rw[q.1.1,n.1];rfl,by rw[q.1.2];exact aM.nil _ none 0,λs f=>(by cases f),g.1⟩
 ·have n:Hid (yP a h d c=0):=A (by rw[HE.1,I.1,bB w];rfl);have dm:((v:Int)!=(c.length:Int))=false:=by rw[w];simp
  have Mw:iU a d c=true:=by rw[I.1,bB w]
  have vm:=A (UQ Z.1 Mw);have G:=aaE Z.1 (d:=(d:Int)) ⟨i0,i1⟩;have O:a.getD (d:Int).toNat []=a[d]:=by rw[AZ];exact dp CN []
  have E5:c.take v=c:=by rw[w,m9]
  rw[E5]at K;have F:Hid (ER a h d c=mR (gV a c) a[d]):=A (by unfold ER;rw[n.1,O];rfl);have M:Hid (Jo a h d c=if mR (gV a c) a[d]=true then fy (gV a c) a[d] else []):=A (by unfold Jo;rw[F.1,O]);rw[O]at G;have Et:Hid (gy (gV a c) a[d]=0):=A (Zz (by rw[G.1];exact vm.1) G.2 (by rw[G.1];exact Z.1.cols_le));obtain⟨a5,k5,e5,-,-,hk5⟩:=id k.1;obtain⟨b6,o6,r6,ea6,q6,i6⟩:=hk5 d CN;simp only[dr]at e5;obtain⟨rfl,-,-⟩:=e5;subst ea6;obtain⟨ra6,rc6,rfl,-⟩:=id i6;have Qv:=A i6;clear w Mw G O E5 hk5 i6 I yS Mx L;cases z:mR (gV a c) a[d] with
  |true =>
   have nS:=A z;rw[z]at F M;clear z;go_wp2_with fail;refine(aoE _ _ (gV a c) a[d] _ K.1 Qv.1 Et.1 nS.1).mono ?_;rintro f w5 ⟨x,rfl,D,H,o⟩;have S:=A (λs f=>bK g.1.size (H s f));clear H;refine jM o i j ?_;clear i j;intro i j;obtain⟨k,l,m,g⟩:=cY (k.1.below o) (l.1.below o) (m.1.below o) (ar g.1 o);clear o;have T:=A D;clear D;go_wp2_with fail;go_ret3;exact⟨x,by rw[F.1,n.1];rfl,by rw[M.1];simpa using T.1,S.1,g.1⟩
  |false =>
   have nS:=A z;rw[z]at F M;clear z;go_wp2_with fail;refine(aoF _ _ (gV a c) a[d] _ K.1 Qv.1 Et.1 nS.1).mono ?_;rintro f w5 ⟨x,rfl,D,H,o⟩;have S:=A (λs f=>bK g.1.size (H s f));clear H;refine jM o i j ?_;clear i j;intro i j;obtain⟨k,l,m,g⟩:=cY (k.1.below o) (l.1.below o) (m.1.below o) (ar g.1 o);clear o;have T:=A D;clear D;go_wp2_with fail;go_ret3;exact⟨x,by rw[F.1,n.1];rfl,by rw[M.1];simpa using T.1,S.1,g.1⟩
