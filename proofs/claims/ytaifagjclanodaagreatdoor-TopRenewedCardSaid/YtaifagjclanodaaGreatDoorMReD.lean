/- Package renewal: shares that are put together. -/
import Derived.Test.YtaifagjclanodaaGreatDoorMRbH
set_option maxHeartbeats 16000000
set_option maxRecDepth 100000
namespace Go.Proofs.YtaifagjclanodaaGreatDoor
open Go.Proofs.Tryz
open Go.RowKit FP
variable{d:Int}{e f:Nat}{v:Value}{a w':World}{c zs:V}{b:ak}
theorem atj{h:Func}{p:Tmp}{j:TypeId}(k:h.results=#[.cell p j])(i:Array Value)(g:Program)(a:World):
  (results h i).run g a=((asAddr (i.getD p undef)).run g a).andThen λl a₁=>(loadVar j l).run g a₁:=by
 simp only[results,k];simp[Result.andThen]
theorem atk(g v r2 h:Int)(a:World)(hv:aN v)(xw:aN h):
  Calls prog 99 #[.agg #[g,v],.agg #[r2,h]] a λz1z w'=>z1z=.returned (.agg #[g,((v+h)%1073741789:Int)])/\Below a a w':=by
 obtain⟨L,w,O,x,-⟩:=ee a g v 66;obtain⟨M,n,m,P,-⟩:=ee L r2 h 66;obtain⟨W3,C,k,D,-⟩:=ee M (0:Int) (0:Int) 66;have y:L.heap.size=a.heap.size+1:=by rw[w];simp
 have T:M.heap.size=a.heap.size+1+1:=by rw[n];simp[y]
 have Q:W3.cell? (a,0)=g:=U k (U m (Y x rfl));have R:W3.cell? (a,1)=v:=U k (U m (Y x rfl));have S:W3.cell? (a.heap.size+1,1)=h:=by rw[<-y];exact U k (Y P rfl)
 rw[T]at D;have s:=A D;have Z:=ar O m;have HB:=A (ar Z k);rw[w]at n;rw[n]at C;obtain⟨HW,xy⟩:=aR C (λww=>yr v h ww hv xw);clear C n w x P D O m k y T Z;obtain⟨r,X⟩:=aK ((v+h)%1073741789);rw[<-X]at xy ⊢;clear X;have z:W3.drew.cell? (a,0)=g:=Q;have t:W3.drew.cell? (a,1)=v:=R;have B:W3.drew.cell? (a.heap.size+1,1)=h:=S;have gM:=A HB.1.drew;replace s:=A (show W3.drew.heap[a.heap.size+1+1]?=_ from s.1);have E:Hid (∀(u:World) (l F:Nat) (G:Value),(l=a.heap.size\/l=a.heap.size+1)->u.cell? ⟨l,F,none⟩=some G->((u.setCell (a.heap.size+1+1,0) g).setCell (a.heap.size+1+1,1) r).cell? ⟨l,F,none⟩=some G):=A (λu l F G hb hx=>by
  rw[Ac (by omega),Ac (by omega)];exact hx)
 go_enter func99,ntmps99;go_wp2_with (rw[<-HW.1]);clear Q R S;go_region_held3 (λw'=>w'.cell? (a,0)=g/\w'.cell? (a,1)=v/\w'.cell? (a.heap.size+1,1)=h) (first|go_keep|exact⟨z,t,B⟩|exact⟨H,I,K⟩|exact⟨t0,t1,t2⟩)
  (first
   |(go_at_call 19;(with_reducible refine(xy.1 _).mono ?_);rintro z1z q ⟨rfl,i⟩;have H:=U i z;have I:=U i t;have K:=U i B;have j:=A (az i s.1);have cO:=A (ar gM.1 i);clear i;have s0:=Y j.1 (k:=0) rfl;have s1:=Y j.1 (k:=1) rfl;have f0:=cB j.1 0;have f1:=cB j.1 1;have t0:=E.1 q _ 0 _ (.inl rfl) H;have t1:=E.1 q _ 1 _ (.inl rfl) I;have t2:=E.1 q _ 1 _ (.inr rfl) K))
 all_goals
  obtain⟨N,o⟩:=aK ((q.setCell (a.heap.size+1+1,0) g).setCell (a.heap.size+1+1,1) r);have W:N.heap[a.heap.size+1+1]?=QC.mk #[g,r] 66:=by
   rw[o];exact cK (cK j.1 0 _) 1 _
  have bz:Below a a N:=by
   rw[o];exact(cO.1.setCell (p:=(a.heap.size+1+1,0)) (by show a.heap.size<=a.heap.size+1+1;omega) _).setCell (p:=(a.heap.size+1+1,1)) (by show a.heap.size<=a.heap.size+1+1;omega) _
  obtain⟨g0,g1⟩:=ez W;rw[<-o];clear o W H I K t0 t1 t2 s0 s1 f0 f1 z t B;go_wp2_with fail;try simp only[Exit.then]
  refine gB (v:=.agg #[g,r]) ?_ rfl ⟨rfl,bz⟩;rw[atj rfl];go_simp
theorem atl(z4 v:Value)(h i:bF)(a:World)(hA:fK a z4 h)(hB:fK a v i)(hl:h.length<=i.length)(h6:h.length<=1000000):
  Calls prog 101 #[z4,v,.func (.func 99) #[] #[]] a λz2z w'=>∃l,z2z=.returned l/\w'.ownsRow a.heap.size 66 2 l h.length ((addS h i).flatMap gU)/\Below a a w':=by
 obtain⟨a1,k1,rfl,iP,eI,R,X⟩:=hA;obtain⟨a2,k2,rfl,lj,dR,T,W⟩:=hB;obtain⟨Az,yZ,gF,dz,kt⟩:=gw X W R T hl;clear X W R T;have iZ:a.ownsRow a.heap.size 66 2 () 0 (((List.range 0).map (Da h i)).flatMap gU):=iv _ _ _ _;go_enter func101,ntmps101;go_wp2_with fail;go_loopw[6,11] (λz5 M Q=>∃g:Nat,g<=h.length/\M=g/\Q.ownsRow a.heap.size 66 2 z5 g (((List.range g).map (Da h i)).flatMap gU)/\Below a a Q) (λ_ M _=>h.length-(intOf M).toNat);case atStart=>exact⟨0,bS _,rfl,iZ,aY _ _⟩
 case round =>
  clear iZ;obtain⟨g,dg,rfl,w,n⟩:=hrel;by_cases F:g<h.length
  ·have B:g<i.length:=by have:=kt.1;omega
   obtain⟨b1,o1,rfl,qa,qb⟩:=Az.1 g F;obtain⟨q,r,rfl,N,qd⟩:=yZ.1 g B;have P:=(gF.1 _ (bM F)).2;have xw:=(dz.1 _ (bM B)).2;have D:Hid (((List.range (g+1)).map (Da h i))=((List.range g).map (Da h i))++[(h[g].1,(h[g].2+i[g].2)%1073741789)]):=A (by
    rw[Af]
    congr 1
    unfold Da;rw[dp F,dp B])
   have y1:=U n qa;have y2:=U n qb;have y3:=U n N;have y4:=U n qd;obtain⟨j,O⟩:=aK (h[g].1);obtain⟨l,C⟩:=aK (h[g].2);obtain⟨r2,S⟩:=aK (i[g].1);obtain⟨z,L⟩:=aK (i[g].2);rw[<-O]at y1;rw[<-C]at y2 P;rw[<-S]at y3;rw[<-L]at y4 xw;rw[<-O,<-C,<-L]at D;obtain⟨m,dk,u,I,-⟩:=ee wr j (.int .i64 l) 66;have s0:m.cell? (wr,0)=j:=Y I rfl;have s1:m.cell? (wr,1)=some (.int .i64 l):=Y I rfl;have s2:=U u y3;have s3:=U u y4;have s0d:m.drew.cell? (wr,0)=j:=s0;have s1d:m.drew.cell? (wr,1)=some (.int .i64 l):=s1;have s2d:m.drew.cell? (q,r+g*2)=r2:=s2;have s3d:m.drew.cell? (q,r+g*2+1)=z:=s3;obtain⟨gX,rh⟩:=aR dk (λww=>atk j l r2 z ww P xw);obtain⟨t,hz⟩:=aK ((l+z)%1073741789);rw[<-hz]at D rh;obtain⟨G,H⟩:=aR (dM w u) (ar n u);have i0:(0:Int)<=(g:Int):=by omega
   have i1:(g:Int)<(h.length:Int):=by omega
   have i2:(g:Int)<(i.length:Int):=by omega
   have BN:g<=1000000:=by omega
   have Z:Hid (u6.ownBlock≠some wr.heap.size):=A (λz6=>KT _ (pP w _ z6).2);obtain⟨HL0,n7⟩:=aR (iO s0) (iO N);clear qa qb N qd w n u I dk O C S L hz;go_wp2_with (rw[<-gX.1]);go_region_held3 (λw'=>w'.cell? (wr,0)=j/\w'.cell? (wr,1)=some (.int .i64 l)/\w'.cell? (q,r+g*2)=r2/\w'.cell? (q,r+g*2+1)=z) (first|go_keep|exact⟨s0d,s1d,s2d,s3d⟩|exact⟨z0,z1,z2,z3⟩|exact⟨t0,t1,t2,t3⟩)
    (first
     |(go_at_call 99;(with_reducible refine(rh.1 _).mono ?_);rintro z2z k ⟨rfl,o⟩;have z0:=U o s0d;have z1:=U o s1d;have z2:=U o s2d;have z3:=U o s3d;have px:=A (((aY m.heap.size m).drew).trans o);clear o;have E:=A (px.1.alloc px.1.size (.cells #[j,t] 66));have y:=A (dM G.1 E.1);have jl:=A (ar H.1 E.1);have x:=A jl.1.size;have yV:=A (show(k.alloc (.cells #[j,t] 66)).cell? (k,0)=j from Y (World.alloc_heap_new _ _) rfl);have om:=A (show(k.alloc (.cells #[j,t] 66)).cell? (k,1)=t from Y (World.alloc_heap_new _ _) rfl))
     |(refine ase (by rfl) _ _ (by rfl) a.heap.size _ ((List.range g).map (Da h i)) g (by rfl) y.1 k.heap.size 1 (j,t) (by rfl) yV.1 om.1 BN x.1 ?_;intro g9 atm w9 h9 s;have K:wr.heap.size<(k.alloc (.cells #[j,t] 66)).heap.size:=eJ HL0.1 E.1.size;have t0:=(rH s K Z.1 0).trans (U (bk k _ _) z0);have t1:=(rH s K Z.1 1).trans (U (bk k _ _) z1);have t2:=((fH y.1 s.1 x.1).cell (p:=(q,r+g*2)) n7.1).trans (U (bk k _ _) z2);have t3:=((fH y.1 s.1 x.1).cell (p:=(q,r+g*2+1)) n7.1).trans (U (bk k _ _) z3);clear K;have H9:=A h9;have O9:=A s;clear h9 s))
   all_goals
    go_wp2_with fail;go_roundw;case rel=>exact⟨g+1,by omega,by go_num,by rw[D.1];exact H9.1,jl.1.trans (fH y.1 O9.1.1 x.1)⟩
    case measure=>simp[intOf];omega
  ·obtain rfl:g=h.length:=by omega
   obtain⟨G,H⟩:=aR w n;clear w n;go_wp2_with fail;go_ret;exact⟨_,rfl,G.1,H.1⟩
def oq(a:World)(v:Value)(g:gu):Prop:=
 ∃l i,v=.slice l g.length i/\g.length<=i/\g.length<=17592186044416 /\
  ∀h (n:h<g.length),∃m j k,l=some ⟨m,j,none⟩/\a.cell? ⟨m,j+h,none⟩=some k/\fK a k g[h]
theorem oq.below{h:gu}(j:oq a v h)(g:Below a a w'):oq w' v h:=by
 obtain⟨w,i,k,l,m,n⟩:=j;exact⟨w,i,k,l,m,λs r=>by obtain⟨x,t,u,o,p,q⟩:=n s r;exact⟨x,t,u,o,U g p,q.below g⟩⟩
theorem oq.nil(a:World)(h:Option Addr)(g:Nat):oq a (.slice h 0 g) []:=⟨h,g,rfl,bS _,bS _,λj i=>absurd i (fG j)⟩
theorem oq.get{j:gu}(m:oq a v j){k:Nat}(l:k<j.length):∃i g r s h,v=.slice (some ⟨i,g,none⟩) r s/\a.cell? ⟨i,g+k,none⟩=some h/\fK a h (j.getD k []):=by
 obtain⟨x,t,n,u,w,o⟩:=m;obtain⟨i,g,h,rfl,p,q⟩:=o k l;exact⟨i,g,_,_,h,n,p,by rw[dp l];exact q⟩
theorem bI.get{j:ak}(m:bI a v j){k:Nat}(l:k<j.length):∃i g r s h,v=.slice (some ⟨i,g,none⟩) r s/\a.cell? ⟨i,g+k,none⟩=some h/\aM a h (j.getD k []):=by
 obtain⟨x,t,n,u,w,o⟩:=m;obtain⟨i,g,h,rfl,p,q⟩:=o k l;exact⟨i,g,_,_,h,n,p,by rw[dp l];exact q⟩
def qm(l:Prop)(f e:Nat)(a:World)(v:Value)(zs:V):Prop:=
 ∃k i,v=.slice k zs.length i/\zs.length<=i/\zs.length<=17592186044416/\(∀m∈zs,aN m) /\
  (∀h (n:h<zs.length),∃g j,k=some ⟨g,j,none⟩/\(g<f\/e<=g)/\a.cell? ⟨g,j+h,none⟩=some (.int .i64 zs[h])) /\
  (l->dS a 3 v)
theorem qm.ints{g:Prop}(i:qm g f e a v zs):aM a v zs:=by
 obtain⟨t,h,j,k,l,m,n,-⟩:=i;exact⟨t,h,j,k,l,m,λr q=>by obtain⟨u,s,o,-,p⟩:=n r q;exact⟨u,s,o,p⟩⟩
theorem qm.below{g:Prop}(j:qm g f e a v zs)(h:Below a a w'):qm g f e w' v zs:=by
 obtain⟨y,i,k,l,m,n,o,s⟩:=j;exact⟨y,i,k,l,m,n,λu t=>by obtain⟨z,w,p,q,r⟩:=o u t;exact⟨z,w,p,q,U h r⟩,λx=>(s x).below h⟩
theorem qm.of{T:Prop}(j:aM a v zs)(h:Below a a w')(e:Nat)(r:T->dS a 3 v):qm T a.heap.size e w' v zs:=by
 obtain⟨w,i,k,l,m,n,o⟩:=j;exact⟨w,i,k,l,m,n,λs q=>by obtain⟨x,t,p,g⟩:=o s q;exact⟨x,t,p,.inl (iO g),U h g⟩,λu=>(r u).below h⟩
theorem qm.set{h:Prop}(q:qm h f e a v zs){g x:Nat}(D:f<=g)(E:g<e)(B:Value):qm h f e (a.setCell (g,x) B) v zs:=by
 obtain⟨C,j,k,l,m,n,o,p⟩:=q;exact⟨C,j,k,l,m,n,λw u=>by obtain⟨i,y,r,s,t⟩:=o w u;exact⟨i,y,r,s,by rw[Ac (.inl (by omega))];exact t⟩,λz=>(p z).set _ _ _⟩
theorem qm.own{l:Prop}{h n:Nat}(g:a.ownsRow h 3 1 v n (zs.map (Value.int .i64)))(C:e<=h)(w:∀z∈zs,aN z)(u:zs.length<=17592186044416):qm l f e a v zs:=by
 obtain⟨B,m,i,o,p,q,r⟩:=aM.own g w u;refine⟨B,m,i,o,p,q,λx t=>?_,λ_=>dS.own g⟩;obtain⟨k,y,j,s⟩:=r x t;refine⟨k,y,j,.inr ?_,s⟩;have:=(pP g k (by rw[i,j];rfl)).1;omega
def qq(n:Prop)(f e:Nat)(a:World)(v:Value)(g:bF):Prop:=
 ∃m k,v=.slice m g.length k/\g.length<=k/\g.length<=17592186044416/\(∀l∈g,aN l.1/\aN l.2) /\
  (∀h (o:h<g.length),∃i j,m=some ⟨i,j,none⟩/\(i<f\/e<=i)/\a.cell? ⟨i,j+h*2,none⟩=some (.int .i64 g[h].1)/\a.cell? ⟨i,j+h*2+1,none⟩=some (.int .i64 g[h].2)) /\
  (n->dS a 66 v)
theorem qq.shares{g:Prop}{zs:bF}(i:qq g f e a v zs):fK a v zs:=by
 obtain⟨u,h,j,k,l,m,n,-⟩:=i;exact⟨u,h,j,k,l,m,λs r=>by obtain⟨w,t,o,-,p,q⟩:=n s r;exact⟨w,t,o,p,q⟩⟩
theorem qq.below{h:Prop}{zs:bF}(j:qq h f e a v zs)(g:Below a a w'):qq h f e w' v zs:=by
 obtain⟨z,i,k,l,m,n,o,t⟩:=j;exact⟨z,i,k,l,m,n,λw u=>by obtain⟨B,x,p,q,r,s⟩:=o w u;exact⟨B,x,p,q,U g r,U g s⟩,λy=>(t y).below g⟩
theorem qq.of{T:Prop}{zs:bF}(j:fK a v zs)(g:Below a a w')(e:Nat)(s:T->dS a 66 v):qq T a.heap.size e w' v zs:=by
 obtain⟨x,i,k,l,m,n,o⟩:=j;exact⟨x,i,k,l,m,n,λt r=>by obtain⟨y,u,p,h,q⟩:=o t r;exact⟨y,u,p,.inl (iO h),U g h,U g q⟩,λw=>(s w).below g⟩
theorem qq.set{h:Prop}{zs:bF}(q:qq h f e a v zs){g y:Nat}(E:f<=g)(F:g<e)(C:Value):qq h f e (a.setCell (g,y) C) v zs:=by
 obtain⟨D,j,k,l,m,n,o,p⟩:=q;exact⟨D,j,k,l,m,n,λx w=>by obtain⟨i,z,r,s,t,u⟩:=o x w;exact⟨i,z,r,s,by rw[Ac (.inl (by omega))];exact t,by rw[Ac (.inl (by omega))];exact u⟩,λB=>(p B).set _ _ _⟩
theorem qq.own{m:Prop}{h n:Nat}{l:bF}(g:a.ownsRow h 66 2 v n (l.flatMap gU))(E:e<=h)(z:∀p∈l,aN p.1/\aN p.2)(y:l.length<=1000000):qq m f e a v l:=by
 obtain⟨D,o,i,q,r,s,t⟩:=fK.own g z y;refine⟨D,o,i,q,r,s,λB x=>?_,λ_=>dS.own g⟩;obtain⟨k,C,j,u,w⟩:=t B x;refine⟨k,C,j,.inr ?_,u,w⟩;have:=(pP g k (by rw[i,j];rfl)).1;omega
theorem qm.typ{g:Prop}(i:qm g f e a v zs)(j:g):dS a 3 v:=by
 obtain⟨_,_,_,_,_,_,_,h⟩:=i;exact h j
theorem qq.typ{g:Prop}{zs:bF}(i:qq g f e a v zs)(j:g):dS a 66 v:=by
 obtain⟨_,_,_,_,_,_,_,h⟩:=i;exact h j
def atn(n:Prop)(b:ak)(l:V)(d:Int)(c:V)(h:bF)(g:ak)(i:gu)(q o:Value)(a:World)(p:Ending)(w':World):Prop:=
 ∃m j,p=.returned (.tuple #[m,j,.int .i64 (re b l d c h g i)]) /\
  (re b l d c h g i=0->∃k,m=.agg #[.int .i64 (d+1),q,o,k]/\aM w' k (lZ c g)/\fK w' j (uG h i)/\(n->dS w' 3 k/\dS w' 66 j)) /\
  (re b l d c h g i≠0->m=.agg #[.int .i64 0,.slice none 0 0,.slice none 0 0,.slice none 0 0]/\j=.slice none 0 0)/\Below a.heap.size a w'
theorem ahN{j:V}{h:bF}{g:ak}{i:gu}(k:bH b j=0):re b j d c h g i=if ks b d c=false then 380 else if d=64\/64<g.length then 2 else if kM b c h=false then 340 else if i.length≠g.length then 1 else if Ay b h g i g.length=true then 0 else 380:=by
 unfold re;rw[aA (by simp[k])]
theorem abi{g:V}(i:bH b g=0)(h:fQ b c=true):jQ b g c=0:=by rw[Qa i,aD h]
theorem ahO(g:ks b d c=true):0<=d/\d<=64/\fQ b c=true:=by
 unfold ks at g;simpa only[cu,fU] using g
theorem ato(T:Prop)(d:Int)(rv ov cv lv MH MI:Value)(b:ak)(o c:V)(j:bF)(h:ak)(i:gu)(a:World)(hR:bI a rv b)(hO:aM a ov o)(hC:aM a cv c)(hL:fK a lv j)(MJ:bI a MH h)(MK:oq a MI i)(hT:T->dS a 3 cv/\dS a 66 lv)(iZ:re b o d c j h i=0):
  Calls prog 34 #[.agg #[d,rv,ov,cv],lv,MH,MI] a (atn T b o d c j h i rv ov a):=by
 have ot:=A iZ;clear iZ;have Vj:=A hT;clear hT;obtain⟨W0,dx,bO,cF,fl⟩:=lF a d rv ov cv 33;obtain⟨W1,aE,au,aI,bX⟩:=lF W0 (0:Int) () () () 33;have l:Below a a W1:=ar bO au;obtain⟨r,t,u,w,z,y,BM,HL0,atp⟩:=fx (hR.below l) (hO.below l) (hC.below l) (hL.below l) (MJ.below l) (MK.below l) hC hL MJ;have atq:=A MK;obtain⟨a1,k1,rfl,-,eI,-⟩:=id hR;obtain⟨a2,k2,rfl,-,dR,-⟩:=id hO;obtain⟨a3,k3,rfl,-,gC,-⟩:=id hC;obtain⟨a4,k4,rfl,-,fj,QO,-⟩:=id hL;obtain⟨a5,k5,rfl,-,xt,-⟩:=id MJ;obtain⟨a6,k6,rfl,-,JM,-⟩:=id MK;obtain⟨JN,m⟩:=aR QO (az au cF);rw[fl]at aI;have s:=A aI;rw[dx]at aE;obtain⟨bp,n⟩:=aR aE l;clear hR hO hC hL MJ MK l bO au cF aI dx aE fl bX QO;have gd:=A (sW _ _ b o _ r.1 t.1);obtain⟨-,c1,c2⟩:=jZ m.1;go_enter func34,ntmps34;go_wp2_with (rw[<-bp.1]);clear c1 c2;refine(gd.1).mono ?_;rintro z1z w2 ⟨rfl,an⟩;obtain⟨r,t,u,w,z,y,m,s,n⟩:=fx (r.1.below an) (t.1.below an) (u.1.below an) (w.1.below an) (z.1.below an) (y.1.below an) (az an m.1) (az an s.1) (ar n.1 an);clear an;by_cases hp:bH b o=0;rotate_left
 ·have x:Hid (re b o d c j h i=bH b o):=A (by unfold re;rw[aD hp]);exact absurd (x.1.symm.trans ot.1) hp
 obtain⟨C,vh⟩:=aR (ahN (d:=d) (c:=c) (h:=j) (g:=h) (i:=i) hp) hp;rw[hp];clear hp gd;obtain⟨c0,c1,c2,c3⟩:=fh m.1;obtain⟨W3,dV,aJ,dX,-⟩:=lF w2 d (.slice a1 b.length k1) (.slice a2 o.length k2) (.slice a3 c.length k3) 172;obtain⟨D,JO⟩:=aR dX dV;clear dV dX;obtain⟨r,t,u,w,z,y,m,s,n⟩:=fx (r.1.below aJ) (t.1.below aJ) (u.1.below aJ) (w.1.below aJ) (z.1.below aJ) (y.1.below aJ) (az aJ m.1) (az aJ s.1) (ar n.1 aJ);clear aJ;obtain⟨s0,s1,s2,s3⟩:=fh D.1;go_wp2_with (rw[<-JO.1]);clear c0 c1 c2 c3 s0 s1 s2 s3;refine(asQ d _ _ _ b c _ r.1 ⟨_,_,_,rfl⟩ u.1).mono ?_;rintro z1z w4 ⟨rfl,W⟩;obtain⟨r,t,u,w,z,y,m,s,D⟩:=fx (r.1.below W) (t.1.below W) (u.1.below W) (w.1.below W) (z.1.below W) (y.1.below W) (az W m.1) (az W s.1) (az W D.1);replace n:=A (ar n.1 W);clear W;cases nE:ks b d c with
 |false =>
  have x:Hid (re b o d c j h i=380):=A (by rw[C.1,aD nE]);exact absurd (ot.1.symm.trans x.1) (by decide)
 |true =>
 obtain⟨he0,IE,hcb⟩:=ahO nE;replace C:=A (C.1.trans (aA (by rw[nE];decide)));have Vr:=A hcb;clear nE hcb;have c0:=Y m.1 (k:=0) rfl;by_cases mN:d=64
 ·have d0:(d==64)=true:=gI.2 mN;have x:Hid (re b o d c j h i=2):=A (C.1.trans (aD (.inl mN)));exact absurd (ot.1.symm.trans x.1) (by decide)
 have d0:(d==64)=false:=eH.2 mN;by_cases bT:64<h.length
 ·have d1:decide (64<(h.length:Int))=true:=bB (by omega);have x:Hid (re b o d c j h i=2):=A (C.1.trans (aD (.inr bT)));exact absurd (ot.1.symm.trans x.1) (by decide)
 have d1:decide (64<(h.length:Int))=false:=bw (by omega);replace C:=A (C.1.trans (aA (by omega)));clear mN;have iK:=A (λww X Z h3 h4=>ahk d (.slice a1 b.length k1) (.slice a2 o.length k2) (.slice a3 c.length k3) (.slice a3 c.length k3) (.slice a4 j.length k4) b o c j ww X Z ⟨_,_,_,rfl⟩ h3 h4 (abi vh.1 Vr.1));have c3:=Y m.1 (k:=3) rfl;obtain⟨s0,s1,s2,s3⟩:=fh D.1;go_wp2_with fail;clear c0 c3 s0 s1 s2 s3;refine(iK.1 _ r.1 t.1 u.1 w.1).mono ?_;rintro z1z w5 ⟨rfl,R⟩;obtain⟨r,t,u,w,z,y,m,s,D⟩:=fx (r.1.below R) (t.1.below R) (u.1.below R) (w.1.below R) (z.1.below R) (y.1.below R) (az R m.1) (az R s.1) (az R D.1);replace n:=A (ar n.1 R);clear R;cases Vs:kM b c j with
 |false =>
  have x:Hid (re b o d c j h i=340):=A (C.1.trans (aD Vs));exact absurd (ot.1.symm.trans x.1) (by decide)
 |true =>
 replace C:=A (C.1.trans (aA (by rw[Vs];decide)));have kt:=A (Ud (ahh Vs));clear Vs iK;by_cases pW:i.length=h.length;rotate_left
 ·have d2:((i.length:Int)!=(h.length:Int))=true:=jg.2 (by omega);have x:Hid (re b o d c j h i=1):=A (C.1.trans (aD pW));exact absurd (ot.1.symm.trans x.1) (by decide)
 have d2:((i.length:Int)!=(h.length:Int))=false:=by rw[pW];exact FF _
 replace C:=A (C.1.trans (aA (by simp[pW])));have Bo:=A pW;clear pW;have atr:=A (fs vh.1).few;have vB:=A (fs vh.1).cols;have HCU:=A (fs vh.1).cols_le;go_wp2_with fail;go_loopw[61] (λL z6=>∃k:Nat,k<=h.length/\L=k/\Hid (Ay b j h i k=true)/\Below w5 w5 z6) (λL _=>h.length-(intOf L).toNat);case atStart=>exact⟨0,bS _,rfl,A rfl,aY _ _⟩
 case round =>
  obtain⟨k,dg,rfl,HZ,l⟩:=hrel;have df:=A l;by_cases P:k<h.length
  ·obtain⟨gM,C6⟩:=aR (λg=>asL (a:=b) (b:=j) (i:=h) (h:=i) P g) (asK b j h i k);obtain⟨b1,o1,n1,k9,r1,e1,q1,i1⟩:=z.1.get P;simp only[dr]at e1;obtain⟨rfl,-,-⟩:=e1;obtain⟨b2,o2,n2,k8,r2,e2,q2,i2⟩:=y.1.get (k:=k) (by rw[Bo.1];exact P);simp only[dr]at e2;obtain⟨rfl,-,-⟩:=e2;have Vt:Hid (E7 b j h i k=E6 b j (h.getD k []) (i.getD k [])):=A rfl;generalize h.getD k []=N at *;generalize i.getD k []=I at *;obtain⟨rc,kc,rfl,-⟩:=id i1;obtain⟨rm,km,rfl,-⟩:=id i2;obtain⟨H,M⟩:=aR i1 i2;clear i1 i2;refine jM l q1 q2 ?_;clear q1 q2;intro q1 q2;obtain⟨r,t,u,w,z,y,H,M,m⟩:=fx (r.1.below l) (t.1.below l) (u.1.below l) (w.1.below l) (z.1.below l) (y.1.below l) (H.1.below l) (M.1.below l) (az l m.1);obtain⟨s,D,n⟩:=bJ (az l s.1) (az l D.1) (ar n.1 l);clear l;have j0:(0:Int)<=(k:Int):=by omega
   have j1:(k:Int)<(h.length:Int):=by omega
   have j2:(k:Int)<(i.length:Int):=by have:=Bo.1;omega
   have JH:=A (λww X Z=>ahj d (.slice a1 b.length k1) (.slice a2 o.length k2) (.slice a3 c.length k3) (.slice rc N.length kc) b N ww X ⟨_,_,_,rfl⟩ ⟨_,_,_,rfl⟩ Z);go_wp2_with fail;have jh:Below wr wr wr.drew:=(aY _ _).drew;obtain⟨r,t,u,w,z,y,H,M,n⟩:=fx (r.1.below jh) (t.1.below jh) (u.1.below jh) (w.1.below jh) (z.1.below jh) (y.1.below jh) (H.1.below jh) (M.1.below jh) (n.1.drew);replace df:=A (df.1.drew);clear jh;have HEF:=A (λww X Z=>asR (.slice rm I.length km) (.slice a4 j.length k4) I j ww X Z);obtain⟨s0,s1,s2,s3⟩:=fh D.1;cases lT:fQ b N with
   |false =>
    rw[lT]at JH;have x:Hid (re b o d c j h i=380):=A (C.1.trans (aA (by rw[gM.1 (by rw[Vt.1];unfold E6;rw[lT];rfl)];decide)));exact absurd (ot.1.symm.trans x.1) (by decide)
   |true =>
   rw[lT]at JH;have E9:=GP lT;obtain⟨-,bc,oc,nc,kc',ec,qc⟩:=H.1.get (k:=0) (by rw[E9.2];exact vB.1);simp only[dr]at ec;obtain⟨rfl,-,-⟩:=ec;rw[rF]at qc;have j3:(0:Int)<(N.length:Int):=by have:=vB.1;rw[E9.2];omega
   have j4:0<N.length:=by omega
   obtain⟨z9,hx⟩:=aK (J N 0);have HX:=A hx;rw[<-hx]at qc;have s4:=qc;have s5:=q2;have lC:=A lT;clear q1 q2 qc lT E9 hx;by_cases fW:z9=1;rotate_left
   ·have d3:(z9 !=1)=true:=jg.2 fW;have x:Hid (re b o d c j h i=380):=A (C.1.trans (aA (by rw[gM.1 (by rw[Vt.1];unfold E6;rw[<-HX.1,show(z9==1)=false from eH.2 fW];simp)];decide)));exact absurd (ot.1.symm.trans x.1) (by decide)
   have d3:(z9 !=1)=false:=by rw[fW];rfl
   have Vu:=A fW;clear fW;cases oh:decide (gH I=gH j) with
   |false =>
    rw[oh]at HEF;have x:Hid (re b o d c j h i=380):=A (C.1.trans (aA (by rw[gM.1 (by rw[Vt.1];unfold E6;rw[oh];simp)];decide)));exact absurd (ot.1.symm.trans x.1) (by decide)
   |true =>
   rw[oh]at HEF;have HKF:=A (λww X Z h3 h4=>ahk d (.slice a1 b.length k1) (.slice a2 o.length k2) (.slice a3 c.length k3) (.slice (bc,oc) N.length kc) (.slice rm I.length km) b o N I ww X Z ⟨_,_,_,rfl⟩ h3 h4 (abi vh.1 lC.1));have HZV:Hid (E7 b j h i k=kM b N I):=A (by rw[Vt.1];unfold E6;rw[lC.1,<-HX.1,Vu.1,oh];rfl);clear oh;cases QQ:kM b N I with
   |false =>
    rw[QQ]at HKF;have x:Hid (re b o d c j h i=380):=A (C.1.trans (aA (by rw[gM.1 (by rw[HZV.1,QQ])];decide)));exact absurd (ot.1.symm.trans x.1) (by decide)
   |true =>
    rw[QQ]at HKF;have HN:Hid (Ay b j h i (k+1)=true):=A (by rw[C6.1,HZ.1,HZV.1,QQ];rfl);clear QQ;refine wp_region_held_drew (S:=(λw'=>w'.cell? (w2,0)=d/\w'.cell? (w2,1)=some (.slice a1 b.length k1)/\w'.cell? (w2,2)=some (.slice a2 o.length k2)/\w'.cell? (w2,3)=some (.slice a3 c.length k3)/\w'.cell? (bc,oc)=z9/\w'.cell? (b2,o2+k)=some (.slice rm I.length km))) (by kernel_rfl) (by(try dsimp only);(first|exact⟨z0,z1,z2,Q,z4,z5⟩|exact⟨s0,s1,s2,s3,s4,s5⟩|go_keep)) (λCR=>?_);refine lE (f:=0) (some 66) ?_ rfl (by kernel_rfl) (by kernel_rfl) (by kernel_rfl) (by kernel_rfl) (λ_ _ _ g=>g) (by kernel_rfl) ?_ (by assumption) ?_;rotate_left
    ·(intro a F;(try dsimp only at F);go_simp;(try with_reducible rfl))
    simp only[Act.put,dD];refine lE (f:=1) (some 67) _ rfl (by kernel_rfl) (by kernel_rfl) (by kernel_rfl) (by kernel_rfl) (λ_ _ _ g=>g) (by kernel_rfl) (λa _=>by rfl) (by assumption) ?_;simp only[Act.put,dD];refine wpAnyH_ready (rs:=[2]) (by kernel_rfl) (by simp) ?_;refine AllReadyH.cons rfl (λz10 hK=>?_) AllReadyH.nil;rw[aD (by rfl)];go_simp
    (go_at_call 96;(refine(JH.1 _ r.1 H.1).mono ?_);rintro z1z w6 ⟨rfl,p⟩;have z0:=U p s0;have z1:=U p s1;have z2:=U p s2;have Q:=U p s3;have z4:=U p s4;have z5:=U p s5;replace r:=A (r.1.below p);replace t:=A (t.1.below p);replace u:=A (u.1.below p);replace w:=A (w.1.below p);replace z:=A (z.1.below p);replace y:=A (y.1.below p);replace H:=A (H.1.below p);replace M:=A (M.1.below p);replace m:=A (az p m.1);replace s:=A (az p s.1);replace D:=A (az p D.1);replace n:=A (ar n.1 p);replace df:=A (ar df.1 p);clear p)
    refine Shut.out hK _ _ (by(try dsimp only);(first|exact⟨z0,z1,z2,Q,z4,z5⟩|exact⟨s0,s1,s2,s3,s4,s5⟩|go_keep)) (λCR=>?_);clear hK z10;try simp only[Act.put,dD]
    refine lE (f:=3) (some 69) _ rfl (by kernel_rfl) (by kernel_rfl) (by kernel_rfl) (by kernel_rfl) (λ_ _ _ g=>g) (by kernel_rfl) (λa _=>by rfl) (by assumption) ?_;simp only[Act.put,dD];refine lE (f:=4) (some 70) _ rfl (by kernel_rfl) (by kernel_rfl) (by kernel_rfl) (by kernel_rfl) (λ_ _ _ g=>g) (by kernel_rfl) (λa _=>by rfl) (by assumption) ?_;simp only[Act.put,dD];refine lE (f:=5) (some 71) _ rfl (by kernel_rfl) (by kernel_rfl) (by kernel_rfl) (by kernel_rfl) (λ_ _ _ g=>g) (by kernel_rfl) (λa _=>by rfl) (by assumption) ?_;simp only[Act.put,dD];refine lE (f:=6) (some 72) ?_ rfl (by kernel_rfl) (by kernel_rfl) (by kernel_rfl) (by kernel_rfl) (λ_ _ _ g=>g) (by kernel_rfl) ?_ (by assumption) ?_;rotate_left
    ·(intro a F;(try dsimp only at F);go_simp;(try with_reducible rfl))
    simp only[Act.put,dD];refine lE (f:=7) (some 73) ?_ rfl (by kernel_rfl) (by kernel_rfl) (by kernel_rfl) (by kernel_rfl) (λ_ _ _ g=>g) (by kernel_rfl) ?_ (by assumption) ?_;rotate_left
    ·(intro a F;(try dsimp only at F);go_simp;(try with_reducible rfl))
    simp only[Act.put,dD];refine lE (f:=8) (some 74) ?_ rfl (by kernel_rfl) (by kernel_rfl) (by kernel_rfl) (by kernel_rfl) (λ_ _ _ g=>g) (by kernel_rfl) ?_ (by assumption) ?_;rotate_left
    ·(intro a F;(try dsimp only at F);go_simp;(try with_reducible rfl))
    simp only[Act.put,dD];refine lE (f:=9) (some 75) false rfl (by kernel_rfl) (by kernel_rfl) (by kernel_rfl) (by kernel_rfl) (λ_ _ _ g=>g) (by kernel_rfl) (λa _=>by rfl) (by assumption) ?_;simp only[Act.put,dD];refine lE (f:=10) (some 76) _ rfl (by kernel_rfl) (by kernel_rfl) (by kernel_rfl) (by kernel_rfl) (λ_ _ _ g=>g) (by kernel_rfl) (λa _=>by rfl) (by assumption) ?_;simp only[Act.put,dD];refine lE (f:=11) (some 77) _ rfl (by kernel_rfl) (by kernel_rfl) (by kernel_rfl) (by kernel_rfl) (λ_ _ _ g=>g) (by kernel_rfl) (λa _=>by rfl) (by assumption) ?_;simp only[Act.put,dD];refine lE (f:=12) (some 78) _ rfl (by kernel_rfl) (by kernel_rfl) (by kernel_rfl) (by kernel_rfl) (λ_ _ _ g=>g) (by kernel_rfl) (λa _=>by rfl) (by assumption) ?_;simp only[Act.put,dD];refine lE (f:=13) (some 79) ?_ rfl (by kernel_rfl) (by kernel_rfl) (by kernel_rfl) (by kernel_rfl) (λ_ _ _ g=>g) (by kernel_rfl) ?_ (by assumption) ?_;rotate_left
    ·(intro a F;(try dsimp only at F);go_simp;(try with_reducible rfl))
    simp only[Act.put,dD];refine lE (f:=14) (some 80) ?_ rfl (by kernel_rfl) (by kernel_rfl) (by kernel_rfl) (by kernel_rfl) (λ_ _ _ g=>g) (by kernel_rfl) ?_ (by assumption) ?_;rotate_left
    ·(intro a F;(try dsimp only at F);go_simp;(try with_reducible rfl))
    simp only[Act.put,dD];refine lE (f:=15) (some 81) _ rfl (by kernel_rfl) (by kernel_rfl) (by kernel_rfl) (by kernel_rfl) (λ_ _ _ g=>g) (by kernel_rfl) (λa _=>by rfl) (by assumption) ?_;simp only[Act.put,dD];refine lE (f:=16) (some 82) _ rfl (by kernel_rfl) (by kernel_rfl) (by kernel_rfl) (by kernel_rfl) (λ_ _ _ g=>g) (by kernel_rfl) (λa _=>by rfl) (by assumption) ?_;simp only[Act.put,dD];refine wpAnyH_ready (rs:=[17]) (by kernel_rfl) (by simp) ?_;refine AllReadyH.cons rfl (λz10 hK=>?_) AllReadyH.nil;rw[aD (by rfl)];go_simp
    (go_at_call 97;(refine(HEF.1 _ M.1 w.1).mono ?_);rintro z1z w7 ⟨rfl,B⟩;replace z0:=U B z0;replace z1:=U B z1;replace z2:=U B z2;replace Q:=U B Q;replace z4:=U B z4;replace z5:=U B z5;replace r:=A (r.1.below B);replace t:=A (t.1.below B);replace u:=A (u.1.below B);replace w:=A (w.1.below B);replace z:=A (z.1.below B);replace y:=A (y.1.below B);replace H:=A (H.1.below B);replace M:=A (M.1.below B);replace m:=A (az B m.1);replace s:=A (az B s.1);replace D:=A (az B D.1);replace n:=A (ar n.1 B);replace df:=A (ar df.1 B);clear B)
    refine Shut.out hK _ _ (by(try dsimp only);(first|exact⟨z0,z1,z2,Q,z4,z5⟩|exact⟨s0,s1,s2,s3,s4,s5⟩|go_keep)) (λCR=>?_);clear hK z10;try simp only[Act.put,dD]
    refine lE (f:=18) (some 84) _ rfl (by kernel_rfl) (by kernel_rfl) (by kernel_rfl) (by kernel_rfl) (λ_ _ _ g=>g) (by kernel_rfl) (λa _=>by rfl) (by assumption) ?_;simp only[Act.put,dD];refine lE (f:=19) (some 85) false rfl (by kernel_rfl) (by kernel_rfl) (by kernel_rfl) (by kernel_rfl) (λ_ _ _ g=>g) (by kernel_rfl) (λa _=>by rfl) (by assumption) ?_;simp only[Act.put,dD];refine lE (f:=20) (some 86) _ rfl (by kernel_rfl) (by kernel_rfl) (by kernel_rfl) (by kernel_rfl) (λ_ _ _ g=>g) (by kernel_rfl) (λa _=>by rfl) (by assumption) ?_;simp only[Act.put,dD];refine lE (f:=21) (some 87) ?_ rfl (by kernel_rfl) (by kernel_rfl) (by kernel_rfl) (by kernel_rfl) (λ_ _ _ g=>g) (by kernel_rfl) ?_ (by assumption) ?_;rotate_left
    ·(intro a F;(try dsimp only at F);go_simp;(try with_reducible rfl))
    simp only[Act.put,dD];refine lE (f:=22) (some 88) _ rfl (by kernel_rfl) (by kernel_rfl) (by kernel_rfl) (by kernel_rfl) (λ_ _ _ g=>g) (by kernel_rfl) (λa _=>by rfl) (by assumption) ?_;simp only[Act.put,dD];refine lE (f:=23) (some 89) _ rfl (by kernel_rfl) (by kernel_rfl) (by kernel_rfl) (by kernel_rfl) (λ_ _ _ g=>g) (by kernel_rfl) (λa _=>by rfl) (by assumption) ?_;simp only[Act.put,dD];refine lE (f:=24) (some 90) _ rfl (by kernel_rfl) (by kernel_rfl) (by kernel_rfl) (by kernel_rfl) (λ_ _ _ g=>g) (by kernel_rfl) (λa _=>by rfl) (by assumption) ?_;simp only[Act.put,dD];refine lE (f:=25) (some 91) ?_ rfl (by kernel_rfl) (by kernel_rfl) (by kernel_rfl) (by kernel_rfl) (λ_ _ _ g=>g) (by kernel_rfl) ?_ (by assumption) ?_;rotate_left
    ·(intro a F;(try dsimp only at F);go_simp;(try with_reducible rfl))
    simp only[Act.put,dD];refine lE (f:=26) (some 92) ?_ rfl (by kernel_rfl) (by kernel_rfl) (by kernel_rfl) (by kernel_rfl) (λ_ _ _ g=>g) (by kernel_rfl) ?_ (by assumption) ?_;rotate_left
    ·(intro a F;(try dsimp only at F);go_simp;(try with_reducible rfl))
    simp only[Act.put,dD];refine wpAnyH_ready (rs:=[27]) (by kernel_rfl) (by simp) ?_;refine AllReadyH.cons rfl (λz10 hK=>?_) AllReadyH.nil;rw[aD (by rfl)];go_simp
    (go_at_call 94;(refine(HKF.1 _ r.1 t.1 H.1 M.1).mono ?_);rintro z1z w8 ⟨rfl,q⟩;replace z0:=U q z0;replace z1:=U q z1;replace z2:=U q z2;replace Q:=U q Q;replace z4:=U q z4;replace z5:=U q z5;replace r:=A (r.1.below q);replace t:=A (t.1.below q);replace u:=A (u.1.below q);replace w:=A (w.1.below q);replace z:=A (z.1.below q);replace y:=A (y.1.below q);replace H:=A (H.1.below q);replace M:=A (M.1.below q);replace m:=A (az q m.1);replace s:=A (az q s.1);replace D:=A (az q D.1);replace n:=A (ar n.1 q);replace df:=A (ar df.1 q);clear q)
    refine Shut.out hK _ _ (by(try dsimp only);(first|exact⟨z0,z1,z2,Q,z4,z5⟩|exact⟨s0,s1,s2,s3,s4,s5⟩|go_keep)) (λCR=>?_);clear hK z10;try simp only[Act.put,dD]
    refine lE (f:=28) (some 94) _ rfl (by kernel_rfl) (by kernel_rfl) (by kernel_rfl) (by kernel_rfl) (λ_ _ _ g=>g) (by kernel_rfl) (λa _=>by rfl) (by assumption) ?_;simp only[Act.put,dD];refine lE (f:=29) (some 95) _ rfl (by kernel_rfl) (by kernel_rfl) (by kernel_rfl) (by kernel_rfl) (λ_ _ _ g=>g) (by kernel_rfl) (λa _=>by rfl) (by assumption) ?_;simp only[Act.put,dD];refine wpAnyH_done (by kernel_rfl) ?_ _;clear CR;clear s0 z0 s1 z1 s2 z2 s3 Q s4 z4 s5 z5;go_wp2_with fail;go_roundw;case rel=>exact⟨k+1,by omega,by go_num,HN,df.1⟩
    case measure=>simp[intOf];omega
  ·obtain rfl:k=h.length:=by omega
   have x:Hid (re b o d c j h i=0):=A (C.1.trans (aD HZ.1));obtain⟨r,t,u,w,z,y,m,s,D⟩:=fx (r.1.below l) (t.1.below l) (u.1.below l) (w.1.below l) (z.1.below l) (y.1.below l) (az l m.1) (az l s.1) (az l D.1);replace n:=A (ar n.1 l);clear l;obtain⟨K,oY⟩:∃K:World,K=wr:=⟨_,rfl⟩;rw[<-oY]at m s n ⊢;clear oY r t u w z y D df;obtain⟨HCX,HLX⟩:=aR (qm.of (T:=T) BM.1 n.1 K.heap.size (λz8=>(Vj.1 z8).1)) (qq.of (T:=T) HL0.1 n.1 K.heap.size (λz8=>(Vj.1 z8).2));have iV:Hid (a.heap.size+1<K.heap.size):=A (bG s.1);have Vv:Hid (∀L,L<h.length->(i.getD L []).length=j.length/\fQ b (h.getD L [])=true):=A (λL e=>by
    have g:=aa5 HZ.1 e;unfold E7 E6 at g;simp only[cu,fU]at g;exact⟨aa6 g.2.2.1,g.1⟩)
   have HMA:Hid (∀I∈i,I.length=j.length):=A (λI hm=>by
    obtain⟨L,e,rfl⟩:=FJ.1 hm;have g:=(Vv.1 L (by rw[<-Bo.1];exact e)).1;rwa [dp e]at g)
   go_wp2_with fail;go_loopw[1,100] (λlI L z6=>∃k:Nat,k<=h.length/\L=k/\∃cvI,Hid (z6.heap[a.heap.size]?=QC.mk #[d,.slice a1 b.length k1,.slice a2 o.length k2,cvI] 33)/\Hid (z6.heap[a.heap.size+1]?=QC.mk #[(0:Int),(),(),()] 33)/\Hid (qm T a.heap.size K.heap.size z6 cvI (lZ c (h.take k)))/\Hid (qq T a.heap.size K.heap.size z6 lI (uG j (i.take k)))/\Hid (Below a a z6)/\Hid (K.heap.size<=z6.heap.size)) (λ_ L _=>h.length-(intOf L).toNat);case atStart=>exact⟨0,bS _,rfl,_,m,s,HCX,HLX,n,A (aP _)⟩
   case round =>
    clear HCX HLX m s n;obtain⟨k,dg,rfl,cvI,m,s,GV,QT,n,lX⟩:=hrel;by_cases P:k<h.length
    ·obtain⟨b1,o1,n1,k9,r1,e1,q1,i1⟩:=(atp.1.below n.1).get P;simp only[dr]at e1;obtain⟨rfl,-,-⟩:=e1;obtain⟨hme,lT⟩:=Vv.1 k P;have hA:=ahi Vr.1 HZ.1 k dg;have E9:=GP lT;obtain⟨tM,dq,Vw⟩:=bJ (ag0 c h P) (asI j i (k:=k) (by rw[Bo.1];exact P)) (asM j (i.take (k+1)) (λI hm=>HMA.1 I (FM hm)) JN.1);have CV:=asJ j (i.take k);have hgm:i.getD k []=i[k]'(by rw[Bo.1];exact P):=dp (by rw[Bo.1];exact P) [];have ML:h.getD k []=h[k]:=dp P [];rw[<-hgm]at dq;rw[<-ML]at tM;have IN:=HCU.1;have Ae:=kt.1;have hfw:=atr.1;obtain⟨HPI,CT,Jb,Qp,GS⟩:=gw (λz12 v ww X Z=>asT z12 v (lZ c (h.take k)) (h.getD k []) ww X Z (by rw[hA.2,E9.2];exact aP _) (by rw[hA.2];omega) hA.1 E9.1) (λz12 v ww X Z=>atl z12 v (uG j (i.take k)) (i.getD k []) ww X Z (by rw[CV,hme];exact aP _) (by rw[CV];omega)) hA.2 (aaU hA.1 E9.1 (by rw[hA.2,E9.2];exact aP _)) CV;clear hA E9 hme lT hgm ML CV;generalize h.getD k []=N at *;obtain⟨I,qO⟩:=aK (i.getD k []);rw[<-qO]at dq CT;have HM:=A qO;clear qO;generalize lZ c (h.take k)=z7 at *;generalize uG j (i.take k)=z11 at *;obtain⟨rc,kc,rfl,-⟩:=id i1;obtain⟨ca,ck,rfl,-⟩:=id GV.1;obtain⟨la,lk,rfl,-⟩:=id QT.1;have H:=A i1;have j0:(0:Int)<=(k:Int):=by omega
     have j1:(k:Int)<(h.length:Int):=by omega
     have j2:(k:Int)<(i.length:Int):=by have:=Bo.1;omega
     have c3:=Y m.1 (k:=3) rfl;clear i1;go_wp2_with fail;clear c3 q1;refine(HPI.1 _ _ _ GV.1.ints H.1).mono ?_;rintro z1z w6 ⟨z9,rfl,hox,p⟩;obtain⟨xa,xk,rfl⟩:=asE hox;have hx6:qm T a.heap.size K.heap.size w6 (.slice xa z7.length xk) (mulL z7 N):=qm.own hox lX.1 (λz14 hz=>(Qp.1 z14 hz).r64) (by rw[Mr,Jb.1];omega);obtain⟨cO,Q16,QU,Pv,nD,JP⟩:=oJ (ar n.1 p) (az p m.1) (az p s.1) (QT.1.below p) (bK lX.1 p.size) hx6;obtain⟨O,G⟩:=aK (w6.setCell (a,3) (.slice xa z7.length xk));have Q17:Hid (O.heap[a.heap.size]?=QC.mk #[d,.slice a1 b.length k1,.slice a2 o.length k2,.slice xa z7.length xk] 33):=A (by rw[G];exact cK Q16.1 3 _);have Vx:=A (show O.heap[a.heap.size+1]?=QC.mk #[(0:Int),(),(),()] 33 by rw[G,heap_setCell_other _ _ _ _ (by simp)];exact QU.1);have E:=iV.1;obtain⟨De,Vy,hZ,EZ,ou⟩:=gw (show qm T a.heap.size K.heap.size O (.slice xa z7.length xk) (mulL z7 N) by rw[G];exact JP.1.set (aP _) (by omega) _) (show qq T a.heap.size K.heap.size O (.slice la z11.length lk) z11 by rw[G];exact Pv.1.set (aP _) (by omega) _) (show Below a a O by rw[G];exact cO.1.setCell (aP _) _) (show K.heap.size<=O.heap.size by rw[G,World.size_setCell];exact nD.1) G;have Q:=Y Q16.1 (k:=3) rfl;have f3:=cB Q16.1 3;obtain⟨b2,o2,n2,k8,r2,e2,q2,i2⟩:=(atq.1.below hZ.1).get (k:=k) (by rw[Bo.1];exact P);simp only[dr]at e2;obtain⟨rfl,-,-⟩:=e2;rw[<-HM.1]at i2;obtain⟨rm,km,rfl,-⟩:=id i2;have M:=A i2;clear i2;rw[ou.1]at q2;go_wp2_with fail;rw[<-ou.1];clear q2 Q f3;with_reducible refine(CT.1 _ _ _ Vy.1.shares M.1).mono ?_
     rintro z1z w8 ⟨z13,rfl,tl,q⟩;obtain⟨HY8,ik,Q18,Q28,Vz,GA⟩:=oJ (show qq T a.heap.size K.heap.size w8 z13 (addS z11 I) from qq.own tl EZ.1 (by rw[<-dq.1];exact Vw.1) (by rw[Vo,GS.1];omega)) (ar hZ.1 q) (az q Q17.1) (az q Vx.1) (De.1.below q) (bK EZ.1 q.size);clear tl q hox p hx6 G;go_wp2_with fail;go_roundw;case rel=>exact⟨k+1,by omega,by go_num,_,Q18,Q28,by rw[tM.1];exact Vz,by rw[dq.1];exact HY8,ik,GA⟩
     case measure=>simp[intOf];omega
    ·obtain rfl:k=h.length:=by omega
     rw[m9]at GV;rw[zJ (by rw[Bo.1];exact aP _)]at QT;obtain⟨ca,ck,rfl,-⟩:=id GV.1;obtain⟨la,lk,rfl,-⟩:=id QT.1;have VA:IntKind.i64.wrap (d+1)=d+1:=by rw[KV];omega
     have E:=iV.1;obtain⟨O,G⟩:=aK (wr.setCell (a,0) (d+1:Int));have Q17:Hid (O.heap[a.heap.size]?=QC.mk #[(d+1:Int),.slice a1 b.length k1,.slice a2 o.length k2,.slice ca (lZ c h).length ck] 33):=A (by rw[G];exact cK m.1 0 _);obtain⟨Vx,De,Vy,hZ,ou⟩:=gw (show O.heap[a.heap.size+1]?=QC.mk #[(0:Int),(),(),()] 33 by rw[G,heap_setCell_other _ _ _ _ (by simp)];exact s.1) (show qm T a.heap.size K.heap.size O (.slice ca (lZ c h).length ck) (lZ c h) by rw[G];exact GV.1.set (aP _) (by omega) _) (show qq T a.heap.size K.heap.size O (.slice la (uG j i).length lk) (uG j i) by rw[G];exact QT.1.set (aP _) (by omega) _) (show Below a a O by rw[G];exact n.1.setCell (aP _) _) G;have c0:=Y m.1 (k:=0) rfl;have g0:=cB m.1 0;obtain⟨z0,z1,z2,Q⟩:=fh Q17.1;obtain⟨x0,x1,x2,x3⟩:=fh Vx.1;obtain⟨f0,f1,f2,f3⟩:=wm Vx.1;clear G;go_wp2_with (rw[<-ou.1]);try simp only[Exit.inBlock,Exit.then]
     refine gB (v:=.tuple #[.agg #[(d+1:Int),.slice a1 b.length k1,.slice a2 o.length k2,.slice ca (lZ c h).length ck],.slice la (uG j i).length lk,(0:Int)]) ?_ rfl ?_
     ·rw[Mv rfl];go_simp
     ·refine⟨_,_,by rw[x.1],λ_=>⟨_,rfl,((((De.1.set (eP _) E _).set (eP _) E _).set (eP _) E _).set (eP _) E _).ints,((((Vy.1.set (eP _) E _).set (eP _) E _).set (eP _) E _).set (eP _) E _).shares,λz8=>⟨((((De.1.set (eP _) E _).set (eP _) E _).set (eP _) E _).set (eP _) E _).typ z8,((((Vy.1.set (eP _) E _).set (eP _) E _).set (eP _) E _).set (eP _) E _).typ z8⟩⟩,λg=>absurd x.1 g,(((hZ.1.setCell (eP _) _).setCell (eP _) _).setCell (eP _) _).setCell (eP _) _⟩
