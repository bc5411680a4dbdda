/- The reference of program: Check. -/
import Derived.Test.YtaifagjclanodaaGreatDoorMDeaB
import Derived.Test.YtaifagjclanodaaGreatDoorMLinJ
set_option maxHeartbeats 4000000
set_option maxRecDepth 100000
namespace Go.Proofs.YtaifagjclanodaaGreatDoor
open Go.Proofs.Tryz
open Go.RowKit
variable{k:Nat}
theorem aec{α:Type}{p:α->Bool}{a:List α}(h:¬ k<a.length)(f:∀b∈a.take k,p b=false):a.any p=false:=by
 have e:∀b∈a,p b=false:=by rwa [zJ (by omega)]at f
 cases d:a.any p with
 |false=>rfl
 |true=>obtain⟨b,g,c⟩:=oI.1 d;rw[e b g]at c;cases c
theorem aed{α:Type}{p:α->Bool}{c:List α}(d:k<c.length)(f:∀b∈c.take k,p b=false)(e:p c[k]=false):∀b∈c.take (k+1),p b=false:=by
 rw[jv d];intro b a;rcases lN.1 a with a|a
 ·exact f b a
 ·rw[jJ.1 a];exact e
theorem aee{α:Type}{p:α->Bool}{a:List α}(b:k<a.length)(c:p a[k]=true):a.any p=true:=oI.2 ⟨_,bM b,c⟩
theorem amZ(rv ov:Value)(b:ak)(f:V)(q:World)(X:bI q rv b)(W:aM q ov f):
  Calls prog 66 #[.agg #[rv,ov]] q λQ w'=>Q=.returned (bH b f:Int)/\Below q q w':=by
 obtain⟨G,aE,H,O,hz⟩:=ee q rv ov 25;obtain⟨T,jr⟩:=aR (X.below H) (W.below H);obtain⟨z4,cap,rfl,-,hlen,-⟩:=id X;obtain⟨a2,dj,rfl,-,qF,-⟩:=id W;have c0:G.cell? (q,0)=some (.slice z4 b.length cap):=F8 O rfl;have c1:G.cell? (q,1)=some (.slice a2 f.length dj):=F8 O rfl;obtain⟨bp,P⟩:=aR aE H;clear X W O aE H;by_cases Z:b.length<=64
 ·go_enter func66,ntmps66;go_wp2_with fail;rw[<-bp.1];go_loopw[3] (λj B=>∃k:Nat,k<=b.length/\j=k/\Hid (∀c∈b.take k,uZ c=false)/\Below G G B) (λj _=>b.length-(intOf j).toNat);case atStart=>exact⟨0,bS _,rfl,A (by simp),aY _ _⟩
  case round =>
   obtain⟨k,dg,rfl,r,e⟩:=hrel;have x0:=U e c0;have x1:=U e c1;have n:=A e;by_cases s:k<b.length
   ·obtain⟨aa,cc,g,-,-,w⟩:=T.1;obtain⟨z5,off,c,ha,F,v⟩:=w k s;simp only[dr]at g;obtain⟨rfl,-,rfl⟩:=g;subst ha;have y1:=U e F;obtain⟨ra,rc,rfl,-⟩:=id v;clear w v F;cases u:uZ b[k] with
    |true =>
     have d:=A (TB (b:=f) (.inr (aee s u)));have hd:decide ((64:Int)<(b[k].length:Int))=true:=bB (by simp[uZ]at u;omega);clear u;generalize b[k]=c at *;go_wp2_with fail;go_ret;exact⟨fL d.1.symm,ar P.1 n.1⟩
    |false =>
     have y:=A (aed s r.1 u);have hd:decide ((64:Int)<(b[k].length:Int))=false:=bw (by simp[uZ]at u;omega);clear u;generalize b[k]=c at *;go_wp2_with fail;go_roundw;case rel=>exact⟨k+1,by omega,by go_num,y,n.1⟩
     case measure=>simp[intOf];omega
   ·obtain⟨N,S,dz,dH⟩:=cY (aec s r.1) (ar P.1 n.1) (T.1.below n.1) (jr.1.below n.1);by_cases C:b.length=f.length
    ·have Yz:((b.length:Int)!=(f.length:Int))=false:=by rw[C];exact FF _
     have D:=A C;clear C r T jr e n;go_wp2_with fail;obtain⟨K,hwo⟩:∃K:World,K=wr:=⟨_,rfl⟩;rw[<-hwo]at dz dH S x0 x1 ⊢;clear hwo;go_loopw[4] (λj B=>∃k:Nat,k<=b.length/\j=k/\Hid (∀a (l:a<b.length),a<k->nt (wide b) b[a] (f[a]'(by have:=D.1;omega))=false)/\Below K K B) (λj _=>b.length-(intOf j).toNat);case atStart=>exact⟨0,bS _,rfl,A (λa _ E=>absurd E (fG _)),aY _ _⟩
     case round =>
      obtain⟨k,dg,rfl,r,e⟩:=hrel;have v0:=U e x0;have v1:=U e x1;obtain⟨p,n⟩:=aR (ar S.1 e) e;by_cases s:k<b.length
      ·have wI:k<f.length:=by have:=D.1;omega
       obtain⟨aa,cc,g,-,-,w⟩:=dz.1;obtain⟨z5,off,c,ha,F,v⟩:=w k s;obtain⟨b0,acQ,r0,D8,q0,rN⟩:=w 0 (by omega);simp only[dr]at g;obtain⟨rfl,-,rfl⟩:=g;subst ha;simp only[tX,Cn,and_true]at D8;obtain⟨rfl,rfl⟩:=D8;obtain⟨aa2,cc2,R,-,-,bE,bW⟩:=dH.1;obtain⟨b2,oQ,CC,q2⟩:=bW k wI;simp only[dr]at R;obtain⟨rfl,-,rfl⟩:=R;subst CC;have CD:=bE _ (bM wI);rw[rF]at q0;have y0:=U e q0;have y1:=U e F;have y2:=U e q2;have HI:=A (v.below e);obtain⟨ra,rc,rfl,-,pS,-⟩:=id v;obtain⟨ra0,rc0,rfl,-⟩:=id rN;obtain⟨D9,h⟩:=aR (A7 b (by omega)) (λE=>ad0 Z N.1 D.1 s E);have m:=A (show nt (wide b) b[k] f[k]=false->∀a (l:a<b.length),a<k+1->nt (wide b) b[a] (f[a]'(by have:=D.1;omega))=false from λE a l Bb=>by
        by_cases Q:a=k
        ·subst Q;exact E
        ·exact r.1 a l (by omega))
       rw[D9.1]at y0;have i0:0<=(k:Int):=by omega
       have i1:(k:Int)<(b.length:Int):=by omega
       have i2:(k:Int)<(f.length:Int):=by omega
       have i3:(0:Int)<(b.length:Int):=by omega
       clear v rN w bW bE q0 F q2 r e D9;generalize b[k]=c at *;generalize f[k]=i at *;generalize wide b=x at *;by_cases t:c.length=0
       ·have d:=A (h.1 (ad3 t));have z0:decide ((c.length:Int)<1)=true:=bB (by omega);clear t m h;go_wp2_with fail;go_quiet (fail);go_wp2_with fail;go_ret;exact⟨fL d.1.symm,ID p.1 _⟩
       ·have z0:decide ((c.length:Int)<1)=false:=bw (by omega);by_cases g:c.length=x
        ·have z1:((c.length:Int)!=(x:Int))=false:=by rw[g];exact FF _
         by_cases R:0<=i
         ·have z2:decide (i<0)=false:=bw (by omega);by_cases e3:i<64
          ·have z3:decide (i>=64)=false:=bw (by omega);obtain⟨nS,CE⟩:=aR (jo.2 (show 0<=i/\i<=63 by omega)) g;clear g;go_wp2_with fail;go_quiet (fail);obtain⟨L,hwq⟩:∃L:World,L=wr:=⟨_,rfl⟩;rw[<-hwq]at HI p n v0 v1 y0 y1 y2 ⊢;clear hwq y0 y2;go_wp2_with fail;go_loopw[5] (λj B=>∃a:Nat,a<=c.length/\j=.int .i64 a/\Hid (∀M∈c.take a,cM M=false)/\Below L L B) (λj _=>c.length-(intOf j).toNat);case atStart=>exact⟨0,bS _,rfl,A (by simp),ID (aY _ _) _⟩
           case round =>
            obtain⟨a,nh,rfl,HQ,z⟩:=hrel;have s0:=U z v0;have s2:=U z y1;have I:=A z;by_cases l:a<c.length
            ·obtain⟨ab,ac,e5,-,-,kB,sZ⟩:=HI.1;obtain⟨bb,oo,ha5,q5⟩:=sZ a l;simp only[dr]at e5;obtain⟨rfl,-,rfl⟩:=e5;subst ha5;have s3:=U z q5;have j0:0<=(a:Int):=by omega
             have j1:(a:Int)<(c.length:Int):=by omega
             clear sZ kB z q5;cases o:cM c[a] with
             |true =>
              have d:=A (h.1 (ad5 (e:=x) (d:=i) (aee l o)));by_cases hn:c[a]<0
              ·clear o m h;generalize c[a]=M at *;go_wp2_with fail;go_ret;exact⟨fL d.1.symm,ar p.1 I.1⟩
              ·have hq:decide (c[a]>=1073741789)=true:=bB (by simp[cM]at o;omega);have Aa:0<=c[a]:=by omega
               clear o hn m h;generalize c[a]=M at *;go_wp2_with fail;go_ret;exact⟨fL d.1.symm,ar p.1 I.1⟩
             |false =>
              have y:=A (aed l HQ.1 o);have Aa:0<=c[a]:=by simp[cM]at o;omega
              have oS:c[a]<1073741789:=by simp[cM]at o;omega
              clear o m h;generalize c[a]=M at *;go_wp2_with fail;go_roundw;case rel=>exact⟨a+1,by omega,by go_num,y,I.1⟩
              case measure=>simp[intOf];omega
            ·have y:=A (m.1 (ad6 t CE.1 nS.1 (aec l HQ.1)));clear m h t;go_wp2_with fail;go_roundw;case rel=>exact⟨k+1,by omega,by go_num,y,ar n.1 I.1⟩
             case measure=>simp[intOf];omega
          ·have d:=A (h.1 (Yy (e:=x) (c:=c) (S6 (show ¬ (0<=i/\i<=63) by omega))));clear t g m h;go_wp2_with fail;go_quiet (fail);go_wp2_with fail;go_ret;exact⟨fL d.1.symm,ID p.1 _⟩
         ·have d:=A (h.1 (Yy (e:=x) (c:=c) (S6 (show ¬ (0<=i/\i<=63) by omega))));clear t g m h;go_wp2_with fail;go_quiet (fail);go_wp2_with fail;go_ret;exact⟨fL d.1.symm,ID p.1 _⟩
        ·have d:=A (h.1 (ad4 (d:=i) g));have z1:((c.length:Int)!=(x:Int))=true:=jg.2 (by omega);clear t g m h;go_wp2_with fail;go_quiet (fail);go_wp2_with fail;go_ret;exact⟨fL d.1.symm,ID p.1 _⟩
      ·have d:=A (ad1 Z N.1 D.1 (λa l=>r.1 a l (by omega)));go_wp2_with fail;go_ret;exact⟨fL d.1.symm,p.1⟩
    ·have Yz:((b.length:Int)!=(f.length:Int))=true:=jg.2 (by omega);have d:=A (adZ Z N.1 C);clear C;go_wp2_with fail;go_ret;exact⟨fL d.1.symm,S.1⟩
 ·have d:=A (TB (a:=b) (b:=f) (.inl (by omega)));go_enter func66,ntmps66;go_wp2_with fail;go_ret;exact⟨fL d.1.symm,bp.1▸P.1⟩
