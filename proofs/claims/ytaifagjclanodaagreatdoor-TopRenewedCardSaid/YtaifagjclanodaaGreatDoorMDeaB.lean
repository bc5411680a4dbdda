/- Package program: Check. -/
import Derived.Test.YtaifagjclanodaaGreatDoorMLinE
set_option maxHeartbeats 2000000
set_option maxRecDepth 100000
namespace Go.Proofs.YtaifagjclanodaaGreatDoor
open Go.Proofs.Tryz
open Go.RowKit
variable{f:Array Value}{d:Int}{k e:Nat}{b c:V}{a:ak}
def nt(e:Nat)(c:V)(d:Int):Bool:=decide (c.length=0)||(decide (c.length≠e)||(!ct d 0 63||c.any cM))
def bH(a:ak)(b:V):Int:=
 if 64<a.length\/a.any uZ=true then 2 else if a.length≠b.length then 230
 else if (a.zip b).any (λg=>nt (wide a) g.1 g.2)=true then 230 else 0
theorem TB(g:64<a.length\/a.any uZ=true):bH a b=2:=by unfold bH;rw[aD g]
theorem adZ(i:a.length<=64)(g:a.any uZ=false)(h:a.length≠b.length):bH a b=230:=by
 unfold bH;rw[aA (by rw[g];simp;omega),aD h]
theorem Yx(g:a.length=b.length)(h:k<a.length):(a.zip b)[k]'(by simp;omega)=(a[k],b[k]'(by omega)):=by simp
theorem ad0(m:a.length<=64)(g:a.any uZ=false)(h:a.length=b.length)(j:k<a.length)(i:nt (wide a) a[k] (b[k]'(by omega))=true):bH a b=230:=by
 unfold bH;rw[aA (by rw[g];simp;omega),aA (by omega),aD];rw[oI];have l:k<(a.zip b).length:=by simp;omega
 exact⟨(a.zip b)[k],bM l,by rw[Yx h j];exact i⟩
theorem ad1(o:a.length<=64)(j:a.any uZ=false)(l:a.length=b.length)(m:∀k (i:k<a.length),nt (wide a) a[k] (b[k]'(by omega))=false):bH a b=0:=by
 unfold bH;rw[aA (by rw[j];simp;omega),aA (by omega),aA];intro ha;rw[oI]at ha;obtain⟨p,n,g⟩:=ha;obtain⟨k,i,rfl⟩:=FJ.1 n;have h:k<a.length:=by simp at i;omega
 rw[Yx l h]at g;rw[m k h]at g;cases g
theorem ee(g:World)(j l:Value)(i:TypeId):∃h,h=g.alloc (.cells #[j,l] i)/\Below g g h/\h.heap[g.heap.size]?=QC.mk #[j,l] i/\g.heap.size<h.heap.size:=
 ⟨_,rfl,(aY _ _).alloc (aP _) _,World.alloc_heap_new _ _,by simp[go_sem]⟩
theorem F8{g:World}{i:Nat}{m:TypeId}(j:g.heap[i]?=QC.mk f m){h:Value}(l:f[k]?=some h):g.cell? (i,k)=some h:=by
 simp[World.cell?,j,l]
theorem ad3(g:c.length=0):nt e c d=true:=by unfold nt;rw[bB g];rfl
theorem ad4(g:c.length≠e):nt e c d=true:=by unfold nt;rw[bB g];simp
theorem Yy(g:ct d 0 63=false):nt e c d=true:=by unfold nt;rw[g];simp
theorem ad5(g:c.any cM=true):nt e c d=true:=by unfold nt;rw[g];simp
theorem ad6(g:c.length≠0)(h:c.length=e)(i:ct d 0 63=true)(j:c.any cM=false):nt e c d=false:=by
 unfold nt;rw[bw g,bw (by simpa using h),i,j];rfl
theorem sW(rv Z:Value)(a:ak)(b:V)(q:World)(S:bI q rv a)(R:aM q Z b):
  Calls prog 43 #[.agg #[rv,Z]] q λj w'=>j=.returned (bH a b:Int)/\Below q q w':=by
 obtain⟨C,aE,D,M,hz⟩:=ee q rv Z 25;obtain⟨gF,jr⟩:=aR (S.below D) (R.below D);obtain⟨z0z,cap,rfl,-,hlen,-⟩:=id S;obtain⟨a2,dj,rfl,-,qF,-⟩:=id R;have O:C.cell? (q,0)=some (.slice z0z a.length cap):=F8 M rfl;have P:C.cell? (q,1)=some (.slice a2 b.length dj):=F8 M rfl;obtain⟨E,F⟩:=aR aE D;clear S R M aE D;by_cases X:a.length<=64
 ·have t:=A (amz 125 #[] uZ _ a C gF.1 amG (amF C));cases s:a.any uZ with
  |true =>
   have g:=A (TB (b:=b) (.inr s));rw[s]at t;clear s;go_enter func43,ntmps43;go_wp2_with fail;rw[<-E.1];refine t.1.mono ?_;rintro j H ⟨rfl,i⟩;go_wp2_with fail;go_ret;exact⟨fL g.1.symm,ar F.1 i⟩
  |false =>
   rw[s]at t;have K:=A s;clear s;by_cases v:a.length=b.length
   ·have Yz:((a.length:Int)!=(b.length:Int))=false:=by rw[v];exact FF _
    have w:=A v;clear v;go_enter func43,ntmps43;go_wp2_with fail;rw[<-E.1];refine t.1.mono ?_;rintro j H ⟨rfl,i⟩;have d0:=U i O;have d1:=U i P;obtain⟨dz,dH,ev⟩:=bJ (gF.1.below i) (jr.1.below i) (ar F.1 i);clear i O P t;go_wp2_with fail;go_loopw[27] (λW z2=>∃k:Nat,k<=a.length/\W=k/\Hid (∀h (z:h<a.length),h<k->nt (wide a) a[h] (b[h]'(by have:=w.1;omega))=false)/\Below H H z2) (λW _=>a.length-(intOf W).toNat);case atStart=>exact⟨0,bS _,rfl,A (λh _ y=>absurd y (fG _)),aY _ _⟩
    case round =>
     obtain⟨k,dg,rfl,L,n⟩:=hrel;have x0:=U n d0;have x1:=U n d1;obtain⟨x,ui⟩:=aR (ar ev.1 n) n;by_cases aq:k<a.length
     ·have wI:k<b.length:=by have:=w.1;omega
      obtain⟨aa,cc,l,-,-,T⟩:=dz.1;obtain⟨z1z,off,c,ha,q1,Q⟩:=T k aq;obtain⟨b0,acQ,r0,D8,q0,rN⟩:=T 0 (by omega);simp only[dr]at l;obtain⟨rfl,-,rfl⟩:=l;subst ha;simp only[tX,Cn,and_true]at D8;obtain⟨rfl,rfl⟩:=D8;obtain⟨aa2,cc2,m,-,-,bE,bW⟩:=dH.1;obtain⟨b2,oQ,CC,q2⟩:=bW k wI;simp only[dr]at m;obtain⟨rfl,-,rfl⟩:=m;subst CC;have CD:=bE _ (bM wI);rw[rF]at q0;have y0:=U n q0;have y1:=U n q1;have y2:=U n q2;have HI:=A (Q.below n);obtain⟨ra,rc,rfl,-⟩:=id Q;obtain⟨ra0,rc0,rfl,-⟩:=id rN;obtain⟨D9,o⟩:=aR (A7 a (by omega)) (λy=>ad0 X K.1 w.1 aq y);have u:=A (show nt (wide a) a[k] b[k]=false->∀h (z:h<a.length),h<k+1->nt (wide a) a[h] (b[h]'(by have:=w.1;omega))=false from λy h z Bb=>by
       by_cases j:h=k
       ·subst j;exact y
       ·exact L.1 h z (by omega))
      rw[D9.1]at y0;clear Q rN T bW bE q0 q1 q2 L n D9;generalize a[k]=c at *;generalize b[k]=d at *;generalize wide a=e at *;by_cases p:c.length=0
      ·have g:=A (o.1 (ad3 p));have z0:((c.length:Int)==0)=true:=by rw[p];rfl
       clear p u o;go_wp2_with fail;go_ret;exact⟨fL g.1.symm,x.1⟩
      ·have z0:((c.length:Int)==0)=false:=eH.2 (by omega);by_cases l:c.length=e
       ·have z1:((c.length:Int)!=(e:Int))=false:=by rw[l];exact FF _
        cases m:ct d 0 63 with
        |false =>
         obtain⟨g,B⟩:=aR (o.1 (Yy (e:=e) (c:=c) m)) m;clear p l m u o;go_wp2_with fail;with_reducible refine(IA d _).mono ?_
         rintro j I ⟨rfl,rfl⟩;rw[B.1];go_wp2_with fail;go_ret;exact⟨fL g.1.symm,x.1⟩
        |true =>
         obtain⟨B,G⟩:=aR m (wx 127 #[] cM _ c _ HI.1 amD (amC _ _));cases r:c.any cM with
         |true =>
          have g:=A (o.1 (ad5 (e:=e) (d:=d) r));rw[r]at G;clear p l m r u o;go_wp2_with fail;with_reducible refine(IA d _).mono ?_
          rintro j I ⟨rfl,rfl⟩;rw[B.1];go_wp2_with fail;refine G.1.mono ?_;rintro j I ⟨rfl,N⟩;go_wp2_with fail;go_ret;exact⟨fL g.1.symm,ar x.1 N⟩
         |false =>
          have HN:=A (u.1 (ad6 p l m r));rw[r]at G;clear p l m r u o;go_wp2_with fail;with_reducible refine(IA d _).mono ?_
          rintro j I ⟨rfl,rfl⟩;rw[B.1];go_wp2_with fail;refine G.1.mono ?_;rintro j I ⟨rfl,N⟩;go_wp2_with fail;go_roundw;case rel=>exact⟨k+1,by omega,by go_num,HN,ar ui.1 N⟩
          case measure=>simp[intOf];omega
       ·have g:=A (o.1 (ad4 (d:=d) l));have z1:((c.length:Int)!=(e:Int))=true:=jg.2 (by omega);clear p l u o;go_wp2_with fail;go_ret;exact⟨fL g.1.symm,x.1⟩
     ·have g:=A (ad1 X K.1 w.1 (λh z=>L.1 h z (by omega)));go_wp2_with fail;go_ret;exact⟨fL g.1.symm,x.1⟩
   ·have Yz:((a.length:Int)!=(b.length:Int))=true:=jg.2 (by omega);have g:=A (adZ X K.1 v);clear v;go_enter func43,ntmps43;go_wp2_with fail;rw[<-E.1];refine t.1.mono ?_;rintro j H ⟨rfl,i⟩;have d0:=U i O;have d1:=U i P;go_wp2_with fail;go_ret;exact⟨fL g.1.symm,ar F.1 i⟩
 ·have g:=A (TB (a:=a) (b:=b) (.inl (by omega)));go_enter func43,ntmps43;go_wp2_with fail;go_ret;exact⟨fL g.1.symm,E.1▸F.1⟩
