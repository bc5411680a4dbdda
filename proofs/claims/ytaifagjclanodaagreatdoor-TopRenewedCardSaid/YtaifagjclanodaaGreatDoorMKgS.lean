/- Package keygen: Own. TopRenewed: a lost share is rebuilt. -/
import Derived.Test.YtaifagjclanodaaGreatDoorMKgM
set_option maxHeartbeats 16000000
set_option maxRecDepth 100000
namespace Go.Proofs.YtaifagjclanodaaGreatDoor
open Go.Proofs.Tryz
open Go.RowKit FP
variable{c:Value}{a:ak}
attribute [local go_sem] Oper.semAt_some
theorem aw9(W:World):(zeroValue 84).run prog W=.ok (.agg #[(0:Int),(),()]) W:=by kernel_rfl
def NH(b:List bD)(j:tQ):aO->(Int->Option Value)->Int->Option Value
 |[],e=>e
 |k::l,e=>NH b j l (th e (b.getD k zg).dealer (Ff b j k))
theorem ajz(b:List bD)(k:tQ):∀(l:aO) (e:Int->Option Value) (j:Nat),NH b k (l++[j]) e=th (NH b k l e) (b.getD j zg).dealer (Ff b k j)
 |[],_,_=>rfl
 |_::m,_,j=>ajz b k m _ j
theorem ajA(k:List bD)(m:tQ):∀(p:aO) (e:Int->Option Value) (j:Int) (c:Value),NH k m p e j=some c->(∃l∈p,(k.getD l zg).dealer=j/\c=Ff k m l)\/e j=some c
 |[],_,_,_,o=>.inr o
 |l::s,e,j,c,o=>by
  rcases ajA k m s _ j c o with⟨r,q,b⟩|b
  ·exact .inl ⟨r,wi _ q,b⟩
  ·unfold th at b;by_cases n:j=(k.getD l zg).dealer
   ·rw[aD n]at b;exact .inl ⟨l,wh,n.symm,by injection b with b;exact b.symm⟩
   ·rw[aA n]at b;exact .inr b
theorem ajB(l:List bD)(q:tQ):∀(p:aO) (e:Int->Option Value) (b:Int),NH l q p e b=none->e b=none/\∀o∈p,(l.getD o zg).dealer≠b
 |[],_,_,k=>⟨k,λ_ k=>by cases k⟩
 |o::u,e,b,k=>by
  obtain⟨j,s⟩:=ajB l q u _ b k;unfold th at j;by_cases n:b=(l.getD o zg).dealer
  ·rw[aD n]at j;cases j
  ·rw[aA n]at j;exact⟨j,λt m=>by
    rcases iu.1 m with rfl|m
    ·exact λr=>n r.symm
    ·exact s t m⟩
def xQ(a:ak)(b:List bD)(k:tQ)(j:Nat):Int->Option Value:=NH b k ((gh a b b.length).take j) (λ_=>none)
theorem axa{b:List bD}{k:tQ}{j:Nat}(l:j<(gh a b b.length).length):xQ a b k (j+1)=th (xQ a b k j) (qd a b j).dealer (Ff b k (qx a b j)):=by
 have m:(gh a b b.length)[j]=qx a b j:=by unfold qx;rw[dp l]
 unfold xQ;rw[jv l,ajz,m];rfl
theorem ajC{j:List bD}{l:Nat}:l∈gh a j j.length↔∃m:l<j.length,mX a j[l]=true:=by
 unfold gh;rw[Cq,dT];constructor
 ·rintro⟨b,k⟩;exact⟨b,by rw[<-M8 b];exact k⟩
 ·rintro⟨b,k⟩;exact⟨b,by rw[M8 b];exact k⟩
theorem axb{b:List bD}{p:tQ}{m:Int}(k:xQ a b p (gh a b b.length).length m=none):b.any (y9 a m)=false:=by
 unfold xQ at k;rw[m9]at k;obtain⟨-,n⟩:=ajB _ _ _ _ _ k;rw[FK];intro r o;obtain⟨q,l,rfl⟩:=Cs o;unfold y9;intro j;rw[cu,gI]at j;exact n q (ajC.2 ⟨l,j.2⟩) (by rw[dp l];exact j.1)
theorem axc{b:List bD}{z:tQ}{r:Int}(D:qt b=true)(u:xQ a b z (gh a b b.length).length r=some c):∃(j:Nat) (k:j<b.length),c=Ff b z j/\findD a b r=b[j]/\b.any (y9 a r)=true:=by
 unfold xQ at u;rw[m9]at u;rcases ajA _ _ _ _ _ _ u with⟨j,s,o,B⟩|s
 ·obtain⟨k,C⟩:=ajC.1 s;rw[dp k]at o;have v:b.any (y9 a r)=true:=oI.2 ⟨b[j],bM k,by unfold y9;rw[o,C];simp⟩;refine⟨j,k,B,?_,v⟩;obtain⟨E,y,-⟩:=abo v;obtain⟨m,p,t⟩:=Cs E;have x:=Co.1 (VE D);have n:∀q (w:q<b.length),(eW b)[q]'(by rw[xA];exact w)=b[q].dealer:=λq w=>by simp[eW]
  rcases SH j m with l|l|l
  ·have:=x j m (by rw[xA];exact k) (by rw[xA];exact p) l;rw[n j k,n m p,t,y,o]at this;exact absurd this (Int.lt_irrefl _)
  ·subst l;exact t.symm
  ·have:=x m j (by rw[xA];exact p) (by rw[xA];exact k) l;rw[n j k,n m p,t,y,o]at this;exact absurd this (Int.lt_irrefl _)
 ·cases s
theorem ft.turn{W h:World}{j:Nat}{e:Int->Option Value}(r:jH W j e)(q:W.heap.size<=h.heap.size)(p:∀k,k≠j->h.heap[k]?=W.heap[k]?):ft W h:=by
 refine⟨q,λm u b l=>?_⟩;by_cases n:m=j
 ·subst n;obtain⟨t,s,o,-⟩:=r.ex;rw[o]at b;injection b with b;rw[<-b]at l;cases l
 ·exact(p m n).trans b
def axd(k c j:Int)(b:World)(m:Ending)(l:World):Prop:=m=.returned (.tuple #[.agg #[.int .i64 k,.int .i64 c],.int .i64 j])/\Below b.heap.size b l
theorem axe(b:World)(f g:Value):∃W,W=((b.alloc (.cells #[f,g] 25)).alloc (.cells #[(0:Int),(0:Int)] 66)).alloc (.cells #[(0:Int)] 29)/\Below b b W /\
  W.heap[b.heap.size]?=QC.mk #[f,g] 25/\W.heap[b.heap.size+1]?=QC.mk #[(0:Int),(0:Int)] 66/\W.heap[b.heap.size+1+1]?=QC.mk #[(0:Int)] 29:=by
 obtain⟨j,l⟩:=aK (b.alloc (.cells #[f,g] 25));obtain⟨k,m⟩:=aK (j.alloc (.cells #[(0:Int),(0:Int)] 66));obtain⟨n,r⟩:=aK (k.alloc (.cells #[(0:Int)] 29));have o:Below b b j:=by rw[l];exact bk _ _ _
 have p:Below j j k:=by rw[m];exact bk _ _ _
 have q:Below k k n:=by rw[r];exact bk _ _ _
 have s:j.heap.size=b.heap.size+1:=by rw[l];simp
 have v:k.heap.size=b.heap.size+1+1:=by rw[m];simp[s]
 have t:j.heap[b.heap.size]?=QC.mk #[f,g] 25:=by rw[l];exact World.alloc_heap_new _ _
 have r2:k.heap[b.heap.size+1]?=QC.mk #[(0:Int),(0:Int)] 66:=by rw[m,<-s];exact World.alloc_heap_new _ _
 have u:n.heap[b.heap.size+1+1]?=QC.mk #[(0:Int)] 29:=by rw[r,<-v];exact World.alloc_heap_new _ _
 exact⟨n,by rw[r,m,l],o.trans ((p.mono o.size).trans (q.mono (bK o.size p.size))),(q.block _ (by omega)).trans ((p.block _ (by omega)).trans t),(q.block _ (by omega)).trans r2,u⟩
theorem axf(w:World):∃W,W=(w.alloc (.map #[] 0)).alloc (.cells #[.map (some w.heap.size)] 169)/\Below w w W/\jH W w.heap.size (λ_=>none)/\W.heap[w.heap.size+1]?=QC.mk #[.map (some w.heap.size)] 169/\W.heap.size=w.heap.size+1+1:=by
 obtain⟨b,j⟩:=aK (w.alloc (.map #[] 0));have l:b.heap.size=w.heap.size+1:=by rw[j];simp
 have n:Below w w b:=by rw[j];exact(aY _ _).alloc (aP _) _
 have k:=bk b #[.map (some w.heap.size)] 169;refine⟨b.alloc (.cells #[.map (some w.heap.size)] 169),by rw[j],ar n k,?_,?_,by simp[l]⟩
 ·have m:=jH.new (w:=w);rw[<-j]at m;exact m.below k
 ·rw[<-l];exact World.alloc_heap_new _ _
structure vW(d:World)(f g i:Value)(e:Int->Option Value)(W:World):Prop where
 mp:jH W d.heap.size e
 tab:W.heap[d.heap.size+1]?=QC.mk #[.map (some d.heap.size)] 169
 pr:W.heap[d.heap.size+1+1]?=QC.mk #[f,g] 25
 ds:W.heap[d.heap.size+1+1+1]?=QC.mk #[i] 77
 be:Below d d W
section
variable {d:World} {f g i:Value} {e:Int->Option Value} {W h:World}
theorem vW.below(j:vW d f g i e W)(b:Below W W h):vW d f g i e h:=
 ⟨j.mp.below b,az b j.tab,az b j.pr,az b j.ds,ar j.be b⟩
theorem vW.sim(j:vW d f g i e W){k:Nat}(l:d.heap.size<k)(b:eM k W h):vW d f g i e h:=
 ⟨j.mp.kept (b.low _ l),b.cells _ _ j.tab rfl,b.cells _ _ j.pr rfl,b.cells _ _ j.ds rfl,j.be.trans ((nf b).mono (gQ l))⟩
theorem vW.big(b:vW d f g i e W):d.heap.size+4<=W.heap.size:=bG b.ds
theorem vW.turn{l:Int->Option Value}{n:Obj}(b:vW d f g i e W)(m:jH h d.heap.size l)(o:h=Go.ChangeMaps.setBlock W d.heap.size n)(j:∀k,k≠d.heap.size->h.heap[k]?=W.heap[k]?):vW d f g i l h:=
 ⟨m,(j _ (by omega)).trans b.tab,(j _ (by omega)).trans b.pr,(j _ (by omega)).trans b.ds,by rw[o];exact afp b.be (aP _)⟩
end
theorem axg(f g sv dv:Value)(a:ak)(C:V)(p y:Int)(l:V)(j:List bD)(u:tQ)(b:World)(hG:gz b)(hR:bI b f a)(hO:aM b g C)(hs:aN p)(da:aN y)(hS:aM b sv l)(hD:ze b dv j u):
  Calls prog 31 #[.agg #[f,g],p,y,sv,dv] b (axd (MU a C p y l j) (MT a C p y l j) (Fa a C p y l j) b):=by
 obtain⟨W0,dx,bO,r0,r2,r3⟩:=axe b f g;obtain⟨Q0,L,s,HG,HR,HO,HS,Z⟩:=DL r0 r2 r3 (hG.below bO) (hR.below bO) (hO.below bO) (hS.below bO) (hD.below bO);obtain⟨a1,k1,rfl,-,eI,-⟩:=id hR;obtain⟨a2,k2,rfl,-,dR,-⟩:=id hO;obtain⟨a3,k3,rfl,-,gC,-⟩:=id hS;obtain⟨a4,k4,rfl,-,fj,-⟩:=id hD;obtain⟨HW,K,vm,Vw⟩:=cY dx bO hs da;obtain⟨c0,c1⟩:=ez r0;clear hG hR hO hS hD bO r0 r2 r3 dx hs da;have qh:=@run_makeMap prog;obtain⟨ME,mW⟩:=aK (Fa a C p y l j);obtain⟨MV,Wj⟩:=aK (MT a C p y l j);obtain⟨MR,Wl⟩:=aK (MU a C p y l j);have q:Hid (ME=Fa a C p y l j):=A mW;have Jg:Hid (ME=0->MV=xB a p y l j l.length/\MR=y):=A (λt=>by
  rw[Wj,Wl];unfold MT MU;rw[<-mW,aD t,aD t];exact⟨rfl,rfl⟩)
 have I:Hid (∀z0,ME=z0->z0≠0->MV=0/\MR=0):=A (λz0 t hq=>by
  rw[Wj,Wl];unfold MT MU;rw[<-mW,aA (by rw[t];exact hq),aA (by rw[t];exact hq)];exact⟨rfl,rfl⟩)
 rw[<-mW,<-Wj,<-Wl];clear mW Wj Wl;unfold Fa at q;have iV:=A (λb=>JS (IntKind.i64.wrap (p-1)) 1073741788 b);rw[aiA p vm.1]at iV;have ui:=A (λb=>JS y (a.length:Int) b);obtain⟨s1,bX⟩:=aK (IntKind.i64.wrap (p-1));have qA:IntKind.i64.wrap (p-1)=s1:=bX.symm;rw[qA]at iV;clear bX;refine wu func31 rfl ?_;simp only[ntmps31,kS,dZ,je,Nat.reduceAdd,Nat.reduceSub,kU,kV,kW,kX,jf,jn];go_wp2_with (rw[<-HW.1]);clear HW;with_reducible refine(sW _ _ a C _ HR.1 HO.1).mono ?_
 rintro n w4 ⟨rfl,Q⟩;refine jM Q c0 c1 ?_;clear c0 c1;intro c0 c1;obtain⟨HG,HR,HS,Z,L,s,K⟩:=qy (HG.1.below Q) (HR.1.below Q) (HS.1.below Q) (Z.1.below Q) (az Q L.1) (az Q s.1) (ar K.1 Q);clear Q;by_cases hp:bH a C=0;rotate_left
 ·obtain⟨o,kJ⟩:=aR (q.1.trans (aD hp)) hp;clear hp q;generalize bH a C=z0 at *;go_wp2_with fail;with_reducible refine(Q9 0 z0 _ kJ.1).mono ?_
  rintro n w5 ⟨rfl,rfl⟩;refine zh (b.heap.size+1+1,0) 0 z0 _ (Y s.1 rfl) (cB s.1 0) ?_;obtain⟨Wf,O,N,P,F⟩:=rl K.1 (show b.heap.size<=b.heap.size+1+1 by omega) s.1 L.1 (show b.heap.size+1≠b.heap.size+1+1 by omega) z0;obtain⟨z,B⟩:=ez P;rw[<-O];simp[LeavesInM,LeavesIn,results,results31,go_sem,F,z,B];rw[o.1,(I.1 _ o.1 kJ.1).1,(I.1 _ o.1 kJ.1).2];exact⟨rfl,N⟩
 replace q:=A (q.1.trans (aA (by simp[hp])));have eT:=A (fs hp);rw[hp];clear hp;go_wp2_with fail;with_reducible refine(JT 0 _).mono ?_
 rintro n w5 ⟨rfl,rfl⟩;go_wp2_with fail;with_reducible refine(iV.1 _).mono ?_
 rintro n w5 ⟨rfl,rfl⟩;clear iV qA;cases Ja:ct p 1 1073741788 with
 |false =>
  have o:=A (q.1.trans (aD Ja));clear Ja q;go_wp2_with fail;with_reducible refine(vI 110 _ (by decide)).mono ?_
  rintro n w6 ⟨rfl,rfl⟩;refine zh (b.heap.size+1+1,0) 0 110 _ (Y s.1 rfl) (cB s.1 0) ?_;obtain⟨Wf,O,N,P,F⟩:=rl K.1 (show b.heap.size<=b.heap.size+1+1 by omega) s.1 L.1 (show b.heap.size+1≠b.heap.size+1+1 by omega) 110;obtain⟨z,B⟩:=ez P;rw[<-O];simp[LeavesInM,LeavesIn,results,results31,go_sem,F,z,B];rw[o.1,(I.1 _ o.1 (by decide)).1,(I.1 _ o.1 (by decide)).2];exact⟨rfl,N⟩
 |true =>
 replace q:=A (q.1.trans (aA (by rw[Ja];decide)));have jU:=A (jo.1 Ja);clear Ja;go_wp2_with fail;with_reducible refine(zd 110 _).mono ?_
 rintro n w6 ⟨rfl,rfl⟩;go_wp2_with fail;with_reducible refine(ui.1 _).mono ?_
 rintro n w6 ⟨rfl,rfl⟩;clear ui;cases mI:nF y (a.length:Int) with
 |false =>
  have o:=A (q.1.trans (aD (by
   unfold nF at mI;rw[Bool.and_eq_false_iff,Xu,Xu]at mI;omega)))
  clear mI q;go_wp2_with fail;with_reducible refine(vI 1 _ (by decide)).mono ?_
  rintro n w6 ⟨rfl,rfl⟩;refine zh (b.heap.size+1+1,0) 0 1 _ (Y s.1 rfl) (cB s.1 0) ?_;obtain⟨Wf,O,N,P,F⟩:=rl K.1 (show b.heap.size<=b.heap.size+1+1 by omega) s.1 L.1 (show b.heap.size+1≠b.heap.size+1+1 by omega) 1;obtain⟨z,B⟩:=ez P;rw[<-O];simp[LeavesInM,LeavesIn,results,results31,go_sem,F,z,B];rw[o.1,(I.1 _ o.1 (by decide)).1,(I.1 _ o.1 (by decide)).2];exact⟨rfl,N⟩
 |true =>
 have Lq:0<=y/\y<(a.length:Int):=by
  unfold nF at mI;rw[cu,fU,fU]at mI;exact mI
 replace q:=A (q.1.trans (aA (by omega)));have Hk:=A Lq;clear mI Lq;go_wp2_with fail;with_reducible refine(zd 1 _).mono ?_
 rintro n w6 ⟨rfl,rfl⟩;by_cases oS:j.length<=64;rotate_left
 ·have o:=A (q.1.trans (aD (by omega)));have x1:decide ((j.length:Int)<=64)=false:=bw (by omega);clear q;go_wp2_with fail;with_reducible refine(vI 2 _ (by decide)).mono ?_
  rintro n w6 ⟨rfl,rfl⟩;refine zh (b.heap.size+1+1,0) 0 2 _ (Y s.1 rfl) (cB s.1 0) ?_;obtain⟨Wf,O,N,P,F⟩:=rl K.1 (show b.heap.size<=b.heap.size+1+1 by omega) s.1 L.1 (show b.heap.size+1≠b.heap.size+1+1 by omega) 2;obtain⟨z,B⟩:=ez P;rw[<-O];simp[LeavesInM,LeavesIn,results,results31,go_sem,F,z,B];rw[o.1,(I.1 _ o.1 (by decide)).1,(I.1 _ o.1 (by decide)).2];exact⟨rfl,N⟩
 have x1:decide ((j.length:Int)<=64)=true:=bB (by omega);replace q:=A (q.1.trans (aA (by omega)));go_wp2_with fail;with_reducible refine(zd 2 _).mono ?_
 rintro n w6 ⟨rfl,rfl⟩;clear x1;go_wp2_with fail;with_reducible refine(ah5 _ j u _ Z.1).mono ?_
 rintro n d ⟨rfl,E⟩;refine jM E c0 c1 ?_;clear c0 c1;intro c0 c1;obtain⟨HG,HR,HS,Z,L,s,K⟩:=qy (HG.1.below E) (HR.1.below E) (HS.1.below E) (Z.1.below E) (az E L.1) (az E s.1) (ar K.1 E);clear E;cases uL:qt j with
 |false =>
  have o:=A (q.1.trans (aD uL));clear uL q;go_wp2_with fail;with_reducible refine(vI 370 _ (by decide)).mono ?_
  rintro n w6 ⟨rfl,rfl⟩;refine zh (b.heap.size+1+1,0) 0 370 _ (Y s.1 rfl) (cB s.1 0) ?_;obtain⟨Wf,O,N,P,F⟩:=rl K.1 (show b.heap.size<=b.heap.size+1+1 by omega) s.1 L.1 (show b.heap.size+1≠b.heap.size+1+1 by omega) 370;obtain⟨z,B⟩:=ez P;rw[<-O];simp[LeavesInM,LeavesIn,results,results31,go_sem,F,z,B];rw[o.1,(I.1 _ o.1 (by decide)).1,(I.1 _ o.1 (by decide)).2];exact⟨rfl,N⟩
 |true =>
 replace q:=A (q.1.trans (aA (by rw[uL];decide)));have HOB:=A uL;clear uL;go_wp2_with fail;with_reducible refine(zd 370 _).mono ?_
 rintro n w9 ⟨rfl,rfl⟩;obtain⟨W9,ff,bA,R4,kI,Du⟩:=axf d;obtain⟨R5,R6,jV,Ko,Kp,acd⟩:=aiO W9 (.slice a1 a.length k1) (.slice a2 C.length k2) (.slice a4 j.length k4);have d0:=U bA c0;have d1:=U bA c1;have Fi:Hid (vW d (.slice a1 a.length k1) (.slice a2 C.length k2) (.slice a4 j.length k4) (xQ a j u 0) R5):=A ⟨R4.below jV,az jV kI,by rw[Du]at Ko;exact Ko,by rw[Du]at Kp;exact Kp,ar bA jV⟩;have Kq:Hid (d.heap.size+4<=R5.heap.size):=A (by omega);obtain⟨jI,vz,Q3w,R7⟩:=cY ff Du s.1 R6;clear R4 kI bA ff Du R6 jV Ko Kp acd;go_wp2_with (rw[<-jI.1]);with_reducible refine(aif _ _ a4 j.length k4 _ ⟨_,_,_,rfl⟩ ⟨_,_,_,rfl⟩).mono ?_
 rintro n ZK ⟨rfl,rfl⟩;rw[<-R7.1,vz.1];clear d0 d1 R7 jI vz;go_wp2_with fail;refine aik (P:=160) (K:=#[(d.heap.size+1+1+1,0),(d.heap.size+1+1,0)]) (s:=(gh a j j.length).length)
  (fi:=λk=>#[.int .i64 (qd a j k).dealer,.agg #[.int .i64 (qd a j k).dealer,(u (qx a j k)).1,(u (qx a j k)).2]]) rfl aie (λ_=>rfl)
  (λk=>vW d (.slice a1 a.length k1) (.slice a2 C.length k2) (.slice a4 j.length k4) (xQ a j u k)) ?seq ?qH Fi.1
  (λk z2 z5=>(((z5.setIfInBounds 44 (.int .i64 (qd a j k).dealer)).setIfInBounds 45 (.agg #[.int .i64 (qd a j k).dealer,(u (qx a j k)).1,(u (qx a j k)).2])).setIfInBounds 13 (.int .i64 (qd a j k).dealer)).setIfInBounds 14 (.pointer (some ⟨z2,0,none⟩)))
  (λk z2 W=>vW d (.slice a1 a.length k1) (.slice a2 C.length k2) (.slice a4 j.length k4) (xQ a j u k) W/\d.heap.size+4<=z2/\W.heap[z2]?=QC.mk #[.int .i64 (qd a j k).dealer,(u (qx a j k)).1,(u (qx a j k)).2] 84) ?Pk ?assign ?body ?done
 case seq=>exact aih d (d.heap.size+1+1+1) (d.heap.size+1+1) _ _ _ a j u HR.1 ⟨_,_,_,rfl⟩ Z.1 _ (λk W t=>⟨t.be,Y t.ds rfl,Y t.pr rfl,Y t.pr rfl⟩)
 case qH=>exact λk W h t hs=>t.sim (by have:=Kq.1;omega) hs
 case Pk=>exact λk z2 W h ⟨t,h2,h3⟩ hs=>⟨t.sim (by have:=Kq.1;omega) hs,h2,hs.cells _ _ h3 rfl⟩
 case assign =>
  intro ll k W z7 R aq hK;obtain⟨hi,-,-⟩:=VV aq;obtain⟨_,_,-,G⟩:=Z.1.at hi;obtain⟨ca,cc,e1,-⟩:=G.cs;obtain⟨pa,pc,e2,-⟩:=G.ps;rw[e1,e2]at hK ⊢
  gi_wp2
  exact hK W.heap.size _ ⟨R.below (bk _ _ _),R.big,World.alloc_heap_new _ _⟩ (ft.alloc _ _)
 case body =>
  intro ll k z2 Wb hM aq;obtain⟨hV,hX4,hX⟩:=hM;obtain⟨hi,zx,zZ⟩:=VV aq;obtain⟨_,_,-,G⟩:=Z.1.at hi;have AU:=axa (k:=u) aq;unfold Ff at AU;rw[show j.getD (qx a j k) zg=qd a j k from rfl]at AU;rw[<-zx]at G;generalize (u (qx a j k)).1=v1 at *;generalize (u (qx a j k)).2=v2 at *;obtain⟨v,hd⟩:=aK (qd a j k);rw[<-hd]at G hX AU;simp only[<-hd];clear zx hd zZ;obtain⟨ca,cc,rfl,-⟩:=id G.cs;obtain⟨pa,pc,rfl,-⟩:=id G.ps;obtain⟨w',TA,hmz,⟨ob,uL,Kr⟩⟩:=hV.mp.put underlying169 G.r (.agg #[v.dealer,.slice ca v.cs.length cc,.slice pa v.ps.length pc]);have HF:Hid (ft Wb w'/\vW d (.slice a1 a.length k1) (.slice a2 C.length k2) (.slice a4 j.length k4) (xQ a j u (k+1)) w'):=A (by
   rw[AU];exact⟨ft.turn hV.mp (by rw[uL];simp[Go.ChangeMaps.setBlock]) Kr,hV.turn hmz uL Kr⟩)
  have x0:Wb.cell? (d.heap.size+1,0)=some (.map (some d.heap.size)):=Y hV.tab rfl;have x1:Wb.cell? ⟨z2,0,none⟩=v.dealer:=Y hX rfl;have x2:Wb.cell? ⟨z2,1,none⟩=some (.slice ca v.cs.length cc):=Y hX rfl;have x3:Wb.cell? ⟨z2,2,none⟩=some (.slice pa v.ps.length pc):=Y hX rfl;simp only[vZ,zH,AV];clear hV hX G AU hmz uL Kr
  gi_wp2
  exact⟨HF.1.1,HF.1.2⟩
 case done =>
  intro X W hD R np hO;obtain⟨HG,HS,Z,L,s,K⟩:=oJ (HG.1.below R.be) (HS.1.below R.be) (Z.1.below R.be) (az R.be L.1) (az R.be s.1) (ar K.1 R.be);have hDz:d.heap.size+4<=X:=bK Kq.1 hD;have vU:b.heap.size+1+1<d.heap.size:=bG Q3w.1;have g0:W.cell? (d.heap.size+1,0)=some (.map (some d.heap.size)):=Y R.tab rfl;obtain⟨HMP,HFN,RU⟩:=bJ R.mp (λH (t:xQ a j u (gh a j j.length).length H=none)=>axb t) (λH c (t:xQ a j u (gh a j j.length).length H=some c)=>axc HOB.1 t);generalize xQ a j u (gh a j j.length).length=e at *;obtain⟨ma,HSR⟩:=aR np (show ∀z3∈l,aN z3 from by obtain⟨_,_,_,_,_,t,_⟩:=HS.1;exact t);obtain⟨r,hr⟩:∃r:Nat,y=(r:Int):=⟨y.toNat,by have:=Hk.1;omega⟩;subst hr;have HRL:Hid (r<a.length):=A (by have:=Hk.1;omega);clear R np hO hD;go_wp2_with fail;go_loopw[15,51] (λsm z3z z4=>∃m:Nat,m<=l.length/\z3z=m/\sm=(xB a p (r:Int) l j m:Int)/\Hid (∀k,k<m->AF a j l k=true)/\Below W W z4) (λ_ z3z _=>l.length-(intOf z3z).toNat);case atStart=>exact⟨0,bS _,rfl,rfl,A (λk t=>absurd t (fG k)),aY _ _⟩
  case round =>
   obtain⟨m,dg,rfl,rfl,HK,w⟩:=hrel;by_cases aq:m<l.length
   ·obtain⟨z8,off,ea,qn⟩:=ints_at (HS.1.below w) aq;subst ea;have hnr:=HSR.1 _ (bM aq);have wG:J l m=l[m]:=di aq;obtain⟨H,hn⟩:=aK (l[m]);rw[<-hn]at qn hnr wG;have lJ:=(HMP.1.below w).look_ok underlying169 (aw9 wr) hnr;have g1:=U w g0;obtain⟨Q24,Q34,R2,qQ⟩:=cY (az w L.1) (az w s.1) (az w ma.1) (ar K.1 w);have i0:(0:Int)<=(m:Int):=me m;have i1:(m:Int)<(l.length:Int):=by omega
    clear hn;cases hf:e H with
    |none =>
     have o:Hid (ME=370):=A (q.1.trans (aD (ahY aq (by unfold AF;rw[wG,HFN.1 H hf];rfl))));rw[hf]at lJ;simp only[Option.getD_none,Option.isSome_none]at lJ;obtain⟨M,cH⟩:=aK (wr.alloc (.cells #[(0:Int),(),()] 84));have D:Below wr wr M:=by rw[cH];exact bk _ _ _
     obtain⟨QU,Q36,pG,cO,fR⟩:=gw (az D Q24.1) (az D Q34.1) (az D R2.1) (ar qQ.1 D) cH;clear cH D hf wG q w;go_wp2_with fail;with_reducible refine(vI 370 _ (by decide)).mono ?_
     rintro n w6 ⟨rfl,rfl⟩;rw[<-fR.1];refine Rg (by simp) pG.1 ?_;obtain⟨Wp,rz⟩:=aK (World.putObj M X (.deferred none));rw[<-rz];have x:=mF (c:=M) (b:=X) (d:=d.heap.size) (.deferred none) (by omega) pG.1 rfl;rw[<-rz]at x;obtain⟨q2,T,Fx⟩:=bJ (x.cells _ _ QU.1 rfl) (x.cells _ _ Q36.1 rfl) (cO.1.trans ((nf x).mono (by omega)));clear x rz;refine zh (b.heap.size+1+1,0) 0 370 _ (Y T.1 rfl) (cB T.1 0) ?_;obtain⟨Wf,O,N,P,F⟩:=rl Fx.1 (show b.heap.size<=b.heap.size+1+1 by omega) T.1 q2.1 (show b.heap.size+1≠b.heap.size+1+1 by omega) 370;obtain⟨z,B⟩:=ez P;rw[<-O];simp[LeavesInM,LeavesIn,results,results31,go_sem,F,z,B];rw[o.1,(I.1 _ o.1 (by decide)).1,(I.1 _ o.1 (by decide)).2];exact⟨rfl,N⟩
    |some c =>
     obtain⟨z3z,hi,hv,zZ,Cf⟩:=RU.1 H c hf;obtain⟨_,_,-,G⟩:=Z.1.at hi;unfold Ff at hv;rw[dp hi]at hv;obtain⟨-,mY,NI⟩:=abo Cf;have jE:mkV p (findD a j H) (r:Int)=mkV p j[z3z] (r:Int):=by rw[zZ]
     have Dw:xB a p (r:Int) l j (m+1)=(xB a p (r:Int) l j m+mkV p (findD a j (J l m)) (r:Int))%1073741789:=rfl;rw[wG,jE]at Dw;rw[zZ]at mY NI;generalize (u z3z).1=v1 at *;generalize (u z3z).2=v2 at *;obtain⟨v,hd⟩:=aK (j[z3z]);rw[<-hd]at G hv mY NI Dw;clear hd jE zZ;obtain⟨ca,cc,rfl,-⟩:=id G.cs;obtain⟨pa,pc,rfl,-⟩:=id G.ps;rw[hf]at lJ;simp only[Cl,Option.isSome_some]at lJ;subst hv;obtain⟨M,cH⟩:=aK (wr.alloc (.cells #[v.dealer,.slice ca v.cs.length cc,.slice pa v.ps.length pc] 84));have D:Below wr wr M:=by rw[cH];exact bk _ _ _
     have ij:M.heap[wr.heap.size]?=QC.mk #[v.dealer,.slice ca v.cs.length cc,.slice pa v.ps.length pc] 84:=by rw[cH];exact World.alloc_heap_new _ _
     have bz:=ar w D;have lQ:=G.ps.below bz;have hrp:r<v.ps.length:=by rw[NI.len];exact HRL.1
     obtain⟨pb,po,ea,z,B,y2,-⟩:=lQ.at hrp;subst ea;have s2:M.cell? (wr,2)=some (.slice (pb,po) v.ps.length pc):=Y ij rfl;have si:=NI.right eT.1.few HRL.1;have mw:eO v (r:Int)=v.ps[r]:=by
      obtain⟨_,n⟩:=Qd (a:=v) (row:=(r:Int)) ⟨by omega,by omega⟩;exact n
     unfold mkV at Dw;rw[mw]at si Dw;rw[mY]at Dw;have nY:=NI.dealer;rw[mY]at nY;generalize v.ps[r]=S at *;obtain⟨p1,p2,p3⟩:=S;simp only at z B y2 si Dw;obtain⟨vv,Nd⟩:=aK (tx (bm p2 p) H p1 p3);have F6:=aav (bm p2 p) H p1 p3;rw[<-Nd]at Dw F6;have HOP:Hid (Calls prog 83 #[p,H,.agg #[p1,p2,p3]] M λr w'=>r=.returned (.tuple #[vv,(0:Int)])/\Below M M w'):=A (by
      rw[Nd];exact agX p H p1 p2 p3 M jU.1 nY si (HG.1.below bz))
     obtain⟨sm,vX⟩:∃z3,z3=xB a p (r:Int) l j m:=⟨_,rfl⟩;have vg:=atG a p (r:Int) l j m;rw[<-vX]at Dw vg;rw[<-vX];obtain⟨xy,QU,Q36,pG,cO,fR,hZ,HOS,dq⟩:=fx (λW=>yr sm vv W (dK vg) (dK F6)) (az D Q24.1) (az D Q34.1) (az D R2.1) (ar qQ.1 D) cH bz Dw aq;have j0:(0:Int)<=(r:Int):=me r;have j1:(r:Int)<(v.ps.length:Int):=by omega
     obtain⟨ace,NB⟩:=aR Cf wG;clear cH ij bz lQ hrp si mw nY Nd F6 vX vg Dw Cf mY NI G hf wG;by_cases qB:m=0
     ·have xG:AF a j l m=true:=by unfold AF;rw[NB.1,ace.1,bB qB];rfl
      have z1:((m:Int)==0)=true:=gI.2 (by omega);have HDB:=A xG;clear xG qB D w;go_wp2_with (rw[<-fR.1]);with_reducible refine(zd 370 _).mono ?_
      rintro n w6 ⟨rfl,rfl⟩;go_wp2_with fail;with_reducible refine HOP.1.mono ?_
      rintro n w7 ⟨rfl,E⟩;go_wp2_with fail;with_reducible refine(JT vv _).mono ?_
      rintro n w9 ⟨rfl,rfl⟩;go_wp2_with fail;with_reducible refine(xy.1 _).mono ?_
      rintro n w9 ⟨rfl,bA⟩;have gA:=A (hZ.1.trans ((ar E bA).mono hZ.1.size));clear E bA;go_wp2_with fail;go_roundw;case rel=>exact⟨m+1,dq.1,by go_num,by rw[HOS.1],A (λk hj=>by
       by_cases n:k=m
       ·rw[n];exact HDB.1
       ·exact HK.1 k (by omega)),gA.1⟩
      case measure =>
       simp[intOf];omega
     ·obtain⟨S,hp⟩:∃S:Nat,(m:Int)-1=(S:Int):=⟨m-1,by omega⟩;have Be:m-1=S:=by omega
      have iI:S<l.length:=by omega
      have z1:((m:Int)==0)=false:=eH.2 (by omega);have w1:IntKind.i64.wrap ((m:Int)-1)=(S:Int):=by rw[hp];exact jw _ (by omega)
      obtain⟨b2,oQ,Wm,qp⟩:=ints_at (HS.1.below w) iI;simp only[tX,Cn]at Wm;obtain⟨rfl,rfl,-⟩:=Wm;have qp6:=U D qp;have zB:J l (m-1)=l[S]:=by rw[Be];exact di iI
      obtain⟨z0,hq⟩:=aK (l[S]);rw[<-hq]at qp qp6 zB;have i2:(0:Int)<=(S:Int):=me S;have i3:(S:Int)<(l.length:Int):=by omega
      by_cases Iw:z0<H
      ·have xG:AF a j l m=true:=by unfold AF;rw[NB.1,zB,ace.1,bB Iw];simp
       have d9:decide (z0<H)=true:=bB Iw;have HDB:=A xG;clear xG qB D w hq zB Iw Be;go_wp2_with (rw[<-fR.1]);with_reducible refine(zd 370 _).mono ?_
       rintro n w6 ⟨rfl,rfl⟩;go_wp2_with fail;with_reducible refine HOP.1.mono ?_
       rintro n w7 ⟨rfl,E⟩;go_wp2_with fail;with_reducible refine(JT vv _).mono ?_
       rintro n w9 ⟨rfl,rfl⟩;go_wp2_with fail;with_reducible refine(xy.1 _).mono ?_
       rintro n w9 ⟨rfl,bA⟩;have gA:=A (hZ.1.trans ((ar E bA).mono hZ.1.size));clear E bA;go_wp2_with fail;go_roundw;case rel=>exact⟨m+1,dq.1,by go_num,by rw[HOS.1],A (λk hj=>by
        by_cases n:k=m
        ·rw[n];exact HDB.1
        ·exact HK.1 k (by omega)),gA.1⟩
       case measure =>
        simp[intOf];omega
      ·have xG:AF a j l m=false:=by unfold AF;rw[NB.1,zB,ace.1,bw Iw,bw qB];rfl
       have o:Hid (ME=370):=A (q.1.trans (aD (ahY aq xG)));have d9:decide (z0<H)=false:=bw Iw;clear xG qB D w hq zB Iw Be q;go_wp2_with (rw[<-fR.1]);with_reducible refine(vI 370 _ (by decide)).mono ?_
       rintro n w6 ⟨rfl,rfl⟩;refine Rg (by simp) pG.1 ?_;obtain⟨Wp,rz⟩:=aK (World.putObj M X (.deferred none));rw[<-rz];have x:=mF (c:=M) (b:=X) (d:=d.heap.size) (.deferred none) (by omega) pG.1 rfl;rw[<-rz]at x;obtain⟨q2,T,Fx⟩:=bJ (x.cells _ _ QU.1 rfl) (x.cells _ _ Q36.1 rfl) (cO.1.trans ((nf x).mono (by omega)));clear x rz;refine zh (b.heap.size+1+1,0) 0 370 _ (Y T.1 rfl) (cB T.1 0) ?_;obtain⟨Wf,O,N,P,F⟩:=rl Fx.1 (show b.heap.size<=b.heap.size+1+1 by omega) T.1 q2.1 (show b.heap.size+1≠b.heap.size+1+1 by omega) 370;obtain⟨z,B⟩:=ez P;rw[<-O];simp[LeavesInM,LeavesIn,results,results31,go_sem,F,z,B];rw[o.1,(I.1 _ o.1 (by decide)).1,(I.1 _ o.1 (by decide)).2];exact⟨rfl,N⟩
   ·obtain rfl:m=l.length:=by omega
    have hV0:ME=0:=q.1.trans (aA (by rw[ahZ (λk hj=>HK.1 k hj)];simp));obtain⟨eV,eR⟩:=Jg.1 hV0;obtain⟨o,Kl⟩:=aR hV0 (And.intro eV eR);have q2:=az w L.1;have T:=az w s.1;have NJ:=az w ma.1;have Q:=ar K.1 w;obtain⟨sm,vX⟩:∃z3,z3=xB a p (r:Int) l j l.length:=⟨_,rfl⟩;rw[<-vX]at Kl ⊢;obtain⟨Wd,nr⟩:∃z6,z6=((wr.setCell (b.heap.size+1,0) (r:Int)).setCell (b.heap.size+1,1) (.int .i64 sm)).setCell (b.heap.size+1+1,0) (0:Int):=⟨_,rfl⟩;have n12:b.heap.size+1≠b.heap.size+1+1:=by omega
    have e2:Wd.heap[b.heap.size+1]?=QC.mk #[(r:Int),.int .i64 sm] 66:=by
     rw[nr,dJ _ _ _ _ n12];exact cK (cK q2 0 _) 1 _
    have e3:Wd.heap[b.heap.size+1+1]?=QC.mk #[(0:Int)] 29:=by
     have h9:((wr.setCell (b.heap.size+1,0) (r:Int)).setCell (b.heap.size+1,1) (.int .i64 sm)).heap[b.heap.size+1+1]?=QC.mk #[(0:Int)] 29:=by
      rw[dJ _ _ _ _ n12.symm,dJ _ _ _ _ n12.symm];exact T
     rw[nr];exact cK h9 0 (0:Int)
    have tV:Wd.heap[X]?=some (.deferred (some [])):=by
     rw[nr,dJ _ _ _ _ (show X≠b.heap.size+1+1 by omega),dJ _ _ _ _ (show X≠b.heap.size+1 by omega),dJ _ _ _ _ (show X≠b.heap.size+1 by omega)];exact NJ
    have vu:Below b b Wd:=by
     rw[nr];exact((Q.setCell (show b.heap.size<=b.heap.size+1 by omega) _).setCell (show b.heap.size<=b.heap.size+1 by omega) _).setCell (show b.heap.size<=b.heap.size+1+1 by omega) _
    obtain⟨Wp,rz⟩:=aK (Wd.putObj X (.deferred none));have x:=mF (c:=Wd) (b:=X) (d:=d.heap.size) (.deferred none) (by omega) tV rfl;rw[<-rz]at x;obtain⟨zA,Hi,Fx,Fy,AT,D9⟩:=oJ (x.cells _ _ e2 rfl) (x.cells _ _ e3 rfl) (vu.trans ((nf x).mono (by omega))) tV rz nr;have b0:wr.cell? (b.heap.size+1,0)=(0:Int):=Y q2 rfl;have b1:wr.cell? (b.heap.size+1,1)=(0:Int):=Y q2 rfl;have b2:wr.cell? (b.heap.size+1+1,0)=(0:Int):=Y T rfl;obtain⟨f0,f1⟩:=A2 q2;have f2:=cB T 0;clear hV0 eV eR q2 T NJ Q vX nr e2 e3 tV vu rz x w HK q;go_wp2_with (rw[<-D9.1]);refine Rg (by simp) Fy.1 ?_;rw[<-AT.1];refine aij _ _ ?_;obtain⟨z,B⟩:=ez zA.1;have F:=Y Hi.1 (k:=0) (d:=(0:Int)) rfl;simp[LeavesInM,LeavesIn,results,results31,go_sem,F,z,B];rw[o.1,Kl.1.1,Kl.1.2];exact⟨rfl,Fx.1⟩
structure axh(r:World)(s t y w n o v u k m:Nat)(p x f l:Int)(j:Nat->Bool)(c:Nat->Value)(q:World):Prop where
 b:Below r r q
 f0:KQ j c 0 (.slice (s,t) y w)
 f1:KQ j c 1 k
 f2:KQ j c 2 (s,t+k)
 f3:KQ j c 3 x
 f4:KQ j c 4 (.slice (n,o) v u)
 f5:KQ j c 5 m
 f6:KQ j c 6 (n,o+m*2)
 f7:KQ j c 7 (.agg #[m,f])
 f8:KQ j c 8 p
 f9:j 9=true->j 10=false->aM q (c 9) [p]
 f10:KQ j c 10 (.tuple #[l,(0:Int)])
 f11:KQ j c 11 (.tuple #[l,(0:Int)])
 f12:KQ j c 12 l
 f13:KQ j c 13 (0:Int)
 f14:KQ j c 14 l
 f15:KQ j c 15 (0:Int)
structure axi(n:World)(r l m p o k:Nat)(pv:Int)(j:Nat->Bool)(c:Nat->Value)(q:World):Prop where
 b:Below n n q
 f0:KQ j c 0 (0:Int)
 f1:KQ j c 1 true
 f2:KQ j c 2 true
 f3:KQ j c 3 true
 f4:KQ j c 4 true
 f5:KQ j c 5 true
 f6:KQ j c 6 (.agg #[k,pv])
 f7:KQ j c 7 (.slice (l,m) p o)
 f8:KQ j c 8 k
 f9:KQ j c 9 (l,m+k*2)
 f10:KQ j c 10 (.agg #[k,pv])
 f11:KQ j c 11 true
 f12:KQ j c 12 true
 f13:KQ j c 13 true
theorem axj{j l:Int}{b:V}(n:iU a j b=true)(m:xi a.length j (og b) l=true):iU a j (b++[l])=true:=by
 have k:=UP (a:=a) (d:=j) (c:=b++[l]) (k:=b.length) (by simp) (by rw[List.take_left];exact n);rw[List.take_left,zJ (by simp),Cr (aP _)]at k;simp only[zI,K1]at k;rw[k];exact m
theorem axk(j:V)(b:Int):og (j++[b])=b:=by unfold og mS qX;simp
theorem axl(b:V)(j:Int):gq (b++[j])=(gq b+j)%1073741789:=by unfold gq;rw[DC];rfl
theorem ajD{k:Nat}{j:V}{z:Int}:∀b,b<=j.length->ki k (j++[z]) b=ki k j b
 |0,_=>rfl
 |b+1,l=>by
  unfold ki;rw[ajD b (by omega)];unfold BE;rw[di (by simp;omega),di (by omega),AX (by omega)]
theorem axm(l k b:V)(j:Int):py l k (b++[j]) (b.length+1)=py l k b b.length++[(J l b.length*J k b.length%1073741789+j)%1073741789]:=by
 rw[arc,show J (b++[j]) b.length=j by rw[di (by simp)];simp]
 congr 1
 unfold py;refine xZ λo n=>?_;have m:=dT.1 n;rw[di (show o<(b++[j]).length by simp;omega),di m,AX m]
theorem axn{b:Nat}{W h:World}{j:V}(x:aM W c j)(hn:c.ownBlock≠some b)(r:W.grownBy h (some b)):aM h c j:=by
 obtain⟨v,l,rfl,m,n,o,p⟩:=x;refine⟨v,l,rfl,m,n,o,λt s=>?_⟩;obtain⟨k,u,rfl,q⟩:=p t s;exact⟨k,u,rfl,r.cell q (λw=>hn (by cases w;rfl))⟩
theorem axo(y:Nat)(z1 ep:Int)(f g cv i:Value)(a:ak)(E:V)(z2:Int)(aQ:V)(o:Nat)(W0 O:World)
  (hW:Below W0 W0 O) (hB:W0.heap.size<=y) (hR:bI W0 f a) (hO:aM W0 g E)
  (hC:RI O cv (bt (z2::aQ))) (hL:RS O i (bV a (z2::aQ))) (hD:dO y z1 O) (hm:z1+200<1000000)
  (hp:bH a E=0) (Ds:dU a E z2 aQ) (hl:o<a.length):
  Calls prog 8 #[.agg #[ep,f,g,cv],i,o,(y,0)] O λu w'=>u=.returned true/\dO y (z1+100) w'/\O.grownBy w' (some y):=by
 obtain⟨z0,l⟩:∃z0,z0=z2::aQ:=⟨_,rfl⟩;rw[<-l]at hC hL;obtain⟨W1,aE,au,aI,-⟩:=lF O ep f g cv 33;obtain⟨HC,HL,HD,HB,HR,HO,HP,iD,HM⟩:=fx (hC.below au) (hL.below au) (hD.below au) (ar hW au) hR hO hp Ds hm;obtain⟨kt,acf,du,HQ,Av,bp⟩:=oJ hB hD.lt au aI l aE;have r64:a.length<=64:=(fs hp).few;obtain⟨a4,k4,hle,-⟩:=id hL.1;rw[ju]at hle;subst hle;clear hW hB hR hO hC hL hD hm hp Ds au aI aE l;obtain⟨a1,k1,rfl,-,eI,-⟩:=id HR.1;obtain⟨a2,k2,rfl,-,dR,-⟩:=id HO.1;obtain⟨a3,k3,rfl,-⟩:=id HC.1.1;go_enter func8,ntmps8;go_wp2_with (rw[<-bp.1]);go_loopw[9,26] (λc z2z v=>∃(p m:Nat) (l:V),p<=a.length/\z2z=.int .i64 p/\m<=p/\l.length=m/\Hid ((iU a o l=true/\og l<p)/\∀q∈l,0<=q/\q<64)/\v.ownsRow W1.heap.size 3 1 c m (l.map (Value.int .i64))/\Below W1 W1 v) (λ_ z2z _=>a.length-(intOf z2z).toNat);case atStart=>exact⟨0,0,[],bS _,rfl,aP _,rfl,A ⟨⟨by simp[iU,qX,jk],by simp[og,qX,mS]⟩,by simp⟩,iv _ _ _ _,aY _ _⟩
 case round =>
  obtain⟨p,m,l,nh,rfl,hkj,dg,F,z,w⟩:=hrel;obtain⟨xa,xc,hx⟩:=xI z;subst hx;by_cases I:p<a.length
  ·have j6:(p:Int)<64:=by omega
   obtain⟨T,de,kx⟩:=bJ I z w;clear z w;by_cases hj:p=o
   ·go_wp2_with fail;go_roundw;case rel=>exact⟨p+1,m,l,T.1,by go_num,by omega,dg,A ⟨⟨F.1.1.1,by have:=F.1.1.2;omega⟩,F.1.2⟩,de.1,kx.1⟩
    case measure =>
     have t:=T.1;simp[intOf];omega
   ·have br:((p:Int)!=(o:Int))=true:=jg.2 (by omega);obtain⟨R,K⟩:∃W,W=wr.alloc (.cells #[(p:Int)] 3):=⟨_,rfl⟩;have L:Below wr wr R:=by rw[K];exact bk _ _ _
    have ja:Hid (R.cell? (wr,0)=(p:Int)):=A (by rw[K];exact Y (World.alloc_heap_new _ _) rfl);obtain⟨zo,cO⟩:=aR (dM de.1 L) (ar kx.1 L);have px:Hid (m<=1000000):=A (by omega);have nD:Hid (W1.heap.size<=R.heap.size):=A cO.1.size;have HH2:Hid ((iU a o (l++[(p:Int)])=true/\og (l++[(p:Int)])<((p+1:Nat):Int))/\∀q∈l++[(p:Int)],0<=q/\q<64):=A ⟨⟨axj F.1.1.1 (asC F.1.1.2 (by omega) (by omega)),by rw[axk];omega⟩,λq hz=>by
     rcases lN.1 hz with t|t
     ·exact F.1.2 q t
     ·rw[jJ.1 t];omega⟩
    have fR:=A K;clear K L;go_wp2_with (first|rw[<-fR.1]|(at_builtin;refine zX rfl _ _ rfl W1.heap.size m _ _ rfl zo.1 wr.heap.size 1 (p:Int) rfl ja.1 px.1 nD.1 ?_;intro v9 w9 t g9;have H9:=A t;have B9:=A (fH zo.1 g9 nD.1);clear t g9));go_roundw;case rel=>exact⟨p+1,m+1,l++[(p:Int)],T.1,by go_num,by omega,by simp[dg],HH2,by rw[gJ];exact H9.1,cO.1.trans B9.1⟩
    case measure =>
     have t:=T.1;simp[intOf];omega
  ·obtain rfl:p=a.length:=by omega
   subst dg;have fB:(0:Int)<=(o:Int)/\(o:Int)<(a.length:Int):=by omega
   have mI:Qy a o l=true:=by unfold Qy;rw[F.1.1.1,bB fB.1,bB fB.2];rfl
   have mw:yP a E o l=0:=by unfold yP;rw[aA (by simp[HP.1]),aD ⟨fB,F.1.1.1⟩]
   have rP:RI wr (.slice xa l.length xc) l:=RI.own z (λq hz=>by have:=F.1.2 q hz;unfold aN;omega) (by omega);have M:=ar HB.1 w;have iI:=asB (.slice a1 a.length k1) (.slice a2 E.length k2) (.slice xa l.length xc) a E o l wr (HR.1.below M) (HO.1.below M) rP.1 (by unfold aN;omega) (by omega);rw[mw]at iI;have nE:=az w HQ.1;obtain⟨N,rq,l7,Hk,HHI,wT,JN,R8,HGR⟩:=fx iI rP M mI F.1.2 (HC.1.below w) (HL.1.below w) (HD.1.below w) (w.mono du.1.size |> λj=>du.1.trans j);have kQ:ER a E o l=mR (gV a l) (a.getD (o:Int).toNat []):=by unfold ER;rw[mw];rfl
   have hpy:Jo a E o l=if mR (gV a l) (a.getD (o:Int).toNat [])=true then fy (gV a l) (a.getD (o:Int).toNat []) else []:=by unfold Jo;rw[kQ]
   have HPY:=A hpy;rw[kQ]at N;obtain⟨zD,sJ,sK,ru⟩:=fh nE;clear iI rP M mw mI nE kQ hpy z w;cases S:mR (gV a l) (a.getD (o:Int).toNat []) with
   |false =>
    rw[S]at N;clear S;go_wp2_with fail;refine N.1.mono ?_;rintro u w5 ⟨yv,rfl,Aw,sY,D⟩;have kF:=A D;clear D sY;obtain⟨ya,yC,rfl,-⟩:=id Aw;clear Aw;go_wp2_with fail;go_ret;exact⟨rfl,((R8.1.below kF.1).mono (by omega)),lK (ar HGR.1 kF.1)⟩
   |true =>
    rw[S]at N;have H:=ahd (n:=[]) iD.1 HP.1 Hk.1 S (by simp);have Z7:=H.lenY;have CJ:=H.few;have uh:=H.numY;have Wn:=A H.idx;rw[S]at HPY;rw[HPY.1,aD rfl]at N;obtain⟨v,hY⟩:∃v,v=fy (gV a l) (a.getD (o:Int).toNat []):=⟨_,rfl⟩;rw[<-hY]at N Z7 uh;obtain⟨HYE,nS,Wo⟩:=bJ hY S uh;clear hY S H uh HPY;go_wp2_with fail;refine N.1.mono ?_;rintro u w5 ⟨yv,rfl,Aw,sY,D⟩;obtain⟨ya,yC,rfl,-⟩:=id Aw;obtain⟨Qx,Qw,ur,yW,Gu,pL,oe,NK⟩:=DL Aw sY (rq.1.below D) (wT.1.below D) (JN.1.below D) (R8.1.below D) (ar HGR.1 D) (ar l7.1 D);have HYB:Hid ((Value.slice ya v.length yC).ownBlock≠some y):=A (λu=>by
     have h1:=sY y u;have h2:=R8.1.lt;omega)
    refine uc D zD sJ sK ru ?_;clear zD sJ sK ru;intro zD sJ sK ru;clear Aw sY D N;have br:((v.length:Int)!=(l.length:Int))=false:=by rw[Z7];simp
    obtain⟨Q,hV⟩:∃Q,Q=yR a (z2::aQ) l:=⟨_,rfl⟩;have R9:=A hV;clear hV;go_wp2_with fail;go_loopw[14,15,62] (λpv sv z2z z5=>∃(m:Nat) (r:V),m<=l.length/\z2z=m/\r.length=m/\Hid (∀q∈r,0<=q/\q<1073741789)/\sv=(gq (ki l.length r m):Int)/\z5.ownsRow w5.heap.size 3 1 pv m ((py v Q (ki l.length r m) m).map (Value.int .i64))/\dO y (z1+m) z5/\w5.grownBy z5 (some y)) (λ_ _ z2z _=>l.length-(intOf z2z).toNat);case atStart=>exact⟨0,[],bS _,rfl,rfl,A (by simp),rfl,iv _ _ _ _,by simpa using pL.1,lK (aY _ _)⟩
    case round =>
     obtain⟨m,r,dg,rfl,pW,Wq,rfl,z,hd,x⟩:=hrel;obtain⟨pa,pc,hx⟩:=xI z;subst hx;obtain⟨P,hT⟩:=aK (gq (ki l.length r m));have hTn:0<=P/\P<1073741789:=by rw[hT];exact C2 _
     rw[<-hT];by_cases I:m<l.length
     ·obtain⟨Lw,hoq,ea,q0⟩:=B3 (ur.1.dic pL.1 x).1 I;subst ea;have gm:=HHI.1 _ (bM I);obtain⟨hu,Wr⟩:=aK (l[m]);rw[<-Wr]at q0 gm;obtain⟨C,rfl⟩:∃C:Nat,hu=(C:Int):=⟨hu.toNat,by omega⟩;have pS:C<a.length:=by
       have h1:=Wn.1 m I;rw[di I,<-Wr]at h1;omega
      have HUE:=A Wr;clear Wr;have pR:m<v.length:=by omega
      obtain⟨yb,yo,Wm,q1⟩:=B3 (axn Qx.1 HYB.1 x) pR;subst Wm;obtain⟨de,Hj,kh,T,HT,HTN⟩:=oJ z hd x I hT hTn;have i0:(0:Int)<=(m:Int):=by omega
      have i1:(m:Int)<(l.length:Int):=by omega
      have k6:(m:Int)<64:=by omega
      clear z hd x hT;go_wp2_with fail;refine(Ng y _ _ Hj.1 (by have h1:=HM.1;omega)).mono ?_;rintro u w6 ⟨q,rfl,hz,m8,pT⟩;obtain⟨yk,Kb⟩:=aK (v[m]);rw[<-Kb]at q1;have ajE:0<=yk/\yk<1073741789:=by rw[Kb,<-di pR];exact Wo.1 m I
      have q1b:=pT.cell q1 (λu=>HYB.1 (by cases u;rfl));obtain⟨my,zo,pG,HYK⟩:=cY (iW kh.1 pT) (B1 de.1 Hj.1 (by decide) pT) m8 ajE;have HVK:Hid (J Q m=cz (a.getD C []) (z2::aQ)):=A (by
       rw[R9.1];unfold yR;rw[di (by rw[dy];exact I),gj,<-HUE.1];rfl)
      have HYI:Hid (J v m=yk):=A (by rw[Kb];exact di pR);have qA:IntKind.i64.wrap ((l.length:Int)-1)=(l.length:Int)-1:=jw _ (by omega);have Ew:IntKind.i64.wrap (-P)=-P:=jw _ (by omega);have HZ:=A hz;clear m8 pT ajE Kb de Hj kh hz q1;by_cases hk:m+1=l.length
      case' pos =>
       have d0:((m:Int)==(l.length:Int)-1)=true:=by rw[gI];omega
       go_wp2_with fail;refine(Ot (-P) _ (by unfold aN;omega)).mono ?_;rintro u w7 ⟨rfl,rfl⟩;obtain⟨s,Z⟩:∃z3,z3=(-P)%1073741789:=⟨_,rfl⟩;have hmv:s=BE l.length (r++[q]) m (ki l.length r m):=by
        unfold BE;rw[aD hk,<-HT.1,Z];omega
       have hmr:0<=s/\s<1073741789:=by omega
       rw[<-Z]
      case' neg =>
       have d0:((m:Int)==(l.length:Int)-1)=false:=by rw[eH];omega
       obtain⟨s,Z⟩:=aK q;have hmv:s=BE l.length (r++[q]) m (ki l.length r m):=by
        unfold BE;rw[aA hk,di (by simp;omega),Cr (by omega)];simp[Z]
       have hmr:0<=s/\s<1073741789:=by rw[Z];exact HZ.1
       rw[<-Z]
      all_goals
       obtain⟨xP,RX⟩:=aR hmv hmr;clear hmv hmr Z hk;go_wp2_with fail;clear d0 qA Ew;refine(yr P s _ (dK HTN.1) (dK RX.1)).mono ?_;rintro u d ⟨rfl,bg⟩;have AR:=A (fT my.1 (bg.mono my.1.size));have Cc:=Gu.1.dic pL.1 AR.1;obtain⟨la,lc,X,-,-,-,lJ⟩:=Cc.1;obtain⟨lb,lo,ea3,G,B⟩:=lJ C (by rw[ju];exact pS);rw[GI]at G B;dsimp only at G B;rw[ju]at X;simp only[dr]at X;obtain⟨rfl,-,rfl⟩:=X;subst ea3;obtain⟨NL,sj⟩:=aK (cz (a.getD C []) z0);rw[<-sj]at B;have ajF:0<=NL/\NL<1073741789:=by rw[sj];exact n6 _ _
       obtain⟨pp,zB⟩:=aK ((yk*NL%1073741789+s)%1073741789);have Vh:Hid (∀W z4,aM W z4 [s]->Calls prog 37 #[yk,.agg #[C,NL],z4] W λu w'=>u=.returned (.tuple #[pp,(0:Int)])/\Below W W w'):=A (λW z4 hu=>by
        have j:=asr yk (C:Int) NL z4 [s] W hu;obtain⟨p1,p2⟩:=ahb (p:=(C:Int)) HYK.1 (by omega) ajF RX.1;rw[p1,p2,<-zB]at j;exact j)
       have q1c:=U bg q1b;have Vv:Hid (aN s):=A (dK RX.1);have AP:Hid (pp=(J v m*J Q m%1073741789+s)%1073741789):=A (by rw[zB,HYI.1,HVK.1,sj,Av.1]);obtain⟨HO8,RN⟩:=aR (dM zo.1 bg) (pG.1.below bg);have i3:(C:Int)<(a.length:Int):=by omega
       clear bg Cc lJ sj ajF zB q1b;go_wp2_with fail;refine nW (axh d yb yo l.length yC lb lo a.length k4 m C s yk NL pp) (λc=>?_) ?_ (λc W j=>?_)
       ·exact⟨(aY _ _).drew,ax,ax,ax,ax,ax,ax,ax,ax,ax,ax,ax,ax,ax,ax,ax,ax⟩
       ·refine⟨?_,?_,?_,?_,?_,?_,?_,?_,?_,?_,?_,?_,?_,?_,?_,?_,trivial⟩;all_goals intro dn c W z6 j k
        ·have n:=k.b 11 (.slice (yb,yo) l.length yC);clear k;go_simp;exact⟨_,rfl,{j with f0:=aB}⟩
        ·have n:=k.b 16 m;clear k;go_simp;exact⟨_,rfl,{j with f1:=aB}⟩
        ·have n:=k.e 0 81 j.f0;have e1:=k.e 1 82 j.f1;clear k;go_simp;exact⟨_,rfl,{j with f2:=aB}⟩
        ·have n:=k.e 2 83 j.f2;have cJ:=U j.b q1c;clear k;go_simp;exact⟨_,rfl,{j with f3:=aB}⟩
        ·have n:=k.b 1 (.slice (lb,lo) a.length k4);clear k;go_simp;exact⟨_,rfl,{j with f4:=aB}⟩
        ·have n:=k.b 17 C;clear k;go_simp;exact⟨_,rfl,{j with f5:=aB}⟩
        ·have n:=k.e 4 85 j.f4;have e1:=k.e 5 86 j.f5;clear k;go_simp;exact⟨_,rfl,{j with f6:=aB}⟩
        ·have n:=k.e 6 87 j.f6;have cJ:=U j.b G;have jd:=U j.b B;clear k;go_simp;exact⟨_,rfl,{j with f7:=aB}⟩
        ·have n:=k.b 18 s;clear k;go_simp;exact⟨_,rfl,{j with f8:=aB}⟩
        ·have n:=k.e 8 89 j.f8;have w:=bk W #[s] 3;clear k;go_simp;exact⟨_,rfl,{j with b:=ar j.b w,f9:=(λ_ _=>aM.one W s 3 Vv.1)}⟩
        ·have n:=k.e 3 84 j.f3;have e1:=k.e 7 88 j.f7;have e2:=k.E 9 90;have m2:=j.f9 (k.d 9) k.hd;clear k;go_simp;with_reducible refine(Vh.1 W _ m2).mono ?_
         rintro u wq ⟨rfl,w⟩;exact⟨_,rfl,{j with b:=ar j.b w,f9:=(λ_=>wj),f10:=aB}⟩
        ·have n:=k.e 10 91 j.f10;clear k;go_simp;exact⟨_,rfl,{j with f11:=aB}⟩
        ·have n:=k.e 11 80 j.f11;clear k;go_simp;exact⟨_,rfl,{j with f12:=aB}⟩
        ·have n:=k.e 11 80 j.f11;clear k;go_simp;exact⟨_,rfl,{j with f13:=aB}⟩
        ·have n:=k.e 12 92 j.f12;clear k;go_simp;exact⟨_,rfl,{j with f14:=aB}⟩
        ·have n:=k.e 13 93 j.f13;clear k;go_simp;exact⟨_,rfl,{j with f15:=aB}⟩
       simp only[jG,Act.put,Nat.reduceAdd,dD];rw[j.f14 rfl];rw[j.f15 rfl];have fo:=j.b;obtain⟨R,K⟩:=aK (W.alloc (.cells #[pp] 3));have L:Below W W R:=by rw[K];exact bk _ _ _
       have ja:Hid (R.cell? (W,0)=pp):=A (by rw[K];exact Y (World.alloc_heap_new _ _) rfl);obtain⟨NM,xR,zE⟩:=bJ (dM (dM HO8.1 fo) L) ((RN.1.below fo).below L) (fT (fT AR.1 (fo.mono AR.1.size)) (L.mono (bK AR.1.size fo.size)));have px:Hid (m<=1000000):=A (by omega);have nD:Hid (w5.heap.size<=R.heap.size):=A zE.1.size;have fR:=A K;clear K L fo q1c G B;go_wp2_with (first|rw[<-fR.1]|(at_builtin;refine zX rfl _ _ rfl w5.heap.size m _ _ rfl NM.1 W.heap.size 1 pp rfl ja.1 px.1 nD.1 ?_;intro v9 w9 t g9;have H9:=A t;have B9:=A (fH NM.1 g9 nD.1);clear t g9));go_roundw;case rel =>
        have hmp:ki l.length (r++[q]) (m+1)=ki l.length r m++[s]:=by
         show ki l.length (r++[q]) m++[BE l.length (r++[q]) m (ki l.length (r++[q]) m)]=_;rw[ajD m (by omega),<-xP.1]
        have axp:=UR l.length r m;have lQ:=axm v Q (ki l.length r m) s;rw[axp,<-AP.1]at lQ;exact⟨m+1,r++[q],T.1,by go_num,by simp[pW],A (λz3 hy=>by
         rcases lN.1 hy with t|t
         ·exact Wq.1 z3 t
         ·rw[jJ.1 t];exact HZ.1),by rw[hmp,axl,<-HT.1],by rw[hmp,lQ,gJ];exact H9.1,(by have h7:=xR.1.low B9.1 pL.1.lt;rw[show z1+((m+1:Nat):Int)=z1+(m:Int)+1 by omega];exact h7),fT zE.1 B9.1⟩
       case measure =>
        have t:=T.1;simp[intOf];omega
     ·obtain rfl:m=l.length:=by omega
      have H:=ahd (n:=r) iD.1 HP.1 Hk.1 nS.1 Wq.1;obtain⟨f1,f2,f3,f4⟩:=H.fin;have DY:=H.numP;rw[<-HYE.1,<-R9.1,<-Av.1]at f1 f2 f3 f4;rw[<-HYE.1,<-R9.1]at DY;obtain⟨PL,hPL⟩:=aK (py v Q (ki l.length r l.length) l.length);have hPl:PL.length=l.length:=by rw[hPL];exact Qb _ _ _ _
      rw[<-hPL]at f1 f2 f3 f4 DY z;have M:=NK.1.trans (rp x kt.1 NK.1.size);have hpi:aM wr (.slice pa l.length pc) PL:=(RI.own z (λz3 hy=>dK (DY z3 hy)) (by omega)).1;have OF:=asu ep (o:Int) (.slice a1 a.length k1) (.slice a2 E.length k2) (.slice a3 (bt z0).length k3) (.slice pa l.length pc) a E (bt z0) PL wr (HR.1.below M) (HO.1.below M) (yW.1.dic pL.1 x).1 hpi (by unfold aN;omega);obtain⟨pv_,nq⟩:=aK (cz (a.getD o []) z0);have e4:GK a E (bt z0) o PL=pv_:=f4.trans nq.symm;rw[f1,f2,f3,e4]at OF;have Dn:=A OF;have Ws:∀p:Nat,some (⟨O.heap.size,p,none⟩:Addr).block≠some y:=λp u=>by
       have h1:=acf.1;simp at u;omega
      replace zD:=x.cell zD (Ws 0);replace sJ:=x.cell sJ (Ws 1);replace sK:=x.cell sK (Ws 2);replace ru:=x.cell ru (Ws 3);have Cc:=Gu.1.dic pL.1 x;obtain⟨la,lc,X,-,-,-,lJ⟩:=Cc.1;obtain⟨lb,lo,ea3,G,B⟩:=lJ o (by rw[ju];exact hl);rw[GI]at G B;dsimp only at G B;rw[ju]at X;simp only[dr]at X;obtain⟨rfl,-,rfl⟩:=X;subst ea3;rw[<-nq]at B;obtain⟨ma,m6⟩:=aR hd x;have i3:(o:Int)<(a.length:Int):=by omega
      clear H f1 f2 f3 f4 DY hPL z hd x M hpi OF nq e4 Cc lJ hTn hT;go_wp2_with fail;refine Dn.1.mono ?_;rintro u w9 ⟨rfl,bA⟩;obtain⟨xS,Cg,dI,su,-⟩:=ee w9 o pv_ 66;obtain⟨x0,x1⟩:=ez su;replace G:=U dI (U bA G);replace B:=U dI (U bA B);obtain⟨HDZ,HGZ,Ks⟩:=bJ ((ma.1.below bA).below dI) (iW (iW (iW (lK (r:=some y) oe.1) m6.1) (lK bA)) (lK dI)) Cg;clear Cg dI su bA;go_wp2_with (rw[<-Ks.1]);refine nW (axi xS w9.heap.size lb lo a.length k4 o pv_) (λc=>?_) ?_ (λc W j=>?_)
      ·exact⟨(aY _ _).drew,ax,ax,ax,ax,ax,ax,ax,ax,ax,ax,ax,ax,ax,ax⟩
      ·refine⟨?_,?_,?_,?_,?_,?_,?_,?_,?_,?_,?_,?_,?_,?_,trivial⟩;all_goals intro dn c W z6 j k
       ·have n:=k.b 23 (0:Int);clear k;go_simp;exact⟨_,rfl,{j with f0:=aB}⟩
       ·have n:=k.e 0 109 j.f0;clear k;go_simp;exact⟨_,rfl,{j with f1:=aB}⟩
       ·have n:=k.e 1 110 j.f1;clear k;go_simp;exact⟨_,rfl,{j with f2:=aB}⟩
       ·refine k.g 2 j.f2 ?_;have n:=k.b 22 true;clear k;go_simp;exact⟨_,rfl,{j with f3:=aB}⟩
       ·have n:=k.e 2 111 j.f2;have e1:=k.e 3 112 j.f3;clear k;go_simp;exact⟨_,rfl,{j with f4:=aB}⟩
       ·have n:=k.e 4 113 j.f4;clear k;go_simp;exact⟨_,rfl,{j with f5:=aB}⟩
       ·refine k.g 5 j.f5 ?_;have n:=k.b 21 (w9,0);have cJ:=U j.b x0;have jd:=U j.b x1;clear k;go_simp;exact⟨_,rfl,{j with f6:=aB}⟩
       ·refine k.g 5 j.f5 ?_;have n:=k.b 1 (.slice (lb,lo) a.length k4);clear k;go_simp;exact⟨_,rfl,{j with f7:=aB}⟩
       ·refine k.g 5 j.f5 ?_;have n:=k.b 2 o;clear k;go_simp;exact⟨_,rfl,{j with f8:=aB}⟩
       ·refine k.g 5 j.f5 ?_;have n:=k.e 7 116 j.f7;have e1:=k.e 8 117 j.f8;clear k;go_simp;exact⟨_,rfl,{j with f9:=aB}⟩
       ·refine k.g 5 j.f5 ?_;have n:=k.e 9 118 j.f9;have cJ:=U j.b G;have jd:=U j.b B;clear k;go_simp;exact⟨_,rfl,{j with f10:=aB}⟩
       ·refine k.g 5 j.f5 ?_;have n:=k.e 6 115 j.f6;have e1:=k.e 10 119 j.f10;clear k;go_simp;exact⟨_,rfl,{j with f11:=aB}⟩
       ·have n:=k.e 5 114 j.f5;have e1:=k.e 11 120 j.f11;clear k;go_simp;exact⟨_,rfl,{j with f12:=aB}⟩
       ·have n:=k.e 12 121 j.f12;clear k;go_simp;exact⟨_,rfl,{j with f13:=aB}⟩
      simp only[jG,Act.put,Nat.reduceAdd,dD];rw[j.f13 rfl];have hbz:=j.b;go_wp2_with fail;go_ret;exact⟨rfl,(HDZ.1.below hbz).mono (by omega),iW HGZ.1 (lK hbz)⟩
