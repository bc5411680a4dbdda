/- Package codec: values are written. Package codec: Encode, at lists. Package equal: the text of some numbers. -/
import Derived.Test.YtaifagjclanodaaGreatDoorMCat
set_option maxHeartbeats 2000000
set_option maxRecDepth 100000
namespace Go.Proofs.YtaifagjclanodaaGreatDoor
open Go.Proofs.Tryz
open Go.RowKit
variable{i:Array Oper}{f:ByteArray}{e:Int}{j:List Oper}{b c:Nat}{d:Option Addr}{v:Value}{g a:World}{h:aO}
theorem GC{k l:Nat}(o:Below c a g)(m:k<c)(n:a.cell? (k,l)=some v):g.cell? (k,l)=some v:=by
 rw[o.cell (p:=⟨k,l,none⟩) m];exact n
theorem tm(g:World)(m n o p:Value)(l:TypeId):∃k,k=g.alloc (.cells #[m,n,o,p] l)/\Below g g k/\k.heap[g.heap.size]?=QC.mk #[m,n,o,p] l:=
 ⟨_,rfl,(aY _ _).alloc (aP _) _,World.alloc_heap_new g _⟩
theorem Bw.low(l:Bw b a)(k:Below c a g)(m:b+1<c):Bw b g:=⟨GC k (by omega) l.int,GC k (by omega) l.text,GC k (by omega) l.list,GC k m l.var⟩
theorem aqc(l:aO)(k:Nat):l++[3]++num k=l++(3::(num k++[])):=by rw[FN,DK];rfl
def n8(l:List aO)(k:Nat):aO:=3::(num l.length++(l.take k).flatten)
theorem aqd(l:aO)(k:List aO):l++[3]++num k.length=l++n8 k 0:=by unfold n8;rw[aqc];rfl
theorem aqe(m:aO)(l:List aO){k:Nat}(n:k<l.length):m++n8 l k++l[k]=m++n8 l (k+1):=by
 unfold n8;rw[jv n,List.flatten_append,DK,jn,DK];simp
theorem aqf(k:List aO):n8 k k.length=gg k:=by unfold n8 gg;rw[m9]
theorem aqg(l:List aO){k:Nat}(n:k<l.length):(n8 l k).length+l[k].length<=(gg l).length:=by
 have m:l.flatten=(l.take k).flatten++(l[k]++(l.drop (k+1)).flatten):=by
  conv=>lhs;rw[<-List.take_append_drop k l,List.flatten_append,List.drop_eq_getElem_cons n,List.flatten_cons]
 unfold n8 gg;rw[m];simp;omega
def Ut(b c:Nat)(v:Value)(k e:Int)(f:ByteArray)(d:Option Addr)(l m:Nat)(h:aO)(a:World):Prop:=
 (k=1/\Calls prog 208 #[v,vx k e f d l m] a (Al c a v h))\/(k=2/\Calls prog 211 #[v,vx k e f d l m] a (Al c a v h)) \/
  (k=3/\Calls prog 212 #[v,vx k e f d l m,.pointer (some ⟨b+1,0,none⟩)] a (Al c a v h))
theorem aqh{l m:Nat}(k:Ut b c v 1 e f d l m h a):Calls prog 208 #[v,vx 1 e f d l m] a (Al c a v h):=by
 rcases k with k|k|k
 ·exact k.2
 ·exact absurd k.1 (by decide)
 ·exact absurd k.1 (by decide)
theorem aqi{l m:Nat}(k:Ut b c v 2 e f d l m h a):Calls prog 211 #[v,vx 2 e f d l m] a (Al c a v h):=by
 rcases k with k|k|k
 ·exact absurd k.1 (by decide)
 ·exact k.2
 ·exact absurd k.1 (by decide)
theorem aqj{l m:Nat}(k:Ut b c v 3 e f d l m h a):Calls prog 212 #[v,vx 3 e f d l m,(b+1,0)] a (Al c a v h):=by
 rcases k with k|k|k
 ·exact absurd k.1 (by decide)
 ·exact absurd k.1 (by decide)
 ·exact k.2
def WR(q:World->Value->aO->Prop):Prop:=∀(b c:Nat) (v:Value) (o e:Int) (f:ByteArray) (d:Option Addr) (n p:Nat) (l m:aO) (k a:World),q k (vx o e f d n p) m->Below k.heap.size k a->k.heap.size<=c->Bw b a->b+1<c ->
 a.ownsRow c 5 1 v l.length (l.map cX)->c<=a.heap.size->l.length+m.length<=1099511627776->Ut b c v o e f d n p (l++m) a
theorem af5:WR (λ_=>Gy):=by
 intro b c v o e f d x z p u y a t _ _ _ _ n m w;rcases t with⟨r,hn,k,rfl⟩|⟨s,q,k,rfl⟩
 ·have l:o=1:=by unfold vx PJ at k;simp at k;exact k.1
  exact .inl ⟨l,k▸ap6 c v p r a hn n m (by omega)⟩
 ·have l:o=2:=by unfold vx PK at k;simp at k;exact k.1
  exact .inr (.inl ⟨l,k▸aqb c v p s a q n m (by omega)⟩)
theorem af6(z0:World->Value->aO->Prop)(hWR:WR z0)(b c:Nat)(v:Value)(Z:Option Addr)(mL cL:Nat)(m:aO)(k:List aO)(E a:World)(hV:VL z0 E (.slice Z mL cL) k)(Q:Below E.heap.size E a)(R:E.heap.size<=c)(hW:Bw b a)(hB:b+1<c)
  (bo:a.ownsRow c 5 1 v m.length (m.map cX)) (dF:c<=a.heap.size) (hl:m.length+(gg k).length<=1099511627776):
  Calls prog 212 #[v,qV (.slice Z mL cL),.pointer (some ⟨b+1,0,none⟩)] a (Al c a v (m++gg k)):=by
 obtain⟨z0z,cap,he,jC,hlen,hk⟩:=hV;simp only[dr]at he;obtain⟨rfl,rfl,rfl⟩:=he;obtain⟨HK,EC,HO,dG⟩:=cY hk hWR bo (pQ bo (.inl (aP a.heap.size)));clear hk hWR bo;have Es:Hid (k.length<18446744073709551616):=A (by omega);have n7:Hid ((m++[3]).length<=8796093022208):=A (by rw[fu];simp;omega);have oY:IntKind.u64.wrap (k.length:Int)=(k.length:Int):=by rw[KZ];omega
 have CW:=A hl;clear hl;unfold qV;go_enter func212,ntmps212;go_wp2_with fail;go_region_held3 (λl=>l.cell? ⟨a.heap.size,3,none⟩=some (.slice Z k.length cL)) (first|go_keep|exact PN|exact hq) (first
  |(refine aab rfl _ _ rfl c _ m _ rfl (dM HO.1 (by repeat (first|exact aY _ _|refine A1 ?_|refine tZ ?_ (by simp) _))) (a.heap.size+1) 1 3 rfl (by simp[go_sem,cX]) (by have:=CW.1;omega) (by simp;omega) ?_;intro v8 W h8 M;have hq:W.cell? ⟨a.heap.size,3,none⟩=some (.slice Z k.length cL):=(rH M (by simp;omega) dG.1 3).trans (by simp[go_sem]);have H8:Hid (W.ownsRow c 5 1 v8 (m++[3]).length ((m++[3]).map cX)):=A (by rw[fu];exact h8);have ik:Hid (c<=W.heap.size):=A (bK dF (show a.heap.size<=W.heap.size from bK (by simp;omega) M.1.size));have vy:=A (PM M (m:=a.heap.size) (by simp;omega) dG.1);have GA:Hid (a.heap.size<W.heap.size):=A (eJ (by simp;omega) M.1.size);have O8:=A M;clear h8 M)
  |(go_simp;go_at_call 209;(with_reducible refine(Z5 c _ (m++[3]) k.length _ H8.1 ik.1 Es.1 n7.1).mono ?_);rintro z2z w1 ⟨v9,rfl,h9,o9⟩;have PN:=(rH o9 GA.1 vy.1 3).trans hq;have H9:=A h9;have O9:=A o9;clear h9 o9))
 have w:fI a v w1 v9:=(fI.below (by repeat (first|exact aY _ _|refine A1 ?_|refine tZ ?_ (by simp) _)) v).trans (O8.1.trans O9.1);have H9b:Hid (w1.ownsRow c 5 1 v9 (m++n8 k 0).length ((m++n8 k 0).map cX)):=A (aqd m k▸H9.1);clear O8 O9 H8 H9 ik vy GA Es n7 oY;have Jg:=A w;clear w;go_wp2_with fail;clear PN;go_loopw[0,19] (λz1z z4z g=>∃n:Nat,n<=k.length/\z4z=.int .i64 n/\g.ownsRow c 5 1 z1z (m++n8 k n).length ((m++n8 k n).map cX)/\fI a v g z1z) (λ_ z4z _=>k.length-(intOf z4z).toNat);case atStart=>exact⟨0,bS _,rfl,H9b.1,Jg.1⟩
 case round =>
  clear H9b Jg;obtain⟨n,dg,rfl,H,w⟩:=hrel;have I:Below c a wr:=apP HO.1 w dF;have Bx:=hW.low I hB;have cA:c<=wr.heap.size:=bK dF w.1.size;by_cases aq:n<k.length
  ·obtain⟨z1z,off,y,e,f,d,x,u,rfl,q1,q2,q3,q4,q5⟩:=HK.1 n aq;have iz:z1z<c:=eJ (iO q1) R;have c1:=GC I iz (U Q q1);have c2:=GC I iz (U Q q2);have c3:=GC I iz (U Q q3);have c4:=GC I iz (U Q q4);have HEN:=A (aqe m k aq);have iI:(m++n8 k n).length+k[n].length<=1099511627776:=by
    have h1:=aqg k aq;have h2:=CW.1;rw[fu];omega
   obtain⟨o,aE,q,F⟩:=tm wr (.int .i64 y) (.int .i64 e) (.string f) (.slice d x u) 72;have bW:Below E.heap.size E o.drew:=Q.trans ((I.mono R).trans (q.drew.mono (bK R cA)));have v0:y=1\/y=2\/y=3:=by
    rcases EC.1 b c u0 y e f d x u (m++n8 k n) k[n] E o.drew q5 bW R (Bx.below q.drew) hB (dM H q.drew) (bK cA q.drew.size) iI with X|X|X
    ·exact .inl X.1
    ·exact .inr (.inl X.1)
    ·exact .inr (.inr X.1)
   obtain⟨G,nS,aac⟩:=bJ (EC.1 b c u0 y e f d x u (m++n8 k n) k[n] E o.drew q5 bW R (Bx.below q.drew) hB (dM H q.drew) (bK cA q.drew.size) iI) H w;generalize k[n]=es at *;clear q1 q2 q3 q4 q5 iI H w bW;obtain⟨qA,Ew,PO,rW⟩:=Bx;have y0:o.cell? ⟨wr.heap.size,0,none⟩=some (.int .i64 y):=Y F rfl;have y1:o.cell? ⟨wr.heap.size,1,none⟩=some (.int .i64 e):=Y F rfl;have y2:o.cell? ⟨wr.heap.size,2,none⟩=some (.string f):=Y F rfl;have y3:o.cell? ⟨wr.heap.size,3,none⟩=some (.slice d x u):=Y F rfl;have aqk:b+1<wr.heap.size:=by omega
   have dh:wr.heap.size<o.heap.size:=bG F;have n1:=pQ nS.1 (a:=b+1) (.inr hB);have n2:=pQ nS.1 (a:=b) (.inr (by omega));have T:=pQ nS.1 (a:=wr.heap.size) (.inl (aP _));have s1:b+1<o.drew.heap.size:=eJ aqk q.drew.size;have s2:b<o.drew.heap.size:=by omega
   have s3:wr.heap.size<o.drew.heap.size:=dh;have L:Hid (∀p t,fI o.drew u0 p t->p.cell? ⟨b+1,0,none⟩=some (.pointer (some ⟨b,0,none⟩))/\(p.cell? ⟨b,1,none⟩=some (.func (.func 208) #[] #[])/\p.cell? ⟨b,2,none⟩=some (.func (.func 211) #[] #[])/\p.cell? ⟨b,3,none⟩=some (.func (.func 212) #[] #[.pointer (some ⟨b+1,0,none⟩)]))/\p.cell? ⟨wr.heap.size,0,none⟩=some (.int .i64 y)/\p.cell? ⟨wr.heap.size,1,none⟩=some (.int .i64 e)/\p.cell? ⟨wr.heap.size,2,none⟩=some (.string f)/\p.cell? ⟨wr.heap.size,3,none⟩=some (.slice d x u)):=A (λp t D =>
    ⟨(rH D s1 n1 0).trans (U q.drew rW),⟨(rH D s2 n2 1).trans (U q.drew qA),(rH D s2 n2 2).trans (U q.drew Ew),(rH D s2 n2 3).trans (U q.drew PO)⟩,(rH D s3 T 0).trans y0,(rH D s3 T 1).trans y1,(rH D s3 T 2).trans y2,(rH D s3 T 3).trans y3⟩)
   have v1:=U q qA;have v2:=U q Ew;have v3:=U q PO;have v4:=U q rW;have K:=A ((fI.below q.drew u0));clear qA Ew PO rW F n1 n2 T s1 s2 s3;have bp:=A aE;clear aE;go_wp2_with fail;rw[<-bp.1];clear c1 c2 c3 c4;have N:o.cell? ⟨b+1,0,none⟩=some (.pointer (some ⟨b,0,none⟩))/\(o.cell? ⟨b,1,none⟩=some (.func (.func 208) #[] #[])/\o.cell? ⟨b,2,none⟩=some (.func (.func 211) #[] #[])/\o.cell? ⟨b,3,none⟩=some (.func (.func 212) #[] #[.pointer (some ⟨b+1,0,none⟩)]))/\o.cell? ⟨wr.heap.size,0,none⟩=some (.int .i64 y)/\o.cell? ⟨wr.heap.size,1,none⟩=some (.int .i64 e)/\o.cell? ⟨wr.heap.size,2,none⟩=some (.string f)/\o.cell? ⟨wr.heap.size,3,none⟩=some (.slice d x u):=⟨v4,⟨v1,v2,v3⟩,y0,y1,y2,y3⟩;rcases v0 with rfl|rfl|rfl
   ·have r:=A (aqh G.1);unfold vx at r;go_region_held3 (λl=>l.cell? ⟨b+1,0,none⟩=some (.pointer (some ⟨b,0,none⟩))/\(l.cell? ⟨b,1,none⟩=some (.func (.func 208) #[] #[])/\l.cell? ⟨b,2,none⟩=some (.func (.func 211) #[] #[])/\l.cell? ⟨b,3,none⟩=some (.func (.func 212) #[] #[.pointer (some ⟨b+1,0,none⟩)]))/\l.cell? ⟨wr.heap.size,0,none⟩=some (.int .i64 1)/\l.cell? ⟨wr.heap.size,1,none⟩=some (.int .i64 e)/\l.cell? ⟨wr.heap.size,2,none⟩=some (.string f)/\l.cell? ⟨wr.heap.size,3,none⟩=some (.slice d x u)) (first|go_keep|exact N|exact S)
     (first
      |(go_at_call 208;(refine r.1.mono ?_);rintro z2z p ⟨t,rfl,C,s⟩;have S:=L.1 p t s;have z:=A C;have B:=A s;clear C s))
    have O:=A (aac.1.trans (K.1.trans B.1));have P:Hid (p.ownsRow c 5 1 t (m++n8 k (n+1)).length ((m++n8 k (n+1)).map cX)):=A (HEN.1▸z.1);clear z B L K r G N;go_wp2_with fail;go_roundw;case rel=>exact⟨n+1,by omega,by go_num,P.1,O.1⟩
    case measure=>simp[intOf];omega
   ·have r:=A (aqi G.1);unfold vx at r;go_region_held3 (λl=>l.cell? ⟨b+1,0,none⟩=some (.pointer (some ⟨b,0,none⟩))/\(l.cell? ⟨b,1,none⟩=some (.func (.func 208) #[] #[])/\l.cell? ⟨b,2,none⟩=some (.func (.func 211) #[] #[])/\l.cell? ⟨b,3,none⟩=some (.func (.func 212) #[] #[.pointer (some ⟨b+1,0,none⟩)]))/\l.cell? ⟨wr.heap.size,0,none⟩=some (.int .i64 2)/\l.cell? ⟨wr.heap.size,1,none⟩=some (.int .i64 e)/\l.cell? ⟨wr.heap.size,2,none⟩=some (.string f)/\l.cell? ⟨wr.heap.size,3,none⟩=some (.slice d x u)) (first|go_keep|exact N|exact S)
     (first
      |(go_at_call 211;(refine r.1.mono ?_);rintro z2z p ⟨t,rfl,C,s⟩;have S:=L.1 p t s;have z:=A C;have B:=A s;clear C s))
    have O:=A (aac.1.trans (K.1.trans B.1));have P:Hid (p.ownsRow c 5 1 t (m++n8 k (n+1)).length ((m++n8 k (n+1)).map cX)):=A (HEN.1▸z.1);clear z B L K r G N;go_wp2_with fail;go_roundw;case rel=>exact⟨n+1,by omega,by go_num,P.1,O.1⟩
    case measure=>simp[intOf];omega
   ·have r:=A (aqj G.1);unfold vx at r;go_region_held3 (λl=>l.cell? ⟨b+1,0,none⟩=some (.pointer (some ⟨b,0,none⟩))/\(l.cell? ⟨b,1,none⟩=some (.func (.func 208) #[] #[])/\l.cell? ⟨b,2,none⟩=some (.func (.func 211) #[] #[])/\l.cell? ⟨b,3,none⟩=some (.func (.func 212) #[] #[.pointer (some ⟨b+1,0,none⟩)]))/\l.cell? ⟨wr.heap.size,0,none⟩=some (.int .i64 3)/\l.cell? ⟨wr.heap.size,1,none⟩=some (.int .i64 e)/\l.cell? ⟨wr.heap.size,2,none⟩=some (.string f)/\l.cell? ⟨wr.heap.size,3,none⟩=some (.slice d x u)) (first|go_keep|exact N|exact S)
     (first
      |(go_at_call 212;(refine r.1.mono ?_);rintro z2z p ⟨t,rfl,C,s⟩;have S:=L.1 p t s;have z:=A C;have B:=A s;clear C s))
    have O:=A (aac.1.trans (K.1.trans B.1));have P:Hid (p.ownsRow c 5 1 t (m++n8 k (n+1)).length ((m++n8 k (n+1)).map cX)):=A (HEN.1▸z.1);clear z B L K r G N;go_wp2_with fail;go_roundw;case rel=>exact⟨n+1,by omega,by go_num,P.1,O.1⟩
    case measure=>simp[intOf];omega
  ·obtain rfl:n=k.length:=by omega
   have HP:Hid (Al c a v (m++gg k) (.returned u0) wr):=A ⟨_,rfl,aqf k▸H,w⟩;clear H w;go_wp2_with fail;go_ret;exact HP.1
theorem af7:∀(l:Nat),WR (ig l)
 |0=>af5
 |l+1=>by
  intro b c v w e f d E H x B u a m p t o n r s q;rcases m with m|⟨G,F,z,y,k,D,rfl⟩
  ·exact af5 b c v w e f d E H x B u a m p t o n r s q
  ·have C:w=3:=by unfold vx qV at k;simp at k;exact k.1
   exact .inr (.inr ⟨C,k▸af6 (ig l) (af7 l) b c v G F z x y u a D p t o n r s q⟩)
def af8(a:World)(m:aO)(n:Ending)(l:World):Prop:=∃k,n=.returned (.tuple #[k,.int .i64 0])/\fC l k m/\Below a.heap.size a l
theorem aad(C:Nat)(hd:C<16)(q:Option Addr)(p r:Nat)(n:List aO)(a:World)(E:VL (ig C) a (.slice q p r) n)(M:(gg n).length<=1099511627776):
  Calls prog 136 #[qV (.slice q p r)] a (af8 a (gg n)):=by
 obtain⟨y,I,F,x⟩:=tm a (3:Int) (0:Int) (.string ⟨#[]⟩) (.slice q p r) 72;obtain⟨H,T,S,bp⟩:=cY (ap3 C hd q p r n y (E.below (λz1 w G=>G.below F) F)) E (E.all λv w G=>G.all) I;clear E I;have N:y.cell? (a,0)=(3:Int):=Y x rfl;have O:y.cell? (a,1)=(0:Int):=Y x rfl;have P:y.cell? (a,2)=some (.string ⟨#[]⟩):=Y x rfl;have Q:y.cell? (a,3)=some (.slice q p r):=Y x rfl;clear x;unfold qV at H ⊢;go_enter func136,ntmps136;go_wp2_with fail;rw[<-bp.1];refine H.1.mono ?_;rintro w l ⟨rfl,z⟩;have x0:=U z N;have e:=U z O;have f:=U z P;have d:=U z Q;have B:=ar F z;clear N O P Q;go_wp2_with fail;have jU:Hid (∀k,Bw l.heap.size k->Below l l.drew k->Calls prog 212 #[(),qV (.slice q p r),(l.heap.size+1,0)] k (Al k.heap.size k () ([]++gg n))):=A (λk s m =>
  af6 (ig C) (af7 C) l.heap.size k.heap.size () q p r [] n a k T.1 (B.trans (((aY l.heap.size l).drew.trans m).mono B.size)) (bK B.size m.size) s (iO s.var) (iv _ _ _ _) (aP _) (by simpa using M))
 have X:Hid (∀k u t,Below l l.drew k->u.ownsRow k.heap.size 5 1 t ([]++gg n).length (([]++gg n).map cX)->fI k () u t->af8 a (gg n) (.returned (.tuple #[t,(0:Int)])) u):=A (λk u t m D o=>by
  have Z:Below k k u:=⟨o.1.os,o.1.tape,o.1.output,o.1.size,λz0 hk=>o.1.block z0 hk (by intro w;cases w)⟩;have K:Below l l k:=(aY _ _).drew.trans m;exact⟨t,rfl,fC.own D S.1 (by omega),(ar B K).trans (Z.mono (bK B.size K.size))⟩)
 clear M;go_region_law (first
   |(go_simp;go_at_call 183;(with_reducible refine(ap4 _).mono ?_);rintro w k ⟨rfl,s,m⟩;have x0':=U m x0;have x1':=U m e;have x2':=U m f;have x3':=U m d;have gC:k.cell? (l,3)=some (.func (.func 212) #[] #[(l.heap.size+1,0)]):=s.list;have W:Hid (Bw l.heap.size k):=A s;have L:Hid (Below l l.drew k):=A m;clear s m)
   |(go_simp;go_at_call 212;(refine(jU.1 k W.1 L.1).mono ?_);rintro w u ⟨t,rfl,D,o⟩;have R:=A D;have O4:=A o;clear D o))
 all_goals
  go_wp2_with fail;go_ret2;exact X.1 _ _ _ L.1 R.1 O4.1
def Jh(a:World)(v:Value)(l:V):Prop:=
 ∃p o,v=.slice p l.length o/\l.length<=o/\l.length<=1000000/\(∀q∈l,aN q) /\
  ∀k (r:k<l.length),∃n m,p=some ⟨n,m,none⟩/\a.cell? ⟨n,m+k*4,none⟩=some (.int .i64 1)/\a.cell? ⟨n,m+k*4+1,none⟩=some (.int .i64 l[k]) /\
   a.cell? ⟨n,m+k*4+2,none⟩=some (.string ⟨#[]⟩)/\a.cell? ⟨n,m+k*4+3,none⟩=some (.slice none 0 0)
theorem aga(k:V):gg (k.map dB)=sn k:=by unfold gg sn;rw[dy,List.flatMap_def]
theorem Jh.vl{k:V}(B:Jh a v k):VL (ig 0) a v (k.map dB):=by
 obtain⟨y,n,rfl,s,u,w,t⟩:=B;refine⟨y,n,by rw[dy],by rw[dy];exact s,by rw[dy];exact u,λm l=>?_⟩;rw[dy]at l;obtain⟨z,x,ha,o,p,q,r⟩:=t m l;exact⟨z,x,1,k[m],⟨#[]⟩,none,0,0,ha,o,p,q,r,.inl ⟨k[m],w _ (bM l),rfl,by rw[gj]⟩⟩
def aqm(a:World)(n:V)(m:Ending)(l:World):Prop:=∃k,m=.returned (.tuple #[k,.int .i64 0])/\fC l k (sn n)/\Below a.heap.size a l
theorem agb(o:Value)(m:V)(a:World)(k:Jh a o m):
  Calls prog 136 #[qV o] a (aqm a m):=by
 have l:(gg (m.map dB)).length<=1099511627776:=by
  obtain⟨p,n,rfl,s,l,q,t⟩:=k;rw[aga];have:=Un q l;omega
 have r:=k.vl;obtain⟨p,n,rfl,-⟩:=id k;have:=aad 0 (by omega) p _ n _ a r l;rw[aga]at this;exact this
def pj(z:Int):List Value:=[.int .i64 1,.int .i64 z,.string ⟨#[]⟩,.slice none 0 0]
theorem agc:∀(m:V) (k l:Nat) (n:k<m.length),l<4->(m.flatMap pj)[k*4+l]?=(pj m[k])[l]?
 |[],k,_,n,_=>absurd n (fG k)
 |p::m,0,l,_,o=>by
  rw[lP,Ib,iN,uN (by show l<4;exact o)];rfl
 |p::m,k+1,l,n,o=>by
  rw[lP,rD (by show 4<=_;omega)];have q:(k+1)*4+l-(pj p).length=k*4+l:=by show(k+1)*4+l-4=_;omega
  rw[q,agc m k l (by simpa using n) o];rfl
theorem aqn(k:V):(k.flatMap pj).length=k.length*4:=by
 induction k with
 |nil=>rfl
 |cons m k l=>rw[lP,fu,l,dZ];show 4+_=_;omega
theorem aqo(k:V)(z:Int):(k++[z]).flatMap pj=k.flatMap pj++pj z:=by rw[AY];simp
theorem Jh.own{n:Nat}{zs:V}(q:a.ownsRow c 72 4 v n (zs.flatMap pj))(u:∀z∈zs,aN z)(t:zs.length<=1000000):Jh a v zs:=by
 obtain⟨hn,q⟩:=q;rw[aqn]at hn;obtain rfl:n=zs.length:=by omega
 rcases q with⟨rfl,y⟩|⟨w,x,r,rfl,-,m,C,-,E,D⟩
 ·exact⟨none,0,by rw[y],by omega,t,u,λl p=>absurd p (by omega)⟩
 ·refine⟨some (w,0),x,rfl,C,t,u,λl p=>⟨w,0,rfl,?_⟩⟩;have o:∀k,k<4->r[l*4+k]?=(pj zs[l])[k]?:=λk B=>by
   have s:(r.toList.take (zs.length*4))[l*4+k]?=(pj zs[l])[k]?:=by rw[D,agc zs l k p B]
   rw[we,aD (by omega)]at s;rw[<-sR];exact s
  rw[iN];exact⟨Y m (o 0 (by omega)),Y m (o 1 (by omega)),Y m (o 2 (by omega)),Y m (o 3 (by omega))⟩
theorem agd:(prog.info? 72).map (λk=>(k.zero.map (·.cells.size),k.size,k.bytes))=some (some 4,4,56):=by kernel_rfl
theorem age{r:Oper}{s:Act}{B:Exit->Act->World->Prop}(H:r.guard=none)(u w:Operand)(O:r.op=.call {callee:=.builtin .append,args:=#[u,w],argTypes:=#[70,70]})
  (c:Nat) (v:Value) (y:V) (k:Nat) (P:s.eval u=v) (F:g.ownsRow c 72 4 v k (y.flatMap pj)) (x D:Nat) (z:Int) (Q:s.eval w=.slice (x,0) 1 D) (G:∀t n,(pj z)[t]?=some n->g.cell? ⟨x,t,none⟩=some n) (hn:k<=1000000) (I:c<=g.heap.size)
  (W:∀l m o,o.ownsRow c 72 4 (.slice (some ⟨l,0,none⟩) (k+1) m) (k+1) ((y++[z]).flatMap pj)->fI g v o (.slice (some ⟨l,0,none⟩) (k+1) m)->wpList prog i B j (s.put r.dst (.slice (some ⟨l,0,none⟩) (k+1) m)) o):wpList prog i B (r::j) s g:=by
 obtain⟨X,N,C⟩:=kA.1 agd;simp only[pN]at C;obtain⟨R,E,M⟩:=C;obtain⟨Z,S,T⟩:=kA.1 R;refine wpList_append_lies _ H u w 70 O c 72 X Z 4 56 underlying70 N S E M T (by decide) v k (y.flatMap pj) P F (x,0) 1 D (pj z) Q rfl ?_ ?_ (by decide) ?_ ?_ I g.heap.size rfl ?_
 ·intro t n q;rw[Cu];exact G t n q
 ·intro n q;simp only[pj,iu,oG,oH]at q;rcases q with rfl|rfl|rfl|rfl<;>rfl
 ·unfold maxLen;omega
 ·omega
 ·intro l m o K L p _;refine W l m o (by rw[aqo];exact K) ⟨L,?_⟩;rcases p with p|p
  ·exact .inl (p▸rfl)
  ·exact .inr ⟨l,rfl,by omega⟩
def Uu(a:World)(m:V)(k:Nat)(g:World):Prop:=∃l,g.heap[a.heap.size]?=some (.cells #[.int .i64 3,.int .i64 0,.string ⟨#[]⟩,l] 72 (0,0)) /\
 g.ownsRow (a.heap.size+1) 72 4 l k ((m.take k).flatMap pj)/\Below a.heap.size a g
theorem agf(v:Value)(k:V)(a:World)(hI:aM a v k)(hl:k.length<=1000):
  Calls prog 158 #[v] a λr W=>∃T,r=.returned T/\fC W T (sn k)/\Below a a W:=by
 obtain⟨z0z,cap,rfl,jC,hlen,P,O⟩:=hI;obtain⟨HR,Z⟩:=aR P O;clear P O;go_enter func158,ntmps158;go_wp2_with fail;have Q:Uu a k 0 (a.alloc (.cells #[(3:Int),(0:Int),.string ⟨#[]⟩,()] 72)):=⟨_,World.alloc_heap_new _ _,iv _ _ _ _,(aY _ _).alloc (aP _) _⟩;go_loopw[11] (λC g=>∃l:Nat,l<=k.length/\C=l/\Uu a k l g) (λC _=>k.length-(intOf C).toNat);case atStart=>exact⟨0,bS _,rfl,Q⟩
 case round =>
  clear Q;obtain⟨l,dg,rfl,t,m,o,w⟩:=hrel;have x:=bG m;by_cases H:l<k.length
  ·obtain⟨z1z,off,rfl,R⟩:=Z.1 l H;have c1:=U w R;have HT:=A (show k.take l++[k[l]]=k.take (l+1) from(jv H).symm);generalize k[l]=B at *;have d:wr.cell? (a,3)=some t:=Y m rfl;obtain⟨u,F,n,G⟩:=tm wr (1:Int) B (.string ⟨#[]⟩) () 72;have K:=A (dM o n);have lC:Hid (∀s z,(pj B)[s]?=some z->u.cell? ⟨wr.heap.size,s,none⟩=some z):=A (λs z N=>Y G (by
    match s with
    |0|1|2|3=>exact N
    |z0+4=>simp[pj]at N))
   obtain⟨dG,gZ⟩:=aR (pQ o (a:=a.heap.size) (.inr (by omega))) ((n.block _ x).trans m);have eF:Hid (a.heap.size<u.heap.size):=A (eJ x n.size);obtain⟨du,p⟩:=aR n F;have cU:l<=1000:=by omega
   have S:a.heap.size+1<=u.heap.size:=eJ x n.size;have L:=A S;clear R o m G n F S;go_wp2_with (refine age rfl _ _ rfl (a.heap.size+1) _ (k.take l) _ rfl (p.1▸K.1) wr.heap.size 1 B rfl (p.1▸lC.1) (by omega) (p.1▸L.1) ?_;rw[<-p.1];intro g8 uq w8 M y;have q:=(y.1.block _ eF.1 (λr=>dG.1 r.symm)).trans gZ.1;have y3:w8.cell? (a,3)=some t:=Y q rfl;have f3:=cB q 3;have I2:=A q;have X:=A M;have O8:=A y;clear q M y);go_roundw;case rel=>exact⟨l+1,by omega,by go_num,_,cK I2.1 3 _,by
    refine nM ?_ (pO _) _;rw[<-HT.1];exact X.1,((ar w du.1).trans (fH K.1 O8.1.1 L.1 |>.mono (eP _))).setCell (aP _) _⟩
   case measure=>simp[intOf];omega
  ·have I:l=k.length:=by omega
   rw[I,m9]at o;have D:=A (Jh.own o HR.1 (by omega));have x0:wr.cell? (a,0)=(3:Int):=Y m rfl;have e:wr.cell? (a,1)=(0:Int):=Y m rfl;have f:wr.cell? (a,2)=some (.string ⟨#[]⟩):=Y m rfl;have d:wr.cell? (a,3)=some t:=Y m rfl;obtain⟨aL,cL,hLe,-⟩:=id D.1;subst hLe;clear o m I;go_wp2_with fail;refine(agb _ k _ D.1).mono ?_;rintro r w9 ⟨v9,rfl,E,bA⟩;have HV9:=A E;clear E;go_wp2_with fail;go_ret;exact⟨_,rfl,HV9.1,ar w bA⟩
