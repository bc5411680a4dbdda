/- Package keygen: Deal. -/
import Derived.Test.YtaifagjclanodaaGreatDoorMKgP
set_option maxHeartbeats 16000000
set_option maxRecDepth 100000
namespace Go.Proofs.YtaifagjclanodaaGreatDoor
open Go.Proofs.Tryz
open Go.RowKit FP
variable{N:Array Oper}{o M:Array Value}{d:Oper}{v:Option Addr}{L:TypeId}{c:Value}{a:World}
theorem au1{v:Act}{w:Act->World->Prop}{y:Exit->Act->World->Prop}{x:Prop}(O:d.guard=none)(q r:Operand)(X:d.op=.call {callee:=.builtin .append,args:=#[q,r],argTypes:=#[82,82]})
  (i:Nat) (c:Value) (s:List gG) (b:Nat) (Z:v.eval q=c) (E:a.ownsRow i 88 3 c b (s.flatMap gW)) (p o:Nat) (z:gG) (hx:v.eval r=.slice (p,0) 1 o) (H:∀n g,(gW z)[n]?=some g->a.cell? ⟨p,n,none⟩=some g) (hn:b<=1000000) (P:i<=a.heap.size)
  (Q:∀e f h,h.ownsRow i 88 3 (.slice (some ⟨e,0,none⟩) (b+1) f) (b+1) ((s++[z]).flatMap gW)->fI a c h (.slice (some ⟨e,0,none⟩) (b+1) f)->w (v.put d.dst (.slice (some ⟨e,0,none⟩) (b+1) f)) h):
  if Region.wanted d (yielded N v.tmps)=true then Oper.wp prog d v a w y else x:=by
 obtain⟨z0,W,u⟩:=kA.1 agQ;simp only[pN]at u;obtain⟨hz,D,T⟩:=u;obtain⟨zv,oW,oX⟩:=kA.1 hz;refine step_append_lies _ O q r 82 X i 88 z0 zv 3 24 underlying82 W oW D T oX (by decide) c b (s.flatMap gW) Z E (p,0) 1 o (gW z) hx rfl ?_ ?_ (by decide) ?_ ?_ P a.heap.size rfl ?_
 ·intro n g m;rw[Cu];exact H n g m
 ·intro g m;simp only[gW,iu,oG,oH]at m;rcases m with rfl|rfl|rfl<;>rfl
 ·unfold maxLen;omega
 ·omega
 ·intro e f h R S j _;refine Q e f h (by rw[aro];exact R) ⟨S,?_⟩;rcases j with j|j
  ·exact .inl (j▸rfl)
  ·exact .inr ⟨e,rfl,by omega⟩
theorem au2{v:Act}{w:Act->World->Prop}{p:Exit->Act->World->Prop}(q:d.guard=none)(i m:Nat)(H:d.op=.call {callee:=.builtin .append,args:=#[.tmp i,.tmp m],argTypes:=#[82,82]})
  (e:Nat) (c:Value) (n:List gG) (b:Nat) (O:v.tmps[i]?.getD undef=c) (x:a.ownsRow e 88 3 c b (n.flatMap gW)) (f o:Nat) (z:gG) (P:v.tmps[m]?.getD undef=.slice (f,0) 1 o) (y:∀s u,(gW z)[s]?=some u->a.cell? ⟨f,s,none⟩=some u) (hn:b<=1000000) (D:e<=a.heap.size)
  (E:∀h g j,j.ownsRow e 88 3 (.slice (some ⟨h,0,none⟩) (b+1) g) (b+1) ((n++[z]).flatMap gW)->fI a c j (.slice (some ⟨h,0,none⟩) (b+1) g)->w (v.put d.dst (.slice (some ⟨h,0,none⟩) (b+1) g)) j):
  Oper.wp prog d v a w p:=by
 have r:=au1 (N:=#[]) (x:=False) (y:=p) q (.tmp i) (.tmp m) H e c n b (by rw[<-O];exact gi) x f o z (by rw[<-P];exact gi) y hn D E;rw[aD (by unfold Region.wanted;rw[q])]at r;exact r
def J3(g:World)(c:Value)(z:gG):Prop:=∃b o,c=.slice (some ⟨b,0,none⟩) 1 o/\∀e f,(gW z)[e]?=some f->g.cell? ⟨b,e,none⟩=some f
theorem J3.below{b w':World}{z:gG}(g:J3 b c z)(h:Below b b w'):J3 w' c z:=by
 obtain⟨e,o,f,i⟩:=g;exact⟨e,o,f,λm n j=>U h (i m n j)⟩
theorem J3.new(a:World)(z:gG):J3 (a.alloc (.cells #[z.1,z.2.1,z.2.2] 88)) (.slice (a,0) 1 1) z:=
 ⟨a.heap.size,1,rfl,λe g b=>Y (World.alloc_heap_new _ _) (by
  match e with
  |0|1|2=>exact b
  |f+3=>simp[gW]at b)⟩
structure zj(l:Nat)(I:Int)(cv t:Value)(k:Nat)(F:List gG)(z:gG)(C G:Bool)(B:Value)(a:World):Prop where
 row:a.heap[l]?=QC.mk #[I,cv,if G=true then B else t] 84
 own0:C=false->a.ownsRow (l+1) 88 3 t k (F.flatMap gW)
 own1:C=true->a.ownsRow (l+1) 88 3 B (k+1) ((F++[z]).flatMap gW)
 val:C=true->∃e b,B=.slice (some ⟨e,0,none⟩) (k+1) b
 big:l<a.heap.size
section
variable {l k:Nat} {I:Int} {cv t B:Value} {F:List gG} {z:gG} {C G:Bool} {a K:World}
theorem zj.below(b:zj l I cv t k F z C G B a)(e:Below a a K):zj l I cv t k F z C G B K:=
 ⟨(e.block _ b.big).trans b.row,λf=>dM (b.own0 f) e,λf=>dM (b.own1 f) e,b.val,eJ b.big e.size⟩
theorem zj.cell(e:zj l I cv t k F z C G B a)(b:G=false):a.cell? (l,2)=some t:=Y e.row (by rw[b];rfl)
theorem zj.app(b:zj l I cv t k F z C G B a)(f:C=false)(h:G=false){g e:Nat}(n:K.ownsRow (l+1) 88 3 (.slice (g,0) (k+1) e) (k+1) ((F++[z]).flatMap gW))(j:fI a t K (.slice (g,0) (k+1) e)):
  zj l I cv t k F z true G (.slice (g,0) (k+1) e) K:=by
 have i:=b.row;rw[h]at i;refine⟨?_,(λf=>by cases f),λ_=>n,λ_=>⟨_,_,rfl⟩,eJ b.big j.1.size⟩;rw[h];exact(j.1.block _ b.big (λm=>pQ (b.own0 f) (a:=l) (.inr (pO _)) m.symm)).trans i
theorem zj.store(b:zj l I cv t k F z C G B a)(e:C=true)(h:G=false):zj l I cv t k F z C true B (a.setCell (l,2) B):=by
 have g:=b.row;rw[h]at g;refine⟨cK g 2 B,(λf=>by rw[e]at f;cases f),λ_=>nM (b.own1 e) (pO _) _,b.val,by simpa using b.big⟩
end
def KdI(b:World)(I:Int)(cv:Value)(e:List gG)(k:Nat)(a:World):Prop:=∃t,a.heap[b.heap.size]?=some (.cells #[.int .i64 I,cv,t] 84 (0,0)) /\
 a.ownsRow (b.heap.size+1) 88 3 t k (e.flatMap gW)/\Below b.heap.size b a
theorem Na(a:World):agR a (.agg #[(0:Int),(),()]) ⟨0,[],[]⟩:=
 ⟨_,_,rfl,aN.mk (by decide) (by decide),aM.nil _ _ _,ir.nil _ _ _⟩
theorem rl{h b f:Nat}{j:World}{s:Value}{i:TypeId}(p:Below h j a)(n:h<=b)(q:a.heap[b]?=QC.mk #[s] L)(r:a.heap[f]?=QC.mk o i)(m:f≠b)(g:Int):
  ∃e,e=a.setCell (b,0) g/\Below h j e/\e.heap[f]?=QC.mk o i/\e.cell? (b,0)=g:=
 ⟨_,rfl,p.setCell n _,(dJ _ _ _ _ m).trans r,Y (cK q 0 g) rfl⟩
theorem au3{e d:Nat}{h:TypeId}{f:Nat×Nat}(g:a.heap[e]?=some (.cells o h f))(b:a.cell? (e,d)=some c):o[d]?=some c:=by
 unfold World.cell? at b;simp only[g]at b;simpa using b
theorem aiy{f:V}(q:aM a c f)(x:∀z∈f,z≠0){g:Nat}{p:Nat×Nat}(E:a.heap[g]?=some (.cells M L p))(r:∀(d:Nat) (z:Int),M[d]?=some (Value.int .i64 z)->z=0)
   {y o:Nat} (m:c=.slice v y o) {j:Nat} (i:j<f.length) {h D:Nat} (n:v=(h,D)):h≠g:=by
 obtain⟨O,Q,b,-,-,-,w⟩:=q;rw[m]at b;simp only[dr]at b;obtain⟨rfl,-,-⟩:=b;obtain⟨P,H,e,u⟩:=w j i;rw[n]at e;simp only[tX,Cn]at e;obtain⟨rfl,rfl,-⟩:=e;intro s;subst s;exact x _ (bM i) (r _ _ (au3 E u))
theorem au4(d:Nat)(z:Int)(b:(#[(0:Int)]:Array Value)[d]?=z):z=0:=by
 match d with
 |0=>simp at b;omega
 |e+1=>simp at b
theorem au5(d:Nat)(z:Int)(b:(#[(0:Int),(),()]:Array Value)[d]?=z):z=0:=by
 match d with
 |0=>simp at b;omega
 |1=>simp at b
 |2=>simp at b
 |e+3=>simp at b
theorem aiz(e:V):∀z∈bt e,z≠0:=λz b=>by
 obtain⟨f,-,rfl⟩:=ey.1 b;have:=(fJ fO f).lo;omega
theorem aiA(z:Int)(b:aN z):nF (IntKind.i64.wrap (z-1)) 1073741788=ct z 1 1073741788:=by
 by_cases g:z=-9223372036854775808
 ·subst g;decide
 ·rw[jw _ (by have:=b.1;have:=b.2;omega)];unfold nF ct;have e:decide (0<=z-1)=decide (1<=z):=N7.2 (by omega);have f:decide (z-1<1073741788)=decide (z<=1073741788):=N7.2 (by omega);rw[e,f]
theorem au6(z:Int)(h:World)(f:aN z):Calls prog 75 #[z] h λg j=>g=.returned (.bool (BU z))/\h=j:=by
 have e:=A (show BU z=!nF (IntKind.i64.wrap (z-1)) 1073741788 by rw[aiA z f];rfl);clear f;obtain⟨b,i⟩:∃b,IntKind.i64.wrap (z-1)=b:=⟨_,rfl⟩;rw[i]at e;go_enter func75,ntmps75;go_wp2_with fail;with_reducible refine(JS b 1073741788 _).mono ?_
 rintro g m ⟨rfl,rfl⟩;go_wp2_with fail;go_ret;exact⟨cg e.1.symm,rfl⟩
theorem au7(i:World)(b:V)(g:∀z∈b,aN z):yl 75 #[] i BU b:=
 λz h j _=>(au6 z j (g z h)).mono λ_ _ ⟨f,e⟩=>⟨f,e▸aY _ _⟩
theorem au8:eQ prog 75:=iw func75 (by kernel_rfl) rfl
structure au9(S:World)(l y D q r R O j m x u n p Q P k i:Nat)(s E w H h g:Int)(cv t:Value)(F:List gG)(e:Nat->Bool)(c:Nat->Value)(f:World):Prop where
 b:Below l S f
 f0:KQ e c 0 (l,2)
 f1:KQ e c 1 t
 f2:KQ e c 2 (.slice (q,r) R O)
 f3:KQ e c 3 k
 f4:KQ e c 4 (q,r+k)
 f5:KQ e c 5 E
 f6:KQ e c 6 (.slice (n,p) Q P)
 f7:KQ e c 7 (y,1)
 f8:KQ e c 8 (.slice (j,m) x u)
 f9:KQ e c 9 k
 f10:KQ e c 10 (j,m+k)
 f11:KQ e c 11 i
 f12:KQ e c 12 (n,p+i)
 f13:KQ e c 13 w
 f14:KQ e c 14 s
 f15:KQ e c 15 k
 f16:KQ e c 16 (D,1)
 f17:KQ e c 17 H
 f18:KQ e c 18 (.tuple #[.agg #[k,h,g],(0:Int)])
 f19:KQ e c 19 (.agg #[k,h,g])
 f20:KQ e c 20 (0:Int)
 f21:KQ e c 21 (.agg #[k,h,g])
 f22:e 22=true->e 23=false->J3 f (c 22) ((k:Int),h,g)
 f24:KQ e c 24 (l,2)
 bx:zj l s cv t k F ((k:Int),h,g) (e 23) (e 25) (c 23) f
 zc:e 23=false->(f.cell? (q,r+k)=E/\f.cell? (y,1)=some (.slice (j,m) x u)/\f.cell? (j,m+k)=i/\f.cell? (n,p+i)=w/\f.cell? (D,1)=H)
def ava(f:Nat)(e:World)(c:Value):Prop:=∃g cv pv,c=.agg #[g,cv,pv]/\dS e 3 cv/\dS e 88 pv/\∀b,cv.ownBlock=some b->f<=b
def avb(f:Int)(g:bD)(b:World)(h:Ending)(e:World):Prop:=∃c,h=.returned (.tuple #[c,.int .i64 f])/\agR e c g/\Below b.heap.size b e/\(f=0->ava b.heap.size e c)
theorem avc(rv ov kv mv uv:Value)(rows:ak)(ae keys:V)(dealer x:Int)(aQ us:V)(w:World)(hG:gz w)(hR:bI w rv rows)(hO:aM w ov ae)(hK:aM w kv keys)(hd:aN dealer)(hx:aN x)(hM:aM w mv aQ)(hU:aM w uv us):
  Calls prog 28 #[.agg #[rv,ov],kv,.int .i64 dealer,.int .i64 x,mv,uv] w (avb (JR rows ae keys dealer x aQ us) (sG rows ae keys dealer x aQ us) w):=by
 obtain⟨W0,dx,bO,cF,-⟩:=ee w rv ov 25;have fl:W0.heap.size=w.heap.size+1:=by rw[dx];simp
 obtain⟨W1,aE,au,aI,bX⟩:=C4 W0 (.int .i64 0) (.slice none 0 0) (.slice none 0 0) 84;obtain⟨W3,dV⟩:∃W,W=W1.alloc (.cells #[.int .i64 0] 29):=⟨_,rfl⟩;have aJ:Below W1.heap.size W1 W3:=by rw[dV];exact bk _ _ _
 have dX:W3.heap[W1.heap.size]?=some (.cells #[.int .i64 0] 29 (0,0)):=by rw[dV];exact World.alloc_heap_new _ _
 have Au:=bO.trans (au.mono bO.size);have hb:Below w.heap.size w W3:=Au.trans (aJ.mono Au.size);have e2:W1.heap.size=w.heap.size+1+1:=by omega
 rw[fl]at aI;rw[e2]at dX;have Q1:=A ((au.trans (aJ.mono au.size)).block _ (bG cF) |>.trans cF);have QD:=A (aJ.block _ (bG aI) |>.trans aI);have QE:=A dX;have HG:=A (hG.below hb);have HR:=A (hR.below hb);have HO:=A (hO.below hb);have HK:=A (hK.below hb);have HM:=A (hM.below hb);have HU:=A (hU.below hb);obtain⟨a1,k1,rfl,-,eI,-⟩:=id hR;obtain⟨a2,k2,rfl,-,dR,-⟩:=id hO;obtain⟨a3,k6,rfl,-,gC,aiB,-⟩:=id hK;obtain⟨a4,k4,rfl,-,fj,-⟩:=id hM;obtain⟨a5,k5,rfl,-,xt,gD,-⟩:=id hU;rw[aE,dx]at dV;have HW:=A dV;have HB:=A hb;have HN:=A (And.intro hd (And.intro hx (And.intro gD aiB)));have c0:=Y Q1.1 (k:=0) (d:=.slice a1 rows.length k1) rfl;have c1:=Y Q1.1 (k:=1) (d:=.slice a2 ae.length k2) rfl;clear hG hR hO hK hM hU hb bO au aJ Au cF aI dX dx aE dV fl bX e2 hd hx gD aiB;have hmf:∀(fn:Fn) (first cap:Array Value) (w:World),(Instr.makeFunc fn first cap).run prog w=.ok (.func fn first cap) w:=λ_ _ _ _=>rfl;obtain⟨ME,mW⟩:∃z,z=JR rows ae keys dealer x aQ us:=⟨_,rfl⟩;obtain⟨MD,hMD⟩:∃z,z=sG rows ae keys dealer x aQ us:=⟨_,rfl⟩;rw[<-mW,<-hMD];have HE:Hid (ME=JR rows ae keys dealer x aQ us):=A mW;have Rn:Hid (MD=if ME=0 then ⟨dealer,bt (x::aQ),vH rows ae keys dealer us (x::aQ) rows.length⟩ else ⟨0,[],[]⟩):=A (by rw[hMD,mW];rfl);have jc:Hid (∀q,ME=q->q≠0->MD=⟨0,[],[]⟩):=A (λq h hq=>by rw[Rn.1,if_neg (by rw[h];exact hq)]);clear mW hMD;unfold JR at HE;go_enter_defers func28,ntmps28;go_wp2_with (rw[<-HW.1]);clear HW;with_reducible refine(sW _ _ rows ae _ HR.1 HO.1).mono ?_
 rintro e w4 ⟨rfl,aU⟩;replace c0:=U aU c0;replace c1:=U aU c1;replace HG:=A (HG.1.below aU);replace HR:=A (HR.1.below aU);replace HO:=A (HO.1.below aU);replace HK:=A (HK.1.below aU);replace HM:=A (HM.1.below aU);replace HU:=A (HU.1.below aU);replace Q1:=A ((aU.block _ (bG Q1.1)).trans Q1.1);replace QD:=A ((aU.block _ (bG QD.1)).trans QD.1);replace QE:=A ((aU.block _ (bG QE.1)).trans QE.1);replace HB:=A (HB.1.trans (aU.mono HB.1.size));clear aU;by_cases hp:bH rows ae=0;rotate_left
 ·have HV:=A (HE.1.trans (if_pos hp));have kJ:=A hp;clear hp HE;generalize bH rows ae=q at *;go_wp2_with fail;with_reducible refine(Q9 0 q _ kJ.1).mono ?_
  rintro e w5 ⟨rfl,rfl⟩;refine leaves_cons (f:=69) (args:=#[.pointer (some ⟨w.heap.size+1+1,0,none⟩)]) (by simp) (by simp[go_sem]) ?_;refine(MY ⟨w.heap.size+1+1,0,none⟩ 0 q [] _ (Y QE.1 rfl) (cB QE.1 0)).mono ?_;rintro e u' eN ⟨rfl,rfl,rfl⟩;obtain⟨Wf,fY,fD,iC,eX⟩:=rl HB.1 (show w.heap.size<=w.heap.size+1+1 by omega) QE.1 QD.1 (show w.heap.size+1≠w.heap.size+1+1 by omega) q;have y0:=Y iC (k:=0) (d:=.int .i64 0) rfl;have y1:=Y iC (k:=1) (d:=.slice none 0 0) rfl;have y2:=Y iC (k:=2) (d:=.slice none 0 0) rfl;rw[<-fY];simp[Leaves,settle,results,results28,go_sem,eX,y0,y1,y2];exact⟨_,by rw[HV.1],by rw[jc.1 _ HV.1 kJ.1];exact Na _,fD,λh0=>absurd (HV.1.symm.trans h0) kJ.1⟩
 replace HE:=A (HE.1.trans (if_neg (by simp[hp])));have eT:=A (fs hp);have vh:=A hp;rw[hp];clear hp;go_wp2_with fail;with_reducible refine(JT 0 _).mono ?_
 rintro e w5 ⟨rfl,rfl⟩;go_wp2_with fail;with_reducible refine(ah4 _ _ _ ae keys _ ⟨_,_,_,rfl⟩ HO.1 HK.1 (λo h=>(eT.1.own o h).1)).mono ?_
 rintro e w5 ⟨rfl,aG⟩;replace c0:=U aG c0;replace c1:=U aG c1;replace HG:=A (HG.1.below aG);replace HR:=A (HR.1.below aG);replace HO:=A (HO.1.below aG);replace HK:=A (HK.1.below aG);replace HM:=A (HM.1.below aG);replace HU:=A (HU.1.below aG);replace Q1:=A ((aG.block _ (bG Q1.1)).trans Q1.1);replace QD:=A ((aG.block _ (bG QD.1)).trans QD.1);replace QE:=A ((aG.block _ (bG QE.1)).trans QE.1);replace HB:=A (HB.1.trans (aG.mono HB.1.size));clear aG;cases nE:AE ae keys with
 |false =>
  have HV:=A (HE.1.trans (if_pos nE));clear nE HE;go_wp2_with fail;with_reducible refine(vI 370 _ (by decide)).mono ?_
  rintro e w6 ⟨rfl,rfl⟩;refine leaves_cons (f:=69) (args:=#[.pointer (some ⟨w.heap.size+1+1,0,none⟩)]) (by simp) (by simp[go_sem]) ?_;refine(MY ⟨w.heap.size+1+1,0,none⟩ 0 370 [] _ (Y QE.1 rfl) (cB QE.1 0)).mono ?_;rintro e u' eN ⟨rfl,rfl,rfl⟩;obtain⟨Wf,fY,fD,iC,eX⟩:=rl HB.1 (show w.heap.size<=w.heap.size+1+1 by omega) QE.1 QD.1 (show w.heap.size+1≠w.heap.size+1+1 by omega) 370;have y0:=Y iC (k:=0) (d:=.int .i64 0) rfl;have y1:=Y iC (k:=1) (d:=.slice none 0 0) rfl;have y2:=Y iC (k:=2) (d:=.slice none 0 0) rfl;rw[<-fY];simp[Leaves,settle,results,results28,go_sem,eX,y0,y1,y2];exact⟨_,by rw[HV.1],by rw[jc.1 _ HV.1 (by decide)];exact Na _,fD,λh0=>absurd (HV.1.symm.trans h0) (by decide)⟩
 |true =>
 replace HE:=A (HE.1.trans (if_neg (by rw[nE];decide)));have vN:=A (QY.1 nE);clear nE;go_wp2_with fail;with_reducible refine(zd 370 _).mono ?_
 rintro e w6 ⟨rfl,rfl⟩;have iV:=A (λw=>JS dealer 64 w);rw[show nF dealer 64=ct dealer 0 63 by have:=VF (n:=dealer) (b:=63);simpa using this]at iV;go_wp2_with fail;with_reducible refine(iV.1 _).mono ?_
 rintro e w6 ⟨rfl,rfl⟩;clear iV;cases xG:ct dealer 0 63 with
 |false =>
  have HV:=A (HE.1.trans (if_pos xG));clear xG HE;go_wp2_with fail;with_reducible refine(vI 1 _ (by decide)).mono ?_
  rintro e w6 ⟨rfl,rfl⟩;refine leaves_cons (f:=69) (args:=#[.pointer (some ⟨w.heap.size+1+1,0,none⟩)]) (by simp) (by simp[go_sem]) ?_;refine(MY ⟨w.heap.size+1+1,0,none⟩ 0 1 [] _ (Y QE.1 rfl) (cB QE.1 0)).mono ?_;rintro e u' eN ⟨rfl,rfl,rfl⟩;obtain⟨Wf,fY,fD,iC,eX⟩:=rl HB.1 (show w.heap.size<=w.heap.size+1+1 by omega) QE.1 QD.1 (show w.heap.size+1≠w.heap.size+1+1 by omega) 1;have y0:=Y iC (k:=0) (d:=.int .i64 0) rfl;have y1:=Y iC (k:=1) (d:=.slice none 0 0) rfl;have y2:=Y iC (k:=2) (d:=.slice none 0 0) rfl;rw[<-fY];simp[Leaves,settle,results,results28,go_sem,eX,y0,y1,y2];exact⟨_,by rw[HV.1],by rw[jc.1 _ HV.1 (by decide)];exact Na _,fD,λh0=>absurd (HV.1.symm.trans h0) (by decide)⟩
 |true =>
 replace HE:=A (HE.1.trans (if_neg (by rw[xG];decide)));have Fb:=A (jo.1 xG);clear xG;go_wp2_with fail;with_reducible refine(zd 1 _).mono ?_
 rintro e w6 ⟨rfl,rfl⟩;go_wp2_with fail;by_cases Df:mo rows ae x aQ=0;rotate_left
 ·have HV:=A (HE.1.trans (if_pos Df));have kJ:=A Df;with_reducible refine(afw _ _ _ rows ae x aQ _ HR.1 HO.1 HM.1 HN.1.2.1 kJ.1).mono ?_
  rintro e w6 ⟨rfl,aF⟩;replace c0:=U aF c0;replace c1:=U aF c1;replace HG:=A (HG.1.below aF);replace HR:=A (HR.1.below aF);replace HO:=A (HO.1.below aF);replace HK:=A (HK.1.below aF);replace HM:=A (HM.1.below aF);replace HU:=A (HU.1.below aF);replace Q1:=A ((aF.block _ (bG Q1.1)).trans Q1.1);replace QD:=A ((aF.block _ (bG QD.1)).trans QD.1);replace QE:=A ((aF.block _ (bG QE.1)).trans QE.1);replace HB:=A (HB.1.trans (aF.mono HB.1.size));clear aF;clear Df HE;generalize mo rows ae x aQ=q at *;go_wp2_with fail;with_reducible refine(Q9 0 q _ kJ.1).mono ?_
  rintro e w7 ⟨rfl,rfl⟩;refine leaves_cons (f:=69) (args:=#[.pointer (some ⟨w.heap.size+1+1,0,none⟩)]) (by simp) (by simp[go_sem]) ?_;refine(MY ⟨w.heap.size+1+1,0,none⟩ 0 q [] _ (Y QE.1 rfl) (cB QE.1 0)).mono ?_;rintro e u' eN ⟨rfl,rfl,rfl⟩;obtain⟨Wf,fY,fD,iC,eX⟩:=rl HB.1 (show w.heap.size<=w.heap.size+1+1 by omega) QE.1 QD.1 (show w.heap.size+1≠w.heap.size+1+1 by omega) q;have y0:=Y iC (k:=0) (d:=.int .i64 0) rfl;have y1:=Y iC (k:=1) (d:=.slice none 0 0) rfl;have y2:=Y iC (k:=2) (d:=.slice none 0 0) rfl;rw[<-fY];simp[Leaves,settle,results,results28,go_sem,eX,y0,y1,y2];exact⟨_,by rw[HV.1],by rw[jc.1 _ HV.1 kJ.1];exact Na _,fD,λh0=>absurd (HV.1.symm.trans h0) kJ.1⟩
 replace HE:=A (HE.1.trans (if_neg (by simp[Df])));have iD:=A (Zt Df);clear Df;have VR:=A HB.1.size;with_reducible refine(aaZ _ _ _ rows ae x aQ _ HR.1 HO.1 HM.1 iD.1 vh.1).mono ?_
 rintro e w6 ⟨lv,cv,rfl,⟨qN,-⟩,⟨ew,JI⟩,rU,aF⟩;replace c0:=U aF c0;replace c1:=U aF c1;replace HG:=A (HG.1.below aF);replace HR:=A (HR.1.below aF);replace HO:=A (HO.1.below aF);replace HK:=A (HK.1.below aF);replace HM:=A (HM.1.below aF);replace HU:=A (HU.1.below aF);replace Q1:=A ((aF.block _ (bG Q1.1)).trans Q1.1);replace QD:=A ((aF.block _ (bG QD.1)).trans QD.1);replace QE:=A ((aF.block _ (bG QE.1)).trans QE.1);replace HB:=A (HB.1.trans (aF.mono HB.1.size));clear aF;have E4:=A (λb hb=>Nat.le_trans VR.1 (rU b hb));clear rU VR;obtain⟨al,cl,rfl,vO⟩:∃al cl,lv=.slice al rows.length cl/\fK w6 (.slice al rows.length cl) (bV rows (x::aQ)):=by
  obtain⟨al,cl,e1,-⟩:=id qN;rw[ju]at e1;exact⟨al,cl,e1,by rw[<-e1];exact qN⟩
 have il:=A vO;have ql:=A ew;obtain⟨ac,nc,cc,rfl⟩:∃a n c,cv=.slice a n c:=by
  obtain⟨a,c,e1,-⟩:=id ew;exact⟨_,_,_,e1⟩
 have tM:=A JI;clear qN vO ew JI;obtain⟨s,hs⟩:∃s,s=x::aQ:=⟨_,rfl⟩;rw[<-hs]at il ql Rn;clear hs;go_wp2_with fail;with_reducible refine(JT 0 _).mono ?_
 rintro e w7 ⟨rfl,rfl⟩;by_cases Nb:us.length=rows.length;rotate_left
 ·have HV:=A (HE.1.trans (if_pos (.inl Nb)));have x1:((us.length:Int)==(rows.length:Int))=false:=beq_eq_false_iff_ne.2 (by omega);have x2:(us.length==rows.length)=false:=beq_eq_false_iff_ne.2 Nb;clear Nb HE;go_wp2_with fail;with_reducible refine(vI 1 _ (by decide)).mono ?_
  rintro e w7 ⟨rfl,rfl⟩;refine leaves_cons (f:=69) (args:=#[.pointer (some ⟨w.heap.size+1+1,0,none⟩)]) (by simp) (by simp[go_sem]) ?_;refine(MY ⟨w.heap.size+1+1,0,none⟩ 0 1 [] _ (Y QE.1 rfl) (cB QE.1 0)).mono ?_;rintro e u' eN ⟨rfl,rfl,rfl⟩;obtain⟨Wf,fY,fD,iC,eX⟩:=rl HB.1 (show w.heap.size<=w.heap.size+1+1 by omega) QE.1 QD.1 (show w.heap.size+1≠w.heap.size+1+1 by omega) 1;have y0:=Y iC (k:=0) (d:=.int .i64 0) rfl;have y1:=Y iC (k:=1) (d:=.slice none 0 0) rfl;have y2:=Y iC (k:=2) (d:=.slice none 0 0) rfl;rw[<-fY];simp[Leaves,settle,results,results28,go_sem,eX,y0,y1,y2];exact⟨_,by rw[HV.1],by rw[jc.1 _ HV.1 (by decide)];exact Na _,fD,λh0=>absurd (HV.1.symm.trans h0) (by decide)⟩
 have x1:((us.length:Int)==(rows.length:Int))=true:=beq_iff_eq.2 (by omega);have x2:(us.length==rows.length)=true:=beq_iff_eq.2 Nb;have HUL:=A Nb;have ji:=A (wx 75 #[] BU _ us w6 HU.1 au8 (au7 _ _ HN.1.2.2.1));cases J4:us.any BU with
 |true =>
  have HV:=A (HE.1.trans (if_pos (.inr J4)));rw[J4]at ji;clear Nb J4 HE;go_wp2_with fail;with_reducible refine ji.1.mono ?_
  rintro e w7 ⟨rfl,bz⟩;replace c0:=U bz c0;replace c1:=U bz c1;replace HG:=A (HG.1.below bz);replace HR:=A (HR.1.below bz);replace HO:=A (HO.1.below bz);replace HK:=A (HK.1.below bz);replace HM:=A (HM.1.below bz);replace HU:=A (HU.1.below bz);replace il:=A (il.1.below bz);replace ql:=A (ql.1.below bz);replace tM:=A (tM.1.below bz);replace Q1:=A ((bz.block _ (bG Q1.1)).trans Q1.1);replace QD:=A ((bz.block _ (bG QD.1)).trans QD.1);replace QE:=A ((bz.block _ (bG QE.1)).trans QE.1);replace HB:=A (HB.1.trans (bz.mono HB.1.size));clear bz;go_wp2_with fail;with_reducible refine(vI 1 _ (by decide)).mono ?_
  rintro e w8 ⟨rfl,rfl⟩;refine leaves_cons (f:=69) (args:=#[.pointer (some ⟨w.heap.size+1+1,0,none⟩)]) (by simp) (by simp[go_sem]) ?_;refine(MY ⟨w.heap.size+1+1,0,none⟩ 0 1 [] _ (Y QE.1 rfl) (cB QE.1 0)).mono ?_;rintro e u' eN ⟨rfl,rfl,rfl⟩;obtain⟨Wf,fY,fD,iC,eX⟩:=rl HB.1 (show w.heap.size<=w.heap.size+1+1 by omega) QE.1 QD.1 (show w.heap.size+1≠w.heap.size+1+1 by omega) 1;have y0:=Y iC (k:=0) (d:=.int .i64 0) rfl;have y1:=Y iC (k:=1) (d:=.slice none 0 0) rfl;have y2:=Y iC (k:=2) (d:=.slice none 0 0) rfl;rw[<-fY];simp[Leaves,settle,results,results28,go_sem,eX,y0,y1,y2];exact⟨_,by rw[HV.1],by rw[jc.1 _ HV.1 (by decide)];exact Na _,fD,λh0=>absurd (HV.1.symm.trans h0) (by decide)⟩
 |false =>
 have HV:Hid (ME=0):=A (HE.1.trans (if_neg (by rw[J4];simp[Nb])));have Fh:Hid (∀u∈us,1<=u/\u<=1073741788):=A (λu hm=>by
  have h:=List.any_eq_false.1 J4 u hm;unfold BU at h;exact jo.1 (by simpa using h))
 replace Rn:=A (Rn.1.trans (if_pos HV.1));rw[J4]at ji;clear J4 Nb HE jc;go_wp2_with fail;with_reducible refine ji.1.mono ?_
 rintro e w8 ⟨rfl,bg⟩;clear ji;replace c0:=U bg c0;replace c1:=U bg c1;replace HG:=A (HG.1.below bg);replace HR:=A (HR.1.below bg);replace HO:=A (HO.1.below bg);replace HK:=A (HK.1.below bg);replace HM:=A (HM.1.below bg);replace HU:=A (HU.1.below bg);replace il:=A (il.1.below bg);replace ql:=A (ql.1.below bg);replace tM:=A (tM.1.below bg);replace Q1:=A ((bg.block _ (bG Q1.1)).trans Q1.1);replace QD:=A ((bg.block _ (bG QD.1)).trans QD.1);replace QE:=A ((bg.block _ (bG QE.1)).trans QE.1);replace HB:=A (HB.1.trans (bg.mono HB.1.size));clear bg;go_wp2_with fail;with_reducible refine(zd 1 _).mono ?_
 rintro e w9 ⟨rfl,rfl⟩;clear x1 x2;obtain⟨W5,dk,aG,gD,rQ⟩:=C4 w8 (.int .i64 dealer) (.slice ac nc cc) (.slice none 0 0) 84;have Fi:Hid (KdI w8 dealer (.slice ac nc cc) (vH rows ae keys dealer us s 0) 0 W5):=A ⟨_,gD,World.ownsRow_nil _ _ _ _,aG⟩;have gX:=A dk;clear dk aG gD rQ;go_wp2_with (rw[<-gX.1]);have jD:=Fi.1;clear Fi gX;go_loopw[19,20,59] (λ_ _ i W=>∃k:Nat,k<=rows.length/\i=.int .i64 k/\KdI w8 dealer (.slice ac nc cc) (vH rows ae keys dealer us s k) k W) (λ_ _ i _=>rows.length-(intOf i).toNat);case atStart=>exact⟨0,Nat.zero_le _,rfl,jD⟩
 case round =>
  clear jD;obtain⟨k,dg,rfl,L,da,bo,hb⟩:=hrel;have pS:=eT.1.few;obtain⟨a9,n9,k9,rfl⟩:=asa bo;by_cases aq:k<rows.length
  ·have VS:k<us.length:=by rw[HUL.1];exact aq
   have wI:k<ae.length:=by rw[<-eT.1.len];exact aq
   obtain⟨lb,lo,ea,l0,l1⟩:=aud (il.1.below hb) (k:=k) (by rw[ju];exact aq);subst ea;rw[GI rows s (by rw[ju];exact aq)]at l0 l1;obtain⟨ub,uo,ea,qu⟩:=ints_at (HU.1.below hb) VS;subst ea;obtain⟨ob,oo,ea,qo⟩:=ints_at (HO.1.below hb) wI;subst ea;have hoN:=eT.1.own _ (List.getElem_mem wI);obtain⟨sZ,JW⟩:=vN.1.key (λo h=>(eT.1.own o h).1) wI;obtain⟨m,hm⟩:∃m:Nat,ae[k]=(m:Int):=⟨ae[k].toNat,by omega⟩;have JX:(J ae k).toNat=m:=by rw[di wI,hm];rfl
   rw[JX]at sZ;obtain⟨kb,ko,ea,qk⟩:=ints_at (HK.1.below hb) sZ;subst ea;have tJ:keyOf ae keys k=keys[m]:=by unfold keyOf;rw[JX,di sZ]
   rw[tJ]at JW;have hu1:=Fh.1 _ (List.getElem_mem VS);have DU:J us k=us[k]:=di VS;rw[hm]at qo;have DY:=n6 (rows.getD k []) s;have Nc:QZ rows ae keys dealer us s k=((k:Int),bm 4 us[k],sy us[k] keys[m] dealer (k:Int) (cz (rows.getD k []) s)):=by unfold QZ;rw[DU,tJ]
   replace l0:wr.cell? ⟨lb,lo+k*2,none⟩=some (.int .i64 (k:Int)):=l0;replace l1:wr.cell? ⟨lb,lo+k*2+1,none⟩=some (.int .i64 (cz (rows.getD k []) s)):=l1;obtain⟨u,hu⟩:∃u,u=us[k]:=⟨_,rfl⟩;obtain⟨key,Ro⟩:∃u,u=keys[m]:=⟨_,rfl⟩;obtain⟨vv,Nd⟩:∃u,u=cz (rows.getD k []) s:=⟨_,rfl⟩;rw[<-hu]at qu hu1 Nc;rw[<-Ro]at qk JW Nc;rw[<-Nd]at l1 DY Nc;clear hu Ro Nd tJ DU JX hm hoN;have Av:Hid (aas u key dealer (k:Int) vv):=A ⟨hu1,JW,Fb.1,by omega,by omega⟩;obtain⟨pt,iX⟩:∃z,z=bm 4 u:=⟨_,rfl⟩;obtain⟨ci,xH⟩:∃z,z=sy u key dealer (k:Int) vv:=⟨_,rfl⟩;rw[<-iX,<-xH]at Nc;have HSK:=A Nc;obtain⟨W6,cH⟩:∃W6,W6=wr.alloc (.cells #[.int .i64 (k:Int),.int .i64 vv] 66):=⟨_,rfl⟩;have aF:Below wr.heap.size wr W6:=by rw[cH];exact bk _ _ _
   have ij:W6.heap[wr.heap.size]?=some (.cells #[.int .i64 (k:Int),.int .i64 vv] 66 (0,0)):=by rw[cH];exact World.alloc_heap_new _ _
   have s1:=Y ij (k:=1) (d:=.int .i64 vv) rfl;have eG:=hb.trans (aF.mono hb.size);have gb:w8.heap.size<wr.heap.size:=bG da;have jt:Hid (∀v8,zj w8.heap.size dealer (.slice ac nc cc) (.slice a9 n9 k9) k (vH rows ae keys dealer us s k) ((k:Int),pt,ci) false false v8 W6.drew):=A (λv8 =>
    ⟨(aF.block _ gb).trans da,λ_=>(dM bo aF).drew,(λe=>by cases e),(λe=>by cases e),Nat.lt_of_lt_of_le gb aF.size⟩)
   have Rp:Hid (W6.drew.cell? ⟨ub,uo+k,none⟩=some (.int .i64 u)/\W6.drew.cell? ⟨w.heap.size,1,none⟩=some (.slice (some ⟨ob,oo,none⟩) ae.length k2)/\W6.drew.cell? ⟨ob,oo+k,none⟩=some (.int .i64 (m:Int))/\W6.drew.cell? ⟨kb,ko+m,none⟩=some (.int .i64 key)/\W6.drew.cell? ⟨wr.heap.size,1,none⟩=some (.int .i64 vv)):=
    A ⟨U aF qu,U eG c1,U aF qo,U aF qk,s1⟩
   have HSQ:Hid (∀W,Below w8.heap.size W6 W->Calls prog 77 #[.int .i64 u,.int .i64 key,.int .i64 dealer,.int .i64 (k:Int),.int .i64 vv] W λr w'=>r=.returned (.tuple #[.agg #[.int .i64 (k:Int),.int .i64 pt,.int .i64 ci],.int .i64 0])/\Below W.heap.size W w'):=A (λW hq=>by
    rw[iX,xH];exact arQ u key dealer (k:Int) vv W Av.1 (HG.1.below (eG.trans hq)))
   have J5:=A (λW=>atO (k:Int) pt ci W);have Fj:Hid (k<=1000000):=A (by omega);have Gz:=A eG;have fR:=A cH;have i0:(0:Int)<=(k:Int):=Int.natCast_nonneg k;have i1:(k:Int)<(us.length:Int):=by omega
   have i2:(k:Int)<(ae.length:Int):=by omega
   have i3:(0:Int)<=(m:Int):=Int.natCast_nonneg m;have i4:(m:Int)<(keys.length:Int):=by omega
   have i5:(k:Int)<(rows.length:Int):=by omega
   clear iX xH Nc cH ij aF eG gb qu qo qk s1 JW hu1 DY VS wI sZ bo da hb pS;go_wp2_with (rw[<-fR.1]);refine nW (au9 W6 w8.heap.size w.heap.size wr.heap.size ub uo us.length k5 ob oo ae.length k2 kb ko keys.length k6 k m dealer u key vv pt ci (.slice ac nc cc) (.slice a9 n9 k9) (vH rows ae keys dealer us s k)) (λv=>?_) ?_ (λv W h=>?_)
   ·exact⟨(Below.refl _ _).drew,(λh=>by cases h),(λh=>by cases h),(λh=>by cases h),(λh=>by cases h),(λh=>by cases h),(λh=>by cases h),(λh=>by cases h),(λh=>by cases h),(λh=>by cases h),(λh=>by cases h),(λh=>by cases h),(λh=>by cases h),(λh=>by cases h),(λh=>by cases h),(λh=>by cases h),(λh=>by cases h),(λh=>by cases h),(λh=>by cases h),(λh=>by cases h),(λh=>by cases h),(λh=>by cases h),(λh=>by cases h),(λh=>by cases h),(λh=>by cases h),jt.1 _,(λ_=>Rp.1)⟩
   ·refine⟨?_,?_,?_,?_,?_,?_,?_,?_,?_,?_,?_,?_,?_,?_,?_,?_,?_,?_,?_,?_,?_,?_,?_,?_,?_,?_,trivial⟩;all_goals intro dn v W A h q
    ·have e0:=q.b 18 (.pointer (some ⟨w8.heap.size,0,none⟩));clear q;go_simp;exact⟨_,rfl,{h with f0:=aB}⟩
    ·have e0:=q.e 0 64 h.f0;have cJ:=h.bx.cell (q.n 25);clear q;go_simp;exact⟨_,rfl,{h with f1:=aB}⟩
    ·have e0:=q.b 5 (.slice (some ⟨ub,uo,none⟩) us.length k5);clear q;go_simp;exact⟨_,rfl,{h with f2:=aB}⟩
    ·have e0:=q.b 19 (.int .i64 (k:Int));clear q;go_simp;exact⟨_,rfl,{h with f3:=aB}⟩
    ·have e0:=q.e 2 66 h.f2;have e1:=q.e 3 67 h.f3;clear q;go_simp;exact⟨_,rfl,{h with f4:=aB}⟩
    ·have avd:dn 23=false:=rX (λhj=>q.hu 18 5 rfl (q.hu 21 18 rfl (q.hu 23 21 rfl (hj)))) q.hd;have e0:=q.e 4 68 h.f4;have cJ:=(h.zc avd).1;clear q;go_simp;exact⟨_,rfl,{h with f5:=aB}⟩
    ·have e0:=q.b 1 (.slice (some ⟨kb,ko,none⟩) keys.length k6);clear q;go_simp;exact⟨_,rfl,{h with f6:=aB}⟩
    ·have e0:=q.b 6 (.pointer (some ⟨w.heap.size,0,none⟩));clear q;go_simp;exact⟨_,rfl,{h with f7:=aB}⟩
    ·have ave:dn 23=false:=rX (λhj=>q.hu 10 8 rfl (q.hu 11 10 rfl (q.hu 12 11 rfl (q.hu 13 12 rfl (q.hu 18 13 rfl (q.hu 21 18 rfl (q.hu 23 21 rfl (hj)))))))) q.hd;have e0:=q.e 7 71 h.f7;have cJ:=(h.zc ave).2.1;clear q;go_simp;exact⟨_,rfl,{h with f8:=aB}⟩
    ·have e0:=q.b 19 (.int .i64 (k:Int));clear q;go_simp;exact⟨_,rfl,{h with f9:=aB}⟩
    ·have e0:=q.e 8 72 h.f8;have e1:=q.e 9 73 h.f9;clear q;go_simp;exact⟨_,rfl,{h with f10:=aB}⟩
    ·have avf:dn 23=false:=rX (λhj=>q.hu 12 11 rfl (q.hu 13 12 rfl (q.hu 18 13 rfl (q.hu 21 18 rfl (q.hu 23 21 rfl (hj)))))) q.hd;have e0:=q.e 10 74 h.f10;have cJ:=(h.zc avf).2.2.1;clear q;go_simp;exact⟨_,rfl,{h with f11:=aB}⟩
    ·have e0:=q.e 6 70 h.f6;have e1:=q.e 11 75 h.f11;clear q;go_simp;exact⟨_,rfl,{h with f12:=aB}⟩
    ·have avg:dn 23=false:=rX (λhj=>q.hu 18 13 rfl (q.hu 21 18 rfl (q.hu 23 21 rfl (hj)))) q.hd;have e0:=q.e 12 76 h.f12;have cJ:=(h.zc avg).2.2.2.1;clear q;go_simp;exact⟨_,rfl,{h with f13:=aB}⟩
    ·have e0:=q.b 2 (.int .i64 dealer);clear q;go_simp;exact⟨_,rfl,{h with f14:=aB}⟩
    ·have e0:=q.b 19 (.int .i64 (k:Int));clear q;go_simp;exact⟨_,rfl,{h with f15:=aB}⟩
    ·have e0:=q.b 20 (.pointer (some ⟨wr.heap.size,0,none⟩));clear q;go_simp;exact⟨_,rfl,{h with f16:=aB}⟩
    ·have avh:dn 23=false:=rX (λhj=>q.hu 18 17 rfl (q.hu 21 18 rfl (q.hu 23 21 rfl (hj)))) q.hd;have e0:=q.e 16 80 h.f16;have cJ:=(h.zc avh).2.2.2.2;clear q;go_simp;exact⟨_,rfl,{h with f17:=aB}⟩
    ·have e0:=q.e 5 69 h.f5;have e1:=q.e 13 77 h.f13;have e2:=q.e 14 78 h.f14;have e3:=q.e 15 79 h.f15;have e4:=q.e 17 81 h.f17;clear q;go_simp;with_reducible refine(HSQ.1 W h.b).mono ?_
     rintro e wq ⟨rfl,hb⟩;exact⟨_,rfl,{h with b:=h.b.trans (hb.mono (Nat.le_of_lt h.bx.big)),f18:=aB,f22:=(λh1 h2=>(h.f22 h1 h2).below hb),bx:=(h.bx.below hb),zc:=((λh1=>⟨U hb (h.zc h1).1,U hb (h.zc h1).2.1,U hb (h.zc h1).2.2.1,U hb (h.zc h1).2.2.2.1,U hb (h.zc h1).2.2.2.2⟩))}⟩
    ·have e0:=q.e 18 82 h.f18;clear q;go_simp;exact⟨_,rfl,{h with f19:=aB}⟩
    ·have e0:=q.e 18 82 h.f18;clear q;go_simp;exact⟨_,rfl,{h with f20:=aB}⟩
    ·have e0:=q.e 19 83 h.f19;have e1:=q.e 20 84 h.f20;clear q;go_simp;with_reducible refine(J5.1 W).mono ?_
     rintro e wq ⟨rfl,hb⟩;exact⟨_,rfl,{h with b:=h.b.trans (hb.mono (Nat.le_of_lt h.bx.big)),f21:=aB,f22:=(λh1 h2=>(h.f22 h1 h2).below hb),bx:=(h.bx.below hb),zc:=((λh1=>⟨U hb (h.zc h1).1,U hb (h.zc h1).2.1,U hb (h.zc h1).2.2.1,U hb (h.zc h1).2.2.2.1,U hb (h.zc h1).2.2.2.2⟩))}⟩
    ·have e0:=q.e 21 85 h.f21;have hb:=bk W #[.int .i64 (k:Int),.int .i64 pt,.int .i64 ci] 88;clear q;go_simp;exact⟨_,rfl,{h with b:=h.b.trans (hb.mono (Nat.le_of_lt h.bx.big)),f22:=(λ_ _=>J3.new W ((k:Int),pt,ci)),bx:=(h.bx.below hb),zc:=((λh1=>⟨U hb (h.zc h1).1,U hb (h.zc h1).2.1,U hb (h.zc h1).2.2.1,U hb (h.zc h1).2.2.2.1,U hb (h.zc h1).2.2.2.2⟩))}⟩
    ·have m7:=h.f22 (q.d 22) q.hd;obtain⟨b7,c7,e7,zm⟩:=m7;have e1:=q.e 1 65 h.f1;have e2:=(q.E 22 86).trans e7;have ow:=h.bx.own0 q.hd;have jT:=h.bx.big;have oz:=h.bx;refine au2 rfl _ _ rfl (w8.heap.size+1) _ _ k e1 ow b7 c7 ((k:Int),pt,ci) e2 zm Fj.1 jT ?_;intro g uq wq8 h8 o8;have vP:=oz.app q.hd (q.n 25) h8 o8;exact⟨_,rfl,{h with b:=h.b.trans ((fH ow o8.1 jT).mono (Nat.le_succ _)),f22:=(λ_ h2=>absurd (show true=false from h2) (by decide)),bx:=(vP),zc:=((λh1=>by cases h1))}⟩
    ·have e0:=q.b 18 (.pointer (some ⟨w8.heap.size,0,none⟩));clear q;go_simp;exact⟨_,rfl,{h with f24:=aB}⟩
    ·have VT:=q.d 23;have oz:=h.bx;obtain⟨g8,c8,e8⟩:=oz.val VT;have e1:=q.e 24 88 h.f24;have e2:=(q.E 23 87).trans e8;have u3:=oz.cell q.hd;have g3:=cB oz.row 2;have Fk:=oz.store VT q.hd;clear q;go_simp;rw[<-e8];exact⟨undef,{h with b:=h.b.setCell (Nat.le_refl _) _,f22:=(λ_ h2=>absurd (VT.symm.trans h2) (by decide)),bx:=(Fk),zc:=((λh1=>absurd (VT.symm.trans h1) (by decide)))}⟩
   simp only[jG,Act.put,Nat.reduceAdd,List.setIfInBounds_toArray,List.set_cons_zero,List.set_cons_succ];have cA:=h.b;have fW:=h.bx;obtain⟨g8,c8,e8⟩:=fW.val rfl;have h1:=fW.row;rw[if_pos (by rfl),e8]at h1;have h2:=fW.own1 rfl;rw[e8,<-HSK.1,<-atE]at h2;have fq:Below w8.heap.size w8 W:=Gz.1.trans cA;have HN:Hid (KdI w8 dealer (.slice ac nc cc) (vH rows ae keys dealer us s (k+1)) (k+1) W):=A ⟨_,h1,h2,fq⟩;clear fW h1 h2 fq cA h;go_wp2_with fail;go_roundw;case rel=>exact⟨k+1,by omega,by go_num,HN.1⟩
   case measure=>simp[intOf];omega
  ·obtain rfl:k=rows.length:=by omega
   have dh:(vH rows ae keys dealer us s rows.length).length=rows.length:=ahX _ _ _ _ _ _ _;have avi:rows.length<=1000000:=by omega
   have hDl:w.heap.size+1+1<w8.heap.size:=bG QE.1;have fq:∀b o2,a9=some ⟨b,o2,none⟩->w8.heap.size<b:=by
    intro b o2 e9;rcases bo.2 with⟨h0,-⟩|⟨g',ue,cur,e1,hg,-⟩
    ·cases h0;cases e9
    ·simp only[Value.slice.injEq]at e1;rw[e1.1]at e9;simp only[Option.some.injEq,Addr.mk.injEq]at e9;omega
   have lQ:ir wr (.slice a9 n9 k9) (vH rows ae keys dealer us s rows.length):=ir.own bo (by
    intro p hp;obtain⟨i,hi,rfl⟩:=List.mem_map.1 hp;have hi:=List.mem_range.1 hi;exact⟨aN.mk (by show(-4611686018427387904:Int)<=(i:Int);omega) (by show(i:Int)<=4611686018427387904;omega),(fJ fO _).r64,dK (aau _ _ _ _ _)⟩) (by rw[dh];omega)
   have D2:=(hb.block _ (bG QD.1)).trans QD.1;have BZ:=(hb.block _ (bG QE.1)).trans QE.1;have hB9:=HB.1.trans (hb.mono HB.1.size);have ew:=ql.1.below hb;have JI:=tM.1.below hb;have iX:=dS.own bo;obtain⟨W9,ff⟩:∃W9,W9=(Fc wr (w.heap.size+1) (.int .i64 dealer) (.slice ac nc cc) (.slice a9 n9 k9)).setCell ⟨w.heap.size+1+1,0,none⟩ (.int .i64 0):=⟨_,rfl⟩;have hDE:w.heap.size+1≠w.heap.size+1+1:=by omega
   have aiC:W9.heap[w.heap.size+1]?=some (.cells #[.int .i64 dealer,.slice ac nc cc,.slice a9 n9 k9] 84 (0,0)):=by rw[ff,Below.heap_setCell _ _ _ _ hDE];exact aua _ _ _ _ D2
   have aiD:W9.heap[w.heap.size+1+1]?=some (.cells #[.int .i64 0] 29 (0,0)):=by rw[ff];exact cK ((aub _ _ _ hDE.symm).trans BZ) 0 _
   have jl:Hid (Below w.heap.size w W9):=A (by rw[ff];exact(auc _ _ _ hB9 (by omega)).setCell (show w.heap.size<=w.heap.size+1+1 by omega) _);have HP9:Hid (ir W9 (.slice a9 n9 k9) (vH rows ae keys dealer us s rows.length)):=A (by rw[ff];exact ir.set (aue lQ (λb o2 e9=>by have:=fq b o2 e9;omega) _ _ _) (λb o2 e9=>by have:=fq b o2 e9;omega) _);have Rq:Hid (dS W9 3 (.slice ac nc cc)/\dS W9 88 (.slice a9 n9 k9)):=A (by
    rw[ff];unfold Fc;exact⟨(((JI.set _ _ _).set _ _ _).set _ _ _).set _ _ _,(((iX.set _ _ _).set _ _ _).set _ _ _).set _ _ _⟩)
   have AJ:Hid (aM W9 (.slice ac nc cc) (bt s)):=A (by
    rw[ff];have aiE:=ew;obtain⟨a,c,e1,h1,h2,h3,h4⟩:=ew;refine⟨a,c,e1,h1,h2,h3,λj hj=>?_⟩;obtain⟨b,off,e2,cT⟩:=h4 j hj;refine⟨b,off,e2,?_⟩;have n1:=aiy aiE (aiz s) D2 au5 e1 hj e2;have n2:=aiy aiE (aiz s) BZ au4 e1 hj e2;unfold Fc;rw[jS (.inl n2.symm),jS (.inl n1.symm),jS (.inl n1.symm),jS (.inl n1.symm)];exact cT)
   have b0:=Y da (k:=0) (d:=.int .i64 dealer) rfl;have b1:=Y da (k:=1) (d:=.slice ac nc cc) rfl;have b2:=Y da (k:=2) (d:=.slice a9 n9 k9) rfl;have t0:=Y D2 (k:=0) (d:=.int .i64 0) rfl;have t1:=Y D2 (k:=1) (d:=.slice none 0 0) rfl;have t2:=Y D2 (k:=2) (d:=.slice none 0 0) rfl;have f0:=cB D2 0;have f1:=cB D2 1;have f2:=cB D2 2;have z0:=Y BZ (k:=0) (d:=.int .i64 0) rfl;have z1:=cB BZ 0;have y0:=Y aiC (k:=0) (d:=.int .i64 dealer) rfl;have y1:=Y aiC (k:=1) (d:=.slice ac nc cc) rfl;have y2:=Y aiC (k:=2) (d:=.slice a9 n9 k9) rfl;have eX:=Y aiD (k:=0) (d:=.int .i64 0) rfl;unfold Fc at ff;have jI:=A ff;have d9:decide ((rows.length:Int)<(rows.length:Int))=false:=decide_eq_false (by omega);have d8:decide (rows.length<rows.length)=false:=decide_eq_false (by omega);clear ff aiC aiD D2 BZ hB9 ew JI iX lQ da bo hb fq dh pS avi dg aq;go_wp2_with (rw[<-jI.1]);refine leaves_cons (f:=69) (args:=#[.pointer (some ⟨w.heap.size+1+1,0,none⟩)]) (by simp) (by simp[go_sem]) ?_;refine(atP _ _).mono ?_;rintro e u' eN ⟨rfl,rfl,rfl⟩;simp[Leaves,settle,results,results28,go_sem,eX,y0,y1,y2];exact⟨_,by rw[HV.1],by rw[Rn.1];exact⟨_,_,rfl,HN.1.1,AJ.1,HP9.1⟩,jl.1,λ_=>⟨_,_,_,rfl,Rq.1.1,Rq.1.2,E4.1⟩⟩
