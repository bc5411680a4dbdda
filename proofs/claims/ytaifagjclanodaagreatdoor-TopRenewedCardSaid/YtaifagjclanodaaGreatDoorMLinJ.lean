/- Package linear: Combine. -/
import Derived.Test.YtaifagjclanodaaGreatDoorMLinE
set_option maxHeartbeats 8000000
set_option maxRecDepth 100000
namespace Go.Proofs.YtaifagjclanodaaGreatDoor
open Go.Proofs.Tryz
open Go.RowKit
variable{e:Act}{n:Array Tmp}{m tmps:Array Value}{assign body:Code}{h:FuncId}{f i g b:Nat}{j:Operand}{r:Option Addr}{P:Program}{a d w:World}
theorem amH(u t:Value)(c:ak)(k:V)(w:World)(B:bI w u c)(C:aM w t k)(p:gy c k≠0):
  Calls prog 42 #[u,t] w λl E=>l=.returned (.tuple #[(),false,(gy c k:Int)])/\Below w w E:=by
 have o:Below w w (w.alloc (.cells #[(0:Int)] 29)):=(aY _ _).alloc (aP _) _;have v:=B.below o;have y:=C.below o;have x:=A p;clear p;go_enter_defers func42,ntmps42;go_wp2_with fail;with_reducible refine(uU (adw _ _ c k _ v y) (FT x.1)).mono ?_
 rintro l F ⟨rfl,q⟩;obtain⟨s,z⟩:=adt q;refine sQ (f:=121) (args:=#[(w,0)]) (by simp) (by simp[go_sem]) ?_;refine(akI _ 0 (gy c k) [] _ s z).mono ?_;rintro l H G ⟨rfl,rfl,rfl⟩;have D:=jL F (w,0) (gy c k:Int) (by rw[s];rfl);simp[Leaves,settle,results,results42,go_sem,D,alz q]
theorem amI(f b k:Nat)(t:k<=b):∃q,(k<b->q=k)/\∀a:World,(Instr.sliceAt 195 (.slice (f,0) b b) (some (.int .i64 k)) none none).run prog a=.ok (.slice (some ⟨f,q,none⟩) (b-k) (b-k)) a:=by
 have c:=underlying195;have p:∀a:World,(Instr.slice 195 (.slice (f,0) b b) (some (.int .i64 k)) none none).run prog a=((sizeOf (prog.elem 195)).run prog a).andThen λs w=>.ok (sliced (f,0) (k:Int).toNat b b s) w:=λa =>
  run_slice_l (P:=prog) (w:=a) 195 (f,0) b b c .i64 k (by omega) (by omega)
 have o:∀a:World,(sizeOf (prog.elem 195)).run prog a=.ok 1 a:=λa=>by kernel_rfl
 rcases Nat.lt_or_ge k b with l|l
 ·refine⟨k,λ_=>rfl,λa=>?_⟩;rw[run_sliceAt_slice (P:=prog) (w:=a) _ _ _ _ _ c,p,o];have:b≠k:=by omega
  simp[sliced,Result.andThen,this,Addr.add];omega
 ·obtain rfl:b=k:=by omega
  refine⟨0,λl=>absurd l (KT _),λa=>?_⟩;rw[run_sliceAt_slice (P:=prog) (w:=a) _ _ _ _ _ c,p,o];simp[sliced,Result.andThen]
structure lr(a:World)(g b:Nat)(k:Nat->Int):Prop where
 cell:∀c,c<b->a.cell? ⟨g,c,none⟩=(k c:Int)
 fro:∀c,c<b->a.frozen? ⟨g,c,none⟩=false
theorem lr.below{l:Nat}{s:Nat->Int}(t:lr a g b s)(q:Below l a d)(o:g<l):lr d g b s:=
 ⟨λc k=>by rw[q.cell (p:=⟨g,c,none⟩) o];exact t.cell c k,λc k=>by rw[q.frozen (p:=⟨g,c,none⟩) o];exact t.fro c k⟩
theorem lr.made(a:World)(b:Nat)(k:TypeId):lr (a.alloc (.cells (madeCells #[(0:Int)] b) k)) a.heap.size b (λ_=>0):=
 ⟨λl c=>by rw[wg _ _ _ _ rfl];simp[madeCells,c,Nat.mod_one],λl _=>SB _ _ _ _ rfl⟩
theorem lr.set{k:Nat}{o:Nat->Int}(q:lr a g b o)(z:Int):lr (a.setCell (g,k) z) g b (λc=>if c=k then z else o c):=
 ⟨λc l=>by
  by_cases p:k=c
  ·subst p;show _=some (Value.int .i64 (if k=k then z else o k));rw[aD rfl];exact jL _ _ _ (by rw[q.cell k l];rfl)
  ·show _=some (Value.int .i64 (if c=k then z else o c));rw[aA (λs=>p s.symm),set_other (.inr p)];exact q.cell c l,λc l=>by rw[jK];exact q.fro c l⟩
theorem lr.other{b' o:Nat}{l:Nat->Int}(p:lr a g b l)(q:b'≠g)(s:Value):lr (a.setCell (b',o) s) g b l:=
 ⟨λk c=>by rw[set_other (.inl q)];exact p.cell k c,λk c=>by rw[jK];exact p.fro k c⟩
theorem lr.ints{c:Nat}{l:Nat->Int}(v:lr a g b l)(p:b<=c)(hn:b<=17592186044416)(s:∀k,k<b->aN (l k)):aM a (.slice (g,0) b c) ((List.range b).map l):=by
 refine⟨_,c,by simp,by simpa using p,by simpa using hn,λx t=>?_,λu o=>⟨g,0,rfl,?_⟩⟩
 ·obtain⟨k,q,rfl⟩:=ey.1 t;exact s k (by simpa using q)
 ·simp at o;rw[iN,v.cell u o];simp
theorem amJ:(prog.info? 3).map (λc=>(c.zero,c.size,c.bytes))=some (some (.int .i64 0),1,8):=by kernel_rfl
theorem TE(b:Nat)(hn:b<=1000000)(w:World):(Instr.makeSlice 23 b b).run prog w=.ok (.slice (w,0) b b) (w.alloc (.cells (madeCells #[(0:Int)] b) 3)):=
 run_make_row' (P:=prog) 23 3 (0:Int) 8 underlying23 amJ rfl .i64 .i64 b (by omega) (by omega) w
theorem amK{c:Nat}{o:cI×aO}(q:∀p∈o.2,p<c):∀p∈(DS b o c).2,p<c+1:=by
 unfold DS;split
 ·intro p l;rcases lN.1 l with k|k
  ·exact H5 (q p k)
  ·rw[jJ.1 k];omega
 ·exact λp l=>H5 (q p l)
theorem ad7(b:Nat)(k:cI):∀c,∀p∈(nm b k c).2,p<c
 |0=>by simp[nm]
 |c+1=>by rw[Te];exact amK (ad7 b k c)
def z8(c:ak)(k:V):cI×aO:=nm k.length (z7 c k) c.length
def wJ(c:ak)(k:V):Bool:=(List.range (k.length-(z8 c k).2.length)).all λl=>(z8 c k).1 ((z8 c k).2.length+l) c.length==0
def qM(l:cI)(k:aO)(b:Nat):Nat->Nat->Int
 |0=>λ_=>0
 |c+1=>λo=>if o=k[c]?.getD 0 then l c b else qM l k b c o
def IB(c:ak)(k:V):V:=(List.range c.length).map (qM (z8 c k).1 (z8 c k).2 c.length (z8 c k).2.length)
theorem amL{l:cI}{o c k:Nat}(p:k<o-c)(q:l (c+k) b≠0):(List.range (o-c)).all (λs=>l (c+s) b==0)=false:=by
 rw[List.all_eq_false];exact⟨k,by simpa using p,by simpa using q⟩
theorem amM{o:cI}{p k:Nat}(q:∀c,c<p-k->o (k+c) b=0):(List.range (p-k)).all (λc=>o (k+c) b==0)=true:=by
 rw[fg];intro c l;simp at l;simpa using q c l
theorem YB{o:cI}{p:aO}{s:Nat}(q:∀k,k<s->0<=o k b/\o k b<1073741789):∀c,c<=s->∀l,0<=qM o p b c l/\qM o p b c l<1073741789
 |0,_,l=>by simp[qM]
 |c+1,t,l=>by
  show 0<=(if l=p[c]?.getD 0 then o c b else qM o p b c l)/\(if l=p[c]?.getD 0 then o c b else qM o p b c l)<1073741789;split
  ·exact q c (by omega)
  ·exact YB q c (by omega) l
theorem amN{o:Nat}{c:aO}(x:a.ownsRow f 3 1 (.slice r b o) c.length (c.map λ(k:Nat)=>Value.int .i64 (k:Int)))(hn:0<c.length):
  ∃j,r=some ⟨j,0,none⟩/\f<=j/\j<a.heap.size/\∀k (l:k<c.length),a.cell? ⟨j,k,none⟩=some (.int .i64 (c[k]:Nat)):=by
 have v:c.map (λ(k:Nat)=>Value.int .i64 (k:Int))=(c.map (λk:Nat=>(k:Int))).map (Value.int .i64):=by rw[mD];rfl
 have p:a.ownsRow f 3 1 (.slice r b o) (c.map (λk:Nat=>(k:Int))).length ((c.map (λk:Nat=>(k:Int))).map (Value.int .i64)):=by rw[dy,<-v];exact x
 obtain⟨j,y,u,q,s,t⟩:=adQ p (by simpa using hn);refine⟨j,by cases u;rfl,q,s,λk l=>?_⟩;have:=(t k (by simpa using l)).1;simpa using this
def amO(c:ak)(k:V)(w:World)(p:Ending)(l:World):Prop:=
 ∃o,p=.returned (.tuple #[o,.bool (decide (gy c k=0)&&wJ c k),.int .i64 (gy c k)])/\aM l o (if gy c k=0/\wJ c k=true then IB c k else [])/\Below w.heap.size w l
def ad8(c:ak)(k:V)(w:World)(p:Ending)(o:World):Prop:=
 ∃l,p=.returned (.tuple #[l,.bool (decide (gy c k=0)&&wJ c k),.int .i64 (gy c k)])/\aM o l (if gy c k=0/\wJ c k=true then IB c k else [])/\(∀g,l.ownBlock=some g->w.heap.size<=g)/\Below w.heap.size w o
theorem amP(z1 z0:Value)(c:ak)(q:V)(w:World)(hI:bI w z1 c)(hU:aM w z0 q)(h0:gy c q=0)(hR:uY c q.length)(hT:∀z∈q,0<=z/\z<1073741789)(ht:q.length<=64):
  Calls prog 42 #[z1,z0] w (ad8 c q w):=by
 have bO:Below w w (w.alloc (.cells #[(0:Int)] 29)):=(aY _ _).alloc (aP _) _;have Bf:=hI.below bO;have TC:=hU.below bO;have M:=A h0;clear h0;obtain⟨e,cap,rfl,jC,hlen,-⟩:=hI;obtain⟨a2,dj,rfl,Yd,qF,-⟩:=hU;obtain⟨aI,bE,dX,gE⟩:=hR;obtain⟨HL,HN,HT⟩:=bJ dX gE hT;clear dX gE hT;go_enter_defers func42,ntmps42;go_wp2_with fail;with_reducible refine(uU (adw _ _ c q _ Bf TC) (A6 M.1)).mono ?_
 rintro v X ⟨rfl,Q⟩;obtain⟨iP,YA⟩:=adt Q;have hI2:=Bf.below Q;have hU2:=TC.below Q;go_wp2_with fail;with_reducible refine(amm _ _ c q _ hI2 hU2 HL.1 HN.1 HT.1 (by omega) (by omega)).mono ?_
 rintro v w2 ⟨rb,rfl,rO,gS,an⟩;have lj:=U an iP;have H:=iO iP;have YC:w2.frozen? (w,0)=false:=by rw[an.frozen (p:=⟨w.heap.size,0,none⟩) H];exact YA
 go_wp2_with fail;with_reducible refine(al2 X.heap.size X.heap.size rb q.length (c.length+1) _ _ rO gS (gQ gS) _ c.length (by omega) (by omega) (by omega) (by omega)).mono ?_
 rintro v u ⟨pv,DW,rfl,N,C,aJ⟩;have OA:u.cell? (w,0)=(0:Int):=by rw[aJ.cell (p:=⟨w.heap.size,0,none⟩) H];exact lj
 have hf3:u.frozen? (w,0)=false:=by rw[aJ.frozen (p:=⟨w.heap.size,0,none⟩) H];exact YC
 have fo:Below w w u:=(Oz Q).trans (((an.mono (gQ H))).trans (aJ.mono (gQ H)));have R:=X6 q.length (z7 c q) c.length;have S:=ad7 q.length (z7 c q) c.length;have mJ:z8 c q=nm q.length (z7 c q) c.length:=rfl;obtain⟨x,E⟩:=aK ((z8 c q).1);obtain⟨l,YD⟩:=aK ((z8 c q).2);rw[<-mJ]at C N R S;rw[<-YD]at N R S;rw[<-E]at C;obtain⟨HX,HP,YE⟩:=bJ E YD S;clear E YD mJ S;obtain⟨r,pc,rfl⟩:=OG N;obtain⟨o,ho,qN⟩:=amI X.heap.size q.length l.length R;go_wp2_with fail;go_loop [11,30] (λ_ y=>∃t:Nat,t<=q.length-l.length/\y=t/\Hid (∀B,B<t->x (l.length+B) c.length=0)) (λ_ y=>(q.length-l.length)-(intOf y).toNat);case atStart=>exact⟨0,bS _,rfl,A λB hj=>absurd hj (fG _)⟩
 case round =>
  obtain⟨t,hq,rfl,HZ⟩:=hrel;by_cases I:t<q.length-l.length
  ·have Is:o=l.length:=ho (by omega);obtain⟨rc,L⟩:=C.row (l.length+t) (by omega);have T:=C.elem (l.length+t) c.length (by omega) (by omega);have L:u.cell? (X,o+t)=some (.slice (DW (l.length+t),0) (c.length+1) rc):=by rw[Is];exact L
   have i1:(0:Int)<=(t:Int):=by omega
   have i2:(t:Int)<((q.length-l.length:Nat):Int):=by omega
   clear Is;by_cases F:x (l.length+t) c.length=0
   ·rw[F]at T;have HZ':=A (show ∀B,B<t+1->x (l.length+B) c.length=0 from λB hj=>by
     by_cases v:B=t
     ·rw[v];exact F
     ·exact HZ.1 B (by omega))
    clear F;go_wp2_with fail;go_round;case rel=>exact⟨t+1,by omega,by go_num,HZ'⟩
    case measure=>simp[intOf];omega
   ·have G:=A (show wJ c q=false by
     unfold wJ;rw[<-HX.1,<-HP.1];exact amL I F)
    have hz':(x (l.length+t) c.length !=0)=true:=by simpa using F
    clear F;go_wp2_with fail;refine sQ (f:=121) (args:=#[(w,0)]) (by simp) (by simp[go_sem]) ?_;refine(acL _ _).mono ?_;rintro v u' eN ⟨rfl,rfl,rfl⟩;have E:=jL u (w,0) (0:Int) (by rw[OA];rfl);simp[Leaves,settle,results,results42,go_sem,E];refine⟨(),?_,?_,λg v=>(by cases v),fo.setCell (aP _) _⟩
    ·rw[G.1,M.1,KU]
    ·rw[G.1,aA (by simp)];exact aM.nil _ _ _
  ·obtain rfl:t=q.length-l.length:=by omega
   have G:=A (show wJ c q=true by
     unfold wJ;rw[<-HX.1,<-HP.1];exact amM HZ.1)
   have jE:=TE c.length (by omega);go_wp2_with fail;obtain⟨Z,W⟩:∃Z,u.alloc (.cells (madeCells #[(0:Int)] c.length) 3)=Z:=⟨_,rfl⟩;have hI4:lr Z u.heap.size c.length (qM x l c.length 0):=by rw[<-W];exact lr.made _ _ _
   have aU:Below u u Z:=by rw[<-W];exact(aY _ _).alloc (aP _) _
   rw[W];clear W jE qN;go_loopw[12,13,44] (λ_ _ y wr=>∃s:Nat,s<=l.length/\y=s/\lr wr u.heap.size c.length (qM x l c.length s)/\Below u u wr) (λ_ _ y _=>l.length-(intOf y).toNat);case atStart=>exact⟨0,bS _,rfl,hI4,aU⟩
   case round =>
    obtain⟨s,hK,rfl,O,D⟩:=hrel;by_cases I:s<l.length
    ·obtain⟨j,rfl,OO,S7,Iv⟩:=amN N (by omega);have Be:=Iv s I;have YF:l[s]<c.length:=YE.1 _ (bM I);have sX:=A (show l[s]?.getD 0=l[s] by rw[fw I];rfl);obtain⟨K,hc⟩:=aK (l[s]);rw[<-hc]at Be YF sX;have Be:=U D Be;obtain⟨rc,L⟩:=C.row s (by omega);have T:=C.elem s c.length (by omega) (by omega);have L:=U D L;have T:=U D T;have hyc:=O.cell K YF;have YG:=O.fro K YF;have hI':lr (wr.setCell (u,K) (x s c.length:Int)) u.heap.size c.length (qM x l c.length (s+1)):=by
      have:=O.set (k:=K) (x s c.length);rw[<-sX.1]at this;rw[<-sX.1];exact this
     have rS:=D.setCell (p:=(u,K)) (aP _) (x s c.length:Int);clear hc Iv;go_wp2_with fail;go_roundw;case rel=>exact⟨s+1,by omega,by go_num,hI',rS⟩
     case measure=>simp[intOf];omega
    ·obtain rfl:s=l.length:=by omega
     have YH:w.heap.size<u.heap.size:=iO OA;have hc5:wr.cell? (w,0)=(0:Int):=U D OA;have sY:wr.frozen? (w,0)=false:=by rw[D.frozen (p:=⟨w.heap.size,0,none⟩) YH];exact hf3
     go_wp2_with fail;refine sQ (f:=121) (args:=#[(w,0)]) (by simp) (by simp[go_sem]) ?_;refine(acL _ _).mono ?_;rintro v u' eN ⟨rfl,rfl,rfl⟩;have E:=jL wr (w,0) (0:Int) (by rw[hc5];rfl);simp[Leaves,settle,results,results42,go_sem,E];refine⟨.slice (u,0) c.length c.length,?_,?_,λg v=>(by injection v with v;subst v;exact gQ YH),(fo.trans (D.mono (gQ YH))).setCell (aP _) _⟩
     ·rw[G.1,M.1];rfl
     ·rw[G.1,aD ⟨M.1,rfl⟩];have CB:=YB (o:=x) (p:=l) (b:=c.length) (s:=q.length) (λk hk=>C.num k c.length hk (by omega)) l.length R;have:=(O.other (b':=w.heap.size) (o:=0) (by omega) (0:Int)).ints (aP _) hlen (λy _=>dK (CB y));unfold IB;rw[<-HX.1,<-HP.1];exact this
theorem ad9{o:ak}{k:V}(c:gy o k=0):uY o k.length/\(∀z∈k,0<=z/\z<1073741789)/\k.length<=64:=by
 unfold gy at c;split at c
 ·rename_i p;split at c
  ·rename_i q;split at c
   ·rename_i l;obtain⟨s,t⟩:=adW q;have u:=Yv (t k (by simp));have v:=s k (by simp);refine⟨?_,u.2,v⟩;rcases l with l|l
    ·have:o=[]:=N5.1 l;subst this;exact⟨by simp,.inr rfl,by simp,by simp⟩
    ·rw[<-l];exact amv p
   ·cases c
  ·exact absurd c (by assumption)
 ·exact absurd c (by assumption)
theorem YI(p o:Value)(k:ak)(l:V)(w:World)(q:bI w p k)(s:aM w o l):
  Calls prog 42 #[p,o] w (ad8 k l w):=by
 by_cases c:gy k l=0
 ·obtain⟨u,v,x⟩:=ad9 c;exact amP p o k l w q s c u v x
 ·refine(amH p o k l w q s c).mono ?_;rintro t B ⟨rfl,y⟩;refine⟨(),?_,?_,λg t=>(by cases t),y⟩
  ·rw[bw c];rfl
  ·rw[aA (λz=>c z.1)];exact aM.nil _ _ _
theorem amQ(o l:Value)(c:ak)(k:V)(w:World)(t:bI w o c)(u:aM w l k):
  Calls prog 42 #[o,l] w (amO c k w):=
 (YI o l c k w t u).mono λ_ _ x=>by obtain⟨v,p,q,-,s⟩:=x;exact⟨v,p,q,s⟩
theorem amR(x:Value)(c:V)(l:Int)(w:World)(B:aM w x c)(q:l∈c):
  Calls prog 200 #[x,l] w λs D=>(∃k:Nat,s=.returned k)/\w=D:=by
 obtain⟨e,L,rfl,I,H,C,v⟩:=B;have y:=A q;clear q;go_enter func200,ntmps200;go_wp2;go_loop [5,8] (λ_ t=>∃k:Nat,k<=c.length/\t=k/\Hid (∀F∈c.take k,F≠l)) (λ_ t=>c.length-(intOf t).toNat);case atStart=>exact⟨0,bS _,rfl,A (by simp)⟩
 case round =>
  obtain⟨k,G,rfl,u⟩:=hrel;by_cases p:k<c.length
  ·obtain⟨g,K,rfl,q⟩:=v k p;clear v C;by_cases o:l=c[k]
   ·have E:(l==c[k])=true:=by simpa using o
    clear o;go_wp2_with fail;go_ret;exact⟨⟨k,rfl⟩,rfl⟩
   ·have E:(l==c[k])=false:=by simpa using o
    have z:=A (XE p u.1 (λs=>o s.symm));clear o;go_wp2_with fail;go_round;case rel=>exact⟨k+1,by omega,by go_num,z⟩
    case measure=>simp[intOf];omega
  ·exact absurd rfl (XF p u.1 _ y.1)
theorem amS(u:Value)(k:V)(l:Int)(w:World)(x:aM w u k)(o:l ∉ k):
  Calls prog 200 #[u,l] w λp z=>p=.returned (-1:Int)/\w=z:=by
 obtain⟨e,G,rfl,E,D,y,t⟩:=x;have v:=A o;clear o;go_enter func200,ntmps200;go_wp2;go_loop [5,8] (λ_ q=>∃c:Nat,c<=k.length/\q=c) (λ_ q=>k.length-(intOf q).toNat);case atStart=>exact⟨0,bS _,rfl⟩
 case round =>
  obtain⟨c,B,rfl⟩:=hrel;by_cases s:c<k.length
  ·obtain⟨g,F,rfl,o⟩:=t c s;have C:(l==k[c])=false:=by
    rw[eH];intro p;exact v.1 (p▸bM s)
   clear t y;go_wp2_with fail;go_round;case rel=>exact⟨c+1,by omega,by go_num⟩
   case measure=>simp[intOf];omega
  ·go_wp2_with fail;go_ret;exact⟨rfl,rfl⟩
theorem amT(l:Value)(k:V)(c:Int)(w:World)(q:aM w l k)(s:c∈k):
  Calls prog 170 #[l,c] w λp o=>p=.returned true/\w=o:=by
 go_enter func170,ntmps170;go_wp2_with fail;with_reducible refine(amR _ k c _ q s).mono ?_
 rintro p o ⟨⟨t,rfl⟩,rfl⟩;have:decide ((0:Int)<=(t:Int))=true:=bB (by omega);go_wp2_with fail;go_ret;exact⟨rfl,rfl⟩
theorem amU(l:Value)(k:V)(c:Int)(w:World)(q:aM w l k)(s:c ∉ k):
  Calls prog 170 #[l,c] w λp o=>p=.returned false/\w=o:=by
 go_enter func170,ntmps170;go_wp2_with fail;with_reducible refine(amS _ k c _ q s).mono ?_
 rintro p o ⟨rfl,rfl⟩;go_wp2_with fail;go_ret;exact⟨rfl,rfl⟩
theorem ID{e:World}(c:Below f e w)(b:Nat):Below f e (w.drewN b):=⟨c.os,c.tape,c.output,c.size,c.block⟩
theorem amV{c:V}(l:∀z∈c,cM z=false):c.any cM=false:=by
 rw[FK];intro z k;rw[l z k];simp
def amW(l:Nat->World->Prop)(k:Code->Nat->World->Prop)(c:Nat)(a:World):Exit->Act->World->Prop
 |.normal,_,d=>KeepsOthers a d/\l c d
 |.ret,_,d=>KeepsOthers a d/\k .ret (c+1) d
 |.exit id,_,d=>KeepsOthers a d/\k (.exit id) (c+1) d
 |.goto o,_,d=>KeepsOthers a d/\k (.goto o) (c+1) d
 |.panic _,_,_=>False
 |.outgrown,_,_=>False
def aea(P:Program)(h:FuncId)(m:Array Value)(i:Nat)(fi:Nat->Array Value)(t u:Nat->World->Prop)(v:Nat->World->World):Prop:=
 ∀(s:Nat) (l p q:Nat->World->Prop) (a:World),(∀c k,l c k->t c k)->(∀c k,p c k->u c k)->(∀c k,p c k->l (c+1) (v c k)) ->
  (∀c k,l c k->c<i->YieldAt Fence.wide 0 P s (fi c) k λo d=>(o=.returned (.bool true)/\p c d)\/(o=.returned (.bool false)/\q (c+1) d)) ->
  l 0 a->CallsIn Fence.wide 0 P h (#[.func (.yield s) #[] #[]]++m) a λo d=>(∃x,o=.returned x)/\(l i d\/(∃c,c<=i/\q c d))
theorem amX{z1:Exit->Act->World->Prop}
    (hg:e.eval j=.func (.func h) #[] m) (eg:eQ P h)
   {fi:Nat->Array Value} (lQ:∀c,(fi c).size=n.size)
  (C N:Nat->World->Prop) (z2:Nat->World->World) (Q:Code->Nat->World->Prop) (nK:aea P h m i fi C N z2)
  (hI:∀c a d,C c a->eM w.heap.size a d->C c d) (X:∀s c a d,Q s c a->eM w.heap.size a d->Q s c d)
  (hM:∀c a d,N c a->eM w.heap.size a d->N c d) (W:∀c a,N c a->C (c+1) (z2 c a)/\KeepsOthers a (z2 c a))
  (h0:C 0 w) (z1z:Nat->Array Value->Array Value)
  (yg:∀(l c:Nat) (a:World) (z3:Act->World->Prop),z3 {tmps:=z1z c e.tmps,defers:=[]} a ->
   assign.wpIn (Fence.wide.inRound l) 0 P (Exit.then z3 (λ_ _ _=>False)) {tmps:=(n.zip (fi c)).foldl (λz0 (p,z4)=>z0.setIfInBounds p z4) e.tmps,defers:=[]} a)
  (yh:∀(l c:Nat) (a:World),C c a->c<i->body.wpIn (Fence.wide.inRound l) 0 P (amW N Q c a) {tmps:=z1z c e.tmps,defers:=[]} a)
  (yi:∀(D:Nat) (a:World),w.heap.size<=D->C i a->a.heap[D]?=some (.deferred (some []))->KeepsOthers w a->z1 .normal {e with defers:={target:=.collected D,args:=#[]}::e.defers} a)
  (A3:∀(D:Nat) (s:Code) (c:Nat) (a:World),w.heap.size<=D->c<=i->Q s c a->a.heap[D]?=some (.deferred (some []))->KeepsOthers w a->s.wp P z1 {e with defers:={target:=.collected D,args:=#[]}::e.defers} a):
  (Code.rangeFunc j n assign body).wp P z1 e w:=by
 refine(AW (n:=0)).1 (wpIn_rangeFunc ?_);intro fn uQ;obtain⟨k,y⟩:∃k:LoopState->Option Code->Loop,k=λst pe=>{state:=st,pending:=pe,fn,tmps:=e.tmps,params:=n,assign,body,defers:=w.heap.size}:=⟨_,rfl⟩;obtain⟨v,R⟩:∃v,(w.alloc (.deferred (some []))).alloc (.loop (k .ready none))=v:=⟨_,rfl⟩;have Ig:v.heap[w.heap.size+1]?=some (.loop (k .ready none)):=by
  rw[<-R];have:=World.alloc_heap_new (w.alloc (.deferred (some []))) (.loop (k .ready none));rwa [KK]at this
 have Ih:v.heap[w.heap.size]?=some (.deferred (some [])):=by
  rw[<-R];exact(xU _ _ _ (by simp)).trans (World.alloc_heap_new w _)
 have ud:eM w.heap.size w v:=by
  rw[<-R];exact S4 (FO _ (aP _) _) (FO _ (by simp) _)
 have Ii:KeepsOthers w v:=by rw[<-R];exact(KeepsOthers.alloc _ _).trans (KeepsOthers.alloc _ _)
 refine⟨w.heap.size+1,[{target:=.collected w.heap.size,args:=#[]}],v,{target:=.fn (.func h) m,args:=#[.func (.yield (w.heap.size+1)) #[] #[]]},v,h,
  #[.func (.yield (w.heap.size+1)) #[] #[]]++m,v,?_,?_,λ_ _=>trivial,?_,λq=>by simp[Fence.wide]at q,?_⟩
 ·rw[<-R,y];exact run_enterLoop_outer _ _ _ _ _
 ·simp only[resolve,hg];simp[go_sem]
 ·have Ij:∀(args:Array Value) (w:World),(callFunc h args).run P w=.ok (.enter h args) w:=eg;simp[invoke,go_sem,Ij]
 ·have others:∀{B f:World} (_:KeepsOthers w B) (_:∀L M,L<w.heap.size->B.heap[L]?=some M->M.isCells=false->f.heap[L]?=some M) (_:B.heap.size<=f.heap.size),KeepsOthers w f:=
   λ{B f} h1 h2 h3=>⟨bK h1.size h3,λL M z x=>h2 L M (fF.1 z).1 (h1.same L M z x) x⟩
  have Z:∀{B:World} {l:Nat} (o':Obj),w.heap.size<=l->KeepsOthers w B->KeepsOthers w (B.putObj l o'):=λ{B l} o' u q =>
   others q (λL M z x _=>(World.putObj_heap_other (by omega)).trans x) (by simp)
  refine(nK (w.heap.size+1)
   (λc a=>C c a/\a.heap[w.heap.size+1]?=some (.loop (k .ready none))/\a.heap[w.heap.size]?=some (.deferred (some []))/\KeepsOthers w a)
   (λc a=>N c a/\a.heap[w.heap.size+1]?=some (.loop (k .ready none))/\a.heap[w.heap.size]?=some (.deferred (some []))/\KeepsOthers w a)
   (λc a=>∃s,Q s c a/\a.heap[w.heap.size+1]?=some (.loop (k .done (some s)))/\a.heap[w.heap.size]?=some (.deferred (some []))/\KeepsOthers w a)
   v (λc a q=>q.1) (λc a q=>q.1) (λc a q=>⟨(W c a q.1).1,(W c a q.1).2.same _ _ q.2.1 rfl,(W c a q.1).2.same _ _ q.2.2.1 rfl,q.2.2.2.trans (W c a q.1).2⟩) ?_ ⟨hI _ _ _ h0 ud,Ig,Ih,Ii⟩).mono ?_
  ·rintro c a ⟨S,u,z,x⟩ hlen;have aq:w.heap.size+1<a.heap.size:=(fF.1 u).1;have hy:=run_yield (P:=P) (args:=fi c) u (by rw[y];exact lQ c);rw[y]at hy;refine⟨fn,_,assign,body,hy,roundIn_of_wpIn uQ (yg _ c a _ ⟨_,run_beginRound u (by rw[y]),?_⟩)⟩;have dR:(a.putObj (w.heap.size+1) (.loop {k .ready none with state:=.busy})).heap[w.heap.size+1]?=some (.loop {k .ready none with state:=.busy}):=World.putObj_heap_same aq;have bW:(a.putObj (w.heap.size+1) (.loop {k .ready none with state:=.busy})).heap[w.heap.size]?=some (.deferred (some [])):=(World.putObj_heap_other (by omega)).trans z;have yj:=Z (.loop {k .ready none with state:=.busy}) (by omega) x (l:=w.heap.size+1);refine wpIn_mono (yh _ c _ (hI _ _ _ S (mF _ (by omega) u rfl)) hlen) ?_;have T:∀(o:Option Code) (W3:World),KeepsOthers (a.putObj (w.heap.size+1) (.loop {k .ready none with state:=.busy})) W3 ->
     (Instr.endRound (w.heap.size+1) o).run P W3=.ok (.bool o.isNone) (W3.putObj (w.heap.size+1) (.loop (k (if o.isNone then .ready else .done) o))) /\
     eM w.heap.size W3 (W3.putObj (w.heap.size+1) (.loop (k (if o.isNone then .ready else .done) o))) /\
     (W3.putObj (w.heap.size+1) (.loop (k (if o.isNone then .ready else .done) o))).heap[w.heap.size+1]?=some (.loop (k (if o.isNone then .ready else .done) o)) /\
     (W3.putObj (w.heap.size+1) (.loop (k (if o.isNone then .ready else .done) o))).heap[w.heap.size]?=some (.deferred (some [])) /\
     KeepsOthers w (W3.putObj (w.heap.size+1) (.loop (k (if o.isNone then .ready else .done) o))):=λo W3 t=>by
    have gC:=t.same _ _ dR rfl;have:=run_endRound (P:=P) o gC;rw[y]at this ⊢;exact⟨this,mF _ (by omega) gC rfl,World.putObj_heap_same (fF.1 gC).1,(World.putObj_heap_other (by omega)).trans (t.same _ _ bW rfl),
     Z _ (by omega) (yj.trans t)⟩
   rintro z0z a3 W3 O;cases z0z with
   |normal =>
    obtain⟨t,I⟩:=O;obtain⟨F,G,E,K,H⟩:=T none W3 t;exact⟨_,_,F,.inl ⟨rfl,hM _ _ _ I G,E,K,H⟩⟩
   |ret =>
    obtain⟨t,I⟩:=O;obtain⟨F,G,E,K,H⟩:=T (some .ret) W3 t;exact⟨_,_,F,.inr ⟨rfl,.ret,X _ _ _ _ I G,E,K,H⟩⟩
   |exit id =>
    obtain⟨t,I⟩:=O;obtain⟨F,G,E,K,H⟩:=T (some (.exit id)) W3 t;exact⟨_,_,F,.inr ⟨rfl,.exit id,X _ _ _ _ I G,E,K,H⟩⟩
   |goto z0 =>
    obtain⟨t,I⟩:=O;obtain⟨F,G,E,K,H⟩:=T (some (.goto z0)) W3 t;exact⟨_,_,F,.inr ⟨rfl,.goto z0,X _ _ _ _ I G,E,K,H⟩⟩
   |panic ch=>exact O.elim
   |outgrown=>exact O.elim
  ·rintro z0z W2 ⟨⟨z4,rfl⟩,(⟨S,u,z,x⟩|⟨c,hj,s,S,u,z,x⟩)⟩
   ·exact⟨none,_,by have:=run_endLoop (P:=P) u (by rw[y];simp);rw[y]at this;exact this,
     yi _ _ (aP _) (hI _ _ _ S (mF _ (by omega) u rfl)) ((World.putObj_heap_other (by omega)).trans z) (Z _ (by omega) x)⟩
   ·exact⟨some s,_,by have:=run_endLoop (P:=P) u (by rw[y];simp);rw[y]at this;exact this,
     AW.2 (A3 _ s c _ (aP _) hj (X _ _ _ _ S (mF _ (by omega) u rfl)) ((World.putObj_heap_other (by omega)).trans z) (Z _ (by omega) x))⟩
theorem F9{v:Func}{o:Ending->World->Prop}{k:Value}(c:World->Prop)(u:∀w,c w->(results v tmps).run P w=.ok k w)(y:∀w l,c w->eM f w l->c l)(z:∀w l,o (.returned k) w->eM f w l->o (.returned k) l):
  ∀(p:List Deferred) (w:World),Marks f w p->c w->o (.returned k) w->LeavesInM Fence.wide 0 P v tmps o p .returning w
 |[],w,_,s,t=>⟨k,u w s,t⟩
 |F::p,w,⟨⟨B,C,x,q,D⟩,E⟩,s,t=>by
  subst C;refine⟨by simp,.inl ⟨B,_,rfl,run_takeDeferred q,?_⟩⟩;exact F9 c u y z p _ (Xz E D) (y _ _ s (mF _ x q rfl)) (z _ _ t (mF _ x q rfl))
theorem aeb(c:Below a a d)(o:f<=a.heap.size):eM f a d:=
 ⟨c.os,c.tape,c.output,c.size,λl k=>c.block l (eJ k o),λl _ k _=>(c.block l (fF.1 k).1).trans k⟩
theorem Bg(c:Below a a d):KeepsOthers a d:=
 ⟨c.size,λl _ k _=>(c.block l (fF.1 k).1).trans k⟩
def wL(P:Program)(h:FuncId)(m:Array Value)(i:Nat)(fi:Nat->Array Value)(t:Nat->World->Prop):Prop:=
 ∀(s:Nat) (l p:Nat->World->Prop) (a:World),(∀c k,l c k->t c k)->(∀c k q,l c k->Below k.heap.size k q->l c q) ->
  (∀c k,l c k->c<i->YieldAt Fence.wide 0 P s (fi c) k λo d=>(o=.returned (.bool true)/\l (c+1) d)\/(o=.returned (.bool false)/\p (c+1) d)) ->
  l 0 a->CallsIn Fence.wide 0 P h (#[.func (.yield s) #[] #[]]++m) a λo d=>(∃u,o=.returned u)/\(l i d\/(∃c,c<=i/\p c d))
theorem amY{z1:Exit->Act->World->Prop}
    (hg:e.eval j=.func (.func h) #[] m) (eg:eQ P h)
   {fi:Nat->Array Value} (lQ:∀c,(fi c).size=n.size)
  (B:Nat->World->Prop) (O:Code->Nat->World->Prop) (nK:wL P h m i fi B)
  (R:∀c a d,B c a->eM w.heap.size a d->B c d) (X:∀u c a d,O u c a->eM w.heap.size a d->O u c d)
  (h0:B 0 w) (e₁:Nat->Act)
  (yg:∀(l c:Nat) (a:World) (z2:Act->World->Prop),z2 (e₁ c) a ->
   assign.wpIn (Fence.wide.inRound l) 0 P (Exit.then z2 (λ_ _ _=>False)) {tmps:=(n.zip (fi c)).foldl (λz0 (p,z3)=>z0.setIfInBounds p z3) e.tmps,defers:=[]} a)
  (yh:∀(l c:Nat) (a:World),B c a->c<i->body.wpIn (Fence.wide.inRound l) 0 P (rangePost B O c a) (e₁ c) a)
  (yi:∀(C:Nat) (a:World),w.heap.size<=C->B i a->a.heap[C]?=some (.deferred (some []))->KeepsOthers w a->z1 .normal {e with defers:={target:=.collected C,args:=#[]}::e.defers} a)
  (A3:∀(C:Nat) (u:Code) (c:Nat) (a:World),w.heap.size<=C->c<=i->O u c a->a.heap[C]?=some (.deferred (some []))->KeepsOthers w a->u.wp P z1 {e with defers:={target:=.collected C,args:=#[]}::e.defers} a):
  (Code.rangeFunc j n assign body).wp P z1 e w:=by
 refine(AW (n:=0)).1 (wpIn_rangeFunc ?_);intro fn uQ;obtain⟨k,y⟩:∃k:LoopState->Option Code->Loop,k=λst pe=>{state:=st,pending:=pe,fn,tmps:=e.tmps,params:=n,assign,body,defers:=w.heap.size}:=⟨_,rfl⟩;obtain⟨x,Q⟩:∃x,(w.alloc (.deferred (some []))).alloc (.loop (k .ready none))=x:=⟨_,rfl⟩;have Ig:x.heap[w.heap.size+1]?=some (.loop (k .ready none)):=by
  rw[<-Q];have:=World.alloc_heap_new (w.alloc (.deferred (some []))) (.loop (k .ready none));rwa [KK]at this
 have Ih:x.heap[w.heap.size]?=some (.deferred (some [])):=by
  rw[<-Q];exact(xU _ _ _ (by simp)).trans (World.alloc_heap_new w _)
 have ud:eM w.heap.size w x:=by
  rw[<-Q];exact S4 (FO _ (aP _) _) (FO _ (by simp) _)
 have Ii:KeepsOthers w x:=by rw[<-Q];exact(KeepsOthers.alloc _ _).trans (KeepsOthers.alloc _ _)
 refine⟨w.heap.size+1,[{target:=.collected w.heap.size,args:=#[]}],x,{target:=.fn (.func h) m,args:=#[.func (.yield (w.heap.size+1)) #[] #[]]},x,h,
  #[.func (.yield (w.heap.size+1)) #[] #[]]++m,x,?_,?_,λ_ _=>trivial,?_,λS=>by simp[Fence.wide]at S,?_⟩
 ·rw[<-Q,y];exact run_enterLoop_outer _ _ _ _ _
 ·simp only[resolve,hg];simp[go_sem]
 ·have Ij:∀(args:Array Value) (w:World),(callFunc h args).run P w=.ok (.enter h args) w:=eg;simp[invoke,go_sem,Ij]
 ·have others:∀{z f:World} (_:KeepsOthers w z) (_:∀L M,L<w.heap.size->z.heap[L]?=some M->M.isCells=false->f.heap[L]?=some M) (_:z.heap.size<=f.heap.size),KeepsOthers w f:=
   λ{z f} h1 h2 h3=>⟨bK h1.size h3,λL M s t=>h2 L M (fF.1 s).1 (h1.same L M s t) t⟩
  have Z:∀{z:World} {l:Nat} (o':Obj),w.heap.size<=l->KeepsOthers w z->KeepsOthers w (z.putObj l o'):=λ{z l} o' q S =>
   others S (λL M s t _=>(World.putObj_heap_other (by omega)).trans t) (by simp)
  refine(nK (w.heap.size+1)
   (λc a=>B c a/\a.heap[w.heap.size+1]?=some (.loop (k .ready none))/\a.heap[w.heap.size]?=some (.deferred (some []))/\KeepsOthers w a)
   (λc a=>∃u,O u c a/\a.heap[w.heap.size+1]?=some (.loop (k .done (some u)))/\a.heap[w.heap.size]?=some (.deferred (some []))/\KeepsOthers w a)
   x (λc a S=>S.1) (λc a W2 ⟨E,q,s,t⟩ W=>⟨R _ _ _ E (aeb W (gQ (Nat.lt_of_succ_lt (fF.1 q).1))),(W.block _ (fF.1 q).1).trans q,(W.block _ (fF.1 s).1).trans s,t.trans (Bg W)⟩) ?_ ⟨R _ _ _ h0 ud,Ig,Ih,Ii⟩).mono ?_
  ·rintro c a ⟨E,q,s,t⟩ hlen;have aq:w.heap.size+1<a.heap.size:=(fF.1 q).1;have hy:=run_yield (P:=P) (args:=fi c) q (by rw[y];exact lQ c);rw[y]at hy;refine⟨fn,_,assign,body,hy,roundIn_of_wpIn uQ (yg _ c a _ ⟨_,run_beginRound q (by rw[y]),?_⟩)⟩;have dR:(a.putObj (w.heap.size+1) (.loop {k .ready none with state:=.busy})).heap[w.heap.size+1]?=some (.loop {k .ready none with state:=.busy}):=World.putObj_heap_same aq;have bW:(a.putObj (w.heap.size+1) (.loop {k .ready none with state:=.busy})).heap[w.heap.size]?=some (.deferred (some [])):=(World.putObj_heap_other (by omega)).trans s;have yj:=Z (.loop {k .ready none with state:=.busy}) (by omega) t (l:=w.heap.size+1);refine wpIn_mono (yh _ c _ (R _ _ _ E (mF _ (by omega) q rfl)) hlen) ?_;have T:∀(o:Option Code) (W3:World),KeepsOthers (a.putObj (w.heap.size+1) (.loop {k .ready none with state:=.busy})) W3 ->
     (Instr.endRound (w.heap.size+1) o).run P W3=.ok (.bool o.isNone) (W3.putObj (w.heap.size+1) (.loop (k (if o.isNone then .ready else .done) o))) /\
     eM w.heap.size W3 (W3.putObj (w.heap.size+1) (.loop (k (if o.isNone then .ready else .done) o))) /\
     (W3.putObj (w.heap.size+1) (.loop (k (if o.isNone then .ready else .done) o))).heap[w.heap.size+1]?=some (.loop (k (if o.isNone then .ready else .done) o)) /\
     (W3.putObj (w.heap.size+1) (.loop (k (if o.isNone then .ready else .done) o))).heap[w.heap.size]?=some (.deferred (some [])) /\
     KeepsOthers w (W3.putObj (w.heap.size+1) (.loop (k (if o.isNone then .ready else .done) o))):=λo W3 v=>by
    have gC:=v.same _ _ dR rfl;have:=run_endRound (P:=P) o gC;rw[y]at this ⊢;exact⟨this,mF _ (by omega) gC rfl,World.putObj_heap_same (fF.1 gC).1,(World.putObj_heap_other (by omega)).trans (v.same _ _ bW rfl),
     Z _ (by omega) (yj.trans v)⟩
   rintro z0z a3 W3 N;cases z0z with
   |normal =>
    obtain⟨v,I⟩:=N;obtain⟨F,G,D,K,H⟩:=T none W3 v;exact⟨_,_,F,.inl ⟨rfl,R _ _ _ I G,D,K,H⟩⟩
   |ret =>
    obtain⟨v,I⟩:=N;obtain⟨F,G,D,K,H⟩:=T (some .ret) W3 v;exact⟨_,_,F,.inr ⟨rfl,.ret,X _ _ _ _ I G,D,K,H⟩⟩
   |exit id =>
    obtain⟨v,I⟩:=N;obtain⟨F,G,D,K,H⟩:=T (some (.exit id)) W3 v;exact⟨_,_,F,.inr ⟨rfl,.exit id,X _ _ _ _ I G,D,K,H⟩⟩
   |goto z0 =>
    obtain⟨v,I⟩:=N;obtain⟨F,G,D,K,H⟩:=T (some (.goto z0)) W3 v;exact⟨_,_,F,.inr ⟨rfl,.goto z0,X _ _ _ _ I G,D,K,H⟩⟩
   |panic ch=>exact N.elim
   |outgrown=>exact N.elim
  ·rintro z0z W2 ⟨⟨z3,rfl⟩,(⟨E,q,s,t⟩|⟨c,hj,u,E,q,s,t⟩)⟩
   ·exact⟨none,_,by have:=run_endLoop (P:=P) q (by rw[y];simp);rw[y]at this;exact this,
     yi _ _ (aP _) (R _ _ _ E (mF _ (by omega) q rfl)) ((World.putObj_heap_other (by omega)).trans s) (Z _ (by omega) t)⟩
   ·exact⟨some u,_,by have:=run_endLoop (P:=P) q (by rw[y];simp);rw[y]at this;exact this,
     AW.2 (A3 _ u c _ (aP _) hj (X _ _ _ _ E (mF _ (by omega) q rfl)) ((World.putObj_heap_other (by omega)).trans s) (Z _ (by omega) t))⟩
theorem OU{s:Exit->Act->World->Prop}
    (C:e.eval j=.func (.func h) #[] m) (y:eQ P h)
   {fi:Nat->Array Value} (D:∀c,(fi c).size=n.size)
  (k:Nat->World->Prop) (o:Code->Nat->World->Prop) (E:wL P h m i fi k)
  (B:∀c a d,k c a->eM w.heap.size a d->k c d) (F:∀q c a d,o q c a->eM w.heap.size a d->o q c d)
  (z:k 0 w) (u:Nat->Array Value->Array Value)
  (I:∀(t c:Nat) (a:World) (v:Act->World->Prop),v {tmps:=u c e.tmps,defers:=[]} a ->
   assign.wpIn (Fence.wide.inRound t) 0 P (Exit.then v (λ_ _ _=>False)) {tmps:=(n.zip (fi c)).foldl (λG (p,H)=>G.setIfInBounds p H) e.tmps,defers:=[]} a)
  (K:∀(t c:Nat) (a:World),k c a->c<i->body.wpIn (Fence.wide.inRound t) 0 P (rangePost k o c a) {tmps:=u c e.tmps,defers:=[]} a)
  (L:∀(l:Nat) (a:World),w.heap.size<=l->k i a->a.heap[l]?=some (.deferred (some []))->KeepsOthers w a->s .normal {e with defers:={target:=.collected l,args:=#[]}::e.defers} a)
  (x:∀(l:Nat) (q:Code) (c:Nat) (a:World),w.heap.size<=l->c<=i->o q c a->a.heap[l]?=some (.deferred (some []))->KeepsOthers w a->q.wp P s {e with defers:={target:=.collected l,args:=#[]}::e.defers} a):
  (Code.rangeFunc j n assign body).wp P s e w:=
 amY C y D k o E B F z (λc=>{tmps:=u c e.tmps,defers:=[]}) I K L x
