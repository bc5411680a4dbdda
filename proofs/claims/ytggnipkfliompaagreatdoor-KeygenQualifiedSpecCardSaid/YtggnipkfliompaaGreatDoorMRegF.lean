/- A region that draws its order, as a flow: each operation is looked at once, whatever stands before it. Drawn regions with guards: one pass (as RegF). Drawn regions with guards that look at skipped operations. slices.BinarySearch of a list that rises. Package program: the rows of people. Package program: question, where it refuses. Two rows of a call's own, side by side, each in a variable. Package program: question, where it answers. Package program: Accepts and Refuses. -/
import Derived.Test.YtggnipkfliompaaGreatDoorMKgT
import Derived.Test.YtggnipkfliompaaGreatDoorMDeaA
import Derived.Test.YtggnipkfliompaaGreatDoorMDeaG
import Derived.Test.YtggnipkfliompaaGreatDoorMLinQ
import Derived.Test.YtggnipkfliompaaGreatDoorMLinU
import Derived.Test.YtggnipkfliompaaGreatDoorMParF
import Derived.Deep.RegionLaw
import Derived.Deep.AppendLies
import Derived.Deep.CutRange
import Derived.Deep.DeepCutAuto
namespace Go.Proofs.YtggnipkfliompaaGreatDoor
open Go.RowKit
section
variable {P:Program} {ops:Array Oper} {Q:Exit → Act → World → Prop}
def putIf (b:Bool) (o:Oper) (x:Value) (a:Act):Act:=if b = true then a.put o.dst x else a
def canonL (done:Nat → Bool) (v:Nat → Value):List Oper → Nat → Act → Act
 | [],_,a => a
 | o :: r,k,a => canonL done v r (k + 1) (putIf (done k) o (v k) a)
def canon (ops:Array Oper) (done:Nat → Bool) (v:Nat → Value) (a:Act):Act:=canonL done v ops.toList 0 a
def dstNe (x y:Option Tmp):Bool:=match x,y with
 | some s,some t => !(s == t)
 | _,_ => true
theorem put_comm {a:Act} {x y:Option Tmp} (h:dstNe x y = true) (u v:Value):(a.put x u).put y v = (a.put y v).put x u:=by
 cases x with
 | none => rfl
 | some s => cases y with
  | none => rfl
  | some t =>
   have hne:s ≠ t:=by simpa [dstNe] using h
   show (⟨(a.tmps.setIfInBounds s u).setIfInBounds t v,a.defers⟩:Act) = ⟨(a.tmps.setIfInBounds t v).setIfInBounds s u,a.defers⟩
   rw [Array.setIfInBounds_comm _ _ hne]
theorem canonL_put {done:Nat → Bool} {v:Nat → Value}:∀ (l:List Oper) (k:Nat) (a:Act) (d:Option Tmp) (x:Value),(∀ o ∈ l,dstNe d o.dst = true) → canonL done v l k (a.put d x) = (canonL done v l k a).put d x
 | [],_,_,_,_,_ => rfl
 | o :: r,k,a,d,x,h => by
  have h1:=h o List.mem_cons_self
  have e:putIf (done k) o (v k) (a.put d x) = (putIf (done k) o (v k) a).put d x:=by
   unfold putIf
   by_cases hb:done k = true
   ·rw [if_pos hb,if_pos hb,put_comm h1]
   ·rw [if_neg hb,if_neg hb]
  show canonL done v r (k + 1) (putIf (done k) o (v k) (a.put d x)) = _
  rw [e]
  exact canonL_put r (k + 1) _ d x (fun p hp => h p (List.mem_cons_of_mem _ hp))
theorem canonL_congr {done done':Nat → Bool} {v v':Nat → Value}:∀ (l:List Oper) (k:Nat) (a:Act),(∀ j,k ≤ j → done j = done' j ∧ v j = v' j) → canonL done v l k a = canonL done' v' l k a
 | [],_,_,_ => rfl
 | o :: r,k,a,h => by
  show canonL done v r (k + 1) (putIf (done k) o (v k) a) = canonL done' v' r (k + 1) (putIf (done' k) o (v' k) a)
  rw [(h k (Nat.le_refl _)).1,(h k (Nat.le_refl _)).2]
  exact canonL_congr r (k + 1) _ (fun j hj => h j (by omega))
def setD (done:Nat → Bool) (i:Nat):Nat → Bool:=fun k => decide (k = i) || done k
def setV (v:Nat → Value) (i:Nat) (x:Value):Nat → Value:=fun k => if k = i then x else v k
def apartL:List Oper → Bool
 | [] => true
 | o :: r => r.all (fun p => dstNe o.dst p.dst) && apartL r
theorem canonL_step {done:Nat → Bool} {v:Nat → Value} {i:Nat} {x:Value} (hd:done i = false):∀ (l:List Oper) (k:Nat) (a:Act) (o:Oper),k ≤ i → l[i - k]? = some o → apartL l = true → canonL (setD done i) (setV v i x) l k a = (canonL done v l k a).put o.dst x
 | [],_,_,_,_,h,_ => by simp at h
 | p :: r,k,a,o,hk,h,hap => by
  have h1:r.all (fun q => dstNe p.dst q.dst) = true ∧ apartL r = true:=by
   have:=hap
   unfold apartL at this
   rwa [Bool.and_eq_true] at this
  by_cases e:k = i
  ·subst e
   rw [Nat.sub_self] at h
   simp only [List.getElem?_cons_zero,Option.some.injEq] at h
   subst h
   show canonL (setD done k) (setV v k x) r (k + 1) (putIf (setD done k k) p (setV v k x k) a) = (canonL done v r (k + 1) (putIf (done k) p (v k) a)).put p.dst x
   have e1:setD done k k = true:=by simp [setD]
   have e2:setV v k x k = x:=by simp [setV]
   rw [e1,e2,hd]
   show canonL (setD done k) (setV v k x) r (k + 1) (a.put p.dst x) = (canonL done v r (k + 1) a).put p.dst x
   rw [← canonL_put r (k + 1) a p.dst x (fun q hq => List.all_eq_true.1 h1.1 q hq)]
   exact canonL_congr r (k + 1) _ (fun j hj => ⟨by unfold setD; rw [decide_eq_false (by omega)]; rfl,by unfold setV; rw [if_neg (by omega)]⟩)
  ·show canonL (setD done i) (setV v i x) r (k + 1) (putIf (setD done i k) p (setV v i x k) a) = (canonL done v r (k + 1) (putIf (done k) p (v k) a)).put o.dst x
   have e1:setD done i k = done k:=by unfold setD; rw [decide_eq_false e]; rfl
   have e2:setV v i x k = v k:=by unfold setV; rw [if_neg e]
   rw [e1,e2]
   refine canonL_step hd r (k + 1) _ o (by omega) ?_ h1.2
   rw [show i - k = (i - (k + 1)) + 1 by omega] at h
   simpa using h
theorem putIf_size (b:Bool) (o:Oper) (x:Value) (a:Act):(putIf b o x a).tmps.size = a.tmps.size:=by
 unfold putIf
 cases b with
 | false => rfl
 | true =>
  show (a.put o.dst x).tmps.size = _
  unfold Act.put
  cases o.dst <;> simp
theorem put_get_ne {a:Act} {d:Option Tmp} {x:Value} {s:Nat} (h:dstNe d (some s) = true):(a.put d x).tmps.getD s undef = a.tmps.getD s undef:=by
 cases d with
 | none => rfl
 | some t =>
  have hne:t ≠ s:=by simpa [dstNe] using h
  show (a.tmps.setIfInBounds t x).getD s undef = _
  rw [Array.getD_eq_getD_getElem?,Array.getD_eq_getD_getElem?,Array.getElem?_setIfInBounds_ne hne]
theorem canonL_keep {done:Nat → Bool} {v:Nat → Value} {s:Nat}:∀ (l:List Oper) (k:Nat) (a:Act),(∀ o ∈ l,dstNe o.dst (some s) = true) → (canonL done v l k a).tmps.getD s undef = a.tmps.getD s undef
 | [],_,_,_ => rfl
 | o :: r,k,a,h => by
  show (canonL done v r (k + 1) (putIf (done k) o (v k) a)).tmps.getD s undef = _
  rw [canonL_keep r (k + 1) _ (fun p hp => h p (List.mem_cons_of_mem _ hp))]
  unfold putIf
  by_cases hb:done k = true
  ·rw [if_pos hb,put_get_ne (h o List.mem_cons_self)]
  ·rw [if_neg hb]
theorem dstNe_symm {x y:Option Tmp} (h:dstNe x y = true):dstNe y x = true:=by
 cases x <;> cases y <;> simp_all [dstNe]
 exact fun e => h e.symm
theorem canonL_get {done:Nat → Bool} {v:Nat → Value} {s i:Nat} (hd:done i = true):∀ (l:List Oper) (k:Nat) (a:Act) (o:Oper),k ≤ i → l[i - k]? = some o → o.dst = some s → apartL l = true → s < a.tmps.size → (canonL done v l k a).tmps.getD s undef = v i
 | [],_,_,_,_,h,_,_,_ => by simp at h
 | p :: r,k,a,o,hk,h,ho,hap,hs => by
  have h1:r.all (fun q => dstNe p.dst q.dst) = true ∧ apartL r = true:=by
   have:=hap
   unfold apartL at this
   rwa [Bool.and_eq_true] at this
  show (canonL done v r (k + 1) (putIf (done k) p (v k) a)).tmps.getD s undef = _
  by_cases e:k = i
  ·subst e
   rw [Nat.sub_self] at h
   simp only [List.getElem?_cons_zero,Option.some.injEq] at h
   subst h
   rw [canonL_keep r (k + 1) _ (fun q hq => by
    have:=List.all_eq_true.1 h1.1 q hq
    rw [ho] at this
    exact dstNe_symm this),hd]
   unfold putIf
   rw [if_pos rfl,ho]
   show (a.tmps.setIfInBounds s (v k)).getD s undef = _
   simp [Array.getD,hs]
  ·refine canonL_get hd r (k + 1) _ o (by omega) ?_ ho h1.2 (by rw [putIf_size]; exact hs)
   rw [show i - k = (i - (k + 1)) + 1 by omega] at h
   simpa using h
theorem canon_eval {done:Nat → Bool} {v:Nat → Value} {a:Act} {i s:Nat} {o:Oper} (hi:ops[i]? = some o) (ho:o.dst = some s) (hap:apartL ops.toList = true) (hs:s < a.tmps.size) (hd:done i = true):(canon ops done v a).eval (.tmp s) = v i:=
 canonL_get hd ops.toList 0 a o (Nat.zero_le _) (by rw [Nat.sub_zero,Array.getElem?_toList]; exact hi) ho hap hs
theorem canon_eval0 {done:Nat → Bool} {v:Nat → Value} {a:Act} {s:Nat} (h:(ops.toList.all fun o => dstNe o.dst (some s)) = true):(canon ops done v a).eval (.tmp s) = a.eval (.tmp s):=
 canonL_keep ops.toList 0 a (fun o ho => List.all_eq_true.1 h o ho)
theorem countP_less {p q:Nat → Bool}:∀ {l:List Nat} {i:Nat},(∀ k,q k = true → p k = true) → i ∈ l → p i = true → q i = false → l.countP q < l.countP p
 | [],_,_,hi,_,_ => by cases hi
 | a :: t,i,h,hi,hp,hq => by
  have hm:t.countP q ≤ t.countP p:=List.countP_mono_left fun x _ hx => h x hx
  rw [List.countP_cons,List.countP_cons]
  rcases List.mem_cons.1 hi with rfl | hi
  ·rw [hp,hq]; simp; omega
  ·have:=countP_less h hi hp hq
   by_cases e:q a = true
   ·rw [e,h a e]; simp; omega
   ·rw [Bool.not_eq_true] at e
    rw [e]; simp; omega
def backs (ops:Array Oper):Bool:=(List.range ops.size).all fun i => match ops[i]? with
 | some o => o.after.all fun e => !Region.binds .any e || decide (e.on < i)
 | none => true
theorem backs_at (h:backs ops = true) {i:Nat} {o:Oper} (ho:ops[i]? = some o):∀ e ∈ o.after,Region.binds .any e = true → e.on < i:=fun e he hb => by
 have hi:i < ops.size:=(Array.getElem?_eq_some_iff.1 ho).1
 have h1:=List.all_eq_true.1 h i (List.mem_range.2 hi)
 rw [ho] at h1
 obtain ⟨k,hk,rfl⟩:=Array.mem_iff_getElem.1 he
 have h2:=Array.all_eq_true.1 h1 k hk
 rw [hb] at h2
 simpa using h2
theorem flow_all (hbk:backs ops = true) {listed:Array Bool} (hsz:listed.size = ops.size) (hr:Region.ready .any ops listed = []):∀ i,i < ops.size → listed.getD i false = true:=by
 intro i
 induction i using Nat.strongRecOn with
 | ind i ih =>
  intro hi
  cases e:listed.getD i false with
  | true => rfl
  | false =>
   have ho:ops[i]? = some ops[i]:=Array.getElem?_eq_getElem hi
   have:i ∈ Region.ready .any ops listed:=mem_ready.2 ⟨by
    have hl:i < listed.size:=by omega
    simp [Array.getD,hl] at e ⊢
    exact e,_,ho,fun e' he hb => ih _ (backs_at hbk ho e' he hb) (by have:=backs_at hbk ho e' he hb; omega)⟩
   rw [hr] at this
   cases this
end
def depL (o:Oper):List Nat:=(o.after.toList.filter fun e => Region.binds .any e).map (·.on)
section
variable (P:Program) (ops:Array Oper) (Q:Exit → Act → World → Prop) (A0:Act) (I:(Nat → Bool) → (Nat → Value) → World → Prop)
end
section
variable {P:Program} {ops:Array Oper} {Q:Exit → Act → World → Prop}
def putL (v:Nat → Value):List Oper → Nat → Act → Act
 | [],_,a => a
 | o :: r,k,a => putL v r (k + 1) (a.put o.dst (v k))
theorem putL_canon {done:Nat → Bool} (v:Nat → Value):∀ (l:List Oper) (k:Nat) (a:Act),(∀ j,j < l.length → done (k + j) = true) → canonL done v l k a = putL v l k a
 | [],_,_,_ => rfl
 | o :: r,k,a,h => by
  have h0:done k = true:=h 0 (by simp)
  show canonL done v r (k + 1) (putIf (done k) o (v k) a) = putL v r (k + 1) (a.put o.dst (v k))
  unfold putIf
  rw [if_pos h0]
  exact putL_canon v r (k + 1) _ (fun j hj => by
   have:=h (j + 1) (by simp; omega)
   rw [show k + 1 + j = k + (j + 1) by omega]
   exact this)
theorem flow_not {done:Nat → Bool} {j k:Nat} (h:done j = true → done k = true) (hk:done k = false):done j = false:=by
 cases e:done j with
 | false => rfl
 | true => rw [h e] at hk; cases hk
end
end Go.Proofs.YtggnipkfliompaaGreatDoor
namespace Go.Proofs.YtggnipkfliompaaGreatDoor
open Go.RowKit
section
variable {P:Program} {ops:Array Oper} {Q:Exit → Act → World → Prop}
theorem wpAny_flowG (hap:apartL ops.toList = true) (hbk:backs ops = true) {A0:Act} (I:(Nat → Bool) → (Nat → Value) → World → Prop)
  (hstep:∀ (i:Nat) (o:Oper),ops[i]? = some o → ∀ (done:Nat → Bool) (v:Nat → Value) (w:World),I done v w → done i = false → (∀ e ∈ o.after,Region.binds .any e = true → done e.on = true) → (Region.wanted o (yielded ops (canon ops done v A0).tmps) = true → o.wp P (canon ops done v A0) w (fun a' w' => ∃ x,a' = (canon ops done v A0).put o.dst x ∧ I (setD done i) (setV v i x) w') Q) ∧ (Region.wanted o (yielded ops (canon ops done v A0).tmps) = false → I (setD done i) (setV v i undef) w))
  (hend:∀ (v:Nat → Value) (w:World),I (fun k => decide (k < ops.size)) v w → Q .normal (canon ops (fun k => decide (k < ops.size)) v A0) w) :
  ∀ (fuel:Nat) (listed:Array Bool) (v:Nat → Value) (w:World),listed.size = ops.size → ((List.range ops.size).countP fun k => !listed.getD k false) ≤ fuel → I (fun k => listed.getD k false) v w → wpAny P .any ops Q fuel listed (canon ops (fun k => listed.getD k false) v A0) w:=by
 have fin:∀ (listed:Array Bool) (v:Nat → Value) (w:World),listed.size = ops.size → Region.ready .any ops listed = [] → I (fun k => listed.getD k false) v w → Q .normal (canon ops (fun k => listed.getD k false) v A0) w:=fun listed v w hsz hr hI => by
  have e:(fun k => listed.getD k false) = fun k => decide (k < ops.size):=funext fun k => by
   by_cases hk:k < ops.size
   ·rw [flow_all hbk hsz hr k hk,decide_eq_true hk]
   ·rw [decide_eq_false hk]
    have:¬ k < listed.size:=by omega
    simp [Array.getD,this]
  rw [e] at hI ⊢
  exact hend v w hI
 intro fuel
 induction fuel with
 | zero =>
  intro listed v w hsz hc hI
  have hall:Region.ready .any ops listed = []:=by
   rw [List.eq_nil_iff_forall_not_mem]
   intro i hi
   obtain ⟨h1,o,ho,-⟩:=mem_ready.1 hi
   have hil:i < ops.size:=(Array.getElem?_eq_some_iff.1 ho).1
   have hl:i < listed.size:=by omega
   have h2:listed.getD i false = false:=by simp [Array.getD,hl] at h1 ⊢; exact h1
   have h3:=List.countP_eq_zero.1 (Nat.le_zero.1 hc) i (List.mem_range.2 hil)
   rw [h2] at h3
   exact h3 rfl
  exact ⟨hall,fin listed v w hsz hall hI⟩
 | succ fuel ih =>
  intro listed v w hsz hc hI
  refine ⟨fun hr => fin listed v w hsz hr hI,fun i hi => ?_⟩
  obtain ⟨h1,o,ho,hdep⟩:=mem_ready.1 hi
  have hil:i < ops.size:=(Array.getElem?_eq_some_iff.1 ho).1
  have hl:i < listed.size:=by omega
  have h2:listed.getD i false = false:=by simp [Array.getD,hl] at h1 ⊢; exact h1
  have h3:=hstep i o ho (fun k => listed.getD k false) v w hI h2 hdep
  have e1:(fun k => (listed.setIfInBounds i true).getD k false) = setD (fun k => listed.getD k false) i:=funext fun k => by
   unfold setD
   by_cases e:k = i
   ·subst e; simp [Array.getD,hl]
   ·rw [Array.getD_eq_getD_getElem?,Array.getElem?_setIfInBounds_ne (fun e2 => e e2.symm),decide_eq_false e,← Array.getD_eq_getD_getElem?]; rfl
  have next:∀ (x:Value) (w':World),I (setD (fun k => listed.getD k false) i) (setV v i x) w' → wpAny P .any ops Q fuel (listed.setIfInBounds i true) ((canon ops (fun k => listed.getD k false) v A0).put o.dst x) w':=fun x w' h5 => by
   have e2:(canon ops (fun k => listed.getD k false) v A0).put o.dst x = canon ops (setD (fun k => listed.getD k false) i) (setV v i x) A0:=
    (canonL_step h2 ops.toList 0 A0 o (Nat.zero_le _) (by rw [Nat.sub_zero,Array.getElem?_toList]; exact ho) hap).symm
   rw [e2,← e1]
   refine ih (listed.setIfInBounds i true) (setV v i x) w' (by simp; exact hsz) ?_ (by rw [e1]; exact h5)
   have h6:((List.range ops.size).countP fun k => !(listed.setIfInBounds i true).getD k false) < (List.range ops.size).countP fun k => !listed.getD k false:=by
    refine countP_less (fun k hk => ?_) (List.mem_range.2 hil) (by rw [h2]; rfl) (by
     have this:(listed.setIfInBounds i true).getD i false = setD (fun k => listed.getD k false) i i:=congrFun e1 i
     rw [this]
     simp [setD])
    have this:(listed.setIfInBounds i true).getD k false = setD (fun k => listed.getD k false) i k:=congrFun e1 k
    rw [this] at hk
    unfold setD at hk
    simp only [Bool.not_eq_true',Bool.or_eq_false_iff] at hk
    rw [hk.2]; rfl
   omega
  unfold wpOp
  rw [ho]
  simp only
  by_cases hw:Region.wanted o (yielded ops (canon ops (fun k => listed.getD k false) v A0).tmps) = true
  ·rw [if_pos hw]
   refine .inl (Oper.wp_mono (fun a' w' h4 => ?_) (h3.1 hw))
   obtain ⟨x,rfl,h5⟩:=h4
   exact next x w' h5
  ·rw [if_neg hw]
   exact next undef w (h3.2 (by simpa using hw))
theorem wp_region_flowG {id:Nat} {A0:Act} {w:World} (hm:P.follows .mixedOrders = true) (hap:apartL ops.toList = true) (hbk:backs ops = true) (I:(Nat → Bool) → (Nat → Value) → World → Prop)
  (h0:∀ v,I (fun _ => false) v w.drew)
  (hstep:∀ (i:Nat) (o:Oper),ops[i]? = some o → ∀ (done:Nat → Bool) (v:Nat → Value) (w:World),I done v w → done i = false → (∀ e ∈ o.after,Region.binds .any e = true → done e.on = true) → (Region.wanted o (yielded ops (canon ops done v A0).tmps) = true → o.wp P (canon ops done v A0) w (fun a' w' => ∃ x,a' = (canon ops done v A0).put o.dst x ∧ I (setD done i) (setV v i x) w') Q) ∧ (Region.wanted o (yielded ops (canon ops done v A0).tmps) = false → I (setD done i) (setV v i undef) w))
  (hend:∀ (v:Nat → Value) (w:World),I (fun k => decide (k < ops.size)) v w → Q .normal (canon ops (fun k => decide (k < ops.size)) v A0) w):(Code.region id ops true).wp P Q A0 w:=by
 refine wp_region_any hm ?_
 have e:(fun k => (Array.replicate ops.size false).getD k false) = fun _ => false:=funext fun k => by
  by_cases h:k < ops.size <;> simp [Array.getD,h]
 have e2:∀ (l:List Oper) (k:Nat) (a:Act),canonL (fun _ => false) (fun _ => undef) l k a = a:=by
  intro l
  induction l with
  | nil => intro k a; rfl
  | cons o r ih => intro k a; exact ih (k + 1) a
 have h:=wpAny_flowG (P:=P) (Q:=Q) hap hbk (A0:=A0) I hstep hend ops.size (Array.replicate ops.size false) (fun _ => undef) w.drew (by simp) (by
  refine Nat.le_trans List.countP_le_length ?_
  simp) (by rw [e]; exact h0 _)
 rw [e] at h
 have e3:canon ops (fun _ => false) (fun _ => undef) A0 = A0:=e2 ops.toList 0 A0
 rw [e3] at h
 exact h
end
section
variable (P:Program) (ops:Array Oper) (Q:Exit → Act → World → Prop) (A0:Act) (I:(Nat → Bool) → (Nat → Value) → World → Prop)
def flowOpG (i:Nat) (o:Oper):Prop:=∀ (done:Nat → Bool) (v:Nat → Value) (w:World) (A:Act),I done v w → done i = false → (∀ k,(depL o).contains k = true → done k = true) →
 (∀ j k,(match ops[j]? with | some p => (depL p).contains k | none => false) = true → done j = true → done k = true) →
 (∀ j s,((ops[j]?).bind (·.dst) == some s && decide (s < A0.tmps.size)) = true → done j = true → A.tmps[s]?.getD undef = v j) →
 (∀ s,(ops.toList.all fun o => dstNe o.dst (some s)) = true → A.tmps[s]?.getD undef = A0.eval (.tmp s)) → A.defers = A0.defers →
 match o.guard with
 | none => o.wp P A w (fun a' w' => ∃ x,a' = A.put o.dst x ∧ I (setD done i) (setV v i x) w') Q
 | some (g,b) => ∃ x,v g = .bool x ∧ (x = b → o.wp P A w (fun a' w' => ∃ x,a' = A.put o.dst x ∧ I (setD done i) (setV v i x) w') Q) ∧ (x ≠ b → I (setD done i) (setV v i undef) w)
def flowLG:List Oper → Nat → Prop
 | [],_ => True
 | o :: r,i => flowOpG P ops Q A0 I i o ∧ flowLG r (i + 1)
def guardsOK (n:Nat):Bool:=ops.toList.all fun o => match o.guard with
 | none => true
 | some (g,_) => (depL o).contains g && (match (ops[g]?).bind (·.dst) with | some s => decide (s < n) | none => false)
end
section
variable {P:Program} {ops:Array Oper} {Q:Exit → Act → World → Prop}
theorem flowLG_at {A0:Act} {I:(Nat → Bool) → (Nat → Value) → World → Prop}:∀ (l:List Oper) (k i:Nat) (o:Oper),flowLG P ops Q A0 I l k → l[i]? = some o → flowOpG P ops Q A0 I (k + i) o
 | [],_,_,_,_,h => by simp at h
 | p :: r,k,i,o,hl,h => by
  cases i with
  | zero =>
   simp only [List.getElem?_cons_zero,Option.some.injEq] at h
   subst h
   exact hl.1
  | succ i =>
   have h2:=flowLG_at r (k + 1) i o hl.2 (by simpa using h)
   rw [show k + (i + 1) = k + 1 + i by omega]
   exact h2
theorem canon_size {done:Nat → Bool} {v:Nat → Value}:∀ (l:List Oper) (k:Nat) (a:Act),(canonL done v l k a).tmps.size = a.tmps.size
 | [],_,_ => rfl
 | o :: r,k,a => by
  show (canonL done v r (k + 1) (putIf (done k) o (v k) a)).tmps.size = _
  rw [canon_size r,putIf_size]
theorem canon_defers {done:Nat → Bool} {v:Nat → Value}:∀ (l:List Oper) (k:Nat) (a:Act),(canonL done v l k a).defers = a.defers
 | [],_,_ => rfl
 | o :: r,k,a => by
  show (canonL done v r (k + 1) (putIf (done k) o (v k) a)).defers = _
  rw [canon_defers r]
  unfold putIf
  split
  ·unfold Act.put; split <;> rfl
  ·rfl
theorem wp_region_flowsG {id:Nat} {A0:Act} {w:World} (hm:P.follows .mixedOrders = true) (hap:apartL ops.toList = true) (hgd:guardsOK ops A0.tmps.size = true) (hbk:backs ops = true) (I:(Nat → Bool) → (Nat → Value) → World → Prop)
  (h0:∀ v,I (fun _ => false) v w.drew) (hstep:flowLG P ops Q A0 I ops.toList 0)
  (hend:∀ (v:Nat → Value) (w:World),I (fun k => decide (k < ops.size)) v w → Q .normal (putL v ops.toList 0 A0) w):(Code.region id ops true).wp P Q A0 w:=by
 let J:(Nat → Bool) → (Nat → Value) → World → Prop:=fun done v w => I done v w ∧ ∀ j k,(match ops[j]? with | some p => (depL p).contains k | none => false) = true → done j = true → done k = true
 refine wp_region_flowG hm hap hbk J (fun v => ⟨h0 v,fun _ _ _ h => by cases h⟩) (fun i o ho done v w hJ hd hdep => ?_) (fun v w hJ => ?_)
 ·obtain ⟨hI,hU⟩:=hJ
  have h1:=flowLG_at ops.toList 0 i o hstep (by rw [Array.getElem?_toList]; exact ho)
  rw [Nat.zero_add] at h1
  have hk0:∀ k,(depL o).contains k = true → done k = true:=fun k hk => by
   rw [List.contains_iff_mem] at hk
   obtain ⟨e,he,rfl⟩:=List.mem_map.1 hk
   obtain ⟨he1,he2⟩:=List.mem_filter.1 he
   exact hdep e (Array.mem_toList_iff.1 he1) he2
  have hget:∀ j s,((ops[j]?).bind (·.dst) == some s && decide (s < A0.tmps.size)) = true → done j = true → (canon ops done v A0).tmps.getD s undef = v j:=fun j s hj hdj => by
   rw [Bool.and_eq_true,decide_eq_true_eq] at hj
   obtain ⟨h2,h3⟩:=hj
   have h4:(ops[j]?).bind (·.dst) = some s:=by simpa using h2
   obtain ⟨o',e1,e2⟩:=Option.bind_eq_some_iff.1 h4
   exact canon_eval e1 e2 hap h3 hdj
  have h2:=h1 done v w (canon ops done v A0) hI hd hk0 hU (fun j s hj hdj => (Array.getD_eq_getD_getElem?).symm.trans (hget j s hj hdj)) (fun s hs => (Array.getD_eq_getD_getElem? ..).symm.trans (canon_eval0 hs)) (canon_defers _ _ _)
  have hJ':∀ x w',I (setD done i) (setV v i x) w' → J (setD done i) (setV v i x) w':=fun x w' h5 => ⟨h5,fun j k hjk hj => by
   show (decide (k = i) || done k) = true
   by_cases e1:j = i
   ·subst e1
    rw [ho] at hjk
    rw [hk0 k hjk,Bool.or_true]
   ·have hj2:(decide (j = i) || done j) = true:=hj
    rw [decide_eq_false e1,Bool.false_or] at hj2
    rw [hU j k hjk hj2,Bool.or_true]⟩
  have up:o.wp P (canon ops done v A0) w (fun a' w' => ∃ x,a' = (canon ops done v A0).put o.dst x ∧ I (setD done i) (setV v i x) w') Q → o.wp P (canon ops done v A0) w (fun a' w' => ∃ x,a' = (canon ops done v A0).put o.dst x ∧ J (setD done i) (setV v i x) w') Q:=fun h2 =>
   Oper.wp_mono (fun a' w' h4 => by obtain ⟨x,e,h5⟩:=h4; exact ⟨x,e,hJ' x w' h5⟩) h2
  cases hg:o.guard with
  | none =>
   rw [hg] at h2
   have hw:Region.wanted o (yielded ops (canon ops done v A0).tmps) = true:=by unfold Region.wanted; rw [hg]
   exact ⟨fun _ => up h2,fun h => by rw [hw] at h; cases h⟩
  | some p =>
   obtain ⟨g,b⟩:=p
   rw [hg] at h2
   obtain ⟨x,hx,h3,h4⟩:=h2
   have h5:=List.all_eq_true.1 hgd o (by
    obtain ⟨hlt,rfl⟩:=Array.getElem?_eq_some_iff.1 ho
    exact Array.getElem_mem_toList hlt)
   rw [hg] at h5
   simp only [Bool.and_eq_true] at h5
   obtain ⟨h6,h7⟩:=h5
   have hdg:=hk0 g h6
   cases hs:(ops[g]?).bind (·.dst) with
   | none => rw [hs] at h7; cases h7
   | some s =>
    rw [hs] at h7
    simp only [decide_eq_true_eq] at h7
    have h8:=hget g s (by rw [hs]; simp [h7]) hdg
    have h9:yielded ops (canon ops done v A0).tmps g = some x:=by
     unfold yielded
     rw [hs]
     have h10:(canon ops done v A0).tmps[s]? = some (.bool x):=by
      have hsz:s < (canon ops done v A0).tmps.size:=by unfold canon; rw [canon_size]; exact h7
      rw [Array.getElem?_eq_getElem hsz]
      rw [Array.getD_eq_getD_getElem?,Array.getElem?_eq_getElem hsz] at h8
      rw [hx] at h8
      exact congrArg some h8
     simp only [Option.bind_some,h10]
    have h11:Region.wanted o (yielded ops (canon ops done v A0).tmps) = decide (x = b):=by
     unfold Region.wanted
     rw [hg]
     simp only [h9]
     cases x <;> cases b <;> rfl
    refine ⟨fun h => up (h3 (by rw [h11] at h; exact of_decide_eq_true h)),fun h => hJ' _ _ (h4 (by rw [h11] at h; exact of_decide_eq_false h))⟩
 ·have h1:=hend v w hJ.1
  rw [← putL_canon (done:=fun k => decide (k < ops.size)) v ops.toList 0 A0 (fun j hj => by
   rw [Nat.zero_add]; exact decide_eq_true (by simpa using hj))] at h1
  exact h1
end
end Go.Proofs.YtggnipkfliompaaGreatDoor
namespace Go.Proofs.YtggnipkfliompaaGreatDoor
open Go.RowKit
section
variable (P:Program) (ops:Array Oper) (Q:Exit → Act → World → Prop) (A0:Act) (I:(Nat → Bool) → (Nat → Value) → World → Prop)
def flowOpH (i:Nat) (o:Oper):Prop:=∀ (done:Nat → Bool) (v:Nat → Value) (w:World) (A:Act),I done v w → done i = false → (∀ k,(depL o).contains k = true → done k = true) →
 (∀ j k,(match ops[j]? with | some p => (depL p).contains k | none => false) = true → done j = true → done k = true) →
 (∀ j s,((ops[j]?).bind (·.dst) == some s && decide (s < A0.tmps.size)) = true → done j = true → A.tmps[s]?.getD undef = v j) →
 (∀ s,(ops.toList.all fun o => dstNe o.dst (some s)) = true → A.tmps[s]?.getD undef = A0.eval (.tmp s)) → A.defers = A0.defers →
 match o.guard with
 | none => o.wp P A w (fun a' w' => ∃ x,a' = A.put o.dst x ∧ I (setD done i) (setV v i x) w') Q
 | some (g,b) => (∃ x,v g = .bool x ∧ (x = b → o.wp P A w (fun a' w' => ∃ x,a' = A.put o.dst x ∧ I (setD done i) (setV v i x) w') Q) ∧ (x ≠ b → I (setD done i) (setV v i undef) w)) ∨ (v g = undef ∧ I (setD done i) (setV v i undef) w)
def flowLH:List Oper → Nat → Prop
 | [],_ => True
 | o :: r,i => flowOpH P ops Q A0 I i o ∧ flowLH r (i + 1)
end
section
variable {P:Program} {ops:Array Oper} {Q:Exit → Act → World → Prop}
theorem flowLH_at {A0:Act} {I:(Nat → Bool) → (Nat → Value) → World → Prop}:∀ (l:List Oper) (k i:Nat) (o:Oper),flowLH P ops Q A0 I l k → l[i]? = some o → flowOpH P ops Q A0 I (k + i) o
 | [],_,_,_,_,h => by simp at h
 | p :: r,k,i,o,hl,h => by
  cases i with
  | zero =>
   simp only [List.getElem?_cons_zero,Option.some.injEq] at h
   subst h
   exact hl.1
  | succ i =>
   have h2:=flowLH_at r (k + 1) i o hl.2 (by simpa using h)
   rw [show k + (i + 1) = k + 1 + i by omega]
   exact h2
theorem wp_region_flowsH {id:Nat} {A0:Act} {w:World} (hm:P.follows .mixedOrders = true) (hap:apartL ops.toList = true) (hgd:guardsOK ops A0.tmps.size = true) (hbk:backs ops = true) (I:(Nat → Bool) → (Nat → Value) → World → Prop)
  (h0:∀ v,I (fun _ => false) v w.drew) (hstep:flowLH P ops Q A0 I ops.toList 0)
  (hend:∀ (v:Nat → Value) (w:World),I (fun k => decide (k < ops.size)) v w → Q .normal (putL v ops.toList 0 A0) w):(Code.region id ops true).wp P Q A0 w:=by
 let J:(Nat → Bool) → (Nat → Value) → World → Prop:=fun done v w => I done v w ∧ ∀ j k,(match ops[j]? with | some p => (depL p).contains k | none => false) = true → done j = true → done k = true
 refine wp_region_flowG hm hap hbk J (fun v => ⟨h0 v,fun _ _ _ h => by cases h⟩) (fun i o ho done v w hJ hd hdep => ?_) (fun v w hJ => ?_)
 ·obtain ⟨hI,hU⟩:=hJ
  have h1:=flowLH_at ops.toList 0 i o hstep (by rw [Array.getElem?_toList]; exact ho)
  rw [Nat.zero_add] at h1
  have hk0:∀ k,(depL o).contains k = true → done k = true:=fun k hk => by
   rw [List.contains_iff_mem] at hk
   obtain ⟨e,he,rfl⟩:=List.mem_map.1 hk
   obtain ⟨he1,he2⟩:=List.mem_filter.1 he
   exact hdep e (Array.mem_toList_iff.1 he1) he2
  have hget:∀ j s,((ops[j]?).bind (·.dst) == some s && decide (s < A0.tmps.size)) = true → done j = true → (canon ops done v A0).tmps.getD s undef = v j:=fun j s hj hdj => by
   rw [Bool.and_eq_true,decide_eq_true_eq] at hj
   obtain ⟨h2,h3⟩:=hj
   have h4:(ops[j]?).bind (·.dst) = some s:=by simpa using h2
   obtain ⟨o',e1,e2⟩:=Option.bind_eq_some_iff.1 h4
   exact canon_eval e1 e2 hap h3 hdj
  have h2:=h1 done v w (canon ops done v A0) hI hd hk0 hU (fun j s hj hdj => (Array.getD_eq_getD_getElem?).symm.trans (hget j s hj hdj)) (fun s hs => (Array.getD_eq_getD_getElem? ..).symm.trans (canon_eval0 hs)) (canon_defers _ _ _)
  have hJ':∀ x w',I (setD done i) (setV v i x) w' → J (setD done i) (setV v i x) w':=fun x w' h5 => ⟨h5,fun j k hjk hj => by
   show (decide (k = i) || done k) = true
   by_cases e1:j = i
   ·subst e1
    rw [ho] at hjk
    rw [hk0 k hjk,Bool.or_true]
   ·have hj2:(decide (j = i) || done j) = true:=hj
    rw [decide_eq_false e1,Bool.false_or] at hj2
    rw [hU j k hjk hj2,Bool.or_true]⟩
  have up:o.wp P (canon ops done v A0) w (fun a' w' => ∃ x,a' = (canon ops done v A0).put o.dst x ∧ I (setD done i) (setV v i x) w') Q → o.wp P (canon ops done v A0) w (fun a' w' => ∃ x,a' = (canon ops done v A0).put o.dst x ∧ J (setD done i) (setV v i x) w') Q:=fun h2 =>
   Oper.wp_mono (fun a' w' h4 => by obtain ⟨x,e,h5⟩:=h4; exact ⟨x,e,hJ' x w' h5⟩) h2
  cases hg:o.guard with
  | none =>
   rw [hg] at h2
   have hw:Region.wanted o (yielded ops (canon ops done v A0).tmps) = true:=by unfold Region.wanted; rw [hg]
   exact ⟨fun _ => up h2,fun h => by rw [hw] at h; cases h⟩
  | some p =>
   obtain ⟨g,b⟩:=p
   rw [hg] at h2
   have h5:=List.all_eq_true.1 hgd o (by
    obtain ⟨hlt,rfl⟩:=Array.getElem?_eq_some_iff.1 ho
    exact Array.getElem_mem_toList hlt)
   rw [hg] at h5
   simp only [Bool.and_eq_true] at h5
   obtain ⟨h6,h7⟩:=h5
   have hdg:=hk0 g h6
   cases hs:(ops[g]?).bind (·.dst) with
   | none => rw [hs] at h7; cases h7
   | some s =>
    rw [hs] at h7
    simp only [decide_eq_true_eq] at h7
    have h8:=hget g s (by rw [hs]; simp [h7]) hdg
    rcases h2 with ⟨x,hx,h3,h4⟩ | ⟨hx,h4⟩
    ·have h9:yielded ops (canon ops done v A0).tmps g = some x:=by
      unfold yielded
      rw [hs]
      have h10:(canon ops done v A0).tmps[s]? = some (.bool x):=by
       have hsz:s < (canon ops done v A0).tmps.size:=by unfold canon; rw [canon_size]; exact h7
       rw [Array.getElem?_eq_getElem hsz]
       rw [Array.getD_eq_getD_getElem?,Array.getElem?_eq_getElem hsz] at h8
       rw [hx] at h8
       exact congrArg some h8
      simp only [Option.bind_some,h10]
     have h11:Region.wanted o (yielded ops (canon ops done v A0).tmps) = decide (x = b):=by
      unfold Region.wanted
      rw [hg]
      simp only [h9]
      cases x <;> cases b <;> rfl
     refine ⟨fun h => up (h3 (by rw [h11] at h; exact of_decide_eq_true h)),fun h => hJ' _ _ (h4 (by rw [h11] at h; exact of_decide_eq_false h))⟩
    ·have h9:yielded ops (canon ops done v A0).tmps g = none:=by
      unfold yielded
      rw [hs]
      have h10:(canon ops done v A0).tmps[s]? = some undef:=by
       have hsz:s < (canon ops done v A0).tmps.size:=by unfold canon; rw [canon_size]; exact h7
       rw [Array.getElem?_eq_getElem hsz]
       rw [Array.getD_eq_getD_getElem?,Array.getElem?_eq_getElem hsz] at h8
       rw [hx] at h8
       exact congrArg some h8
      simp only [Option.bind_some,h10]
      rfl
     have h11:Region.wanted o (yielded ops (canon ops done v A0).tmps) = false:=by
      unfold Region.wanted
      rw [hg]
      simp only [h9]
      rfl
     exact ⟨fun h => (by rw [h11] at h; cases h),fun _ => hJ' _ _ h4⟩
 ·have h1:=hend v w hJ.1
  rw [← putL_canon (done:=fun k => decide (k < ops.size)) v ops.toList 0 A0 (fun j hj => by
   rw [Nat.zero_add]; exact decide_eq_true (by simpa using hj))] at h1
  exact h1
end
end Go.Proofs.YtggnipkfliompaaGreatDoor
namespace Go.Proofs.YtggnipkfliompaaGreatDoor
open Go.RowKit
end Go.Proofs.YtggnipkfliompaaGreatDoor
namespace Go.Proofs.YtggnipkfliompaaGreatDoor
open Go.RowKit FP
attribute [local go_sem] Oper.semAt_some
end Go.Proofs.YtggnipkfliompaaGreatDoor
namespace Go.Proofs.YtggnipkfliompaaGreatDoor
open Go.RowKit FP
end Go.Proofs.YtggnipkfliompaaGreatDoor
namespace Go.Proofs.YtggnipkfliompaaGreatDoor
open Go.RowKit FP
theorem own_is {W:World} {base size n:Nat} {e:TypeId} {v:Value} {xs:List Value} (h:W.ownsRow base e size v n xs):∃ a k c,v = .slice a k c:=by
 rcases h.2 with ⟨rfl,-⟩ | ⟨g,cap,cur,rfl,-⟩
 ·exact ⟨_,_,_,rfl⟩
 ·exact ⟨_,_,_,rfl⟩
structure Two (base:Nat) (W:World) (n m:Nat) (L1 L2:Value) (xs ys:List Value):Prop where
 a:W.ownsRow base 23 1 L1 n xs
 b:W.ownsRow base 3 1 L2 m ys
 ap:∀ q,L1.ownBlock = some q → L2.ownBlock ≠ some q
end Go.Proofs.YtggnipkfliompaaGreatDoor
namespace Go.Proofs.YtggnipkfliompaaGreatDoor
open Go.RowKit FP
attribute [local go_sem] Oper.semAt_some
end Go.Proofs.YtggnipkfliompaaGreatDoor
namespace Go.Proofs.YtggnipkfliompaaGreatDoor
open Go.RowKit FP
end Go.Proofs.YtggnipkfliompaaGreatDoor
