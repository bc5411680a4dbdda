/- Drawn regions with guards: one pass (as RegF). Drawn regions with guards that look at skipped operations. The functions of package slices that are called at slices of integers. Package linear: the examination of rows, an error that ends the work by a panic, and that is caught. Package linear: Check and examine. A statement whose order of evaluation is left open: where its operations read, compute and call, and at most the last one writes, one walk in the order of the text serves every order. Package linear: the iterator over a row, from a column on. Package field, and its reference: what each function computes. Package linear: tables, and clear. A statement whose order of evaluation is left open: where what an operation finds in memory hangs on what has been carried out, told by a class of worlds that hangs on the set of operations done. Appending one integer to a slice of the call's own. The reduction of a table, as a function on matrices. Package linear: reduce. Package linear: copies of rows. Package linear: turned. Package linear: the rank. Package linear: the rank of any rows. Package linear: Combine. Package linear: Separate. Package linear: Separate, where there are columns. The reference of package linear: what its small functions compute. -/
import Derived.Test.YteodnbaogfdjbaaDoorMRefF
import Derived.Test.YteodnbaogfdjbaaDoorMBase
import Derived.Test.YteodnbaogfdjbaaDoorMFq
import Derived.OrdersIn
import Derived.Still
import Derived.Shelf.Abstract
import Derived.OwnWalkIn
import Derived.TacticsInMore
import Derived.LoopNIn
import Derived.LoopIn
import Derived.WalkSpells
import Derived.Deep.OwnRows
import Derived.Deep.RegionHeld3
namespace Go.Proofs.YteodnbaogfdjbaaDoor
open Go.RowKit

section
variable {P : Program} {ops : Array Oper} {Q : Exit → Act → World → Prop}
theorem wpAny_flowG (hap : apartL ops.toList = true) (hbk : backs ops = true) {A0 : Act} (I : (Nat → Bool) → (Nat → Value) → World → Prop)
    (hstep : ∀ (i : Nat) (o : Oper), ops[i]? = some o → ∀ (done : Nat → Bool) (v : Nat → Value) (w : World), I done v w → done i = false → (∀ e ∈ o.after, Region.binds .any e = true → done e.on = true) → (Region.wanted o (yielded ops (canon ops done v A0).tmps) = true → o.wp P (canon ops done v A0) w (fun a' w' => ∃ x, a' = (canon ops done v A0).put o.dst x ∧ I (setD done i) (setV v i x) w') Q) ∧ (Region.wanted o (yielded ops (canon ops done v A0).tmps) = false → I (setD done i) (setV v i undef) w))
    (hend : ∀ (v : Nat → Value) (w : World), I (fun k => decide (k < ops.size)) v w → Q .normal (canon ops (fun k => decide (k < ops.size)) v A0) w) :
    ∀ (fuel : Nat) (listed : Array Bool) (v : Nat → Value) (w : World), listed.size = ops.size → ((List.range ops.size).countP fun k => !listed.getD k false) ≤ fuel → I (fun k => listed.getD k false) v w → wpAny P .any ops Q fuel listed (canon ops (fun k => listed.getD k false) v A0) w := by
  have fin : ∀ (listed : Array Bool) (v : Nat → Value) (w : World), listed.size = ops.size → Region.ready .any ops listed = [] → I (fun k => listed.getD k false) v w → Q .normal (canon ops (fun k => listed.getD k false) v A0) w := fun listed v w hsz hr hI => by
    have e : (fun k => listed.getD k false) = fun k => decide (k < ops.size) := funext fun k => by
      by_cases hk : k < ops.size
      · rw [flow_all hbk hsz hr k hk, decide_eq_true hk]
      · rw [decide_eq_false hk]
        have : ¬ k < listed.size := by omega
        simp [Array.getD, this]
    rw [e] at hI ⊢
    exact hend v w hI
  intro fuel
  induction fuel with
  | zero =>
    intro listed v w hsz hc hI
    have hall : Region.ready .any ops listed = [] := by
      rw [List.eq_nil_iff_forall_not_mem]
      intro i hi
      obtain ⟨h1, o, ho, -⟩ := mem_ready.1 hi
      have hil : i < ops.size := (Array.getElem?_eq_some_iff.1 ho).1
      have hl : i < listed.size := by omega
      have h2 : listed.getD i false = false := by simp [Array.getD, hl] at h1 ⊢; exact h1
      have h3 := List.countP_eq_zero.1 (Nat.le_zero.1 hc) i (List.mem_range.2 hil)
      rw [h2] at h3
      exact h3 rfl
    exact ⟨hall, fin listed v w hsz hall hI⟩
  | succ fuel ih =>
    intro listed v w hsz hc hI
    refine ⟨fun hr => fin listed v w hsz hr hI, fun i hi => ?_⟩
    obtain ⟨h1, o, ho, hdep⟩ := mem_ready.1 hi
    have hil : i < ops.size := (Array.getElem?_eq_some_iff.1 ho).1
    have hl : i < listed.size := by omega
    have h2 : listed.getD i false = false := by simp [Array.getD, hl] at h1 ⊢; exact h1
    have h3 := hstep i o ho (fun k => listed.getD k false) v w hI h2 hdep
    have e1 : (fun k => (listed.setIfInBounds i true).getD k false) = setD (fun k => listed.getD k false) i := funext fun k => by
      unfold setD
      by_cases e : k = i
      · subst e; simp [Array.getD, hl]
      · rw [Array.getD_eq_getD_getElem?, Array.getElem?_setIfInBounds_ne (fun e2 => e e2.symm), decide_eq_false e, ← Array.getD_eq_getD_getElem?]; rfl
    have next : ∀ (x : Value) (w' : World), I (setD (fun k => listed.getD k false) i) (setV v i x) w' → wpAny P .any ops Q fuel (listed.setIfInBounds i true) ((canon ops (fun k => listed.getD k false) v A0).put o.dst x) w' := fun x w' h5 => by
      have e2 : (canon ops (fun k => listed.getD k false) v A0).put o.dst x = canon ops (setD (fun k => listed.getD k false) i) (setV v i x) A0 :=
        (canonL_step h2 ops.toList 0 A0 o (Nat.zero_le _) (by rw [Nat.sub_zero, Array.getElem?_toList]; exact ho) hap).symm
      rw [e2, ← e1]
      refine ih (listed.setIfInBounds i true) (setV v i x) w' (by simp; exact hsz) ?_ (by rw [e1]; exact h5)
      have h6 : ((List.range ops.size).countP fun k => !(listed.setIfInBounds i true).getD k false) < (List.range ops.size).countP fun k => !listed.getD k false := by
        refine countP_less (fun k hk => ?_) (List.mem_range.2 hil) (by rw [h2]; rfl) (by
          have this : (listed.setIfInBounds i true).getD i false = setD (fun k => listed.getD k false) i i := congrFun e1 i
          rw [this]
          simp [setD])
        have this : (listed.setIfInBounds i true).getD k false = setD (fun k => listed.getD k false) i k := congrFun e1 k
        rw [this] at hk
        unfold setD at hk
        simp only [Bool.not_eq_true', Bool.or_eq_false_iff] at hk
        rw [hk.2]; rfl
      omega
    unfold wpOp
    rw [ho]
    simp only
    by_cases hw : Region.wanted o (yielded ops (canon ops (fun k => listed.getD k false) v A0).tmps) = true
    · rw [if_pos hw]
      refine .inl (Oper.wp_mono (fun a' w' h4 => ?_) (h3.1 hw))
      obtain ⟨x, rfl, h5⟩ := h4
      exact next x w' h5
    · rw [if_neg hw]
      exact next undef w (h3.2 (by simpa using hw))
/-- The rule: I holds at the start, each operation keeps it whenever its turn may come, and at the end it says what follows. -/
theorem wp_region_flowG {id : Nat} {A0 : Act} {w : World} (hm : P.follows .mixedOrders = true) (hap : apartL ops.toList = true) (hbk : backs ops = true) (I : (Nat → Bool) → (Nat → Value) → World → Prop)
    (h0 : ∀ v, I (fun _ => false) v w.drew)
    (hstep : ∀ (i : Nat) (o : Oper), ops[i]? = some o → ∀ (done : Nat → Bool) (v : Nat → Value) (w : World), I done v w → done i = false → (∀ e ∈ o.after, Region.binds .any e = true → done e.on = true) → (Region.wanted o (yielded ops (canon ops done v A0).tmps) = true → o.wp P (canon ops done v A0) w (fun a' w' => ∃ x, a' = (canon ops done v A0).put o.dst x ∧ I (setD done i) (setV v i x) w') Q) ∧ (Region.wanted o (yielded ops (canon ops done v A0).tmps) = false → I (setD done i) (setV v i undef) w))
    (hend : ∀ (v : Nat → Value) (w : World), I (fun k => decide (k < ops.size)) v w → Q .normal (canon ops (fun k => decide (k < ops.size)) v A0) w) : (Code.region id ops true).wp P Q A0 w := by
  refine wp_region_any hm ?_
  have e : (fun k => (Array.replicate ops.size false).getD k false) = fun _ => false := funext fun k => by
    by_cases h : k < ops.size <;> simp [Array.getD, h]
  have e2 : ∀ (l : List Oper) (k : Nat) (a : Act), canonL (fun _ => false) (fun _ => undef) l k a = a := by
    intro l
    induction l with
    | nil => intro k a; rfl
    | cons o r ih => intro k a; exact ih (k + 1) a
  have h := wpAny_flowG (P := P) (Q := Q) hap hbk (A0 := A0) I hstep hend ops.size (Array.replicate ops.size false) (fun _ => undef) w.drew (by simp) (by
    refine Nat.le_trans List.countP_le_length ?_
    simp) (by rw [e]; exact h0 _)
  rw [e] at h
  have e3 : canon ops (fun _ => false) (fun _ => undef) A0 = A0 := e2 ops.toList 0 A0
  rw [e3] at h
  exact h
end

section
variable (P : Program) (ops : Array Oper) (Q : Exit → Act → World → Prop) (A0 : Act) (I : (Nat → Bool) → (Nat → Value) → World → Prop)
/-- One operation of a flow, with its guard: whatever else is done, in an act of which the slots are known. -/
def flowOpG (i : Nat) (o : Oper) : Prop := ∀ (done : Nat → Bool) (v : Nat → Value) (w : World) (A : Act), I done v w → done i = false → (∀ k, (depL o).contains k = true → done k = true) →
  (∀ j k, (match ops[j]? with | some p => (depL p).contains k | none => false) = true → done j = true → done k = true) →
  (∀ j s, ((ops[j]?).bind (·.dst) == some s && decide (s < A0.tmps.size)) = true → done j = true → A.tmps[s]?.getD undef = v j) →
  (∀ s, (ops.toList.all fun o => dstNe o.dst (some s)) = true → A.tmps[s]?.getD undef = A0.eval (.tmp s)) → A.defers = A0.defers →
  match o.guard with
  | none => o.wp P A w (fun a' w' => ∃ x, a' = A.put o.dst x ∧ I (setD done i) (setV v i x) w') Q
  | some (g, b) => ∃ x, v g = .bool x ∧ (x = b → o.wp P A w (fun a' w' => ∃ x, a' = A.put o.dst x ∧ I (setD done i) (setV v i x) w') Q) ∧ (x ≠ b → I (setD done i) (setV v i undef) w)
def flowLG : List Oper → Nat → Prop
  | [], _ => True
  | o :: r, i => flowOpG P ops Q A0 I i o ∧ flowLG r (i + 1)
/-- Guards look at operations that are waited for. -/
def guardsOK (n : Nat) : Bool := ops.toList.all fun o => match o.guard with
  | none => true
  | some (g, _) => (depL o).contains g && (match (ops[g]?).bind (·.dst) with | some s => decide (s < n) | none => false)
end
section
variable {P : Program} {ops : Array Oper} {Q : Exit → Act → World → Prop}
theorem flowLG_at {A0 : Act} {I : (Nat → Bool) → (Nat → Value) → World → Prop} : ∀ (l : List Oper) (k i : Nat) (o : Oper), flowLG P ops Q A0 I l k → l[i]? = some o → flowOpG P ops Q A0 I (k + i) o
  | [], _, _, _, _, h => by simp at h
  | p :: r, k, i, o, hl, h => by
    cases i with
    | zero =>
      simp only [List.getElem?_cons_zero, Option.some.injEq] at h
      subst h
      exact hl.1
    | succ i =>
      have h2 := flowLG_at r (k + 1) i o hl.2 (by simpa using h)
      rw [show k + (i + 1) = k + 1 + i by omega]
      exact h2
theorem canon_size {done : Nat → Bool} {v : Nat → Value} : ∀ (l : List Oper) (k : Nat) (a : Act), (canonL done v l k a).tmps.size = a.tmps.size
  | [], _, _ => rfl
  | o :: r, k, a => by
    show (canonL done v r (k + 1) (putIf (done k) o (v k) a)).tmps.size = _
    rw [canon_size r, putIf_size]
theorem canon_defers {done : Nat → Bool} {v : Nat → Value} : ∀ (l : List Oper) (k : Nat) (a : Act), (canonL done v l k a).defers = a.defers
  | [], _, _ => rfl
  | o :: r, k, a => by
    show (canonL done v r (k + 1) (putIf (done k) o (v k) a)).defers = _
    rw [canon_defers r]
    unfold putIf
    split
    · unfold Act.put; split <;> rfl
    · rfl
theorem wp_region_flowsG {id : Nat} {A0 : Act} {w : World} (hm : P.follows .mixedOrders = true) (hap : apartL ops.toList = true) (hgd : guardsOK ops A0.tmps.size = true) (hbk : backs ops = true) (I : (Nat → Bool) → (Nat → Value) → World → Prop)
    (h0 : ∀ v, I (fun _ => false) v w.drew) (hstep : flowLG P ops Q A0 I ops.toList 0)
    (hend : ∀ (v : Nat → Value) (w : World), I (fun k => decide (k < ops.size)) v w → Q .normal (putL v ops.toList 0 A0) w) : (Code.region id ops true).wp P Q A0 w := by
  let J : (Nat → Bool) → (Nat → Value) → World → Prop := fun done v w => I done v w ∧ ∀ j k, (match ops[j]? with | some p => (depL p).contains k | none => false) = true → done j = true → done k = true
  refine wp_region_flowG hm hap hbk J (fun v => ⟨h0 v, fun _ _ _ h => by cases h⟩) (fun i o ho done v w hJ hd hdep => ?_) (fun v w hJ => ?_)
  · obtain ⟨hI, hU⟩ := hJ
    have h1 := flowLG_at ops.toList 0 i o hstep (by rw [Array.getElem?_toList]; exact ho)
    rw [Nat.zero_add] at h1
    have hk0 : ∀ k, (depL o).contains k = true → done k = true := fun k hk => by
      rw [List.contains_iff_mem] at hk
      obtain ⟨e, he, rfl⟩ := List.mem_map.1 hk
      obtain ⟨he1, he2⟩ := List.mem_filter.1 he
      exact hdep e (Array.mem_toList_iff.1 he1) he2
    have hget : ∀ j s, ((ops[j]?).bind (·.dst) == some s && decide (s < A0.tmps.size)) = true → done j = true → (canon ops done v A0).tmps.getD s undef = v j := fun j s hj hdj => by
      rw [Bool.and_eq_true, decide_eq_true_eq] at hj
      obtain ⟨h2, h3⟩ := hj
      have h4 : (ops[j]?).bind (·.dst) = some s := by simpa using h2
      obtain ⟨o', e1, e2⟩ := Option.bind_eq_some_iff.1 h4
      exact canon_eval e1 e2 hap h3 hdj
    have h2 := h1 done v w (canon ops done v A0) hI hd hk0 hU (fun j s hj hdj => (Array.getD_eq_getD_getElem?).symm.trans (hget j s hj hdj)) (fun s hs => (Array.getD_eq_getD_getElem? ..).symm.trans (canon_eval0 hs)) (canon_defers _ _ _)
    have hJ' : ∀ x w', I (setD done i) (setV v i x) w' → J (setD done i) (setV v i x) w' := fun x w' h5 => ⟨h5, fun j k hjk hj => by
      show (decide (k = i) || done k) = true
      by_cases e1 : j = i
      · subst e1
        rw [ho] at hjk
        rw [hk0 k hjk, Bool.or_true]
      · have hj2 : (decide (j = i) || done j) = true := hj
        rw [decide_eq_false e1, Bool.false_or] at hj2
        rw [hU j k hjk hj2, Bool.or_true]⟩
    have up : o.wp P (canon ops done v A0) w (fun a' w' => ∃ x, a' = (canon ops done v A0).put o.dst x ∧ I (setD done i) (setV v i x) w') Q → o.wp P (canon ops done v A0) w (fun a' w' => ∃ x, a' = (canon ops done v A0).put o.dst x ∧ J (setD done i) (setV v i x) w') Q := fun h2 =>
      Oper.wp_mono (fun a' w' h4 => by obtain ⟨x, e, h5⟩ := h4; exact ⟨x, e, hJ' x w' h5⟩) h2
    cases hg : o.guard with
    | none =>
      rw [hg] at h2
      have hw : Region.wanted o (yielded ops (canon ops done v A0).tmps) = true := by unfold Region.wanted; rw [hg]
      exact ⟨fun _ => up h2, fun h => by rw [hw] at h; cases h⟩
    | some p =>
      obtain ⟨g, b⟩ := p
      rw [hg] at h2
      obtain ⟨x, hx, h3, h4⟩ := h2
      have h5 := List.all_eq_true.1 hgd o (by
        obtain ⟨hlt, rfl⟩ := Array.getElem?_eq_some_iff.1 ho
        exact Array.getElem_mem_toList hlt)
      rw [hg] at h5
      simp only [Bool.and_eq_true] at h5
      obtain ⟨h6, h7⟩ := h5
      have hdg := hk0 g h6
      cases hs : (ops[g]?).bind (·.dst) with
      | none => rw [hs] at h7; cases h7
      | some s =>
        rw [hs] at h7
        simp only [decide_eq_true_eq] at h7
        have h8 := hget g s (by rw [hs]; simp [h7]) hdg
        have h9 : yielded ops (canon ops done v A0).tmps g = some x := by
          unfold yielded
          rw [hs]
          have h10 : (canon ops done v A0).tmps[s]? = some (.bool x) := by
            have hsz : s < (canon ops done v A0).tmps.size := by unfold canon; rw [canon_size]; exact h7
            rw [Array.getElem?_eq_getElem hsz]
            rw [Array.getD_eq_getD_getElem?, Array.getElem?_eq_getElem hsz] at h8
            rw [hx] at h8
            exact congrArg some h8
          simp only [Option.bind_some, h10]
        have h11 : Region.wanted o (yielded ops (canon ops done v A0).tmps) = decide (x = b) := by
          unfold Region.wanted
          rw [hg]
          simp only [h9]
          cases x <;> cases b <;> rfl
        refine ⟨fun h => up (h3 (by rw [h11] at h; exact of_decide_eq_true h)), fun h => hJ' _ _ (h4 (by rw [h11] at h; exact of_decide_eq_false h))⟩
  · have h1 := hend v w hJ.1
    rw [← putL_canon (done := fun k => decide (k < ops.size)) v ops.toList 0 A0 (fun j hj => by
      rw [Nat.zero_add]; exact decide_eq_true (by simpa using hj))] at h1
    exact h1
end

end Go.Proofs.YteodnbaogfdjbaaDoor

namespace Go.Proofs.YteodnbaogfdjbaaDoor
open Go.RowKit

section
variable (P : Program) (ops : Array Oper) (Q : Exit → Act → World → Prop) (A0 : Act) (I : (Nat → Bool) → (Nat → Value) → World → Prop)
end
section
variable {P : Program} {ops : Array Oper} {Q : Exit → Act → World → Prop}
end

end Go.Proofs.YteodnbaogfdjbaaDoor

namespace Go.Proofs.YteodnbaogfdjbaaDoor
open Go.RowKit

end Go.Proofs.YteodnbaogfdjbaaDoor

namespace Go.Proofs.YteodnbaogfdjbaaDoor
open Go.RowKit

/-- The length of the first row. -/
def wide (rows : List (List Int)) : Nat := (rows.head?.map List.length).getD 0
end Go.Proofs.YteodnbaogfdjbaaDoor

namespace Go.Proofs.YteodnbaogfdjbaaDoor
open Go.RowKit

theorem Rows2.one {w : World} {v : Value} {t : List Int} (h : Ints w v t) (T : TypeId) : Rows2 (w.alloc (.cells #[v] T)) (.slice (some ⟨w.heap.size, 0, none⟩) 1 1) [t] := by
  refine ⟨_, 1, rfl, by simp, by simp, fun k hk => ⟨_, _, v, rfl, ?_, ?_⟩⟩
  · rw [World.cell?_alloc_at _ _ _ _ rfl]
    have : k = 0 := by simp at hk; omega
    subst this; rfl
  · have : k = 0 := by simp at hk; omega
    subst this
    exact h.below ((Below.refl _ _).alloc (Nat.le_refl _) _)

end Go.Proofs.YteodnbaogfdjbaaDoor

namespace Go.Proofs.YteodnbaogfdjbaaDoor
open Go.RowKit

end Go.Proofs.YteodnbaogfdjbaaDoor

namespace Go.Proofs.YteodnbaogfdjbaaDoor
open Go.RowKit

attribute [local go_sem] Oper.semAt_some

end Go.Proofs.YteodnbaogfdjbaaDoor

namespace Go.Proofs.YteodnbaogfdjbaaDoor
open Go.RowKit

theorem Ints.two (w : World) (a b : Int) (t : TypeId) (ha : R64 a) (hb : R64 b) : Ints (w.alloc (.cells #[.int .i64 a, .int .i64 b] t)) (.slice (some ⟨w.heap.size, 0, none⟩) 2 2) [a, b] := by
  refine ⟨_, 2, rfl, by simp, by simp, by simp [ha, hb], fun k hk => ⟨_, _, rfl, ?_⟩⟩
  rw [World.cell?_alloc_at _ _ _ _ rfl]
  have : k = 0 ∨ k = 1 := by simp at hk; omega
  rcases this with rfl | rfl <;> rfl

/-! The power by squaring. -/
end Go.Proofs.YteodnbaogfdjbaaDoor

namespace Go.Proofs.YteodnbaogfdjbaaDoor
open Go.RowKit

attribute [local go_sem] Oper.semAt_some

theorem set_other {W : World} {b o b' o' : Nat} {u : Value} (h : b ≠ b' ∨ o ≠ o') : (W.setCell ⟨b, o, none⟩ u).cell? ⟨b', o', none⟩ = W.cell? ⟨b', o', none⟩ := by
  have hne : (⟨b, o, none⟩ : Addr) ≠ ⟨b', o', none⟩ := by
    intro e
    have e1 : b = b' := congrArg Addr.block e
    have e2 : o = o' := congrArg Addr.off e
    rcases h with h | h
    · exact h e1
    · exact h e2
  simp [World.cell?_setCell_other, hne]

end Go.Proofs.YteodnbaogfdjbaaDoor

namespace Go.Proofs.YteodnbaogfdjbaaDoor
open Go.RowKit

end Go.Proofs.YteodnbaogfdjbaaDoor

namespace Go.Proofs.YteodnbaogfdjbaaDoor
open Go.RowKit

end Go.Proofs.YteodnbaogfdjbaaDoor

namespace Go.Proofs.YteodnbaogfdjbaaDoor

end Go.Proofs.YteodnbaogfdjbaaDoor

namespace Go.Proofs.YteodnbaogfdjbaaDoor
open Go.RowKit

attribute [local go_sem] Oper.semAt_some

end Go.Proofs.YteodnbaogfdjbaaDoor

namespace Go.Proofs.YteodnbaogfdjbaaDoor
open Go.RowKit

end Go.Proofs.YteodnbaogfdjbaaDoor

namespace Go.Proofs.YteodnbaogfdjbaaDoor
open Go.RowKit

end Go.Proofs.YteodnbaogfdjbaaDoor

namespace Go.Proofs.YteodnbaogfdjbaaDoor
open Go.RowKit

end Go.Proofs.YteodnbaogfdjbaaDoor

namespace Go.Proofs.YteodnbaogfdjbaaDoor
open Go.RowKit

/-- Rows that are right: at most 64, of one width of at most 64, numbers. -/
structure Right (rows : List (List Int)) (m : Nat) : Prop where
  few : rows.length ≤ 64
  narrow : m ≤ 64 ∨ rows = []
  len : ∀ r ∈ rows, r.length = m
  num : ∀ r ∈ rows, ∀ z ∈ r, 0 ≤ z ∧ z < 1073741789

end Go.Proofs.YteodnbaogfdjbaaDoor

namespace Go.Proofs.YteodnbaogfdjbaaDoor
open Go.RowKit

/-- A block of the call's own that holds n integers. -/
structure IBlk (W : World) (b n : Nat) (f : Nat → Int) : Prop where
  cell : ∀ i, i < n → W.cell? ⟨b, i, none⟩ = some (.int .i64 (f i))
  fro : ∀ i, i < n → W.frozen? ⟨b, i, none⟩ = false

theorem IBlk.below {W W' : World} {b n S : Nat} {f : Nat → Int} (h : IBlk W b n f) (hb : Below S W W') (hS : b < S) : IBlk W' b n f :=
  ⟨fun i hi => by rw [hb.cell (p := ⟨b, i, none⟩) hS]; exact h.cell i hi, fun i hi => by rw [hb.frozen (p := ⟨b, i, none⟩) hS]; exact h.fro i hi⟩
theorem IBlk.made (W : World) (n : Nat) (t : TypeId) : IBlk (W.alloc (.cells (madeCells #[.int .i64 0] n) t)) W.heap.size n (fun _ => 0) :=
  ⟨fun i hi => by rw [World.cell?_alloc_at _ _ _ _ rfl]; simp [madeCells, hi, Nat.mod_one], fun i _ => World.frozen?_alloc_at _ _ _ _ rfl⟩
theorem IBlk.set {W : World} {b n k : Nat} {f : Nat → Int} (h : IBlk W b n f) (z : Int) : IBlk (W.setCell ⟨b, k, none⟩ (.int .i64 z)) b n (fun i => if i = k then z else f i) :=
  ⟨fun i hi => by
    by_cases e : k = i
    · subst e
      show _ = some (Value.int .i64 (if k = k then z else f k))
      rw [if_pos rfl]
      exact World.cell?_setCell_same' _ _ _ (by rw [h.cell k hi]; rfl)
    · show _ = some (Value.int .i64 (if i = k then z else f i))
      rw [if_neg (fun e' => e e'.symm), set_other (.inr e)]; exact h.cell i hi, fun i hi => by rw [World.frozen?_setCell]; exact h.fro i hi⟩
theorem IBlk.other {W : World} {b n b' o : Nat} {f : Nat → Int} (h : IBlk W b n f) (hb : b' ≠ b) (v : Value) : IBlk (W.setCell ⟨b', o, none⟩ v) b n f :=
  ⟨fun i hi => by rw [set_other (.inl hb)]; exact h.cell i hi, fun i hi => by rw [World.frozen?_setCell]; exact h.fro i hi⟩
end Go.Proofs.YteodnbaogfdjbaaDoor

namespace Go.Proofs.YteodnbaogfdjbaaDoor
open Go.RowKit

end Go.Proofs.YteodnbaogfdjbaaDoor

namespace Go.Proofs.YteodnbaogfdjbaaDoor
open Go.RowKit

end Go.Proofs.YteodnbaogfdjbaaDoor

namespace Go.Proofs.YteodnbaogfdjbaaDoor
open Go.RowKit

theorem below_drewN {B : Nat} {a w : World} (h : Below B a w) (n : Nat) : Below B a (w.drewN n) := ⟨h.os, h.tape, h.output, h.size, h.block⟩
end Go.Proofs.YteodnbaogfdjbaaDoor
