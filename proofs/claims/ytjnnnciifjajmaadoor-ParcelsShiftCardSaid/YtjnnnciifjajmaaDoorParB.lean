/- Package parcels: conditions, and the error of the first that does not hold. -/
import Derived.Test.YtjnnnciifjajmaaDoorParA
import Derived.Laws.EntriesVeiled
namespace Go.Proofs.YtjnnnciifjajmaaDoor
open Go.RowKit FP

/-- The blocks from lo on are as they were. -/
structure Keep (lo : Nat) (w w' : World) : Prop where
  size : w.heap.size ≤ w'.heap.size
  block : ∀ k, lo ≤ k → k < w.heap.size → w'.heap[k]? = w.heap[k]?
theorem Keep.below {lo : Nat} {w w' : World} (h : Below w.heap.size w w') : Keep lo w w' := ⟨h.size, fun k _ hk => h.block k hk⟩
theorem Keep.trans {lo : Nat} {a b c : World} (h : Keep lo a b) (k : Keep lo b c) : Keep lo a c :=
  ⟨Nat.le_trans h.size k.size, fun x h1 h2 => (k.block x h1 (Nat.lt_of_lt_of_le h2 h.size)).trans (h.block x h1 h2)⟩
theorem Keep.low {lo lo' : Nat} {w w' : World} (h : Keep lo w w') (hl : lo ≤ lo') : Keep lo' w w' := ⟨h.size, fun k h1 h2 => h.block k (Nat.le_trans hl h1) h2⟩
theorem Keep.setCell {lo : Nat} {w w' : World} (h : Keep lo w w') {b o : Nat} (hb : b < lo) (v : Value) : Keep lo w (w'.setCell ⟨b, o, none⟩ v) :=
  ⟨by simpa [World.setCell] using h.size, fun k h1 h2 => (Below.heap_setCell _ _ _ _ (by show k ≠ b; omega)).trans (h.block k h1 h2)⟩
theorem Keep.refl (lo : Nat) (w : World) : Keep lo w w := ⟨Nat.le_refl _, fun _ _ _ => rfl⟩
theorem Keep.cell {lo : Nat} {w w' : World} (h : Keep lo w w') {b o : Nat} {v : Value} (hb : lo ≤ b) (hc : w.cell? ⟨b, o, none⟩ = some v) : w'.cell? ⟨b, o, none⟩ = some v := by
  have := h.block b hb (lt_of_cell hc)
  unfold World.cell? at hc ⊢
  rw [this]; exact hc
/-- The callee answers b, whatever has been laid behind, or written below lo. -/
def CondF (lo : Nat) (w : World) (f : FuncId) (cap : Array Value) (b : Bool) : Prop :=
  Goes Tryd.prog f ∧ ∀ w', Keep lo w w' → Calls Tryd.prog f cap w' fun e w'' => e = .returned (.bool b) ∧ Below w'.heap.size w' w''
theorem CondF.keep {lo : Nat} {w w' : World} {f : FuncId} {cap : Array Value} {b : Bool} (h : CondF lo w f cap b) (hb : Keep lo w w') : CondF lo w' f cap b :=
  ⟨h.1, fun w'' h2 => h.2 w'' (hb.trans h2)⟩
theorem CondF.low {lo lo' : Nat} {w : World} {f : FuncId} {cap : Array Value} {b : Bool} (h : CondF lo' w f cap b) (hl : lo ≤ lo') : CondF lo w f cap b :=
  ⟨h.1, fun w'' h2 => h.2 w'' (h2.low hl)⟩
/-- A call leaves a condition. -/
def CondR (b : Bool) (e : Int) (w : World) (r : Ending) (w' : World) : Prop :=
  ∃ f cap, r = .returned (.agg #[.func (.func f) #[] cap, .int .i64 e]) ∧ CondF w.heap.size w' f cap b ∧ Below w.heap.size w w'

set_option maxRecDepth 100000 in
theorem goes_within1 : Goes Tryd.prog 68 := goes_of Tryd.func68 (by kernel_rfl) rfl
set_option maxRecDepth 100000 in
theorem goes_element1 : Goes Tryd.prog 67 := goes_of Tryd.func67 (by kernel_rfl) rfl
set_option maxRecDepth 100000 in
theorem goes_right1 : Goes Tryd.prog 72 := goes_of Tryd.func72 (by kernel_rfl) rfl

set_option maxRecDepth 100000 in
set_option maxHeartbeats 400000 in
theorem within1_any (lb nb hb : Nat) (n lo hi : Int) (w : World) (c0 : w.cell? ⟨lb, 0, none⟩ = some (.int .i64 lo)) (c1 : w.cell? ⟨nb, 0, none⟩ = some (.int .i64 n)) (c2 : w.cell? ⟨hb, 0, none⟩ = some (.int .i64 hi)) :
    Calls Tryd.prog 68 #[.pointer (some ⟨lb, 0, none⟩), .pointer (some ⟨nb, 0, none⟩), .pointer (some ⟨hb, 0, none⟩)] w fun e w' => e = .returned (.bool (inB n lo hi)) ∧ Below w.heap.size w w' := by
  by_cases h1 : lo ≤ n
  · have H := Lib.hid (show inB n lo hi = decide (n ≤ hi) by unfold inB; rw [decide_eq_true h1, Bool.true_and])
    go_enter Tryd.func68, Tryd.ntmps68
    go_wp2_with fail
    go_ret
    exact ⟨ret_bool H.out.symm, Below.refl _ _⟩
  · have H := Lib.hid (show inB n lo hi = false by unfold inB; rw [decide_eq_false h1, Bool.false_and])
    go_enter Tryd.func68, Tryd.ntmps68
    go_wp2_with fail
    go_ret
    exact ⟨ret_bool H.out.symm, Below.refl _ _⟩

set_option maxRecDepth 100000 in
set_option maxHeartbeats 400000 in
theorem element1_any (nb : Nat) (n : Int) (w : World) (hn : R64 n) (c1 : w.cell? ⟨nb, 0, none⟩ = some (.int .i64 n)) :
    Calls Tryd.prog 67 #[.pointer (some ⟨nb, 0, none⟩)] w fun e w' => e = .returned (.bool (elB n)) ∧ Below w.heap.size w w' := by
  go_enter Tryd.func67, Tryd.ntmps67
  go_wp2_with fail
  with_reducible refine (valid_any _ _ hn).mono ?_
  rintro e w1 ⟨rfl, rfl⟩
  go_wp2_with fail
  go_ret
  exact ⟨rfl, Below.refl _ _⟩

set_option maxRecDepth 100000 in
set_option maxHeartbeats 1000000 in
theorem within_any (n lo hi e : Int) (w : World) :
    Calls Tryd.prog 48 #[.int .i64 n, .int .i64 lo, .int .i64 hi, .int .i64 e] w (CondR (inB n lo hi) e w) := by
  have hmf : ∀ (fn : Fn) (first cap : Array Value) (w : World), (Instr.makeFunc fn first cap).run Tryd.prog w = .ok (.func fn first cap) w := fun _ _ _ _ => rfl
  go_enter Tryd.func48, Tryd.ntmps48
  go_wp2_with fail
  refine bodyPost_ret (v := .agg #[.func (.func 68) #[] #[.pointer (some ⟨w.heap.size + 1, 0, none⟩), .pointer (some ⟨w.heap.size, 0, none⟩), .pointer (some ⟨w.heap.size + 1 + 1, 0, none⟩)], .int .i64 e]) (by simp [results, Tryd.results48, go_sem]) rfl ?_
  refine ⟨_, _, rfl, ⟨goes_within1, fun w' hb => ?_⟩, ?_⟩
  · exact within1_any _ _ _ n lo hi w' (hb.cell (by omega) (by simp [go_sem])) (hb.cell (by omega) (by simp [go_sem])) (hb.cell (by omega) (by simp [go_sem]))
  · repeat (first | exact Below.refl _ _ | refine Below.setCell ?_ (by simp; try omega) _ | refine Below.alloc ?_ (by simp; try omega) _ | refine Below.drew ?_)

set_option maxRecDepth 100000 in
set_option maxHeartbeats 1000000 in
theorem element_any (n e : Int) (w : World) (hn : R64 n) :
    Calls Tryd.prog 46 #[.int .i64 n, .int .i64 e] w (CondR (elB n) e w) := by
  have hmf : ∀ (fn : Fn) (first cap : Array Value) (w : World), (Instr.makeFunc fn first cap).run Tryd.prog w = .ok (.func fn first cap) w := fun _ _ _ _ => rfl
  go_enter Tryd.func46, Tryd.ntmps46
  go_wp2_with fail
  refine bodyPost_ret (v := .agg #[.func (.func 67) #[] #[.pointer (some ⟨w.heap.size, 0, none⟩)], .int .i64 e]) (by simp [results, Tryd.results46, go_sem]) rfl ?_
  refine ⟨_, _, rfl, ⟨goes_element1, fun w' hb => ?_⟩, ?_⟩
  · exact element1_any _ n w' hn (hb.cell (Nat.le_refl _) (by simp [go_sem]))
  · repeat (first | exact Below.refl _ _ | refine Below.setCell ?_ (by simp; try omega) _ | refine Below.alloc ?_ (by simp; try omega) _ | refine Below.drew ?_)

end Go.Proofs.YtjnnnciifjajmaaDoor
