/- The reference of parcels: what is right; the examples. -/
import Derived.Test.YtggnipkfliompaaDoorMParF
namespace Go.Proofs.YtggnipkfliompaaDoor
open Go.RowKit FP


set_option maxRecDepth 100000 in
theorem number35_any (n : Int) (w : World) : Calls Tryd.prog 19 #[.int .i64 n] w fun r w' => r = .returned (.bool (inB n 0 1073741788)) ∧ w = w' := by
  by_cases h1 : 0 ≤ n
  · have H := Lib.hid (show inB n 0 1073741788 = decide (n < 1073741789) by unfold inB; rw [decide_eq_true h1, Bool.true_and, lt_le_dec])
    go_enter Tryd.func19, Tryd.ntmps19
    go_wp2_with fail
    go_ret
    exact ⟨ret_bool H.out.symm, rfl⟩
  · have H := Lib.hid (show inB n 0 1073741788 = false by unfold inB; rw [decide_eq_false h1, Bool.false_and])
    go_enter Tryd.func19, Tryd.ntmps19
    go_wp2_with fail
    go_ret
    exact ⟨ret_bool H.out.symm, rfl⟩
set_option maxRecDepth 100000 in
theorem row35_any (n : Int) (w : World) : Calls Tryd.prog 17 #[.int .i64 n] w fun r w' => r = .returned (.bool (inB n 0 63)) ∧ w = w' := by
  by_cases h1 : 0 ≤ n
  · have H := Lib.hid (show inB n 0 63 = decide (n < 64) by unfold inB; rw [decide_eq_true h1, Bool.true_and, lt_le_64])
    go_enter Tryd.func17, Tryd.ntmps17
    go_wp2_with fail
    go_ret
    exact ⟨ret_bool H.out.symm, rfl⟩
  · have H := Lib.hid (show inB n 0 63 = false by unfold inB; rw [decide_eq_false h1, Bool.false_and])
    go_enter Tryd.func17, Tryd.ntmps17
    go_wp2_with fail
    go_ret
    exact ⟨ret_bool H.out.symm, rfl⟩

theorem cell_agg3 (w : World) (a b c : Int) (t : TypeId) : Below w.heap.size w (w.alloc (.cells #[.int .i64 a, .int .i64 b, .int .i64 c] t)) ∧ (w.alloc (.cells #[.int .i64 a, .int .i64 b, .int .i64 c] t)).cell? ⟨w.heap.size, 0, none⟩ = some (.int .i64 a) ∧ (w.alloc (.cells #[.int .i64 a, .int .i64 b, .int .i64 c] t)).cell? ⟨w.heap.size, 1, none⟩ = some (.int .i64 b) ∧ (w.alloc (.cells #[.int .i64 a, .int .i64 b, .int .i64 c] t)).cell? ⟨w.heap.size, 2, none⟩ = some (.int .i64 c) := by
  have h := World.alloc_heap_new w (.cells #[.int .i64 a, .int .i64 b, .int .i64 c] t)
  exact ⟨below_new _ _ _, row_cell h rfl, row_cell h rfl, row_cell h rfl⟩

set_option maxRecDepth 100000 in
set_option maxHeartbeats 1000000 in
theorem right35_any (row pt c : Int) (w : World) (hp : R64 pt) :
    Calls Tryd.prog 7 #[.agg #[.int .i64 row, .int .i64 pt, .int .i64 c]] w fun r w' => r = .returned (.bool (rightB row pt c)) ∧ Below w.heap.size w w' := by
  obtain ⟨hb, c0, c1, c2⟩ := cell_agg3 w row pt c 34
  have HB := Lib.hid hb
  clear hb
  go_enter Tryd.func7, Tryd.ntmps7
  go_wp2_with fail
  with_reducible refine (row35_any row _).mono ?_
  rintro r w1 ⟨rfl, rfl⟩
  cases e1 : inB row 0 63 with
  | false =>
    have E1 := Lib.hid e1
    clear e1
    go_wp2_with fail
    go_ret
    exact ⟨ret_bool (by unfold rightB; rw [E1.out]; rfl), HB.out⟩
  | true =>
    have E1 := Lib.hid e1
    clear e1
    go_wp2_with fail
    with_reducible refine (rvalid_any _ _ hp).mono ?_
    rintro r w1 ⟨rfl, rfl⟩
    cases e2 : elB pt with
    | false =>
      have E2 := Lib.hid e2
      clear e2
      go_wp2_with fail
      go_ret
      exact ⟨ret_bool (by unfold rightB; rw [E1.out, E2.out]; rfl), HB.out⟩
    | true =>
      have E2 := Lib.hid e2
      clear e2
      go_wp2_with fail
      with_reducible refine (number35_any c _).mono ?_
      rintro r w1 ⟨rfl, rfl⟩
      go_wp2_with fail
      go_ret
      exact ⟨ret_bool (by unfold rightB; rw [E1.out, E2.out, Bool.true_and, Bool.true_and]), HB.out⟩

/-! The examples. -/
end Go.Proofs.YtggnipkfliompaaDoor
