/- Package group: Pow of what is no element, Mul; and the reference's Pow and Mul. -/
import Derived.Test.YtjnnnciifjajmaaDoorPow
namespace Go.Proofs.YtjnnnciifjajmaaDoor
open Go.RowKit FP

set_option maxRecDepth 100000 in
set_option maxHeartbeats 400000 in
theorem pow_no (a n : Int) (w : World) (hr : R64 a) (ha : ¬ El a) :
    Calls Tryd.prog 20 #[.int .i64 a, .int .i64 n] w fun e w' => e = .returned (.tuple #[.int .i64 0, .int .i64 100]) ∧ Below w.heap.size w w' := by
  have hb := Lib.hid (elB_false.2 ha)
  refine calls_of_range Tryd.func20 rfl ?_
  simp only [Tryd.ntmps20, List.size_toArray, List.length_cons, List.length_nil, Nat.reduceAdd, Nat.reduceSub, Array.replicate_succ, Array.replicate_zero, List.push_toArray, List.append_toArray, List.nil_append, List.cons_append]
  go_wp2_with fail
  with_reducible refine (valid_any _ _ hr).mono ?_
  rintro e w1 ⟨rfl, rfl⟩
  rw [hb.out]
  go_wp2_with fail
  refine leaves_marks3 (B := w.heap.size) (v := .tuple #[.int .i64 0, .int .i64 100]) (fun W => W.cell? ⟨w.heap.size, 0, none⟩ = some (.int .i64 0)) ?_ ?_ ?_ _ _ trivial ?_ ⟨rfl, ?_⟩
  · intro W1 h1
    simp [results, Tryd.results20, go_sem, h1]
  · exact fun W1 W2 h hs => sim_cell hs h
  · rintro W1 W2 ⟨h1, h2⟩ hs
    exact ⟨h1, h2.trans (sim_below hs)⟩
  · simp [go_sem]
  · repeat (first | exact Below.refl _ _ | refine Below.setCell ?_ (by simp) _ | refine Below.alloc ?_ (by simp) _)

theorem El.r64 {a : Int} (h : El a) : R64 a := ⟨by have := h.lo; omega, by have := h.hi; omega⟩
theorem el_prod {a b : Int} (ha : El a) (hb : El b) : 0 ≤ a * b ∧ a * b ≤ 4611685721957729241 := mp_prod ha.num hb.num

set_option maxRecDepth 100000 in
set_option maxHeartbeats 400000 in
theorem mul_yes (a b : Int) (w : World) (ha : El a) (hb : El b) :
    Calls Tryd.prog 63 #[.int .i64 a, .int .i64 b] w fun e w' => e = .returned (.tuple #[.int .i64 (a * b % 2147483579), .int .i64 0]) ∧ w = w' := by
  have h1 := Lib.hid (elB_iff.2 ha)
  have h2 := Lib.hid (elB_iff.2 hb)
  obtain ⟨q1, q2⟩ := el_prod ha hb
  have r1 := ha.r64
  have r2 := hb.r64
  clear ha hb
  go_enter Tryd.func63, Tryd.ntmps63
  go_wp2_with fail
  with_reducible refine (valid_any _ _ r1).mono ?_
  rintro e w1 ⟨rfl, rfl⟩
  rw [h1.out]
  go_wp2_with fail
  with_reducible refine (valid_any _ _ r2).mono ?_
  rintro e w1 ⟨rfl, rfl⟩
  rw [h2.out]
  go_wp2_with fail
  go_ret2
  exact ⟨rfl, rfl⟩

set_option maxRecDepth 100000 in
set_option maxHeartbeats 400000 in
theorem mul_no (a b : Int) (w : World) (r1 : R64 a) (r2 : R64 b) (h : ¬ El a ∨ ¬ El b) :
    Calls Tryd.prog 63 #[.int .i64 a, .int .i64 b] w fun e w' => e = .returned (.tuple #[.int .i64 0, .int .i64 100]) ∧ w = w' := by
  by_cases ha : El a
  · have h1 := Lib.hid (elB_iff.2 ha)
    have h2 := Lib.hid (elB_false.2 (h.resolve_left (fun x => x ha)))
    clear ha h
    go_enter Tryd.func63, Tryd.ntmps63
    go_wp2_with fail
    with_reducible refine (valid_any _ _ r1).mono ?_
    rintro e w1 ⟨rfl, rfl⟩
    rw [h1.out]
    go_wp2_with fail
    with_reducible refine (valid_any _ _ r2).mono ?_
    rintro e w1 ⟨rfl, rfl⟩
    rw [h2.out]
    go_wp2_with fail
    go_ret2
    exact ⟨rfl, rfl⟩
  · have h1 := Lib.hid (elB_false.2 ha)
    clear ha h
    go_enter Tryd.func63, Tryd.ntmps63
    go_wp2_with fail
    with_reducible refine (valid_any _ _ r1).mono ?_
    rintro e w1 ⟨rfl, rfl⟩
    rw [h1.out]
    go_wp2_with fail
    go_ret2
    exact ⟨rfl, rfl⟩

/-! The reference. -/
set_option maxRecDepth 100000 in
set_option maxHeartbeats 400000 in
theorem rmul_yes (a b : Int) (w : World) (ha : El a) (hb : El b) :
    Calls Tryd.prog 64 #[.int .i64 a, .int .i64 b] w fun e w' => e = .returned (.tuple #[.int .i64 (a * b % 2147483579), .int .i64 0]) ∧ w = w' := by
  have h1 := Lib.hid (elB_iff.2 ha)
  have h2 := Lib.hid (elB_iff.2 hb)
  obtain ⟨q1, q2⟩ := el_prod ha hb
  have r1 := ha.r64
  have r2 := hb.r64
  clear ha hb
  go_enter Tryd.func64, Tryd.ntmps64
  go_wp2_with fail
  with_reducible refine (rvalid_any _ _ r1).mono ?_
  rintro e w1 ⟨rfl, rfl⟩
  rw [h1.out]
  go_wp2_with fail
  with_reducible refine (rvalid_any _ _ r2).mono ?_
  rintro e w1 ⟨rfl, rfl⟩
  rw [h2.out]
  go_wp2_with fail
  go_ret2
  exact ⟨rfl, rfl⟩

theorem ex_tmod (n : Int) : (if n.tmod 1073741789 < 0 then n.tmod 1073741789 + 1073741789 else n.tmod 1073741789) = (ex n : Nat) := by
  rw [ex_cast]
  by_cases h0 : 0 ≤ n
  · rw [Int.tmod_eq_emod_of_nonneg h0, if_neg (by omega)]
  · have h1 : n.tmod 1073741789 = -((-n) % 1073741789) := by
      have h1 : n.tmod 1073741789 = (-(-n)).tmod 1073741789 := by rw [Int.neg_neg]
      rw [h1, Int.neg_tmod, Int.tmod_eq_emod_of_nonneg (by omega)]
    rw [h1]; split <;> omega

set_option maxRecDepth 100000 in
set_option maxHeartbeats 400000 in
theorem exponent_any (n : Int) (w : World) (hn : R64 n) :
    Calls Tryd.prog 59 #[.int .i64 n] w fun e w' => e = .returned (.int .i64 (ex n : Nat)) ∧ w = w' := by
  obtain ⟨h1, h2⟩ := hn
  have hm := Lib.hid (ex_tmod n)
  obtain ⟨hl, hh⟩ := qmod_lo n
  by_cases hn : n.tmod 1073741789 < 0
  · go_enter Tryd.func59, Tryd.ntmps59
    go_wp2
    go_ret
    exact ⟨ret_int (by rw [← hm.out, if_pos hn]), rfl⟩
  · go_enter Tryd.func59, Tryd.ntmps59
    go_wp2
    go_ret
    exact ⟨ret_int (by rw [← hm.out, if_neg (Int.not_lt.2 hn)]), rfl⟩

set_option maxRecDepth 100000 in
set_option maxHeartbeats 400000 in
theorem rpow_yes (a n : Int) (w : World) (ha : El a) (hn : R64 n) :
    Calls Tryd.prog 32 #[.int .i64 a, .int .i64 n] w fun e w' => e = .returned (.tuple #[.int .i64 (powE a n), .int .i64 0]) ∧ w = w' := by
  have h1 := Lib.hid (elB_iff.2 ha)
  have hx := ex_lt n
  go_enter Tryd.func32, Tryd.ntmps32
  go_wp2_with fail
  with_reducible refine (rvalid_any _ _ ha.r64).mono ?_
  rintro e w1 ⟨rfl, rfl⟩
  rw [h1.out]
  go_wp2_with fail
  with_reducible refine (exponent_any _ _ hn).mono ?_
  rintro e w1 ⟨rfl, rfl⟩
  go_wp2_with fail
  with_reducible refine (rpower_any a (ex n) _ ha.num (by omega)).mono ?_
  rintro e w1 ⟨rfl, rfl⟩
  go_wp2_with fail
  go_ret2
  exact ⟨rfl, rfl⟩

set_option maxRecDepth 100000 in
set_option maxHeartbeats 400000 in
theorem rpow_no (a n : Int) (w : World) (hr : R64 a) (ha : ¬ El a) :
    Calls Tryd.prog 32 #[.int .i64 a, .int .i64 n] w fun e w' => e = .returned (.tuple #[.int .i64 0, .int .i64 100]) ∧ w = w' := by
  have h1 := Lib.hid (elB_false.2 ha)
  go_enter Tryd.func32, Tryd.ntmps32
  go_wp2_with fail
  with_reducible refine (rvalid_any _ _ hr).mono ?_
  rintro e w1 ⟨rfl, rfl⟩
  rw [h1.out]
  go_wp2_with fail
  go_ret2
  exact ⟨rfl, rfl⟩

end Go.Proofs.YtjnnnciifjajmaaDoor
