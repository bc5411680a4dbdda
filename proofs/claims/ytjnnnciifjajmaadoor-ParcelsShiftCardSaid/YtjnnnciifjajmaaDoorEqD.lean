/- Package equal: Prove. -/
import Derived.Test.YtjnnnciifjajmaaDoorEqC
import Derived.Deep.RegionWith
import Derived.Lib.MinMax
namespace Go.Proofs.YtjnnnciifjajmaaDoor
open Go.RowKit FP

/-- The nonce of a proof, its E, its S. -/
def prN (x a : Int) : Int := max 1 (hashG (strB tagN) (encL [x, a]))
def prE (x a : Int) : Int := chal (powE 4 x) a (powE a x) (powE 4 (prN x a)) (powE a (prN x a))
def prS (x a : Int) : Int := (prN x a + prE x a * x) % 1073741789
theorem prN_num (x a : Int) : 1 ≤ prN x a ∧ prN x a < 1073741789 := by
  unfold prN
  have := hashG_num (strB tagN) (encL [x, a])
  omega
theorem prE_num (x a : Int) : 0 ≤ prE x a ∧ prE x a < 1073741789 := chal_num _ _ _ _ _
theorem prS_num (x a : Int) : 0 ≤ prS x a ∧ prS x a < 1073741789 := by unfold prS; omega

set_option maxRecDepth 100000 in
set_option maxHeartbeats 2000000 in
theorem prove_key (x a : Int) (w : World) (h : x < 1 ∨ 1073741789 ≤ x) (hx : R64 x) :
    Calls Tryd.prog 11 #[.int .i64 x, .int .i64 a] w fun e w' => e = .returned (.tuple #[.int .i64 0, .agg #[.int .i64 0, .int .i64 0], .int .i64 110]) ∧ Below w.heap.size w w' := by
  obtain ⟨x1, x2⟩ := hx
  by_cases h1 : x < 1
  · go_enter Tryd.func11, Tryd.ntmps11
    go_wp2_with fail
    go_region_with (fail)
    all_goals
      go_wp2_with fail
      refine bodyPost_ret (v := .tuple #[.int .i64 0, .agg #[.int .i64 0, .int .i64 0], .int .i64 110]) (by simp [results, Tryd.results11, go_sem]) rfl ⟨rfl, ?_⟩
      repeat (first | exact Below.refl _ _ | refine Below.drew ?_ | refine Below.setCell ?_ (by simp) _ | refine Below.alloc ?_ (by simp) _)
  · have h2 : 1073741789 ≤ x := by omega
    go_enter Tryd.func11, Tryd.ntmps11
    go_wp2_with fail
    go_region_with (fail)
    all_goals
      go_wp2_with fail
      refine bodyPost_ret (v := .tuple #[.int .i64 0, .agg #[.int .i64 0, .int .i64 0], .int .i64 110]) (by simp [results, Tryd.results11, go_sem]) rfl ⟨rfl, ?_⟩
      repeat (first | exact Below.refl _ _ | refine Below.drew ?_ | refine Below.setCell ?_ (by simp) _ | refine Below.alloc ?_ (by simp) _)

theorem below_cells2 (w : World) (t : TypeId) : ∃ W, W = w.alloc (.cells #[.int .i64 0, .int .i64 0] t) ∧ Below w.heap.size w W ∧ W.heap[w.heap.size]? = some (.cells #[.int .i64 0, .int .i64 0] t (0, 0)) :=
  ⟨_, rfl, below_new _ _ _, World.alloc_heap_new _ _⟩

set_option maxRecDepth 100000 in
set_option maxHeartbeats 2000000 in
theorem prove_group (x a : Int) (w : World) (h1 : 1 ≤ x) (h2 : x < 1073741789) (hr : R64 a) (ha : ¬ El a) :
    Calls Tryd.prog 11 #[.int .i64 x, .int .i64 a] w fun e w' => e = .returned (.tuple #[.int .i64 0, .agg #[.int .i64 0, .int .i64 0], .int .i64 100]) ∧ Below w.heap.size w w' := by
  obtain ⟨W1, hW1, hb1, hr1⟩ := below_cells2 w 23
  have HW1 := Lib.hid hW1
  clear hW1
  go_enter Tryd.func11, Tryd.ntmps11
  go_wp2_with fail
  rw [← HW1.out]
  with_reducible refine (pow_no a x _ hr ha).mono ?_
  rintro e w2 ⟨rfl, hb2⟩
  have hr2 := (hb2.block _ (row_lt hr1)).trans hr1
  have c0 : w2.cell? ⟨w.heap.size, 0, none⟩ = some (.int .i64 0) := row_cell hr2 rfl
  have c1 : w2.cell? ⟨w.heap.size, 1, none⟩ = some (.int .i64 0) := row_cell hr2 rfl
  have f0 := row_free hr2 0
  have f1 := row_free hr2 1
  have hb := hb1.trans (hb2.mono hb1.size)
  clear hr1 hr2 hb1 hb2
  go_wp2_with fail
  go_region_with (fail)
  all_goals
    go_wp2_with fail
    refine bodyPost_ret (v := .tuple #[.int .i64 0, .agg #[.int .i64 0, .int .i64 0], .int .i64 100]) (by simp [results, Tryd.results11, go_sem, c0, c1]) rfl ⟨rfl, ?_⟩
    repeat (first | exact hb | refine Below.drew ?_ | refine Below.setCell ?_ (by simp) _ | refine Below.alloc ?_ (by simp) _)

set_option maxRecDepth 100000 in
set_option maxHeartbeats 2000000 in
theorem prove_yes (x a : Int) (w : World) (h1 : 1 ≤ x) (h2 : x < 1073741789) (ha : El a) (hG : Glob w) :
    Calls Tryd.prog 11 #[.int .i64 x, .int .i64 a] w fun e w' => e = .returned (.tuple #[.int .i64 (powE a x), .agg #[.int .i64 (prE x a), .int .i64 (prS x a)], .int .i64 0]) ∧ Below w.heap.size w w' := by
  obtain ⟨W1, hW1, hb1, hr1⟩ := below_cells2 w 23
  have HW1 := Lib.hid hW1
  clear hW1
  have hx64 : R64 x := ⟨by omega, by omega⟩
  obtain ⟨n1, n2⟩ := prN_num x a
  have hN64 : R64 (prN x a) := ⟨by omega, by omega⟩
  have HNV : Hid (max 1 (hashG (strB tagN) (encL [x, a])) = prN x a) := Lib.hid rfl
  obtain ⟨E1, E2⟩ := prE_num x a
  have HEV : Hid (chal (powE 4 x) a (powE a x) (powE 4 (prN x a)) (powE a (prN x a)) = prE x a) := Lib.hid rfl
  have HSV : Hid ((prN x a + prE x a * x) % 1073741789 = prS x a) := Lib.hid rfl
  have hm1 : 0 ≤ prE x a * x := Int.mul_nonneg E1 (by omega)
  have hm2 : prE x a * x ≤ 1073741789 * 1073741789 := Int.mul_le_mul (by omega) (by omega) (by omega) (by omega)
  have HM1 := Lib.hid hm1
  have HM2 : Hid (prE x a * x ≤ 1152921429444920521) := Lib.hid (by omega)
  generalize prN x a = kk at *
  generalize prE x a = EE at *
  generalize prS x a = SS at *
  clear hm1 hm2
  go_enter Tryd.func11, Tryd.ntmps11
  go_wp2_with fail
  rw [← HW1.out]
  with_reducible refine (pow_yes a x _ ha hx64).mono ?_
  rintro e w2 ⟨rfl, hb2⟩
  have hb3 := hb1.trans (hb2.mono hb1.size)
  go_wp2_with fail
  with_reducible refine (epow_any 4 x _ el_four hx64).mono ?_
  rintro e w3 ⟨rfl, hb4⟩
  have hb5 := hb3.trans (hb4.mono hb3.size)
  go_wp2_with fail
  refine (text_any _ [x, a] _ (pair_ints _ x a _ _ rfl hx64 ha.r64) (by simp)).mono ?_
  rintro e w4 ⟨v4, rfl, hv4, hb6⟩
  have hb7 := (hb5.alloc hb5.size (.cells #[.int .i64 x, .int .i64 a] 3))
  have hb8 := hb7.trans (hb6.mono hb7.size)
  have HV4 := Lib.hid hv4
  clear hv4
  go_wp2_with fail
  refine (hash_any tagN v4 (encL [x, a]) _ (by decide) HV4.out (encL_pos _) (by have := encL_len (zs := [x, a]) (by intro z hz; simp at hz; rcases hz with rfl | rfl; exact hx64; exact ha.r64) (by simp); simp at this; omega) (hG.below hb8)).mono ?_
  rintro e w5 ⟨rfl, hb9⟩
  have hb10 := hb8.trans (hb9.mono hb8.size)
  generalize hashG (strB tagN) (encL [x, a]) = hh at *
  have hg10 := hG.below hb10
  have hr10 : w5.heap[w.heap.size]? = some (.cells #[.int .i64 0, .int .i64 0] 23 (0, 0)) := by
    have e1 := (hb2.block _ (row_lt hr1)).trans hr1
    have e2 := (hb4.block _ (row_lt e1)).trans e1
    have e3 := ((below_new w3 #[.int .i64 x, .int .i64 a] 3).block _ (row_lt e2)).trans e2
    have e4 := (hb6.block _ (row_lt e3)).trans e3
    exact (hb9.block _ (row_lt e4)).trans e4
  clear hr1 hb1 hb2 hb3 hb4 hb5 hb6 hb7 hb8 hb9 HV4
  go_wp2_with fail
  rw [HNV.out]
  with_reducible refine (epow_any 4 kk _ el_four hN64).mono ?_
  rintro e w6 ⟨rfl, hb11⟩
  have hb12 := hb10.trans (hb11.mono hb10.size)
  have hr12 := (hb11.block _ (row_lt hr10)).trans hr10
  clear hr10 hb11
  go_wp2_with fail
  with_reducible refine (epow_any a kk _ ha hN64).mono ?_
  rintro e w7 ⟨rfl, hb13⟩
  have hb14 := hb12.trans (hb13.mono hb12.size)
  have hr14 := (hb13.block _ (row_lt hr12)).trans hr12
  have hg14 := hG.below hb14
  have HRS := Lib.hid (show ∀ z ∈ [powE 4 x, a, powE a x, powE 4 kk, powE a kk], R64 z by intro z hz; simp at hz; rcases hz with rfl | rfl | rfl | rfl | rfl; exact (el_powE el_four x).r64; exact ha.r64; exact (el_powE ha x).r64; exact (el_powE el_four kk).r64; exact (el_powE ha kk).r64)
  clear hr12 hb13 hb12 hb10 hg10
  go_wp2_with fail
  with_reducible refine (challenge_any _ _ _ _ _ _ HRS.out hg14).mono ?_
  rintro e w8 ⟨rfl, hb15⟩
  rw [HEV.out]
  have hb16 := hb14.trans (hb15.mono hb14.size)
  have hr16 := (hb15.block _ (row_lt hr14)).trans hr14
  have c0 : w8.cell? ⟨w.heap.size, 0, none⟩ = some (.int .i64 0) := row_cell hr16 rfl
  have c1 : w8.cell? ⟨w.heap.size, 1, none⟩ = some (.int .i64 0) := row_cell hr16 rfl
  have f0 := row_free hr16 0
  have f1 := row_free hr16 1
  have hr20 := row_set (row_set (row_set (row_set hr16 0 (.int .i64 EE)) 1 (.int .i64 SS)) 0 (.int .i64 EE)) 1 (.int .i64 SS)
  have d0 := Lib.hid (row_cell hr20 (k := 0) (v := .int .i64 EE) rfl)
  have d1 := Lib.hid (row_cell hr20 (k := 1) (v := .int .i64 SS) rfl)
  clear hr14 hb15 hb14 hg14 hr16 hr20
  have hm1 := HM1.out
  have hm2 := HM2.out
  go_wp2_with fail
  rw [HSV.out]
  clear hm1 hm2
  go_region_with (fail)
  all_goals
    go_wp2_with fail
    refine bodyPost_ret (v := .tuple #[.int .i64 (powE a x), .agg #[.int .i64 EE, .int .i64 SS], .int .i64 0]) (by simp [results, Tryd.results11, go_sem, d0.out, d1.out]) rfl ⟨rfl, ?_⟩
    repeat (first | exact hb16 | refine Below.drew ?_ | refine Below.setCell ?_ (by simp) _ | refine Below.alloc ?_ (by simp) _)

end Go.Proofs.YtjnnnciifjajmaaDoor
