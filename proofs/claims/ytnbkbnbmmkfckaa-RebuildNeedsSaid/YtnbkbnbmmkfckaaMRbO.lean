/- The laws of rebuilding: RebuildSpec, RebuildFinishSpec. The laws of rebuilding: RebuildWhole, in plain Lean; calls whose values are known. -/
import Derived.Test.YtnbkbnbmmkfckaaMRbM
import Derived.Test.YtnbkbnbmmkfckaaMSane
namespace Go.Proofs.Ytnbkbnbmmkfckaa
open Go.RowKit FP

theorem same_self (l : List Int) : sameQ l l = true := sameQ_all rfl fun _ _ _ => rfl

set_option maxRecDepth 100000 in
set_option maxHeartbeats 8000000 in
theorem rebuildSpec_any (rv ov hv mv : Value) (rows : List (List Int)) (owners : List Int) (row : Int) (hs : List Int) (y r v : Int) (ms : List Int) (w : World) (hR : Rows2 w rv rows) (hO : Ints w ov owners) (hrow : R64 row) (hH : Ints w hv hs) (_hy : R64 y) (_hr : R64 r) (_hv : R64 v) (hM : Ints w mv ms) :
    Calls Try.prog 3 #[.agg #[rv, ov], .int .i64 row, hv, .int .i64 y, .agg #[.int .i64 r, .int .i64 v], mv] w fun e w' => e = .returned (.bool true) ∧ Below w.heap.size w w' := by
  obtain ⟨W0, hW0, hb0, hr0, hz0⟩ := box_prog w rv ov 25
  obtain ⟨W1, hW1, hb1, hr1, hz1⟩ := box_prog W0 (.int .i64 r) (.int .i64 v) 27
  have hs0 : W0.heap.size = w.heap.size + 1 := by rw [hW0]; simp
  have hb : Below w.heap.size w W1 := hb0.trans (hb1.mono hb0.size)
  have HR := Lib.hid (hR.below hb)
  have HO := Lib.hid (hO.below hb)
  have HH := Lib.hid (hH.below hb)
  have HM := Lib.hid (hM.below hb)
  obtain ⟨a1, k1, rfl, -, hl1, -⟩ := id hR
  obtain ⟨a2, k2, rfl, -, hl2, -⟩ := id hO
  obtain ⟨a3, k3, rfl, -, hl3, -⟩ := id hH
  obtain ⟨a4, k4, rfl, -, hl4, -⟩ := id hM
  have c0 : W1.cell? ⟨w.heap.size, 0, none⟩ = some (.slice a1 rows.length k1) := below_cell hb1 (row_cell hr0 rfl)
  have c1 : W1.cell? ⟨w.heap.size, 1, none⟩ = some (.slice a2 owners.length k2) := below_cell hb1 (row_cell hr0 rfl)
  rw [hs0] at hr1
  have c2 : W1.cell? ⟨w.heap.size + 1, 0, none⟩ = some (.int .i64 r) := row_cell hr1 rfl
  have c3 : W1.cell? ⟨w.heap.size + 1, 1, none⟩ = some (.int .i64 v) := row_cell hr1 rfl
  rw [hW0] at hW1
  have HW1 := Lib.hid hW1
  have HB := Lib.hid hb
  have HS := Lib.hid (sane40_any W1)
  clear hR hO hH hM hb hb0 hb1 hr0 hr1 hW0 hW1 hz0 hz1 hs0
  have HF := Lib.hid (fun ww h1 h2 => few40_any (.slice a1 rows.length k1) (.slice a2 owners.length k2) rows owners ww h1 h2)
  by_cases hh : 100 < hs.length
  · have d0 : decide (100 < (hs.length : Int)) = true := decide_eq_true (by omega)
    clear hh
    go_enter Try.func3, Try.ntmps3
    go_wp2_with (rw [← HW1.out])
    refine (HS.out).mono ?_
    rintro e w2 ⟨rfl, hb2⟩
    replace c0 := below_cell hb2 c0
    replace c1 := below_cell hb2 c1
    replace c2 := below_cell hb2 c2
    replace c3 := below_cell hb2 c3
    replace HR := Lib.hid (HR.out.below hb2)
    replace HO := Lib.hid (HO.out.below hb2)
    replace HH := Lib.hid (HH.out.below hb2)
    replace HM := Lib.hid (HM.out.below hb2)
    replace HB := Lib.hid (HB.out.trans (hb2.mono HB.out.size))
    clear hb2
    go_wp2_with fail
    refine (HF.out _ HR.out HO.out).mono ?_
    rintro e w3 ⟨b, rfl, hb3⟩
    replace c0 := below_cell hb3 c0
    replace c1 := below_cell hb3 c1
    replace c2 := below_cell hb3 c2
    replace c3 := below_cell hb3 c3
    replace HR := Lib.hid (HR.out.below hb3)
    replace HO := Lib.hid (HO.out.below hb3)
    replace HH := Lib.hid (HH.out.below hb3)
    replace HM := Lib.hid (HM.out.below hb3)
    replace HB := Lib.hid (HB.out.trans (hb3.mono HB.out.size))
    clear hb3
    cases b <;> (go_wp2_with fail; go_ret; exact ⟨rfl, HB.out⟩)
  have d0 : decide (100 < (hs.length : Int)) = false := decide_eq_false (by omega)
  by_cases hm : 100 < ms.length
  · have d1 : decide (100 < (ms.length : Int)) = true := decide_eq_true (by omega)
    clear hh hm
    go_enter Try.func3, Try.ntmps3
    go_wp2_with (rw [← HW1.out])
    refine (HS.out).mono ?_
    rintro e w2 ⟨rfl, hb2⟩
    replace c0 := below_cell hb2 c0
    replace c1 := below_cell hb2 c1
    replace c2 := below_cell hb2 c2
    replace c3 := below_cell hb2 c3
    replace HR := Lib.hid (HR.out.below hb2)
    replace HO := Lib.hid (HO.out.below hb2)
    replace HH := Lib.hid (HH.out.below hb2)
    replace HM := Lib.hid (HM.out.below hb2)
    replace HB := Lib.hid (HB.out.trans (hb2.mono HB.out.size))
    clear hb2
    go_wp2_with fail
    refine (HF.out _ HR.out HO.out).mono ?_
    rintro e w3 ⟨b, rfl, hb3⟩
    replace c0 := below_cell hb3 c0
    replace c1 := below_cell hb3 c1
    replace c2 := below_cell hb3 c2
    replace c3 := below_cell hb3 c3
    replace HR := Lib.hid (HR.out.below hb3)
    replace HO := Lib.hid (HO.out.below hb3)
    replace HH := Lib.hid (HH.out.below hb3)
    replace HM := Lib.hid (HM.out.below hb3)
    replace HB := Lib.hid (HB.out.trans (hb3.mono HB.out.size))
    clear hb3
    cases b <;> (go_wp2_with fail; go_ret; exact ⟨rfl, HB.out⟩)
  have d1 : decide (100 < (ms.length : Int)) = false := decide_eq_false (by omega)
  have HP := Lib.hid (fun ww h1 h2 h3 => plan_any (.slice a1 rows.length k1) (.slice a2 owners.length k2) (.slice a3 hs.length k3) rows owners row hs ww h1 h2 h3 hrow (by omega))
  have HQ := Lib.hid (fun ww h1 h2 h3 => rPlan_any (.slice a1 rows.length k1) (.slice a2 owners.length k2) (.slice a3 hs.length k3) rows owners row hs ww h1 h2 h3 (by omega))
  have HPA := Lib.hid (fun ww h => part_any y r v (.slice a4 ms.length k4) ms ww h)
  have HPB := Lib.hid (fun ww h => rPart_any y r v (.slice a4 ms.length k4) ms ww h)
  have HSY := Lib.hid (same_self (planY rows owners row hs))
  generalize planY rows owners row hs = Y at *
  generalize planOk rows owners row hs = ok at *
  generalize planE rows owners row hs = e at *
  generalize partV y r v ms = pv at *
  generalize partE y r v ms = pe at *
  have e1 : (ok == ok) = true := by simp
  have e2 : (e == e) = true := by simp
  have e3 : (pv == pv) = true := by simp
  have e4 : (pe == pe) = true := by simp
  clear hh hm
  go_enter Try.func3, Try.ntmps3
  go_wp2_with (rw [← HW1.out])
  refine (HS.out).mono ?_
  rintro e w2 ⟨rfl, hb2⟩
  replace c0 := below_cell hb2 c0
  replace c1 := below_cell hb2 c1
  replace c2 := below_cell hb2 c2
  replace c3 := below_cell hb2 c3
  replace HR := Lib.hid (HR.out.below hb2)
  replace HO := Lib.hid (HO.out.below hb2)
  replace HH := Lib.hid (HH.out.below hb2)
  replace HM := Lib.hid (HM.out.below hb2)
  replace HB := Lib.hid (HB.out.trans (hb2.mono HB.out.size))
  clear hb2
  go_wp2_with fail
  refine (HF.out _ HR.out HO.out).mono ?_
  rintro e w3 ⟨b, rfl, hb3⟩
  replace c0 := below_cell hb3 c0
  replace c1 := below_cell hb3 c1
  replace c2 := below_cell hb3 c2
  replace c3 := below_cell hb3 c3
  replace HR := Lib.hid (HR.out.below hb3)
  replace HO := Lib.hid (HO.out.below hb3)
  replace HH := Lib.hid (HH.out.below hb3)
  replace HM := Lib.hid (HM.out.below hb3)
  replace HB := Lib.hid (HB.out.trans (hb3.mono HB.out.size))
  clear hb3
  cases b with
  | false =>
    go_wp2_with fail
    go_ret
    exact ⟨rfl, HB.out⟩
  | true =>
    go_wp2_with fail
    refine (HP.out _ HR.out HO.out HH.out).mono ?_
    rintro e w4 ⟨yv, rfl, hy4, hb4⟩
    replace c0 := below_cell hb4 c0
    replace c1 := below_cell hb4 c1
    replace c2 := below_cell hb4 c2
    replace c3 := below_cell hb4 c3
    replace HR := Lib.hid (HR.out.below hb4)
    replace HO := Lib.hid (HO.out.below hb4)
    replace HH := Lib.hid (HH.out.below hb4)
    replace HM := Lib.hid (HM.out.below hb4)
    replace HB := Lib.hid (HB.out.trans (hb4.mono HB.out.size))
    clear hb4
    obtain ⟨ya, yc, rfl, -⟩ := id hy4
    have HY := Lib.hid hy4
    clear hy4
    go_wp2_with fail
    refine (HQ.out _ HR.out HO.out HH.out).mono ?_
    rintro e w5 ⟨zv, rfl, hz5, hb5⟩
    replace c0 := below_cell hb5 c0
    replace c1 := below_cell hb5 c1
    replace c2 := below_cell hb5 c2
    replace c3 := below_cell hb5 c3
    replace HR := Lib.hid (HR.out.below hb5)
    replace HO := Lib.hid (HO.out.below hb5)
    replace HH := Lib.hid (HH.out.below hb5)
    replace HM := Lib.hid (HM.out.below hb5)
    replace HY := Lib.hid (HY.out.below hb5)
    replace HB := Lib.hid (HB.out.trans (hb5.mono HB.out.size))
    clear hb5
    obtain ⟨za, zc, rfl, -⟩ := id hz5
    have HZ := Lib.hid hz5
    clear hz5
    go_wp2_with fail
    refine (HPA.out _ HM.out).mono ?_
    rintro e w6 ⟨rfl, hb6⟩
    replace c0 := below_cell hb6 c0
    replace c1 := below_cell hb6 c1
    replace c2 := below_cell hb6 c2
    replace c3 := below_cell hb6 c3
    replace HR := Lib.hid (HR.out.below hb6)
    replace HO := Lib.hid (HO.out.below hb6)
    replace HH := Lib.hid (HH.out.below hb6)
    replace HM := Lib.hid (HM.out.below hb6)
    replace HY := Lib.hid (HY.out.below hb6)
    replace HZ := Lib.hid (HZ.out.below hb6)
    replace HB := Lib.hid (HB.out.trans (hb6.mono HB.out.size))
    clear hb6
    go_wp2_with fail
    refine (HPB.out _ HM.out).mono ?_
    rintro e w7 ⟨rfl, hb7⟩
    replace c0 := below_cell hb7 c0
    replace c1 := below_cell hb7 c1
    replace c2 := below_cell hb7 c2
    replace c3 := below_cell hb7 c3
    replace HR := Lib.hid (HR.out.below hb7)
    replace HO := Lib.hid (HO.out.below hb7)
    replace HH := Lib.hid (HH.out.below hb7)
    replace HM := Lib.hid (HM.out.below hb7)
    replace HY := Lib.hid (HY.out.below hb7)
    replace HZ := Lib.hid (HZ.out.below hb7)
    replace HB := Lib.hid (HB.out.trans (hb7.mono HB.out.size))
    clear hb7
    go_wp2_with fail
    refine (rSameInts40_any _ _ _ _ _ HY.out HZ.out).mono ?_
    rintro e w8 ⟨rfl, hb8⟩
    replace c0 := below_cell hb8 c0
    replace c1 := below_cell hb8 c1
    replace c2 := below_cell hb8 c2
    replace c3 := below_cell hb8 c3
    replace HR := Lib.hid (HR.out.below hb8)
    replace HO := Lib.hid (HO.out.below hb8)
    replace HH := Lib.hid (HH.out.below hb8)
    replace HM := Lib.hid (HM.out.below hb8)
    replace HY := Lib.hid (HY.out.below hb8)
    replace HZ := Lib.hid (HZ.out.below hb8)
    replace HB := Lib.hid (HB.out.trans (hb8.mono HB.out.size))
    clear hb8
    rw [HSY.out]
    go_wp2_with fail
    go_ret
    exact ⟨rfl, HB.out⟩

set_option maxRecDepth 100000 in
set_option maxHeartbeats 8000000 in
theorem rebuildFinishSpec_any (rv ov cv pv : Value) (ep : Int) (rows : List (List Int)) (owners cs : List Int) (row : Int) (parts : List Int) (w : World) (_he : R64 ep) (hR : Rows2 w rv rows) (hO : Ints w ov owners) (hC : Ints w cv cs) (hrow : R64 row) (hP : Ints w pv parts) :
    Calls Try.prog 4 #[.agg #[.int .i64 ep, rv, ov, cv], .int .i64 row, pv] w fun e w' => e = .returned (.bool true) ∧ Below w.heap.size w w' := by
  obtain ⟨W1, hW1, hb1, hr1, hs1⟩ := box_key w (.int .i64 ep) rv ov cv 38
  have HR := Lib.hid (hR.below hb1)
  have HO := Lib.hid (hO.below hb1)
  have HC := Lib.hid (hC.below hb1)
  have HP := Lib.hid (hP.below hb1)
  obtain ⟨a1, k1, rfl, -, hl1, -⟩ := id hR
  obtain ⟨a2, k2, rfl, -, hl2, -⟩ := id hO
  obtain ⟨a3, k3, rfl, -, hl3, -⟩ := id hC
  obtain ⟨a4, k4, rfl, -, hl4, -⟩ := id hP
  have c0 : W1.cell? ⟨w.heap.size, 0, none⟩ = some (.int .i64 ep) := row_cell hr1 rfl
  have c1 : W1.cell? ⟨w.heap.size, 1, none⟩ = some (.slice a1 rows.length k1) := row_cell hr1 rfl
  have c2 : W1.cell? ⟨w.heap.size, 2, none⟩ = some (.slice a2 owners.length k2) := row_cell hr1 rfl
  have c3 : W1.cell? ⟨w.heap.size, 3, none⟩ = some (.slice a3 cs.length k3) := row_cell hr1 rfl
  have HW1 := Lib.hid hW1
  have HB := Lib.hid hb1
  have HS := Lib.hid (sane40_any W1)
  clear hR hO hC hP hb1 hr1 hW1 hs1
  have HF := Lib.hid (fun ww h1 h2 => few40_any (.slice a1 rows.length k1) (.slice a2 owners.length k2) rows owners ww h1 h2)
  by_cases hh : 100 < cs.length
  · have d0 : decide (100 < (cs.length : Int)) = true := decide_eq_true (by omega)
    clear hh
    go_enter Try.func4, Try.ntmps4
    go_wp2_with (rw [← HW1.out])
    refine (HS.out).mono ?_
    rintro e w2 ⟨rfl, hb2⟩
    replace c0 := below_cell hb2 c0
    replace c1 := below_cell hb2 c1
    replace c2 := below_cell hb2 c2
    replace c3 := below_cell hb2 c3
    replace HR := Lib.hid (HR.out.below hb2)
    replace HO := Lib.hid (HO.out.below hb2)
    replace HC := Lib.hid (HC.out.below hb2)
    replace HP := Lib.hid (HP.out.below hb2)
    replace HB := Lib.hid (HB.out.trans (hb2.mono HB.out.size))
    clear hb2
    go_wp2_with fail
    refine (HF.out _ HR.out HO.out).mono ?_
    rintro e w3 ⟨b, rfl, hb3⟩
    replace c0 := below_cell hb3 c0
    replace c1 := below_cell hb3 c1
    replace c2 := below_cell hb3 c2
    replace c3 := below_cell hb3 c3
    replace HR := Lib.hid (HR.out.below hb3)
    replace HO := Lib.hid (HO.out.below hb3)
    replace HC := Lib.hid (HC.out.below hb3)
    replace HP := Lib.hid (HP.out.below hb3)
    replace HB := Lib.hid (HB.out.trans (hb3.mono HB.out.size))
    clear hb3
    cases b <;> (go_wp2_with fail; go_ret; exact ⟨rfl, HB.out⟩)
  have d0 : decide (100 < (cs.length : Int)) = false := decide_eq_false (by omega)
  by_cases hm : 100 < parts.length
  · have d1 : decide (100 < (parts.length : Int)) = true := decide_eq_true (by omega)
    clear hh hm
    go_enter Try.func4, Try.ntmps4
    go_wp2_with (rw [← HW1.out])
    refine (HS.out).mono ?_
    rintro e w2 ⟨rfl, hb2⟩
    replace c0 := below_cell hb2 c0
    replace c1 := below_cell hb2 c1
    replace c2 := below_cell hb2 c2
    replace c3 := below_cell hb2 c3
    replace HR := Lib.hid (HR.out.below hb2)
    replace HO := Lib.hid (HO.out.below hb2)
    replace HC := Lib.hid (HC.out.below hb2)
    replace HP := Lib.hid (HP.out.below hb2)
    replace HB := Lib.hid (HB.out.trans (hb2.mono HB.out.size))
    clear hb2
    go_wp2_with fail
    refine (HF.out _ HR.out HO.out).mono ?_
    rintro e w3 ⟨b, rfl, hb3⟩
    replace c0 := below_cell hb3 c0
    replace c1 := below_cell hb3 c1
    replace c2 := below_cell hb3 c2
    replace c3 := below_cell hb3 c3
    replace HR := Lib.hid (HR.out.below hb3)
    replace HO := Lib.hid (HO.out.below hb3)
    replace HC := Lib.hid (HC.out.below hb3)
    replace HP := Lib.hid (HP.out.below hb3)
    replace HB := Lib.hid (HB.out.trans (hb3.mono HB.out.size))
    clear hb3
    cases b <;> (go_wp2_with fail; go_ret; exact ⟨rfl, HB.out⟩)
  have d1 : decide (100 < (parts.length : Int)) = false := decide_eq_false (by omega)
  have HFA := Lib.hid (fun ww h1 h2 h3 h4 => finish_any ep row (.slice a1 rows.length k1) (.slice a2 owners.length k2) (.slice a3 cs.length k3) (.slice a4 parts.length k4) rows owners cs parts ww h1 h2 h3 h4 hrow)
  have HFB := Lib.hid (fun ww h1 h2 h3 h4 => rFinish_any ep row (.slice a1 rows.length k1) (.slice a2 owners.length k2) (.slice a3 cs.length k3) (.slice a4 parts.length k4) rows owners cs parts ww h1 h2 h3 h4 hrow)
  generalize finR rows owners cs row parts = x at *
  generalize finV rows owners cs row parts = z at *
  generalize finB rows owners cs row parts = ok at *
  generalize finE rows owners cs row parts = e at *
  have e1 : (ok == ok) = true := by simp
  have e2 : (e == e) = true := by simp
  have e3 : (x == x) = true := by simp
  have e4 : (z == z) = true := by simp
  clear hh hm
  go_enter Try.func4, Try.ntmps4
  go_wp2_with (rw [← HW1.out])
  refine (HS.out).mono ?_
  rintro e w2 ⟨rfl, hb2⟩
  replace c0 := below_cell hb2 c0
  replace c1 := below_cell hb2 c1
  replace c2 := below_cell hb2 c2
  replace c3 := below_cell hb2 c3
  replace HR := Lib.hid (HR.out.below hb2)
  replace HO := Lib.hid (HO.out.below hb2)
  replace HC := Lib.hid (HC.out.below hb2)
  replace HP := Lib.hid (HP.out.below hb2)
  replace HB := Lib.hid (HB.out.trans (hb2.mono HB.out.size))
  clear hb2
  go_wp2_with fail
  refine (HF.out _ HR.out HO.out).mono ?_
  rintro e w3 ⟨b, rfl, hb3⟩
  replace c0 := below_cell hb3 c0
  replace c1 := below_cell hb3 c1
  replace c2 := below_cell hb3 c2
  replace c3 := below_cell hb3 c3
  replace HR := Lib.hid (HR.out.below hb3)
  replace HO := Lib.hid (HO.out.below hb3)
  replace HC := Lib.hid (HC.out.below hb3)
  replace HP := Lib.hid (HP.out.below hb3)
  replace HB := Lib.hid (HB.out.trans (hb3.mono HB.out.size))
  clear hb3
  cases b with
  | false =>
    go_wp2_with fail
    go_ret
    exact ⟨rfl, HB.out⟩
  | true =>
    go_wp2_with fail
    refine (HFA.out _ HR.out HO.out HC.out HP.out).mono ?_
    rintro e w4 ⟨rfl, hb4⟩
    replace c0 := below_cell hb4 c0
    replace c1 := below_cell hb4 c1
    replace c2 := below_cell hb4 c2
    replace c3 := below_cell hb4 c3
    replace HR := Lib.hid (HR.out.below hb4)
    replace HO := Lib.hid (HO.out.below hb4)
    replace HC := Lib.hid (HC.out.below hb4)
    replace HP := Lib.hid (HP.out.below hb4)
    replace HB := Lib.hid (HB.out.trans (hb4.mono HB.out.size))
    clear hb4
    obtain ⟨W5, hW5, hb5, hr5, -⟩ := box_prog w4 (.int .i64 x) (.int .i64 z) 27
    have s0 : W5.cell? ⟨w4.heap.size, 0, none⟩ = some (.int .i64 x) := row_cell hr5 rfl
    have s1 : W5.cell? ⟨w4.heap.size, 1, none⟩ = some (.int .i64 z) := row_cell hr5 rfl
    have HW5 := Lib.hid hW5
    clear hW5 hr5
    replace c0 := below_cell hb5 c0
    replace c1 := below_cell hb5 c1
    replace c2 := below_cell hb5 c2
    replace c3 := below_cell hb5 c3
    replace HR := Lib.hid (HR.out.below hb5)
    replace HO := Lib.hid (HO.out.below hb5)
    replace HC := Lib.hid (HC.out.below hb5)
    replace HP := Lib.hid (HP.out.below hb5)
    replace HB := Lib.hid (HB.out.trans (hb5.mono HB.out.size))
    clear hb5
    go_wp2_with (rw [← HW5.out])
    refine (HFB.out _ HR.out HO.out HC.out HP.out).mono ?_
    rintro e w6 ⟨rfl, hb6⟩
    replace c0 := below_cell hb6 c0
    replace c1 := below_cell hb6 c1
    replace c2 := below_cell hb6 c2
    replace c3 := below_cell hb6 c3
    replace s0 := below_cell hb6 s0
    replace s1 := below_cell hb6 s1
    replace HR := Lib.hid (HR.out.below hb6)
    replace HO := Lib.hid (HO.out.below hb6)
    replace HC := Lib.hid (HC.out.below hb6)
    replace HP := Lib.hid (HP.out.below hb6)
    replace HB := Lib.hid (HB.out.trans (hb6.mono HB.out.size))
    clear hb6
    obtain ⟨W7, hW7, hb7, hr7, -⟩ := box_prog w6 (.int .i64 x) (.int .i64 z) 27
    have t0 : W7.cell? ⟨w6.heap.size, 0, none⟩ = some (.int .i64 x) := row_cell hr7 rfl
    have t1 : W7.cell? ⟨w6.heap.size, 1, none⟩ = some (.int .i64 z) := row_cell hr7 rfl
    have HW7 := Lib.hid hW7
    clear hW7 hr7
    replace c0 := below_cell hb7 c0
    replace c1 := below_cell hb7 c1
    replace c2 := below_cell hb7 c2
    replace c3 := below_cell hb7 c3
    replace s0 := below_cell hb7 s0
    replace s1 := below_cell hb7 s1
    replace HR := Lib.hid (HR.out.below hb7)
    replace HO := Lib.hid (HO.out.below hb7)
    replace HC := Lib.hid (HC.out.below hb7)
    replace HP := Lib.hid (HP.out.below hb7)
    replace HB := Lib.hid (HB.out.trans (hb7.mono HB.out.size))
    clear hb7
    go_wp2_with (rw [← HW7.out])
    go_ret
    exact ⟨rfl, HB.out⟩

end Go.Proofs.Ytnbkbnbmmkfckaa

namespace Go.Proofs.Ytnbkbnbmmkfckaa
open Go.RowKit FP

theorem own_setk {W : World} {base g cap n : Nat} {e : TypeId} {xs : List Value} (h : W.ownsRow base e 1 (.slice (some ⟨g, 0, none⟩) n cap) n xs) (k : Nat) (z : Value) :
    W.frozen? ⟨g, k, none⟩ = false ∧ base ≤ g ∧ (W.setCell ⟨g, k, none⟩ z).ownsRow base e 1 (.slice (some ⟨g, 0, none⟩) n cap) n (xs.set k z) := by
  obtain ⟨h0, h⟩ := h
  rcases h with ⟨h, -⟩ | ⟨g', cap', cur, e1, hb, hg, hnc, hm, hcs, hcur⟩
  · cases h
  · simp only [Value.slice.injEq, Option.some.injEq, Addr.mk.injEq] at e1
    obtain ⟨⟨rfl, -, -⟩, -, rfl⟩ := e1
    refine ⟨row_free hg k, hb, by rw [List.length_set]; exact h0, .inr ⟨g, cap, _, rfl, hb, row_set hg k z, hnc, hm, by rw [Array.size_setIfInBounds]; exact hcs, ?_⟩⟩
    rw [Array.toList_setIfInBounds, List.take_set, hcur]

theorem own_shape {W : World} {base size n : Nat} {e : TypeId} {v : Value} {xs : List Value} (h : W.ownsRow base e size v n xs) : ∃ a c, v = .slice a n c := by
  rcases h.2 with ⟨rfl, rfl⟩ | ⟨g, cap, cur, rfl, -⟩
  · exact ⟨_, _, rfl⟩
  · exact ⟨_, _, rfl⟩
theorem tot_from : ∀ (l : List Int) (a : Int), l.foldl (fun n x => (n + x) % 1073741789) a % 1073741789 = (a + totQ l) % 1073741789
  | [], a => by show a % _ = (a + 0) % _; rw [Int.add_zero]
  | x :: l, a => by
    have h1 := tot_from l ((a + x) % 1073741789)
    have h2 := tot_from l ((0 + x) % 1073741789)
    have h3 : totQ (x :: l) = l.foldl (fun n x => (n + x) % 1073741789) ((0 + x) % 1073741789) := rfl
    have h4 := totQ_num (x :: l)
    show l.foldl (fun n x => (n + x) % 1073741789) ((a + x) % 1073741789) % 1073741789 = _
    rw [← h3] at h2
    omega
theorem tot_cons (x : Int) (l : List Int) : totQ (x :: l) = (x + totQ l) % 1073741789 := by
  have h2 := tot_from l ((0 + x) % 1073741789)
  have h3 : totQ (x :: l) = l.foldl (fun n x => (n + x) % 1073741789) ((0 + x) % 1073741789) := rfl
  have h4 := totQ_num (x :: l)
  rw [← h3] at h2
  omega
/-- A part that is changed changes the sum. -/
theorem tot_set {l : List Int} (hl : 0 < l.length) (b : Int) : totQ (l.set 0 ((nth l 0 + b) % 1073741789)) = (totQ l + b) % 1073741789 := by
  match l, hl with
  | x :: t, _ =>
    show totQ ((x + b) % 1073741789 :: t) = (totQ (x :: t) + b) % 1073741789
    rw [tot_cons, tot_cons]
    omega

theorem part_zero {y r v m : Int} (hy : 0 ≤ y ∧ y < 1073741789) (hr : 0 ≤ r ∧ r < 64) (hv : 0 ≤ v ∧ v < 1073741789) (hm : 0 ≤ m ∧ m < 1073741789) : partV y r v [m] = (y * v % 1073741789 + m) % 1073741789 ∧ partE y r v [m] = 0 := by
  have hE : partE y r v [m] = 0 := by
    rw [partE_no, if_neg, if_neg]
    · rintro (h | h | h)
      · omega
      · omega
      · rw [oddQ_of hv] at h; cases h
    · rintro (h | h)
      · rw [oddQ_of hy] at h; cases h
      · unfold allQ at h; simp [oddQ_of hm] at h
  refine ⟨?_, hE⟩
  unfold partV
  rw [if_pos hE]
  show (_ + (0 + m) % 1073741789) % 1073741789 = _
  omega

/-- What a rebuilding computes, in short. -/
structure WholeP (rows : List (List Int)) (owners : List Int) (x : Int) (rnd : List Int) (row : Int) (hs : List Int) (Y M PL : List Int) (P : Nat → Int) : Prop where
  few : hs.length ≤ 64
  lenY : Y.length = hs.length
  lenM : M.length = hs.length
  lenP : PL.length = hs.length
  numP : ∀ z ∈ PL, 0 ≤ z ∧ z < 1073741789
  numM : ∀ k, 0 ≤ nth M k ∧ nth M k < 1073741789
  part : ∀ (i n : Nat), i < hs.length → nth hs i = n → n < rows.length ∧ partV (nth Y i) n (P n) [nth M i] = nth PL i ∧ partE (nth Y i) n (P n) [nth M i] = 0
  numY : ∀ i, i < hs.length → 0 ≤ nth Y i ∧ nth Y i < 1073741789
  idx : ∀ i, i < hs.length → 0 ≤ nth hs i ∧ nth hs i < (rows.length : Int)
  fin : finE rows owners (dealC (x :: rnd)) row PL = 0 ∧ finB rows owners (dealC (x :: rnd)) row PL = true ∧ finR rows owners (dealC (x :: rnd)) row PL = row ∧ finV rows owners (dealC (x :: rnd)) row PL = P row.toNat
  bad : ∀ b : Int, 0 ≤ b → b % 1073741789 ≠ 0 → 0 < hs.length → finE rows owners (dealC (x :: rnd)) row (PL.set 0 ((nth PL 0 + b) % 1073741789)) = 0 ∧ finB rows owners (dealC (x :: rnd)) row (PL.set 0 ((nth PL 0 + b) % 1073741789)) = false ∧ finR rows owners (dealC (x :: rnd)) row (PL.set 0 ((nth PL 0 + b) % 1073741789)) = 0 ∧ finV rows owners (dealC (x :: rnd)) row (PL.set 0 ((nth PL 0 + b) % 1073741789)) = 0
theorem nth_idx {hs : List Int} {i : Nat} (h : i < hs.length) : nth hs i = hs[i] := nth_at h
theorem wholeP_of {rows : List (List Int)} {owners hs rnd ms : List Int} {x row : Int} (hD : DealOK rows owners x rnd) (hp : progE rows owners = 0) (hrb : rowsB rows row hs = true) (hok : rcombOk (someQ rows hs) (rows.getD row.toNat []) = true) (hm : ∀ z ∈ ms, 0 ≤ z ∧ z < 1073741789) :
    WholeP rows owners x rnd row hs (rcombY (someQ rows hs) (rows.getD row.toNat [])) (maskP hs.length ms hs.length) (partsL (rcombY (someQ rows hs) (rows.getD row.toNat [])) (valsH rows (x :: rnd) hs) (maskP hs.length ms hs.length) hs.length) (fun n => prodQ (rows.getD n []) (x :: rnd)) := by
  obtain ⟨hin, hh⟩ := rowsB_ok hrb
  have hP : PlanOK rows owners row hs := ⟨hD.prog, hin, hh⟩
  have hlen := help_len hD.prog hh
  obtain ⟨hrl, hrn⟩ := row_right hD.prog hin
  have hR := some_right hD.prog hh
  rw [← hrl] at hR
  have hYn : ∀ i, i < hs.length → 0 ≤ nth (rcombY (someQ rows hs) (rows.getD row.toNat [])) i ∧ nth (rcombY (someQ rows hs) (rows.getD row.toNat [])) i < 1073741789 := fun i hi => rcombY_num hR hrn (by rw [someQ_len]; exact hi)
  have hidx : ∀ i, i < hs.length → 0 ≤ nth hs i ∧ nth hs i < (rows.length : Int) := fun i hi => by
    rw [nth_idx hi]; exact (helpB_in hh _ (List.getElem_mem hi)).1
  have hMn : ∀ k, 0 ≤ nth (maskP hs.length ms hs.length) k ∧ nth (maskP hs.length ms hs.length) k < 1073741789 := fun k => nth_num (maskP_num _ _ hm _) k
  have hws := whole_sum (s := x :: rnd) hP hok (maskP_len hs.length ms hs.length) (maskP_sum hs.length ms)
  have hpub : pubE rows owners (dealC (x :: rnd)) row = 0 := by
    unfold pubE
    rw [dchkE_of (com_deal hD hp), if_neg (by simp), if_neg (by omega)]
  have hfit : ∀ v : Int, 0 ≤ v ∧ v < 1073741789 → fitB rows owners (dealC (x :: rnd)) row v = decide (v = prodQ (rows.getD row.toNat []) (x :: rnd)) := fun v hv => by
    have := (fit_deal hD hp (k := row.toNat) (by omega) hv).2
    rwa [show ((row.toNat : Nat) : Int) = row by omega] at this
  have hlist : ∀ l : List Int, l.length = hs.length → (∀ z ∈ l, 0 ≤ z ∧ z < 1073741789) → allQ l = true := fun l h1 h2 => by
    unfold allQ
    rw [decide_eq_true (by omega), any_odd_of h2]; rfl
  have hfew := hD.prog.few
  refine ⟨hlen, by rw [rcombY_len, someQ_len], maskP_len _ _ _, partsL_len _ _ _ _, partsL_num _ _ _ _, hMn, ?_, hYn, hidx, ?_, ?_⟩
  · intro i n hi hn
    have h1 := hidx i hi
    rw [hn] at h1
    have hV : nth (valsH rows (x :: rnd) hs) i = prodQ (rows.getD n []) (x :: rnd) := by
      have h2 : hs[i] = n := by rw [← nth_idx hi]; exact hn
      unfold valsH nth
      rw [List.getElem?_map, List.getElem?_eq_getElem hi, h2]; rfl
    have h3 := part_zero (y := nth (rcombY (someQ rows hs) (rows.getD row.toNat [])) i) (r := n) (v := prodQ (rows.getD n []) (x :: rnd)) (m := nth (maskP hs.length ms hs.length) i) (hYn i hi) (by omega) (prodQ_num _ _) (hMn i)
    refine ⟨by omega, ?_, h3.2⟩
    rw [h3.1]
    unfold partsL
    rw [nth_map _ _ hi, hV]
  · have hE : finE rows owners (dealC (x :: rnd)) row (partsL (rcombY (someQ rows hs) (rows.getD row.toNat [])) (valsH rows (x :: rnd) hs) (maskP hs.length ms hs.length) hs.length) = 0 := by
      rw [finE_part hpub, if_pos (hlist _ (partsL_len _ _ _ _) (partsL_num _ _ _ _))]
    have hB : finB rows owners (dealC (x :: rnd)) row (partsL (rcombY (someQ rows hs) (rows.getD row.toNat [])) (valsH rows (x :: rnd) hs) (maskP hs.length ms hs.length) hs.length) = true := by
      unfold finB
      rw [hE, hfit _ (totQ_num _), hws]; simp
    exact ⟨hE, hB, (fin_on hB).1, by rw [(fin_on hB).2, hws]⟩
  · intro b hb0 hb hpos
    obtain ⟨l, hl⟩ : ∃ l, l = (partsL (rcombY (someQ rows hs) (rows.getD row.toNat [])) (valsH rows (x :: rnd) hs) (maskP hs.length ms hs.length) hs.length) := ⟨_, rfl⟩
    have hll : l.length = hs.length := by rw [hl]; exact partsL_len _ _ _ _
    have hln : ∀ z ∈ l, 0 ≤ z ∧ z < 1073741789 := by rw [hl]; exact partsL_num _ _ _ _
    rw [← hl] at hws ⊢
    have hE : finE rows owners (dealC (x :: rnd)) row (l.set 0 ((nth l 0 + b) % 1073741789)) = 0 := by
      rw [finE_part hpub, if_pos (hlist _ (by rw [List.length_set]; exact hll) (fun z hz => ?_))]
      rcases List.mem_or_eq_of_mem_set hz with h | h
      · exact hln z h
      · rw [h]; omega
    have hB : finB rows owners (dealC (x :: rnd)) row (l.set 0 ((nth l 0 + b) % 1073741789)) = false := by
      unfold finB
      rw [hE, hfit _ (totQ_num _), tot_set (by omega), hws]
      have := prodQ_num (rows.getD row.toNat []) (x :: rnd)
      simp
      omega
    exact ⟨hE, hB, fin_off hB⟩

/-- The same, with what is laid in memory by names of their own. -/
structure WholeK (rows : List (List Int)) (owners : List Int) (rn : Nat) (hs Y M PL : List Int) (D : List (Int × Int)) (C : List Int) (P : Nat → Int) : Prop where
  few : hs.length ≤ 64
  lenY : Y.length = hs.length
  lenM : M.length = hs.length
  lenP : PL.length = hs.length
  numP : ∀ z ∈ PL, 0 ≤ z ∧ z < 1073741789
  numM : ∀ k, 0 ≤ nth M k ∧ nth M k < 1073741789
  numY : ∀ i, i < hs.length → 0 ≤ nth Y i ∧ nth Y i < 1073741789
  idx : ∀ i, i < hs.length → 0 ≤ nth hs i ∧ nth hs i < (rows.length : Int)
  part : ∀ (i n : Nat), i < hs.length → nth hs i = n → n < rows.length ∧ partV (nth Y i) n (P n) [nth M i] = nth PL i ∧ partE (nth Y i) n (P n) [nth M i] = 0
  fin : finE rows owners C rn PL = 0 ∧ finB rows owners C rn PL = true ∧ finR rows owners C rn PL = rn ∧ finV rows owners C rn PL = P rn
  bad : ∀ b : Int, 0 ≤ b → b % 1073741789 ≠ 0 → 0 < hs.length → finE rows owners C rn (PL.set 0 ((nth PL 0 + b) % 1073741789)) = 0 ∧ finB rows owners C rn (PL.set 0 ((nth PL 0 + b) % 1073741789)) = false ∧ finR rows owners C rn (PL.set 0 ((nth PL 0 + b) % 1073741789)) = 0 ∧ finV rows owners C rn (PL.set 0 ((nth PL 0 + b) % 1073741789)) = 0
  dlen : D.length = rows.length
  dat : ∀ k (hk : k < D.length), D[k] = ((k : Int), P k)
  r64 : ∀ k, R64 (P k)
theorem wholeK_of {rows : List (List Int)} {owners hs rnd ms : List Int} {x : Int} {rn : Nat} (hD : DealOK rows owners x rnd) (hp : progE rows owners = 0) (hrb : rowsB rows rn hs = true) (hok : rcombOk (someQ rows hs) (rows.getD (rn : Int).toNat []) = true) (hm : ∀ z ∈ ms, 0 ≤ z ∧ z < 1073741789) :
    ∃ PL P, WholeK rows owners rn hs (rcombY (someQ rows hs) (rows.getD (rn : Int).toNat [])) (maskP hs.length ms hs.length) PL (dealL rows (x :: rnd)) (dealC (x :: rnd)) P := by
  have h := wholeP_of hD hp hrb hok hm
  exact ⟨_, _, h.few, h.lenY, h.lenM, h.lenP, h.numP, h.numM, h.numY, h.idx, h.part, h.fin, h.bad, dealL_len _ _, fun k hk => dealL_at _ _ hk, fun k => num_r64 (prodQ_num _ _)⟩

set_option maxRecDepth 100000 in
theorem plan_good {rows : List (List Int)} {owners hs : List Int} {row : Int} (hp : progE rows owners = 0) (hrb : rowsB rows row hs = true) (hok : rcombOk (someQ rows hs) (rows.getD row.toNat []) = true) (hrow : R64 row) (hl : hs.length ≤ 1000000) (rv ov hv : Value) (w : World) (hR : Rows2 w rv rows) (hO : Ints w ov owners) (hH : Ints w hv hs) :
    Calls Try.prog 14 #[.agg #[rv, ov], .int .i64 row, hv] w fun r w' => ∃ ya yc, r = .returned (.tuple #[.slice ya hs.length yc, .bool true, .int .i64 0]) ∧ Ints w' (.slice ya hs.length yc) (rcombY (someQ rows hs) (rows.getD row.toNat [])) ∧ Below w.heap.size w w' := by
  have hE : planE rows owners row hs = 0 := by rw [planE_rows hp, if_pos hrb]
  have hO1 : planOk rows owners row hs = true := by unfold planOk; rw [hE, hok]; rfl
  refine (plan_any rv ov hv rows owners row hs w hR hO hH hrow hl).mono ?_
  rintro r w' ⟨yv, rfl, hy, hb⟩
  rw [show planY rows owners row hs = rcombY (someQ rows hs) (rows.getD row.toNat []) by unfold planY; rw [if_pos hO1]] at hy
  obtain ⟨ya, yc, e, -⟩ := id hy
  rw [rcombY_len, someQ_len] at e
  rw [e] at hy ⊢
  exact ⟨ya, yc, by rw [hE, hO1], hy, hb⟩
set_option maxRecDepth 100000 in
theorem plan_bad {rows : List (List Int)} {owners hs : List Int} {row : Int} (hp : progE rows owners = 0) (hrb : rowsB rows row hs = true) (hok : rcombOk (someQ rows hs) (rows.getD row.toNat []) = false) (hrow : R64 row) (hl : hs.length ≤ 1000000) (rv ov hv : Value) (w : World) (hR : Rows2 w rv rows) (hO : Ints w ov owners) (hH : Ints w hv hs) :
    Calls Try.prog 14 #[.agg #[rv, ov], .int .i64 row, hv] w fun r w' => ∃ ya yc, r = .returned (.tuple #[.slice ya 0 yc, .bool false, .int .i64 0]) ∧ Below w.heap.size w w' := by
  have hE : planE rows owners row hs = 0 := by rw [planE_rows hp, if_pos hrb]
  have hO1 : planOk rows owners row hs = false := by unfold planOk; rw [hE, hok]; rfl
  refine (plan_any rv ov hv rows owners row hs w hR hO hH hrow hl).mono ?_
  rintro r w' ⟨yv, rfl, hy, hb⟩
  rw [show planY rows owners row hs = [] by unfold planY; rw [hO1]; rfl] at hy
  obtain ⟨ya, yc, rfl, -⟩ := id hy
  exact ⟨ya, yc, by rw [hE, hO1]; rfl, hb⟩
theorem deal_of_right {rows : List (List Int)} {owners numbers : List Int} (hp : progE rows owners = 0) (hl : numbers.length = colsQ rows) (ha : allQ numbers = true) : ∃ x rnd, numbers = x :: rnd ∧ DealOK rows owners x rnd := by
  have hP := progE_ok hp
  have hc := hP.cols
  match numbers, hl with
  | [], h => simp at h; omega
  | x :: rnd, h =>
    have hn := (allQ_ok ha).2
    exact ⟨x, rnd, rfl, hP, hn x (by simp), fun z hz => hn z (List.mem_cons_of_mem _ hz), by simpa using h⟩
/-- One element of a list, as a slice. -/
theorem Ints.one_of {w : World} {b off n c : Nat} {zs : List Int} (h : Ints w (.slice (some ⟨b, off, none⟩) n c) zs) {i c' : Nat} (hi : i < zs.length) (hc : 1 ≤ c') : Ints w (.slice (some ⟨b, off + i, none⟩) 1 c') [nth zs i] := by
  obtain ⟨a, cap, h1, h2, h3, h4, h5⟩ := h
  simp only [Value.slice.injEq] at h1
  obtain ⟨rfl, -, rfl⟩ := h1
  obtain ⟨b2, o2, h6, h7⟩ := h5 i hi
  simp only [Option.some.injEq, Addr.mk.injEq] at h6
  obtain ⟨rfl, rfl, -⟩ := h6
  rw [nth_at hi]
  refine ⟨_, c', rfl, hc, by simp, by simpa using h4 _ (List.getElem_mem hi), fun k hk => ⟨b, off + i, rfl, ?_⟩⟩
  obtain rfl : k = 0 := by simpa using hk
  exact h7

set_option maxRecDepth 100000 in
theorem run_slice_one (b o n c k : Nat) (hk : k < n) (hc : n ≤ c) (w : World) : (Instr.slice 23 (.slice (some ⟨b, o, none⟩) n c) (some (.int .i64 (k : Int))) (some (.int .i64 ((k : Int) + 1))) none).run Try.prog w = .ok (.slice (some ⟨b, o + k, none⟩) 1 (c - k)) w := by
  have hu : Try.prog.underlying 23 = some (.slice (Try.prog.elem 23)) := Try.underlying23
  have hs : (sizeOf (Try.prog.elem 23)).run Try.prog w = .ok 1 w := by rfl
  rw [run_slice_lh _ _ _ _ _ hu .i64 .i64 (k : Int) ((k : Int) + 1) (by omega) (by omega) (by omega), hs]
  have h1 : ((k : Int) + 1).toNat = k + 1 := by omega
  have h2 : ((k : Int)).toNat = k := by omega
  simp only [Result.andThen, h1, h2]
  unfold sliced
  rw [if_neg (by omega : ¬ c = k), Nat.mul_one, Option.map_some, add_off, Nat.add_sub_cancel_left]

end Go.Proofs.Ytnbkbnbmmkfckaa
