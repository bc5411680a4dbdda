/- The laws of rebuilding: RebuildSpec, RebuildFinishSpec. -/
import Derived.Test.YtnbkbnbmmkfckaaMRbM
namespace Go.Proofs.Ytnbkbnbmmkfckaa
open Go.RowKit FP

theorem same_self (l : List Int) : sameQ l l = true := sameQ_all rfl fun _ _ _ => rfl

set_option maxRecDepth 100000 in
set_option maxHeartbeats 8000000 in
theorem rebuildSpec_any (rv ov hv mv : Value) (rows : List (List Int)) (owners : List Int) (row : Int) (hs : List Int) (y r v : Int) (ms : List Int) (w : World) (hR : Rows2 w rv rows) (hO : Ints w ov owners) (hrow : R64 row) (hH : Ints w hv hs) (_hy : R64 y) (_hr : R64 r) (_hv : R64 v) (hM : Ints w mv ms) :
    Calls Try.prog 3 #[.agg #[rv, ov], .int .i64 row, hv, .int .i64 y, .agg #[.int .i64 r, .int .i64 v], mv] w fun e w' => e = .returned (.bool true) ∧ Below w.heap.size w w' := by
  obtain ⟨W0, hW0, hb0, hr0, hz0⟩ := box_prog w rv ov 25
  obtain ⟨W1, hW1, hb1, hr1, hz1⟩ := box_prog W0 (.int .i64 r) (.int .i64 v) 27
  have hs0 : W0.heap.size = w.heap.size + 1 := by rw [hW0]; simp
  have hb : Below w.heap.size w W1 := hb0.trans (hb1.mono hb0.size)
  have HR := Lib.hid (hR.below hb)
  have HO := Lib.hid (hO.below hb)
  have HH := Lib.hid (hH.below hb)
  have HM := Lib.hid (hM.below hb)
  obtain ⟨a1, k1, rfl, -, hl1, -⟩ := id hR
  obtain ⟨a2, k2, rfl, -, hl2, -⟩ := id hO
  obtain ⟨a3, k3, rfl, -, hl3, -⟩ := id hH
  obtain ⟨a4, k4, rfl, -, hl4, -⟩ := id hM
  have c0 : W1.cell? ⟨w.heap.size, 0, none⟩ = some (.slice a1 rows.length k1) := below_cell hb1 (row_cell hr0 rfl)
  have c1 : W1.cell? ⟨w.heap.size, 1, none⟩ = some (.slice a2 owners.length k2) := below_cell hb1 (row_cell hr0 rfl)
  rw [hs0] at hr1
  have c2 : W1.cell? ⟨w.heap.size + 1, 0, none⟩ = some (.int .i64 r) := row_cell hr1 rfl
  have c3 : W1.cell? ⟨w.heap.size + 1, 1, none⟩ = some (.int .i64 v) := row_cell hr1 rfl
  rw [hW0] at hW1
  have HW1 := Lib.hid hW1
  have HB := Lib.hid hb
  have HS := Lib.hid (sane40_any W1)
  clear hR hO hH hM hb hb0 hb1 hr0 hr1 hW0 hW1 hz0 hz1 hs0
  have HF := Lib.hid (fun ww h1 h2 => few40_any (.slice a1 rows.length k1) (.slice a2 owners.length k2) rows owners ww h1 h2)
  by_cases hh : 100 < hs.length
  · have d0 : decide (100 < (hs.length : Int)) = true := decide_eq_true (by omega)
    clear hh
    go_enter Try.func3, Try.ntmps3
    go_wp2_with (rw [← HW1.out])
    refine (HS.out).mono ?_
    rintro e w2 ⟨rfl, hb2⟩
    replace c0 := below_cell hb2 c0
    replace c1 := below_cell hb2 c1
    replace c2 := below_cell hb2 c2
    replace c3 := below_cell hb2 c3
    replace HR := Lib.hid (HR.out.below hb2)
    replace HO := Lib.hid (HO.out.below hb2)
    replace HH := Lib.hid (HH.out.below hb2)
    replace HM := Lib.hid (HM.out.below hb2)
    replace HB := Lib.hid (HB.out.trans (hb2.mono HB.out.size))
    clear hb2
    go_wp2_with fail
    refine (HF.out _ HR.out HO.out).mono ?_
    rintro e w3 ⟨b, rfl, hb3⟩
    replace c0 := below_cell hb3 c0
    replace c1 := below_cell hb3 c1
    replace c2 := below_cell hb3 c2
    replace c3 := below_cell hb3 c3
    replace HR := Lib.hid (HR.out.below hb3)
    replace HO := Lib.hid (HO.out.below hb3)
    replace HH := Lib.hid (HH.out.below hb3)
    replace HM := Lib.hid (HM.out.below hb3)
    replace HB := Lib.hid (HB.out.trans (hb3.mono HB.out.size))
    clear hb3
    cases b <;> (go_wp2_with fail; go_ret; exact ⟨rfl, HB.out⟩)
  have d0 : decide (100 < (hs.length : Int)) = false := decide_eq_false (by omega)
  by_cases hm : 100 < ms.length
  · have d1 : decide (100 < (ms.length : Int)) = true := decide_eq_true (by omega)
    clear hh hm
    go_enter Try.func3, Try.ntmps3
    go_wp2_with (rw [← HW1.out])
    refine (HS.out).mono ?_
    rintro e w2 ⟨rfl, hb2⟩
    replace c0 := below_cell hb2 c0
    replace c1 := below_cell hb2 c1
    replace c2 := below_cell hb2 c2
    replace c3 := below_cell hb2 c3
    replace HR := Lib.hid (HR.out.below hb2)
    replace HO := Lib.hid (HO.out.below hb2)
    replace HH := Lib.hid (HH.out.below hb2)
    replace HM := Lib.hid (HM.out.below hb2)
    replace HB := Lib.hid (HB.out.trans (hb2.mono HB.out.size))
    clear hb2
    go_wp2_with fail
    refine (HF.out _ HR.out HO.out).mono ?_
    rintro e w3 ⟨b, rfl, hb3⟩
    replace c0 := below_cell hb3 c0
    replace c1 := below_cell hb3 c1
    replace c2 := below_cell hb3 c2
    replace c3 := below_cell hb3 c3
    replace HR := Lib.hid (HR.out.below hb3)
    replace HO := Lib.hid (HO.out.below hb3)
    replace HH := Lib.hid (HH.out.below hb3)
    replace HM := Lib.hid (HM.out.below hb3)
    replace HB := Lib.hid (HB.out.trans (hb3.mono HB.out.size))
    clear hb3
    cases b <;> (go_wp2_with fail; go_ret; exact ⟨rfl, HB.out⟩)
  have d1 : decide (100 < (ms.length : Int)) = false := decide_eq_false (by omega)
  have HP := Lib.hid (fun ww h1 h2 h3 => plan_any (.slice a1 rows.length k1) (.slice a2 owners.length k2) (.slice a3 hs.length k3) rows owners row hs ww h1 h2 h3 hrow (by omega))
  have HQ := Lib.hid (fun ww h1 h2 h3 => rPlan_any (.slice a1 rows.length k1) (.slice a2 owners.length k2) (.slice a3 hs.length k3) rows owners row hs ww h1 h2 h3 (by omega))
  have HPA := Lib.hid (fun ww h => part_any y r v (.slice a4 ms.length k4) ms ww h)
  have HPB := Lib.hid (fun ww h => rPart_any y r v (.slice a4 ms.length k4) ms ww h)
  have HSY := Lib.hid (same_self (planY rows owners row hs))
  generalize planY rows owners row hs = Y at *
  generalize planOk rows owners row hs = ok at *
  generalize planE rows owners row hs = e at *
  generalize partV y r v ms = pv at *
  generalize partE y r v ms = pe at *
  have e1 : (ok == ok) = true := by simp
  have e2 : (e == e) = true := by simp
  have e3 : (pv == pv) = true := by simp
  have e4 : (pe == pe) = true := by simp
  clear hh hm
  go_enter Try.func3, Try.ntmps3
  go_wp2_with (rw [← HW1.out])
  refine (HS.out).mono ?_
  rintro e w2 ⟨rfl, hb2⟩
  replace c0 := below_cell hb2 c0
  replace c1 := below_cell hb2 c1
  replace c2 := below_cell hb2 c2
  replace c3 := below_cell hb2 c3
  replace HR := Lib.hid (HR.out.below hb2)
  replace HO := Lib.hid (HO.out.below hb2)
  replace HH := Lib.hid (HH.out.below hb2)
  replace HM := Lib.hid (HM.out.below hb2)
  replace HB := Lib.hid (HB.out.trans (hb2.mono HB.out.size))
  clear hb2
  go_wp2_with fail
  refine (HF.out _ HR.out HO.out).mono ?_
  rintro e w3 ⟨b, rfl, hb3⟩
  replace c0 := below_cell hb3 c0
  replace c1 := below_cell hb3 c1
  replace c2 := below_cell hb3 c2
  replace c3 := below_cell hb3 c3
  replace HR := Lib.hid (HR.out.below hb3)
  replace HO := Lib.hid (HO.out.below hb3)
  replace HH := Lib.hid (HH.out.below hb3)
  replace HM := Lib.hid (HM.out.below hb3)
  replace HB := Lib.hid (HB.out.trans (hb3.mono HB.out.size))
  clear hb3
  cases b with
  | false =>
    go_wp2_with fail
    go_ret
    exact ⟨rfl, HB.out⟩
  | true =>
    go_wp2_with fail
    refine (HP.out _ HR.out HO.out HH.out).mono ?_
    rintro e w4 ⟨yv, rfl, hy4, hb4⟩
    replace c0 := below_cell hb4 c0
    replace c1 := below_cell hb4 c1
    replace c2 := below_cell hb4 c2
    replace c3 := below_cell hb4 c3
    replace HR := Lib.hid (HR.out.below hb4)
    replace HO := Lib.hid (HO.out.below hb4)
    replace HH := Lib.hid (HH.out.below hb4)
    replace HM := Lib.hid (HM.out.below hb4)
    replace HB := Lib.hid (HB.out.trans (hb4.mono HB.out.size))
    clear hb4
    obtain ⟨ya, yc, rfl, -⟩ := id hy4
    have HY := Lib.hid hy4
    clear hy4
    go_wp2_with fail
    refine (HQ.out _ HR.out HO.out HH.out).mono ?_
    rintro e w5 ⟨zv, rfl, hz5, hb5⟩
    replace c0 := below_cell hb5 c0
    replace c1 := below_cell hb5 c1
    replace c2 := below_cell hb5 c2
    replace c3 := below_cell hb5 c3
    replace HR := Lib.hid (HR.out.below hb5)
    replace HO := Lib.hid (HO.out.below hb5)
    replace HH := Lib.hid (HH.out.below hb5)
    replace HM := Lib.hid (HM.out.below hb5)
    replace HY := Lib.hid (HY.out.below hb5)
    replace HB := Lib.hid (HB.out.trans (hb5.mono HB.out.size))
    clear hb5
    obtain ⟨za, zc, rfl, -⟩ := id hz5
    have HZ := Lib.hid hz5
    clear hz5
    go_wp2_with fail
    refine (HPA.out _ HM.out).mono ?_
    rintro e w6 ⟨rfl, hb6⟩
    replace c0 := below_cell hb6 c0
    replace c1 := below_cell hb6 c1
    replace c2 := below_cell hb6 c2
    replace c3 := below_cell hb6 c3
    replace HR := Lib.hid (HR.out.below hb6)
    replace HO := Lib.hid (HO.out.below hb6)
    replace HH := Lib.hid (HH.out.below hb6)
    replace HM := Lib.hid (HM.out.below hb6)
    replace HY := Lib.hid (HY.out.below hb6)
    replace HZ := Lib.hid (HZ.out.below hb6)
    replace HB := Lib.hid (HB.out.trans (hb6.mono HB.out.size))
    clear hb6
    go_wp2_with fail
    refine (HPB.out _ HM.out).mono ?_
    rintro e w7 ⟨rfl, hb7⟩
    replace c0 := below_cell hb7 c0
    replace c1 := below_cell hb7 c1
    replace c2 := below_cell hb7 c2
    replace c3 := below_cell hb7 c3
    replace HR := Lib.hid (HR.out.below hb7)
    replace HO := Lib.hid (HO.out.below hb7)
    replace HH := Lib.hid (HH.out.below hb7)
    replace HM := Lib.hid (HM.out.below hb7)
    replace HY := Lib.hid (HY.out.below hb7)
    replace HZ := Lib.hid (HZ.out.below hb7)
    replace HB := Lib.hid (HB.out.trans (hb7.mono HB.out.size))
    clear hb7
    go_wp2_with fail
    refine (rSameInts40_any _ _ _ _ _ HY.out HZ.out).mono ?_
    rintro e w8 ⟨rfl, hb8⟩
    replace c0 := below_cell hb8 c0
    replace c1 := below_cell hb8 c1
    replace c2 := below_cell hb8 c2
    replace c3 := below_cell hb8 c3
    replace HR := Lib.hid (HR.out.below hb8)
    replace HO := Lib.hid (HO.out.below hb8)
    replace HH := Lib.hid (HH.out.below hb8)
    replace HM := Lib.hid (HM.out.below hb8)
    replace HY := Lib.hid (HY.out.below hb8)
    replace HZ := Lib.hid (HZ.out.below hb8)
    replace HB := Lib.hid (HB.out.trans (hb8.mono HB.out.size))
    clear hb8
    rw [HSY.out]
    go_wp2_with fail
    go_ret
    exact ⟨rfl, HB.out⟩

set_option maxRecDepth 100000 in
set_option maxHeartbeats 8000000 in
theorem rebuildFinishSpec_any (rv ov cv pv : Value) (ep : Int) (rows : List (List Int)) (owners cs : List Int) (row : Int) (parts : List Int) (w : World) (_he : R64 ep) (hR : Rows2 w rv rows) (hO : Ints w ov owners) (hC : Ints w cv cs) (hrow : R64 row) (hP : Ints w pv parts) :
    Calls Try.prog 4 #[.agg #[.int .i64 ep, rv, ov, cv], .int .i64 row, pv] w fun e w' => e = .returned (.bool true) ∧ Below w.heap.size w w' := by
  obtain ⟨W1, hW1, hb1, hr1, hs1⟩ := box_key w (.int .i64 ep) rv ov cv 38
  have HR := Lib.hid (hR.below hb1)
  have HO := Lib.hid (hO.below hb1)
  have HC := Lib.hid (hC.below hb1)
  have HP := Lib.hid (hP.below hb1)
  obtain ⟨a1, k1, rfl, -, hl1, -⟩ := id hR
  obtain ⟨a2, k2, rfl, -, hl2, -⟩ := id hO
  obtain ⟨a3, k3, rfl, -, hl3, -⟩ := id hC
  obtain ⟨a4, k4, rfl, -, hl4, -⟩ := id hP
  have c0 : W1.cell? ⟨w.heap.size, 0, none⟩ = some (.int .i64 ep) := row_cell hr1 rfl
  have c1 : W1.cell? ⟨w.heap.size, 1, none⟩ = some (.slice a1 rows.length k1) := row_cell hr1 rfl
  have c2 : W1.cell? ⟨w.heap.size, 2, none⟩ = some (.slice a2 owners.length k2) := row_cell hr1 rfl
  have c3 : W1.cell? ⟨w.heap.size, 3, none⟩ = some (.slice a3 cs.length k3) := row_cell hr1 rfl
  have HW1 := Lib.hid hW1
  have HB := Lib.hid hb1
  have HS := Lib.hid (sane40_any W1)
  clear hR hO hC hP hb1 hr1 hW1 hs1
  have HF := Lib.hid (fun ww h1 h2 => few40_any (.slice a1 rows.length k1) (.slice a2 owners.length k2) rows owners ww h1 h2)
  by_cases hh : 100 < cs.length
  · have d0 : decide (100 < (cs.length : Int)) = true := decide_eq_true (by omega)
    clear hh
    go_enter Try.func4, Try.ntmps4
    go_wp2_with (rw [← HW1.out])
    refine (HS.out).mono ?_
    rintro e w2 ⟨rfl, hb2⟩
    replace c0 := below_cell hb2 c0
    replace c1 := below_cell hb2 c1
    replace c2 := below_cell hb2 c2
    replace c3 := below_cell hb2 c3
    replace HR := Lib.hid (HR.out.below hb2)
    replace HO := Lib.hid (HO.out.below hb2)
    replace HC := Lib.hid (HC.out.below hb2)
    replace HP := Lib.hid (HP.out.below hb2)
    replace HB := Lib.hid (HB.out.trans (hb2.mono HB.out.size))
    clear hb2
    go_wp2_with fail
    refine (HF.out _ HR.out HO.out).mono ?_
    rintro e w3 ⟨b, rfl, hb3⟩
    replace c0 := below_cell hb3 c0
    replace c1 := below_cell hb3 c1
    replace c2 := below_cell hb3 c2
    replace c3 := below_cell hb3 c3
    replace HR := Lib.hid (HR.out.below hb3)
    replace HO := Lib.hid (HO.out.below hb3)
    replace HC := Lib.hid (HC.out.below hb3)
    replace HP := Lib.hid (HP.out.below hb3)
    replace HB := Lib.hid (HB.out.trans (hb3.mono HB.out.size))
    clear hb3
    cases b <;> (go_wp2_with fail; go_ret; exact ⟨rfl, HB.out⟩)
  have d0 : decide (100 < (cs.length : Int)) = false := decide_eq_false (by omega)
  by_cases hm : 100 < parts.length
  · have d1 : decide (100 < (parts.length : Int)) = true := decide_eq_true (by omega)
    clear hh hm
    go_enter Try.func4, Try.ntmps4
    go_wp2_with (rw [← HW1.out])
    refine (HS.out).mono ?_
    rintro e w2 ⟨rfl, hb2⟩
    replace c0 := below_cell hb2 c0
    replace c1 := below_cell hb2 c1
    replace c2 := below_cell hb2 c2
    replace c3 := below_cell hb2 c3
    replace HR := Lib.hid (HR.out.below hb2)
    replace HO := Lib.hid (HO.out.below hb2)
    replace HC := Lib.hid (HC.out.below hb2)
    replace HP := Lib.hid (HP.out.below hb2)
    replace HB := Lib.hid (HB.out.trans (hb2.mono HB.out.size))
    clear hb2
    go_wp2_with fail
    refine (HF.out _ HR.out HO.out).mono ?_
    rintro e w3 ⟨b, rfl, hb3⟩
    replace c0 := below_cell hb3 c0
    replace c1 := below_cell hb3 c1
    replace c2 := below_cell hb3 c2
    replace c3 := below_cell hb3 c3
    replace HR := Lib.hid (HR.out.below hb3)
    replace HO := Lib.hid (HO.out.below hb3)
    replace HC := Lib.hid (HC.out.below hb3)
    replace HP := Lib.hid (HP.out.below hb3)
    replace HB := Lib.hid (HB.out.trans (hb3.mono HB.out.size))
    clear hb3
    cases b <;> (go_wp2_with fail; go_ret; exact ⟨rfl, HB.out⟩)
  have d1 : decide (100 < (parts.length : Int)) = false := decide_eq_false (by omega)
  have HFA := Lib.hid (fun ww h1 h2 h3 h4 => finish_any ep row (.slice a1 rows.length k1) (.slice a2 owners.length k2) (.slice a3 cs.length k3) (.slice a4 parts.length k4) rows owners cs parts ww h1 h2 h3 h4 hrow)
  have HFB := Lib.hid (fun ww h1 h2 h3 h4 => rFinish_any ep row (.slice a1 rows.length k1) (.slice a2 owners.length k2) (.slice a3 cs.length k3) (.slice a4 parts.length k4) rows owners cs parts ww h1 h2 h3 h4 hrow)
  generalize finR rows owners cs row parts = x at *
  generalize finV rows owners cs row parts = z at *
  generalize finB rows owners cs row parts = ok at *
  generalize finE rows owners cs row parts = e at *
  have e1 : (ok == ok) = true := by simp
  have e2 : (e == e) = true := by simp
  have e3 : (x == x) = true := by simp
  have e4 : (z == z) = true := by simp
  clear hh hm
  go_enter Try.func4, Try.ntmps4
  go_wp2_with (rw [← HW1.out])
  refine (HS.out).mono ?_
  rintro e w2 ⟨rfl, hb2⟩
  replace c0 := below_cell hb2 c0
  replace c1 := below_cell hb2 c1
  replace c2 := below_cell hb2 c2
  replace c3 := below_cell hb2 c3
  replace HR := Lib.hid (HR.out.below hb2)
  replace HO := Lib.hid (HO.out.below hb2)
  replace HC := Lib.hid (HC.out.below hb2)
  replace HP := Lib.hid (HP.out.below hb2)
  replace HB := Lib.hid (HB.out.trans (hb2.mono HB.out.size))
  clear hb2
  go_wp2_with fail
  refine (HF.out _ HR.out HO.out).mono ?_
  rintro e w3 ⟨b, rfl, hb3⟩
  replace c0 := below_cell hb3 c0
  replace c1 := below_cell hb3 c1
  replace c2 := below_cell hb3 c2
  replace c3 := below_cell hb3 c3
  replace HR := Lib.hid (HR.out.below hb3)
  replace HO := Lib.hid (HO.out.below hb3)
  replace HC := Lib.hid (HC.out.below hb3)
  replace HP := Lib.hid (HP.out.below hb3)
  replace HB := Lib.hid (HB.out.trans (hb3.mono HB.out.size))
  clear hb3
  cases b with
  | false =>
    go_wp2_with fail
    go_ret
    exact ⟨rfl, HB.out⟩
  | true =>
    go_wp2_with fail
    refine (HFA.out _ HR.out HO.out HC.out HP.out).mono ?_
    rintro e w4 ⟨rfl, hb4⟩
    replace c0 := below_cell hb4 c0
    replace c1 := below_cell hb4 c1
    replace c2 := below_cell hb4 c2
    replace c3 := below_cell hb4 c3
    replace HR := Lib.hid (HR.out.below hb4)
    replace HO := Lib.hid (HO.out.below hb4)
    replace HC := Lib.hid (HC.out.below hb4)
    replace HP := Lib.hid (HP.out.below hb4)
    replace HB := Lib.hid (HB.out.trans (hb4.mono HB.out.size))
    clear hb4
    obtain ⟨W5, hW5, hb5, hr5, -⟩ := box_prog w4 (.int .i64 x) (.int .i64 z) 27
    have s0 : W5.cell? ⟨w4.heap.size, 0, none⟩ = some (.int .i64 x) := row_cell hr5 rfl
    have s1 : W5.cell? ⟨w4.heap.size, 1, none⟩ = some (.int .i64 z) := row_cell hr5 rfl
    have HW5 := Lib.hid hW5
    clear hW5 hr5
    replace c0 := below_cell hb5 c0
    replace c1 := below_cell hb5 c1
    replace c2 := below_cell hb5 c2
    replace c3 := below_cell hb5 c3
    replace HR := Lib.hid (HR.out.below hb5)
    replace HO := Lib.hid (HO.out.below hb5)
    replace HC := Lib.hid (HC.out.below hb5)
    replace HP := Lib.hid (HP.out.below hb5)
    replace HB := Lib.hid (HB.out.trans (hb5.mono HB.out.size))
    clear hb5
    go_wp2_with (rw [← HW5.out])
    refine (HFB.out _ HR.out HO.out HC.out HP.out).mono ?_
    rintro e w6 ⟨rfl, hb6⟩
    replace c0 := below_cell hb6 c0
    replace c1 := below_cell hb6 c1
    replace c2 := below_cell hb6 c2
    replace c3 := below_cell hb6 c3
    replace s0 := below_cell hb6 s0
    replace s1 := below_cell hb6 s1
    replace HR := Lib.hid (HR.out.below hb6)
    replace HO := Lib.hid (HO.out.below hb6)
    replace HC := Lib.hid (HC.out.below hb6)
    replace HP := Lib.hid (HP.out.below hb6)
    replace HB := Lib.hid (HB.out.trans (hb6.mono HB.out.size))
    clear hb6
    obtain ⟨W7, hW7, hb7, hr7, -⟩ := box_prog w6 (.int .i64 x) (.int .i64 z) 27
    have t0 : W7.cell? ⟨w6.heap.size, 0, none⟩ = some (.int .i64 x) := row_cell hr7 rfl
    have t1 : W7.cell? ⟨w6.heap.size, 1, none⟩ = some (.int .i64 z) := row_cell hr7 rfl
    have HW7 := Lib.hid hW7
    clear hW7 hr7
    replace c0 := below_cell hb7 c0
    replace c1 := below_cell hb7 c1
    replace c2 := below_cell hb7 c2
    replace c3 := below_cell hb7 c3
    replace s0 := below_cell hb7 s0
    replace s1 := below_cell hb7 s1
    replace HR := Lib.hid (HR.out.below hb7)
    replace HO := Lib.hid (HO.out.below hb7)
    replace HC := Lib.hid (HC.out.below hb7)
    replace HP := Lib.hid (HP.out.below hb7)
    replace HB := Lib.hid (HB.out.trans (hb7.mono HB.out.size))
    clear hb7
    go_wp2_with (rw [← HW7.out])
    go_ret
    exact ⟨rfl, HB.out⟩

end Go.Proofs.Ytnbkbnbmmkfckaa
