/- The reference of moving: Move. -/
import Derived.Test.YtjjoadmkpbmhpaaGreatMMvU
import Derived.Test.YtjjoadmkpbmhpaaGreatMPmH
import Derived.Test.YtjjoadmkpbmhpaaGreatMPmJ
import Derived.Test.YtjjoadmkpbmhpaaGreatMRdC
import Derived.Deep.QuietTactic
import Derived.BigQuiet
namespace Go.Proofs.YtjjoadmkpbmhpaaGreat
open Go.RowKit FP

/-- How the reference's Move ends. -/
def RmPost (ep : Int) (rv2 ov2 : Value) (C : List Int) (L : List (Int × Int)) (ME : Int) (w : World) (e : Ending) (w' : World) : Prop :=
  ∃ E' rv' ov' kv lv', e = .returned (.tuple #[.agg #[.int .i64 E', rv', ov', kv], lv', .int .i64 ME]) ∧
    (ME = 0 → E' = ep + 1 ∧ rv' = rv2 ∧ ov' = ov2 ∧ RI w' kv C ∧ RS w' lv' L) ∧
    (ME ≠ 0 → E' = 0 ∧ rv' = .slice none 0 0 ∧ ov' = .slice none 0 0 ∧ kv = .slice none 0 0 ∧ lv' = .slice none 0 0) ∧ Below w.heap.size w w'
theorem rm_off {ep : Int} {rv2 ov2 : Value} {C : List Int} {L : List (Int × Int)} {ME q : Int} {w w' : World} (h : ME = q) (hq : q ≠ 0) (hb : Below w.heap.size w w') : RmPost ep rv2 ov2 C L ME w (.returned (.tuple #[.agg #[.int .i64 0, .slice none 0 0, .slice none 0 0, .slice none 0 0], .slice none 0 0, .int .i64 q])) w' := by
  subst h
  exact ⟨_, _, _, _, _, rfl, fun h => absurd h hq, fun _ => ⟨rfl, rfl, rfl, rfl, rfl⟩, hb⟩

set_option maxRecDepth 100000 in
set_option maxHeartbeats 32000000 in
theorem rMove39_any (ep : Int) (rv ov cv rv2 ov2 cmv lv wv rwv : Value) (rows : List (List Int)) (owners cs : List Int) (rows2 : List (List Int)) (owners2 who rws : List Int) (css : List (List Int)) (ls : List (List (Int × Int))) (w : World) (hR : Rows2 w rv rows) (hO : Ints w ov owners) (hC : Ints w cv cs) (hR2 : Rows2 w rv2 rows2) (hO2 : Ints w ov2 owners2) (hCS : Rows2 w cmv css) (hLS : SRows w lv ls) (hWH : Ints w wv who) (hRW : Ints w rwv rws) :
    Calls Tryz.prog 16 #[.agg #[.int .i64 ep, rv, ov, cv], .agg #[rv2, ov2], wv, rwv, cmv, lv] w (RmPost ep rv2 ov2 (mvC css rws (accY rows owners who) (colsQ rows2)) (mvL ls rws (accY rows owners who)) (mvE rows owners ep cs rows2 owners2 who rws css ls) w) := by
  obtain ⟨ME, hME⟩ : ∃ x, x = mvE rows owners ep cs rows2 owners2 who rws css ls := ⟨_, rfl⟩
  rw [← hME]
  have HME := Lib.hid hME
  clear hME
  obtain ⟨W0, hW0, hb0, hr0, hs0⟩ := box_key w (.int .i64 ep) rv ov cv 27
  obtain ⟨W1, hW1, hb1, hr1, hz1⟩ := box_prog W0 rv2 ov2 25
  have hs1 : W1.heap.size = W0.heap.size + 1 := by rw [hW1]; simp
  obtain ⟨W2, hW2, hb2, hr2, hs2⟩ := box_key W1 (.int .i64 0) (.slice none 0 0) (.slice none 0 0) (.slice none 0 0) 27
  have t0 : Below w.heap.size w W0 := hb0
  have t1 : Below w.heap.size w W1 := t0.trans (hb1.mono t0.size)
  have t2 : Below w.heap.size w W2 := t1.trans (hb2.mono t1.size)
  have Q0 := Lib.hid ((hb2.block _ (row_lt ((hb1.block _ (row_lt hr0)).trans hr0))).trans ((hb1.block _ (row_lt hr0)).trans hr0))
  have Q1 := Lib.hid ((hb2.block _ (row_lt hr1)).trans hr1)
  have Q2 := Lib.hid hr2
  rw [hs0] at Q1
  rw [hs1, hs0] at Q2
  have HB := Lib.hid t2
  have HR := Lib.hid (hR.below t2)
  have HO := Lib.hid (hO.below t2)
  have HC := Lib.hid (hC.below t2)
  have HR2 := Lib.hid (hR2.below t2)
  have HO2 := Lib.hid (hO2.below t2)
  have HCS := Lib.hid (hCS.below t2)
  have HLS := Lib.hid (hLS.below t2)
  have HWH := Lib.hid (hWH.below t2)
  have HRW := Lib.hid (hRW.below t2)
  obtain ⟨a1, k1, rfl, -, hl1, -⟩ := id hR
  obtain ⟨a2, k2, rfl, -, hl2, -⟩ := id hO
  obtain ⟨a3, k3, rfl, -, hl3, -⟩ := id hC
  obtain ⟨a4, k4, rfl, -, hl4, -⟩ := id hR2
  obtain ⟨a5, k5, rfl, -, hl5, -⟩ := id hO2
  obtain ⟨a6, k6, rfl, -, hl6, -⟩ := id hCS
  obtain ⟨a7, k7, rfl, -, hl7, -⟩ := id hLS
  obtain ⟨a8, k8, rfl, -, hl8, -⟩ := id hWH
  obtain ⟨a9, k9, rfl, -, hl9, -⟩ := id hRW
  rw [hW1, hW0] at hW2
  have HWB := Lib.hid hW2
  clear hW0 hb0 hr0 hs0 t0 hW1 hb1 hr1 hs1 t1 hW2 hb2 hr2 hs2 t2 hz1
  clear hR hO hC hR2 hO2 hCS hLS hWH hRW
  have p00 := row_cell Q0.out (k := 0) rfl
  have p01 := row_cell Q0.out (k := 1) rfl
  have p02 := row_cell Q0.out (k := 2) rfl
  have p03 := row_cell Q0.out (k := 3) rfl
  have p10 := row_cell Q1.out (k := 0) rfl
  have p11 := row_cell Q1.out (k := 1) rfl
  go_enter Tryz.func16, Tryz.ntmps16
  go_wp2_with (rw [← HWB.out])
  clear HWB
  with_reducible refine (rErr39_any ep _ _ _ _ _ rows owners cs rows2 owners2 _ HR.out HO.out HC.out HR2.out HO2.out).mono ?_
  rintro e w2 ⟨rfl, hb2⟩
  replace p00 := below_cell hb2 p00
  replace p01 := below_cell hb2 p01
  replace p02 := below_cell hb2 p02
  replace p03 := below_cell hb2 p03
  replace p10 := below_cell hb2 p10
  replace p11 := below_cell hb2 p11
  replace HR := Lib.hid (HR.out.below hb2)
  replace HO := Lib.hid (HO.out.below hb2)
  replace HC := Lib.hid (HC.out.below hb2)
  replace HR2 := Lib.hid (HR2.out.below hb2)
  replace HO2 := Lib.hid (HO2.out.below hb2)
  replace HCS := Lib.hid (HCS.out.below hb2)
  replace HLS := Lib.hid (HLS.out.below hb2)
  replace HWH := Lib.hid (HWH.out.below hb2)
  replace HRW := Lib.hid (HRW.out.below hb2)
  replace Q0 := Lib.hid ((hb2.block _ (row_lt Q0.out)).trans Q0.out)
  replace Q1 := Lib.hid ((hb2.block _ (row_lt Q1.out)).trans Q1.out)
  replace Q2 := Lib.hid ((hb2.block _ (row_lt Q2.out)).trans Q2.out)
  replace HB := Lib.hid (HB.out.trans (hb2.mono HB.out.size))
  clear hb2
  by_cases hc : chkE rows owners ep cs rows2 owners2 = 0
  rotate_left
  · have HV : Hid (ME = chkE rows owners ep cs rows2 owners2) := Lib.hid (by rw [HME.out]; unfold mvE; rw [if_pos hc])
    have d0 : (chkE rows owners ep cs rows2 owners2 != 0) = true := bne_iff_ne.2 hc
    have HNZ := Lib.hid hc
    clear hc HME
    generalize chkE rows owners ep cs rows2 owners2 = q at *
    have x0 := row_cell Q2.out (k := 0) rfl
    have x1 := row_cell Q2.out (k := 1) rfl
    have x2 := row_cell Q2.out (k := 2) rfl
    have x3 := row_cell Q2.out (k := 3) rfl
    have f0 := row_free Q2.out 0
    have f1 := row_free Q2.out 1
    have f2 := row_free Q2.out 2
    have f3 := row_free Q2.out 3
    have HG0 := Lib.hid (show (_ : World).setCell ⟨w.heap.size + 1 + 1, 0, none⟩ (.int .i64 0) = _ from set_same x0)
    have HG1 := Lib.hid (show (_ : World).setCell ⟨w.heap.size + 1 + 1, 1, none⟩ (.slice none 0 0) = _ from set_same x1)
    have HG2 := Lib.hid (show (_ : World).setCell ⟨w.heap.size + 1 + 1, 2, none⟩ (.slice none 0 0) = _ from set_same x2)
    have HG3 := Lib.hid (show (_ : World).setCell ⟨w.heap.size + 1 + 1, 3, none⟩ (.slice none 0 0) = _ from set_same x3)
    go_wp2_with (first | rw [HG0.out] | rw [HG1.out] | rw [HG2.out] | rw [HG3.out])
    try simp only [Exit.inBlock, Exit.then]
    refine bodyPost_ret (v := .tuple #[.agg #[.int .i64 0, .slice none 0 0, .slice none 0 0, .slice none 0 0], .slice none 0 0, .int .i64 q]) ?_ rfl ?_
    · rw [results_cell_tmp2 rfl]
      go_simp
    · exact rm_off HV.out HNZ.out HB.out
  have HE1 : Hid (ME = if 64 ≤ ep then 2 else (if ¬ (peopleB (-1) who = true ∧ rws = ownN owners who owners.length) then 1 else (if ¬ (accOk rows owners who = true ∧ css.length = rws.length ∧ ls.length = rws.length) then 340 else (if dealtB rows owners cs rows2 rws css ls rws.length = true then 0 else 340)))) := Lib.hid (by rw [HME.out]; unfold mvE; rw [if_neg (by simp [hc])])
  have HALL := Lib.hid (chkE_all hc)
  have HKY := Lib.hid (keyB_ok HALL.out.2.1)
  rw [hc]
  clear hc HME
  have hep := HKY.out
  by_cases he : ep = 64
  · have HV : Hid (ME = 2) := Lib.hid (HE1.out.trans (if_pos (by omega)))
    have d1 : (ep == 64) = true := beq_iff_eq.2 he
    clear he HE1 hep
    have x0 := row_cell Q2.out (k := 0) rfl
    have x1 := row_cell Q2.out (k := 1) rfl
    have x2 := row_cell Q2.out (k := 2) rfl
    have x3 := row_cell Q2.out (k := 3) rfl
    have f0 := row_free Q2.out 0
    have f1 := row_free Q2.out 1
    have f2 := row_free Q2.out 2
    have f3 := row_free Q2.out 3
    have HG0 := Lib.hid (show (_ : World).setCell ⟨w.heap.size + 1 + 1, 0, none⟩ (.int .i64 0) = _ from set_same x0)
    have HG1 := Lib.hid (show (_ : World).setCell ⟨w.heap.size + 1 + 1, 1, none⟩ (.slice none 0 0) = _ from set_same x1)
    have HG2 := Lib.hid (show (_ : World).setCell ⟨w.heap.size + 1 + 1, 2, none⟩ (.slice none 0 0) = _ from set_same x2)
    have HG3 := Lib.hid (show (_ : World).setCell ⟨w.heap.size + 1 + 1, 3, none⟩ (.slice none 0 0) = _ from set_same x3)
    go_wp2_with (first | rw [HG0.out] | rw [HG1.out] | rw [HG2.out] | rw [HG3.out])
    try simp only [Exit.inBlock, Exit.then]
    refine bodyPost_ret (v := .tuple #[.agg #[.int .i64 0, .slice none 0 0, .slice none 0 0, .slice none 0 0], .slice none 0 0, .int .i64 2]) ?_ rfl ?_
    · rw [results_cell_tmp2 rfl]
      go_simp
    · exact rm_off HV.out (by decide) HB.out
  have HE2 : Hid (ME = (if ¬ (peopleB (-1) who = true ∧ rws = ownN owners who owners.length) then 1 else (if ¬ (accOk rows owners who = true ∧ css.length = rws.length ∧ ls.length = rws.length) then 340 else (if dealtB rows owners cs rows2 rws css ls rws.length = true then 0 else 340)))) := Lib.hid (HE1.out.trans (if_neg (by omega)))
  have d1 : (ep == 64) = false := beq_eq_false_iff_ne.2 he
  clear he HE1 hep
  go_wp2_with fail
  clear d1
  with_reducible refine (rPeople_any _ who _ HWH.out).mono ?_
  rintro e w4 ⟨rfl, hb4⟩
  replace p00 := below_cell hb4 p00
  replace p01 := below_cell hb4 p01
  replace p02 := below_cell hb4 p02
  replace p03 := below_cell hb4 p03
  replace p10 := below_cell hb4 p10
  replace p11 := below_cell hb4 p11
  replace HR := Lib.hid (HR.out.below hb4)
  replace HO := Lib.hid (HO.out.below hb4)
  replace HC := Lib.hid (HC.out.below hb4)
  replace HR2 := Lib.hid (HR2.out.below hb4)
  replace HO2 := Lib.hid (HO2.out.below hb4)
  replace HCS := Lib.hid (HCS.out.below hb4)
  replace HLS := Lib.hid (HLS.out.below hb4)
  replace HWH := Lib.hid (HWH.out.below hb4)
  replace HRW := Lib.hid (HRW.out.below hb4)
  replace Q0 := Lib.hid ((hb4.block _ (row_lt Q0.out)).trans Q0.out)
  replace Q1 := Lib.hid ((hb4.block _ (row_lt Q1.out)).trans Q1.out)
  replace Q2 := Lib.hid ((hb4.block _ (row_lt Q2.out)).trans Q2.out)
  replace HB := Lib.hid (HB.out.trans (hb4.mono HB.out.size))
  clear hb4
  cases hpe : peopleB (-1) who with
  | false =>
    have HV : Hid (ME = 1) := Lib.hid (HE2.out.trans (if_pos (by rw [hpe]; simp)))
    clear hpe HE2
    have x0 := row_cell Q2.out (k := 0) rfl
    have x1 := row_cell Q2.out (k := 1) rfl
    have x2 := row_cell Q2.out (k := 2) rfl
    have x3 := row_cell Q2.out (k := 3) rfl
    have f0 := row_free Q2.out 0
    have f1 := row_free Q2.out 1
    have f2 := row_free Q2.out 2
    have f3 := row_free Q2.out 3
    have HG0 := Lib.hid (show (_ : World).setCell ⟨w.heap.size + 1 + 1, 0, none⟩ (.int .i64 0) = _ from set_same x0)
    have HG1 := Lib.hid (show (_ : World).setCell ⟨w.heap.size + 1 + 1, 1, none⟩ (.slice none 0 0) = _ from set_same x1)
    have HG2 := Lib.hid (show (_ : World).setCell ⟨w.heap.size + 1 + 1, 2, none⟩ (.slice none 0 0) = _ from set_same x2)
    have HG3 := Lib.hid (show (_ : World).setCell ⟨w.heap.size + 1 + 1, 3, none⟩ (.slice none 0 0) = _ from set_same x3)
    go_wp2_with (first | rw [HG0.out] | rw [HG1.out] | rw [HG2.out] | rw [HG3.out])
    try simp only [Exit.inBlock, Exit.then]
    refine bodyPost_ret (v := .tuple #[.agg #[.int .i64 0, .slice none 0 0, .slice none 0 0, .slice none 0 0], .slice none 0 0, .int .i64 1]) ?_ rfl ?_
    · rw [results_cell_tmp2 rfl]
      go_simp
    · exact rm_off HV.out (by decide) HB.out
  | true =>
  have HPE := Lib.hid hpe
  clear hpe
  have hpk := progE_ok HALL.out.1
  have hol : owners.length ≤ 64 := by have h1 := hpk.few; have h2 := hpk.len; omega
  have HOL := Lib.hid hol
  clear hpk hol
  go_wp2_with fail
  with_reducible refine (rRows39_any _ _ _ rows owners who _ HR.out HO.out HWH.out (by have := HOL.out; omega)).mono ?_
  rintro e w5 ⟨vo, rfl, hvo, hb5⟩
  replace p00 := below_cell hb5 p00
  replace p01 := below_cell hb5 p01
  replace p02 := below_cell hb5 p02
  replace p03 := below_cell hb5 p03
  replace p10 := below_cell hb5 p10
  replace p11 := below_cell hb5 p11
  replace HR := Lib.hid (HR.out.below hb5)
  replace HO := Lib.hid (HO.out.below hb5)
  replace HC := Lib.hid (HC.out.below hb5)
  replace HR2 := Lib.hid (HR2.out.below hb5)
  replace HO2 := Lib.hid (HO2.out.below hb5)
  replace HCS := Lib.hid (HCS.out.below hb5)
  replace HLS := Lib.hid (HLS.out.below hb5)
  replace HWH := Lib.hid (HWH.out.below hb5)
  replace HRW := Lib.hid (HRW.out.below hb5)
  replace Q0 := Lib.hid ((hb5.block _ (row_lt Q0.out)).trans Q0.out)
  replace Q1 := Lib.hid ((hb5.block _ (row_lt Q1.out)).trans Q1.out)
  replace Q2 := Lib.hid ((hb5.block _ (row_lt Q2.out)).trans Q2.out)
  replace HB := Lib.hid (HB.out.trans (hb5.mono HB.out.size))
  clear hb5
  have HVO := Lib.hid hvo
  obtain ⟨ao, ko, rfl, -⟩ := id hvo
  clear hvo
  go_wp2_with fail
  with_reducible refine (rSameInts23_any _ _ rws (ownN owners who owners.length) _ HRW.out HVO.out).mono ?_
  rintro e w6 ⟨rfl, hb6⟩
  replace p00 := below_cell hb6 p00
  replace p01 := below_cell hb6 p01
  replace p02 := below_cell hb6 p02
  replace p03 := below_cell hb6 p03
  replace p10 := below_cell hb6 p10
  replace p11 := below_cell hb6 p11
  replace HR := Lib.hid (HR.out.below hb6)
  replace HO := Lib.hid (HO.out.below hb6)
  replace HC := Lib.hid (HC.out.below hb6)
  replace HR2 := Lib.hid (HR2.out.below hb6)
  replace HO2 := Lib.hid (HO2.out.below hb6)
  replace HCS := Lib.hid (HCS.out.below hb6)
  replace HLS := Lib.hid (HLS.out.below hb6)
  replace HWH := Lib.hid (HWH.out.below hb6)
  replace HRW := Lib.hid (HRW.out.below hb6)
  replace Q0 := Lib.hid ((hb6.block _ (row_lt Q0.out)).trans Q0.out)
  replace Q1 := Lib.hid ((hb6.block _ (row_lt Q1.out)).trans Q1.out)
  replace Q2 := Lib.hid ((hb6.block _ (row_lt Q2.out)).trans Q2.out)
  replace HB := Lib.hid (HB.out.trans (hb6.mono HB.out.size))
  clear hb6
  clear HVO
  by_cases hro : rws = ownN owners who owners.length
  rotate_left
  · have HV : Hid (ME = 1) := Lib.hid (HE2.out.trans (if_pos (by simp [hro])))
    rw [show sameQ rws (ownN owners who owners.length) = false from decide_eq_false hro]
    clear hro HE2
    have x0 := row_cell Q2.out (k := 0) rfl
    have x1 := row_cell Q2.out (k := 1) rfl
    have x2 := row_cell Q2.out (k := 2) rfl
    have x3 := row_cell Q2.out (k := 3) rfl
    have f0 := row_free Q2.out 0
    have f1 := row_free Q2.out 1
    have f2 := row_free Q2.out 2
    have f3 := row_free Q2.out 3
    have HG0 := Lib.hid (show (_ : World).setCell ⟨w.heap.size + 1 + 1, 0, none⟩ (.int .i64 0) = _ from set_same x0)
    have HG1 := Lib.hid (show (_ : World).setCell ⟨w.heap.size + 1 + 1, 1, none⟩ (.slice none 0 0) = _ from set_same x1)
    have HG2 := Lib.hid (show (_ : World).setCell ⟨w.heap.size + 1 + 1, 2, none⟩ (.slice none 0 0) = _ from set_same x2)
    have HG3 := Lib.hid (show (_ : World).setCell ⟨w.heap.size + 1 + 1, 3, none⟩ (.slice none 0 0) = _ from set_same x3)
    go_wp2_with (first | rw [HG0.out] | rw [HG1.out] | rw [HG2.out] | rw [HG3.out])
    try simp only [Exit.inBlock, Exit.then]
    refine bodyPost_ret (v := .tuple #[.agg #[.int .i64 0, .slice none 0 0, .slice none 0 0, .slice none 0 0], .slice none 0 0, .int .i64 1]) ?_ rfl ?_
    · rw [results_cell_tmp2 rfl]
      go_simp
    · exact rm_off HV.out (by decide) HB.out
  have HE3 : Hid (ME = (if ¬ (accOk rows owners who = true ∧ css.length = rws.length ∧ ls.length = rws.length) then 340 else (if dealtB rows owners cs rows2 rws css ls rws.length = true then 0 else 340))) := Lib.hid (HE2.out.trans (if_neg (by simp [HPE.out, hro])))
  have HRO := Lib.hid hro
  rw [show sameQ rws (ownN owners who owners.length) = true from decide_eq_true hro]
  clear hro HE2
  go_wp2_with fail
  with_reducible refine (rAccepts23_any _ _ _ rows owners who _ HR.out HO.out HWH.out).mono ?_
  rintro e w7 ⟨yv, rfl, hyv, hb7⟩
  replace p00 := below_cell hb7 p00
  replace p01 := below_cell hb7 p01
  replace p02 := below_cell hb7 p02
  replace p03 := below_cell hb7 p03
  replace p10 := below_cell hb7 p10
  replace p11 := below_cell hb7 p11
  replace HR := Lib.hid (HR.out.below hb7)
  replace HO := Lib.hid (HO.out.below hb7)
  replace HC := Lib.hid (HC.out.below hb7)
  replace HR2 := Lib.hid (HR2.out.below hb7)
  replace HO2 := Lib.hid (HO2.out.below hb7)
  replace HCS := Lib.hid (HCS.out.below hb7)
  replace HLS := Lib.hid (HLS.out.below hb7)
  replace HWH := Lib.hid (HWH.out.below hb7)
  replace HRW := Lib.hid (HRW.out.below hb7)
  replace Q0 := Lib.hid ((hb7.block _ (row_lt Q0.out)).trans Q0.out)
  replace Q1 := Lib.hid ((hb7.block _ (row_lt Q1.out)).trans Q1.out)
  replace Q2 := Lib.hid ((hb7.block _ (row_lt Q2.out)).trans Q2.out)
  replace HB := Lib.hid (HB.out.trans (hb7.mono HB.out.size))
  clear hb7
  have HY := Lib.hid hyv
  obtain ⟨ay, ky, rfl, -⟩ := id hyv
  clear hyv
  generalize questE rows owners who = qe at *
  cases hok : accOk rows owners who with
  | false =>
    have HV : Hid (ME = 340) := Lib.hid (HE3.out.trans (if_pos (by rw [hok]; simp)))
    clear hok HE3
    have x0 := row_cell Q2.out (k := 0) rfl
    have x1 := row_cell Q2.out (k := 1) rfl
    have x2 := row_cell Q2.out (k := 2) rfl
    have x3 := row_cell Q2.out (k := 3) rfl
    have f0 := row_free Q2.out 0
    have f1 := row_free Q2.out 1
    have f2 := row_free Q2.out 2
    have f3 := row_free Q2.out 3
    have HG0 := Lib.hid (show (_ : World).setCell ⟨w.heap.size + 1 + 1, 0, none⟩ (.int .i64 0) = _ from set_same x0)
    have HG1 := Lib.hid (show (_ : World).setCell ⟨w.heap.size + 1 + 1, 1, none⟩ (.slice none 0 0) = _ from set_same x1)
    have HG2 := Lib.hid (show (_ : World).setCell ⟨w.heap.size + 1 + 1, 2, none⟩ (.slice none 0 0) = _ from set_same x2)
    have HG3 := Lib.hid (show (_ : World).setCell ⟨w.heap.size + 1 + 1, 3, none⟩ (.slice none 0 0) = _ from set_same x3)
    go_wp2_with (first | rw [HG0.out] | rw [HG1.out] | rw [HG2.out] | rw [HG3.out])
    try simp only [Exit.inBlock, Exit.then]
    refine bodyPost_ret (v := .tuple #[.agg #[.int .i64 0, .slice none 0 0, .slice none 0 0, .slice none 0 0], .slice none 0 0, .int .i64 340]) ?_ rfl ?_
    · rw [results_cell_tmp2 rfl]
      go_simp
    · exact rm_off HV.out (by decide) HB.out
  | true =>
  have HAP := Lib.hid (acc_pack (progE_ok HALL.out.1) hok)
  have hpos : 0 < rws.length := by rw [HRO.out]; exact List.length_pos_iff.2 (acc_own HALL.out.1 hok)
  have HPOS := Lib.hid hpos
  have HOK := Lib.hid hok
  clear hok hpos
  have HIN0 := Lib.hid (fun k (hk : k < rws.length) => show 0 ≤ nth rws k ∧ nth rws k < (rows.length : Int) from by
    have h := own_in (owners := owners) (who := who) (n := owners.length) (k := k) (by rw [← HRO.out]; exact hk)
    rw [← HRO.out] at h
    rw [(progE_ok HALL.out.1).len]; exact h)
  go_wp2_with fail
  with_reducible refine (rdealt39_any ep _ _ _ _ _ _ _ _ rows owners cs rows2 owners2 rws css ls _ HR.out HO.out HC.out HR2.out HO2.out HRW.out HCS.out HLS.out HALL.out.1 HALL.out.2.2.1 HALL.out.2.2.2 HIN0.out).mono ?_
  rintro e w8 ⟨rfl, hb8⟩
  replace p00 := below_cell hb8 p00
  replace p01 := below_cell hb8 p01
  replace p02 := below_cell hb8 p02
  replace p03 := below_cell hb8 p03
  replace p10 := below_cell hb8 p10
  replace p11 := below_cell hb8 p11
  replace HR := Lib.hid (HR.out.below hb8)
  replace HO := Lib.hid (HO.out.below hb8)
  replace HC := Lib.hid (HC.out.below hb8)
  replace HR2 := Lib.hid (HR2.out.below hb8)
  replace HO2 := Lib.hid (HO2.out.below hb8)
  replace HCS := Lib.hid (HCS.out.below hb8)
  replace HLS := Lib.hid (HLS.out.below hb8)
  replace HWH := Lib.hid (HWH.out.below hb8)
  replace HRW := Lib.hid (HRW.out.below hb8)
  replace HY := Lib.hid (HY.out.below hb8)
  replace Q0 := Lib.hid ((hb8.block _ (row_lt Q0.out)).trans Q0.out)
  replace Q1 := Lib.hid ((hb8.block _ (row_lt Q1.out)).trans Q1.out)
  replace Q2 := Lib.hid ((hb8.block _ (row_lt Q2.out)).trans Q2.out)
  replace HB := Lib.hid (HB.out.trans (hb8.mono HB.out.size))
  clear hb8
  cases hdl : dltB rows owners cs rows2 rws css ls with
  | false =>
    have HV : Hid (ME = 340) := Lib.hid (by
      rw [HE3.out]
      by_cases hl : css.length = rws.length ∧ ls.length = rws.length
      · rw [dltB_on hl] at hdl; rw [if_neg (fun h => h ⟨HOK.out, hl⟩), hdl]; rfl
      · rw [if_pos (fun h => hl h.2)])
    clear hdl HE3
    have x0 := row_cell Q2.out (k := 0) rfl
    have x1 := row_cell Q2.out (k := 1) rfl
    have x2 := row_cell Q2.out (k := 2) rfl
    have x3 := row_cell Q2.out (k := 3) rfl
    have f0 := row_free Q2.out 0
    have f1 := row_free Q2.out 1
    have f2 := row_free Q2.out 2
    have f3 := row_free Q2.out 3
    have HG0 := Lib.hid (show (_ : World).setCell ⟨w.heap.size + 1 + 1, 0, none⟩ (.int .i64 0) = _ from set_same x0)
    have HG1 := Lib.hid (show (_ : World).setCell ⟨w.heap.size + 1 + 1, 1, none⟩ (.slice none 0 0) = _ from set_same x1)
    have HG2 := Lib.hid (show (_ : World).setCell ⟨w.heap.size + 1 + 1, 2, none⟩ (.slice none 0 0) = _ from set_same x2)
    have HG3 := Lib.hid (show (_ : World).setCell ⟨w.heap.size + 1 + 1, 3, none⟩ (.slice none 0 0) = _ from set_same x3)
    go_wp2_with (first | rw [HG0.out] | rw [HG1.out] | rw [HG2.out] | rw [HG3.out])
    try simp only [Exit.inBlock, Exit.then]
    refine bodyPost_ret (v := .tuple #[.agg #[.int .i64 0, .slice none 0 0, .slice none 0 0, .slice none 0 0], .slice none 0 0, .int .i64 340]) ?_ rfl ?_
    · rw [results_cell_tmp2 rfl]
      go_simp
    · exact rm_off HV.out (by decide) HB.out
  | true =>
  obtain ⟨hll, hdd⟩ : (css.length = rws.length ∧ ls.length = rws.length) ∧ dealtB rows owners cs rows2 rws css ls rws.length = true := by unfold dltB at hdl; rw [Bool.and_eq_true, decide_eq_true_eq] at hdl; exact hdl
  have HV : Hid (ME = 0) := Lib.hid (by rw [HE3.out, if_neg (fun h => h ⟨HOK.out, hll⟩), if_pos hdd])
  have HD : Hid (∀ j, j < rws.length → oneB rows owners cs rows2 rws css ls j = true) := Lib.hid fun j hj => by unfold dealtB at hdd; rw [List.all_eq_true] at hdd; exact hdd j (List.mem_range.2 hj)
  have HL1 := Lib.hid hll.1
  have HL2 := Lib.hid hll.2
  clear hdl hll hdd HE3
  have HYR := Lib.hid (nth_r64' HAP.out.num)
  have HCL := Lib.hid (progE_ok HALL.out.2.2.2).cols_le
  have HYL : Hid ((accY rows owners who).length = rows.length) := Lib.hid HAP.out.len
  have hep := HKY.out
  have hwe : IntKind.i64.wrap (ep + 1) = ep + 1 := by rw [IntKind.wrap_i64]; omega
  obtain ⟨W6, hW6, hb6, hr6, hs6⟩ := box_key w8 (.int .i64 (ep + 1)) (.slice a4 rows2.length k4) (.slice a5 owners2.length k5) (.slice none 0 0) 27
  have HW6 := Lib.hid hW6
  have HKR : Hid (KeyR w8 (ep + 1) (.slice a4 rows2.length k4) (.slice a5 owners2.length k5) (.slice none 0 0) 0 [] W6) := Lib.hid ⟨hb6, hr6, World.ownsRow_nil _ _ _ _⟩
  clear hW6 hb6 hr6 hs6 hep
  go_wp2_with (rw [← HW6.out])
  clear hwe HW6 p00 p01 p02 p03 p10 p11
  obtain ⟨wk, hwk⟩ : ∃ x, x = w8 := ⟨_, rfl⟩
  subst hwk
  go_loopw [20] (fun i V => ∃ j : Nat, j ≤ colsQ rows2 ∧ i = .int .i64 j ∧ Hid (∃ L, KeyR wk (ep + 1) (.slice a4 rows2.length k4) (.slice a5 owners2.length k5) L j ((List.range j).map fun q => comF css rws (accY rows owners who) q rws.length) V)) (fun i _ => colsQ rows2 - (intOf i).toNat)
  case atStart => exact ⟨0, Nat.zero_le _, rfl, Lib.hid ⟨_, HKR.out⟩⟩
  case round =>
    obtain ⟨j, hjl, rfl, HKX⟩ := hrel
    clear HKR
    obtain ⟨L, hkr⟩ := HKX.out
    have HKR := Lib.hid hkr
    clear hkr HKX
    have hbk := HKR.out.b
    replace HR := Lib.hid (HR.out.below hbk)
    replace HO := Lib.hid (HO.out.below hbk)
    replace HC := Lib.hid (HC.out.below hbk)
    replace HR2 := Lib.hid (HR2.out.below hbk)
    replace HO2 := Lib.hid (HO2.out.below hbk)
    replace HCS := Lib.hid (HCS.out.below hbk)
    replace HLS := Lib.hid (HLS.out.below hbk)
    replace HWH := Lib.hid (HWH.out.below hbk)
    replace HRW := Lib.hid (HRW.out.below hbk)
    replace HY := Lib.hid (HY.out.below hbk)
    replace Q0 := Lib.hid ((hbk.block _ (row_lt Q0.out)).trans Q0.out)
    replace Q1 := Lib.hid ((hbk.block _ (row_lt Q1.out)).trans Q1.out)
    replace Q2 := Lib.hid ((hbk.block _ (row_lt Q2.out)).trans Q2.out)
    replace HB := Lib.hid (HB.out.trans (hbk.mono HB.out.size))
    clear hbk
    have p10 := row_cell Q1.out (k := 0) rfl
    have p11 := row_cell Q1.out (k := 1) rfl
    go_wp2_with fail
    with_reducible refine (rCols_any _ _ rows2 _ HR2.out ⟨_, _, _, rfl⟩).mono ?_
    rintro e w13 ⟨rfl, hb13⟩
    replace HKR := Lib.hid (HKR.out.below hb13)
    replace p10 := below_cell hb13 p10
    replace p11 := below_cell hb13 p11
    replace HR := Lib.hid (HR.out.below hb13)
    replace HO := Lib.hid (HO.out.below hb13)
    replace HC := Lib.hid (HC.out.below hb13)
    replace HR2 := Lib.hid (HR2.out.below hb13)
    replace HO2 := Lib.hid (HO2.out.below hb13)
    replace HCS := Lib.hid (HCS.out.below hb13)
    replace HLS := Lib.hid (HLS.out.below hb13)
    replace HWH := Lib.hid (HWH.out.below hb13)
    replace HRW := Lib.hid (HRW.out.below hb13)
    replace HY := Lib.hid (HY.out.below hb13)
    replace Q0 := Lib.hid ((hb13.block _ (row_lt Q0.out)).trans Q0.out)
    replace Q1 := Lib.hid ((hb13.block _ (row_lt Q1.out)).trans Q1.out)
    replace Q2 := Lib.hid ((hb13.block _ (row_lt Q2.out)).trans Q2.out)
    replace HB := Lib.hid (HB.out.trans (hb13.mono HB.out.size))
    clear hb13
    by_cases hjt : j < colsQ rows2
    · have d1 : decide ((j : Int) < (colsQ rows2 : Int)) = true := decide_eq_true (by omega)
      have HJT := Lib.hid hjt
      have HCOL := Lib.hid (fun i (hi : i < rws.length) => comB_col (oneB_ok (HD.out i hi)).1 HJT.out)
      have i0j : (0 : Int) ≤ (j : Int) := by omega
      go_wp2_with fail
      clear d1
      obtain ⟨wi, hwi⟩ : ∃ x, x = w13 := ⟨_, rfl⟩
      subst hwi
      go_loopw [21, 22] (fun c i V => ∃ q : Nat, q ≤ rws.length ∧ i = .int .i64 q ∧ c = .int .i64 (comF css rws (accY rows owners who) j q) ∧ Hid (Below wi.heap.size wi V)) (fun _ i _ => rws.length - (intOf i).toNat)
      case atStart => exact ⟨0, Nat.zero_le _, rfl, rfl, Lib.hid (Below.refl _ _)⟩
      case round =>
        obtain ⟨i, hil, rfl, rfl, HBI⟩ := hrel
        replace HKR := Lib.hid (HKR.out.below HBI.out)
        replace p10 := below_cell HBI.out p10
        replace p11 := below_cell HBI.out p11
        replace HR := Lib.hid (HR.out.below HBI.out)
        replace HO := Lib.hid (HO.out.below HBI.out)
        replace HC := Lib.hid (HC.out.below HBI.out)
        replace HR2 := Lib.hid (HR2.out.below HBI.out)
        replace HO2 := Lib.hid (HO2.out.below HBI.out)
        replace HCS := Lib.hid (HCS.out.below HBI.out)
        replace HLS := Lib.hid (HLS.out.below HBI.out)
        replace HWH := Lib.hid (HWH.out.below HBI.out)
        replace HRW := Lib.hid (HRW.out.below HBI.out)
        replace HY := Lib.hid (HY.out.below HBI.out)
        replace Q0 := Lib.hid ((HBI.out.block _ (row_lt Q0.out)).trans Q0.out)
        replace Q1 := Lib.hid ((HBI.out.block _ (row_lt Q1.out)).trans Q1.out)
        replace Q2 := Lib.hid ((HBI.out.block _ (row_lt Q2.out)).trans Q2.out)
        replace HB := Lib.hid (HB.out.trans (HBI.out.mono HB.out.size))
        by_cases hit : i < rws.length
        · obtain ⟨hrk, bR, oR, nR, cR, eR, qR⟩ := HRW.out.get hit
          obtain ⟨bC, oC, mC, dC, bG, oG, nG, kG, eC, qC, qG, -, enG⟩ := HCS.out.get2 (i := i) (j := j) (by rw [HL1.out]; exact hit) (HCOL.out i hit).1
          have hin := HIN0.out i hit
          have hiy : (nth rws i).toNat < (accY rows owners who).length := by rw [HYL.out]; omega
          obtain ⟨hyk, bY, oY, nY2, cY, eY, qY⟩ := HY.out.get hiy
          simp only [Value.slice.injEq] at eR eC eY
          obtain ⟨rfl, -, -⟩ := eR
          obtain ⟨rfl, -, -⟩ := eC
          obtain ⟨rfl, -, -⟩ := eY
          have HGE := Lib.hid (HCOL.out i hit).2
          have HCE := Lib.hid (comF_el (css := css) (rws := rws) (y := (accY rows owners who)) (j := j) (fun i hi => (HCOL.out i hi).2) i (Nat.le_of_lt hit))
          have hjG : (j : Int) < (nG : Int) := by rw [enG]; have := (HCOL.out i hit).1; omega
          obtain ⟨row, hrow⟩ : ∃ x, x = nth rws i := ⟨_, rfl⟩
          rw [← hrow] at qR hin hiy qY
          obtain ⟨n, hn⟩ : ∃ x, x = nth (accY rows owners who) row.toNat := ⟨_, rfl⟩
          rw [← hn] at qY
          obtain ⟨gg, hgg⟩ : ∃ x, x = nth (css.getD i []) j := ⟨_, rfl⟩
          rw [← hgg] at qG HGE
          obtain ⟨c, hcc⟩ : ∃ x, x = comF css rws (accY rows owners who) j i := ⟨_, rfl⟩
          rw [← hcc] at HCE ⊢
          obtain ⟨p, hp⟩ : ∃ x, x = powE gg n := ⟨_, rfl⟩
          obtain ⟨c2, hc2⟩ : ∃ x, x = c * p % 2147483579 := ⟨_, rfl⟩
          have HNX : Hid (comF css rws (accY rows owners who) j (i + 1) = c2) := Lib.hid (by rw [hc2, hp, hcc, hgg, hn, hrow]; rfl)
          have HPW := Lib.hid (fun (W1 : World) => show Calls Tryz.prog 60 #[.int .i64 gg, .int .i64 n] W1 (fun e w' => e = .returned (.int .i64 p) ∧ w' = W1) from by rw [hp]; exact (rpower39_any gg n W1 HGE.out (by rw [hn]; exact HYR.out _)).mono fun _ _ ⟨h1, h2⟩ => ⟨h1, h2.symm⟩)
          have HML := Lib.hid (fun (W1 : World) => show Calls Tryz.prog 59 #[.int .i64 c, .int .i64 p] W1 (fun e w' => e = .returned (.tuple #[.int .i64 c2, .int .i64 0]) ∧ w' = W1) from by rw [hc2]; exact (rmul_yes c p W1 HCE.out (by rw [hp]; exact el_powE HGE.out n)).mono fun _ _ ⟨h1, h2⟩ => ⟨h1, h2.symm⟩)
          obtain ⟨t, ht⟩ : ∃ t, t = row.toNat := ⟨_, rfl⟩
          rw [← ht] at qY hiy
          obtain rfl : row = (t : Int) := by omega
          obtain ⟨nY, hnY⟩ : ∃ x, x = (accY rows owners who).length := ⟨_, rfl⟩
          rw [← hnY] at hiy ⊢
          have i0 : (0 : Int) ≤ (i : Int) := by omega
          have i1 : (i : Int) < (rws.length : Int) := by omega
          have i2 : (i : Int) < (css.length : Int) := by have := HL1.out; omega
          have i3 : (t : Int) < (nY : Int) := by omega
          have i4 : (0 : Int) ≤ (t : Int) := by omega
          have HIT := Lib.hid hit
          have HNYY := Lib.hid hnY
          clear hrk hyk hrow hn hgg hcc hp hc2 ht hin enG hiy HGE HCE hnY
          go_wp2_with fail
          go_quiet ((first
            | (go_at_call 60; exact Calls.quiet_of_same (HPW.out _))
            | (go_at_call 59; exact Calls.quiet_of_same (HML.out _))))
          obtain ⟨W, hwq⟩ : ∃ W : World, W = wr.drewN nq := ⟨_, rfl⟩
          rw [← hwq]
          have hbr : Below wr.heap.size wr W := hwq ▸ below_drewN (Below.refl _ _) nq
          clear hwq
          replace HBI := Lib.hid (HBI.out.trans (hbr.mono HBI.out.size))
          clear hbr HPW HML qR qC qG qY i2 i3 i4 hjG
          have hit := HIT.out
          go_wp2_with fail
          go_roundw
          case rel => exact ⟨i + 1, by omega, by go_num, by rw [HNX.out], HBI⟩
          case measure => simp [intOf]; omega
        · obtain rfl : i = rws.length := by omega
          have HJM : Hid (j ≤ 1000000) := Lib.hid (by have := HCL.out; have := HJT.out; omega)
          obtain ⟨z, hz⟩ : ∃ z, z = comF css rws (accY rows owners who) j rws.length := ⟨_, rfl⟩
          rw [← hz]
          have HT : Hid (((List.range (j + 1)).map fun q => comF css rws (accY rows owners who) q rws.length) = ((List.range j).map fun q => comF css rws (accY rows owners who) q rws.length) ++ [z]) := Lib.hid (by rw [List.range_succ, List.map_append, hz]; rfl)
          have hdk : decide (rws.length < rws.length) = false := decide_eq_false (by omega)
          have hn1 := below_new wr #[.int .i64 z] 3
          have HK1 := Lib.hid (HKR.out.below hn1)
          have y3 := row_cell HKR.out.q (k := 3) rfl
          have hsz : wk.heap.size + 1 ≤ (wr.alloc (.cells #[.int .i64 z] 3)).heap.size := row_lt HK1.out.q
          have HSZ := Lib.hid hsz
          have hjt := HJT.out
          have hcl := HCL.out
          clear hn1 hz hsz hil
          go_wp2_with (refine app_int_lies rfl _ _ rfl (wk.heap.size + 1) j L _ rfl HK1.out.o wr.heap.size 1 z rfl (row_cell (World.alloc_heap_new _ _) rfl) HJM.out HSZ.out ?_; intro g9 cap9 w9 h9 o9 l9; have HKA := Lib.hid (HK1.out.app h9 o9); have u3 := row_cell HKA.out.q (k := 3) rfl; have g3 := row_free HKA.out.q 3; clear h9 o9 l9)
          go_roundw
          case rel => exact ⟨j + 1, by omega, by go_num, Lib.hid ⟨_, by rw [HT.out]; exact HKA.out.store⟩⟩
          case measure => simp [intOf]; omega
    · obtain rfl : j = colsQ rows2 := by omega
      replace HKR : Hid (KeyR wk (ep + 1) (.slice a4 rows2.length k4) (.slice a5 owners2.length k5) L (colsQ rows2) (mvC css rws (accY rows owners who) (colsQ rows2)) w13) := HKR
      have d1 : decide ((colsQ rows2 : Int) < (colsQ rows2 : Int)) = false := decide_eq_false (by omega)
      have d2 : decide (colsQ rows2 < colsQ rows2) = false := decide_eq_false (by omega)
      obtain ⟨bZ, oZ, nZ, cZ, rZ, eZ, qZ, hSZ⟩ := HLS.out.get (k := 0) (by rw [HL2.out]; exact HPOS.out)
      simp only [Value.slice.injEq] at eZ
      obtain ⟨rfl, -, -⟩ := eZ
      obtain ⟨aZ, kZ, rfl, -, hz5, hrz, -⟩ := id hSZ
      rw [Nat.add_zero] at qZ
      have i4 : (0 : Int) < (ls.length : Int) := by have h1 := HL2.out; have h2 := HPOS.out; omega
      have i5 : 0 < ls.length := by have h1 := HL2.out; have h2 := HPOS.out; omega
      have HLL : Hid ((ls.getD 0 []).length ≤ 64) := Lib.hid (by have h1 := sharesB_len (fitL_shares (oneB_ok (HD.out 0 HPOS.out)).2.2); have h2 := (progE_ok HALL.out.2.2.2).few; omega)
      obtain ⟨lz, hlz⟩ : ∃ x, x = ls.getD 0 [] := ⟨_, rfl⟩
      rw [← hlz] at qZ hSZ hrz HLL hz5
      have HLZ := Lib.hid hlz
      have HZS := Lib.hid hSZ
      have HRZ := Lib.hid hrz
      clear hSZ hlz hrz hjl hjt
      go_wp2_with fail
      clear d1 d2 p10 p11
      obtain ⟨wl, hwl⟩ : ∃ x, x = w13 := ⟨_, rfl⟩
      subst hwl
      go_loopw [23, 24] (fun T0 i V => ∃ (j : Nat) (T : Value), j ≤ lz.length ∧ T = T0 ∧ i = .int .i64 j ∧ Hid (V.ownsRow wl.heap.size 29 2 T j (((List.range j).map (mvS ls rws (accY rows owners who))).flatMap shaC)) ∧ Hid (Below wl.heap.size wl V)) (fun _ i _ => lz.length - (intOf i).toNat)
      case atStart => exact ⟨0, _, Nat.zero_le _, rfl, rfl, Lib.hid (World.ownsRow_nil _ _ _ _), Lib.hid (Below.refl _ _)⟩
      case round =>
        obtain ⟨j, T, hjl, rfl, rfl, HOW, HBW⟩ := hrel
        replace HKR := Lib.hid (HKR.out.below HBW.out)
        replace qZ := below_cell HBW.out qZ
        replace HR := Lib.hid (HR.out.below HBW.out)
        replace HO := Lib.hid (HO.out.below HBW.out)
        replace HC := Lib.hid (HC.out.below HBW.out)
        replace HR2 := Lib.hid (HR2.out.below HBW.out)
        replace HO2 := Lib.hid (HO2.out.below HBW.out)
        replace HCS := Lib.hid (HCS.out.below HBW.out)
        replace HLS := Lib.hid (HLS.out.below HBW.out)
        replace HWH := Lib.hid (HWH.out.below HBW.out)
        replace HRW := Lib.hid (HRW.out.below HBW.out)
        replace HY := Lib.hid (HY.out.below HBW.out)
        replace HZS := Lib.hid (HZS.out.below HBW.out)
        replace Q0 := Lib.hid ((HBW.out.block _ (row_lt Q0.out)).trans Q0.out)
        replace Q1 := Lib.hid ((HBW.out.block _ (row_lt Q1.out)).trans Q1.out)
        replace Q2 := Lib.hid ((HBW.out.block _ (row_lt Q2.out)).trans Q2.out)
        replace HB := Lib.hid (HB.out.trans (HBW.out.mono HB.out.size))
        by_cases hjt : j < lz.length
        · have HJT := Lib.hid hjt
          have HCOL := Lib.hid (fun i (hi : i < rws.length) => show j < (ls.getD i []).length by rw [(oneB_ok (HD.out i hi)).2.1, ← HLZ.out]; exact HJT.out)
          have i0j : (0 : Int) ≤ (j : Int) := by omega
          go_wp2_with fail
          obtain ⟨wi, hwi⟩ : ∃ x, x = wr := ⟨_, rfl⟩
          subst hwi
          go_loopw [25, 26] (fun c i V => ∃ q : Nat, q ≤ rws.length ∧ i = .int .i64 q ∧ c = .int .i64 (valF ls rws (accY rows owners who) j q) ∧ Hid (Below wi.heap.size wi V)) (fun _ i _ => rws.length - (intOf i).toNat)
          case atStart => exact ⟨0, Nat.zero_le _, rfl, rfl, Lib.hid (Below.refl _ _)⟩
          case round =>
            obtain ⟨i, hil, rfl, rfl, HBI⟩ := hrel
            replace HKR := Lib.hid (HKR.out.below HBI.out)
            replace HOW := Lib.hid (own_keep HOW.out HBI.out)
            replace HBW := Lib.hid (HBW.out.trans (HBI.out.mono HBW.out.size))
            replace qZ := below_cell HBI.out qZ
            replace HR := Lib.hid (HR.out.below HBI.out)
            replace HO := Lib.hid (HO.out.below HBI.out)
            replace HC := Lib.hid (HC.out.below HBI.out)
            replace HR2 := Lib.hid (HR2.out.below HBI.out)
            replace HO2 := Lib.hid (HO2.out.below HBI.out)
            replace HCS := Lib.hid (HCS.out.below HBI.out)
            replace HLS := Lib.hid (HLS.out.below HBI.out)
            replace HWH := Lib.hid (HWH.out.below HBI.out)
            replace HRW := Lib.hid (HRW.out.below HBI.out)
            replace HY := Lib.hid (HY.out.below HBI.out)
            replace HZS := Lib.hid (HZS.out.below HBI.out)
            replace Q0 := Lib.hid ((HBI.out.block _ (row_lt Q0.out)).trans Q0.out)
            replace Q1 := Lib.hid ((HBI.out.block _ (row_lt Q1.out)).trans Q1.out)
            replace Q2 := Lib.hid ((HBI.out.block _ (row_lt Q2.out)).trans Q2.out)
            replace HB := Lib.hid (HB.out.trans (HBI.out.mono HB.out.size))
            by_cases hit : i < rws.length
            · obtain ⟨hrk, bR, oR, nR, cR, eR, qR⟩ := HRW.out.get hit
              obtain ⟨bL, oL, mL, dL, rL, eL, qL, hSL⟩ := HLS.out.get (k := i) (by rw [HL2.out]; exact hit)
              obtain ⟨aS, kS, rfl, -, -, hrs, hks⟩ := id hSL
              obtain ⟨bS, oS, eS, -, qG⟩ := hks j (HCOL.out i hit)
              subst eS
              have hin := HIN0.out i hit
              have hiy : (nth rws i).toNat < (accY rows owners who).length := by rw [HYL.out]; omega
              obtain ⟨hyk, bY, oY, nY2, cY, eY, qY⟩ := HY.out.get hiy
              simp only [Value.slice.injEq] at eR eL eY
              obtain ⟨rfl, -, -⟩ := eR
              obtain ⟨eL, -, -⟩ := eL
              simp only [Option.some.injEq, Addr.mk.injEq] at eL
              obtain ⟨rfl, rfl, -⟩ := eL
              obtain ⟨rfl, -, -⟩ := eY
              have HG64 := Lib.hid (hrs _ (List.getElem_mem (HCOL.out i hit))).2
              obtain ⟨row, hrow⟩ : ∃ x, x = nth rws i := ⟨_, rfl⟩
              rw [← hrow] at qR hin hiy qY
              obtain ⟨n, hn⟩ : ∃ x, x = nth (accY rows owners who) row.toNat := ⟨_, rfl⟩
              rw [← hn] at qY
              obtain ⟨gg, hgg⟩ : ∃ x, x = ((ls.getD i [])[j]'(HCOL.out i hit)).2 := ⟨_, rfl⟩
              rw [← hgg] at qG HG64
              have hgp : gg = (pnth (ls.getD i []) j).2 := by rw [hgg, pnth_at (HCOL.out i hit)]
              obtain ⟨c, hcc⟩ : ∃ x, x = valF ls rws (accY rows owners who) j i := ⟨_, rfl⟩
              rw [← hcc]
              obtain ⟨p, hp⟩ : ∃ x, x = n * gg % 1073741789 := ⟨_, rfl⟩
              obtain ⟨c2, hc2⟩ : ∃ x, x = (c + p) % 1073741789 := ⟨_, rfl⟩
              have HNX : Hid (valF ls rws (accY rows owners who) j (i + 1) = c2) := Lib.hid (by rw [hc2, hp, hcc, hgp, hn, hrow]; rfl)
              have HPW := Lib.hid (fun (W1 : World) => show Calls Tryz.prog 62 #[.int .i64 n, .int .i64 gg] W1 (fun e w' => e = .returned (.int .i64 p) ∧ w' = W1) from by rw [hp]; exact (rmul_any n gg W1 (by rw [hn]; exact HYR.out _) HG64.out).mono fun _ _ ⟨h1, h2⟩ => ⟨h1, h2.symm⟩)
              have HML := Lib.hid (fun (W1 : World) => show Calls Tryz.prog 61 #[.int .i64 c, .int .i64 p] W1 (fun e w' => e = .returned (.int .i64 c2) ∧ w' = W1) from by rw [hc2]; exact (radd_any c p W1 (by rw [hcc]; exact num_r64 (valF_num _)) (by rw [hp]; exact mod_r64 _)).mono fun _ _ ⟨h1, h2⟩ => ⟨h1, h2.symm⟩)
              obtain ⟨nS, hnS⟩ : ∃ x, x = (ls.getD i []).length := ⟨_, rfl⟩
              rw [← hnS] at qL
              have hjS : (j : Int) < (nS : Int) := by rw [hnS]; have := HCOL.out i hit; omega
              obtain ⟨t, ht⟩ : ∃ t, t = row.toNat := ⟨_, rfl⟩
              rw [← ht] at qY hiy
              obtain rfl : row = (t : Int) := by omega
              obtain ⟨nY, hnY⟩ : ∃ x, x = (accY rows owners who).length := ⟨_, rfl⟩
              rw [← hnY] at hiy ⊢
              have i0 : (0 : Int) ≤ (i : Int) := by omega
              have i1 : (i : Int) < (rws.length : Int) := by omega
              have i2 : (i : Int) < (ls.length : Int) := by have := HL2.out; omega
              have i3 : (t : Int) < (nY : Int) := by omega
              have i6 : (0 : Int) ≤ (t : Int) := by omega
              have HIT := Lib.hid hit
              have HNYY := Lib.hid hnY
              clear hrk hyk hrow hn hgg hgp hcc hp hc2 ht hin hiy hnY hnS hSL hrs hks HG64
              go_wp2_with fail
              go_quiet ((first
                | (go_at_call 62; exact Calls.quiet_of_same (HPW.out _))
                | (go_at_call 61; exact Calls.quiet_of_same (HML.out _))))
              obtain ⟨W, hwq⟩ : ∃ W : World, W = wr.drewN nq := ⟨_, rfl⟩
              rw [← hwq]
              have hbr : Below wr.heap.size wr W := hwq ▸ below_drewN (Below.refl _ _) nq
              clear hwq
              replace HBI := Lib.hid (HBI.out.trans (hbr.mono HBI.out.size))
              clear hbr HPW HML qR qL qG qY i2 i3 i6 hjS
              have hit := HIT.out
              go_wp2_with fail
              go_roundw
              case rel => exact ⟨i + 1, by omega, by go_num, by rw [HNX.out], HBI⟩
              case measure => simp [intOf]; omega
            · obtain rfl : i = rws.length := by omega
              obtain ⟨aS, cS, eS, -, -, -, hk1⟩ := HZS.out
              obtain ⟨b1, o1, ea, y1, -⟩ := hk1 j HJT.out
              simp only [Value.slice.injEq] at eS
              obtain ⟨rfl, -, -⟩ := eS
              subst ea
              obtain ⟨r, hre⟩ : ∃ r, r = (lz[j]'HJT.out).1 := ⟨_, rfl⟩
              rw [← hre] at y1
              obtain ⟨z, hz⟩ : ∃ z, z = valF ls rws (accY rows owners who) j rws.length := ⟨_, rfl⟩
              rw [← hz]
              have HT : Hid (((List.range (j + 1)).map (mvS ls rws (accY rows owners who))) = ((List.range j).map (mvS ls rws (accY rows owners who))) ++ [(r, z)]) := Lib.hid (by rw [List.range_succ, List.map_append, hz, hre]; unfold mvS; rw [← HLZ.out]; simp only [List.map_cons, List.map_nil]; rw [pnth_at HJT.out])
              have hdk : decide (rws.length < rws.length) = false := decide_eq_false (by omega)
              have hjt := HJT.out
              have hll := HLL.out
              have j1 : (j : Int) < (lz.length : Int) := by omega
              have HN := Lib.hid (below_new wr #[.int .i64 r, .int .i64 z] 29)
              have HOX := Lib.hid (own_keep HOW.out HN.out)
              have hq0 := World.alloc_heap_new wr (.cells #[.int .i64 r, .int .i64 z] 29)
              have HQ0 := Lib.hid (row_cell hq0 (k := 0) rfl)
              have HQ1 := Lib.hid (row_cell hq0 (k := 1) rfl)
              have HB9 := Lib.hid (HBW.out.trans (HN.out.mono HBW.out.size))
              have HBS := Lib.hid HB9.out.size
              have hij : j ≤ 1000000 := by omega
              clear hk1 hre hz hq0 hil
              go_wp2_with (refine app_share rfl _ _ rfl wl.heap.size _ ((List.range j).map (mvS ls rws (accY rows owners who))) j rfl HOX.out wr.heap.size 0 1 (r, z) rfl HQ0.out HQ1.out hij HBS.out ?_; intro g8 cap8 w9 h9 o9; have H9 := Lib.hid h9; have O9 := Lib.hid o9; clear h9 o9)
              go_roundw
              case rel => exact ⟨j + 1, _, by omega, rfl, by go_num, by rw [HT.out]; exact H9, Lib.hid (HB9.out.trans (own_below HOX.out O9.out.1 HBS.out))⟩
              case measure => simp [intOf]; omega
        · obtain rfl : j = lz.length := by omega
          have hdk : decide ((lz.length : Int) < (lz.length : Int)) = false := decide_eq_false (by omega)
          have hdk2 : decide (lz.length < lz.length) = false := decide_eq_false (by omega)
          have HRI : Hid (RI wr L (mvC css rws (accY rows owners who) (colsQ rows2))) := Lib.hid (RI.own HKR.out.o (mvC_r64 fun i j hi hj => (comB_col (oneB_ok (HD.out i hi)).1 hj).2) (by rw [mvC_len]; have := HCL.out; omega))
          have HRS : Hid (RS wr T (mvL ls rws (accY rows owners who))) := Lib.hid (RS.own (n := lz.length) (by have h := HOW.out; rw [HLZ.out] at h ⊢; exact h) (mvL_r64 (by rw [← HLZ.out]; exact HRZ.out)) (by rw [mvL_len, ← HLZ.out]; have := HLL.out; omega))
          obtain ⟨aL, nL, kL, rfl⟩ : ∃ a n k, L = .slice a n k := by obtain ⟨a, k, h, -⟩ := HRI.out.1; exact ⟨_, _, _, h⟩
          obtain ⟨aT, nT, kT, rfl⟩ : ∃ a n k, T = .slice a n k := by obtain ⟨a, k, h, -⟩ := HRS.out.1; exact ⟨_, _, _, h⟩
          have u0 := row_cell Q2.out (k := 0) rfl
          have u1 := row_cell Q2.out (k := 1) rfl
          have u2 := row_cell Q2.out (k := 2) rfl
          have u3 := row_cell Q2.out (k := 3) rfl
          have f0 := row_free Q2.out 0
          have f1 := row_free Q2.out 1
          have f2 := row_free Q2.out 2
          have f3 := row_free Q2.out 3
          have k0_ := row_cell HKR.out.q (k := 0) rfl
          have k1_ := row_cell HKR.out.q (k := 1) rfl
          have k2_ := row_cell HKR.out.q (k := 2) rfl
          have k3_ := row_cell HKR.out.q (k := 3) rfl
          obtain ⟨W14, hW14⟩ : ∃ W, W = putKey wr (w.heap.size + 1 + 1) (.int .i64 (ep + 1)) (.slice a4 rows2.length k4) (.slice a5 owners2.length k5) (.slice aL nL kL) := ⟨_, rfl⟩
          have HRI2 := Lib.hid (hW14 ▸ HRI.out.keyW Q2.out (by decide) _ _ _ _)
          have HRS2 := Lib.hid (hW14 ▸ HRS.out.keyW Q2.out (by decide) _ _ _ _)
          have HB14 := Lib.hid (hW14 ▸ keyW_below HB.out (show w.heap.size ≤ w.heap.size + 1 + 1 by omega) _ _ _ _)
          have hk14 := hW14 ▸ keyW_heap Q2.out (.int .i64 (ep + 1)) (.slice a4 rows2.length k4) (.slice a5 owners2.length k5) (.slice aL nL kL)
          have g0 := row_cell hk14 (k := 0) rfl
          have g1 := row_cell hk14 (k := 1) rfl
          have g2 := row_cell hk14 (k := 2) rfl
          have g3 := row_cell hk14 (k := 3) rfl
          unfold putKey at hW14
          have HW14 := Lib.hid hW14
          clear hW14 hk14 HRI HRS
          go_wp2_with (rw [← HW14.out])
          try simp only [Exit.inBlock, Exit.then]
          refine bodyPost_ret (v := .tuple #[.agg #[.int .i64 (ep + 1), .slice a4 rows2.length k4, .slice a5 owners2.length k5, .slice aL nL kL], .slice aT nT kT, .int .i64 0]) ?_ rfl ?_
          · rw [results_cell_tmp2 rfl]
            go_simp
          · exact ⟨_, _, _, _, _, by rw [HV.out], fun _ => ⟨rfl, rfl, rfl, HRI2.out, HRS2.out⟩, fun h => absurd HV.out h, HB14.out⟩

end Go.Proofs.YtjjoadmkpbmhpaaGreat
