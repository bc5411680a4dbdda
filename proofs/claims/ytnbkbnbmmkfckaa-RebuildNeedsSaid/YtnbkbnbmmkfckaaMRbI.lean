/- The reference of rebuilding a share: Plan, Part, Finish. The reference of rebuilding a share: Finish. -/
import Derived.Test.YtnbkbnbmmkfckaaMRbF
namespace Go.Proofs.Ytnbkbnbmmkfckaa
open Go.RowKit FP

set_option maxRecDepth 100000 in
theorem rComb_ok (v u : Value) (rows : List (List Int)) (t : List Int) (w : World) (hI : Rows2 w v rows) (hU : Ints w u t) (h0 : examErr rows t = 0) :
    Calls Try.prog 55 #[v, u] w fun r w' => ∃ yv, r = .returned (.tuple #[yv, .bool (rcombOk rows t), .int .i64 0]) ∧ Ints w' yv (if rcombOk rows t = true then rcombY rows t else []) ∧ Below w.heap.size w w' := by
  refine (rCombine_any v u rows t w hI hU).mono ?_
  rintro r w' ⟨yv, rfl, hy, hb⟩
  rw [h0] at hy
  refine ⟨yv, by rw [h0]; rfl, ?_, hb⟩
  cases e : rcombOk rows t with
  | true => rw [e, if_pos ⟨rfl, rfl⟩] at hy; exact hy
  | false => rw [e, if_neg (by rintro ⟨-, h⟩; cases h)] at hy; exact hy
theorem planE_rows {rows : List (List Int)} {owners hs : List Int} {row : Int} (hp : progE rows owners = 0) : planE rows owners row hs = if rowsB rows row hs = true then 0 else 1 := by
  unfold planE rowsB
  rw [if_neg (by simp [hp])]
  by_cases h0 : 0 ≤ row
  · by_cases h1 : row < (rows.length : Int)
    · rw [decide_eq_true h0, decide_eq_true h1]
      cases e : helpB rows row hs with
      | true => rw [if_pos ⟨⟨h0, h1⟩, rfl⟩]; rfl
      | false => rw [if_neg (by rintro ⟨-, h⟩; cases h)]; rfl
    · rw [if_neg (fun h => h1 h.1.2), decide_eq_false h1]; simp
  · rw [if_neg (fun h => h0 h.1.1), decide_eq_false h0]; simp
theorem rowsB_ok {rows : List (List Int)} {row : Int} {hs : List Int} (h : rowsB rows row hs = true) : (0 ≤ row ∧ row < (rows.length : Int)) ∧ helpB rows row hs = true := by
  unfold rowsB at h
  simp only [Bool.and_eq_true, decide_eq_true_eq] at h
  exact h

set_option maxRecDepth 100000 in
set_option maxHeartbeats 8000000 in
theorem rPlan_any (rv ov hv : Value) (rows : List (List Int)) (owners : List Int) (row : Int) (hs : List Int) (w : World) (hR : Rows2 w rv rows) (hO : Ints w ov owners) (hH : Ints w hv hs) (hl : hs.length ≤ 1000000) :
    Calls Try.prog 15 #[.agg #[rv, ov], .int .i64 row, hv] w fun r w' => ∃ yv, r = .returned (.tuple #[yv, .bool (planOk rows owners row hs), .int .i64 (planE rows owners row hs)]) ∧ Ints w' yv (planY rows owners row hs) ∧ Below w.heap.size w w' := by
  have off : ∀ e : Int, e ≠ 0 → planE rows owners row hs = e → planOk rows owners row hs = false ∧ planY rows owners row hs = [] := fun e h0 he => by
    have h1 : planOk rows owners row hs = false := by unfold planOk; rw [he, decide_eq_false h0, Bool.false_and]
    exact ⟨h1, by unfold planY; rw [h1]; rfl⟩
  obtain ⟨W1, hW1, hb1, hr1, hz⟩ := box_prog w rv ov 25
  have HR := Lib.hid (hR.below hb1)
  have HO := Lib.hid (hO.below hb1)
  have HH := Lib.hid (hH.below hb1)
  obtain ⟨a1, k1, rfl, -, hl1, -⟩ := id hR
  obtain ⟨a2, k2, rfl, -, hl2, -⟩ := id hO
  obtain ⟨a3, k3, rfl, -, hl3, -⟩ := id hH
  have c0 : W1.cell? ⟨w.heap.size, 0, none⟩ = some (.slice a1 rows.length k1) := row_cell hr1 rfl
  have c1 : W1.cell? ⟨w.heap.size, 1, none⟩ = some (.slice a2 owners.length k2) := row_cell hr1 rfl
  have HW1 := Lib.hid hW1
  have HB := Lib.hid hb1
  have HOFF := Lib.hid off
  have HLL := Lib.hid hl
  clear hR hO hH hr1 hW1 hb1 hz off hl
  have HPC := Lib.hid (rpCheck_any _ _ rows owners _ HR.out HO.out)
  by_cases hp : progE rows owners = 0
  rotate_left
  · have HV : Hid (planE rows owners row hs = progE rows owners) := Lib.hid (by unfold planE; rw [if_pos hp])
    have HX := Lib.hid (HOFF.out _ hp HV.out)
    have d0 : (progE rows owners != 0) = true := bne_iff_ne.2 hp
    generalize progE rows owners = q at *
    clear hp
    go_enter Try.func15, Try.ntmps15
    go_wp2_with (rw [← HW1.out])
    refine (HPC.out).mono ?_
    rintro e w2 ⟨rfl, hb2⟩
    replace c0 := below_cell hb2 c0
    replace c1 := below_cell hb2 c1
    replace HR := Lib.hid (HR.out.below hb2)
    replace HO := Lib.hid (HO.out.below hb2)
    replace HH := Lib.hid (HH.out.below hb2)
    replace HB := Lib.hid (HB.out.trans (hb2.mono HB.out.size))
    clear hb2
    go_wp2_with fail
    go_ret3
    exact ⟨.slice none 0 0, by rw [HX.out.1, HV.out]; rfl, by rw [HX.out.2]; exact Ints.nil _ none 0, HB.out⟩
  have HE := Lib.hid (planE_rows (row := row) (hs := hs) hp)
  have HPO := Lib.hid (progE_ok hp)
  rw [hp] at HPC
  clear hp
  have HRW := Lib.hid (fun ww h1 h3 => rRows40_any (.slice a1 rows.length k1) (.slice a2 owners.length k2) (.slice a3 hs.length k3) rows row hs ww h1 ⟨_, _, _, rfl⟩ h3)
  cases hrb : rowsB rows row hs with
  | false =>
    have HV : Hid (planE rows owners row hs = 1) := Lib.hid (by rw [HE.out, hrb]; rfl)
    have HX := Lib.hid (HOFF.out _ (by decide) HV.out)
    rw [hrb] at HRW
    clear hrb
    go_enter Try.func15, Try.ntmps15
    go_wp2_with (rw [← HW1.out])
    refine (HPC.out).mono ?_
    rintro e w2 ⟨rfl, hb2⟩
    replace c0 := below_cell hb2 c0
    replace c1 := below_cell hb2 c1
    replace HR := Lib.hid (HR.out.below hb2)
    replace HO := Lib.hid (HO.out.below hb2)
    replace HH := Lib.hid (HH.out.below hb2)
    replace HB := Lib.hid (HB.out.trans (hb2.mono HB.out.size))
    clear hb2
    go_wp2_with fail
    refine (HRW.out _ HR.out HH.out).mono ?_
    rintro e w3 ⟨rfl, hb3⟩
    replace c0 := below_cell hb3 c0
    replace c1 := below_cell hb3 c1
    replace HR := Lib.hid (HR.out.below hb3)
    replace HO := Lib.hid (HO.out.below hb3)
    replace HH := Lib.hid (HH.out.below hb3)
    replace HB := Lib.hid (HB.out.trans (hb3.mono HB.out.size))
    clear hb3
    go_wp2_with fail
    go_ret3
    exact ⟨.slice none 0 0, by rw [HX.out.1, HV.out]; rfl, by rw [HX.out.2]; exact Ints.nil _ none 0, HB.out⟩
  | true =>
    have HV : Hid (planE rows owners row hs = 0) := Lib.hid (by rw [HE.out, hrb]; rfl)
    obtain ⟨⟨i0, i1⟩, hhb⟩ := rowsB_ok hrb
    rw [hrb] at HRW
    obtain ⟨n, rfl⟩ : ∃ n : Nat, row = n := ⟨row.toNat, by omega⟩
    have hnl : n < rows.length := by omega
    have HRS := Lib.hid (some_right HPO.out hhb)
    have hrr := row_right HPO.out (row := (n : Int)) ⟨i0, i1⟩
    have hgd : rows.getD (n : Int).toNat [] = rows[n] := by rw [Int.toNat_natCast]; exact getD_at hnl []
    have HO1 : Hid (planOk rows owners n hs = rcombOk (someQ rows hs) rows[n]) := Lib.hid (by unfold planOk; rw [HV.out, hgd]; rfl)
    have HY1 : Hid (planY rows owners n hs = if rcombOk (someQ rows hs) rows[n] = true then rcombY (someQ rows hs) rows[n] else []) := Lib.hid (by unfold planY; rw [HO1.out, hgd])
    rw [hgd] at hrr
    have HEX : Hid (examErr (someQ rows hs) rows[n] = 0) := Lib.hid (examErr_right (by rw [hrr.1]; exact HRS.out) hrr.2 (by rw [hrr.1]; exact HPO.out.cols_le))
    have HSM := Lib.hid (fun ww h1 h3 => rSome_any (.slice a1 rows.length k1) (.slice a2 owners.length k2) (.slice a3 hs.length k3) rows n hs ww h1 ⟨_, _, _, rfl⟩ h3 hhb HLL.out)
    obtain ⟨a5, k5, e5, -, -, hk5⟩ := id HR.out
    obtain ⟨b6, o6, r6, ea6, q6, i6⟩ := hk5 n hnl
    simp only [Value.slice.injEq] at e5
    obtain ⟨rfl, -, -⟩ := e5
    subst ea6
    obtain ⟨ra6, rc6, rfl, -⟩ := id i6
    have HI6 := Lib.hid i6
    clear hrb hhb hrr hgd hk5 i6 HE HOFF
    go_enter Try.func15, Try.ntmps15
    go_wp2_with (rw [← HW1.out])
    refine (HPC.out).mono ?_
    rintro e w2 ⟨rfl, hb2⟩
    replace c0 := below_cell hb2 c0
    replace c1 := below_cell hb2 c1
    replace q6 := below_cell hb2 q6
    replace HR := Lib.hid (HR.out.below hb2)
    replace HO := Lib.hid (HO.out.below hb2)
    replace HH := Lib.hid (HH.out.below hb2)
    replace HI6 := Lib.hid (HI6.out.below hb2)
    replace HB := Lib.hid (HB.out.trans (hb2.mono HB.out.size))
    clear hb2
    go_wp2_with fail
    refine (HRW.out _ HR.out HH.out).mono ?_
    rintro e w3 ⟨rfl, hb3⟩
    replace c0 := below_cell hb3 c0
    replace c1 := below_cell hb3 c1
    replace q6 := below_cell hb3 q6
    replace HR := Lib.hid (HR.out.below hb3)
    replace HO := Lib.hid (HO.out.below hb3)
    replace HH := Lib.hid (HH.out.below hb3)
    replace HI6 := Lib.hid (HI6.out.below hb3)
    replace HB := Lib.hid (HB.out.trans (hb3.mono HB.out.size))
    clear hb3
    have hbd : Below w3.heap.size w3 w3.drew := (Below.refl _ _).drew
    replace HR := Lib.hid (HR.out.below hbd)
    replace HO := Lib.hid (HO.out.below hbd)
    replace HH := Lib.hid (HH.out.below hbd)
    replace HI6 := Lib.hid (HI6.out.below hbd)
    replace HB := Lib.hid (HB.out.drew)
    clear hbd
    go_wp2_with fail
    have c0d : w3.drew.cell? ⟨w.heap.size, 0, none⟩ = some (.slice (some ⟨b6, o6, none⟩) rows.length k1) := c0
    have c1d : w3.drew.cell? ⟨w.heap.size, 1, none⟩ = some (.slice a2 owners.length k2) := c1
    have q6d : w3.drew.cell? ⟨b6, o6 + n, none⟩ = some (.slice ra6 rows[n].length rc6) := q6
    clear c0 c1 q6
    go_region_held3 (fun w' => w'.cell? ⟨w.heap.size, 0, none⟩ = some (.slice (some ⟨b6, o6, none⟩) rows.length k1) ∧ w'.cell? ⟨w.heap.size, 1, none⟩ = some (.slice a2 owners.length k2) ∧ w'.cell? ⟨b6, o6 + n, none⟩ = some (.slice ra6 rows[n].length rc6)) (first | go_keep | exact ⟨c0d, c1d, q6d⟩ | exact ⟨z0, z1, z2⟩)
      (first
        | (go_at_call 29; (with_reducible refine (HSM.out _ HR.out HH.out).mono ?_); rintro e w4 ⟨sv, rfl, hs4, hb4⟩; have z0 := below_cell hb4 c0d; have z1 := below_cell hb4 c1d; have z2 := below_cell hb4 q6d; have HS4 := Lib.hid hs4; clear hs4; replace HI6 := Lib.hid (HI6.out.below hb4); replace HB := Lib.hid (HB.out.trans (hb4.mono HB.out.size)); clear hb4)
        | (go_at_call 55; (with_reducible refine (rComb_ok _ _ (someQ rows hs) rows[n] _ HS4.out HI6.out HEX.out).mono ?_); rintro e w5 ⟨yv, rfl, hy5, hb5⟩; have z0 := below_cell hb5 z0; have z1 := below_cell hb5 z1; have z2 := below_cell hb5 z2; have HY5 := Lib.hid hy5; clear hy5; have HB5 := Lib.hid (HB.out.trans (hb5.mono HB.out.size)); clear hb5))
    all_goals
      go_wp2_with fail
      go_ret3
      exact ⟨yv, by rw [HO1.out, HV.out]; rfl, by rw [HY1.out]; exact HY5.out, HB5.out⟩

set_option maxRecDepth 100000 in
set_option maxHeartbeats 8000000 in
theorem rPart_any (y r v : Int) (mv : Value) (ms : List Int) (w : World) (hM : Ints w mv ms) :
    Calls Try.prog 17 #[.int .i64 y, .agg #[.int .i64 r, .int .i64 v], mv] w fun e w' => e = .returned (.tuple #[.int .i64 (partV y r v ms), .int .i64 (partE y r v ms)]) ∧ Below w.heap.size w w' := by
  have off : partE y r v ms ≠ 0 → partV y r v ms = 0 := fun h => by unfold partV; rw [if_neg h]
  obtain ⟨W1, hW1⟩ : ∃ W1, W1 = w.alloc (.cells #[.int .i64 r, .int .i64 v] 27) := ⟨_, rfl⟩
  have hb1 : Below w.heap.size w W1 := hW1 ▸ below_new _ _ _
  have hr1 : W1.heap[w.heap.size]? = some (.cells #[.int .i64 r, .int .i64 v] 27 (0, 0)) := by rw [hW1]; exact World.alloc_heap_new _ _
  have c0 : W1.cell? ⟨w.heap.size, 0, none⟩ = some (.int .i64 r) := row_cell hr1 rfl
  have c1 : W1.cell? ⟨w.heap.size, 1, none⟩ = some (.int .i64 v) := row_cell hr1 rfl
  have HM := Lib.hid (hM.below hb1)
  obtain ⟨a3, k3, rfl, -, hl3, -⟩ := id hM
  have HB := Lib.hid hb1
  have HW1 := Lib.hid hW1
  have HOFF := Lib.hid off
  clear hM hb1 hr1 hW1 off
  cases hoy : oddQ y with
  | true =>
    have HV : Hid (partE y r v ms = 1) := Lib.hid (by rw [partE_no, if_pos (.inl hoy)])
    have HX := Lib.hid (HOFF.out (by rw [HV.out]; decide))
    have HI := Lib.hid (rnumber40_any y W1)
    rw [hoy] at HI
    clear hoy
    go_enter Try.func17, Try.ntmps17
    go_wp2_with (rw [← HW1.out])
    refine (HI.out).mono ?_
    rintro e w2 ⟨rfl, rfl⟩
    go_wp2_with fail
    go_ret2
    exact ⟨by rw [HV.out, HX.out]; rfl, HB.out⟩
  | false =>
    have hyn := oddQ_no hoy
    have HI := Lib.hid (rnumber40_any y W1)
    rw [hoy] at HI
    have HA := Lib.hid (rNumbers40_any _ ms W1 HM.out)
    cases hall : allQ ms with
    | false =>
      have HV : Hid (partE y r v ms = 1) := Lib.hid (by rw [partE_no, if_pos (.inr hall)])
      have HX := Lib.hid (HOFF.out (by rw [HV.out]; decide))
      rw [hall] at HA
      clear hoy hall hyn
      go_enter Try.func17, Try.ntmps17
      go_wp2_with (rw [← HW1.out])
      refine (HI.out).mono ?_
      rintro e w2 ⟨rfl, rfl⟩
      go_wp2_with fail
      refine (HA.out).mono ?_
      rintro e w3 ⟨rfl, rfl⟩
      go_wp2_with fail
      go_ret2
      exact ⟨by rw [HV.out, HX.out]; rfl, HB.out⟩
    | true =>
      rw [hall] at HA
      have HNU := Lib.hid (allQ_ok hall).2
      have HE : Hid (partE y r v ms = if r < 0 ∨ 64 ≤ r ∨ oddQ v = true then 340 else 0) := Lib.hid (by rw [partE_no, if_neg (by rw [hoy, hall]; simp)])
      by_cases hr0 : r < 0
      · have HV : Hid (partE y r v ms = 340) := Lib.hid (by rw [HE.out, if_pos (.inl hr0)])
        have HX := Lib.hid (HOFF.out (by rw [HV.out]; decide))
        have d0 : decide (r < 0) = true := decide_eq_true hr0
        clear hoy hall hyn hr0
        go_enter Try.func17, Try.ntmps17
        go_wp2_with (rw [← HW1.out])
        refine (HI.out).mono ?_
        rintro e w2 ⟨rfl, rfl⟩
        go_wp2_with fail
        refine (HA.out).mono ?_
        rintro e w3 ⟨rfl, rfl⟩
        go_wp2_with fail
        go_ret2
        exact ⟨by rw [HV.out, HX.out]; rfl, HB.out⟩
      have d0 : decide (r < 0) = false := decide_eq_false hr0
      by_cases hr1 : 64 ≤ r
      · have HV : Hid (partE y r v ms = 340) := Lib.hid (by rw [HE.out, if_pos (.inr (.inl hr1))])
        have HX := Lib.hid (HOFF.out (by rw [HV.out]; decide))
        have d1 : decide (64 ≤ r) = true := decide_eq_true hr1
        clear hoy hall hyn hr0 hr1
        go_enter Try.func17, Try.ntmps17
        go_wp2_with (rw [← HW1.out])
        refine (HI.out).mono ?_
        rintro e w2 ⟨rfl, rfl⟩
        go_wp2_with fail
        refine (HA.out).mono ?_
        rintro e w3 ⟨rfl, rfl⟩
        go_wp2_with fail
        go_ret2
        exact ⟨by rw [HV.out, HX.out]; rfl, HB.out⟩
      have d1 : decide (64 ≤ r) = false := decide_eq_false hr1
      have HI2 := Lib.hid (rnumber40_any v W1)
      cases hov : oddQ v with
      | true =>
        have HV : Hid (partE y r v ms = 340) := Lib.hid (by rw [HE.out, if_pos (.inr (.inr hov))])
        have HX := Lib.hid (HOFF.out (by rw [HV.out]; decide))
        rw [hov] at HI2
        clear hoy hall hyn hr0 hr1 hov
        go_enter Try.func17, Try.ntmps17
        go_wp2_with (rw [← HW1.out])
        refine (HI.out).mono ?_
        rintro e w2 ⟨rfl, rfl⟩
        go_wp2_with fail
        refine (HA.out).mono ?_
        rintro e w3 ⟨rfl, rfl⟩
        go_wp2_with fail
        refine (HI2.out).mono ?_
        rintro e w4 ⟨rfl, rfl⟩
        go_wp2_with fail
        go_ret2
        exact ⟨by rw [HV.out, HX.out]; rfl, HB.out⟩
      | false =>
        have HV : Hid (partE y r v ms = 0) := Lib.hid (by rw [HE.out, if_neg (by rw [hov]; simp; omega)])
        rw [hov] at HI2
        have hvn := oddQ_no hov
        have hyv := wrap_mulQ hyn hvn
        have htn := totQ_num ms
        have HX : Hid (partV y r v ms = (y * v + totQ ms) % 1073741789) := Lib.hid (by unfold partV; rw [HV.out, if_pos rfl]; generalize y * v = q; omega)
        obtain ⟨s, hs⟩ : ∃ s, s = totQ ms := ⟨_, rfl⟩
        have HTM := Lib.hid (fun ww (h : Ints ww (.slice a3 ms.length k3) ms) => rtot_any _ ms ww h HNU.out)
        rw [← hs] at HX HTM htn
        have HMD : Hid (Ints W1.drew (.slice a3 ms.length k3) ms) := Lib.hid (HM.out.below ((Below.refl _ _).drew))
        have HBD : Hid (Below w.heap.size w W1.drew) := Lib.hid HB.out.drew
        have hws : ∀ p : Int, 0 ≤ p ∧ p ≤ 1152921429444920521 → IntKind.i64.wrap p = p ∧ IntKind.i64.wrap (p + s) = p + s ∧ (p + s).tmod 1073741789 = (p + s) % 1073741789 := fun p hp => ⟨by rw [IntKind.wrap_i64]; omega, by rw [IntKind.wrap_i64]; omega, by rw [Int.tmod_eq_emod_of_nonneg (by omega)]⟩
        obtain ⟨hwp, hwq, htq⟩ := hws _ hyv
        clear hoy hall hr0 hr1 hov hs hws
        go_enter Try.func17, Try.ntmps17
        go_wp2_with (rw [← HW1.out])
        refine (HI.out).mono ?_
        rintro e w2 ⟨rfl, rfl⟩
        go_wp2_with fail
        refine (HA.out).mono ?_
        rintro e w3 ⟨rfl, rfl⟩
        go_wp2_with fail
        refine (HI2.out).mono ?_
        rintro e w4 ⟨rfl, rfl⟩
        go_wp2_with fail
        have c1d : W1.drew.cell? ⟨w.heap.size, 1, none⟩ = some (.int .i64 v) := c1
        go_region_held3 (fun w' => w'.cell? ⟨w.heap.size, 1, none⟩ = some (.int .i64 v)) (first | go_keep | exact c1d | exact z1)
          (first
            | (go_at_call 59; (with_reducible refine (HTM.out _ HMD.out).mono ?_); rintro e w5 ⟨rfl, hb5⟩; have z1 := below_cell hb5 c1d; have HB5 := Lib.hid (HBD.out.trans (hb5.mono HBD.out.size)); clear hb5))
        all_goals
          go_wp2_with fail
          go_ret2
          exact ⟨by rw [HV.out, HX.out]; rfl, HB5.out⟩

end Go.Proofs.Ytnbkbnbmmkfckaa

namespace Go.Proofs.Ytnbkbnbmmkfckaa
open Go.RowKit FP

theorem pubE_com {rows : List (List Int)} {owners cs : List Int} {row : Int} (hp : progE rows owners = 0) : pubE rows owners cs row = if comB rows cs = true then (if row < 0 ∨ (rows.length : Int) ≤ row then 1 else 0) else 340 := by
  unfold pubE
  rw [comB_E hp]
  cases comB rows cs with
  | true => simp
  | false => simp

set_option maxRecDepth 100000 in
set_option maxHeartbeats 16000000 in
theorem rFinish_any (ep row : Int) (rv ov cv pv : Value) (rows : List (List Int)) (owners cs parts : List Int) (w : World) (hR : Rows2 w rv rows) (hO : Ints w ov owners) (hC : Ints w cv cs) (hP : Ints w pv parts) (hrow : R64 row) :
    Calls Try.prog 20 #[.agg #[.int .i64 ep, rv, ov, cv], .int .i64 row, pv] w fun r w' =>
      r = .returned (.tuple #[.agg #[.int .i64 (finR rows owners cs row parts), .int .i64 (finV rows owners cs row parts)], .bool (finB rows owners cs row parts), .int .i64 (finE rows owners cs row parts)]) ∧ Below w.heap.size w w' := by
  obtain ⟨W0, hW0, hb0, hr0, hs0⟩ := box_key w (.int .i64 ep) rv ov cv 38
  obtain ⟨W1, hW1, hb1, hr1, hz⟩ := box_prog W0 (.int .i64 0) (.int .i64 0) 27
  have hb : Below w.heap.size w W1 := hb0.trans (hb1.mono hb0.size)
  have HR := Lib.hid (hR.below hb)
  have HO := Lib.hid (hO.below hb)
  have HC := Lib.hid (hC.below hb)
  have HP := Lib.hid (hP.below hb)
  have HR0 := Lib.hid hR
  have HO0 := Lib.hid hO
  have HC0 := Lib.hid hC
  obtain ⟨a1, k1, rfl, -, hl1, -⟩ := id hR
  obtain ⟨a2, k2, rfl, -, hl2, -⟩ := id hO
  obtain ⟨a3, k3, rfl, -, hl3, -⟩ := id hC
  obtain ⟨a4, k4, rfl, -, hl4, -⟩ := id hP
  have c1 : W1.cell? ⟨w.heap.size, 1, none⟩ = some (.slice a1 rows.length k1) := below_cell hb1 (row_cell hr0 rfl)
  have c2 : W1.cell? ⟨w.heap.size, 2, none⟩ = some (.slice a2 owners.length k2) := below_cell hb1 (row_cell hr0 rfl)
  have c3 : W1.cell? ⟨w.heap.size, 3, none⟩ = some (.slice a3 cs.length k3) := below_cell hb1 (row_cell hr0 rfl)
  rw [hs0] at hr1
  have Q := Lib.hid hr1
  rw [hW0] at hW1
  have HW1 := Lib.hid hW1
  have HB := Lib.hid hb
  clear hR hO hC hP hb hb0 hb1 hr0 hr1 hW0 hW1 hz
  have HPC := Lib.hid (rpCheck_any _ _ rows owners _ HR.out HO.out)
  by_cases hp0 : progE rows owners = 0
  rotate_left
  · have hpe : pubE rows owners cs row = progE rows owners := by unfold pubE dchkE; rw [if_pos hp0, if_pos hp0]
    have hp : pubE rows owners cs row ≠ 0 := by rw [hpe]; exact hp0
    obtain ⟨x1, x2⟩ := finE_pub (parts := parts) hp
    obtain ⟨x3, x4⟩ := fin_off x2
    rw [hpe] at x1
    have HV := Lib.hid (And.intro x1 (And.intro x2 (And.intro x3 x4)))
    have d0 : (progE rows owners != 0) = true := bne_iff_ne.2 hp0
    clear hp x1 x2 x3 x4 hpe
    generalize progE rows owners = q at *
    clear hp0
    go_enter Try.func20, Try.ntmps20
    go_wp2_with (rw [← HW1.out])
    refine (HPC.out).mono ?_
    rintro e w2 ⟨rfl, hb2⟩
    replace c1 := below_cell hb2 c1
    replace c2 := below_cell hb2 c2
    replace c3 := below_cell hb2 c3
    replace HR := Lib.hid (HR.out.below hb2)
    replace HO := Lib.hid (HO.out.below hb2)
    replace HC := Lib.hid (HC.out.below hb2)
    replace HP := Lib.hid (HP.out.below hb2)
    replace Q := Lib.hid ((hb2.block _ (row_lt Q.out)).trans Q.out)
    replace HB := Lib.hid (HB.out.trans (hb2.mono HB.out.size))
    clear hb2
    have x0 := row_cell Q.out (k := 0) rfl
    have x1 := row_cell Q.out (k := 1) rfl
    have f0 := row_free Q.out 0
    have f1 := row_free Q.out 1
    go_wp2_with fail
    try simp only [Exit.inBlock, Exit.then]
    refine bodyPost_ret (v := .tuple #[.agg #[.int .i64 0, .int .i64 0], .bool false, .int .i64 q]) ?_ rfl ?_
    · rw [results_cell_tmp2 rfl]
      go_simp
    · exact ⟨by rw [HV.out.1, HV.out.2.1, HV.out.2.2.1, HV.out.2.2.2], (HB.out.setCell (Nat.le_succ _) _).setCell (Nat.le_succ _) _⟩
  have HPE := Lib.hid (pubE_com (cs := cs) (row := row) hp0)
  have HCL := Lib.hid (progE_ok hp0).cols_le
  have HPO := Lib.hid hp0
  rw [hp0] at HPC
  clear hp0
  have HCM := Lib.hid (fun rv ov cv ww h1 h2 h3 => rcommits_any rv ov cv rows owners cs ww h1 h2 h3 HCL.out)
  have HBAD : Hid (∀ z : Int, z ≠ 0 → pubE rows owners cs row = z → finE rows owners cs row parts = z ∧ finB rows owners cs row parts = false ∧ finR rows owners cs row parts = 0 ∧ finV rows owners cs row parts = 0) := Lib.hid (fun z hz h => by
    obtain ⟨x1, x2⟩ := finE_pub (parts := parts) (by rw [h]; exact hz)
    exact ⟨by rw [x1, h], x2, fin_off x2⟩)
  cases hcb : comB rows cs with
  | false =>
    have HV := Lib.hid (HBAD.out 340 (by decide) (by rw [HPE.out, hcb]; rfl))
    rw [hcb] at HCM
    clear hcb
    go_enter Try.func20, Try.ntmps20
    go_wp2_with (rw [← HW1.out])
    refine (HPC.out).mono ?_
    rintro e w2 ⟨rfl, hb2⟩
    replace c1 := below_cell hb2 c1
    replace c2 := below_cell hb2 c2
    replace c3 := below_cell hb2 c3
    replace HR := Lib.hid (HR.out.below hb2)
    replace HO := Lib.hid (HO.out.below hb2)
    replace HC := Lib.hid (HC.out.below hb2)
    replace HP := Lib.hid (HP.out.below hb2)
    replace Q := Lib.hid ((hb2.block _ (row_lt Q.out)).trans Q.out)
    replace HB := Lib.hid (HB.out.trans (hb2.mono HB.out.size))
    clear hb2
    go_wp2_with fail
    refine (HCM.out _ _ _ _ HR.out HO.out HC.out).mono ?_
    rintro e w3 ⟨rfl, hb3⟩
    replace c1 := below_cell hb3 c1
    replace c2 := below_cell hb3 c2
    replace c3 := below_cell hb3 c3
    replace HR := Lib.hid (HR.out.below hb3)
    replace HO := Lib.hid (HO.out.below hb3)
    replace HC := Lib.hid (HC.out.below hb3)
    replace HP := Lib.hid (HP.out.below hb3)
    replace Q := Lib.hid ((hb3.block _ (row_lt Q.out)).trans Q.out)
    replace HB := Lib.hid (HB.out.trans (hb3.mono HB.out.size))
    clear hb3
    have x0 := row_cell Q.out (k := 0) rfl
    have x1 := row_cell Q.out (k := 1) rfl
    have f0 := row_free Q.out 0
    have f1 := row_free Q.out 1
    go_wp2_with fail
    try simp only [Exit.inBlock, Exit.then]
    refine bodyPost_ret (v := .tuple #[.agg #[.int .i64 0, .int .i64 0], .bool false, .int .i64 340]) ?_ rfl ?_
    · rw [results_cell_tmp2 rfl]
      go_simp
    · exact ⟨by rw [HV.out.1, HV.out.2.1, HV.out.2.2.1, HV.out.2.2.2], (HB.out.setCell (Nat.le_succ _) _).setCell (Nat.le_succ _) _⟩
  | true =>
  rw [hcb] at HCM HPE
  clear hcb
  by_cases h0 : row < 0
  · have HV := Lib.hid (HBAD.out 1 (by decide) (by rw [HPE.out, if_pos rfl, if_pos (.inl h0)]))
    have d0 : decide (row < 0) = true := decide_eq_true h0
    clear h0
    go_enter Try.func20, Try.ntmps20
    go_wp2_with (rw [← HW1.out])
    refine (HPC.out).mono ?_
    rintro e w2 ⟨rfl, hb2⟩
    replace c1 := below_cell hb2 c1
    replace c2 := below_cell hb2 c2
    replace c3 := below_cell hb2 c3
    replace HR := Lib.hid (HR.out.below hb2)
    replace HO := Lib.hid (HO.out.below hb2)
    replace HC := Lib.hid (HC.out.below hb2)
    replace HP := Lib.hid (HP.out.below hb2)
    replace Q := Lib.hid ((hb2.block _ (row_lt Q.out)).trans Q.out)
    replace HB := Lib.hid (HB.out.trans (hb2.mono HB.out.size))
    clear hb2
    go_wp2_with fail
    refine (HCM.out _ _ _ _ HR.out HO.out HC.out).mono ?_
    rintro e w3 ⟨rfl, hb3⟩
    replace c1 := below_cell hb3 c1
    replace c2 := below_cell hb3 c2
    replace c3 := below_cell hb3 c3
    replace HR := Lib.hid (HR.out.below hb3)
    replace HO := Lib.hid (HO.out.below hb3)
    replace HC := Lib.hid (HC.out.below hb3)
    replace HP := Lib.hid (HP.out.below hb3)
    replace Q := Lib.hid ((hb3.block _ (row_lt Q.out)).trans Q.out)
    replace HB := Lib.hid (HB.out.trans (hb3.mono HB.out.size))
    clear hb3
    have x0 := row_cell Q.out (k := 0) rfl
    have x1 := row_cell Q.out (k := 1) rfl
    have f0 := row_free Q.out 0
    have f1 := row_free Q.out 1
    go_wp2_with fail
    try simp only [Exit.inBlock, Exit.then]
    refine bodyPost_ret (v := .tuple #[.agg #[.int .i64 0, .int .i64 0], .bool false, .int .i64 1]) ?_ rfl ?_
    · rw [results_cell_tmp2 rfl]
      go_simp
    · exact ⟨by rw [HV.out.1, HV.out.2.1, HV.out.2.2.1, HV.out.2.2.2], (HB.out.setCell (Nat.le_succ _) _).setCell (Nat.le_succ _) _⟩
  have d0 : decide (row < 0) = false := decide_eq_false h0
  by_cases h1 : (rows.length : Int) ≤ row
  · have HV := Lib.hid (HBAD.out 1 (by decide) (by rw [HPE.out, if_pos rfl, if_pos (.inr h1)]))
    have d1 : decide ((rows.length : Int) ≤ row) = true := decide_eq_true h1
    clear h0 h1
    go_enter Try.func20, Try.ntmps20
    go_wp2_with (rw [← HW1.out])
    refine (HPC.out).mono ?_
    rintro e w2 ⟨rfl, hb2⟩
    replace c1 := below_cell hb2 c1
    replace c2 := below_cell hb2 c2
    replace c3 := below_cell hb2 c3
    replace HR := Lib.hid (HR.out.below hb2)
    replace HO := Lib.hid (HO.out.below hb2)
    replace HC := Lib.hid (HC.out.below hb2)
    replace HP := Lib.hid (HP.out.below hb2)
    replace Q := Lib.hid ((hb2.block _ (row_lt Q.out)).trans Q.out)
    replace HB := Lib.hid (HB.out.trans (hb2.mono HB.out.size))
    clear hb2
    go_wp2_with fail
    refine (HCM.out _ _ _ _ HR.out HO.out HC.out).mono ?_
    rintro e w3 ⟨rfl, hb3⟩
    replace c1 := below_cell hb3 c1
    replace c2 := below_cell hb3 c2
    replace c3 := below_cell hb3 c3
    replace HR := Lib.hid (HR.out.below hb3)
    replace HO := Lib.hid (HO.out.below hb3)
    replace HC := Lib.hid (HC.out.below hb3)
    replace HP := Lib.hid (HP.out.below hb3)
    replace Q := Lib.hid ((hb3.block _ (row_lt Q.out)).trans Q.out)
    replace HB := Lib.hid (HB.out.trans (hb3.mono HB.out.size))
    clear hb3
    have x0 := row_cell Q.out (k := 0) rfl
    have x1 := row_cell Q.out (k := 1) rfl
    have f0 := row_free Q.out 0
    have f1 := row_free Q.out 1
    go_wp2_with fail
    try simp only [Exit.inBlock, Exit.then]
    refine bodyPost_ret (v := .tuple #[.agg #[.int .i64 0, .int .i64 0], .bool false, .int .i64 1]) ?_ rfl ?_
    · rw [results_cell_tmp2 rfl]
      go_simp
    · exact ⟨by rw [HV.out.1, HV.out.2.1, HV.out.2.2.1, HV.out.2.2.2], (HB.out.setCell (Nat.le_succ _) _).setCell (Nat.le_succ _) _⟩
  have d1 : decide ((rows.length : Int) ≤ row) = false := decide_eq_false h1
  have hpub : pubE rows owners cs row = 0 := by rw [HPE.out, if_pos rfl, if_neg (by omega)]
  have HE := Lib.hid (finE_part (parts := parts) hpub)
  have HF0 := Lib.hid (fun v hv => fitE_zero (v := v) hpub hv)
  have HN := Lib.hid (fun ww h => rNumbers40_any (.slice a4 parts.length k4) parts ww h)
  clear h0 h1 hpub HBAD HPE
  cases hall : allQ parts with
  | false =>
    have HV : Hid (finE rows owners cs row parts = 1) := Lib.hid (by rw [HE.out, hall]; rfl)
    have x2 : finB rows owners cs row parts = false := by unfold finB; rw [HV.out]; rfl
    obtain ⟨x3, x4⟩ := fin_off x2
    have HX := Lib.hid (And.intro x2 (And.intro x3 x4))
    rw [hall] at HN
    clear hall x2 x3 x4
    go_enter Try.func20, Try.ntmps20
    go_wp2_with (rw [← HW1.out])
    refine (HPC.out).mono ?_
    rintro e w2 ⟨rfl, hb2⟩
    replace c1 := below_cell hb2 c1
    replace c2 := below_cell hb2 c2
    replace c3 := below_cell hb2 c3
    replace HR := Lib.hid (HR.out.below hb2)
    replace HO := Lib.hid (HO.out.below hb2)
    replace HC := Lib.hid (HC.out.below hb2)
    replace HP := Lib.hid (HP.out.below hb2)
    replace Q := Lib.hid ((hb2.block _ (row_lt Q.out)).trans Q.out)
    replace HB := Lib.hid (HB.out.trans (hb2.mono HB.out.size))
    clear hb2
    go_wp2_with fail
    refine (HCM.out _ _ _ _ HR.out HO.out HC.out).mono ?_
    rintro e w3 ⟨rfl, hb3⟩
    replace c1 := below_cell hb3 c1
    replace c2 := below_cell hb3 c2
    replace c3 := below_cell hb3 c3
    replace HR := Lib.hid (HR.out.below hb3)
    replace HO := Lib.hid (HO.out.below hb3)
    replace HC := Lib.hid (HC.out.below hb3)
    replace HP := Lib.hid (HP.out.below hb3)
    replace Q := Lib.hid ((hb3.block _ (row_lt Q.out)).trans Q.out)
    replace HB := Lib.hid (HB.out.trans (hb3.mono HB.out.size))
    clear hb3
    go_wp2_with fail
    refine (HN.out _ HP.out).mono ?_
    rintro e w4 ⟨rfl, rfl⟩
    have x0 := row_cell Q.out (k := 0) rfl
    have x1 := row_cell Q.out (k := 1) rfl
    have f0 := row_free Q.out 0
    have f1 := row_free Q.out 1
    go_wp2_with fail
    try simp only [Exit.inBlock, Exit.then]
    refine bodyPost_ret (v := .tuple #[.agg #[.int .i64 0, .int .i64 0], .bool false, .int .i64 1]) ?_ rfl ?_
    · rw [results_cell_tmp2 rfl]
      go_simp
    · exact ⟨by rw [HV.out, HX.out.1, HX.out.2.1, HX.out.2.2], (HB.out.setCell (Nat.le_succ _) _).setCell (Nat.le_succ _) _⟩
  | true =>
    have HV : Hid (finE rows owners cs row parts = 0) := Lib.hid (by rw [HE.out, hall]; rfl)
    have HNU := Lib.hid (allQ_ok hall).2
    have htn := totQ_num parts
    have HBV : Hid (finB rows owners cs row parts = fitB rows owners cs row (totQ parts)) := Lib.hid (by unfold finB; rw [HV.out]; rfl)
    have HOFF := Lib.hid (fun h => fin_off (rows := rows) (owners := owners) (cs := cs) (row := row) (parts := parts) h)
    have HON := Lib.hid (fun h => fin_on (rows := rows) (owners := owners) (cs := cs) (row := row) (parts := parts) h)
    rw [hall] at HN
    have HTM := Lib.hid (fun ww (h : Ints ww (.slice a4 parts.length k4) parts) => rtot_any _ parts ww h HNU.out)
    obtain ⟨s, hs⟩ : ∃ s, s = totQ parts := ⟨_, rfl⟩
    rw [← hs] at HTM htn HBV HON
    have hs64 : R64 s := num_r64 htn
    have HFE := Lib.hid (HF0.out s htn)
    have HFT := Lib.hid (fun rv ov cv ww h1 h2 h3 => rFits_any rv ov cv rows owners cs row s ww h1 h2 h3 hrow hs64)
    rw [HFE.out] at HFT
    clear hall hs HF0 HE HFE
    go_enter Try.func20, Try.ntmps20
    go_wp2_with (rw [← HW1.out])
    refine (HPC.out).mono ?_
    rintro e w2 ⟨rfl, hb2⟩
    replace c1 := below_cell hb2 c1
    replace c2 := below_cell hb2 c2
    replace c3 := below_cell hb2 c3
    replace HR := Lib.hid (HR.out.below hb2)
    replace HO := Lib.hid (HO.out.below hb2)
    replace HC := Lib.hid (HC.out.below hb2)
    replace HP := Lib.hid (HP.out.below hb2)
    replace Q := Lib.hid ((hb2.block _ (row_lt Q.out)).trans Q.out)
    replace HB := Lib.hid (HB.out.trans (hb2.mono HB.out.size))
    clear hb2
    go_wp2_with fail
    refine (HCM.out _ _ _ _ HR.out HO.out HC.out).mono ?_
    rintro e w3 ⟨rfl, hb3⟩
    replace c1 := below_cell hb3 c1
    replace c2 := below_cell hb3 c2
    replace c3 := below_cell hb3 c3
    replace HR := Lib.hid (HR.out.below hb3)
    replace HO := Lib.hid (HO.out.below hb3)
    replace HC := Lib.hid (HC.out.below hb3)
    replace HP := Lib.hid (HP.out.below hb3)
    replace Q := Lib.hid ((hb3.block _ (row_lt Q.out)).trans Q.out)
    replace HB := Lib.hid (HB.out.trans (hb3.mono HB.out.size))
    clear hb3
    go_wp2_with fail
    refine (HN.out _ HP.out).mono ?_
    rintro e w4 ⟨rfl, rfl⟩
    go_wp2_with fail
    refine (HTM.out _ HP.out).mono ?_
    rintro e w5 ⟨rfl, hb5⟩
    replace c1 := below_cell hb5 c1
    replace c2 := below_cell hb5 c2
    replace c3 := below_cell hb5 c3
    replace HR := Lib.hid (HR.out.below hb5)
    replace HO := Lib.hid (HO.out.below hb5)
    replace HC := Lib.hid (HC.out.below hb5)
    replace HP := Lib.hid (HP.out.below hb5)
    replace Q := Lib.hid ((hb5.block _ (row_lt Q.out)).trans Q.out)
    replace HB := Lib.hid (HB.out.trans (hb5.mono HB.out.size))
    clear hb5
    obtain ⟨W6, hW6, hb6, hr6, hz6⟩ := box_prog w5 (.int .i64 row) (.int .i64 s) 27
    have y0 : W6.cell? ⟨w5.heap.size, 0, none⟩ = some (.int .i64 row) := row_cell hr6 rfl
    have y1 : W6.cell? ⟨w5.heap.size, 1, none⟩ = some (.int .i64 s) := row_cell hr6 rfl
    have HW6 := Lib.hid hW6
    clear hW6 hr6 hz6
    replace c1 := below_cell hb6 c1
    replace c2 := below_cell hb6 c2
    replace c3 := below_cell hb6 c3
    replace HR := Lib.hid (HR.out.below hb6)
    replace HO := Lib.hid (HO.out.below hb6)
    replace HC := Lib.hid (HC.out.below hb6)
    replace HP := Lib.hid (HP.out.below hb6)
    replace Q := Lib.hid ((hb6.block _ (row_lt Q.out)).trans Q.out)
    replace HB := Lib.hid (HB.out.trans (hb6.mono HB.out.size))
    clear hb6
    cases hfb : fitB rows owners cs row s with
    | false =>
      rw [hfb] at HFT HBV
      have HX := Lib.hid (HOFF.out HBV.out)
      clear hfb
      go_wp2_with (rw [← HW6.out])
      refine (HFT.out _ _ _ _ HR.out HO.out HC.out).mono ?_
      rintro e w7 ⟨rfl, hb7⟩
      replace c1 := below_cell hb7 c1
      replace c2 := below_cell hb7 c2
      replace c3 := below_cell hb7 c3
      replace y0 := below_cell hb7 y0
      replace y1 := below_cell hb7 y1
      replace HR := Lib.hid (HR.out.below hb7)
      replace HO := Lib.hid (HO.out.below hb7)
      replace HC := Lib.hid (HC.out.below hb7)
      replace HP := Lib.hid (HP.out.below hb7)
      replace Q := Lib.hid ((hb7.block _ (row_lt Q.out)).trans Q.out)
      replace HB := Lib.hid (HB.out.trans (hb7.mono HB.out.size))
      clear hb7
      have x0 := row_cell Q.out (k := 0) rfl
      have x1 := row_cell Q.out (k := 1) rfl
      have f0 := row_free Q.out 0
      have f1 := row_free Q.out 1
      go_wp2_with fail
      try simp only [Exit.inBlock, Exit.then]
      refine bodyPost_ret (v := .tuple #[.agg #[.int .i64 0, .int .i64 0], .bool false, .int .i64 0]) ?_ rfl ?_
      · rw [results_cell_tmp2 rfl]
        go_simp
      · exact ⟨by rw [HV.out, HBV.out, HX.out.1, HX.out.2], (HB.out.setCell (Nat.le_succ _) _).setCell (Nat.le_succ _) _⟩
    | true =>
      rw [hfb] at HFT HBV
      have HX := Lib.hid (HON.out HBV.out)
      clear hfb
      go_wp2_with (rw [← HW6.out])
      refine (HFT.out _ _ _ _ HR.out HO.out HC.out).mono ?_
      rintro e w7 ⟨rfl, hb7⟩
      replace c1 := below_cell hb7 c1
      replace c2 := below_cell hb7 c2
      replace c3 := below_cell hb7 c3
      replace y0 := below_cell hb7 y0
      replace y1 := below_cell hb7 y1
      replace HR := Lib.hid (HR.out.below hb7)
      replace HO := Lib.hid (HO.out.below hb7)
      replace HC := Lib.hid (HC.out.below hb7)
      replace HP := Lib.hid (HP.out.below hb7)
      replace Q := Lib.hid ((hb7.block _ (row_lt Q.out)).trans Q.out)
      replace HB := Lib.hid (HB.out.trans (hb7.mono HB.out.size))
      clear hb7
      have x0 := row_cell Q.out (k := 0) rfl
      have x1 := row_cell Q.out (k := 1) rfl
      have f0 := row_free Q.out 0
      have f1 := row_free Q.out 1
      go_wp2_with fail
      try simp only [Exit.inBlock, Exit.then]
      refine bodyPost_ret (v := .tuple #[.agg #[.int .i64 row, .int .i64 s], .bool true, .int .i64 0]) ?_ rfl ?_
      · rw [results_cell_tmp2 rfl]
        go_simp
      · exact ⟨by rw [HV.out, HBV.out, HX.out.1, HX.out.2], (HB.out.setCell (Nat.le_succ _) _).setCell (Nat.le_succ _) _⟩

end Go.Proofs.Ytnbkbnbmmkfckaa
