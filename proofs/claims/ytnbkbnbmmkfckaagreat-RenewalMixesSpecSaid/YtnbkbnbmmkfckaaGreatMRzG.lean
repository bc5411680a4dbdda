/- The reference of renewing: Mixes; the law RenewalMixesSpec. The law RenewalMixesSpec, the walk. -/
import Derived.Test.YtnbkbnbmmkfckaaGreatMRzE
import Derived.Test.YtnbkbnbmmkfckaaGreatMRdH
import Derived.Test.YtnbkbnbmmkfckaaGreatMReK
namespace Go.Proofs.YtnbkbnbmmkfckaaGreat
open Go.RowKit FP

theorem sameP_eq {r s : List (List Int)} {o p : List Int} (h : sameP r s o p = true) : o = p ∧ r = s := by
  unfold sameP sameQ at h
  simp only [Bool.and_eq_true, decide_eq_true_eq] at h
  exact ⟨h.2, h.1⟩

set_option maxRecDepth 100000 in
set_option maxHeartbeats 16000000 in
theorem rMixes_any (ep ep2 : Int) (rv ov cv rv2 ov2 cv2 av bv : Value) (rows rows2 : List (List Int)) (owners owners2 cs cs2 : List Int) (a b : List (Int × Int)) (w : World) (hR : Rows2 w rv rows) (hO : Ints w ov owners) (hC : Ints w cv cs) (hR2 : Rows2 w rv2 rows2) (hO2 : Ints w ov2 owners2) (hC2 : Ints w cv2 cs2) (hA : Shares w av a) (hB : Shares w bv b) :
    Calls Tryz.prog 15 #[.agg #[.int .i64 ep, rv, ov, cv], .agg #[.int .i64 ep2, rv2, ov2, cv2], av, bv] w fun e w' => e = .returned (.tuple #[.bool (mixB rows owners ep cs rows2 owners2 ep2 cs2 a b), .int .i64 (mixE rows owners ep cs rows2 owners2 ep2 cs2 a b)]) ∧ Below w.heap.size w w' := by
  obtain ⟨W0, hW0, hb0, hr0, hs0⟩ := box_key w (.int .i64 ep) rv ov cv 27
  obtain ⟨W1, hW1, hb1, hr1, hs1⟩ := box_key W0 (.int .i64 ep2) rv2 ov2 cv2 27
  have hb : Below w.heap.size w W1 := hb0.trans (hb1.mono hb0.size)
  have HR := Lib.hid (hR.below hb)
  have HO := Lib.hid (hO.below hb)
  have HC := Lib.hid (hC.below hb)
  have HR2 := Lib.hid (hR2.below hb)
  have HO2 := Lib.hid (hO2.below hb)
  have HC2 := Lib.hid (hC2.below hb)
  have HA := Lib.hid (hA.below hb)
  have HB := Lib.hid (hB.below hb)
  obtain ⟨a1, k1, rfl, -, hl1, -⟩ := id hR
  obtain ⟨a2, k2, rfl, -, hl2, -⟩ := id hO
  obtain ⟨a3, k3, rfl, -, hl3, -⟩ := id hC
  obtain ⟨a4, k4, rfl, -, hl4, -⟩ := id hR2
  obtain ⟨a5, k5, rfl, -, hl5, -⟩ := id hO2
  obtain ⟨a6, k6, rfl, -, hl6, -⟩ := id hC2
  obtain ⟨a7, k7, rfl, -, hl7, har, -⟩ := id hA
  obtain ⟨a8, k8, rfl, -, hl8, hbr, -⟩ := id hB
  have HAR := Lib.hid har
  have HBR := Lib.hid hbr
  have Q1 := Lib.hid ((hb1.block _ (row_lt hr0)).trans hr0)
  rw [hs0] at hr1
  have Q2 := Lib.hid hr1
  rw [hW0] at hW1
  have HW1 := Lib.hid hW1
  have HBB := Lib.hid hb
  clear hR hO hC hR2 hO2 hC2 hA hB hb hb0 hb1 hr0 hr1 hW0 hW1 hs0 hs1 har hbr
  have HPC := Lib.hid (rpCheck_any _ _ rows owners _ HR.out HO.out)
  have c1 := row_cell Q1.out (k := 1) rfl
  have c2 := row_cell Q1.out (k := 2) rfl
  go_enter Tryz.func15, Tryz.ntmps15
  go_wp2_with (rw [← HW1.out])
  clear c1 c2
  with_reducible refine (HPC.out).mono ?_
  rintro e w2 ⟨rfl, hb2⟩
  replace HR := Lib.hid (HR.out.below hb2)
  replace HO := Lib.hid (HO.out.below hb2)
  replace HC := Lib.hid (HC.out.below hb2)
  replace HR2 := Lib.hid (HR2.out.below hb2)
  replace HO2 := Lib.hid (HO2.out.below hb2)
  replace HC2 := Lib.hid (HC2.out.below hb2)
  replace HA := Lib.hid (HA.out.below hb2)
  replace HB := Lib.hid (HB.out.below hb2)
  replace Q1 := Lib.hid ((hb2.block _ (row_lt Q1.out)).trans Q1.out)
  replace Q2 := Lib.hid ((hb2.block _ (row_lt Q2.out)).trans Q2.out)
  replace HBB := Lib.hid (HBB.out.trans (hb2.mono HBB.out.size))
  clear hb2
  by_cases hp : progE rows owners = 0
  rotate_left
  · have HV : Hid (mixE rows owners ep cs rows2 owners2 ep2 cs2 a b = progE rows owners) := Lib.hid (by unfold mixE; rw [if_pos hp])
    have HNZ := Lib.hid hp
    have d0 : (progE rows owners != 0) = true := bne_iff_ne.2 hp
    clear hp HPC
    go_wp2_with fail
    go_ret2
    exact ⟨mix_off HV.out HNZ.out, HBB.out⟩
  have HP0 := Lib.hid hp
  have hcq := (progE_ok hp).cols_le
  have HKR := Lib.hid (fun ww h1 h2 h3 => rkey_any ep (.slice a1 rows.length k1) (.slice a2 owners.length k2) (.slice a3 cs.length k3) rows owners cs ww h1 h2 h3 hcq)
  have HSP := Lib.hid (fun ww h1 h2 h3 h4 => rSameP38_any (.slice a1 rows.length k1) (.slice a2 owners.length k2) (.slice a4 rows2.length k4) (.slice a5 owners2.length k5) rows rows2 owners owners2 ww h1 h2 h3 h4)
  have HE : Hid (mixE rows owners ep cs rows2 owners2 ep2 cs2 a b = if owners ≠ owners2 ∨ rows ≠ rows2 then 380 else if keyB rows ep cs = false ∨ keyB rows2 ep2 cs2 = false then 380 else if nth cs 0 ≠ nth cs2 0 ∨ ep2 ≤ ep then 380 else if fitL rows cs a = false ∨ fitL rows2 cs2 b = false then 340 else recE rows owners (mrgL a b)) := Lib.hid (by unfold mixE; rw [if_neg (by simp [hp])])
  rw [hp]
  clear hp HPC
  go_wp2_with fail
  have hbd : Below w2.heap.size w2 w2.drew := (Below.refl _ _).drew
  replace HR := Lib.hid (HR.out.below hbd)
  replace HO := Lib.hid (HO.out.below hbd)
  replace HC := Lib.hid (HC.out.below hbd)
  replace HR2 := Lib.hid (HR2.out.below hbd)
  replace HO2 := Lib.hid (HO2.out.below hbd)
  replace HC2 := Lib.hid (HC2.out.below hbd)
  replace HA := Lib.hid (HA.out.below hbd)
  replace HB := Lib.hid (HB.out.below hbd)
  replace HBB := Lib.hid (HBB.out.drew)
  clear hbd
  have s0 := row_cell Q1.out (k := 0) rfl
  have s1 := row_cell Q1.out (k := 1) rfl
  have s2 := row_cell Q1.out (k := 2) rfl
  have s3 := row_cell Q1.out (k := 3) rfl
  have s4 := row_cell Q2.out (k := 0) rfl
  have s5 := row_cell Q2.out (k := 1) rfl
  have s6 := row_cell Q2.out (k := 2) rfl
  have s7 := row_cell Q2.out (k := 3) rfl
  cases hk1 : keyB rows ep cs with
  | false =>
    have HV : Hid (mixE rows owners ep cs rows2 owners2 ep2 cs2 a b = 380) := Lib.hid (by rw [HE.out]; by_cases h : owners ≠ owners2 ∨ rows ≠ rows2; exact if_pos h; rw [if_neg h, if_pos (.inl hk1)])
    rw [hk1] at HKR
    clear hk1
    refine wp_region_held_drew (S := (fun w' => w'.cell? ⟨w.heap.size, 0, none⟩ = some (.int .i64 ep) ∧ w'.cell? ⟨w.heap.size, 1, none⟩ = some (.slice a1 rows.length k1) ∧ w'.cell? ⟨w.heap.size, 2, none⟩ = some (.slice a2 owners.length k2) ∧ w'.cell? ⟨w.heap.size, 3, none⟩ = some (.slice a3 cs.length k3) ∧ w'.cell? ⟨w.heap.size + 1, 0, none⟩ = some (.int .i64 ep2) ∧ w'.cell? ⟨w.heap.size + 1, 1, none⟩ = some (.slice a4 rows2.length k4) ∧ w'.cell? ⟨w.heap.size + 1, 2, none⟩ = some (.slice a5 owners2.length k5) ∧ w'.cell? ⟨w.heap.size + 1, 3, none⟩ = some (.slice a6 cs2.length k6))) (by kernel_rfl) (by (try dsimp only); (first | exact ⟨z0, z1, z2, z3, z4, z5, z6, z7⟩ | exact ⟨s0, s1, s2, s3, s4, s5, s6, s7⟩ | go_keep)) (fun hHeld => ?_)
    refine take_yes (i := 0) (some 24) ?_ rfl (by kernel_rfl) (by kernel_rfl) (by kernel_rfl) (by kernel_rfl) (fun _ _ _ h => h) (by kernel_rfl) ?_ (by assumption) ?_
    rotate_left
    · (intro w hSw; (try dsimp only at hSw); go_simp; (try with_reducible rfl))
    simp only [Act.put, List.setIfInBounds_toArray, List.set_cons_zero, List.set_cons_succ]
    refine wpAnyH_ready (rs := [1]) (by kernel_rfl) (by simp) ?_
    refine AllReadyH.cons rfl (fun K hK => ?_) AllReadyH.nil
    rw [if_pos (by rfl)]
    go_simp
    (go_at_call 33; (with_reducible refine (HKR.out _ HR.out HO.out HC.out).mono ?_); rintro e w6 ⟨rfl, hb6⟩; have z0 := below_cell hb6 s0; have z1 := below_cell hb6 s1; have z2 := below_cell hb6 s2; have z3 := below_cell hb6 s3; have z4 := below_cell hb6 s4; have z5 := below_cell hb6 s5; have z6 := below_cell hb6 s6; have z7 := below_cell hb6 s7; replace HR := Lib.hid (HR.out.below hb6); replace HO := Lib.hid (HO.out.below hb6); replace HC := Lib.hid (HC.out.below hb6); replace HR2 := Lib.hid (HR2.out.below hb6); replace HO2 := Lib.hid (HO2.out.below hb6); replace HC2 := Lib.hid (HC2.out.below hb6); replace HA := Lib.hid (HA.out.below hb6); replace HB := Lib.hid (HB.out.below hb6); replace Q1 := Lib.hid ((hb6.block _ (row_lt Q1.out)).trans Q1.out); replace Q2 := Lib.hid ((hb6.block _ (row_lt Q2.out)).trans Q2.out); replace HBB := Lib.hid (HBB.out.trans (hb6.mono HBB.out.size)); clear hb6)
    refine hK.out _ _ (by (try dsimp only); (first | exact ⟨z0, z1, z2, z3, z4, z5, z6, z7⟩ | exact ⟨s0, s1, s2, s3, s4, s5, s6, s7⟩ | go_keep)) (fun hHeld => ?_)
    clear hK K
    try simp only [Act.put, List.setIfInBounds_toArray, List.set_cons_zero, List.set_cons_succ]
    refine take_yes (i := 2) (some 26) (.bool true) rfl (by kernel_rfl) (by kernel_rfl) (by kernel_rfl) (by kernel_rfl) (fun _ _ _ h => h) (by kernel_rfl) (fun w _ => by rfl) (by assumption) ?_
    simp only [Act.put, List.setIfInBounds_toArray, List.set_cons_zero, List.set_cons_succ]
    refine take_yes (i := 3) (some 27) (.bool true) rfl (by kernel_rfl) (by kernel_rfl) (by kernel_rfl) (by kernel_rfl) (fun _ _ _ h => h) (by kernel_rfl) (fun w _ => by rfl) (by assumption) ?_
    simp only [Act.put, List.setIfInBounds_toArray, List.set_cons_zero, List.set_cons_succ]
    refine take_no (i := 4) (some 28) rfl (by kernel_rfl) (by kernel_rfl) (by kernel_rfl) (by kernel_rfl) (fun _ _ _ h => h) (by kernel_rfl) (by assumption) ?_
    simp only [Act.put, List.setIfInBounds_toArray, List.set_cons_zero, List.set_cons_succ]
    refine take_no (i := 5) (some 29) rfl (by kernel_rfl) (by kernel_rfl) (by kernel_rfl) (by kernel_rfl) (fun _ _ _ h => h) (by kernel_rfl) (by assumption) ?_
    simp only [Act.put, List.setIfInBounds_toArray, List.set_cons_zero, List.set_cons_succ]
    refine take_no (i := 6) (some 30) rfl (by kernel_rfl) (by kernel_rfl) (by kernel_rfl) (by kernel_rfl) (fun _ _ _ h => h) (by kernel_rfl) (by assumption) ?_
    simp only [Act.put, List.setIfInBounds_toArray, List.set_cons_zero, List.set_cons_succ]
    refine take_no (i := 7) (some 31) rfl (by kernel_rfl) (by kernel_rfl) (by kernel_rfl) (by kernel_rfl) (fun _ _ _ h => h) (by kernel_rfl) (by assumption) ?_
    simp only [Act.put, List.setIfInBounds_toArray, List.set_cons_zero, List.set_cons_succ]
    refine take_no (i := 8) (some 32) rfl (by kernel_rfl) (by kernel_rfl) (by kernel_rfl) (by kernel_rfl) (fun _ _ _ h => h) (by kernel_rfl) (by assumption) ?_
    simp only [Act.put, List.setIfInBounds_toArray, List.set_cons_zero, List.set_cons_succ]
    refine take_no (i := 9) (some 33) rfl (by kernel_rfl) (by kernel_rfl) (by kernel_rfl) (by kernel_rfl) (fun _ _ _ h => h) (by kernel_rfl) (by assumption) ?_
    simp only [Act.put, List.setIfInBounds_toArray, List.set_cons_zero, List.set_cons_succ]
    refine take_yes (i := 10) (some 34) (.bool true) rfl (by kernel_rfl) (by kernel_rfl) (by kernel_rfl) (by kernel_rfl) (fun _ _ _ h => h) (by kernel_rfl) (fun w _ => by rfl) (by assumption) ?_
    simp only [Act.put, List.setIfInBounds_toArray, List.set_cons_zero, List.set_cons_succ]
    refine take_yes (i := 11) (some 35) (.bool true) rfl (by kernel_rfl) (by kernel_rfl) (by kernel_rfl) (by kernel_rfl) (fun _ _ _ h => h) (by kernel_rfl) (fun w _ => by rfl) (by assumption) ?_
    simp only [Act.put, List.setIfInBounds_toArray, List.set_cons_zero, List.set_cons_succ]
    refine take_no (i := 12) (some 36) rfl (by kernel_rfl) (by kernel_rfl) (by kernel_rfl) (by kernel_rfl) (fun _ _ _ h => h) (by kernel_rfl) (by assumption) ?_
    simp only [Act.put, List.setIfInBounds_toArray, List.set_cons_zero, List.set_cons_succ]
    refine take_no (i := 13) (some 37) rfl (by kernel_rfl) (by kernel_rfl) (by kernel_rfl) (by kernel_rfl) (fun _ _ _ h => h) (by kernel_rfl) (by assumption) ?_
    simp only [Act.put, List.setIfInBounds_toArray, List.set_cons_zero, List.set_cons_succ]
    refine take_no (i := 14) (some 38) rfl (by kernel_rfl) (by kernel_rfl) (by kernel_rfl) (by kernel_rfl) (fun _ _ _ h => h) (by kernel_rfl) (by assumption) ?_
    simp only [Act.put, List.setIfInBounds_toArray, List.set_cons_zero, List.set_cons_succ]
    refine take_yes (i := 15) (some 39) (.bool true) rfl (by kernel_rfl) (by kernel_rfl) (by kernel_rfl) (by kernel_rfl) (fun _ _ _ h => h) (by kernel_rfl) (fun w _ => by rfl) (by assumption) ?_
    simp only [Act.put, List.setIfInBounds_toArray, List.set_cons_zero, List.set_cons_succ]
    refine take_yes (i := 16) (some 40) (.bool true) rfl (by kernel_rfl) (by kernel_rfl) (by kernel_rfl) (by kernel_rfl) (fun _ _ _ h => h) (by kernel_rfl) (fun w _ => by rfl) (by assumption) ?_
    simp only [Act.put, List.setIfInBounds_toArray, List.set_cons_zero, List.set_cons_succ]
    refine take_no (i := 17) (some 41) rfl (by kernel_rfl) (by kernel_rfl) (by kernel_rfl) (by kernel_rfl) (fun _ _ _ h => h) (by kernel_rfl) (by assumption) ?_
    simp only [Act.put, List.setIfInBounds_toArray, List.set_cons_zero, List.set_cons_succ]
    refine take_no (i := 18) (some 42) rfl (by kernel_rfl) (by kernel_rfl) (by kernel_rfl) (by kernel_rfl) (fun _ _ _ h => h) (by kernel_rfl) (by assumption) ?_
    simp only [Act.put, List.setIfInBounds_toArray, List.set_cons_zero, List.set_cons_succ]
    refine take_no (i := 19) (some 43) rfl (by kernel_rfl) (by kernel_rfl) (by kernel_rfl) (by kernel_rfl) (fun _ _ _ h => h) (by kernel_rfl) (by assumption) ?_
    simp only [Act.put, List.setIfInBounds_toArray, List.set_cons_zero, List.set_cons_succ]
    refine take_no (i := 20) (some 44) rfl (by kernel_rfl) (by kernel_rfl) (by kernel_rfl) (by kernel_rfl) (fun _ _ _ h => h) (by kernel_rfl) (by assumption) ?_
    simp only [Act.put, List.setIfInBounds_toArray, List.set_cons_zero, List.set_cons_succ]
    refine take_no (i := 21) (some 45) rfl (by kernel_rfl) (by kernel_rfl) (by kernel_rfl) (by kernel_rfl) (fun _ _ _ h => h) (by kernel_rfl) (by assumption) ?_
    simp only [Act.put, List.setIfInBounds_toArray, List.set_cons_zero, List.set_cons_succ]
    refine take_no (i := 22) (some 46) rfl (by kernel_rfl) (by kernel_rfl) (by kernel_rfl) (by kernel_rfl) (fun _ _ _ h => h) (by kernel_rfl) (by assumption) ?_
    simp only [Act.put, List.setIfInBounds_toArray, List.set_cons_zero, List.set_cons_succ]
    refine take_no (i := 23) (some 47) rfl (by kernel_rfl) (by kernel_rfl) (by kernel_rfl) (by kernel_rfl) (fun _ _ _ h => h) (by kernel_rfl) (by assumption) ?_
    simp only [Act.put, List.setIfInBounds_toArray, List.set_cons_zero, List.set_cons_succ]
    refine take_no (i := 24) (some 48) rfl (by kernel_rfl) (by kernel_rfl) (by kernel_rfl) (by kernel_rfl) (fun _ _ _ h => h) (by kernel_rfl) (by assumption) ?_
    simp only [Act.put, List.setIfInBounds_toArray, List.set_cons_zero, List.set_cons_succ]
    refine take_no (i := 25) (some 49) rfl (by kernel_rfl) (by kernel_rfl) (by kernel_rfl) (by kernel_rfl) (fun _ _ _ h => h) (by kernel_rfl) (by assumption) ?_
    simp only [Act.put, List.setIfInBounds_toArray, List.set_cons_zero, List.set_cons_succ]
    refine take_yes (i := 26) (some 50) (.bool true) rfl (by kernel_rfl) (by kernel_rfl) (by kernel_rfl) (by kernel_rfl) (fun _ _ _ h => h) (by kernel_rfl) (fun w _ => by rfl) (by assumption) ?_
    simp only [Act.put, List.setIfInBounds_toArray, List.set_cons_zero, List.set_cons_succ]
    refine take_yes (i := 27) (some 51) (.bool true) rfl (by kernel_rfl) (by kernel_rfl) (by kernel_rfl) (by kernel_rfl) (fun _ _ _ h => h) (by kernel_rfl) (fun w _ => by rfl) (by assumption) ?_
    simp only [Act.put, List.setIfInBounds_toArray, List.set_cons_zero, List.set_cons_succ]
    refine take_no (i := 28) (some 52) rfl (by kernel_rfl) (by kernel_rfl) (by kernel_rfl) (by kernel_rfl) (fun _ _ _ h => h) (by kernel_rfl) (by assumption) ?_
    simp only [Act.put, List.setIfInBounds_toArray, List.set_cons_zero, List.set_cons_succ]
    refine take_no (i := 29) (some 53) rfl (by kernel_rfl) (by kernel_rfl) (by kernel_rfl) (by kernel_rfl) (fun _ _ _ h => h) (by kernel_rfl) (by assumption) ?_
    simp only [Act.put, List.setIfInBounds_toArray, List.set_cons_zero, List.set_cons_succ]
    refine take_no (i := 30) (some 54) rfl (by kernel_rfl) (by kernel_rfl) (by kernel_rfl) (by kernel_rfl) (fun _ _ _ h => h) (by kernel_rfl) (by assumption) ?_
    simp only [Act.put, List.setIfInBounds_toArray, List.set_cons_zero, List.set_cons_succ]
    refine take_no (i := 31) (some 55) rfl (by kernel_rfl) (by kernel_rfl) (by kernel_rfl) (by kernel_rfl) (fun _ _ _ h => h) (by kernel_rfl) (by assumption) ?_
    simp only [Act.put, List.setIfInBounds_toArray, List.set_cons_zero, List.set_cons_succ]
    refine take_no (i := 32) (some 56) rfl (by kernel_rfl) (by kernel_rfl) (by kernel_rfl) (by kernel_rfl) (fun _ _ _ h => h) (by kernel_rfl) (by assumption) ?_
    simp only [Act.put, List.setIfInBounds_toArray, List.set_cons_zero, List.set_cons_succ]
    refine take_yes (i := 33) (some 57) (.bool true) rfl (by kernel_rfl) (by kernel_rfl) (by kernel_rfl) (by kernel_rfl) (fun _ _ _ h => h) (by kernel_rfl) (fun w _ => by rfl) (by assumption) ?_
    simp only [Act.put, List.setIfInBounds_toArray, List.set_cons_zero, List.set_cons_succ]
    refine wpAnyH_done (by kernel_rfl) ?_ _
    clear hHeld
    clear s0 z0 s1 z1 s2 z2 s3 z3 s4 z4 s5 z5 s6 z6 s7 z7
    go_wp2_with fail
    go_ret2
    exact ⟨mix_off HV.out (by decide), HBB.out⟩
  | true =>
  rw [hk1] at HKR
  cases hsp : sameP rows rows2 owners owners2 with
  | false =>
    have HV : Hid (mixE rows owners ep cs rows2 owners2 ep2 cs2 a b = 380) := Lib.hid (HE.out.trans (if_pos (by
      by_cases h1 : owners = owners2
      · by_cases h2 : rows = rows2
        · subst h1 h2
          exfalso
          have : sameP rows rows owners owners = true := by simp [sameP, sameQ]
          rw [this] at hsp
          cases hsp
        · exact .inr h2
      · exact .inl h1)))
    rw [hsp] at HSP
    clear hk1 hsp
    refine wp_region_held_drew (S := (fun w' => w'.cell? ⟨w.heap.size, 0, none⟩ = some (.int .i64 ep) ∧ w'.cell? ⟨w.heap.size, 1, none⟩ = some (.slice a1 rows.length k1) ∧ w'.cell? ⟨w.heap.size, 2, none⟩ = some (.slice a2 owners.length k2) ∧ w'.cell? ⟨w.heap.size, 3, none⟩ = some (.slice a3 cs.length k3) ∧ w'.cell? ⟨w.heap.size + 1, 0, none⟩ = some (.int .i64 ep2) ∧ w'.cell? ⟨w.heap.size + 1, 1, none⟩ = some (.slice a4 rows2.length k4) ∧ w'.cell? ⟨w.heap.size + 1, 2, none⟩ = some (.slice a5 owners2.length k5) ∧ w'.cell? ⟨w.heap.size + 1, 3, none⟩ = some (.slice a6 cs2.length k6))) (by kernel_rfl) (by (try dsimp only); (first | exact ⟨z0, z1, z2, z3, z4, z5, z6, z7⟩ | exact ⟨s0, s1, s2, s3, s4, s5, s6, s7⟩ | go_keep)) (fun hHeld => ?_)
    refine take_yes (i := 0) (some 24) ?_ rfl (by kernel_rfl) (by kernel_rfl) (by kernel_rfl) (by kernel_rfl) (fun _ _ _ h => h) (by kernel_rfl) ?_ (by assumption) ?_
    rotate_left
    · (intro w hSw; (try dsimp only at hSw); go_simp; (try with_reducible rfl))
    simp only [Act.put, List.setIfInBounds_toArray, List.set_cons_zero, List.set_cons_succ]
    refine wpAnyH_ready (rs := [1]) (by kernel_rfl) (by simp) ?_
    refine AllReadyH.cons rfl (fun K hK => ?_) AllReadyH.nil
    rw [if_pos (by rfl)]
    go_simp
    (go_at_call 33; (with_reducible refine (HKR.out _ HR.out HO.out HC.out).mono ?_); rintro e w6 ⟨rfl, hb6⟩; have z0 := below_cell hb6 s0; have z1 := below_cell hb6 s1; have z2 := below_cell hb6 s2; have z3 := below_cell hb6 s3; have z4 := below_cell hb6 s4; have z5 := below_cell hb6 s5; have z6 := below_cell hb6 s6; have z7 := below_cell hb6 s7; replace HR := Lib.hid (HR.out.below hb6); replace HO := Lib.hid (HO.out.below hb6); replace HC := Lib.hid (HC.out.below hb6); replace HR2 := Lib.hid (HR2.out.below hb6); replace HO2 := Lib.hid (HO2.out.below hb6); replace HC2 := Lib.hid (HC2.out.below hb6); replace HA := Lib.hid (HA.out.below hb6); replace HB := Lib.hid (HB.out.below hb6); replace Q1 := Lib.hid ((hb6.block _ (row_lt Q1.out)).trans Q1.out); replace Q2 := Lib.hid ((hb6.block _ (row_lt Q2.out)).trans Q2.out); replace HBB := Lib.hid (HBB.out.trans (hb6.mono HBB.out.size)); clear hb6)
    refine hK.out _ _ (by (try dsimp only); (first | exact ⟨z0, z1, z2, z3, z4, z5, z6, z7⟩ | exact ⟨s0, s1, s2, s3, s4, s5, s6, s7⟩ | go_keep)) (fun hHeld => ?_)
    clear hK K
    try simp only [Act.put, List.setIfInBounds_toArray, List.set_cons_zero, List.set_cons_succ]
    refine take_yes (i := 2) (some 26) (.bool false) rfl (by kernel_rfl) (by kernel_rfl) (by kernel_rfl) (by kernel_rfl) (fun _ _ _ h => h) (by kernel_rfl) (fun w _ => by rfl) (by assumption) ?_
    simp only [Act.put, List.setIfInBounds_toArray, List.set_cons_zero, List.set_cons_succ]
    refine take_yes (i := 3) (some 27) (.bool false) rfl (by kernel_rfl) (by kernel_rfl) (by kernel_rfl) (by kernel_rfl) (fun _ _ _ h => h) (by kernel_rfl) (fun w _ => by rfl) (by assumption) ?_
    simp only [Act.put, List.setIfInBounds_toArray, List.set_cons_zero, List.set_cons_succ]
    refine take_yes (i := 4) (some 28) ?_ rfl (by kernel_rfl) (by kernel_rfl) (by kernel_rfl) (by kernel_rfl) (fun _ _ _ h => h) (by kernel_rfl) ?_ (by assumption) ?_
    rotate_left
    · (intro w hSw; (try dsimp only at hSw); go_simp; (try with_reducible rfl))
    simp only [Act.put, List.setIfInBounds_toArray, List.set_cons_zero, List.set_cons_succ]
    refine take_yes (i := 5) (some 29) ?_ rfl (by kernel_rfl) (by kernel_rfl) (by kernel_rfl) (by kernel_rfl) (fun _ _ _ h => h) (by kernel_rfl) ?_ (by assumption) ?_
    rotate_left
    · (intro w hSw; (try dsimp only at hSw); go_simp; (try with_reducible rfl))
    simp only [Act.put, List.setIfInBounds_toArray, List.set_cons_zero, List.set_cons_succ]
    refine take_yes (i := 6) (some 30) ?_ rfl (by kernel_rfl) (by kernel_rfl) (by kernel_rfl) (by kernel_rfl) (fun _ _ _ h => h) (by kernel_rfl) ?_ (by assumption) ?_
    rotate_left
    · (intro w hSw; (try dsimp only at hSw); go_simp; (try with_reducible rfl))
    simp only [Act.put, List.setIfInBounds_toArray, List.set_cons_zero, List.set_cons_succ]
    refine take_yes (i := 7) (some 31) ?_ rfl (by kernel_rfl) (by kernel_rfl) (by kernel_rfl) (by kernel_rfl) (fun _ _ _ h => h) (by kernel_rfl) ?_ (by assumption) ?_
    rotate_left
    · (intro w hSw; (try dsimp only at hSw); go_simp; (try with_reducible rfl))
    simp only [Act.put, List.setIfInBounds_toArray, List.set_cons_zero, List.set_cons_succ]
    refine wpAnyH_ready (rs := [8]) (by kernel_rfl) (by simp) ?_
    refine AllReadyH.cons rfl (fun K hK => ?_) AllReadyH.nil
    rw [if_pos (by rfl)]
    go_simp
    (go_at_call 38; (with_reducible refine (HSP.out _ HR.out HO.out HR2.out HO2.out).mono ?_); rintro e w7 ⟨rfl, hb7⟩; replace z0 := below_cell hb7 z0; replace z1 := below_cell hb7 z1; replace z2 := below_cell hb7 z2; replace z3 := below_cell hb7 z3; replace z4 := below_cell hb7 z4; replace z5 := below_cell hb7 z5; replace z6 := below_cell hb7 z6; replace z7 := below_cell hb7 z7; replace HR := Lib.hid (HR.out.below hb7); replace HO := Lib.hid (HO.out.below hb7); replace HC := Lib.hid (HC.out.below hb7); replace HR2 := Lib.hid (HR2.out.below hb7); replace HO2 := Lib.hid (HO2.out.below hb7); replace HC2 := Lib.hid (HC2.out.below hb7); replace HA := Lib.hid (HA.out.below hb7); replace HB := Lib.hid (HB.out.below hb7); replace Q1 := Lib.hid ((hb7.block _ (row_lt Q1.out)).trans Q1.out); replace Q2 := Lib.hid ((hb7.block _ (row_lt Q2.out)).trans Q2.out); replace HBB := Lib.hid (HBB.out.trans (hb7.mono HBB.out.size)); clear hb7)
    refine hK.out _ _ (by (try dsimp only); (first | exact ⟨z0, z1, z2, z3, z4, z5, z6, z7⟩ | exact ⟨s0, s1, s2, s3, s4, s5, s6, s7⟩ | go_keep)) (fun hHeld => ?_)
    clear hK K
    try simp only [Act.put, List.setIfInBounds_toArray, List.set_cons_zero, List.set_cons_succ]
    refine take_yes (i := 9) (some 33) (.bool true) rfl (by kernel_rfl) (by kernel_rfl) (by kernel_rfl) (by kernel_rfl) (fun _ _ _ h => h) (by kernel_rfl) (fun w _ => by rfl) (by assumption) ?_
    simp only [Act.put, List.setIfInBounds_toArray, List.set_cons_zero, List.set_cons_succ]
    refine take_yes (i := 10) (some 34) (.bool true) rfl (by kernel_rfl) (by kernel_rfl) (by kernel_rfl) (by kernel_rfl) (fun _ _ _ h => h) (by kernel_rfl) (fun w _ => by rfl) (by assumption) ?_
    simp only [Act.put, List.setIfInBounds_toArray, List.set_cons_zero, List.set_cons_succ]
    refine take_yes (i := 11) (some 35) (.bool true) rfl (by kernel_rfl) (by kernel_rfl) (by kernel_rfl) (by kernel_rfl) (fun _ _ _ h => h) (by kernel_rfl) (fun w _ => by rfl) (by assumption) ?_
    simp only [Act.put, List.setIfInBounds_toArray, List.set_cons_zero, List.set_cons_succ]
    refine take_no (i := 12) (some 36) rfl (by kernel_rfl) (by kernel_rfl) (by kernel_rfl) (by kernel_rfl) (fun _ _ _ h => h) (by kernel_rfl) (by assumption) ?_
    simp only [Act.put, List.setIfInBounds_toArray, List.set_cons_zero, List.set_cons_succ]
    refine take_no (i := 13) (some 37) rfl (by kernel_rfl) (by kernel_rfl) (by kernel_rfl) (by kernel_rfl) (fun _ _ _ h => h) (by kernel_rfl) (by assumption) ?_
    simp only [Act.put, List.setIfInBounds_toArray, List.set_cons_zero, List.set_cons_succ]
    refine take_no (i := 14) (some 38) rfl (by kernel_rfl) (by kernel_rfl) (by kernel_rfl) (by kernel_rfl) (fun _ _ _ h => h) (by kernel_rfl) (by assumption) ?_
    simp only [Act.put, List.setIfInBounds_toArray, List.set_cons_zero, List.set_cons_succ]
    refine take_yes (i := 15) (some 39) (.bool true) rfl (by kernel_rfl) (by kernel_rfl) (by kernel_rfl) (by kernel_rfl) (fun _ _ _ h => h) (by kernel_rfl) (fun w _ => by rfl) (by assumption) ?_
    simp only [Act.put, List.setIfInBounds_toArray, List.set_cons_zero, List.set_cons_succ]
    refine take_yes (i := 16) (some 40) (.bool true) rfl (by kernel_rfl) (by kernel_rfl) (by kernel_rfl) (by kernel_rfl) (fun _ _ _ h => h) (by kernel_rfl) (fun w _ => by rfl) (by assumption) ?_
    simp only [Act.put, List.setIfInBounds_toArray, List.set_cons_zero, List.set_cons_succ]
    refine take_no (i := 17) (some 41) rfl (by kernel_rfl) (by kernel_rfl) (by kernel_rfl) (by kernel_rfl) (fun _ _ _ h => h) (by kernel_rfl) (by assumption) ?_
    simp only [Act.put, List.setIfInBounds_toArray, List.set_cons_zero, List.set_cons_succ]
    refine take_no (i := 18) (some 42) rfl (by kernel_rfl) (by kernel_rfl) (by kernel_rfl) (by kernel_rfl) (fun _ _ _ h => h) (by kernel_rfl) (by assumption) ?_
    simp only [Act.put, List.setIfInBounds_toArray, List.set_cons_zero, List.set_cons_succ]
    refine take_no (i := 19) (some 43) rfl (by kernel_rfl) (by kernel_rfl) (by kernel_rfl) (by kernel_rfl) (fun _ _ _ h => h) (by kernel_rfl) (by assumption) ?_
    simp only [Act.put, List.setIfInBounds_toArray, List.set_cons_zero, List.set_cons_succ]
    refine take_no (i := 20) (some 44) rfl (by kernel_rfl) (by kernel_rfl) (by kernel_rfl) (by kernel_rfl) (fun _ _ _ h => h) (by kernel_rfl) (by assumption) ?_
    simp only [Act.put, List.setIfInBounds_toArray, List.set_cons_zero, List.set_cons_succ]
    refine take_no (i := 21) (some 45) rfl (by kernel_rfl) (by kernel_rfl) (by kernel_rfl) (by kernel_rfl) (fun _ _ _ h => h) (by kernel_rfl) (by assumption) ?_
    simp only [Act.put, List.setIfInBounds_toArray, List.set_cons_zero, List.set_cons_succ]
    refine take_no (i := 22) (some 46) rfl (by kernel_rfl) (by kernel_rfl) (by kernel_rfl) (by kernel_rfl) (fun _ _ _ h => h) (by kernel_rfl) (by assumption) ?_
    simp only [Act.put, List.setIfInBounds_toArray, List.set_cons_zero, List.set_cons_succ]
    refine take_no (i := 23) (some 47) rfl (by kernel_rfl) (by kernel_rfl) (by kernel_rfl) (by kernel_rfl) (fun _ _ _ h => h) (by kernel_rfl) (by assumption) ?_
    simp only [Act.put, List.setIfInBounds_toArray, List.set_cons_zero, List.set_cons_succ]
    refine take_no (i := 24) (some 48) rfl (by kernel_rfl) (by kernel_rfl) (by kernel_rfl) (by kernel_rfl) (fun _ _ _ h => h) (by kernel_rfl) (by assumption) ?_
    simp only [Act.put, List.setIfInBounds_toArray, List.set_cons_zero, List.set_cons_succ]
    refine take_no (i := 25) (some 49) rfl (by kernel_rfl) (by kernel_rfl) (by kernel_rfl) (by kernel_rfl) (fun _ _ _ h => h) (by kernel_rfl) (by assumption) ?_
    simp only [Act.put, List.setIfInBounds_toArray, List.set_cons_zero, List.set_cons_succ]
    refine take_yes (i := 26) (some 50) (.bool true) rfl (by kernel_rfl) (by kernel_rfl) (by kernel_rfl) (by kernel_rfl) (fun _ _ _ h => h) (by kernel_rfl) (fun w _ => by rfl) (by assumption) ?_
    simp only [Act.put, List.setIfInBounds_toArray, List.set_cons_zero, List.set_cons_succ]
    refine take_yes (i := 27) (some 51) (.bool true) rfl (by kernel_rfl) (by kernel_rfl) (by kernel_rfl) (by kernel_rfl) (fun _ _ _ h => h) (by kernel_rfl) (fun w _ => by rfl) (by assumption) ?_
    simp only [Act.put, List.setIfInBounds_toArray, List.set_cons_zero, List.set_cons_succ]
    refine take_no (i := 28) (some 52) rfl (by kernel_rfl) (by kernel_rfl) (by kernel_rfl) (by kernel_rfl) (fun _ _ _ h => h) (by kernel_rfl) (by assumption) ?_
    simp only [Act.put, List.setIfInBounds_toArray, List.set_cons_zero, List.set_cons_succ]
    refine take_no (i := 29) (some 53) rfl (by kernel_rfl) (by kernel_rfl) (by kernel_rfl) (by kernel_rfl) (fun _ _ _ h => h) (by kernel_rfl) (by assumption) ?_
    simp only [Act.put, List.setIfInBounds_toArray, List.set_cons_zero, List.set_cons_succ]
    refine take_no (i := 30) (some 54) rfl (by kernel_rfl) (by kernel_rfl) (by kernel_rfl) (by kernel_rfl) (fun _ _ _ h => h) (by kernel_rfl) (by assumption) ?_
    simp only [Act.put, List.setIfInBounds_toArray, List.set_cons_zero, List.set_cons_succ]
    refine take_no (i := 31) (some 55) rfl (by kernel_rfl) (by kernel_rfl) (by kernel_rfl) (by kernel_rfl) (fun _ _ _ h => h) (by kernel_rfl) (by assumption) ?_
    simp only [Act.put, List.setIfInBounds_toArray, List.set_cons_zero, List.set_cons_succ]
    refine take_no (i := 32) (some 56) rfl (by kernel_rfl) (by kernel_rfl) (by kernel_rfl) (by kernel_rfl) (fun _ _ _ h => h) (by kernel_rfl) (by assumption) ?_
    simp only [Act.put, List.setIfInBounds_toArray, List.set_cons_zero, List.set_cons_succ]
    refine take_yes (i := 33) (some 57) (.bool true) rfl (by kernel_rfl) (by kernel_rfl) (by kernel_rfl) (by kernel_rfl) (fun _ _ _ h => h) (by kernel_rfl) (fun w _ => by rfl) (by assumption) ?_
    simp only [Act.put, List.setIfInBounds_toArray, List.set_cons_zero, List.set_cons_succ]
    refine wpAnyH_done (by kernel_rfl) ?_ _
    clear hHeld
    clear s0 z0 s1 z1 s2 z2 s3 z3 s4 z4 s5 z5 s6 z6 s7 z7
    go_wp2_with fail
    go_ret2
    exact ⟨mix_off HV.out (by decide), HBB.out⟩
  | true =>
  rw [hsp] at HSP
  obtain ⟨rfl, rfl⟩ := sameP_eq hsp
  replace HE := Lib.hid (HE.out.trans (if_neg (by simp)))
  have HKX := Lib.hid (fun ww h1 h2 h3 => rkey_any ep2 (.slice a4 rows.length k4) (.slice a5 owners.length k5) (.slice a6 cs2.length k6) rows owners cs2 ww h1 h2 h3 hcq)
  clear hsp
  cases hk2 : keyB rows ep2 cs2 with
  | false =>
    have HV : Hid (mixE rows owners ep cs rows owners ep2 cs2 a b = 380) := Lib.hid (HE.out.trans (if_pos (.inr hk2)))
    rw [hk2] at HKX
    clear hk1 hk2
    refine wp_region_held_drew (S := (fun w' => w'.cell? ⟨w.heap.size, 0, none⟩ = some (.int .i64 ep) ∧ w'.cell? ⟨w.heap.size, 1, none⟩ = some (.slice a1 rows.length k1) ∧ w'.cell? ⟨w.heap.size, 2, none⟩ = some (.slice a2 owners.length k2) ∧ w'.cell? ⟨w.heap.size, 3, none⟩ = some (.slice a3 cs.length k3) ∧ w'.cell? ⟨w.heap.size + 1, 0, none⟩ = some (.int .i64 ep2) ∧ w'.cell? ⟨w.heap.size + 1, 1, none⟩ = some (.slice a4 rows.length k4) ∧ w'.cell? ⟨w.heap.size + 1, 2, none⟩ = some (.slice a5 owners.length k5) ∧ w'.cell? ⟨w.heap.size + 1, 3, none⟩ = some (.slice a6 cs2.length k6))) (by kernel_rfl) (by (try dsimp only); (first | exact ⟨z0, z1, z2, z3, z4, z5, z6, z7⟩ | exact ⟨s0, s1, s2, s3, s4, s5, s6, s7⟩ | go_keep)) (fun hHeld => ?_)
    refine take_yes (i := 0) (some 24) ?_ rfl (by kernel_rfl) (by kernel_rfl) (by kernel_rfl) (by kernel_rfl) (fun _ _ _ h => h) (by kernel_rfl) ?_ (by assumption) ?_
    rotate_left
    · (intro w hSw; (try dsimp only at hSw); go_simp; (try with_reducible rfl))
    simp only [Act.put, List.setIfInBounds_toArray, List.set_cons_zero, List.set_cons_succ]
    refine wpAnyH_ready (rs := [1]) (by kernel_rfl) (by simp) ?_
    refine AllReadyH.cons rfl (fun K hK => ?_) AllReadyH.nil
    rw [if_pos (by rfl)]
    go_simp
    (go_at_call 33; (with_reducible refine (HKR.out _ HR.out HO.out HC.out).mono ?_); rintro e w6 ⟨rfl, hb6⟩; have z0 := below_cell hb6 s0; have z1 := below_cell hb6 s1; have z2 := below_cell hb6 s2; have z3 := below_cell hb6 s3; have z4 := below_cell hb6 s4; have z5 := below_cell hb6 s5; have z6 := below_cell hb6 s6; have z7 := below_cell hb6 s7; replace HR := Lib.hid (HR.out.below hb6); replace HO := Lib.hid (HO.out.below hb6); replace HC := Lib.hid (HC.out.below hb6); replace HR2 := Lib.hid (HR2.out.below hb6); replace HO2 := Lib.hid (HO2.out.below hb6); replace HC2 := Lib.hid (HC2.out.below hb6); replace HA := Lib.hid (HA.out.below hb6); replace HB := Lib.hid (HB.out.below hb6); replace Q1 := Lib.hid ((hb6.block _ (row_lt Q1.out)).trans Q1.out); replace Q2 := Lib.hid ((hb6.block _ (row_lt Q2.out)).trans Q2.out); replace HBB := Lib.hid (HBB.out.trans (hb6.mono HBB.out.size)); clear hb6)
    refine hK.out _ _ (by (try dsimp only); (first | exact ⟨z0, z1, z2, z3, z4, z5, z6, z7⟩ | exact ⟨s0, s1, s2, s3, s4, s5, s6, s7⟩ | go_keep)) (fun hHeld => ?_)
    clear hK K
    try simp only [Act.put, List.setIfInBounds_toArray, List.set_cons_zero, List.set_cons_succ]
    refine take_yes (i := 2) (some 26) (.bool false) rfl (by kernel_rfl) (by kernel_rfl) (by kernel_rfl) (by kernel_rfl) (fun _ _ _ h => h) (by kernel_rfl) (fun w _ => by rfl) (by assumption) ?_
    simp only [Act.put, List.setIfInBounds_toArray, List.set_cons_zero, List.set_cons_succ]
    refine take_yes (i := 3) (some 27) (.bool false) rfl (by kernel_rfl) (by kernel_rfl) (by kernel_rfl) (by kernel_rfl) (fun _ _ _ h => h) (by kernel_rfl) (fun w _ => by rfl) (by assumption) ?_
    simp only [Act.put, List.setIfInBounds_toArray, List.set_cons_zero, List.set_cons_succ]
    refine take_yes (i := 4) (some 28) ?_ rfl (by kernel_rfl) (by kernel_rfl) (by kernel_rfl) (by kernel_rfl) (fun _ _ _ h => h) (by kernel_rfl) ?_ (by assumption) ?_
    rotate_left
    · (intro w hSw; (try dsimp only at hSw); go_simp; (try with_reducible rfl))
    simp only [Act.put, List.setIfInBounds_toArray, List.set_cons_zero, List.set_cons_succ]
    refine take_yes (i := 5) (some 29) ?_ rfl (by kernel_rfl) (by kernel_rfl) (by kernel_rfl) (by kernel_rfl) (fun _ _ _ h => h) (by kernel_rfl) ?_ (by assumption) ?_
    rotate_left
    · (intro w hSw; (try dsimp only at hSw); go_simp; (try with_reducible rfl))
    simp only [Act.put, List.setIfInBounds_toArray, List.set_cons_zero, List.set_cons_succ]
    refine take_yes (i := 6) (some 30) ?_ rfl (by kernel_rfl) (by kernel_rfl) (by kernel_rfl) (by kernel_rfl) (fun _ _ _ h => h) (by kernel_rfl) ?_ (by assumption) ?_
    rotate_left
    · (intro w hSw; (try dsimp only at hSw); go_simp; (try with_reducible rfl))
    simp only [Act.put, List.setIfInBounds_toArray, List.set_cons_zero, List.set_cons_succ]
    refine take_yes (i := 7) (some 31) ?_ rfl (by kernel_rfl) (by kernel_rfl) (by kernel_rfl) (by kernel_rfl) (fun _ _ _ h => h) (by kernel_rfl) ?_ (by assumption) ?_
    rotate_left
    · (intro w hSw; (try dsimp only at hSw); go_simp; (try with_reducible rfl))
    simp only [Act.put, List.setIfInBounds_toArray, List.set_cons_zero, List.set_cons_succ]
    refine wpAnyH_ready (rs := [8]) (by kernel_rfl) (by simp) ?_
    refine AllReadyH.cons rfl (fun K hK => ?_) AllReadyH.nil
    rw [if_pos (by rfl)]
    go_simp
    (go_at_call 38; (with_reducible refine (HSP.out _ HR.out HO.out HR2.out HO2.out).mono ?_); rintro e w7 ⟨rfl, hb7⟩; replace z0 := below_cell hb7 z0; replace z1 := below_cell hb7 z1; replace z2 := below_cell hb7 z2; replace z3 := below_cell hb7 z3; replace z4 := below_cell hb7 z4; replace z5 := below_cell hb7 z5; replace z6 := below_cell hb7 z6; replace z7 := below_cell hb7 z7; replace HR := Lib.hid (HR.out.below hb7); replace HO := Lib.hid (HO.out.below hb7); replace HC := Lib.hid (HC.out.below hb7); replace HR2 := Lib.hid (HR2.out.below hb7); replace HO2 := Lib.hid (HO2.out.below hb7); replace HC2 := Lib.hid (HC2.out.below hb7); replace HA := Lib.hid (HA.out.below hb7); replace HB := Lib.hid (HB.out.below hb7); replace Q1 := Lib.hid ((hb7.block _ (row_lt Q1.out)).trans Q1.out); replace Q2 := Lib.hid ((hb7.block _ (row_lt Q2.out)).trans Q2.out); replace HBB := Lib.hid (HBB.out.trans (hb7.mono HBB.out.size)); clear hb7)
    refine hK.out _ _ (by (try dsimp only); (first | exact ⟨z0, z1, z2, z3, z4, z5, z6, z7⟩ | exact ⟨s0, s1, s2, s3, s4, s5, s6, s7⟩ | go_keep)) (fun hHeld => ?_)
    clear hK K
    try simp only [Act.put, List.setIfInBounds_toArray, List.set_cons_zero, List.set_cons_succ]
    refine take_yes (i := 9) (some 33) (.bool false) rfl (by kernel_rfl) (by kernel_rfl) (by kernel_rfl) (by kernel_rfl) (fun _ _ _ h => h) (by kernel_rfl) (fun w _ => by rfl) (by assumption) ?_
    simp only [Act.put, List.setIfInBounds_toArray, List.set_cons_zero, List.set_cons_succ]
    refine take_yes (i := 10) (some 34) (.bool false) rfl (by kernel_rfl) (by kernel_rfl) (by kernel_rfl) (by kernel_rfl) (fun _ _ _ h => h) (by kernel_rfl) (fun w _ => by rfl) (by assumption) ?_
    simp only [Act.put, List.setIfInBounds_toArray, List.set_cons_zero, List.set_cons_succ]
    refine take_yes (i := 11) (some 35) (.bool false) rfl (by kernel_rfl) (by kernel_rfl) (by kernel_rfl) (by kernel_rfl) (fun _ _ _ h => h) (by kernel_rfl) (fun w _ => by rfl) (by assumption) ?_
    simp only [Act.put, List.setIfInBounds_toArray, List.set_cons_zero, List.set_cons_succ]
    refine take_yes (i := 12) (some 36) ?_ rfl (by kernel_rfl) (by kernel_rfl) (by kernel_rfl) (by kernel_rfl) (fun _ _ _ h => h) (by kernel_rfl) ?_ (by assumption) ?_
    rotate_left
    · (intro w hSw; (try dsimp only at hSw); go_simp; (try with_reducible rfl))
    simp only [Act.put, List.setIfInBounds_toArray, List.set_cons_zero, List.set_cons_succ]
    refine wpAnyH_ready (rs := [13]) (by kernel_rfl) (by simp) ?_
    refine AllReadyH.cons rfl (fun K hK => ?_) AllReadyH.nil
    rw [if_pos (by rfl)]
    go_simp
    (go_at_call 33; (with_reducible refine (HKX.out _ HR2.out HO2.out HC2.out).mono ?_); rintro e w8 ⟨rfl, hb8⟩; replace z0 := below_cell hb8 z0; replace z1 := below_cell hb8 z1; replace z2 := below_cell hb8 z2; replace z3 := below_cell hb8 z3; replace z4 := below_cell hb8 z4; replace z5 := below_cell hb8 z5; replace z6 := below_cell hb8 z6; replace z7 := below_cell hb8 z7; replace HR := Lib.hid (HR.out.below hb8); replace HO := Lib.hid (HO.out.below hb8); replace HC := Lib.hid (HC.out.below hb8); replace HR2 := Lib.hid (HR2.out.below hb8); replace HO2 := Lib.hid (HO2.out.below hb8); replace HC2 := Lib.hid (HC2.out.below hb8); replace HA := Lib.hid (HA.out.below hb8); replace HB := Lib.hid (HB.out.below hb8); replace Q1 := Lib.hid ((hb8.block _ (row_lt Q1.out)).trans Q1.out); replace Q2 := Lib.hid ((hb8.block _ (row_lt Q2.out)).trans Q2.out); replace HBB := Lib.hid (HBB.out.trans (hb8.mono HBB.out.size)); clear hb8)
    refine hK.out _ _ (by (try dsimp only); (first | exact ⟨z0, z1, z2, z3, z4, z5, z6, z7⟩ | exact ⟨s0, s1, s2, s3, s4, s5, s6, s7⟩ | go_keep)) (fun hHeld => ?_)
    clear hK K
    try simp only [Act.put, List.setIfInBounds_toArray, List.set_cons_zero, List.set_cons_succ]
    refine take_yes (i := 14) (some 38) (.bool true) rfl (by kernel_rfl) (by kernel_rfl) (by kernel_rfl) (by kernel_rfl) (fun _ _ _ h => h) (by kernel_rfl) (fun w _ => by rfl) (by assumption) ?_
    simp only [Act.put, List.setIfInBounds_toArray, List.set_cons_zero, List.set_cons_succ]
    refine take_yes (i := 15) (some 39) (.bool true) rfl (by kernel_rfl) (by kernel_rfl) (by kernel_rfl) (by kernel_rfl) (fun _ _ _ h => h) (by kernel_rfl) (fun w _ => by rfl) (by assumption) ?_
    simp only [Act.put, List.setIfInBounds_toArray, List.set_cons_zero, List.set_cons_succ]
    refine take_yes (i := 16) (some 40) (.bool true) rfl (by kernel_rfl) (by kernel_rfl) (by kernel_rfl) (by kernel_rfl) (fun _ _ _ h => h) (by kernel_rfl) (fun w _ => by rfl) (by assumption) ?_
    simp only [Act.put, List.setIfInBounds_toArray, List.set_cons_zero, List.set_cons_succ]
    refine take_no (i := 17) (some 41) rfl (by kernel_rfl) (by kernel_rfl) (by kernel_rfl) (by kernel_rfl) (fun _ _ _ h => h) (by kernel_rfl) (by assumption) ?_
    simp only [Act.put, List.setIfInBounds_toArray, List.set_cons_zero, List.set_cons_succ]
    refine take_no (i := 18) (some 42) rfl (by kernel_rfl) (by kernel_rfl) (by kernel_rfl) (by kernel_rfl) (fun _ _ _ h => h) (by kernel_rfl) (by assumption) ?_
    simp only [Act.put, List.setIfInBounds_toArray, List.set_cons_zero, List.set_cons_succ]
    refine take_no (i := 19) (some 43) rfl (by kernel_rfl) (by kernel_rfl) (by kernel_rfl) (by kernel_rfl) (fun _ _ _ h => h) (by kernel_rfl) (by assumption) ?_
    simp only [Act.put, List.setIfInBounds_toArray, List.set_cons_zero, List.set_cons_succ]
    refine take_no (i := 20) (some 44) rfl (by kernel_rfl) (by kernel_rfl) (by kernel_rfl) (by kernel_rfl) (fun _ _ _ h => h) (by kernel_rfl) (by assumption) ?_
    simp only [Act.put, List.setIfInBounds_toArray, List.set_cons_zero, List.set_cons_succ]
    refine take_no (i := 21) (some 45) rfl (by kernel_rfl) (by kernel_rfl) (by kernel_rfl) (by kernel_rfl) (fun _ _ _ h => h) (by kernel_rfl) (by assumption) ?_
    simp only [Act.put, List.setIfInBounds_toArray, List.set_cons_zero, List.set_cons_succ]
    refine take_no (i := 22) (some 46) rfl (by kernel_rfl) (by kernel_rfl) (by kernel_rfl) (by kernel_rfl) (fun _ _ _ h => h) (by kernel_rfl) (by assumption) ?_
    simp only [Act.put, List.setIfInBounds_toArray, List.set_cons_zero, List.set_cons_succ]
    refine take_no (i := 23) (some 47) rfl (by kernel_rfl) (by kernel_rfl) (by kernel_rfl) (by kernel_rfl) (fun _ _ _ h => h) (by kernel_rfl) (by assumption) ?_
    simp only [Act.put, List.setIfInBounds_toArray, List.set_cons_zero, List.set_cons_succ]
    refine take_no (i := 24) (some 48) rfl (by kernel_rfl) (by kernel_rfl) (by kernel_rfl) (by kernel_rfl) (fun _ _ _ h => h) (by kernel_rfl) (by assumption) ?_
    simp only [Act.put, List.setIfInBounds_toArray, List.set_cons_zero, List.set_cons_succ]
    refine take_no (i := 25) (some 49) rfl (by kernel_rfl) (by kernel_rfl) (by kernel_rfl) (by kernel_rfl) (fun _ _ _ h => h) (by kernel_rfl) (by assumption) ?_
    simp only [Act.put, List.setIfInBounds_toArray, List.set_cons_zero, List.set_cons_succ]
    refine take_yes (i := 26) (some 50) (.bool true) rfl (by kernel_rfl) (by kernel_rfl) (by kernel_rfl) (by kernel_rfl) (fun _ _ _ h => h) (by kernel_rfl) (fun w _ => by rfl) (by assumption) ?_
    simp only [Act.put, List.setIfInBounds_toArray, List.set_cons_zero, List.set_cons_succ]
    refine take_yes (i := 27) (some 51) (.bool true) rfl (by kernel_rfl) (by kernel_rfl) (by kernel_rfl) (by kernel_rfl) (fun _ _ _ h => h) (by kernel_rfl) (fun w _ => by rfl) (by assumption) ?_
    simp only [Act.put, List.setIfInBounds_toArray, List.set_cons_zero, List.set_cons_succ]
    refine take_no (i := 28) (some 52) rfl (by kernel_rfl) (by kernel_rfl) (by kernel_rfl) (by kernel_rfl) (fun _ _ _ h => h) (by kernel_rfl) (by assumption) ?_
    simp only [Act.put, List.setIfInBounds_toArray, List.set_cons_zero, List.set_cons_succ]
    refine take_no (i := 29) (some 53) rfl (by kernel_rfl) (by kernel_rfl) (by kernel_rfl) (by kernel_rfl) (fun _ _ _ h => h) (by kernel_rfl) (by assumption) ?_
    simp only [Act.put, List.setIfInBounds_toArray, List.set_cons_zero, List.set_cons_succ]
    refine take_no (i := 30) (some 54) rfl (by kernel_rfl) (by kernel_rfl) (by kernel_rfl) (by kernel_rfl) (fun _ _ _ h => h) (by kernel_rfl) (by assumption) ?_
    simp only [Act.put, List.setIfInBounds_toArray, List.set_cons_zero, List.set_cons_succ]
    refine take_no (i := 31) (some 55) rfl (by kernel_rfl) (by kernel_rfl) (by kernel_rfl) (by kernel_rfl) (fun _ _ _ h => h) (by kernel_rfl) (by assumption) ?_
    simp only [Act.put, List.setIfInBounds_toArray, List.set_cons_zero, List.set_cons_succ]
    refine take_no (i := 32) (some 56) rfl (by kernel_rfl) (by kernel_rfl) (by kernel_rfl) (by kernel_rfl) (fun _ _ _ h => h) (by kernel_rfl) (by assumption) ?_
    simp only [Act.put, List.setIfInBounds_toArray, List.set_cons_zero, List.set_cons_succ]
    refine take_yes (i := 33) (some 57) (.bool true) rfl (by kernel_rfl) (by kernel_rfl) (by kernel_rfl) (by kernel_rfl) (fun _ _ _ h => h) (by kernel_rfl) (fun w _ => by rfl) (by assumption) ?_
    simp only [Act.put, List.setIfInBounds_toArray, List.set_cons_zero, List.set_cons_succ]
    refine wpAnyH_done (by kernel_rfl) ?_ _
    clear hHeld
    clear s0 z0 s1 z1 s2 z2 s3 z3 s4 z4 s5 z5 s6 z6 s7 z7
    go_wp2_with fail
    go_ret2
    exact ⟨mix_off HV.out (by decide), HBB.out⟩
  | true =>
  rw [hk2] at HKX
  replace HE := Lib.hid (HE.out.trans (if_neg (by rw [hk1, hk2]; decide)))
  obtain ⟨-, -, hcb⟩ := keyB_ok hk1
  obtain ⟨-, -, hcb2⟩ := keyB_ok hk2
  have HD1 := Lib.hid (comB_dchk HP0.out hcb)
  have HD2 := Lib.hid (comB_dchk HP0.out hcb2)
  have hcl := (progE_ok HP0.out).cols
  have hce := (comB_el hcb).2
  have hce2 := (comB_el hcb2).2
  obtain ⟨-, b3, o3, nc, kc, ec, s8⟩ := HC.out.get (k := 0) (by rw [hce]; exact hcl)
  obtain ⟨-, b6, o6, nc6, kc6, ec6, s9⟩ := HC2.out.get (k := 0) (by rw [hce2]; exact hcl)
  simp only [Value.slice.injEq] at ec ec6
  obtain ⟨rfl, -, -⟩ := ec
  obtain ⟨rfl, -, -⟩ := ec6
  rw [Nat.add_zero] at s8 s9
  have j1 : (0 : Int) < (cs.length : Int) := by rw [hce]; omega
  have j2 : (0 : Int) < (cs2.length : Int) := by rw [hce2]; omega
  have j3 : 0 < cs.length := by omega
  have j4 : 0 < cs2.length := by omega
  clear hcb hcb2 hcl hce hce2 hk1 hk2 hcq
  obtain ⟨x, hx⟩ : ∃ x, x = nth cs 0 := ⟨_, rfl⟩
  obtain ⟨y, hy⟩ : ∃ y, y = nth cs2 0 := ⟨_, rfl⟩
  rw [← hx] at s8
  rw [← hy] at s9
  rw [← hx, ← hy] at HE
  have HX := Lib.hid hx
  clear hx hy
  by_cases hxy : x = y
  rotate_left
  · have HV : Hid (mixE rows owners ep cs rows owners ep2 cs2 a b = 380) := Lib.hid (HE.out.trans (if_pos (.inl hxy)))
    have d1 : (x != y) = true := bne_iff_ne.2 hxy
    clear hxy
    refine wp_region_held_drew (S := (fun w' => w'.cell? ⟨w.heap.size, 0, none⟩ = some (.int .i64 ep) ∧ w'.cell? ⟨w.heap.size, 1, none⟩ = some (.slice a1 rows.length k1) ∧ w'.cell? ⟨w.heap.size, 2, none⟩ = some (.slice a2 owners.length k2) ∧ w'.cell? ⟨w.heap.size, 3, none⟩ = some (.slice (some ⟨b3, o3, none⟩) cs.length k3) ∧ w'.cell? ⟨w.heap.size + 1, 0, none⟩ = some (.int .i64 ep2) ∧ w'.cell? ⟨w.heap.size + 1, 1, none⟩ = some (.slice a4 rows.length k4) ∧ w'.cell? ⟨w.heap.size + 1, 2, none⟩ = some (.slice a5 owners.length k5) ∧ w'.cell? ⟨w.heap.size + 1, 3, none⟩ = some (.slice (some ⟨b6, o6, none⟩) cs2.length k6) ∧ w'.cell? ⟨b3, o3, none⟩ = some (.int .i64 x) ∧ w'.cell? ⟨b6, o6, none⟩ = some (.int .i64 y))) (by kernel_rfl) (by (try dsimp only); (first | exact ⟨z0, z1, z2, z3, z4, z5, z6, z7, z8, z9⟩ | exact ⟨s0, s1, s2, s3, s4, s5, s6, s7, s8, s9⟩ | go_keep)) (fun hHeld => ?_)
    refine take_yes (i := 0) (some 24) ?_ rfl (by kernel_rfl) (by kernel_rfl) (by kernel_rfl) (by kernel_rfl) (fun _ _ _ h => h) (by kernel_rfl) ?_ (by assumption) ?_
    rotate_left
    · (intro w hSw; (try dsimp only at hSw); go_simp; (try with_reducible rfl))
    simp only [Act.put, List.setIfInBounds_toArray, List.set_cons_zero, List.set_cons_succ]
    refine wpAnyH_ready (rs := [1]) (by kernel_rfl) (by simp) ?_
    refine AllReadyH.cons rfl (fun K hK => ?_) AllReadyH.nil
    rw [if_pos (by rfl)]
    go_simp
    (go_at_call 33; (with_reducible refine (HKR.out _ HR.out HO.out HC.out).mono ?_); rintro e w6 ⟨rfl, hb6⟩; have z0 := below_cell hb6 s0; have z1 := below_cell hb6 s1; have z2 := below_cell hb6 s2; have z3 := below_cell hb6 s3; have z4 := below_cell hb6 s4; have z5 := below_cell hb6 s5; have z6 := below_cell hb6 s6; have z7 := below_cell hb6 s7; have z8 := below_cell hb6 s8; have z9 := below_cell hb6 s9; replace HR := Lib.hid (HR.out.below hb6); replace HO := Lib.hid (HO.out.below hb6); replace HC := Lib.hid (HC.out.below hb6); replace HR2 := Lib.hid (HR2.out.below hb6); replace HO2 := Lib.hid (HO2.out.below hb6); replace HC2 := Lib.hid (HC2.out.below hb6); replace HA := Lib.hid (HA.out.below hb6); replace HB := Lib.hid (HB.out.below hb6); replace Q1 := Lib.hid ((hb6.block _ (row_lt Q1.out)).trans Q1.out); replace Q2 := Lib.hid ((hb6.block _ (row_lt Q2.out)).trans Q2.out); replace HBB := Lib.hid (HBB.out.trans (hb6.mono HBB.out.size)); clear hb6)
    refine hK.out _ _ (by (try dsimp only); (first | exact ⟨z0, z1, z2, z3, z4, z5, z6, z7, z8, z9⟩ | exact ⟨s0, s1, s2, s3, s4, s5, s6, s7, s8, s9⟩ | go_keep)) (fun hHeld => ?_)
    clear hK K
    try simp only [Act.put, List.setIfInBounds_toArray, List.set_cons_zero, List.set_cons_succ]
    refine take_yes (i := 2) (some 26) (.bool false) rfl (by kernel_rfl) (by kernel_rfl) (by kernel_rfl) (by kernel_rfl) (fun _ _ _ h => h) (by kernel_rfl) (fun w _ => by rfl) (by assumption) ?_
    simp only [Act.put, List.setIfInBounds_toArray, List.set_cons_zero, List.set_cons_succ]
    refine take_yes (i := 3) (some 27) (.bool false) rfl (by kernel_rfl) (by kernel_rfl) (by kernel_rfl) (by kernel_rfl) (fun _ _ _ h => h) (by kernel_rfl) (fun w _ => by rfl) (by assumption) ?_
    simp only [Act.put, List.setIfInBounds_toArray, List.set_cons_zero, List.set_cons_succ]
    refine take_yes (i := 4) (some 28) ?_ rfl (by kernel_rfl) (by kernel_rfl) (by kernel_rfl) (by kernel_rfl) (fun _ _ _ h => h) (by kernel_rfl) ?_ (by assumption) ?_
    rotate_left
    · (intro w hSw; (try dsimp only at hSw); go_simp; (try with_reducible rfl))
    simp only [Act.put, List.setIfInBounds_toArray, List.set_cons_zero, List.set_cons_succ]
    refine take_yes (i := 5) (some 29) ?_ rfl (by kernel_rfl) (by kernel_rfl) (by kernel_rfl) (by kernel_rfl) (fun _ _ _ h => h) (by kernel_rfl) ?_ (by assumption) ?_
    rotate_left
    · (intro w hSw; (try dsimp only at hSw); go_simp; (try with_reducible rfl))
    simp only [Act.put, List.setIfInBounds_toArray, List.set_cons_zero, List.set_cons_succ]
    refine take_yes (i := 6) (some 30) ?_ rfl (by kernel_rfl) (by kernel_rfl) (by kernel_rfl) (by kernel_rfl) (fun _ _ _ h => h) (by kernel_rfl) ?_ (by assumption) ?_
    rotate_left
    · (intro w hSw; (try dsimp only at hSw); go_simp; (try with_reducible rfl))
    simp only [Act.put, List.setIfInBounds_toArray, List.set_cons_zero, List.set_cons_succ]
    refine take_yes (i := 7) (some 31) ?_ rfl (by kernel_rfl) (by kernel_rfl) (by kernel_rfl) (by kernel_rfl) (fun _ _ _ h => h) (by kernel_rfl) ?_ (by assumption) ?_
    rotate_left
    · (intro w hSw; (try dsimp only at hSw); go_simp; (try with_reducible rfl))
    simp only [Act.put, List.setIfInBounds_toArray, List.set_cons_zero, List.set_cons_succ]
    refine wpAnyH_ready (rs := [8]) (by kernel_rfl) (by simp) ?_
    refine AllReadyH.cons rfl (fun K hK => ?_) AllReadyH.nil
    rw [if_pos (by rfl)]
    go_simp
    (go_at_call 38; (with_reducible refine (HSP.out _ HR.out HO.out HR2.out HO2.out).mono ?_); rintro e w7 ⟨rfl, hb7⟩; replace z0 := below_cell hb7 z0; replace z1 := below_cell hb7 z1; replace z2 := below_cell hb7 z2; replace z3 := below_cell hb7 z3; replace z4 := below_cell hb7 z4; replace z5 := below_cell hb7 z5; replace z6 := below_cell hb7 z6; replace z7 := below_cell hb7 z7; replace z8 := below_cell hb7 z8; replace z9 := below_cell hb7 z9; replace HR := Lib.hid (HR.out.below hb7); replace HO := Lib.hid (HO.out.below hb7); replace HC := Lib.hid (HC.out.below hb7); replace HR2 := Lib.hid (HR2.out.below hb7); replace HO2 := Lib.hid (HO2.out.below hb7); replace HC2 := Lib.hid (HC2.out.below hb7); replace HA := Lib.hid (HA.out.below hb7); replace HB := Lib.hid (HB.out.below hb7); replace Q1 := Lib.hid ((hb7.block _ (row_lt Q1.out)).trans Q1.out); replace Q2 := Lib.hid ((hb7.block _ (row_lt Q2.out)).trans Q2.out); replace HBB := Lib.hid (HBB.out.trans (hb7.mono HBB.out.size)); clear hb7)
    refine hK.out _ _ (by (try dsimp only); (first | exact ⟨z0, z1, z2, z3, z4, z5, z6, z7, z8, z9⟩ | exact ⟨s0, s1, s2, s3, s4, s5, s6, s7, s8, s9⟩ | go_keep)) (fun hHeld => ?_)
    clear hK K
    try simp only [Act.put, List.setIfInBounds_toArray, List.set_cons_zero, List.set_cons_succ]
    refine take_yes (i := 9) (some 33) (.bool false) rfl (by kernel_rfl) (by kernel_rfl) (by kernel_rfl) (by kernel_rfl) (fun _ _ _ h => h) (by kernel_rfl) (fun w _ => by rfl) (by assumption) ?_
    simp only [Act.put, List.setIfInBounds_toArray, List.set_cons_zero, List.set_cons_succ]
    refine take_yes (i := 10) (some 34) (.bool false) rfl (by kernel_rfl) (by kernel_rfl) (by kernel_rfl) (by kernel_rfl) (fun _ _ _ h => h) (by kernel_rfl) (fun w _ => by rfl) (by assumption) ?_
    simp only [Act.put, List.setIfInBounds_toArray, List.set_cons_zero, List.set_cons_succ]
    refine take_yes (i := 11) (some 35) (.bool false) rfl (by kernel_rfl) (by kernel_rfl) (by kernel_rfl) (by kernel_rfl) (fun _ _ _ h => h) (by kernel_rfl) (fun w _ => by rfl) (by assumption) ?_
    simp only [Act.put, List.setIfInBounds_toArray, List.set_cons_zero, List.set_cons_succ]
    refine take_yes (i := 12) (some 36) ?_ rfl (by kernel_rfl) (by kernel_rfl) (by kernel_rfl) (by kernel_rfl) (fun _ _ _ h => h) (by kernel_rfl) ?_ (by assumption) ?_
    rotate_left
    · (intro w hSw; (try dsimp only at hSw); go_simp; (try with_reducible rfl))
    simp only [Act.put, List.setIfInBounds_toArray, List.set_cons_zero, List.set_cons_succ]
    refine wpAnyH_ready (rs := [13]) (by kernel_rfl) (by simp) ?_
    refine AllReadyH.cons rfl (fun K hK => ?_) AllReadyH.nil
    rw [if_pos (by rfl)]
    go_simp
    (go_at_call 33; (with_reducible refine (HKX.out _ HR2.out HO2.out HC2.out).mono ?_); rintro e w8 ⟨rfl, hb8⟩; replace z0 := below_cell hb8 z0; replace z1 := below_cell hb8 z1; replace z2 := below_cell hb8 z2; replace z3 := below_cell hb8 z3; replace z4 := below_cell hb8 z4; replace z5 := below_cell hb8 z5; replace z6 := below_cell hb8 z6; replace z7 := below_cell hb8 z7; replace z8 := below_cell hb8 z8; replace z9 := below_cell hb8 z9; replace HR := Lib.hid (HR.out.below hb8); replace HO := Lib.hid (HO.out.below hb8); replace HC := Lib.hid (HC.out.below hb8); replace HR2 := Lib.hid (HR2.out.below hb8); replace HO2 := Lib.hid (HO2.out.below hb8); replace HC2 := Lib.hid (HC2.out.below hb8); replace HA := Lib.hid (HA.out.below hb8); replace HB := Lib.hid (HB.out.below hb8); replace Q1 := Lib.hid ((hb8.block _ (row_lt Q1.out)).trans Q1.out); replace Q2 := Lib.hid ((hb8.block _ (row_lt Q2.out)).trans Q2.out); replace HBB := Lib.hid (HBB.out.trans (hb8.mono HBB.out.size)); clear hb8)
    refine hK.out _ _ (by (try dsimp only); (first | exact ⟨z0, z1, z2, z3, z4, z5, z6, z7, z8, z9⟩ | exact ⟨s0, s1, s2, s3, s4, s5, s6, s7, s8, s9⟩ | go_keep)) (fun hHeld => ?_)
    clear hK K
    try simp only [Act.put, List.setIfInBounds_toArray, List.set_cons_zero, List.set_cons_succ]
    refine take_yes (i := 14) (some 38) (.bool false) rfl (by kernel_rfl) (by kernel_rfl) (by kernel_rfl) (by kernel_rfl) (fun _ _ _ h => h) (by kernel_rfl) (fun w _ => by rfl) (by assumption) ?_
    simp only [Act.put, List.setIfInBounds_toArray, List.set_cons_zero, List.set_cons_succ]
    refine take_yes (i := 15) (some 39) (.bool false) rfl (by kernel_rfl) (by kernel_rfl) (by kernel_rfl) (by kernel_rfl) (fun _ _ _ h => h) (by kernel_rfl) (fun w _ => by rfl) (by assumption) ?_
    simp only [Act.put, List.setIfInBounds_toArray, List.set_cons_zero, List.set_cons_succ]
    refine take_yes (i := 16) (some 40) (.bool false) rfl (by kernel_rfl) (by kernel_rfl) (by kernel_rfl) (by kernel_rfl) (fun _ _ _ h => h) (by kernel_rfl) (fun w _ => by rfl) (by assumption) ?_
    simp only [Act.put, List.setIfInBounds_toArray, List.set_cons_zero, List.set_cons_succ]
    refine take_yes (i := 17) (some 41) ?_ rfl (by kernel_rfl) (by kernel_rfl) (by kernel_rfl) (by kernel_rfl) (fun _ _ _ h => h) (by kernel_rfl) ?_ (by assumption) ?_
    rotate_left
    · (intro w hSw; (try dsimp only at hSw); go_simp; (try with_reducible rfl))
    simp only [Act.put, List.setIfInBounds_toArray, List.set_cons_zero, List.set_cons_succ]
    refine take_yes (i := 18) (some 42) ?_ rfl (by kernel_rfl) (by kernel_rfl) (by kernel_rfl) (by kernel_rfl) (fun _ _ _ h => h) (by kernel_rfl) ?_ (by assumption) ?_
    rotate_left
    · (intro w hSw; (try dsimp only at hSw); go_simp; (try with_reducible rfl))
    simp only [Act.put, List.setIfInBounds_toArray, List.set_cons_zero, List.set_cons_succ]
    refine take_yes (i := 19) (some 43) ?_ rfl (by kernel_rfl) (by kernel_rfl) (by kernel_rfl) (by kernel_rfl) (fun _ _ _ h => h) (by kernel_rfl) ?_ (by assumption) ?_
    rotate_left
    · (intro w hSw; (try dsimp only at hSw); go_simp; (try with_reducible rfl))
    simp only [Act.put, List.setIfInBounds_toArray, List.set_cons_zero, List.set_cons_succ]
    refine take_yes (i := 20) (some 44) ?_ rfl (by kernel_rfl) (by kernel_rfl) (by kernel_rfl) (by kernel_rfl) (fun _ _ _ h => h) (by kernel_rfl) ?_ (by assumption) ?_
    rotate_left
    · (intro w hSw; (try dsimp only at hSw); go_simp; (try with_reducible rfl))
    simp only [Act.put, List.setIfInBounds_toArray, List.set_cons_zero, List.set_cons_succ]
    refine take_yes (i := 21) (some 45) ?_ rfl (by kernel_rfl) (by kernel_rfl) (by kernel_rfl) (by kernel_rfl) (fun _ _ _ h => h) (by kernel_rfl) ?_ (by assumption) ?_
    rotate_left
    · (intro w hSw; (try dsimp only at hSw); go_simp; (try with_reducible rfl))
    simp only [Act.put, List.setIfInBounds_toArray, List.set_cons_zero, List.set_cons_succ]
    refine take_yes (i := 22) (some 46) ?_ rfl (by kernel_rfl) (by kernel_rfl) (by kernel_rfl) (by kernel_rfl) (fun _ _ _ h => h) (by kernel_rfl) ?_ (by assumption) ?_
    rotate_left
    · (intro w hSw; (try dsimp only at hSw); go_simp; (try with_reducible rfl))
    simp only [Act.put, List.setIfInBounds_toArray, List.set_cons_zero, List.set_cons_succ]
    refine take_yes (i := 23) (some 47) ?_ rfl (by kernel_rfl) (by kernel_rfl) (by kernel_rfl) (by kernel_rfl) (fun _ _ _ h => h) (by kernel_rfl) ?_ (by assumption) ?_
    rotate_left
    · (intro w hSw; (try dsimp only at hSw); go_simp; (try with_reducible rfl))
    simp only [Act.put, List.setIfInBounds_toArray, List.set_cons_zero, List.set_cons_succ]
    refine take_yes (i := 24) (some 48) ?_ rfl (by kernel_rfl) (by kernel_rfl) (by kernel_rfl) (by kernel_rfl) (fun _ _ _ h => h) (by kernel_rfl) ?_ (by assumption) ?_
    rotate_left
    · (intro w hSw; (try dsimp only at hSw); go_simp; (try with_reducible rfl))
    simp only [Act.put, List.setIfInBounds_toArray, List.set_cons_zero, List.set_cons_succ]
    refine take_yes (i := 25) (some 49) ?_ rfl (by kernel_rfl) (by kernel_rfl) (by kernel_rfl) (by kernel_rfl) (fun _ _ _ h => h) (by kernel_rfl) ?_ (by assumption) ?_
    rotate_left
    · (intro w hSw; (try dsimp only at hSw); go_simp; (try with_reducible rfl))
    simp only [Act.put, List.setIfInBounds_toArray, List.set_cons_zero, List.set_cons_succ]
    refine take_yes (i := 26) (some 50) (.bool true) rfl (by kernel_rfl) (by kernel_rfl) (by kernel_rfl) (by kernel_rfl) (fun _ _ _ h => h) (by kernel_rfl) (fun w _ => by rfl) (by assumption) ?_
    simp only [Act.put, List.setIfInBounds_toArray, List.set_cons_zero, List.set_cons_succ]
    refine take_yes (i := 27) (some 51) (.bool true) rfl (by kernel_rfl) (by kernel_rfl) (by kernel_rfl) (by kernel_rfl) (fun _ _ _ h => h) (by kernel_rfl) (fun w _ => by rfl) (by assumption) ?_
    simp only [Act.put, List.setIfInBounds_toArray, List.set_cons_zero, List.set_cons_succ]
    refine take_no (i := 28) (some 52) rfl (by kernel_rfl) (by kernel_rfl) (by kernel_rfl) (by kernel_rfl) (fun _ _ _ h => h) (by kernel_rfl) (by assumption) ?_
    simp only [Act.put, List.setIfInBounds_toArray, List.set_cons_zero, List.set_cons_succ]
    refine take_no (i := 29) (some 53) rfl (by kernel_rfl) (by kernel_rfl) (by kernel_rfl) (by kernel_rfl) (fun _ _ _ h => h) (by kernel_rfl) (by assumption) ?_
    simp only [Act.put, List.setIfInBounds_toArray, List.set_cons_zero, List.set_cons_succ]
    refine take_no (i := 30) (some 54) rfl (by kernel_rfl) (by kernel_rfl) (by kernel_rfl) (by kernel_rfl) (fun _ _ _ h => h) (by kernel_rfl) (by assumption) ?_
    simp only [Act.put, List.setIfInBounds_toArray, List.set_cons_zero, List.set_cons_succ]
    refine take_no (i := 31) (some 55) rfl (by kernel_rfl) (by kernel_rfl) (by kernel_rfl) (by kernel_rfl) (fun _ _ _ h => h) (by kernel_rfl) (by assumption) ?_
    simp only [Act.put, List.setIfInBounds_toArray, List.set_cons_zero, List.set_cons_succ]
    refine take_no (i := 32) (some 56) rfl (by kernel_rfl) (by kernel_rfl) (by kernel_rfl) (by kernel_rfl) (fun _ _ _ h => h) (by kernel_rfl) (by assumption) ?_
    simp only [Act.put, List.setIfInBounds_toArray, List.set_cons_zero, List.set_cons_succ]
    refine take_yes (i := 33) (some 57) (.bool true) rfl (by kernel_rfl) (by kernel_rfl) (by kernel_rfl) (by kernel_rfl) (fun _ _ _ h => h) (by kernel_rfl) (fun w _ => by rfl) (by assumption) ?_
    simp only [Act.put, List.setIfInBounds_toArray, List.set_cons_zero, List.set_cons_succ]
    refine wpAnyH_done (by kernel_rfl) ?_ _
    clear hHeld
    clear s0 z0 s1 z1 s2 z2 s3 z3 s4 z4 s5 z5 s6 z6 s7 z7 s8 z8 s9 z9
    go_wp2_with fail
    go_ret2
    exact ⟨mix_off HV.out (by decide), HBB.out⟩
  have d1 : (x != y) = false := by rw [hxy]; exact bne_self_eq_false _
  by_cases hle : ep2 ≤ ep
  · have HV : Hid (mixE rows owners ep cs rows owners ep2 cs2 a b = 380) := Lib.hid (HE.out.trans (if_pos (.inr hle)))
    have d2 : decide (ep2 ≤ ep) = true := decide_eq_true hle
    clear hle hxy
    refine wp_region_held_drew (S := (fun w' => w'.cell? ⟨w.heap.size, 0, none⟩ = some (.int .i64 ep) ∧ w'.cell? ⟨w.heap.size, 1, none⟩ = some (.slice a1 rows.length k1) ∧ w'.cell? ⟨w.heap.size, 2, none⟩ = some (.slice a2 owners.length k2) ∧ w'.cell? ⟨w.heap.size, 3, none⟩ = some (.slice (some ⟨b3, o3, none⟩) cs.length k3) ∧ w'.cell? ⟨w.heap.size + 1, 0, none⟩ = some (.int .i64 ep2) ∧ w'.cell? ⟨w.heap.size + 1, 1, none⟩ = some (.slice a4 rows.length k4) ∧ w'.cell? ⟨w.heap.size + 1, 2, none⟩ = some (.slice a5 owners.length k5) ∧ w'.cell? ⟨w.heap.size + 1, 3, none⟩ = some (.slice (some ⟨b6, o6, none⟩) cs2.length k6) ∧ w'.cell? ⟨b3, o3, none⟩ = some (.int .i64 x) ∧ w'.cell? ⟨b6, o6, none⟩ = some (.int .i64 y))) (by kernel_rfl) (by (try dsimp only); (first | exact ⟨z0, z1, z2, z3, z4, z5, z6, z7, z8, z9⟩ | exact ⟨s0, s1, s2, s3, s4, s5, s6, s7, s8, s9⟩ | go_keep)) (fun hHeld => ?_)
    refine take_yes (i := 0) (some 24) ?_ rfl (by kernel_rfl) (by kernel_rfl) (by kernel_rfl) (by kernel_rfl) (fun _ _ _ h => h) (by kernel_rfl) ?_ (by assumption) ?_
    rotate_left
    · (intro w hSw; (try dsimp only at hSw); go_simp; (try with_reducible rfl))
    simp only [Act.put, List.setIfInBounds_toArray, List.set_cons_zero, List.set_cons_succ]
    refine wpAnyH_ready (rs := [1]) (by kernel_rfl) (by simp) ?_
    refine AllReadyH.cons rfl (fun K hK => ?_) AllReadyH.nil
    rw [if_pos (by rfl)]
    go_simp
    (go_at_call 33; (with_reducible refine (HKR.out _ HR.out HO.out HC.out).mono ?_); rintro e w6 ⟨rfl, hb6⟩; have z0 := below_cell hb6 s0; have z1 := below_cell hb6 s1; have z2 := below_cell hb6 s2; have z3 := below_cell hb6 s3; have z4 := below_cell hb6 s4; have z5 := below_cell hb6 s5; have z6 := below_cell hb6 s6; have z7 := below_cell hb6 s7; have z8 := below_cell hb6 s8; have z9 := below_cell hb6 s9; replace HR := Lib.hid (HR.out.below hb6); replace HO := Lib.hid (HO.out.below hb6); replace HC := Lib.hid (HC.out.below hb6); replace HR2 := Lib.hid (HR2.out.below hb6); replace HO2 := Lib.hid (HO2.out.below hb6); replace HC2 := Lib.hid (HC2.out.below hb6); replace HA := Lib.hid (HA.out.below hb6); replace HB := Lib.hid (HB.out.below hb6); replace Q1 := Lib.hid ((hb6.block _ (row_lt Q1.out)).trans Q1.out); replace Q2 := Lib.hid ((hb6.block _ (row_lt Q2.out)).trans Q2.out); replace HBB := Lib.hid (HBB.out.trans (hb6.mono HBB.out.size)); clear hb6)
    refine hK.out _ _ (by (try dsimp only); (first | exact ⟨z0, z1, z2, z3, z4, z5, z6, z7, z8, z9⟩ | exact ⟨s0, s1, s2, s3, s4, s5, s6, s7, s8, s9⟩ | go_keep)) (fun hHeld => ?_)
    clear hK K
    try simp only [Act.put, List.setIfInBounds_toArray, List.set_cons_zero, List.set_cons_succ]
    refine take_yes (i := 2) (some 26) (.bool false) rfl (by kernel_rfl) (by kernel_rfl) (by kernel_rfl) (by kernel_rfl) (fun _ _ _ h => h) (by kernel_rfl) (fun w _ => by rfl) (by assumption) ?_
    simp only [Act.put, List.setIfInBounds_toArray, List.set_cons_zero, List.set_cons_succ]
    refine take_yes (i := 3) (some 27) (.bool false) rfl (by kernel_rfl) (by kernel_rfl) (by kernel_rfl) (by kernel_rfl) (fun _ _ _ h => h) (by kernel_rfl) (fun w _ => by rfl) (by assumption) ?_
    simp only [Act.put, List.setIfInBounds_toArray, List.set_cons_zero, List.set_cons_succ]
    refine take_yes (i := 4) (some 28) ?_ rfl (by kernel_rfl) (by kernel_rfl) (by kernel_rfl) (by kernel_rfl) (fun _ _ _ h => h) (by kernel_rfl) ?_ (by assumption) ?_
    rotate_left
    · (intro w hSw; (try dsimp only at hSw); go_simp; (try with_reducible rfl))
    simp only [Act.put, List.setIfInBounds_toArray, List.set_cons_zero, List.set_cons_succ]
    refine take_yes (i := 5) (some 29) ?_ rfl (by kernel_rfl) (by kernel_rfl) (by kernel_rfl) (by kernel_rfl) (fun _ _ _ h => h) (by kernel_rfl) ?_ (by assumption) ?_
    rotate_left
    · (intro w hSw; (try dsimp only at hSw); go_simp; (try with_reducible rfl))
    simp only [Act.put, List.setIfInBounds_toArray, List.set_cons_zero, List.set_cons_succ]
    refine take_yes (i := 6) (some 30) ?_ rfl (by kernel_rfl) (by kernel_rfl) (by kernel_rfl) (by kernel_rfl) (fun _ _ _ h => h) (by kernel_rfl) ?_ (by assumption) ?_
    rotate_left
    · (intro w hSw; (try dsimp only at hSw); go_simp; (try with_reducible rfl))
    simp only [Act.put, List.setIfInBounds_toArray, List.set_cons_zero, List.set_cons_succ]
    refine take_yes (i := 7) (some 31) ?_ rfl (by kernel_rfl) (by kernel_rfl) (by kernel_rfl) (by kernel_rfl) (fun _ _ _ h => h) (by kernel_rfl) ?_ (by assumption) ?_
    rotate_left
    · (intro w hSw; (try dsimp only at hSw); go_simp; (try with_reducible rfl))
    simp only [Act.put, List.setIfInBounds_toArray, List.set_cons_zero, List.set_cons_succ]
    refine wpAnyH_ready (rs := [8]) (by kernel_rfl) (by simp) ?_
    refine AllReadyH.cons rfl (fun K hK => ?_) AllReadyH.nil
    rw [if_pos (by rfl)]
    go_simp
    (go_at_call 38; (with_reducible refine (HSP.out _ HR.out HO.out HR2.out HO2.out).mono ?_); rintro e w7 ⟨rfl, hb7⟩; replace z0 := below_cell hb7 z0; replace z1 := below_cell hb7 z1; replace z2 := below_cell hb7 z2; replace z3 := below_cell hb7 z3; replace z4 := below_cell hb7 z4; replace z5 := below_cell hb7 z5; replace z6 := below_cell hb7 z6; replace z7 := below_cell hb7 z7; replace z8 := below_cell hb7 z8; replace z9 := below_cell hb7 z9; replace HR := Lib.hid (HR.out.below hb7); replace HO := Lib.hid (HO.out.below hb7); replace HC := Lib.hid (HC.out.below hb7); replace HR2 := Lib.hid (HR2.out.below hb7); replace HO2 := Lib.hid (HO2.out.below hb7); replace HC2 := Lib.hid (HC2.out.below hb7); replace HA := Lib.hid (HA.out.below hb7); replace HB := Lib.hid (HB.out.below hb7); replace Q1 := Lib.hid ((hb7.block _ (row_lt Q1.out)).trans Q1.out); replace Q2 := Lib.hid ((hb7.block _ (row_lt Q2.out)).trans Q2.out); replace HBB := Lib.hid (HBB.out.trans (hb7.mono HBB.out.size)); clear hb7)
    refine hK.out _ _ (by (try dsimp only); (first | exact ⟨z0, z1, z2, z3, z4, z5, z6, z7, z8, z9⟩ | exact ⟨s0, s1, s2, s3, s4, s5, s6, s7, s8, s9⟩ | go_keep)) (fun hHeld => ?_)
    clear hK K
    try simp only [Act.put, List.setIfInBounds_toArray, List.set_cons_zero, List.set_cons_succ]
    refine take_yes (i := 9) (some 33) (.bool false) rfl (by kernel_rfl) (by kernel_rfl) (by kernel_rfl) (by kernel_rfl) (fun _ _ _ h => h) (by kernel_rfl) (fun w _ => by rfl) (by assumption) ?_
    simp only [Act.put, List.setIfInBounds_toArray, List.set_cons_zero, List.set_cons_succ]
    refine take_yes (i := 10) (some 34) (.bool false) rfl (by kernel_rfl) (by kernel_rfl) (by kernel_rfl) (by kernel_rfl) (fun _ _ _ h => h) (by kernel_rfl) (fun w _ => by rfl) (by assumption) ?_
    simp only [Act.put, List.setIfInBounds_toArray, List.set_cons_zero, List.set_cons_succ]
    refine take_yes (i := 11) (some 35) (.bool false) rfl (by kernel_rfl) (by kernel_rfl) (by kernel_rfl) (by kernel_rfl) (fun _ _ _ h => h) (by kernel_rfl) (fun w _ => by rfl) (by assumption) ?_
    simp only [Act.put, List.setIfInBounds_toArray, List.set_cons_zero, List.set_cons_succ]
    refine take_yes (i := 12) (some 36) ?_ rfl (by kernel_rfl) (by kernel_rfl) (by kernel_rfl) (by kernel_rfl) (fun _ _ _ h => h) (by kernel_rfl) ?_ (by assumption) ?_
    rotate_left
    · (intro w hSw; (try dsimp only at hSw); go_simp; (try with_reducible rfl))
    simp only [Act.put, List.setIfInBounds_toArray, List.set_cons_zero, List.set_cons_succ]
    refine wpAnyH_ready (rs := [13]) (by kernel_rfl) (by simp) ?_
    refine AllReadyH.cons rfl (fun K hK => ?_) AllReadyH.nil
    rw [if_pos (by rfl)]
    go_simp
    (go_at_call 33; (with_reducible refine (HKX.out _ HR2.out HO2.out HC2.out).mono ?_); rintro e w8 ⟨rfl, hb8⟩; replace z0 := below_cell hb8 z0; replace z1 := below_cell hb8 z1; replace z2 := below_cell hb8 z2; replace z3 := below_cell hb8 z3; replace z4 := below_cell hb8 z4; replace z5 := below_cell hb8 z5; replace z6 := below_cell hb8 z6; replace z7 := below_cell hb8 z7; replace z8 := below_cell hb8 z8; replace z9 := below_cell hb8 z9; replace HR := Lib.hid (HR.out.below hb8); replace HO := Lib.hid (HO.out.below hb8); replace HC := Lib.hid (HC.out.below hb8); replace HR2 := Lib.hid (HR2.out.below hb8); replace HO2 := Lib.hid (HO2.out.below hb8); replace HC2 := Lib.hid (HC2.out.below hb8); replace HA := Lib.hid (HA.out.below hb8); replace HB := Lib.hid (HB.out.below hb8); replace Q1 := Lib.hid ((hb8.block _ (row_lt Q1.out)).trans Q1.out); replace Q2 := Lib.hid ((hb8.block _ (row_lt Q2.out)).trans Q2.out); replace HBB := Lib.hid (HBB.out.trans (hb8.mono HBB.out.size)); clear hb8)
    refine hK.out _ _ (by (try dsimp only); (first | exact ⟨z0, z1, z2, z3, z4, z5, z6, z7, z8, z9⟩ | exact ⟨s0, s1, s2, s3, s4, s5, s6, s7, s8, s9⟩ | go_keep)) (fun hHeld => ?_)
    clear hK K
    try simp only [Act.put, List.setIfInBounds_toArray, List.set_cons_zero, List.set_cons_succ]
    refine take_yes (i := 14) (some 38) (.bool false) rfl (by kernel_rfl) (by kernel_rfl) (by kernel_rfl) (by kernel_rfl) (fun _ _ _ h => h) (by kernel_rfl) (fun w _ => by rfl) (by assumption) ?_
    simp only [Act.put, List.setIfInBounds_toArray, List.set_cons_zero, List.set_cons_succ]
    refine take_yes (i := 15) (some 39) (.bool false) rfl (by kernel_rfl) (by kernel_rfl) (by kernel_rfl) (by kernel_rfl) (fun _ _ _ h => h) (by kernel_rfl) (fun w _ => by rfl) (by assumption) ?_
    simp only [Act.put, List.setIfInBounds_toArray, List.set_cons_zero, List.set_cons_succ]
    refine take_yes (i := 16) (some 40) (.bool false) rfl (by kernel_rfl) (by kernel_rfl) (by kernel_rfl) (by kernel_rfl) (fun _ _ _ h => h) (by kernel_rfl) (fun w _ => by rfl) (by assumption) ?_
    simp only [Act.put, List.setIfInBounds_toArray, List.set_cons_zero, List.set_cons_succ]
    refine take_yes (i := 17) (some 41) ?_ rfl (by kernel_rfl) (by kernel_rfl) (by kernel_rfl) (by kernel_rfl) (fun _ _ _ h => h) (by kernel_rfl) ?_ (by assumption) ?_
    rotate_left
    · (intro w hSw; (try dsimp only at hSw); go_simp; (try with_reducible rfl))
    simp only [Act.put, List.setIfInBounds_toArray, List.set_cons_zero, List.set_cons_succ]
    refine take_yes (i := 18) (some 42) ?_ rfl (by kernel_rfl) (by kernel_rfl) (by kernel_rfl) (by kernel_rfl) (fun _ _ _ h => h) (by kernel_rfl) ?_ (by assumption) ?_
    rotate_left
    · (intro w hSw; (try dsimp only at hSw); go_simp; (try with_reducible rfl))
    simp only [Act.put, List.setIfInBounds_toArray, List.set_cons_zero, List.set_cons_succ]
    refine take_yes (i := 19) (some 43) ?_ rfl (by kernel_rfl) (by kernel_rfl) (by kernel_rfl) (by kernel_rfl) (fun _ _ _ h => h) (by kernel_rfl) ?_ (by assumption) ?_
    rotate_left
    · (intro w hSw; (try dsimp only at hSw); go_simp; (try with_reducible rfl))
    simp only [Act.put, List.setIfInBounds_toArray, List.set_cons_zero, List.set_cons_succ]
    refine take_yes (i := 20) (some 44) ?_ rfl (by kernel_rfl) (by kernel_rfl) (by kernel_rfl) (by kernel_rfl) (fun _ _ _ h => h) (by kernel_rfl) ?_ (by assumption) ?_
    rotate_left
    · (intro w hSw; (try dsimp only at hSw); go_simp; (try with_reducible rfl))
    simp only [Act.put, List.setIfInBounds_toArray, List.set_cons_zero, List.set_cons_succ]
    refine take_yes (i := 21) (some 45) ?_ rfl (by kernel_rfl) (by kernel_rfl) (by kernel_rfl) (by kernel_rfl) (fun _ _ _ h => h) (by kernel_rfl) ?_ (by assumption) ?_
    rotate_left
    · (intro w hSw; (try dsimp only at hSw); go_simp; (try with_reducible rfl))
    simp only [Act.put, List.setIfInBounds_toArray, List.set_cons_zero, List.set_cons_succ]
    refine take_yes (i := 22) (some 46) ?_ rfl (by kernel_rfl) (by kernel_rfl) (by kernel_rfl) (by kernel_rfl) (fun _ _ _ h => h) (by kernel_rfl) ?_ (by assumption) ?_
    rotate_left
    · (intro w hSw; (try dsimp only at hSw); go_simp; (try with_reducible rfl))
    simp only [Act.put, List.setIfInBounds_toArray, List.set_cons_zero, List.set_cons_succ]
    refine take_yes (i := 23) (some 47) ?_ rfl (by kernel_rfl) (by kernel_rfl) (by kernel_rfl) (by kernel_rfl) (fun _ _ _ h => h) (by kernel_rfl) ?_ (by assumption) ?_
    rotate_left
    · (intro w hSw; (try dsimp only at hSw); go_simp; (try with_reducible rfl))
    simp only [Act.put, List.setIfInBounds_toArray, List.set_cons_zero, List.set_cons_succ]
    refine take_yes (i := 24) (some 48) ?_ rfl (by kernel_rfl) (by kernel_rfl) (by kernel_rfl) (by kernel_rfl) (fun _ _ _ h => h) (by kernel_rfl) ?_ (by assumption) ?_
    rotate_left
    · (intro w hSw; (try dsimp only at hSw); go_simp; (try with_reducible rfl))
    simp only [Act.put, List.setIfInBounds_toArray, List.set_cons_zero, List.set_cons_succ]
    refine take_yes (i := 25) (some 49) ?_ rfl (by kernel_rfl) (by kernel_rfl) (by kernel_rfl) (by kernel_rfl) (fun _ _ _ h => h) (by kernel_rfl) ?_ (by assumption) ?_
    rotate_left
    · (intro w hSw; (try dsimp only at hSw); go_simp; (try with_reducible rfl))
    simp only [Act.put, List.setIfInBounds_toArray, List.set_cons_zero, List.set_cons_succ]
    refine take_yes (i := 26) (some 50) (.bool false) rfl (by kernel_rfl) (by kernel_rfl) (by kernel_rfl) (by kernel_rfl) (fun _ _ _ h => h) (by kernel_rfl) (fun w _ => by rfl) (by assumption) ?_
    simp only [Act.put, List.setIfInBounds_toArray, List.set_cons_zero, List.set_cons_succ]
    refine take_yes (i := 27) (some 51) (.bool false) rfl (by kernel_rfl) (by kernel_rfl) (by kernel_rfl) (by kernel_rfl) (fun _ _ _ h => h) (by kernel_rfl) (fun w _ => by rfl) (by assumption) ?_
    simp only [Act.put, List.setIfInBounds_toArray, List.set_cons_zero, List.set_cons_succ]
    refine take_yes (i := 28) (some 52) ?_ rfl (by kernel_rfl) (by kernel_rfl) (by kernel_rfl) (by kernel_rfl) (fun _ _ _ h => h) (by kernel_rfl) ?_ (by assumption) ?_
    rotate_left
    · (intro w hSw; (try dsimp only at hSw); go_simp; (try with_reducible rfl))
    simp only [Act.put, List.setIfInBounds_toArray, List.set_cons_zero, List.set_cons_succ]
    refine take_yes (i := 29) (some 53) ?_ rfl (by kernel_rfl) (by kernel_rfl) (by kernel_rfl) (by kernel_rfl) (fun _ _ _ h => h) (by kernel_rfl) ?_ (by assumption) ?_
    rotate_left
    · (intro w hSw; (try dsimp only at hSw); go_simp; (try with_reducible rfl))
    simp only [Act.put, List.setIfInBounds_toArray, List.set_cons_zero, List.set_cons_succ]
    refine take_yes (i := 30) (some 54) ?_ rfl (by kernel_rfl) (by kernel_rfl) (by kernel_rfl) (by kernel_rfl) (fun _ _ _ h => h) (by kernel_rfl) ?_ (by assumption) ?_
    rotate_left
    · (intro w hSw; (try dsimp only at hSw); go_simp; (try with_reducible rfl))
    simp only [Act.put, List.setIfInBounds_toArray, List.set_cons_zero, List.set_cons_succ]
    refine take_yes (i := 31) (some 55) ?_ rfl (by kernel_rfl) (by kernel_rfl) (by kernel_rfl) (by kernel_rfl) (fun _ _ _ h => h) (by kernel_rfl) ?_ (by assumption) ?_
    rotate_left
    · (intro w hSw; (try dsimp only at hSw); go_simp; (try with_reducible rfl))
    simp only [Act.put, List.setIfInBounds_toArray, List.set_cons_zero, List.set_cons_succ]
    refine take_yes (i := 32) (some 56) ?_ rfl (by kernel_rfl) (by kernel_rfl) (by kernel_rfl) (by kernel_rfl) (fun _ _ _ h => h) (by kernel_rfl) ?_ (by assumption) ?_
    rotate_left
    · (intro w hSw; (try dsimp only at hSw); go_simp; (try with_reducible rfl))
    simp only [Act.put, List.setIfInBounds_toArray, List.set_cons_zero, List.set_cons_succ]
    refine take_yes (i := 33) (some 57) (.bool true) rfl (by kernel_rfl) (by kernel_rfl) (by kernel_rfl) (by kernel_rfl) (fun _ _ _ h => h) (by kernel_rfl) (fun w _ => by rfl) (by assumption) ?_
    simp only [Act.put, List.setIfInBounds_toArray, List.set_cons_zero, List.set_cons_succ]
    refine wpAnyH_done (by kernel_rfl) ?_ _
    clear hHeld
    clear s0 z0 s1 z1 s2 z2 s3 z3 s4 z4 s5 z5 s6 z6 s7 z7 s8 z8 s9 z9
    go_wp2_with fail
    go_ret2
    exact ⟨mix_off HV.out (by decide), HBB.out⟩
  have d2 : decide (ep2 ≤ ep) = false := decide_eq_false hle
  replace HE := Lib.hid (HE.out.trans (if_neg (by simp only [hxy, not_or, ne_eq, not_true_eq_false, not_false_eq_true, true_and]; exact hle)))
  have SX := Lib.hid s8
  clear hle hxy
  refine wp_region_held_drew (S := (fun w' => w'.cell? ⟨w.heap.size, 0, none⟩ = some (.int .i64 ep) ∧ w'.cell? ⟨w.heap.size, 1, none⟩ = some (.slice a1 rows.length k1) ∧ w'.cell? ⟨w.heap.size, 2, none⟩ = some (.slice a2 owners.length k2) ∧ w'.cell? ⟨w.heap.size, 3, none⟩ = some (.slice (some ⟨b3, o3, none⟩) cs.length k3) ∧ w'.cell? ⟨w.heap.size + 1, 0, none⟩ = some (.int .i64 ep2) ∧ w'.cell? ⟨w.heap.size + 1, 1, none⟩ = some (.slice a4 rows.length k4) ∧ w'.cell? ⟨w.heap.size + 1, 2, none⟩ = some (.slice a5 owners.length k5) ∧ w'.cell? ⟨w.heap.size + 1, 3, none⟩ = some (.slice (some ⟨b6, o6, none⟩) cs2.length k6) ∧ w'.cell? ⟨b3, o3, none⟩ = some (.int .i64 x) ∧ w'.cell? ⟨b6, o6, none⟩ = some (.int .i64 y))) (by kernel_rfl) (by (try dsimp only); (first | exact ⟨z0, z1, z2, z3, z4, z5, z6, z7, z8, z9⟩ | exact ⟨s0, s1, s2, s3, s4, s5, s6, s7, s8, s9⟩ | go_keep)) (fun hHeld => ?_)
  refine take_yes (i := 0) (some 24) ?_ rfl (by kernel_rfl) (by kernel_rfl) (by kernel_rfl) (by kernel_rfl) (fun _ _ _ h => h) (by kernel_rfl) ?_ (by assumption) ?_
  rotate_left
  · (intro w hSw; (try dsimp only at hSw); go_simp; (try with_reducible rfl))
  simp only [Act.put, List.setIfInBounds_toArray, List.set_cons_zero, List.set_cons_succ]
  refine wpAnyH_ready (rs := [1]) (by kernel_rfl) (by simp) ?_
  refine AllReadyH.cons rfl (fun K hK => ?_) AllReadyH.nil
  rw [if_pos (by rfl)]
  go_simp
  (go_at_call 33; (with_reducible refine (HKR.out _ HR.out HO.out HC.out).mono ?_); rintro e w6 ⟨rfl, hb6⟩; have z0 := below_cell hb6 s0; have z1 := below_cell hb6 s1; have z2 := below_cell hb6 s2; have z3 := below_cell hb6 s3; have z4 := below_cell hb6 s4; have z5 := below_cell hb6 s5; have z6 := below_cell hb6 s6; have z7 := below_cell hb6 s7; have z8 := below_cell hb6 s8; have z9 := below_cell hb6 s9; replace HR := Lib.hid (HR.out.below hb6); replace HO := Lib.hid (HO.out.below hb6); replace HC := Lib.hid (HC.out.below hb6); replace HR2 := Lib.hid (HR2.out.below hb6); replace HO2 := Lib.hid (HO2.out.below hb6); replace HC2 := Lib.hid (HC2.out.below hb6); replace HA := Lib.hid (HA.out.below hb6); replace HB := Lib.hid (HB.out.below hb6); replace Q1 := Lib.hid ((hb6.block _ (row_lt Q1.out)).trans Q1.out); replace Q2 := Lib.hid ((hb6.block _ (row_lt Q2.out)).trans Q2.out); replace HBB := Lib.hid (HBB.out.trans (hb6.mono HBB.out.size)); clear hb6)
  refine hK.out _ _ (by (try dsimp only); (first | exact ⟨z0, z1, z2, z3, z4, z5, z6, z7, z8, z9⟩ | exact ⟨s0, s1, s2, s3, s4, s5, s6, s7, s8, s9⟩ | go_keep)) (fun hHeld => ?_)
  clear hK K
  try simp only [Act.put, List.setIfInBounds_toArray, List.set_cons_zero, List.set_cons_succ]
  refine take_yes (i := 2) (some 26) (.bool false) rfl (by kernel_rfl) (by kernel_rfl) (by kernel_rfl) (by kernel_rfl) (fun _ _ _ h => h) (by kernel_rfl) (fun w _ => by rfl) (by assumption) ?_
  simp only [Act.put, List.setIfInBounds_toArray, List.set_cons_zero, List.set_cons_succ]
  refine take_yes (i := 3) (some 27) (.bool false) rfl (by kernel_rfl) (by kernel_rfl) (by kernel_rfl) (by kernel_rfl) (fun _ _ _ h => h) (by kernel_rfl) (fun w _ => by rfl) (by assumption) ?_
  simp only [Act.put, List.setIfInBounds_toArray, List.set_cons_zero, List.set_cons_succ]
  refine take_yes (i := 4) (some 28) ?_ rfl (by kernel_rfl) (by kernel_rfl) (by kernel_rfl) (by kernel_rfl) (fun _ _ _ h => h) (by kernel_rfl) ?_ (by assumption) ?_
  rotate_left
  · (intro w hSw; (try dsimp only at hSw); go_simp; (try with_reducible rfl))
  simp only [Act.put, List.setIfInBounds_toArray, List.set_cons_zero, List.set_cons_succ]
  refine take_yes (i := 5) (some 29) ?_ rfl (by kernel_rfl) (by kernel_rfl) (by kernel_rfl) (by kernel_rfl) (fun _ _ _ h => h) (by kernel_rfl) ?_ (by assumption) ?_
  rotate_left
  · (intro w hSw; (try dsimp only at hSw); go_simp; (try with_reducible rfl))
  simp only [Act.put, List.setIfInBounds_toArray, List.set_cons_zero, List.set_cons_succ]
  refine take_yes (i := 6) (some 30) ?_ rfl (by kernel_rfl) (by kernel_rfl) (by kernel_rfl) (by kernel_rfl) (fun _ _ _ h => h) (by kernel_rfl) ?_ (by assumption) ?_
  rotate_left
  · (intro w hSw; (try dsimp only at hSw); go_simp; (try with_reducible rfl))
  simp only [Act.put, List.setIfInBounds_toArray, List.set_cons_zero, List.set_cons_succ]
  refine take_yes (i := 7) (some 31) ?_ rfl (by kernel_rfl) (by kernel_rfl) (by kernel_rfl) (by kernel_rfl) (fun _ _ _ h => h) (by kernel_rfl) ?_ (by assumption) ?_
  rotate_left
  · (intro w hSw; (try dsimp only at hSw); go_simp; (try with_reducible rfl))
  simp only [Act.put, List.setIfInBounds_toArray, List.set_cons_zero, List.set_cons_succ]
  refine wpAnyH_ready (rs := [8]) (by kernel_rfl) (by simp) ?_
  refine AllReadyH.cons rfl (fun K hK => ?_) AllReadyH.nil
  rw [if_pos (by rfl)]
  go_simp
  (go_at_call 38; (with_reducible refine (HSP.out _ HR.out HO.out HR2.out HO2.out).mono ?_); rintro e w7 ⟨rfl, hb7⟩; replace z0 := below_cell hb7 z0; replace z1 := below_cell hb7 z1; replace z2 := below_cell hb7 z2; replace z3 := below_cell hb7 z3; replace z4 := below_cell hb7 z4; replace z5 := below_cell hb7 z5; replace z6 := below_cell hb7 z6; replace z7 := below_cell hb7 z7; replace z8 := below_cell hb7 z8; replace z9 := below_cell hb7 z9; replace HR := Lib.hid (HR.out.below hb7); replace HO := Lib.hid (HO.out.below hb7); replace HC := Lib.hid (HC.out.below hb7); replace HR2 := Lib.hid (HR2.out.below hb7); replace HO2 := Lib.hid (HO2.out.below hb7); replace HC2 := Lib.hid (HC2.out.below hb7); replace HA := Lib.hid (HA.out.below hb7); replace HB := Lib.hid (HB.out.below hb7); replace Q1 := Lib.hid ((hb7.block _ (row_lt Q1.out)).trans Q1.out); replace Q2 := Lib.hid ((hb7.block _ (row_lt Q2.out)).trans Q2.out); replace HBB := Lib.hid (HBB.out.trans (hb7.mono HBB.out.size)); clear hb7)
  refine hK.out _ _ (by (try dsimp only); (first | exact ⟨z0, z1, z2, z3, z4, z5, z6, z7, z8, z9⟩ | exact ⟨s0, s1, s2, s3, s4, s5, s6, s7, s8, s9⟩ | go_keep)) (fun hHeld => ?_)
  clear hK K
  try simp only [Act.put, List.setIfInBounds_toArray, List.set_cons_zero, List.set_cons_succ]
  refine take_yes (i := 9) (some 33) (.bool false) rfl (by kernel_rfl) (by kernel_rfl) (by kernel_rfl) (by kernel_rfl) (fun _ _ _ h => h) (by kernel_rfl) (fun w _ => by rfl) (by assumption) ?_
  simp only [Act.put, List.setIfInBounds_toArray, List.set_cons_zero, List.set_cons_succ]
  refine take_yes (i := 10) (some 34) (.bool false) rfl (by kernel_rfl) (by kernel_rfl) (by kernel_rfl) (by kernel_rfl) (fun _ _ _ h => h) (by kernel_rfl) (fun w _ => by rfl) (by assumption) ?_
  simp only [Act.put, List.setIfInBounds_toArray, List.set_cons_zero, List.set_cons_succ]
  refine take_yes (i := 11) (some 35) (.bool false) rfl (by kernel_rfl) (by kernel_rfl) (by kernel_rfl) (by kernel_rfl) (fun _ _ _ h => h) (by kernel_rfl) (fun w _ => by rfl) (by assumption) ?_
  simp only [Act.put, List.setIfInBounds_toArray, List.set_cons_zero, List.set_cons_succ]
  refine take_yes (i := 12) (some 36) ?_ rfl (by kernel_rfl) (by kernel_rfl) (by kernel_rfl) (by kernel_rfl) (fun _ _ _ h => h) (by kernel_rfl) ?_ (by assumption) ?_
  rotate_left
  · (intro w hSw; (try dsimp only at hSw); go_simp; (try with_reducible rfl))
  simp only [Act.put, List.setIfInBounds_toArray, List.set_cons_zero, List.set_cons_succ]
  refine wpAnyH_ready (rs := [13]) (by kernel_rfl) (by simp) ?_
  refine AllReadyH.cons rfl (fun K hK => ?_) AllReadyH.nil
  rw [if_pos (by rfl)]
  go_simp
  (go_at_call 33; (with_reducible refine (HKX.out _ HR2.out HO2.out HC2.out).mono ?_); rintro e w8 ⟨rfl, hb8⟩; replace z0 := below_cell hb8 z0; replace z1 := below_cell hb8 z1; replace z2 := below_cell hb8 z2; replace z3 := below_cell hb8 z3; replace z4 := below_cell hb8 z4; replace z5 := below_cell hb8 z5; replace z6 := below_cell hb8 z6; replace z7 := below_cell hb8 z7; replace z8 := below_cell hb8 z8; replace z9 := below_cell hb8 z9; replace HR := Lib.hid (HR.out.below hb8); replace HO := Lib.hid (HO.out.below hb8); replace HC := Lib.hid (HC.out.below hb8); replace HR2 := Lib.hid (HR2.out.below hb8); replace HO2 := Lib.hid (HO2.out.below hb8); replace HC2 := Lib.hid (HC2.out.below hb8); replace HA := Lib.hid (HA.out.below hb8); replace HB := Lib.hid (HB.out.below hb8); replace Q1 := Lib.hid ((hb8.block _ (row_lt Q1.out)).trans Q1.out); replace Q2 := Lib.hid ((hb8.block _ (row_lt Q2.out)).trans Q2.out); replace HBB := Lib.hid (HBB.out.trans (hb8.mono HBB.out.size)); clear hb8)
  refine hK.out _ _ (by (try dsimp only); (first | exact ⟨z0, z1, z2, z3, z4, z5, z6, z7, z8, z9⟩ | exact ⟨s0, s1, s2, s3, s4, s5, s6, s7, s8, s9⟩ | go_keep)) (fun hHeld => ?_)
  clear hK K
  try simp only [Act.put, List.setIfInBounds_toArray, List.set_cons_zero, List.set_cons_succ]
  refine take_yes (i := 14) (some 38) (.bool false) rfl (by kernel_rfl) (by kernel_rfl) (by kernel_rfl) (by kernel_rfl) (fun _ _ _ h => h) (by kernel_rfl) (fun w _ => by rfl) (by assumption) ?_
  simp only [Act.put, List.setIfInBounds_toArray, List.set_cons_zero, List.set_cons_succ]
  refine take_yes (i := 15) (some 39) (.bool false) rfl (by kernel_rfl) (by kernel_rfl) (by kernel_rfl) (by kernel_rfl) (fun _ _ _ h => h) (by kernel_rfl) (fun w _ => by rfl) (by assumption) ?_
  simp only [Act.put, List.setIfInBounds_toArray, List.set_cons_zero, List.set_cons_succ]
  refine take_yes (i := 16) (some 40) (.bool false) rfl (by kernel_rfl) (by kernel_rfl) (by kernel_rfl) (by kernel_rfl) (fun _ _ _ h => h) (by kernel_rfl) (fun w _ => by rfl) (by assumption) ?_
  simp only [Act.put, List.setIfInBounds_toArray, List.set_cons_zero, List.set_cons_succ]
  refine take_yes (i := 17) (some 41) ?_ rfl (by kernel_rfl) (by kernel_rfl) (by kernel_rfl) (by kernel_rfl) (fun _ _ _ h => h) (by kernel_rfl) ?_ (by assumption) ?_
  rotate_left
  · (intro w hSw; (try dsimp only at hSw); go_simp; (try with_reducible rfl))
  simp only [Act.put, List.setIfInBounds_toArray, List.set_cons_zero, List.set_cons_succ]
  refine take_yes (i := 18) (some 42) ?_ rfl (by kernel_rfl) (by kernel_rfl) (by kernel_rfl) (by kernel_rfl) (fun _ _ _ h => h) (by kernel_rfl) ?_ (by assumption) ?_
  rotate_left
  · (intro w hSw; (try dsimp only at hSw); go_simp; (try with_reducible rfl))
  simp only [Act.put, List.setIfInBounds_toArray, List.set_cons_zero, List.set_cons_succ]
  refine take_yes (i := 19) (some 43) ?_ rfl (by kernel_rfl) (by kernel_rfl) (by kernel_rfl) (by kernel_rfl) (fun _ _ _ h => h) (by kernel_rfl) ?_ (by assumption) ?_
  rotate_left
  · (intro w hSw; (try dsimp only at hSw); go_simp; (try with_reducible rfl))
  simp only [Act.put, List.setIfInBounds_toArray, List.set_cons_zero, List.set_cons_succ]
  refine take_yes (i := 20) (some 44) ?_ rfl (by kernel_rfl) (by kernel_rfl) (by kernel_rfl) (by kernel_rfl) (fun _ _ _ h => h) (by kernel_rfl) ?_ (by assumption) ?_
  rotate_left
  · (intro w hSw; (try dsimp only at hSw); go_simp; (try with_reducible rfl))
  simp only [Act.put, List.setIfInBounds_toArray, List.set_cons_zero, List.set_cons_succ]
  refine take_yes (i := 21) (some 45) ?_ rfl (by kernel_rfl) (by kernel_rfl) (by kernel_rfl) (by kernel_rfl) (fun _ _ _ h => h) (by kernel_rfl) ?_ (by assumption) ?_
  rotate_left
  · (intro w hSw; (try dsimp only at hSw); go_simp; (try with_reducible rfl))
  simp only [Act.put, List.setIfInBounds_toArray, List.set_cons_zero, List.set_cons_succ]
  refine take_yes (i := 22) (some 46) ?_ rfl (by kernel_rfl) (by kernel_rfl) (by kernel_rfl) (by kernel_rfl) (fun _ _ _ h => h) (by kernel_rfl) ?_ (by assumption) ?_
  rotate_left
  · (intro w hSw; (try dsimp only at hSw); go_simp; (try with_reducible rfl))
  simp only [Act.put, List.setIfInBounds_toArray, List.set_cons_zero, List.set_cons_succ]
  refine take_yes (i := 23) (some 47) ?_ rfl (by kernel_rfl) (by kernel_rfl) (by kernel_rfl) (by kernel_rfl) (fun _ _ _ h => h) (by kernel_rfl) ?_ (by assumption) ?_
  rotate_left
  · (intro w hSw; (try dsimp only at hSw); go_simp; (try with_reducible rfl))
  simp only [Act.put, List.setIfInBounds_toArray, List.set_cons_zero, List.set_cons_succ]
  refine take_yes (i := 24) (some 48) ?_ rfl (by kernel_rfl) (by kernel_rfl) (by kernel_rfl) (by kernel_rfl) (fun _ _ _ h => h) (by kernel_rfl) ?_ (by assumption) ?_
  rotate_left
  · (intro w hSw; (try dsimp only at hSw); go_simp; (try with_reducible rfl))
  simp only [Act.put, List.setIfInBounds_toArray, List.set_cons_zero, List.set_cons_succ]
  refine take_yes (i := 25) (some 49) ?_ rfl (by kernel_rfl) (by kernel_rfl) (by kernel_rfl) (by kernel_rfl) (fun _ _ _ h => h) (by kernel_rfl) ?_ (by assumption) ?_
  rotate_left
  · (intro w hSw; (try dsimp only at hSw); go_simp; (try with_reducible rfl))
  simp only [Act.put, List.setIfInBounds_toArray, List.set_cons_zero, List.set_cons_succ]
  refine take_yes (i := 26) (some 50) (.bool false) rfl (by kernel_rfl) (by kernel_rfl) (by kernel_rfl) (by kernel_rfl) (fun _ _ _ h => h) (by kernel_rfl) (fun w _ => by rfl) (by assumption) ?_
  simp only [Act.put, List.setIfInBounds_toArray, List.set_cons_zero, List.set_cons_succ]
  refine take_yes (i := 27) (some 51) (.bool false) rfl (by kernel_rfl) (by kernel_rfl) (by kernel_rfl) (by kernel_rfl) (fun _ _ _ h => h) (by kernel_rfl) (fun w _ => by rfl) (by assumption) ?_
  simp only [Act.put, List.setIfInBounds_toArray, List.set_cons_zero, List.set_cons_succ]
  refine take_yes (i := 28) (some 52) ?_ rfl (by kernel_rfl) (by kernel_rfl) (by kernel_rfl) (by kernel_rfl) (fun _ _ _ h => h) (by kernel_rfl) ?_ (by assumption) ?_
  rotate_left
  · (intro w hSw; (try dsimp only at hSw); go_simp; (try with_reducible rfl))
  simp only [Act.put, List.setIfInBounds_toArray, List.set_cons_zero, List.set_cons_succ]
  refine take_yes (i := 29) (some 53) ?_ rfl (by kernel_rfl) (by kernel_rfl) (by kernel_rfl) (by kernel_rfl) (fun _ _ _ h => h) (by kernel_rfl) ?_ (by assumption) ?_
  rotate_left
  · (intro w hSw; (try dsimp only at hSw); go_simp; (try with_reducible rfl))
  simp only [Act.put, List.setIfInBounds_toArray, List.set_cons_zero, List.set_cons_succ]
  refine take_yes (i := 30) (some 54) ?_ rfl (by kernel_rfl) (by kernel_rfl) (by kernel_rfl) (by kernel_rfl) (fun _ _ _ h => h) (by kernel_rfl) ?_ (by assumption) ?_
  rotate_left
  · (intro w hSw; (try dsimp only at hSw); go_simp; (try with_reducible rfl))
  simp only [Act.put, List.setIfInBounds_toArray, List.set_cons_zero, List.set_cons_succ]
  refine take_yes (i := 31) (some 55) ?_ rfl (by kernel_rfl) (by kernel_rfl) (by kernel_rfl) (by kernel_rfl) (fun _ _ _ h => h) (by kernel_rfl) ?_ (by assumption) ?_
  rotate_left
  · (intro w hSw; (try dsimp only at hSw); go_simp; (try with_reducible rfl))
  simp only [Act.put, List.setIfInBounds_toArray, List.set_cons_zero, List.set_cons_succ]
  refine take_yes (i := 32) (some 56) ?_ rfl (by kernel_rfl) (by kernel_rfl) (by kernel_rfl) (by kernel_rfl) (fun _ _ _ h => h) (by kernel_rfl) ?_ (by assumption) ?_
  rotate_left
  · (intro w hSw; (try dsimp only at hSw); go_simp; (try with_reducible rfl))
  simp only [Act.put, List.setIfInBounds_toArray, List.set_cons_zero, List.set_cons_succ]
  refine take_yes (i := 33) (some 57) (.bool false) rfl (by kernel_rfl) (by kernel_rfl) (by kernel_rfl) (by kernel_rfl) (fun _ _ _ h => h) (by kernel_rfl) (fun w _ => by rfl) (by assumption) ?_
  simp only [Act.put, List.setIfInBounds_toArray, List.set_cons_zero, List.set_cons_succ]
  refine wpAnyH_done (by kernel_rfl) ?_ _
  clear hHeld
  clear s0 z0 s1 z1 s2 z2 s3 z3 s4 z4 s5 z5 s6 z6 s7 z7 s8 z8 s9 z9
  have HFEW := Lib.hid (progE_ok HP0.out).few
  have c1 := row_cell Q1.out (k := 1) rfl
  have c2 := row_cell Q1.out (k := 2) rfl
  have c3 := row_cell Q1.out (k := 3) rfl
  go_wp2_with fail
  clear c1 c2 c3
  with_reducible refine (rfit_any _ _ _ _ rows owners cs a _ HR.out HO.out HC.out HA.out HD1.out).mono ?_
  rintro e w9 ⟨rfl, hb9⟩
  replace HR := Lib.hid (HR.out.below hb9)
  replace HO := Lib.hid (HO.out.below hb9)
  replace HC := Lib.hid (HC.out.below hb9)
  replace HR2 := Lib.hid (HR2.out.below hb9)
  replace HO2 := Lib.hid (HO2.out.below hb9)
  replace HC2 := Lib.hid (HC2.out.below hb9)
  replace HA := Lib.hid (HA.out.below hb9)
  replace HB := Lib.hid (HB.out.below hb9)
  replace Q1 := Lib.hid ((hb9.block _ (row_lt Q1.out)).trans Q1.out)
  replace Q2 := Lib.hid ((hb9.block _ (row_lt Q2.out)).trans Q2.out)
  replace HBB := Lib.hid (HBB.out.trans (hb9.mono HBB.out.size))
  clear hb9
  cases hf1 : fitL rows cs a with
  | false =>
    have HV : Hid (mixE rows owners ep cs rows owners ep2 cs2 a b = 340) := Lib.hid (HE.out.trans (if_pos (.inl hf1)))
    clear hf1
    go_wp2_with fail
    go_ret2
    exact ⟨mix_off HV.out (by decide), HBB.out⟩
  | true =>
  have e1 := row_cell Q2.out (k := 1) rfl
  have e2 := row_cell Q2.out (k := 2) rfl
  have e3 := row_cell Q2.out (k := 3) rfl
  go_wp2_with fail
  clear e1 e2 e3
  with_reducible refine (rfit_any _ _ _ _ rows owners cs2 b _ HR2.out HO2.out HC2.out HB.out HD2.out).mono ?_
  rintro e w10 ⟨rfl, hb10⟩
  replace HR := Lib.hid (HR.out.below hb10)
  replace HO := Lib.hid (HO.out.below hb10)
  replace HC := Lib.hid (HC.out.below hb10)
  replace HR2 := Lib.hid (HR2.out.below hb10)
  replace HO2 := Lib.hid (HO2.out.below hb10)
  replace HC2 := Lib.hid (HC2.out.below hb10)
  replace HA := Lib.hid (HA.out.below hb10)
  replace HB := Lib.hid (HB.out.below hb10)
  replace Q1 := Lib.hid ((hb10.block _ (row_lt Q1.out)).trans Q1.out)
  replace Q2 := Lib.hid ((hb10.block _ (row_lt Q2.out)).trans Q2.out)
  replace HBB := Lib.hid (HBB.out.trans (hb10.mono HBB.out.size))
  clear hb10
  cases hf2 : fitL rows cs2 b with
  | false =>
    have HV : Hid (mixE rows owners ep cs rows owners ep2 cs2 a b = 340) := Lib.hid (HE.out.trans (if_pos (.inr hf2)))
    clear hf1 hf2
    go_wp2_with fail
    go_ret2
    exact ⟨mix_off HV.out (by decide), HBB.out⟩
  | true =>
  replace HE := Lib.hid (HE.out.trans (if_neg (by rw [hf1, hf2]; decide)))
  have hsa := fitL_shares hf1
  have hsb := fitL_shares hf2
  have hla := sharesB_len hsa
  have hlb := sharesB_len hsb
  have HMG := Lib.hid (fun ww h1 h2 => rMerged_any (.slice a7 a.length k7) (.slice a8 b.length k8) rows a b ww h1 h2 hsa hsb ⟨by have := HFEW.out; omega, by have := HFEW.out; omega⟩)
  clear hla hlb hf1 hf2 hsa hsb
  go_wp2_with fail
  with_reducible refine (HMG.out _ HA.out HB.out).mono ?_
  rintro e w11 ⟨hm1, hm2, hb11⟩
  replace HR := Lib.hid (HR.out.below hb11)
  replace HO := Lib.hid (HO.out.below hb11)
  replace HC := Lib.hid (HC.out.below hb11)
  replace HR2 := Lib.hid (HR2.out.below hb11)
  replace HO2 := Lib.hid (HO2.out.below hb11)
  replace HC2 := Lib.hid (HC2.out.below hb11)
  replace HA := Lib.hid (HA.out.below hb11)
  replace HB := Lib.hid (HB.out.below hb11)
  replace Q1 := Lib.hid ((hb11.block _ (row_lt Q1.out)).trans Q1.out)
  replace Q2 := Lib.hid ((hb11.block _ (row_lt Q2.out)).trans Q2.out)
  replace HBB := Lib.hid (HBB.out.trans (hb11.mono HBB.out.size))
  clear hb11
  cases hsm : sharesB rows (-1) (mrgL a b) with
  | false =>
    obtain rfl := hm2 hsm
    have HV : Hid (mixE rows owners ep cs rows owners ep2 cs2 a b = 340) := Lib.hid (HE.out.trans (by unfold recE; rw [if_neg (by simp [HP0.out]), hsm]; rfl))
    clear hm1 hm2 hsm
    go_wp2_with fail
    go_ret2
    exact ⟨mix_off HV.out (by decide), HBB.out⟩
  | true =>
    obtain ⟨mv, rfl, hms⟩ := hm1 hsm
    have HM := Lib.hid hms
    obtain ⟨ma, mk, rfl, -⟩ := id hms
    have hre : recE rows owners (mrgL a b) = 0 := by unfold recE; rw [if_neg (by simp [HP0.out]), hsm]; rfl
    have HV := Lib.hid (HE.out.trans hre)
    have HRC := Lib.hid (fun ww h1 h2 h3 => rRecover_any (.slice a1 rows.length k1) (.slice a2 owners.length k2) (.slice ma (mrgL a b).length mk) rows owners (mrgL a b) ww h1 h2 h3)
    rw [hre] at HRC
    clear hm1 hm2 hsm hms hre HE
    have HON := Lib.hid (fun t h => mix_on (t := t) HV.out h)
    have HN64 := Lib.hid (recV_r64 rows owners (mrgL a b))
    rw [← HX.out] at HON
    generalize recV rows owners (mrgL a b) = n at *
    generalize recB rows owners (mrgL a b) = t at *
    obtain ⟨ML, hML⟩ : ∃ ML, ML = mrgL a b := ⟨_, rfl⟩
    rw [← hML] at HM HRC ⊢
    have HMLX := Lib.hid hML
    clear hML
    have c1 := row_cell Q1.out (k := 1) rfl
    have c2 := row_cell Q1.out (k := 2) rfl
    go_wp2_with fail
    clear c1 c2
    with_reducible refine (HRC.out _ HR.out HO.out HM.out).mono ?_
    rintro e w12 ⟨rfl, hb12⟩
    replace HR := Lib.hid (HR.out.below hb12)
    replace HO := Lib.hid (HO.out.below hb12)
    replace HC := Lib.hid (HC.out.below hb12)
    replace HR2 := Lib.hid (HR2.out.below hb12)
    replace HO2 := Lib.hid (HO2.out.below hb12)
    replace HC2 := Lib.hid (HC2.out.below hb12)
    replace HA := Lib.hid (HA.out.below hb12)
    replace HB := Lib.hid (HB.out.below hb12)
    replace HM := Lib.hid (HM.out.below hb12)
    replace Q1 := Lib.hid ((hb12.block _ (row_lt Q1.out)).trans Q1.out)
    replace Q2 := Lib.hid ((hb12.block _ (row_lt Q2.out)).trans Q2.out)
    replace HBB := Lib.hid (HBB.out.trans (hb12.mono HBB.out.size))
    clear hb12
    go_wp2_with fail
    with_reducible refine (rpow_yes 4 n _ el_four HN64.out).mono ?_
    rintro e w13 ⟨rfl, rfl⟩
    generalize powE 4 n = g at *
    cases t with
    | false =>
      go_wp2_with fail
      go_ret2
      exact ⟨HON.out _ rfl, HBB.out⟩
    | true =>
    have c3 := row_cell Q1.out (k := 3) rfl
    obtain ⟨-, b9, o9, n9, k9, e9, x8⟩ := HC.out.get j3
    simp only [Value.slice.injEq, Option.some.injEq, Addr.mk.injEq] at e9
    obtain ⟨⟨rfl, rfl, -⟩, -, -⟩ := e9
    rw [Nat.add_zero, ← HX.out] at x8
    cases hg : g == x with
    | false =>
      have HG := Lib.hid hg
      go_wp2_with fail
      go_ret2
      exact ⟨HON.out _ (by rw [HG.out]; rfl), HBB.out⟩
    | true =>
      have HG := Lib.hid hg
      go_wp2_with fail
      go_ret2
      exact ⟨HON.out _ (by rw [HG.out]; rfl), HBB.out⟩

end Go.Proofs.YtnbkbnbmmkfckaaGreat

namespace Go.Proofs.YtnbkbnbmmkfckaaGreat
open Go.RowKit FP

set_option maxRecDepth 100000 in
set_option maxHeartbeats 16000000 in
theorem renewalMixesSpec_any (rv ov cv rv2 ov2 cv2 av bv : Value) (ep : Int) (rows : List (List Int)) (owners cs : List Int) (ep2 : Int) (rows2 : List (List Int)) (owners2 cs2 : List Int) (a b : List (Int × Int)) (w : World) (_hep : R64 ep) (hR : Rows2 w rv rows) (hO : Ints w ov owners) (hC : Ints w cv cs) (_hep2 : R64 ep2) (hR2 : Rows2 w rv2 rows2) (hO2 : Ints w ov2 owners2) (hC2 : Ints w cv2 cs2) (hA : Shares w av a) (hB : Shares w bv b) :
    Calls Tryz.prog 4 #[.agg #[.int .i64 ep, rv, ov, cv], .agg #[.int .i64 ep2, rv2, ov2, cv2], av, bv] w fun e w' => e = .returned (.bool true) ∧ Below w.heap.size w w' := by
  obtain ⟨W0, hW0, hb0, hr0, hs0⟩ := box_key w (.int .i64 ep) rv ov cv 27
  obtain ⟨W1, hW1, hb1, hr1, hs1⟩ := box_key W0 (.int .i64 ep2) rv2 ov2 cv2 27
  have hb : Below w.heap.size w W1 := hb0.trans (hb1.mono hb0.size)
  have HR := Lib.hid (hR.below hb)
  have HO := Lib.hid (hO.below hb)
  have HC := Lib.hid (hC.below hb)
  have HR2 := Lib.hid (hR2.below hb)
  have HO2 := Lib.hid (hO2.below hb)
  have HC2 := Lib.hid (hC2.below hb)
  have HA := Lib.hid (hA.below hb)
  have HB := Lib.hid (hB.below hb)
  obtain ⟨a1, k1, rfl, -, hl1, -⟩ := id hR
  obtain ⟨a2, k2, rfl, -, hl2, -⟩ := id hO
  obtain ⟨a3, k3, rfl, -, hl3, -⟩ := id hC
  obtain ⟨a4, k4, rfl, -, hl4, -⟩ := id hR2
  obtain ⟨a5, k5, rfl, -, hl5, -⟩ := id hO2
  obtain ⟨a6, k6, rfl, -, hl6, -⟩ := id hC2
  obtain ⟨a7, k7, rfl, -, hl7, -⟩ := id hA
  obtain ⟨a8, k8, rfl, -, hl8, -⟩ := id hB
  have Q1 := Lib.hid ((hb1.block _ (row_lt hr0)).trans hr0)
  rw [hs0] at hr1
  have Q2 := Lib.hid hr1
  rw [hW0] at hW1
  have HW1 := Lib.hid hW1
  have HBB := Lib.hid hb
  have HS := Lib.hid (sane38_any W1)
  clear hR hO hC hR2 hO2 hC2 hA hB hb hb0 hb1 hr0 hr1 hW0 hW1 hs0 hs1
  have HF1 := Lib.hid (fun W h1 h2 h3 h4 => rfew38_any ep (.slice a1 rows.length k1) (.slice a2 owners.length k2) (.slice a3 cs.length k3) (.slice a7 a.length k7) (.slice none 0 0) (.slice none 0 0) rows owners cs a [] [] W h1 h2 h3 h4 (Rows2.nil W none 0) (SRows.nil W none 0))
  have HF2 := Lib.hid (fun W h1 h2 h3 h4 => rfew38_any ep2 (.slice a4 rows2.length k4) (.slice a5 owners2.length k5) (.slice a6 cs2.length k6) (.slice a8 b.length k8) (.slice none 0 0) (.slice none 0 0) rows2 owners2 cs2 b [] [] W h1 h2 h3 h4 (Rows2.nil W none 0) (SRows.nil W none 0))
  go_enter Tryz.func4, Tryz.ntmps4
  go_wp2_with (rw [← HW1.out])
  with_reducible refine (HS.out).mono ?_
  rintro e w2 ⟨rfl, hb2⟩
  replace HR := Lib.hid (HR.out.below hb2)
  replace HO := Lib.hid (HO.out.below hb2)
  replace HC := Lib.hid (HC.out.below hb2)
  replace HR2 := Lib.hid (HR2.out.below hb2)
  replace HO2 := Lib.hid (HO2.out.below hb2)
  replace HC2 := Lib.hid (HC2.out.below hb2)
  replace HA := Lib.hid (HA.out.below hb2)
  replace HB := Lib.hid (HB.out.below hb2)
  replace Q1 := Lib.hid ((hb2.block _ (row_lt Q1.out)).trans Q1.out)
  replace Q2 := Lib.hid ((hb2.block _ (row_lt Q2.out)).trans Q2.out)
  replace HBB := Lib.hid (HBB.out.trans (hb2.mono HBB.out.size))
  clear hb2
  have c0 := row_cell Q1.out (k := 0) (v := .int .i64 ep) rfl
  have c1 := row_cell Q1.out (k := 1) (v := .slice a1 rows.length k1) rfl
  have c2 := row_cell Q1.out (k := 2) (v := .slice a2 owners.length k2) rfl
  have c3 := row_cell Q1.out (k := 3) (v := .slice a3 cs.length k3) rfl
  have d0 := row_cell Q2.out (k := 0) (v := .int .i64 ep2) rfl
  have d1 := row_cell Q2.out (k := 1) (v := .slice a4 rows2.length k4) rfl
  have d2 := row_cell Q2.out (k := 2) (v := .slice a5 owners2.length k5) rfl
  have d3 := row_cell Q2.out (k := 3) (v := .slice a6 cs2.length k6) rfl
  go_wp2_with fail
  with_reducible refine (HF1.out _ HR.out HO.out HC.out HA.out).mono ?_
  rintro e w3 ⟨t, rfl, hb3⟩
  replace c0 := below_cell hb3 c0
  replace c1 := below_cell hb3 c1
  replace c2 := below_cell hb3 c2
  replace c3 := below_cell hb3 c3
  replace d0 := below_cell hb3 d0
  replace d1 := below_cell hb3 d1
  replace d2 := below_cell hb3 d2
  replace d3 := below_cell hb3 d3
  replace HR := Lib.hid (HR.out.below hb3)
  replace HO := Lib.hid (HO.out.below hb3)
  replace HC := Lib.hid (HC.out.below hb3)
  replace HR2 := Lib.hid (HR2.out.below hb3)
  replace HO2 := Lib.hid (HO2.out.below hb3)
  replace HC2 := Lib.hid (HC2.out.below hb3)
  replace HA := Lib.hid (HA.out.below hb3)
  replace HB := Lib.hid (HB.out.below hb3)
  replace Q1 := Lib.hid ((hb3.block _ (row_lt Q1.out)).trans Q1.out)
  replace Q2 := Lib.hid ((hb3.block _ (row_lt Q2.out)).trans Q2.out)
  replace HBB := Lib.hid (HBB.out.trans (hb3.mono HBB.out.size))
  clear hb3
  cases t with
  | false =>
    go_wp2_with fail
    go_ret
    exact ⟨rfl, HBB.out⟩
  | true =>
  go_wp2_with fail
  with_reducible refine (HF2.out _ HR2.out HO2.out HC2.out HB.out).mono ?_
  rintro e w4 ⟨t, rfl, hb4⟩
  replace c0 := below_cell hb4 c0
  replace c1 := below_cell hb4 c1
  replace c2 := below_cell hb4 c2
  replace c3 := below_cell hb4 c3
  replace d0 := below_cell hb4 d0
  replace d1 := below_cell hb4 d1
  replace d2 := below_cell hb4 d2
  replace d3 := below_cell hb4 d3
  replace HR := Lib.hid (HR.out.below hb4)
  replace HO := Lib.hid (HO.out.below hb4)
  replace HC := Lib.hid (HC.out.below hb4)
  replace HR2 := Lib.hid (HR2.out.below hb4)
  replace HO2 := Lib.hid (HO2.out.below hb4)
  replace HC2 := Lib.hid (HC2.out.below hb4)
  replace HA := Lib.hid (HA.out.below hb4)
  replace HB := Lib.hid (HB.out.below hb4)
  replace Q1 := Lib.hid ((hb4.block _ (row_lt Q1.out)).trans Q1.out)
  replace Q2 := Lib.hid ((hb4.block _ (row_lt Q2.out)).trans Q2.out)
  replace HBB := Lib.hid (HBB.out.trans (hb4.mono HBB.out.size))
  clear hb4
  cases t with
  | false =>
    go_wp2_with fail
    go_ret
    exact ⟨rfl, HBB.out⟩
  | true =>
  have HM1 := Lib.hid (fun W h1 h2 h3 h4 h5 h6 h7 h8 => mixes_any ep ep2 (.slice a1 rows.length k1) (.slice a2 owners.length k2) (.slice a3 cs.length k3) (.slice a4 rows2.length k4) (.slice a5 owners2.length k5) (.slice a6 cs2.length k6) (.slice a7 a.length k7) (.slice a8 b.length k8) rows rows2 owners owners2 cs cs2 a b W h1 h2 h3 h4 h5 h6 h7 h8)
  have HM2 := Lib.hid (fun W h1 h2 h3 h4 h5 h6 h7 h8 => rMixes_any ep ep2 (.slice a1 rows.length k1) (.slice a2 owners.length k2) (.slice a3 cs.length k3) (.slice a4 rows2.length k4) (.slice a5 owners2.length k5) (.slice a6 cs2.length k6) (.slice a7 a.length k7) (.slice a8 b.length k8) rows rows2 owners owners2 cs cs2 a b W h1 h2 h3 h4 h5 h6 h7 h8)
  generalize mixB rows owners ep cs rows2 owners2 ep2 cs2 a b = mb at *
  generalize mixE rows owners ep cs rows2 owners2 ep2 cs2 a b = me at *
  have e1 : (mb == mb) = true := beq_self_eq_true _
  have e2 : (me == me) = true := beq_self_eq_true _
  go_wp2_with fail
  with_reducible refine (HM1.out _ HR.out HO.out HC.out HR2.out HO2.out HC2.out HA.out HB.out).mono ?_
  rintro e w5 ⟨rfl, hb5⟩
  replace c0 := below_cell hb5 c0
  replace c1 := below_cell hb5 c1
  replace c2 := below_cell hb5 c2
  replace c3 := below_cell hb5 c3
  replace d0 := below_cell hb5 d0
  replace d1 := below_cell hb5 d1
  replace d2 := below_cell hb5 d2
  replace d3 := below_cell hb5 d3
  replace HR := Lib.hid (HR.out.below hb5)
  replace HO := Lib.hid (HO.out.below hb5)
  replace HC := Lib.hid (HC.out.below hb5)
  replace HR2 := Lib.hid (HR2.out.below hb5)
  replace HO2 := Lib.hid (HO2.out.below hb5)
  replace HC2 := Lib.hid (HC2.out.below hb5)
  replace HA := Lib.hid (HA.out.below hb5)
  replace HB := Lib.hid (HB.out.below hb5)
  replace Q1 := Lib.hid ((hb5.block _ (row_lt Q1.out)).trans Q1.out)
  replace Q2 := Lib.hid ((hb5.block _ (row_lt Q2.out)).trans Q2.out)
  replace HBB := Lib.hid (HBB.out.trans (hb5.mono HBB.out.size))
  clear hb5
  go_wp2_with fail
  with_reducible refine (HM2.out _ HR.out HO.out HC.out HR2.out HO2.out HC2.out HA.out HB.out).mono ?_
  rintro e w6 ⟨rfl, hb6⟩
  replace c0 := below_cell hb6 c0
  replace c1 := below_cell hb6 c1
  replace c2 := below_cell hb6 c2
  replace c3 := below_cell hb6 c3
  replace d0 := below_cell hb6 d0
  replace d1 := below_cell hb6 d1
  replace d2 := below_cell hb6 d2
  replace d3 := below_cell hb6 d3
  replace HR := Lib.hid (HR.out.below hb6)
  replace HO := Lib.hid (HO.out.below hb6)
  replace HC := Lib.hid (HC.out.below hb6)
  replace HR2 := Lib.hid (HR2.out.below hb6)
  replace HO2 := Lib.hid (HO2.out.below hb6)
  replace HC2 := Lib.hid (HC2.out.below hb6)
  replace HA := Lib.hid (HA.out.below hb6)
  replace HB := Lib.hid (HB.out.below hb6)
  replace Q1 := Lib.hid ((hb6.block _ (row_lt Q1.out)).trans Q1.out)
  replace Q2 := Lib.hid ((hb6.block _ (row_lt Q2.out)).trans Q2.out)
  replace HBB := Lib.hid (HBB.out.trans (hb6.mono HBB.out.size))
  clear hb6
  go_wp2_with fail
  go_ret
  exact ⟨rfl, HBB.out⟩

end Go.Proofs.YtnbkbnbmmkfckaaGreat
