/- The reference of equal: text, Prove, Check. The reference of dealing: Public, share, Fits, Few. -/
import Derived.Test.YtggnipkfliompaaGreatDoorMRefM
import Derived.Test.YtggnipkfliompaaGreatDoorMRefI
import Derived.Test.YtggnipkfliompaaGreatDoorMCoI
import Derived.Test.YtggnipkfliompaaGreatDoorMSane
namespace Go.Proofs.YtggnipkfliompaaGreatDoor
open Go.RowKit FP

set_option maxRecDepth 100000 in
set_option maxHeartbeats 2000000 in
theorem rtext12_any (v : Value) (zs : List Int) (w : World) (hI : Ints w v zs) (hl : zs.length ≤ 1000) :
    Calls Tryz.prog 138 #[v] w fun e w' => ∃ v', e = .returned v' ∧ Byts w' v' (encL zs) ∧ Below w.heap.size w w' := by
  have HT := Lib.hid (rInts_any v zs w hI hl)
  obtain ⟨a, cap, rfl, -⟩ := hI
  go_enter Tryz.func138, Tryz.ntmps138
  go_wp2_with fail
  refine HT.out.mono ?_
  rintro e w1 ⟨lv, rfl, hv1, hb1⟩
  have HV := Lib.hid hv1
  clear hv1
  go_wp2_with fail
  refine (rEncode_any lv zs _ HV.out).mono ?_
  rintro e w2 ⟨v2, rfl, hv2, hb2⟩
  have HV2 := Lib.hid hv2
  clear hv2
  go_wp2_with fail
  go_ret
  exact ⟨_, rfl, HV2.out, hb1.trans (hb2.mono hb1.size)⟩

set_option maxRecDepth 100000 in
theorem rmod12_any (n : Int) (w : World) (h : 0 ≤ n) :
    Calls Tryz.prog 139 #[.int .i64 n] w fun e w' => e = .returned (.int .i64 (n % 1073741789)) ∧ w = w' := by
  have ht : Int.tmod n 1073741789 = n % 1073741789 := Int.tmod_eq_emod_of_nonneg h
  go_enter Tryz.func139, Tryz.ntmps139
  go_wp2_with fail
  go_ret
  exact ⟨rfl, rfl⟩

set_option maxRecDepth 100000 in
set_option maxHeartbeats 4000000 in
theorem rprove_yes (x a : Int) (w : World) (h1 : 1 ≤ x) (h2 : x < 1073741789) (ha : El a) :
    Calls Tryz.prog 63 #[.int .i64 x, .int .i64 a] w fun e w' => e = .returned (.tuple #[.int .i64 (powE a x), .agg #[.int .i64 (prE x a), .int .i64 (prS x a)], .int .i64 0]) ∧ Below w.heap.size w w' := by
  obtain ⟨W1, hW1, hb1, hr1⟩ := below_cells2 w 32
  have HW1 := Lib.hid hW1
  have Q := Lib.hid hr1
  have HB := Lib.hid hb1
  have hx64 : R64 x := ⟨by omega, by omega⟩
  obtain ⟨n1, n2⟩ := prN_num x a
  have hN64 : R64 (prN x a) := ⟨by omega, by omega⟩
  have HNV : Hid (max 1 (hashG (strB tagN) (encL [x, a])) = prN x a) := Lib.hid rfl
  obtain ⟨E1, E2⟩ := prE_num x a
  have HEV : Hid (chal (powE 4 x) a (powE a x) (powE 4 (prN x a)) (powE a (prN x a)) = prE x a) := Lib.hid rfl
  have HSV : Hid ((prN x a + prE x a * x % 1073741789) % 1073741789 = prS x a) := Lib.hid (by unfold prS; omega)
  have hm1 : 0 ≤ prE x a * x := Int.mul_nonneg E1 (by omega)
  have hm2 : prE x a * x ≤ 1073741789 * 1073741789 := Int.mul_le_mul (by omega) (by omega) (by omega) (by omega)
  have HM1 := Lib.hid hm1
  have HM2 : Hid (prE x a * x ≤ 1152921429444920521) := Lib.hid (by omega)
  generalize prN x a = kk at *
  generalize prE x a = EE at *
  generalize prS x a = SS at *
  have hI := Lib.hid (ints_made W1 [x, a] 3 W1.heap.size rfl (by intro z hz; simp at hz; rcases hz with rfl | rfl; exact hx64; exact ha.r64) (by simp))
  have hbn := below_new W1 #[.int .i64 x, .int .i64 a] 3
  replace HB := Lib.hid (HB.out.trans (hbn.mono HB.out.size))
  replace Q := Lib.hid ((hbn.block _ (row_lt Q.out)).trans Q.out)
  clear hm1 hm2 hW1 hb1 hr1 hbn
  go_enter Tryz.func63, Tryz.ntmps63
  go_wp2_with (rw [← HW1.out])
  with_reducible refine (rpow_yes 4 x _ el_four hx64).mono ?_
  rintro e w3 ⟨rfl, rfl⟩
  go_wp2_with fail
  with_reducible refine (rpow_yes a x _ ha hx64).mono ?_
  rintro e w3 ⟨rfl, rfl⟩
  go_wp2_with fail
  refine (rtext12_any _ [x, a] _ hI.out (by simp)).mono ?_
  rintro e w4 ⟨v4, rfl, hv4, hb4⟩
  replace HB := Lib.hid (HB.out.trans (hb4.mono HB.out.size))
  replace Q := Lib.hid ((hb4.block _ (row_lt Q.out)).trans Q.out)
  have HV4 := Lib.hid hv4
  clear hv4 hb4 hI HW1
  go_wp2_with fail
  refine (rhash_any tagN v4 (encL [x, a]) _ (by decide) (by decide) HV4.out (encL_pos _) (by have := encL_len (zs := [x, a]) (by intro z hz; simp at hz; rcases hz with rfl | rfl; exact hx64; exact ha.r64) (by simp); simp at this; omega)).mono ?_
  rintro e w5 ⟨rfl, hb5⟩
  replace HB := Lib.hid (HB.out.trans (hb5.mono HB.out.size))
  replace Q := Lib.hid ((hb5.block _ (row_lt Q.out)).trans Q.out)
  clear HV4 hb5
  have hhn := hashG_num (strB tagN) (encL [x, a])
  generalize hashG (strB tagN) (encL [x, a]) = hh at *
  by_cases h0 : hh = 0
  · subst h0
    obtain rfl : kk = 1 := by have := HNV.out; omega
    clear HNV hhn
    go_wp2_with fail
    with_reducible refine (rpow_yes 4 1 _ el_four hN64).mono ?_
    rintro e w6 ⟨rfl, rfl⟩
    go_wp2_with fail
    with_reducible refine (rpow_yes a 1 _ ha hN64).mono ?_
    rintro e w6 ⟨rfl, rfl⟩
    have HL5 := Lib.hid (show ∀ z ∈ [powE 4 x, a, powE a x, powE 4 1, powE a 1], R64 z by intro z hz; simp at hz; rcases hz with rfl | rfl | rfl | rfl | rfl; exact (el_powE el_four x).r64; exact ha.r64; exact (el_powE ha x).r64; exact (el_powE el_four 1).r64; exact (el_powE ha 1).r64)
    have hI := Lib.hid (ints_made w5 [powE 4 x, a, powE a x, powE 4 1, powE a 1] 3 w5.heap.size rfl HL5.out (by simp))
    have hbn := below_new w5 #[.int .i64 (powE 4 x), .int .i64 a, .int .i64 (powE a x), .int .i64 (powE 4 1), .int .i64 (powE a 1)] 3
    replace HB := Lib.hid (HB.out.trans (hbn.mono HB.out.size))
    replace Q := Lib.hid ((hbn.block _ (row_lt Q.out)).trans Q.out)
    clear hbn
    go_wp2_with fail
    refine (rtext12_any _ [powE 4 x, a, powE a x, powE 4 1, powE a 1] _ hI.out (by simp)).mono ?_
    rintro e w7 ⟨v7, rfl, hv7, hb7⟩
    replace HB := Lib.hid (HB.out.trans (hb7.mono HB.out.size))
    replace Q := Lib.hid ((hb7.block _ (row_lt Q.out)).trans Q.out)
    have HV7 := Lib.hid hv7
    clear hb7 hv7 hI
    go_wp2_with fail
    refine (rhash_any tagE v7 (encL [powE 4 x, a, powE a x, powE 4 1, powE a 1]) _ (by decide) (by decide) HV7.out (encL_pos _) (by have := encL_len HL5.out (by simp); simp at this; omega)).mono ?_
    rintro e w8 ⟨rfl, hb8⟩
    replace HB := Lib.hid (HB.out.trans (hb8.mono HB.out.size))
    replace Q := Lib.hid ((hb8.block _ (row_lt Q.out)).trans Q.out)
    clear hb8 HV7 HL5
    rw [show hashG (strB tagE) (encL [powE 4 x, a, powE a x, powE 4 1, powE a 1]) = EE from HEV.out]
    have hm1 := HM1.out
    have hm2 := HM2.out
    have q0 := row_cell Q.out (k := 0) rfl
    have q1 := row_cell Q.out (k := 1) rfl
    have f0 := row_free Q.out 0
    have f1 := row_free Q.out 1
    go_wp2_with fail
    with_reducible refine (rmod12_any (EE * x) _ hm1).mono ?_
    rintro e w9 ⟨rfl, rfl⟩
    have hm3 : 0 ≤ 1 + EE * x % 1073741789 ∧ 1 + EE * x % 1073741789 ≤ 3000000000 := by omega
    go_wp2_with fail
    with_reducible refine (rmod12_any (1 + EE * x % 1073741789) _ hm3.1).mono ?_
    rintro e w9 ⟨rfl, rfl⟩
    rw [HSV.out]
    clear hm1 hm2 hm3
    have hq := row_set (row_set Q.out 0 (.int .i64 EE)) 1 (.int .i64 SS)
    have p0 := row_cell hq (k := 0) (v := .int .i64 EE) rfl
    have p1 := row_cell hq (k := 1) (v := .int .i64 SS) rfl
    have HBQ := Lib.hid ((HB.out.setCell (p := ⟨w.heap.size, 0, none⟩) (Nat.le_refl _) (.int .i64 EE)).setCell (p := ⟨w.heap.size, 1, none⟩) (Nat.le_refl _) (.int .i64 SS))
    clear hq
    go_wp2_with fail
    refine bodyPost_ret (v := .tuple #[.int .i64 (powE a x), .agg #[.int .i64 EE, .int .i64 SS], .int .i64 0]) (by simp [results, Tryz.results63, go_sem, p0, p1]) rfl ⟨rfl, HBQ.out⟩
  · have q9 : (hh == 0) = false := beq_eq_false_iff_ne.2 h0
    obtain rfl : kk = hh := by have := HNV.out; omega
    clear HNV hhn
    go_wp2_with fail
    with_reducible refine (rpow_yes 4 kk _ el_four hN64).mono ?_
    rintro e w6 ⟨rfl, rfl⟩
    go_wp2_with fail
    with_reducible refine (rpow_yes a kk _ ha hN64).mono ?_
    rintro e w6 ⟨rfl, rfl⟩
    have HL5 := Lib.hid (show ∀ z ∈ [powE 4 x, a, powE a x, powE 4 kk, powE a kk], R64 z by intro z hz; simp at hz; rcases hz with rfl | rfl | rfl | rfl | rfl; exact (el_powE el_four x).r64; exact ha.r64; exact (el_powE ha x).r64; exact (el_powE el_four kk).r64; exact (el_powE ha kk).r64)
    have hI := Lib.hid (ints_made w5 [powE 4 x, a, powE a x, powE 4 kk, powE a kk] 3 w5.heap.size rfl HL5.out (by simp))
    have hbn := below_new w5 #[.int .i64 (powE 4 x), .int .i64 a, .int .i64 (powE a x), .int .i64 (powE 4 kk), .int .i64 (powE a kk)] 3
    replace HB := Lib.hid (HB.out.trans (hbn.mono HB.out.size))
    replace Q := Lib.hid ((hbn.block _ (row_lt Q.out)).trans Q.out)
    clear hbn
    go_wp2_with fail
    refine (rtext12_any _ [powE 4 x, a, powE a x, powE 4 kk, powE a kk] _ hI.out (by simp)).mono ?_
    rintro e w7 ⟨v7, rfl, hv7, hb7⟩
    replace HB := Lib.hid (HB.out.trans (hb7.mono HB.out.size))
    replace Q := Lib.hid ((hb7.block _ (row_lt Q.out)).trans Q.out)
    have HV7 := Lib.hid hv7
    clear hb7 hv7 hI
    go_wp2_with fail
    refine (rhash_any tagE v7 (encL [powE 4 x, a, powE a x, powE 4 kk, powE a kk]) _ (by decide) (by decide) HV7.out (encL_pos _) (by have := encL_len HL5.out (by simp); simp at this; omega)).mono ?_
    rintro e w8 ⟨rfl, hb8⟩
    replace HB := Lib.hid (HB.out.trans (hb8.mono HB.out.size))
    replace Q := Lib.hid ((hb8.block _ (row_lt Q.out)).trans Q.out)
    clear hb8 HV7 HL5
    rw [show hashG (strB tagE) (encL [powE 4 x, a, powE a x, powE 4 kk, powE a kk]) = EE from HEV.out]
    have hm1 := HM1.out
    have hm2 := HM2.out
    have q0 := row_cell Q.out (k := 0) rfl
    have q1 := row_cell Q.out (k := 1) rfl
    have f0 := row_free Q.out 0
    have f1 := row_free Q.out 1
    go_wp2_with fail
    with_reducible refine (rmod12_any (EE * x) _ hm1).mono ?_
    rintro e w9 ⟨rfl, rfl⟩
    have hm3 : 0 ≤ kk + EE * x % 1073741789 ∧ kk + EE * x % 1073741789 ≤ 3000000000 := by omega
    go_wp2_with fail
    with_reducible refine (rmod12_any (kk + EE * x % 1073741789) _ hm3.1).mono ?_
    rintro e w9 ⟨rfl, rfl⟩
    rw [HSV.out]
    clear hm1 hm2 hm3
    have hq := row_set (row_set Q.out 0 (.int .i64 EE)) 1 (.int .i64 SS)
    have p0 := row_cell hq (k := 0) (v := .int .i64 EE) rfl
    have p1 := row_cell hq (k := 1) (v := .int .i64 SS) rfl
    have HBQ := Lib.hid ((HB.out.setCell (p := ⟨w.heap.size, 0, none⟩) (Nat.le_refl _) (.int .i64 EE)).setCell (p := ⟨w.heap.size, 1, none⟩) (Nat.le_refl _) (.int .i64 SS))
    clear hq
    go_wp2_with fail
    refine bodyPost_ret (v := .tuple #[.int .i64 (powE a x), .agg #[.int .i64 EE, .int .i64 SS], .int .i64 0]) (by simp [results, Tryz.results63, go_sem, p0, p1]) rfl ⟨rfl, HBQ.out⟩

structure FCk4 (w0 : World) (bb : Nat) (key : Int) (a : Int) (d : Int) (E : Int) (r : Int) (s : Int) (hh : Int) (done : Nat → Bool) (v : Nat → Value) (w : World) : Prop where
  b : Below w0.heap.size w0 w
  f0 : done 0 = true → v 0 = .pointer (some ⟨bb, 0, none⟩)
  f1 : done 1 = true → v 1 = .int .i64 E
  f2 : done 2 = true → v 2 = .int .i64 key
  f3 : done 3 = true → v 3 = .int .i64 a
  f4 : done 4 = true → v 4 = .int .i64 d
  f5 : done 5 = true → v 5 = .int .i64 r
  f6 : done 6 = true → v 6 = .int .i64 s
  f7 : done 7 = true → done 8 = false → Ints w (v 7) [key, a, d, r, s]
  f8 : done 8 = true → done 9 = false → Byts w (v 8) (encL [key, a, d, r, s])
  f9 : done 9 = true → v 9 = .int .i64 hh
  f10 : done 10 = true → v 10 = .bool (E == hh)
  f11 : done 11 = true → v 11 = .bool (E == hh)


set_option maxRecDepth 100000 in
set_option maxHeartbeats 4000000 in
theorem rcheck12_any (key a d E S : Int) (w : World) (hk : R64 key) (ha : R64 a) (hd : R64 d) (hE : R64 E) (hS : R64 S) :
    Calls Tryz.prog 66 #[.int .i64 key, .int .i64 a, .int .i64 d, .agg #[.int .i64 E, .int .i64 S]] w fun e w' => e = .returned (.bool (chkB key a d E S)) ∧ Below w.heap.size w w' := by
  obtain ⟨hb, c0, c1⟩ := cell_agg2 w E S 32
  obtain ⟨W1, hW1⟩ : ∃ W, W = w.alloc (.cells #[.int .i64 E, .int .i64 S] 32) := ⟨_, rfl⟩
  rw [← hW1] at hb c0 c1
  have HB := Lib.hid hb
  have HW1 := Lib.hid hW1
  have HF := Lib.hid (fun w => formed12_any key a d E S w hk ha hd hE hS)
  obtain ⟨B, hBv⟩ : ∃ B, chkB key a d E S = B := ⟨_, rfl⟩
  rw [hBv]
  rw [chkB_form] at hBv
  have HBV := Lib.hid hBv
  clear hBv
  clear hb hW1 hk ha hd hE hS
  go_enter Tryz.func66, Tryz.ntmps66
  go_wp2_with (rw [← HW1.out])
  with_reducible refine (HF.out _).mono ?_
  rintro e w2 ⟨rfl, hb2⟩
  replace c0 := below_cell hb2 c0
  replace c1 := below_cell hb2 c1
  replace HB := Lib.hid (HB.out.trans (hb2.mono HB.out.size))
  clear hb2 HW1 HF
  cases e1 : formB key a d E S with
  | false =>
    rw [e1, Bool.false_and] at HBV
    obtain rfl := HBV.out
    clear e1 HBV
    go_wp2_with fail
    go_ret
    exact ⟨rfl, HB.out⟩
  | true =>
    rw [e1, Bool.true_and] at HBV
    have hf := form_iff.1 e1
    have HR := Lib.hid (fun w => commits12_any key a d E S w hf)
    have HL5 := Lib.hid (show ∀ z ∈ [key, a, d, rE key E S, sE a d E S], R64 z by intro z hz; simp at hz; rcases hz with rfl | rfl | rfl | rfl | rfl; exact hf.k.r64; exact hf.a.r64; exact hf.d.r64; exact (el_rE hf.k _ _).r64; exact (el_sE hf.a hf.d _ _).r64)
    have HCH : Hid (hashG (strB tagE) (encL [key, a, d, rE key E S, sE a d E S]) = chal key a d (rE key E S) (sE a d E S)) := Lib.hid rfl
    generalize chal key a d (rE key E S) (sE a d E S) = hh at *
    generalize rE key E S = r at *
    generalize sE a d E S = s at *
    clear e1 hf
    obtain rfl := HBV.out
    clear HBV
    go_wp2_with fail
    with_reducible refine (HR.out _).mono ?_
    rintro e w3 ⟨rfl, hb3⟩
    replace c0 := below_cell hb3 c0
    replace HB := Lib.hid (HB.out.trans (hb3.mono HB.out.size))
    clear hb3 HR c1
    have HTX := Lib.hid (fun W v h => rtext12_any v [key, a, d, r, s] W h (by simp))
    have HHA : Hid (∀ W v, Byts W v (encL [key, a, d, r, s]) → Calls Tryz.prog 137 #[.string tagE, v] W fun e w' => e = .returned (.int .i64 hh) ∧ Below W.heap.size W w') :=
      Lib.hid (fun W v h => by rw [← HCH.out]; exact rhash_any tagE v (encL [key, a, d, r, s]) W (by decide) (by decide) h (encL_pos _) (by have := encL_len HL5.out (by simp); simp at this; omega))
    unfold tagE at HHA
    clear HCH
    go_wp2_with fail
    refine wp_region_flowsG (by kernel_rfl) (by kernel_rfl) (by kernel_rfl) (by kernel_rfl) (fun done v W => FCk4 w3 (w.heap.size) (key) (a) (d) (E) (r) (s) (hh) done v W) (fun v => ?_) ?_ (fun v W h => ?_)
    · exact ⟨(Below.refl _ _).drew, (fun h => by cases h), (fun h => by cases h), (fun h => by cases h), (fun h => by cases h), (fun h => by cases h), (fun h => by cases h), (fun h => by cases h), (fun h => by cases h), (fun h => by cases h), (fun h => by cases h), (fun h => by cases h), (fun h => by cases h)⟩
    · refine ⟨?_, ?_, ?_, ?_, ?_, ?_, ?_, ?_, ?_, ?_, ?_, ?_, trivial⟩
      · intro done v W A h hd hp hu hA hB hdf
        have e0 : A.tmps[7]?.getD undef = .pointer (some ⟨w.heap.size, 0, none⟩) := hB 7 rfl
        clear hA hB hp hu hdf
        go_simp
        exact ⟨_, rfl, { h with f0 := (fun _ => rfl) }⟩
      · intro done v W A h hd hp hu hA hB hdf
        have hd0 : done 0 = true := hp 0 rfl
        have e0 := (hA 0 25 rfl hd0).trans (h.f0 hd0)
        have y0_ := below_cell h.b c0
        clear hA hB hp hu hdf
        go_simp
        exact ⟨_, rfl, { h with f1 := (fun _ => rfl) }⟩
      · intro done v W A h hd hp hu hA hB hdf
        have e0 : A.tmps[0]?.getD undef = .int .i64 key := hB 0 rfl
        clear hA hB hp hu hdf
        go_simp
        exact ⟨_, rfl, { h with f2 := (fun _ => rfl) }⟩
      · intro done v W A h hd hp hu hA hB hdf
        have e0 : A.tmps[1]?.getD undef = .int .i64 a := hB 1 rfl
        clear hA hB hp hu hdf
        go_simp
        exact ⟨_, rfl, { h with f3 := (fun _ => rfl) }⟩
      · intro done v W A h hd hp hu hA hB hdf
        have e0 : A.tmps[2]?.getD undef = .int .i64 d := hB 2 rfl
        clear hA hB hp hu hdf
        go_simp
        exact ⟨_, rfl, { h with f4 := (fun _ => rfl) }⟩
      · intro done v W A h hd hp hu hA hB hdf
        have e0 : A.tmps[9]?.getD undef = .int .i64 r := hB 9 rfl
        clear hA hB hp hu hdf
        go_simp
        exact ⟨_, rfl, { h with f5 := (fun _ => rfl) }⟩
      · intro done v W A h hd hp hu hA hB hdf
        have e0 : A.tmps[10]?.getD undef = .int .i64 s := hB 10 rfl
        clear hA hB hp hu hdf
        go_simp
        exact ⟨_, rfl, { h with f6 := (fun _ => rfl) }⟩
      · intro done v W A h hd hp hu hA hB hdf
        have hd2 : done 2 = true := hp 2 rfl
        have hd3 : done 3 = true := hp 3 rfl
        have hd4 : done 4 = true := hp 4 rfl
        have hd5 : done 5 = true := hp 5 rfl
        have hd6 : done 6 = true := hp 6 rfl
        have e0 := (hA 2 27 rfl hd2).trans (h.f2 hd2)
        have e1 := (hA 3 28 rfl hd3).trans (h.f3 hd3)
        have e2 := (hA 4 29 rfl hd4).trans (h.f4 hd4)
        have e3 := (hA 5 30 rfl hd5).trans (h.f5 hd5)
        have e4 := (hA 6 31 rfl hd6).trans (h.f6 hd6)
        have hb := below_new W #[.int .i64 key, .int .i64 a, .int .i64 d, .int .i64 r, .int .i64 s] 3
        clear hA hB hp hu hdf
        go_simp
        exact ⟨_, rfl, { h with b := h.b.trans (hb.mono h.b.size), f7 := (fun _ _ => ints_made W _ _ _ rfl HL5.out (by simp)), f8 := (fun h1 h2 => (h.f8 h1 h2).below hb) }⟩
      · intro done v W A h hd hp hu hA hB hdf
        have hd7 : done 7 = true := hp 7 rfl
        have e0 := hA 7 32 rfl hd7
        have m0 := h.f7 hd7 hd
        clear hA hB hp hu hdf
        go_simp
        with_reducible refine (HTX.out W _ m0).mono ?_
        rintro e wq ⟨u, rfl, hn, hb⟩
        exact ⟨_, rfl, { h with b := h.b.trans (hb.mono h.b.size), f7 := (fun _ h2 => absurd (show true = false from h2) (by decide)), f8 := (fun _ _ => hn) }⟩
      · intro done v W A h hd hp hu hA hB hdf
        have hd8 : done 8 = true := hp 8 rfl
        have e1 := hA 8 33 rfl hd8
        have m1 := h.f8 hd8 hd
        clear hA hB hp hu hdf
        go_simp
        with_reducible refine (HHA.out W _ m1).mono ?_
        rintro e wq ⟨rfl, hb⟩
        exact ⟨_, rfl, { h with b := h.b.trans (hb.mono h.b.size), f7 := (fun h1 h2 => (h.f7 h1 h2).below hb), f8 := (fun _ h2 => absurd (show true = false from h2) (by decide)), f9 := (fun _ => rfl) }⟩
      · intro done v W A h hd hp hu hA hB hdf
        have hd1 : done 1 = true := hp 1 rfl
        have hd9 : done 9 = true := hp 9 rfl
        have e0 := (hA 1 26 rfl hd1).trans (h.f1 hd1)
        have e1 := (hA 9 34 rfl hd9).trans (h.f9 hd9)
        clear hA hB hp hu hdf
        go_simp
        exact ⟨_, rfl, { h with f10 := (fun _ => rfl) }⟩
      · intro done v W A h hd hp hu hA hB hdf
        have hd10 : done 10 = true := hp 10 rfl
        have e0 := (hA 10 35 rfl hd10).trans (h.f10 hd10)
        clear hA hB hp hu hdf
        go_simp
        exact ⟨_, rfl, { h with f11 := (fun _ => rfl) }⟩
    simp only [putL, Act.put, Nat.reduceAdd, List.setIfInBounds_toArray, List.set_cons_zero, List.set_cons_succ]
    rw [h.f11 rfl]
    have hbr := h.b
    replace HB := Lib.hid (HB.out.trans (hbr.mono HB.out.size))
    clear c0 hbr
    go_wp2_with fail
    go_ret
    exact ⟨rfl, HB.out⟩

end Go.Proofs.YtggnipkfliompaaGreatDoor

namespace Go.Proofs.YtggnipkfliompaaGreatDoor
open Go.RowKit FP

set_option maxRecDepth 100000 in
set_option maxHeartbeats 2000000 in
theorem rshare_any (rv ov : Value) (rows : List (List Int)) (owners : List Int) (r v : Int) (w : World) (hR : Rows2 w rv rows) (hO : Ints w ov owners) :
    Calls Tryz.prog 187 #[.agg #[rv, ov], .agg #[.int .i64 r, .int .i64 v]] w fun e w' => e = .returned (.bool (rightS rows r v)) ∧ Below w.heap.size w w' := by
  obtain ⟨W1, hW1, hb1, hr1, hz⟩ := box_prog w rv ov 25
  obtain ⟨W2, hW2, hb2, hr2, hz2⟩ := box_prog W1 (.int .i64 r) (.int .i64 v) 68
  obtain ⟨a, cap, rfl, -, hlen, -⟩ := id hR
  obtain ⟨a2, cap2, rfl, -, hlen2, -⟩ := id hO
  have hsz : W1.heap.size = w.heap.size + 1 := by rw [hW1]; simp
  have c0 : W2.cell? ⟨w.heap.size, 0, none⟩ = some (.slice a rows.length cap) := below_cell hb2 (row_cell hr1 rfl)
  have s0 : W2.cell? ⟨w.heap.size + 1, 0, none⟩ = some (.int .i64 r) := by rw [← hsz]; exact row_cell hr2 rfl
  have s1 : W2.cell? ⟨w.heap.size + 1, 1, none⟩ = some (.int .i64 v) := by rw [← hsz]; exact row_cell hr2 rfl
  have HW2 : Hid ((w.alloc (.cells #[.slice a rows.length cap, .slice a2 owners.length cap2] 25)).alloc (.cells #[.int .i64 r, .int .i64 v] 68) = W2) := Lib.hid (by rw [hW2, hW1])
  have HB := Lib.hid (hb1.trans (hb2.mono hb1.size))
  clear hR hO hr1 hr2 hW1 hW2 hb1 hb2 hsz hz hz2
  by_cases h0 : 0 ≤ r
  · by_cases h1 : r < (rows.length : Int)
    · have HV := Lib.hid (show rightS rows r v = !oddQ v by unfold rightS; rw [decide_eq_true h0, decide_eq_true h1]; rfl)
      go_enter Tryz.func187, Tryz.ntmps187
      go_wp2_with (rw [HW2.out])
      with_reducible refine (rnumber34_any v _).mono ?_
      rintro e w3 ⟨rfl, rfl⟩
      go_wp2_with fail
      go_ret
      exact ⟨ret_bool HV.out.symm, HB.out⟩
    · have HV := Lib.hid (show rightS rows r v = false by unfold rightS; rw [decide_eq_false h1]; simp)
      go_enter Tryz.func187, Tryz.ntmps187
      go_wp2_with (rw [HW2.out])
      go_ret
      exact ⟨ret_bool HV.out.symm, HB.out⟩
  · have HV := Lib.hid (show rightS rows r v = false by unfold rightS; rw [decide_eq_false h0]; rfl)
    go_enter Tryz.func187, Tryz.ntmps187
    go_wp2_with (rw [HW2.out])
    go_ret
    exact ⟨ret_bool HV.out.symm, HB.out⟩

set_option maxRecDepth 100000 in
set_option maxHeartbeats 4000000 in
theorem rFits_any (rv ov cv : Value) (rows : List (List Int)) (owners cs : List Int) (r v : Int) (w : World) (hR : Rows2 w rv rows) (hO : Ints w ov owners) (hC : Ints w cv cs) (hr : R64 r) (hv : R64 v) :
    Calls Tryz.prog 136 #[.agg #[rv, ov], cv, .agg #[.int .i64 r, .int .i64 v]] w fun e w' => e = .returned (.tuple #[.bool (fitB rows owners cs r v), .int .i64 (fitE rows owners cs r v)]) ∧ Below w.heap.size w w' := by
  obtain ⟨W1, hW1, hb1, hr1, hz⟩ := box_prog w rv ov 25
  obtain ⟨W2, hW2, hb2, hr2, hz2⟩ := box_prog W1 (.int .i64 r) (.int .i64 v) 68
  have hsz : W1.heap.size = w.heap.size + 1 := by rw [hW1]; simp
  have hb := hb1.trans (hb2.mono hb1.size)
  have HR2 := Lib.hid (hR.below hb)
  have HO2 := Lib.hid (hO.below hb)
  have HC2 := Lib.hid (hC.below hb)
  have HPC := Lib.hid (rpCheck_any rv ov rows owners W2 HR2.out HO2.out)
  obtain ⟨a, cap, rfl, -, hlen, -⟩ := id hR
  obtain ⟨a2, cap2, rfl, -, hlen2, -⟩ := id hO
  obtain ⟨a3, cap3, rfl, -, hlen3, hcr, -⟩ := id hC
  have c0 : W2.cell? ⟨w.heap.size, 0, none⟩ = some (.slice a rows.length cap) := below_cell hb2 (row_cell hr1 rfl)
  have c1 : W2.cell? ⟨w.heap.size, 1, none⟩ = some (.slice a2 owners.length cap2) := below_cell hb2 (row_cell hr1 rfl)
  have s0 : W2.cell? ⟨w.heap.size + 1, 0, none⟩ = some (.int .i64 r) := by rw [← hsz]; exact row_cell hr2 rfl
  have s1 : W2.cell? ⟨w.heap.size + 1, 1, none⟩ = some (.int .i64 v) := by rw [← hsz]; exact row_cell hr2 rfl
  have HW2 : Hid ((w.alloc (.cells #[.slice a rows.length cap, .slice a2 owners.length cap2] 25)).alloc (.cells #[.int .i64 r, .int .i64 v] 68) = W2) := Lib.hid (by rw [hW2, hW1])
  have HB := Lib.hid hb
  clear hR hO hC hr1 hr2 hW1 hW2 hb1 hb2 hsz hz hz2 hb hcr
  by_cases hp : progE rows owners = 0
  · have HE := Lib.hid (comB_E (cs := cs) hp)
    have hcq := (progE_ok hp).cols_le
    have HCM := Lib.hid (fun W h1 h2 h3 => rcommits_any (.slice a rows.length cap) (.slice a2 owners.length cap2) (.slice a3 cs.length cap3) rows owners cs W h1 h2 h3 hcq)
    rw [hp] at HPC
    clear hp hcq
    cases ec : comB rows cs with
    | false =>
      rw [ec] at HE HCM
      have HV : Hid (fitE rows owners cs r v = 340) := Lib.hid (by unfold fitE; rw [HE.out]; rfl)
      have HW : Hid (fitB rows owners cs r v = false) := Lib.hid (by unfold fitB; rw [HV.out]; rfl)
      clear ec
      go_enter Tryz.func136, Tryz.ntmps136
      go_wp2_with fail
      rw [HW2.out]
      refine HPC.out.mono ?_
      rintro e w3 ⟨rfl, hb3⟩
      have d0 := below_cell hb3 c0
      have d1 := below_cell hb3 c1
      have HR3 := Lib.hid (HR2.out.below hb3)
      have HO3 := Lib.hid (HO2.out.below hb3)
      have HC3 := Lib.hid (HC2.out.below hb3)
      have HB3 := Lib.hid (HB.out.trans (hb3.mono HB.out.size))
      clear hb3
      go_wp2_with fail
      refine (HCM.out _ HR3.out HO3.out HC3.out).mono ?_
      rintro e w4 ⟨rfl, hb4⟩
      go_wp2_with fail
      go_ret2
      exact ⟨by rw [HV.out, HW.out]; rfl, HB3.out.trans (hb4.mono HB3.out.size)⟩
    | true =>
      rw [ec] at HE HCM
      have HD : Hid (dchkE rows owners cs = 0) := Lib.hid (by rw [HE.out]; rfl)
      have HK := Lib.hid (dchkE_ok HD.out)
      clear ec
      have HFE := Lib.hid (show fitE rows owners cs r v = if rightS rows r v = true then 0 else 340 by unfold fitE; rw [if_neg (by simp [HD.out])])
      cases er : rightS rows r v with
      | false =>
        have HV : Hid (fitE rows owners cs r v = 340) := Lib.hid (by rw [HFE.out, er]; rfl)
        have HW : Hid (fitB rows owners cs r v = false) := Lib.hid (by unfold fitB; rw [HV.out]; rfl)
        have HRS := Lib.hid er
        clear er
        go_enter Tryz.func136, Tryz.ntmps136
        go_wp2_with fail
        rw [HW2.out]
        refine HPC.out.mono ?_
        rintro e w3 ⟨rfl, hb3⟩
        have d0 := below_cell hb3 c0
        have d1 := below_cell hb3 c1
        have t0 := below_cell hb3 s0
        have t1 := below_cell hb3 s1
        have HR3 := Lib.hid (HR2.out.below hb3)
        have HO3 := Lib.hid (HO2.out.below hb3)
        have HC3 := Lib.hid (HC2.out.below hb3)
        have HB3 := Lib.hid (HB.out.trans (hb3.mono HB.out.size))
        clear hb3 c0 c1 s0 s1
        go_wp2_with fail
        refine (HCM.out _ HR3.out HO3.out HC3.out).mono ?_
        rintro e w4 ⟨rfl, hb4⟩
        have x0 := below_cell hb4 d0
        have x1 := below_cell hb4 d1
        have v0 := below_cell hb4 t0
        have v1 := below_cell hb4 t1
        have HR4 := Lib.hid (HR3.out.below hb4)
        have HO4 := Lib.hid (HO3.out.below hb4)
        have HB4 := Lib.hid (HB3.out.trans (hb4.mono HB3.out.size))
        clear hb4 d0 d1 t0 t1
        go_wp2_with fail
        refine (rshare_any _ _ rows owners r v _ HR4.out HO4.out).mono ?_
        rintro e w5 ⟨rfl, hb5⟩
        rw [HRS.out]
        go_wp2_with fail
        go_ret2
        exact ⟨by rw [HV.out, HW.out]; rfl, HB4.out.trans (hb5.mono HB4.out.size)⟩
      | true =>
        have HV : Hid (fitE rows owners cs r v = 0) := Lib.hid (by rw [HFE.out, er]; rfl)
        have HRS := Lib.hid er
        obtain ⟨⟨hg0, hg1⟩, hv0⟩ := rightS_iff.1 er
        obtain ⟨n, hn⟩ : ∃ n : Nat, r = n := ⟨r.toNat, by omega⟩
        have hlt : n < rows.length := by omega
        have HW : Hid (fitB rows owners cs r v = (powE 4 v == pubQ (rows.getD n []) cs)) := Lib.hid (by unfold fitB; rw [if_pos HV.out, hn, Int.toNat_natCast])
        have HPB := Lib.hid (fun W h1 h2 h3 => rpublic0_any (.slice a rows.length cap) (.slice a2 owners.length cap2) (.slice a3 cs.length cap3) rows owners cs n W h1 h2 h3 HK.out hlt)
        obtain ⟨q, hq⟩ : ∃ q, q = pubQ (rows.getD n []) cs := ⟨_, rfl⟩
        rw [← hq] at HW HPB
        have HPW := Lib.hid (fun w => rpower34_any 4 v w el_four hv)
        obtain ⟨p, hp4⟩ : ∃ p, p = powE 4 v := ⟨_, rfl⟩
        rw [← hp4] at HW HPW
        subst hn
        clear er hq hp4 hv0
        go_enter Tryz.func136, Tryz.ntmps136
        go_wp2_with fail
        rw [HW2.out]
        refine HPC.out.mono ?_
        rintro e w3 ⟨rfl, hb3⟩
        have d0 := below_cell hb3 c0
        have d1 := below_cell hb3 c1
        have t0 := below_cell hb3 s0
        have t1 := below_cell hb3 s1
        have HR3 := Lib.hid (HR2.out.below hb3)
        have HO3 := Lib.hid (HO2.out.below hb3)
        have HC3 := Lib.hid (HC2.out.below hb3)
        have HB3 := Lib.hid (HB.out.trans (hb3.mono HB.out.size))
        clear hb3 c0 c1 s0 s1
        go_wp2_with fail
        refine (HCM.out _ HR3.out HO3.out HC3.out).mono ?_
        rintro e w4 ⟨rfl, hb4⟩
        have x0 := below_cell hb4 d0
        have x1 := below_cell hb4 d1
        have v0 := below_cell hb4 t0
        have v1 := below_cell hb4 t1
        have HR4 := Lib.hid (HR3.out.below hb4)
        have HO4 := Lib.hid (HO3.out.below hb4)
        have HC4 := Lib.hid (HC3.out.below hb4)
        have HB4 := Lib.hid (HB3.out.trans (hb4.mono HB3.out.size))
        clear hb4 d0 d1 t0 t1
        go_wp2_with fail
        refine (rshare_any _ _ rows owners n v _ HR4.out HO4.out).mono ?_
        rintro e w5 ⟨rfl, hb5⟩
        rw [HRS.out]
        have d0 := below_cell hb5 x0
        have d1 := below_cell hb5 x1
        have t0 := below_cell hb5 v0
        have t1 := below_cell hb5 v1
        have hbd : Below w5.heap.size w5 w5.drew := (Below.refl _ _).drew
        have HR5 := Lib.hid ((HR4.out.below hb5).below hbd)
        have HO5 := Lib.hid ((HO4.out.below hb5).below hbd)
        have HC5 := Lib.hid ((HC4.out.below hb5).below hbd)
        have HB5 := Lib.hid ((HB4.out.trans (hb5.mono HB4.out.size)).drew)
        clear hb5 hbd x0 x1 v0 v1
        go_wp2_with fail
        go_region_held3 (fun w' => w'.cell? ⟨w.heap.size, 0, none⟩ = some (.slice a rows.length cap) ∧ w'.cell? ⟨w.heap.size, 1, none⟩ = some (.slice a2 owners.length cap2) ∧ w'.cell? ⟨w.heap.size + 1, 0, none⟩ = some (.int .i64 n) ∧ w'.cell? ⟨w.heap.size + 1, 1, none⟩ = some (.int .i64 v)) (first | go_keep | exact ⟨z0, z1, z2, z3⟩)
          (first
            | (go_at_call 148; (with_reducible refine (HPW.out _).mono ?_); rintro e w6 ⟨rfl, rfl⟩)
            | (go_at_call 188; (refine (HPB.out _ HR5.out HO5.out HC5.out).mono ?_); rintro e w6 ⟨rfl, hb6⟩; have z0 := below_cell hb6 d0; have z1 := below_cell hb6 d1; have z2 := below_cell hb6 t0; have z3 := below_cell hb6 t1; have HB6 := Lib.hid (HB5.out.trans (hb6.mono HB5.out.size)); clear hb6))
        all_goals
          go_wp2_with fail
          go_ret2
          exact ⟨by rw [HV.out, HW.out]; rfl, HB6.out⟩
  · have HV : Hid (fitE rows owners cs r v = progE rows owners) := Lib.hid (by unfold fitE dchkE; rw [if_pos (by rw [if_pos hp]; exact hp), if_pos hp])
    have HW : Hid (fitB rows owners cs r v = false) := Lib.hid (by unfold fitB; rw [HV.out, if_neg hp])
    have h2 : (progE rows owners != 0) = true := bne_iff_ne.2 hp
    go_enter Tryz.func136, Tryz.ntmps136
    go_wp2_with fail
    rw [HW2.out]
    refine HPC.out.mono ?_
    rintro e w3 ⟨rfl, hb3⟩
    go_wp2_with fail
    go_ret2
    exact ⟨by rw [HV.out, HW.out]; rfl, HB.out.trans (hb3.mono HB.out.size)⟩

end Go.Proofs.YtggnipkfliompaaGreatDoor
