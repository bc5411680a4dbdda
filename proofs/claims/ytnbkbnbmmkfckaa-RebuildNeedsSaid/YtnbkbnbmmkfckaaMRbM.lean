/- The laws of rebuilding: few, right, masked. The laws of rebuilding: shares. -/
import Derived.Test.YtnbkbnbmmkfckaaMRbK
import Derived.Test.YtnbkbnbmmkfckaaMPmA
namespace Go.Proofs.Ytnbkbnbmmkfckaa
open Go.RowKit FP

set_option maxRecDepth 100000 in
set_option maxHeartbeats 4000000 in
theorem few40_any (rv ov : Value) (rows : List (List Int)) (owners : List Int) (w : World) (hR : Rows2 w rv rows) (hO : Ints w ov owners) :
    Calls Try.prog 13 #[.agg #[rv, ov]] w fun e w' => ∃ b, e = .returned (.bool b) ∧ Below w.heap.size w w' := by
  obtain ⟨W1, hW1, hb1, hr1, hz⟩ := box_prog w rv ov 25
  have HR := Lib.hid (hR.below hb1)
  have HO := Lib.hid (hO.below hb1)
  obtain ⟨a1, k1, rfl, -, hl1, hk1⟩ := id hR
  obtain ⟨a2, k2, rfl, -, hl2, -⟩ := id hO
  have c0 : W1.cell? ⟨w.heap.size, 0, none⟩ = some (.slice a1 rows.length k1) := row_cell hr1 rfl
  have c1 : W1.cell? ⟨w.heap.size, 1, none⟩ = some (.slice a2 owners.length k2) := row_cell hr1 rfl
  have HW1 := Lib.hid hW1
  have HB := Lib.hid hb1
  have HK := Lib.hid hk1
  have HB1 := Lib.hid hb1
  clear hR hO hr1 hW1 hb1 hk1 hz
  have HF := Lib.hid (rFew23_any _ _ rows owners W1 HR.out HO.out)
  by_cases h8 : rows.length ≤ 8
  · have d0 : decide ((rows.length : Int) ≤ 8) = true := decide_eq_true (by omega)
    by_cases h0 : rows.length = 0
    · have d1 : ((rows.length : Int) == 0) = true := by rw [h0]; rfl
      clear h8 h0
      go_enter Try.func13, Try.ntmps13
      go_wp2_with (rw [← HW1.out])
      refine (HF.out).mono ?_
      rintro e w2 ⟨b, rfl, hb2⟩
      replace c0 := below_cell hb2 c0
      replace c1 := below_cell hb2 c1
      replace HR := Lib.hid (HR.out.below hb2)
      replace HO := Lib.hid (HO.out.below hb2)
      replace HB := Lib.hid (HB.out.trans (hb2.mono HB.out.size))
      clear hb2
      cases b <;> (go_wp2_with fail; go_ret; exact ⟨_, rfl, HB.out⟩)
    · have d1 : ((rows.length : Int) == 0) = false := beq_eq_false_iff_ne.2 (by omega)
      obtain ⟨b6, o6, r6, ea, q6, i6⟩ := HK.out 0 (by omega)
      subst ea
      obtain ⟨ra, rc, rfl, -⟩ := id i6
      have y6 := below_cell HB1.out q6
      rw [Nat.add_zero] at y6
      have i1 : (0 : Int) < (rows.length : Int) := by omega
      obtain ⟨m, hm⟩ : ∃ m, m = (rows[0]'(by omega)).length := ⟨_, rfl⟩
      rw [← hm] at y6
      clear hm i6 q6 h8 h0
      go_enter Try.func13, Try.ntmps13
      go_wp2_with (rw [← HW1.out])
      refine (HF.out).mono ?_
      rintro e w2 ⟨b, rfl, hb2⟩
      replace c0 := below_cell hb2 c0
      replace c1 := below_cell hb2 c1
      replace y6 := below_cell hb2 y6
      replace HR := Lib.hid (HR.out.below hb2)
      replace HO := Lib.hid (HO.out.below hb2)
      replace HB := Lib.hid (HB.out.trans (hb2.mono HB.out.size))
      clear hb2
      cases b <;> (go_wp2_with fail; go_ret; exact ⟨_, rfl, HB.out⟩)
  · have d0 : decide ((rows.length : Int) ≤ 8) = false := decide_eq_false (by omega)
    clear h8
    go_enter Try.func13, Try.ntmps13
    go_wp2_with (rw [← HW1.out])
    refine (HF.out).mono ?_
    rintro e w2 ⟨b, rfl, hb2⟩
    replace c0 := below_cell hb2 c0
    replace c1 := below_cell hb2 c1
    replace HR := Lib.hid (HR.out.below hb2)
    replace HO := Lib.hid (HO.out.below hb2)
    replace HB := Lib.hid (HB.out.trans (hb2.mono HB.out.size))
    clear hb2
    cases b <;> (go_wp2_with fail; go_ret; exact ⟨_, rfl, HB.out⟩)

set_option maxRecDepth 100000 in
set_option maxHeartbeats 8000000 in
theorem right40_any (rv ov mv hv : Value) (rows : List (List Int)) (owners numbers : List Int) (row : Int) (hs : List Int) (w : World) (hR : Rows2 w rv rows) (hO : Ints w ov owners) (hM : Ints w mv numbers) (hH : Ints w hv hs) :
    Calls Try.prog 21 #[.agg #[rv, ov], mv, .int .i64 row, hv] w fun e w' => ∃ b, e = .returned (.bool b) ∧ (b = true → progE rows owners = 0 ∧ rowsB rows row hs = true ∧ numbers.length = colsQ rows ∧ allQ numbers = true) ∧ Below w.heap.size w w' := by
  obtain ⟨W1, hW1, hb1, hr1, hz⟩ := box_prog w rv ov 25
  have HR := Lib.hid (hR.below hb1)
  have HO := Lib.hid (hO.below hb1)
  have HM := Lib.hid (hM.below hb1)
  have HH := Lib.hid (hH.below hb1)
  obtain ⟨a1, k1, rfl, -, hl1, -⟩ := id hR
  obtain ⟨a2, k2, rfl, -, hl2, -⟩ := id hO
  obtain ⟨a3, k3, rfl, -, hl3, -⟩ := id hM
  obtain ⟨a4, k4, rfl, -, hl4, -⟩ := id hH
  have c0 : W1.cell? ⟨w.heap.size, 0, none⟩ = some (.slice a1 rows.length k1) := row_cell hr1 rfl
  have c1 : W1.cell? ⟨w.heap.size, 1, none⟩ = some (.slice a2 owners.length k2) := row_cell hr1 rfl
  have HW1 := Lib.hid hW1
  have HB := Lib.hid hb1
  clear hR hO hM hH hr1 hW1 hb1 hz
  have HF := Lib.hid (few40_any _ _ rows owners W1 HR.out HO.out)
  have HPC := Lib.hid (fun ww h1 h2 => rpCheck_any (.slice a1 rows.length k1) (.slice a2 owners.length k2) rows owners ww h1 h2)
  have HRW := Lib.hid (fun ww h1 h3 => rRows40_any (.slice a1 rows.length k1) (.slice a2 owners.length k2) (.slice a4 hs.length k4) rows row hs ww h1 ⟨_, _, _, rfl⟩ h3)
  go_enter Try.func21, Try.ntmps21
  go_wp2_with (rw [← HW1.out])
  refine (HF.out).mono ?_
  rintro e w2 ⟨b, rfl, hb2⟩
  replace c0 := below_cell hb2 c0
  replace c1 := below_cell hb2 c1
  replace HR := Lib.hid (HR.out.below hb2)
  replace HO := Lib.hid (HO.out.below hb2)
  replace HM := Lib.hid (HM.out.below hb2)
  replace HH := Lib.hid (HH.out.below hb2)
  replace HB := Lib.hid (HB.out.trans (hb2.mono HB.out.size))
  clear hb2
  cases b with
  | false =>
    go_wp2_with fail
    go_ret
    exact ⟨false, rfl, fun h => (by cases h), HB.out⟩
  | true =>
  by_cases hp : progE rows owners = 0
  rotate_left
  · have d0 : (progE rows owners != 0) = true := bne_iff_ne.2 hp
    generalize progE rows owners = q at *
    clear hp
    go_wp2_with fail
    refine (HPC.out _ HR.out HO.out).mono ?_
    rintro e w3 ⟨rfl, hb3⟩
    replace c0 := below_cell hb3 c0
    replace c1 := below_cell hb3 c1
    replace HR := Lib.hid (HR.out.below hb3)
    replace HO := Lib.hid (HO.out.below hb3)
    replace HM := Lib.hid (HM.out.below hb3)
    replace HH := Lib.hid (HH.out.below hb3)
    replace HB := Lib.hid (HB.out.trans (hb3.mono HB.out.size))
    clear hb3
    go_wp2_with fail
    go_ret
    exact ⟨false, rfl, fun h => (by cases h), HB.out⟩
  have HP0 := Lib.hid hp
  rw [hp] at HPC
  clear hp
  cases hrb : rowsB rows row hs with
  | false =>
    rw [hrb] at HRW
    clear hrb
    go_wp2_with fail
    refine (HPC.out _ HR.out HO.out).mono ?_
    rintro e w3 ⟨rfl, hb3⟩
    replace c0 := below_cell hb3 c0
    replace c1 := below_cell hb3 c1
    replace HR := Lib.hid (HR.out.below hb3)
    replace HO := Lib.hid (HO.out.below hb3)
    replace HM := Lib.hid (HM.out.below hb3)
    replace HH := Lib.hid (HH.out.below hb3)
    replace HB := Lib.hid (HB.out.trans (hb3.mono HB.out.size))
    clear hb3
    go_wp2_with fail
    refine (HRW.out _ HR.out HH.out).mono ?_
    rintro e w4 ⟨rfl, hb4⟩
    replace c0 := below_cell hb4 c0
    replace c1 := below_cell hb4 c1
    replace HR := Lib.hid (HR.out.below hb4)
    replace HO := Lib.hid (HO.out.below hb4)
    replace HM := Lib.hid (HM.out.below hb4)
    replace HH := Lib.hid (HH.out.below hb4)
    replace HB := Lib.hid (HB.out.trans (hb4.mono HB.out.size))
    clear hb4
    go_wp2_with fail
    go_ret
    exact ⟨false, rfl, fun h => (by cases h), HB.out⟩
  | true =>
  have HRB := Lib.hid hrb
  rw [hrb] at HRW
  clear hrb
  have HCO := Lib.hid (fun ww h => rCols_any (.slice a1 rows.length k1) (.slice a2 owners.length k2) rows ww h ⟨_, _, _, rfl⟩)
  by_cases hc : numbers.length = colsQ rows
  · have HC := Lib.hid hc
    have d1 : ((numbers.length : Int) != ((colsQ rows : Nat) : Int)) = false := by rw [hc]; exact bne_self_eq_false _
    have HN := Lib.hid (fun ww h => rNumbers40_any (.slice a3 numbers.length k3) numbers ww h)
    clear hc
    obtain ⟨cq, hcq⟩ : ∃ cq, cq = colsQ rows := ⟨_, rfl⟩
    have HCQ := Lib.hid hcq
    rw [← hcq] at d1 HCO
    clear hcq
    go_wp2_with fail
    refine (HPC.out _ HR.out HO.out).mono ?_
    rintro e w3 ⟨rfl, hb3⟩
    replace c0 := below_cell hb3 c0
    replace c1 := below_cell hb3 c1
    replace HR := Lib.hid (HR.out.below hb3)
    replace HO := Lib.hid (HO.out.below hb3)
    replace HM := Lib.hid (HM.out.below hb3)
    replace HH := Lib.hid (HH.out.below hb3)
    replace HB := Lib.hid (HB.out.trans (hb3.mono HB.out.size))
    clear hb3
    go_wp2_with fail
    refine (HRW.out _ HR.out HH.out).mono ?_
    rintro e w4 ⟨rfl, hb4⟩
    replace c0 := below_cell hb4 c0
    replace c1 := below_cell hb4 c1
    replace HR := Lib.hid (HR.out.below hb4)
    replace HO := Lib.hid (HO.out.below hb4)
    replace HM := Lib.hid (HM.out.below hb4)
    replace HH := Lib.hid (HH.out.below hb4)
    replace HB := Lib.hid (HB.out.trans (hb4.mono HB.out.size))
    clear hb4
    go_wp2_with fail
    refine (HCO.out _ HR.out).mono ?_
    rintro e w5 ⟨rfl, hb5⟩
    replace c0 := below_cell hb5 c0
    replace c1 := below_cell hb5 c1
    replace HR := Lib.hid (HR.out.below hb5)
    replace HO := Lib.hid (HO.out.below hb5)
    replace HM := Lib.hid (HM.out.below hb5)
    replace HH := Lib.hid (HH.out.below hb5)
    replace HB := Lib.hid (HB.out.trans (hb5.mono HB.out.size))
    clear hb5
    go_wp2_with fail
    refine (HN.out _ HM.out).mono ?_
    rintro e w6 ⟨rfl, rfl⟩
    go_wp2_with fail
    go_ret
    exact ⟨_, rfl, fun h => ⟨HP0.out, HRB.out, HC.out, h⟩, HB.out⟩
  · have d1 : ((numbers.length : Int) != ((colsQ rows : Nat) : Int)) = true := bne_iff_ne.2 (by omega)
    clear hc
    generalize colsQ rows = cq at *
    go_wp2_with fail
    refine (HPC.out _ HR.out HO.out).mono ?_
    rintro e w3 ⟨rfl, hb3⟩
    replace c0 := below_cell hb3 c0
    replace c1 := below_cell hb3 c1
    replace HR := Lib.hid (HR.out.below hb3)
    replace HO := Lib.hid (HO.out.below hb3)
    replace HM := Lib.hid (HM.out.below hb3)
    replace HH := Lib.hid (HH.out.below hb3)
    replace HB := Lib.hid (HB.out.trans (hb3.mono HB.out.size))
    clear hb3
    go_wp2_with fail
    refine (HRW.out _ HR.out HH.out).mono ?_
    rintro e w4 ⟨rfl, hb4⟩
    replace c0 := below_cell hb4 c0
    replace c1 := below_cell hb4 c1
    replace HR := Lib.hid (HR.out.below hb4)
    replace HO := Lib.hid (HO.out.below hb4)
    replace HM := Lib.hid (HM.out.below hb4)
    replace HH := Lib.hid (HH.out.below hb4)
    replace HB := Lib.hid (HB.out.trans (hb4.mono HB.out.size))
    clear hb4
    go_wp2_with fail
    refine (HCO.out _ HR.out).mono ?_
    rintro e w5 ⟨rfl, hb5⟩
    replace c0 := below_cell hb5 c0
    replace c1 := below_cell hb5 c1
    replace HR := Lib.hid (HR.out.below hb5)
    replace HO := Lib.hid (HO.out.below hb5)
    replace HM := Lib.hid (HM.out.below hb5)
    replace HH := Lib.hid (HH.out.below hb5)
    replace HB := Lib.hid (HB.out.trans (hb5.mono HB.out.size))
    clear hb5
    go_wp2_with fail
    go_ret
    exact ⟨false, rfl, fun h => (by cases h), HB.out⟩

theorem nth_none {l : List Int} {k : Nat} (h : ¬ k < l.length) : nth l k = 0 := by
  unfold nth; rw [List.getElem?_eq_none (by omega)]; rfl

set_option maxRecDepth 100000 in
set_option maxHeartbeats 8000000 in
theorem masked40_any (many : Nat) (gv : Value) (given : List Int) (w : World) (hG : Ints w gv given) (hg : ∀ z ∈ given, 0 ≤ z ∧ z < 1073741789) (hm : many ≤ 1000) :
    Calls Try.prog 24 #[.int .i64 many, gv] w fun e w' => ∃ v, e = .returned v ∧ Ints w' v (maskP many given many) ∧ Below w.heap.size w w' := by
  have HC := Lib.hid (fun k (hk : k < given.length) => hG.get hk)
  have HG := Lib.hid hg
  obtain ⟨a, cap, rfl, -, hlen, -⟩ := hG
  have h00 : w.ownsRow w.heap.size 3 1 (.slice none 0 0) 0 ((maskP many given 0).map (Value.int .i64)) := World.ownsRow_nil _ _ _ _
  clear hg
  go_enter Try.func24, Try.ntmps24
  go_wp2_with fail
  go_loopw [4, 5, 9] (fun L s i W => ∃ k : Nat, k ≤ many ∧ i = .int .i64 k ∧ s = .int .i64 (totQ (maskP many given k)) ∧ W.ownsRow w.heap.size 3 1 L k ((maskP many given k).map (Value.int .i64)) ∧ Below w.heap.size w W) (fun _ _ i _ => many - (intOf i).toNat)
  case atStart => exact ⟨0, Nat.zero_le _, rfl, rfl, h00, Below.refl _ _⟩
  case round =>
    clear h00
    obtain ⟨k, hkl, rfl, rfl, hown, hb⟩ := hrel
    by_cases hlt : k < many
    · have hk6 : k ≤ 1000000 := by omega
      have hv := maskV_num many given HG.out k (maskP many given k)
      have hs := totQ_num (maskP many given k)
      have HT : Hid ((maskP many given (k + 1)).map (Value.int .i64) = (maskP many given k).map (Value.int .i64) ++ [.int .i64 (maskV many given k (maskP many given k))]) := Lib.hid (by
        show (maskP many given k ++ [_]).map _ = _
        rw [List.map_append]; rfl)
      have HS : Hid (totQ (maskP many given (k + 1)) = (totQ (maskP many given k) + maskV many given k (maskP many given k)) % 1073741789) := Lib.hid (by
        show totQ (maskP many given k ++ [_]) = _
        exact totQ_snoc _ _)
      have HV : Hid (maskV many given k (maskP many given k) = if k + 1 = many then (1073741789 - totQ (maskP many given k)) % 1073741789 else nth given k) := Lib.hid rfl
      obtain ⟨v, hve⟩ : ∃ v, v = maskV many given k (maskP many given k) := ⟨_, rfl⟩
      obtain ⟨s, hse⟩ : ∃ s, s = totQ (maskP many given k) := ⟨_, rfl⟩
      obtain ⟨s2, hs2⟩ : ∃ s2, s2 = (s + v) % 1073741789 := ⟨_, rfl⟩
      rw [← hve, ← hse] at HS HV
      rw [← hs2] at HS
      rw [← hve] at hv HT
      rw [← hse] at hs ⊢
      have hw1 : IntKind.i64.wrap (1073741789 - s) = 1073741789 - s := by rw [IntKind.wrap_i64]; omega
      have hw2 : IntKind.i64.wrap (s + v) = s + v := by rw [IntKind.wrap_i64]; omega
      have ht2 : (s + v).tmod 1073741789 = s2 := by rw [hs2, Int.tmod_eq_emod_of_nonneg (by omega)]
      have hwm : IntKind.i64.wrap ((many : Int) - 1) = (many : Int) - 1 := by rw [IntKind.wrap_i64]; omega
      have HBW := Lib.hid hb
      have HOW := Lib.hid hown
      clear hb hown hve hse
      have HN := Lib.hid (below_new wr #[.int .i64 v] 3)
      have HOX := Lib.hid (own_keep HOW.out HN.out)
      have HQ0 : Hid ((wr.alloc (.cells #[.int .i64 v] 3)).cell? ⟨wr.heap.size, 0, none⟩ = some (.int .i64 v)) := Lib.hid (row_cell (World.alloc_heap_new _ _) rfl)
      have HB9 := Lib.hid (HBW.out.trans (HN.out.mono HBW.out.size))
      have HBS := Lib.hid HB9.out.size
      have i0 : (0 : Int) ≤ (k : Int) := by omega
      have HS2 := Lib.hid hs2
      clear hs2
      by_cases hin : k < given.length
      · obtain ⟨hr9, b9, o9, n9, k9, e9, q9⟩ := HC.out k hin
        simp only [Value.slice.injEq] at e9
        obtain ⟨rfl, -, -⟩ := e9
        have y9 := below_cell HBW.out q9
        have d0 : (k : Int) < (given.length : Int) := by omega
        obtain ⟨x, hx⟩ : ∃ x, x = nth given k := ⟨_, rfl⟩
        rw [← hx] at y9 hr9
        rw [← hx] at HV
        clear q9 hx
        by_cases hlast : k + 1 = many
        · have d1 : ((k : Int) == (many : Int) - 1) = true := by rw [beq_iff_eq]; omega
          have ht1 : (1073741789 - s).tmod 1073741789 = v := by rw [HV.out, if_pos hlast, Int.tmod_eq_emod_of_nonneg (by omega)]
          clear hlast
          go_wp2_with (refine app_int rfl _ _ rfl w.heap.size k _ _ rfl HOX.out wr.heap.size 1 v rfl HQ0.out hk6 HBS.out ?_; intro v9 w9 h9 o9; have H9 := Lib.hid h9; have O9 := Lib.hid o9; clear h9 o9)
          go_roundw
          case rel => exact ⟨k + 1, by omega, by go_num, by rw [HS.out], by rw [HT.out]; exact H9.out, HB9.out.trans (own_below HOX.out O9.out HBS.out)⟩
          case measure => simp [intOf]; omega
        · have d1 : ((k : Int) == (many : Int) - 1) = false := by rw [beq_eq_false_iff_ne]; omega
          have hvx : v = x := by rw [HV.out, if_neg hlast]
          subst hvx
          clear hlast
          go_wp2_with (refine app_int rfl _ _ rfl w.heap.size k _ _ rfl HOX.out wr.heap.size 1 v rfl HQ0.out hk6 HBS.out ?_; intro v9 w9 h9 o9; have H9 := Lib.hid h9; have O9 := Lib.hid o9; clear h9 o9)
          go_roundw
          case rel => exact ⟨k + 1, by omega, by go_num, by rw [HS.out], by rw [HT.out]; exact H9.out, HB9.out.trans (own_below HOX.out O9.out HBS.out)⟩
          case measure => simp [intOf]; omega
      · have d0 : decide ((k : Int) < (given.length : Int)) = false := decide_eq_false (by omega)
        have d0' : decide (k < given.length) = false := decide_eq_false hin
        by_cases hlast : k + 1 = many
        · have d1 : ((k : Int) == (many : Int) - 1) = true := by rw [beq_iff_eq]; omega
          have ht1 : (1073741789 - s).tmod 1073741789 = v := by rw [HV.out, if_pos hlast, Int.tmod_eq_emod_of_nonneg (by omega)]
          clear hlast
          go_wp2_with (refine app_int rfl _ _ rfl w.heap.size k _ _ rfl HOX.out wr.heap.size 1 v rfl HQ0.out hk6 HBS.out ?_; intro v9 w9 h9 o9; have H9 := Lib.hid h9; have O9 := Lib.hid o9; clear h9 o9)
          go_roundw
          case rel => exact ⟨k + 1, by omega, by go_num, by rw [HS.out], by rw [HT.out]; exact H9.out, HB9.out.trans (own_below HOX.out O9.out HBS.out)⟩
          case measure => simp [intOf]; omega
        · have d1 : ((k : Int) == (many : Int) - 1) = false := by rw [beq_eq_false_iff_ne]; omega
          have hvx : v = 0 := by rw [HV.out, if_neg hlast, nth_none hin]
          subst hvx
          clear hlast
          go_wp2_with (refine app_int rfl _ _ rfl w.heap.size k _ _ rfl HOX.out wr.heap.size 1 0 rfl HQ0.out hk6 HBS.out ?_; intro v9 w9 h9 o9; have H9 := Lib.hid h9; have O9 := Lib.hid o9; clear h9 o9)
          go_roundw
          case rel => exact ⟨k + 1, by omega, by go_num, by rw [HS.out, HS2.out, Int.add_zero], by rw [HT.out]; exact H9.out, HB9.out.trans (own_below HOX.out O9.out HBS.out)⟩
          case measure => simp [intOf]; omega
    · obtain rfl : k = many := by omega
      have hdk : decide (k < k) = false := decide_eq_false (by omega)
      have HIF := Lib.hid (Ints.own (zs := maskP k given k) hown (fun z hz => num_r64 (maskP_num k given HG.out k z hz)) (by rw [maskP_len]; omega))
      have HF := Lib.hid hb
      clear hown hb
      go_wp2_with fail
      go_ret
      exact ⟨_, rfl, HIF.out, HF.out⟩

end Go.Proofs.Ytnbkbnbmmkfckaa

namespace Go.Proofs.Ytnbkbnbmmkfckaa
open Go.RowKit FP

theorem Ints.icells {w w' : World} {v : Value} {zs : List Int} (h : Ints w v zs) (hc : ∀ b o z, w.cell? ⟨b, o, none⟩ = some (.int .i64 z) → w'.cell? ⟨b, o, none⟩ = some (.int .i64 z)) : Ints w' v zs := by
  obtain ⟨a, cap, h1, h2, h3, h4, h5⟩ := h
  exact ⟨a, cap, h1, h2, h3, h4, fun k hk => by obtain ⟨b, off, h6, h7⟩ := h5 k hk; exact ⟨b, off, h6, hc _ _ _ h7⟩⟩
theorem Shares.icells {w w' : World} {v : Value} {l : List (Int × Int)} (h : Shares w v l) (hc : ∀ b o z, w.cell? ⟨b, o, none⟩ = some (.int .i64 z) → w'.cell? ⟨b, o, none⟩ = some (.int .i64 z)) : Shares w' v l := by
  obtain ⟨a, cap, h1, h2, h3, h4, h5⟩ := h
  exact ⟨a, cap, h1, h2, h3, h4, fun k hk => by obtain ⟨b, off, h6, h7, h8⟩ := h5 k hk; exact ⟨b, off, h6, hc _ _ _ h7, hc _ _ _ h8⟩⟩
theorem set_int_cells {W : World} {b o : Nat} {u v : Value} (h : W.cell? ⟨b, o, none⟩ = some u) (hu : ∀ z, u = .int .i64 z → v = .int .i64 z) : ∀ b' o' z, W.cell? ⟨b', o', none⟩ = some (.int .i64 z) → (W.setCell ⟨b, o, none⟩ v).cell? ⟨b', o', none⟩ = some (.int .i64 z) := by
  intro b' o' z hz
  by_cases e : b = b' ∧ o = o'
  · obtain ⟨rfl, rfl⟩ := e
    rw [hz] at h
    have h2 := hu z (by injection h with h; exact h.symm)
    subst h2
    exact set_same_cells hz _ _ _ hz
  · rw [setc_other (by omega)]; exact hz
theorem key_set {W : World} {B : Nat} {t : TypeId} (h : W.heap[B]? = some (.cells #[.int .i64 0, .slice none 0 0, .slice none 0 0, .slice none 0 0] t (0, 0))) (u v x : Value) :
    ∀ b o z, W.cell? ⟨b, o, none⟩ = some (.int .i64 z) → ((((W.setCell ⟨B, 0, none⟩ (.int .i64 0)).setCell ⟨B, 1, none⟩ u).setCell ⟨B, 2, none⟩ v).setCell ⟨B, 3, none⟩ x).cell? ⟨b, o, none⟩ = some (.int .i64 z) := by
  intro b o z hz
  have h1 := row_set h 0 (.int .i64 0)
  have h2 := row_set h1 1 u
  have h3 := row_set h2 2 v
  refine set_int_cells (row_cell h3 (k := 3) (v := .slice none 0 0) rfl) (fun z e => by cases e) _ _ _ ?_
  refine set_int_cells (row_cell h2 (k := 2) (v := .slice none 0 0) rfl) (fun z e => by cases e) _ _ _ ?_
  refine set_int_cells (row_cell h1 (k := 1) (v := .slice none 0 0) rfl) (fun z e => by cases e) _ _ _ ?_
  exact set_int_cells (row_cell h (k := 0) (v := .int .i64 0) rfl) (fun z e => e) _ _ _ hz
/-- The tail of a list in memory. -/
theorem Ints.tail {w : World} {b off c : Nat} {x : Int} {zs : List Int} (h : Ints w (.slice (some ⟨b, off, none⟩) (zs.length + 1) c) (x :: zs)) : Ints w (.slice (if c = 1 then some ⟨b, off, none⟩ else some ⟨b, off + 1, none⟩) zs.length (c - 1)) zs := by
  obtain ⟨a, cap, h1, h2, h3, h4, h5⟩ := h
  simp only [Value.slice.injEq] at h1
  obtain ⟨rfl, -, rfl⟩ := h1
  simp only [List.length_cons] at h2 h3
  by_cases e : c = 1
  · have hz : zs = [] := List.length_eq_zero_iff.1 (by omega)
    subst hz
    exact Ints.nil _ _ _
  · rw [if_neg e]
    refine ⟨_, _, rfl, by omega, by omega, fun z hz => h4 z (List.mem_cons_of_mem _ hz), fun k hk => ⟨b, off + 1, rfl, ?_⟩⟩
    obtain ⟨b2, o2, h6, h7⟩ := h5 (k + 1) (by simp; omega)
    simp only [Option.some.injEq, Addr.mk.injEq] at h6
    obtain ⟨rfl, rfl, -⟩ := h6
    rw [show off + 1 + k = off + (k + 1) by omega]
    simpa using h7

set_option maxRecDepth 100000 in
set_option maxHeartbeats 8000000 in
theorem shares40_any (rv ov mv : Value) (rows : List (List Int)) (owners : List Int) (x : Int) (rnd : List Int) (w : World) (hR : Rows2 w rv rows) (hO : Ints w ov owners) (hM : Ints w mv (x :: rnd)) (h : DealOK rows owners x rnd) (hp : progE rows owners = 0) :
    Calls Try.prog 23 #[.agg #[rv, ov], mv] w fun r w' => ∃ al cl ac cc, r = .returned (.tuple #[.agg #[.int .i64 0, rv, ov, .slice ac (colsQ rows) cc], .slice al rows.length cl, .bool true]) ∧ Shares w' (.slice al rows.length cl) (dealL rows (x :: rnd)) ∧ Ints w' (.slice ac (colsQ rows) cc) (dealC (x :: rnd)) ∧ Below w.heap.size w w' := by
  obtain ⟨W0, hW0, hb0, hr0, hz0⟩ := box_prog w rv ov 25
  obtain ⟨W1, hW1, hb1, hr1, hs1⟩ := box_key W0 (.int .i64 0) (.slice none 0 0) (.slice none 0 0) (.slice none 0 0) 38
  have hs0 : W0.heap.size = w.heap.size + 1 := by rw [hW0]; simp
  have hb : Below w.heap.size w W1 := hb0.trans (hb1.mono hb0.size)
  have HR := Lib.hid (hR.below hb)
  have HO := Lib.hid (hO.below hb)
  have hM1 := hM.below hb
  obtain ⟨a1, k1, rfl, -, hl1, -⟩ := id hR
  obtain ⟨a2, k2, rfl, -, hl2, -⟩ := id hO
  obtain ⟨a3, k3, rfl, hc3, hl3, hr3, hk3⟩ := id hM1
  obtain ⟨b, off, rfl, q3⟩ := hk3 0 (by simp)
  simp only [List.length_cons] at hM1 hc3 hl3
  have HX := Lib.hid hM1.tail
  have c0 : W1.cell? ⟨w.heap.size, 0, none⟩ = some (.slice a1 rows.length k1) := below_cell hb1 (row_cell hr0 rfl)
  have c1 : W1.cell? ⟨w.heap.size, 1, none⟩ = some (.slice a2 owners.length k2) := below_cell hb1 (row_cell hr0 rfl)
  rw [hs0] at hr1
  have Q := Lib.hid hr1
  rw [hW0] at hW1
  have HW1 := Lib.hid hW1
  have HB := Lib.hid hb
  have hfew := h.prog.few
  have HDL := Lib.hid (dealL_len rows (x :: rnd))
  have HDA := Lib.hid (fun k hk => dealL_at rows (x :: rnd) (k := k) hk)
  have HNM := Lib.hid (fun k => prodQ_num (rows.getD k []) (x :: rnd))
  have HD := Lib.hid (fun ww h1 h2 h3 => deal_ok (.slice a1 rows.length k1) (.slice a2 owners.length k2) (.slice (if k3 = 1 then some ⟨b, off, none⟩ else some ⟨b, off + 1, none⟩) rnd.length (k3 - 1)) rows owners x rnd ww h1 h2 h3 h hp)
  simp only [List.getElem_cons_zero, Nat.add_zero] at q3
  clear hR hO hM hM1 hb hb0 hb1 hr0 hr1 hW0 hW1 hz0 hs0 hs1 hk3 hr3 h hp
  simp only [List.length_cons]
  obtain ⟨m, hm⟩ : ∃ m, m = rnd.length := ⟨_, rfl⟩
  obtain ⟨D, hD⟩ : ∃ D, D = dealL rows (x :: rnd) := ⟨_, rfl⟩
  obtain ⟨C, hC⟩ : ∃ C, C = dealC (x :: rnd) := ⟨_, rfl⟩
  obtain ⟨cq, hcq⟩ : ∃ cq, cq = colsQ rows := ⟨_, rfl⟩
  rw [← hD, ← hC, ← hcq]
  rw [← hD, ← hC, ← hcq, ← hm] at HD
  rw [← hm] at HX hc3 ⊢
  rw [← hD] at HDL HDA
  clear hm hD hC hcq
  obtain ⟨T, hT⟩ : ∃ T, (if k3 = 1 then some (⟨b, off, none⟩ : Addr) else some ⟨b, off + 1, none⟩) = T := ⟨_, rfl⟩
  rw [hT] at HX HD
  go_enter Try.func23, Try.ntmps23
  go_wp2_with (rw [← HW1.out])
  have hbd : Below W1.heap.size W1 W1.drew := (Below.refl _ _).drew
  replace HR := Lib.hid (HR.out.below hbd)
  replace HO := Lib.hid (HO.out.below hbd)
  replace HX := Lib.hid (HX.out.below hbd)
  replace HB := Lib.hid (HB.out.drew)
  clear hbd
  have c0d : W1.drew.cell? ⟨w.heap.size, 0, none⟩ = some (.slice a1 rows.length k1) := c0
  have c1d : W1.drew.cell? ⟨w.heap.size, 1, none⟩ = some (.slice a2 owners.length k2) := c1
  have q3d : W1.drew.cell? ⟨b, off, none⟩ = some (.int .i64 x) := q3
  replace Q := Lib.hid (show W1.drew.heap[w.heap.size + 1]? = _ from Q.out)
  have i1 : (0 : Int) < (m : Int) + 1 := by omega
  have i2 : (1 : Int) ≤ (m : Int) + 1 := by omega
  clear c0 c1 q3
  go_region_held3 (fun w' => w'.cell? ⟨w.heap.size, 0, none⟩ = some (.slice a1 rows.length k1) ∧ w'.cell? ⟨w.heap.size, 1, none⟩ = some (.slice a2 owners.length k2) ∧ w'.cell? ⟨b, off, none⟩ = some (.int .i64 x)) (first | go_keep | exact ⟨c0d, c1d, q3d⟩ | exact ⟨z0, z1, z2⟩)
    (first
      | (go_at_call 49; (with_reducible refine (HD.out _ HR.out HO.out HX.out).mono ?_); rintro e w3 ⟨al, cl, ac, cc, rfl, hsh, hcm, hb3⟩; have z0 := below_cell hb3 c0d; have z1 := below_cell hb3 c1d; have z2 := below_cell hb3 q3d; have HS := Lib.hid hsh; have HC := Lib.hid hcm; clear hsh hcm; replace Q := Lib.hid ((hb3.block _ (row_lt Q.out)).trans Q.out); replace HB := Lib.hid (HB.out.trans (hb3.mono HB.out.size)); clear hb3))
  all_goals
    have x0 := z0
    have x1 := z1
    clear hT z0 z1 z2 c0d c1d q3d HR HO HX HD i1 i2
    rename_i Q0 Hx
    go_wp2_with fail
    go_loopw [5, 35] (fun s i W => ∃ k : Nat, k ≤ rows.length ∧ i = .int .i64 k ∧ s = .slice al rows.length cl ∧ Below w3.heap.size w3 W) (fun _ i _ => rows.length - (intOf i).toNat)
    case atStart => exact ⟨0, Nat.zero_le _, rfl, rfl, Below.refl _ _⟩
    case round =>
      obtain ⟨k, hkl, rfl, rfl, hb⟩ := hrel
      by_cases hlt : k < rows.length
      · obtain ⟨aS, cS, eS, -, -, hR1, hk1⟩ := HS.out
        have hkD : k < D.length := by rw [HDL.out]; exact hlt
        obtain ⟨b1, o1, ea, qa, qb⟩ := hk1 k hkD
        simp only [Value.slice.injEq] at eS
        obtain ⟨rfl, -, -⟩ := eS
        subst ea
        rw [HDA.out k hkD] at qa qb
        have hvn := HNM.out k
        have y1 := below_cell hb qa
        have y2 := below_cell hb qb
        simp only at y1 y2
        obtain ⟨v, hv⟩ : ∃ v, v = prodQ (rows.getD k []) (x :: rnd) := ⟨_, rfl⟩
        rw [← hv] at y2 hvn
        have hod : oddQ v = false := oddQ_of hvn
        have i0 : (0 : Int) ≤ (k : Int) := by omega
        have i1 : (k : Int) < (rows.length : Int) := by omega
        have hkk : ((k : Int) != (k : Int)) = false := by simp
        obtain ⟨W5, hW5, hb5, hr5, -⟩ := box_prog wr (.int .i64 k) (.int .i64 v) 27
        have s0 : W5.cell? ⟨wr.heap.size, 0, none⟩ = some (.int .i64 k) := row_cell hr5 rfl
        have s1 : W5.cell? ⟨wr.heap.size, 1, none⟩ = some (.int .i64 v) := row_cell hr5 rfl
        have HW5 := Lib.hid hW5
        have HN := Lib.hid (rnumber40_any v W5)
        rw [hod] at HN
        have HBW := Lib.hid (hb.trans (hb5.mono hb.size))
        clear hk1 hR1 qa qb hv hb hb5 hr5 hW5 hod
        go_wp2_with (rw [← HW5.out])
        refine (HN.out).mono ?_
        rintro e w6 ⟨rfl, rfl⟩
        go_wp2_with fail
        go_roundw
        case rel => exact ⟨k + 1, by omega, by go_num, rfl, HBW.out⟩
        case measure => simp [intOf]; omega
      · obtain rfl : k = rows.length := by omega
        have hdk : decide (rows.length < rows.length) = false := decide_eq_false (by omega)
        have hq := (hb.block _ (row_lt Q.out)).trans Q.out
        have HS2 := Lib.hid (HS.out.below hb)
        have HC2 := Lib.hid (HC.out.below hb)
        have HB2 := Lib.hid (HB.out.trans (hb.mono HB.out.size))
        have HQ := Lib.hid hq
        have y0 := below_cell hb x0
        have y1 := below_cell hb x1
        have u0 := row_cell hq (k := 0) rfl
        have u1 := row_cell hq (k := 1) rfl
        have u2 := row_cell hq (k := 2) rfl
        have u3 := row_cell hq (k := 3) rfl
        have f0 := row_free hq 0
        have f1 := row_free hq 1
        have f2 := row_free hq 2
        have f3 := row_free hq 3
        clear hq hb
        go_wp2_with fail
        try simp only [Exit.inBlock, Exit.then]
        refine bodyPost_ret (v := .tuple #[.agg #[.int .i64 0, .slice a1 rows.length k1, .slice a2 owners.length k2, .slice ac cq cc], .slice al rows.length cl, .bool true]) ?_ rfl ?_
        · rw [results_cell_tmp2 rfl]
          go_simp
        · have hk := key_set HQ.out (.slice a1 rows.length k1) (.slice a2 owners.length k2) (.slice ac cq cc)
          exact ⟨_, _, _, _, rfl, HS2.out.icells hk, HC2.out.icells hk, (((HB2.out.setCell (Nat.le_succ _) _).setCell (Nat.le_succ _) _).setCell (Nat.le_succ _) _).setCell (Nat.le_succ _) _⟩

end Go.Proofs.Ytnbkbnbmmkfckaa
