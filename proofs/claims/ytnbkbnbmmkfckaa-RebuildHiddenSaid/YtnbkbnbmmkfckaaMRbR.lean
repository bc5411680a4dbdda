/- The laws of rebuilding: RebuildHidden. -/
import Derived.Test.YtnbkbnbmmkfckaaMRbO
namespace Go.Proofs.Ytnbkbnbmmkfckaa
open Go.RowKit FP

/-- What the helpers' parts are, with other shares. -/
structure HidK (hs Y M vs os : List Int) (A B X T S : Nat → Int) : Prop where
  few : hs.length ≤ 64
  lenY : Y.length = hs.length
  lenM : M.length = hs.length
  lenV : vs.length = hs.length
  lenO : os.length = hs.length
  numY : ∀ i, i < hs.length → 0 ≤ nth Y i ∧ nth Y i < 1073741789
  numV : ∀ i, 0 ≤ nth vs i ∧ nth vs i < 1073741789
  numO : ∀ i, 0 ≤ nth os i ∧ nth os i < 1073741789
  a0 : A 0 = 0
  aS : ∀ k, A (k + 1) = (A k + nth Y k * nth vs k) % 1073741789
  an : ∀ k, 0 ≤ A k ∧ A k < 1073741789
  b0 : B 0 = 0
  bS : ∀ k, B (k + 1) = (B k + nth Y k * nth os k) % 1073741789
  bn : ∀ k, 0 ≤ B k ∧ B k < 1073741789
  x1 : ∀ i, i < hs.length → ∀ r : Int, 0 ≤ r ∧ r < 64 → partV (nth Y i) r (nth vs i) [nth M i] = X i ∧ partE (nth Y i) r (nth vs i) [nth M i] = 0
  x2 : ∀ i, i < hs.length → ∀ r : Int, 0 ≤ r ∧ r < 64 → partV (nth Y i) r (nth os i) [T i] = X i ∧ partE (nth Y i) r (nth os i) [T i] = 0
  xn : ∀ i, 0 ≤ X i ∧ X i < 1073741789
  tn : ∀ i, 0 ≤ T i ∧ T i < 1073741789
  tdef : ∀ i, T i = (X i - nth Y i * nth os i % 1073741789 + 1073741789) % 1073741789
  s0 : S 0 = 0
  sS : ∀ k, S (k + 1) = (S k + T k) % 1073741789
  sn : ∀ k, 0 ≤ S k ∧ S k < 1073741789
  fin : A hs.length = B hs.length → S hs.length = 0
theorem hidK_of {rows : List (List Int)} {owners hs ms vs os : List Int} {row : Int} (hp : progE rows owners = 0) (hrb : rowsB rows row hs = true) (hm : ∀ z ∈ ms, 0 ≤ z ∧ z < 1073741789) (hv : ∀ z ∈ vs, 0 ≤ z ∧ z < 1073741789) (ho : ∀ z ∈ os, 0 ≤ z ∧ z < 1073741789) (lv : vs.length = hs.length) (lo : os.length = hs.length) :
    ∃ A B X T S, HidK hs (rcombY (someQ rows hs) (rows.getD row.toNat [])) (maskP hs.length ms hs.length) vs os A B X T S := by
  obtain ⟨hin, hh⟩ := rowsB_ok hrb
  have hPO := progE_ok hp
  have hlen := help_len hPO hh
  obtain ⟨hrl, hrn⟩ := row_right hPO hin
  have hR := some_right hPO hh
  rw [← hrl] at hR
  have hYn : ∀ i, i < hs.length → 0 ≤ nth (rcombY (someQ rows hs) (rows.getD row.toNat [])) i ∧ nth (rcombY (someQ rows hs) (rows.getD row.toNat [])) i < 1073741789 := fun i hi => rcombY_num hR hrn (by rw [someQ_len]; exact hi)
  obtain ⟨Y, hY⟩ : ∃ Y, Y = rcombY (someQ rows hs) (rows.getD row.toNat []) := ⟨_, rfl⟩
  obtain ⟨M, hM⟩ : ∃ M, M = maskP hs.length ms hs.length := ⟨_, rfl⟩
  have hMn : ∀ k, 0 ≤ nth M k ∧ nth M k < 1073741789 := fun k => by rw [hM]; exact nth_num (maskP_num _ _ hm _) k
  have hYl : Y.length = hs.length := by rw [hY, rcombY_len, someQ_len]
  have hMl : M.length = hs.length := by rw [hM]; exact maskP_len _ _ _
  have hM0 : totQ M = 0 := by rw [hM]; exact maskP_sum _ _
  rw [← hY] at hYn ⊢
  rw [← hM]
  have hon : ∀ i, 0 ≤ othV Y vs os M i ∧ othV Y vs os M i < 1073741789 := fun i => by unfold othV; omega
  have hxn : ∀ i, 0 ≤ partX Y vs M i ∧ partX Y vs M i < 1073741789 := fun i => by unfold partX; omega
  refine ⟨mulF Y vs, mulF Y os, partX Y vs M, othV Y vs os M, othF Y vs os M, hlen, hYl, hMl, lv, lo, hYn, nth_num hv, nth_num ho, rfl, fun _ => rfl, mulF_num Y vs, rfl, fun _ => rfl, mulF_num Y os, ?_, ?_, hxn, hon, fun _ => rfl, rfl, fun _ => rfl, othF_num Y vs os M, oth_sum hMl hM0⟩
  · intro i hi r hr
    exact part_zero (hYn i hi) hr (nth_num hv i) (hMn i)
  · intro i hi r hr
    have h := part_zero (hYn i hi) hr (nth_num ho i) (hon i)
    exact ⟨by rw [h.1, oth_part], h.2⟩

set_option maxRecDepth 100000 in
set_option maxHeartbeats 16000000 in
theorem rebuildHidden_any (rv ov hv uv tv mv : Value) (rows : List (List Int)) (owners : List Int) (row : Int) (hs vs os ms : List Int) (w : World) (hR : Rows2 w rv rows) (hO : Ints w ov owners) (hrow : R64 row) (hH : Ints w hv hs) (hU : Ints w uv vs) (hT : Ints w tv os) (hM : Ints w mv ms) :
    Calls Try.prog 6 #[.agg #[rv, ov], .int .i64 row, hv, uv, tv, mv] w fun e w' => e = .returned (.bool true) ∧ Below w.heap.size w w' := by
  obtain ⟨W1, hW1, hb1, hr1, hz⟩ := box_prog w rv ov 25
  have HR := Lib.hid (hR.below hb1)
  have HO := Lib.hid (hO.below hb1)
  have HH := Lib.hid (hH.below hb1)
  have HU := Lib.hid (hU.below hb1)
  have HT := Lib.hid (hT.below hb1)
  have HM := Lib.hid (hM.below hb1)
  obtain ⟨a1, k1, rfl, -, hl1, -⟩ := id hR
  obtain ⟨a2, k2, rfl, -, hl2, -⟩ := id hO
  obtain ⟨a3, k3, rfl, -, hl3, -⟩ := id hH
  obtain ⟨a4, k4, rfl, -, hl4, -⟩ := id hU
  obtain ⟨a5, k5, rfl, -, hl5, -⟩ := id hT
  obtain ⟨a6, k6, rfl, -, hl6, -⟩ := id hM
  have c0 : W1.cell? ⟨w.heap.size, 0, none⟩ = some (.slice a1 rows.length k1) := row_cell hr1 rfl
  have c1 : W1.cell? ⟨w.heap.size, 1, none⟩ = some (.slice a2 owners.length k2) := row_cell hr1 rfl
  have HW1 := Lib.hid hW1
  have HB := Lib.hid hb1
  have HS := Lib.hid (sane40_any W1)
  clear hR hO hH hU hT hM hr1 hW1 hb1 hz
  have HF := Lib.hid (fun ww h1 h2 => few40_any (.slice a1 rows.length k1) (.slice a2 owners.length k2) rows owners ww h1 h2)
  have HPC := Lib.hid (fun ww h1 h2 => rpCheck_any (.slice a1 rows.length k1) (.slice a2 owners.length k2) rows owners ww h1 h2)
  have HRW := Lib.hid (fun ww h1 h3 => rRows40_any (.slice a1 rows.length k1) (.slice a2 owners.length k2) (.slice a3 hs.length k3) rows row hs ww h1 ⟨_, _, _, rfl⟩ h3)
  have HNU := Lib.hid (fun ww h => rNumbers40_any (.slice a4 vs.length k4) vs ww h)
  have HNT := Lib.hid (fun ww h => rNumbers40_any (.slice a5 os.length k5) os ww h)
  have HNM := Lib.hid (fun ww h => rNumbers40_any (.slice a6 ms.length k6) ms ww h)
  go_enter Try.func6, Try.ntmps6
  go_wp2_with (rw [← HW1.out])
  refine (HS.out).mono ?_
  rintro e w2 ⟨rfl, hb2⟩
  replace c0 := below_cell hb2 c0
  replace c1 := below_cell hb2 c1
  replace HR := Lib.hid (HR.out.below hb2)
  replace HO := Lib.hid (HO.out.below hb2)
  replace HH := Lib.hid (HH.out.below hb2)
  replace HU := Lib.hid (HU.out.below hb2)
  replace HT := Lib.hid (HT.out.below hb2)
  replace HM := Lib.hid (HM.out.below hb2)
  replace HB := Lib.hid (HB.out.trans (hb2.mono HB.out.size))
  clear hb2
  go_wp2_with fail
  refine (HF.out _ HR.out HO.out).mono ?_
  rintro e w3 ⟨b, rfl, hb3⟩
  replace c0 := below_cell hb3 c0
  replace c1 := below_cell hb3 c1
  replace HR := Lib.hid (HR.out.below hb3)
  replace HO := Lib.hid (HO.out.below hb3)
  replace HH := Lib.hid (HH.out.below hb3)
  replace HU := Lib.hid (HU.out.below hb3)
  replace HT := Lib.hid (HT.out.below hb3)
  replace HM := Lib.hid (HM.out.below hb3)
  replace HB := Lib.hid (HB.out.trans (hb3.mono HB.out.size))
  clear hb3
  cases b with
  | false =>
    go_wp2_with fail
    go_ret
    exact ⟨rfl, HB.out⟩
  | true =>
  by_cases hp : progE rows owners = 0
  rotate_left
  · have d0 : (progE rows owners != 0) = true := bne_iff_ne.2 hp
    generalize progE rows owners = q at *
    clear hp
    go_wp2_with fail
    refine (HPC.out _ HR.out HO.out).mono ?_
    rintro e w4 ⟨rfl, hb4⟩
    replace c0 := below_cell hb4 c0
    replace c1 := below_cell hb4 c1
    replace HR := Lib.hid (HR.out.below hb4)
    replace HO := Lib.hid (HO.out.below hb4)
    replace HH := Lib.hid (HH.out.below hb4)
    replace HU := Lib.hid (HU.out.below hb4)
    replace HT := Lib.hid (HT.out.below hb4)
    replace HM := Lib.hid (HM.out.below hb4)
    replace HB := Lib.hid (HB.out.trans (hb4.mono HB.out.size))
    clear hb4
    go_wp2_with fail
    go_ret
    exact ⟨rfl, HB.out⟩
  rw [hp] at HPC
  have HP0 := Lib.hid hp
  clear hp
  go_wp2_with fail
  refine (HPC.out _ HR.out HO.out).mono ?_
  rintro e w4 ⟨rfl, hb4⟩
  replace c0 := below_cell hb4 c0
  replace c1 := below_cell hb4 c1
  replace HR := Lib.hid (HR.out.below hb4)
  replace HO := Lib.hid (HO.out.below hb4)
  replace HH := Lib.hid (HH.out.below hb4)
  replace HU := Lib.hid (HU.out.below hb4)
  replace HT := Lib.hid (HT.out.below hb4)
  replace HM := Lib.hid (HM.out.below hb4)
  replace HB := Lib.hid (HB.out.trans (hb4.mono HB.out.size))
  clear hb4
  cases hrb : rowsB rows row hs with
  | false =>
    rw [hrb] at HRW
    clear hrb
    go_wp2_with fail
    refine (HRW.out _ HR.out HH.out).mono ?_
    rintro e w5 ⟨rfl, hb5⟩
    replace c0 := below_cell hb5 c0
    replace c1 := below_cell hb5 c1
    replace HR := Lib.hid (HR.out.below hb5)
    replace HO := Lib.hid (HO.out.below hb5)
    replace HH := Lib.hid (HH.out.below hb5)
    replace HU := Lib.hid (HU.out.below hb5)
    replace HT := Lib.hid (HT.out.below hb5)
    replace HM := Lib.hid (HM.out.below hb5)
    replace HB := Lib.hid (HB.out.trans (hb5.mono HB.out.size))
    clear hb5
    go_wp2_with fail
    go_ret
    exact ⟨rfl, HB.out⟩
  | true =>
  rw [hrb] at HRW
  have HRB := Lib.hid hrb
  clear hrb
  by_cases hlv : vs.length = hs.length
  rotate_left
  · have d1 : ((vs.length : Int) != (hs.length : Int)) = true := bne_iff_ne.2 (by omega)
    clear hlv
    go_wp2_with fail
    refine (HRW.out _ HR.out HH.out).mono ?_
    rintro e w5 ⟨rfl, hb5⟩
    replace c0 := below_cell hb5 c0
    replace c1 := below_cell hb5 c1
    replace HR := Lib.hid (HR.out.below hb5)
    replace HO := Lib.hid (HO.out.below hb5)
    replace HH := Lib.hid (HH.out.below hb5)
    replace HU := Lib.hid (HU.out.below hb5)
    replace HT := Lib.hid (HT.out.below hb5)
    replace HM := Lib.hid (HM.out.below hb5)
    replace HB := Lib.hid (HB.out.trans (hb5.mono HB.out.size))
    clear hb5
    go_wp2_with fail
    go_ret
    exact ⟨rfl, HB.out⟩
  have d1 : ((vs.length : Int) != (hs.length : Int)) = false := by rw [hlv]; exact bne_self_eq_false _
  by_cases hlo : os.length = hs.length
  rotate_left
  · have d2 : ((os.length : Int) != (hs.length : Int)) = true := bne_iff_ne.2 (by omega)
    clear hlv hlo
    go_wp2_with fail
    refine (HRW.out _ HR.out HH.out).mono ?_
    rintro e w5 ⟨rfl, hb5⟩
    replace c0 := below_cell hb5 c0
    replace c1 := below_cell hb5 c1
    replace HR := Lib.hid (HR.out.below hb5)
    replace HO := Lib.hid (HO.out.below hb5)
    replace HH := Lib.hid (HH.out.below hb5)
    replace HU := Lib.hid (HU.out.below hb5)
    replace HT := Lib.hid (HT.out.below hb5)
    replace HM := Lib.hid (HM.out.below hb5)
    replace HB := Lib.hid (HB.out.trans (hb5.mono HB.out.size))
    clear hb5
    go_wp2_with fail
    go_ret
    exact ⟨rfl, HB.out⟩
  have d2 : ((os.length : Int) != (hs.length : Int)) = false := by rw [hlo]; exact bne_self_eq_false _
  have HLV := Lib.hid hlv
  have HLO := Lib.hid hlo
  clear hlv hlo
  go_wp2_with fail
  refine (HRW.out _ HR.out HH.out).mono ?_
  rintro e w5 ⟨rfl, hb5⟩
  replace c0 := below_cell hb5 c0
  replace c1 := below_cell hb5 c1
  replace HR := Lib.hid (HR.out.below hb5)
  replace HO := Lib.hid (HO.out.below hb5)
  replace HH := Lib.hid (HH.out.below hb5)
  replace HU := Lib.hid (HU.out.below hb5)
  replace HT := Lib.hid (HT.out.below hb5)
  replace HM := Lib.hid (HM.out.below hb5)
  replace HB := Lib.hid (HB.out.trans (hb5.mono HB.out.size))
  clear hb5
  cases hau : allQ vs with
  | false =>
    rw [hau] at HNU
    clear hau
    go_wp2_with fail
    refine (HNU.out _ HU.out).mono ?_
    rintro e w6 ⟨rfl, rfl⟩
    go_wp2_with fail
    go_ret
    exact ⟨rfl, HB.out⟩
  | true =>
  rw [hau] at HNU
  cases hat : allQ os with
  | false =>
    rw [hat] at HNT
    clear hau hat
    go_wp2_with fail
    refine (HNU.out _ HU.out).mono ?_
    rintro e w6 ⟨rfl, rfl⟩
    go_wp2_with fail
    refine (HNT.out _ HT.out).mono ?_
    rintro e w6 ⟨rfl, rfl⟩
    go_wp2_with fail
    go_ret
    exact ⟨rfl, HB.out⟩
  | true =>
  rw [hat] at HNT
  cases ham : allQ ms with
  | false =>
    rw [ham] at HNM
    clear hau hat ham
    go_wp2_with fail
    refine (HNU.out _ HU.out).mono ?_
    rintro e w6 ⟨rfl, rfl⟩
    go_wp2_with fail
    refine (HNT.out _ HT.out).mono ?_
    rintro e w6 ⟨rfl, rfl⟩
    go_wp2_with fail
    refine (HNM.out _ HM.out).mono ?_
    rintro e w6 ⟨rfl, rfl⟩
    go_wp2_with fail
    go_ret
    exact ⟨rfl, HB.out⟩
  | true =>
  rw [ham] at HNM
  obtain ⟨A, B, X, T, S, hK⟩ := hidK_of HP0.out HRB.out (allQ_ok ham).2 (allQ_ok hau).2 (allQ_ok hat).2 HLV.out HLO.out
  have HK := Lib.hid hK
  have hlh := hK.few
  have hin := (rowsB_ok HRB.out).1
  have HIX := Lib.hid (fun (i : Nat) (hi : i < hs.length) => (show 0 ≤ nth hs i ∧ nth hs i < 64 from by
    rw [nth_at hi]
    have h1 := (helpB_in (rowsB_ok HRB.out).2 _ (List.getElem_mem hi)).1
    have h2 := (progE_ok HP0.out).few
    omega))
  obtain ⟨rn, rfl⟩ : ∃ rn : Nat, row = rn := ⟨row.toNat, by omega⟩
  have HMK := Lib.hid (fun ww h => masked40_any hs.length (.slice a6 ms.length k6) ms ww h (allQ_ok ham).2 (by omega))
  have hrowr : R64 (rn : Int) := hrow
  clear hau hat ham hK hin
  go_wp2_with fail
  refine (HNU.out _ HU.out).mono ?_
  rintro e w6 ⟨rfl, rfl⟩
  go_wp2_with fail
  refine (HNT.out _ HT.out).mono ?_
  rintro e w6 ⟨rfl, rfl⟩
  go_wp2_with fail
  refine (HNM.out _ HM.out).mono ?_
  rintro e w6 ⟨rfl, rfl⟩
  cases hok : rcombOk (someQ rows hs) (rows.getD (rn : Int).toNat []) with
  | false =>
    have HPL := Lib.hid (fun ww h1 h2 h3 => plan_bad HP0.out HRB.out hok hrow (by omega) (.slice a1 rows.length k1) (.slice a2 owners.length k2) (.slice a3 hs.length k3) ww h1 h2 h3)
    clear hok
    go_wp2_with fail
    refine (HPL.out _ HR.out HO.out HH.out).mono ?_
    rintro e w7 ⟨ya, yc, rfl, hb7⟩
    replace c0 := below_cell hb7 c0
    replace c1 := below_cell hb7 c1
    replace HR := Lib.hid (HR.out.below hb7)
    replace HO := Lib.hid (HO.out.below hb7)
    replace HH := Lib.hid (HH.out.below hb7)
    replace HU := Lib.hid (HU.out.below hb7)
    replace HT := Lib.hid (HT.out.below hb7)
    replace HM := Lib.hid (HM.out.below hb7)
    replace HB := Lib.hid (HB.out.trans (hb7.mono HB.out.size))
    clear hb7
    go_wp2_with fail
    go_ret
    exact ⟨rfl, HB.out⟩
  | true =>
  have HPL := Lib.hid (fun ww h1 h2 h3 => plan_good HP0.out HRB.out hok hrow (by omega) (.slice a1 rows.length k1) (.slice a2 owners.length k2) (.slice a3 hs.length k3) ww h1 h2 h3)
  clear hok
  generalize rcombY (someQ rows hs) (rows.getD (rn : Int).toNat []) = Y at *
  generalize maskP hs.length ms hs.length = M at *
  go_wp2_with fail
  refine (HPL.out _ HR.out HO.out HH.out).mono ?_
  rintro e w7 ⟨ya, yc, rfl, hyy, hb7⟩
  replace c0 := below_cell hb7 c0
  replace c1 := below_cell hb7 c1
  replace HR := Lib.hid (HR.out.below hb7)
  replace HO := Lib.hid (HO.out.below hb7)
  replace HH := Lib.hid (HH.out.below hb7)
  replace HU := Lib.hid (HU.out.below hb7)
  replace HT := Lib.hid (HT.out.below hb7)
  replace HM := Lib.hid (HM.out.below hb7)
  replace HB := Lib.hid (HB.out.trans (hb7.mono HB.out.size))
  clear hb7
  have HY := Lib.hid hyy
  clear hyy HPL HNU HNT HNM HRW HPC HF HR HO c0 c1
  have hA0 : Value.int .i64 (A 0) = .int .i64 0 := by rw [HK.out.a0]
  have hB0 : Value.int .i64 (B 0) = .int .i64 0 := by rw [HK.out.b0]
  go_wp2_with fail
  go_loopw [16, 17, 97] (fun a b i W => ∃ k : Nat, k ≤ hs.length ∧ i = .int .i64 k ∧ a = .int .i64 (A k) ∧ b = .int .i64 (B k) ∧ Below w7.heap.size w7 W) (fun _ _ i _ => hs.length - (intOf i).toNat)
  case atStart => exact ⟨0, Nat.zero_le _, rfl, hA0.symm, hB0.symm, Below.refl _ _⟩
  case round =>
    clear hA0 hB0
    obtain ⟨k, hkl, rfl, rfl, rfl, hb⟩ := hrel
    by_cases hlt : k < hs.length
    · obtain ⟨-, b1, o1, n1, k9, e1, q1⟩ := HY.out.get (k := k) (by rw [HK.out.lenY]; exact hlt)
      simp only [Value.slice.injEq] at e1
      obtain ⟨rfl, -, -⟩ := e1
      obtain ⟨-, b2, o2, n2, k8, e2, q2⟩ := HU.out.get (k := k) (by rw [HK.out.lenV]; exact hlt)
      simp only [Value.slice.injEq] at e2
      obtain ⟨rfl, -, -⟩ := e2
      obtain ⟨-, b3, o3, n3, k7, e3, q3⟩ := HT.out.get (k := k) (by rw [HK.out.lenO]; exact hlt)
      simp only [Value.slice.injEq] at e3
      obtain ⟨rfl, -, -⟩ := e3
      have y1 := below_cell hb q1
      have y2 := below_cell hb q2
      have y3 := below_cell hb q3
      have hy := HK.out.numY k hlt
      have hu := HK.out.numV k
      have ht := HK.out.numO k
      have hA := HK.out.an k
      have hB := HK.out.bn k
      have HA1 := Lib.hid (HK.out.aS k)
      have HB1 := Lib.hid (HK.out.bS k)
      have HBW := Lib.hid hb
      have i0 : (0 : Int) ≤ (k : Int) := by omega
      have i1 : (k : Int) < (hs.length : Int) := by omega
      have i2 : (k : Int) < (vs.length : Int) := by have := HLV.out; omega
      have i3 : (k : Int) < (os.length : Int) := by have := HLO.out; omega
      clear q1 q2 q3 hb
      obtain ⟨A2, hA2⟩ : ∃ A2, A2 = A (k + 1) := ⟨_, rfl⟩
      obtain ⟨B2, hB2⟩ : ∃ B2, B2 = B (k + 1) := ⟨_, rfl⟩
      rw [← hA2] at HA1
      rw [← hB2] at HB1
      have HA2 := Lib.hid hA2
      have HB2 := Lib.hid hB2
      clear hA2 hB2
      generalize nth Y k = y at *
      generalize nth vs k = u at *
      generalize nth os k = t at *
      generalize A k = a at *
      generalize B k = b at *
      have hyu := wrap_mulQ hy hu
      have hyt := wrap_mulQ hy ht
      have hod : oddQ y = false := oddQ_of hy
      have HN := Lib.hid (rnumber40_any y wr)
      rw [hod] at HN
      have hws : ∀ p q : Int, 0 ≤ p ∧ p ≤ 1152921429444920521 → 0 ≤ q ∧ q < 1073741789 → IntKind.i64.wrap p = p ∧ IntKind.i64.wrap (q + p) = q + p ∧ (q + p).tmod 1073741789 = (q + p) % 1073741789 := fun p q hp hq => ⟨by rw [IntKind.wrap_i64]; omega, by rw [IntKind.wrap_i64]; omega, by rw [Int.tmod_eq_emod_of_nonneg (by omega)]⟩
      obtain ⟨g1, g2, g3⟩ := hws _ _ hyu hA
      obtain ⟨g4, g5, g6⟩ := hws _ _ hyt hB
      rw [← HA1.out] at g3
      rw [← HB1.out] at g6
      clear hws hod
      go_wp2_with fail
      refine (HN.out).mono ?_
      rintro e w8 ⟨rfl, rfl⟩
      go_wp2_with fail
      go_quiet (fail)
      go_wp2_with fail
      go_roundw
      case rel => exact ⟨k + 1, by omega, by go_num, by rw [HA2.out], by rw [HB2.out], below_drewN HBW.out _⟩
      case measure => simp [intOf]; omega
    · obtain rfl : k = hs.length := by omega
      have hdk : decide (hs.length < hs.length) = false := decide_eq_false (by omega)
      replace HH := Lib.hid (HH.out.below hb)
      replace HU := Lib.hid (HU.out.below hb)
      replace HT := Lib.hid (HT.out.below hb)
      replace HM := Lib.hid (HM.out.below hb)
      replace HY := Lib.hid (HY.out.below hb)
      replace HB := Lib.hid (HB.out.trans (hb.mono HB.out.size))
      clear hb
      by_cases hab : A hs.length = B hs.length
      rotate_left
      · have d3 : (A hs.length != B hs.length) = true := bne_iff_ne.2 hab
        generalize A hs.length = a at *
        generalize B hs.length = b at *
        clear hab
        go_wp2_with fail
        go_ret
        exact ⟨rfl, HB.out⟩
      have d3 : (A hs.length != B hs.length) = false := by rw [hab]; exact bne_self_eq_false _
      have HFIN := Lib.hid (HK.out.fin hab)
      clear hab
      generalize A hs.length = a at *
      generalize B hs.length = b at *
      go_wp2_with fail
      refine (HMK.out _ HM.out).mono ?_
      rintro e w9 ⟨mvv, rfl, hmm, hb9⟩
      replace HH := Lib.hid (HH.out.below hb9)
      replace HU := Lib.hid (HU.out.below hb9)
      replace HT := Lib.hid (HT.out.below hb9)
      replace HM := Lib.hid (HM.out.below hb9)
      replace HY := Lib.hid (HY.out.below hb9)
      replace HB := Lib.hid (HB.out.trans (hb9.mono HB.out.size))
      clear hb9
      obtain ⟨ma, mc, em, hmc, -⟩ := id hmm
      rw [HK.out.lenM] at em hmc
      subst em
      have HMA := Lib.hid hmm
      clear hmm HMK HM
      have hS0 : Value.int .i64 (S 0) = .int .i64 0 := by rw [HK.out.s0]
      go_wp2_with fail
      go_loopw [20, 140] (fun s i W => ∃ k : Nat, k ≤ hs.length ∧ i = .int .i64 k ∧ s = .int .i64 (S k) ∧ Below w9.heap.size w9 W) (fun _ i _ => hs.length - (intOf i).toNat)
      case atStart => exact ⟨0, Nat.zero_le _, rfl, hS0.symm, Below.refl _ _⟩
      case round =>
        clear hS0
        obtain ⟨k, hkl, rfl, rfl, hb⟩ := hrel
        by_cases hlt : k < hs.length
        · obtain ⟨-, bh, oh, nh, kh, eh, qh⟩ := HH.out.get hlt
          simp only [Value.slice.injEq] at eh
          obtain ⟨rfl, -, -⟩ := eh
          obtain ⟨-, b1, o1, n1, k9, e1, q1⟩ := HY.out.get (k := k) (by rw [HK.out.lenY]; exact hlt)
          simp only [Value.slice.injEq] at e1
          obtain ⟨rfl, -, -⟩ := e1
          obtain ⟨-, b2, o2, n2, k8, e2, q2⟩ := HU.out.get (k := k) (by rw [HK.out.lenV]; exact hlt)
          simp only [Value.slice.injEq] at e2
          obtain ⟨rfl, -, -⟩ := e2
          obtain ⟨-, b3, o3, n3, k7, e3, q3⟩ := HT.out.get (k := k) (by rw [HK.out.lenO]; exact hlt)
          simp only [Value.slice.injEq] at e3
          obtain ⟨rfl, -, -⟩ := e3
          obtain ⟨-, bm, om, nm, km, em, -⟩ := HMA.out.get (k := k) (by rw [HK.out.lenM]; exact hlt)
          simp only [Value.slice.injEq] at em
          obtain ⟨rfl, -, -⟩ := em
          have hr := HIX.out k hlt
          have yh := below_cell hb qh
          have y1 := below_cell hb q1
          have y2 := below_cell hb q2
          have y3 := below_cell hb q3
          have hy := HK.out.numY k hlt
          have ht := HK.out.numO k
          have hx := HK.out.xn k
          have htn := HK.out.tn k
          have hsn := HK.out.sn k
          have HTD := Lib.hid (HK.out.tdef k)
          have HSS := Lib.hid (HK.out.sS k)
          have HP1 := Lib.hid (fun ww c' (h : 1 ≤ c') (hI : Ints ww (.slice (some ⟨bm, om, none⟩) hs.length mc) M) => part_val (nth Y k) (nth hs k) (nth vs k) (.slice (some ⟨bm, om + k, none⟩) 1 c') [nth M k] (X k) 0 ww (hI.one_of (by rw [HK.out.lenM]; exact hlt) h) (HK.out.x1 k hlt _ hr))
          have HP2 := Lib.hid (fun ww mv (hI : Ints ww mv [T k]) => part_val (nth Y k) (nth hs k) (nth os k) mv [T k] (X k) 0 ww hI (HK.out.x2 k hlt _ hr))
          have HMW := Lib.hid ((HMA.out.below hb).below ((Below.refl _ _).drew))
          have HBW := Lib.hid hb
          have i0 : (0 : Int) ≤ (k : Int) := by omega
          have i1 : (k : Int) < (hs.length : Int) := by omega
          have i2 : (k : Int) < (vs.length : Int) := by have := HLV.out; omega
          have i3 : (k : Int) < (os.length : Int) := by have := HLO.out; omega
          have hwk : IntKind.i64.wrap ((k : Int) + 1) = (k : Int) + 1 := by rw [IntKind.wrap_i64]; omega
          have hsl := fun w => run_slice_one bm om hs.length mc k hlt hmc w
          have hc1 : 1 ≤ mc - k := by omega
          clear qh q1 q2 q3 hb hr
          obtain ⟨S2, hS2⟩ : ∃ S2, S2 = S (k + 1) := ⟨_, rfl⟩
          rw [← hS2] at HSS
          have HS2 := Lib.hid hS2
          clear hS2
          generalize nth Y k = y at *
          generalize nth hs k = r at *
          generalize nth vs k = u at *
          generalize nth os k = t at *
          generalize X k = x at *
          generalize T k = o at *
          generalize S k = s at *
          have y1d : wr.drew.cell? ⟨b1, o1 + k, none⟩ = some (.int .i64 y) := y1
          have y2d : wr.drew.cell? ⟨b2, o2 + k, none⟩ = some (.int .i64 u) := y2
          go_wp2_with fail
          go_region_held3 (fun w' => w'.cell? ⟨b1, o1 + k, none⟩ = some (.int .i64 y) ∧ w'.cell? ⟨b2, o2 + k, none⟩ = some (.int .i64 u)) (first | go_keep | exact ⟨t0, t1⟩)
            (first
              | (go_at_call 16; (with_reducible refine (HP1.out _ _ hc1 HMW.out).mono ?_); rintro e w10 ⟨rfl, hb10⟩; have t0 := below_cell hb10 y1d; have t1 := below_cell hb10 y2d; have HN := Lib.hid (((Below.refl wr.heap.size wr).drew).trans hb10); clear hb10))
          all_goals
            have x1 := below_cell HN.out y1
            have x3 := below_cell HN.out y3
            have HBX := Lib.hid (HBW.out.trans (HN.out.mono HBW.out.size))
            have hod : oddQ x = false := oddQ_of hx
            have HNX := Lib.hid (rnumber40_any x w10)
            rw [hod] at HNX
            have hyt := wrap_mulQ hy ht
            obtain ⟨q, hq⟩ : ∃ q, q = y * t % 1073741789 := ⟨_, rfl⟩
            have hqn : 0 ≤ q ∧ q < 1073741789 := by omega
            have g1 : IntKind.i64.wrap (y * t) = y * t := by
              have : ∀ p : Int, 0 ≤ p ∧ p ≤ 1152921429444920521 → IntKind.i64.wrap p = p := fun p hp => by rw [IntKind.wrap_i64]; omega
              exact this _ hyt
            have g2 : (y * t).tmod 1073741789 = q := by rw [hq, Int.tmod_eq_emod_of_nonneg hyt.1]
            have g3 : IntKind.i64.wrap (x - q) = x - q := by rw [IntKind.wrap_i64]; omega
            have g4 : IntKind.i64.wrap (x - q + 1073741789) = x - q + 1073741789 := by rw [IntKind.wrap_i64]; omega
            have ho : o = (x - q + 1073741789) % 1073741789 := by rw [HTD.out, hq]
            have g5 : (x - q + 1073741789).tmod 1073741789 = o := by rw [ho, Int.tmod_eq_emod_of_nonneg (by omega)]
            have g6 : (x - q) % 1073741789 = o := by omega
            have g7 : IntKind.i64.wrap (s + o) = s + o := by rw [IntKind.wrap_i64]; omega
            have g8 : (s + o).tmod 1073741789 = S2 := by rw [HSS.out, Int.tmod_eq_emod_of_nonneg (by omega)]
            clear hod hq hyt ho y1 y2 y3 yh y1d y2d
            go_wp2_with fail
            refine (HNX.out).mono ?_
            rintro e w11 ⟨rfl, rfl⟩
            go_wp2_with fail
            go_quiet (fail)
            go_wp2_with fail
            obtain ⟨W12, hW12⟩ : ∃ W12, W12 = w10.drewN nq := ⟨_, rfl⟩
            have hb12 : Below w10.heap.size w10 W12 := hW12 ▸ below_drewN (Below.refl _ _) nq
            rw [← hW12]
            have z1 := below_cell hb12 x1
            have z3 := below_cell hb12 x3
            have z1d : W12.drew.cell? ⟨b1, o1 + k, none⟩ = some (.int .i64 y) := z1
            have z3d : W12.drew.cell? ⟨b3, o3 + k, none⟩ = some (.int .i64 t) := z3
            have HBY := Lib.hid (HBX.out.trans (hb12.mono HBX.out.size))
            have HIO := Lib.hid ((ints_one W12 o 3 _ rfl (num_r64 htn)).below ((Below.refl _ _).drew))
            have hnew : Below W12.heap.size W12 (W12.alloc (.cells #[.int .i64 o] 3)).drew := ((Below.refl _ _).alloc (Nat.le_refl _) _).drew
            have n1 := below_cell hnew z1
            have n3 := below_cell hnew z3
            have HBZ := Lib.hid (HBY.out.trans (hnew.mono HBY.out.size))
            have e9 : (x == x) = true := by simp
            have e10 : (x != x) = false := by simp
            clear hW12 hb12 hnew x1 x3
            go_region_held3 (fun w' => w'.cell? ⟨b1, o1 + k, none⟩ = some (.int .i64 y) ∧ w'.cell? ⟨b3, o3 + k, none⟩ = some (.int .i64 t)) (first | go_keep | exact ⟨z1d, z3d⟩ | exact ⟨n1, n3⟩ | exact ⟨t0, t1⟩)
              (first
                | (go_at_call 16; (with_reducible refine (HP2.out _ _ HIO.out).mono ?_); rintro e w13 ⟨rfl, hb13⟩; have t0 := below_cell hb13 n1; have t1 := below_cell hb13 n3; have HBU := Lib.hid (HBZ.out.trans (hb13.mono HBZ.out.size)); clear hb13))
            all_goals
              go_wp2_with fail
              go_roundw
              case rel => exact ⟨k + 1, by omega, by go_num, by rw [HS2.out], HBU.out⟩
              case measure => simp [intOf]; omega
        · obtain rfl : k = hs.length := by omega
          have hdk2 : decide (hs.length < hs.length) = false := decide_eq_false (by omega)
          replace HH := Lib.hid (HH.out.below hb)
          replace HU := Lib.hid (HU.out.below hb)
          replace HT := Lib.hid (HT.out.below hb)
          replace HY := Lib.hid (HY.out.below hb)
          replace HMA := Lib.hid (HMA.out.below hb)
          replace HB := Lib.hid (HB.out.trans (hb.mono HB.out.size))
          clear hb
          rw [HFIN.out]
          go_wp2_with fail
          go_ret
          exact ⟨rfl, HB.out⟩

end Go.Proofs.Ytnbkbnbmmkfckaa
