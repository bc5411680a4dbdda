/- The laws of package program: ProgramProves, the walk. -/
import Derived.Test.YtohebkpgjaaljaaMPmG
namespace Go.Proofs.Ytohebkpgjaaljaa
open Go.RowKit FP

set_option maxRecDepth 100000 in
set_option maxHeartbeats 16000000 in
theorem programProves_any (rv ov wv : Value) (rows : List (List Int)) (owners who : List Int) (w : World) (hR : Rows2 w rv rows) (hO : Ints w ov owners) (hW : Ints w wv who) :
    Calls Try.prog 5 #[.agg #[rv, ov], wv] w fun e w' => e = .returned (.bool true) ∧ Below w.heap.size w w' := by
  obtain ⟨W1, hW1, hb1, hr1, hz⟩ := box_prog w rv ov 25
  have HR := Lib.hid (hR.below hb1)
  have HO := Lib.hid (hO.below hb1)
  have HW := Lib.hid (hW.below hb1)
  obtain ⟨a1, k1, rfl, -, hl1, -⟩ := id hR
  obtain ⟨a2, k2, rfl, -, hl2, -⟩ := id hO
  obtain ⟨a3, k3, rfl, -, hl3, -⟩ := id hW
  have c0 : W1.cell? ⟨w.heap.size, 0, none⟩ = some (.slice a1 rows.length k1) := row_cell hr1 rfl
  have c1 : W1.cell? ⟨w.heap.size, 1, none⟩ = some (.slice a2 owners.length k2) := row_cell hr1 rfl
  have HW1 := Lib.hid hW1
  have HB := Lib.hid hb1
  clear hR hO hW hr1 hW1 hb1 hz
  go_enter Try.func5, Try.ntmps5
  go_wp2_with (rw [← HW1.out])
  refine (sane23_any _).mono ?_
  rintro e w2 ⟨rfl, hb2⟩
  replace c0 := below_cell hb2 c0
  replace c1 := below_cell hb2 c1
  replace HR := Lib.hid (HR.out.below hb2)
  replace HO := Lib.hid (HO.out.below hb2)
  replace HW := Lib.hid (HW.out.below hb2)
  replace HB := Lib.hid (HB.out.trans (hb2.mono HB.out.size))
  clear hb2
  go_wp2_with fail
  refine (rFew23_any _ _ rows owners _ HR.out HO.out).mono ?_
  rintro e w3 ⟨bf, rfl, hb3⟩
  replace c0 := below_cell hb3 c0
  replace c1 := below_cell hb3 c1
  replace HR := Lib.hid (HR.out.below hb3)
  replace HO := Lib.hid (HO.out.below hb3)
  replace HW := Lib.hid (HW.out.below hb3)
  replace HB := Lib.hid (HB.out.trans (hb3.mono HB.out.size))
  clear hb3
  cases bf with
  | false =>
    go_wp2_with fail
    go_ret
    exact ⟨rfl, HB.out⟩
  | true =>
    by_cases h80 : 80 < who.length
    · have d0 : decide (80 < (who.length : Int)) = true := decide_eq_true (by omega)
      go_wp2_with fail
      go_ret
      exact ⟨rfl, HB.out⟩
    · have d0 : decide (80 < (who.length : Int)) = false := decide_eq_false (by omega)
      go_wp2_with fail
      refine (rpCheck_any _ _ rows owners _ HR.out HO.out).mono ?_
      rintro e w4 ⟨rfl, hb4⟩
      replace c0 := below_cell hb4 c0
      replace c1 := below_cell hb4 c1
      replace HR := Lib.hid (HR.out.below hb4)
      replace HO := Lib.hid (HO.out.below hb4)
      replace HW := Lib.hid (HW.out.below hb4)
      replace HB := Lib.hid (HB.out.trans (hb4.mono HB.out.size))
      clear hb4
      by_cases hp : progE rows owners = 0
      rotate_left
      · have d1 : (progE rows owners != 0) = true := bne_iff_ne.2 hp
        go_wp2_with fail
        go_ret
        exact ⟨rfl, HB.out⟩
      · have HPE := Lib.hid hp
        rw [hp]
        clear hp
        go_wp2_with fail
        refine (rPeople_any _ who _ HW.out).mono ?_
        rintro e w5 ⟨rfl, hb5⟩
        replace c0 := below_cell hb5 c0
        replace c1 := below_cell hb5 c1
        replace HR := Lib.hid (HR.out.below hb5)
        replace HO := Lib.hid (HO.out.below hb5)
        replace HW := Lib.hid (HW.out.below hb5)
        replace HB := Lib.hid (HB.out.trans (hb5.mono HB.out.size))
        clear hb5
        cases hw : peopleB (-1) who with
        | false =>
          go_wp2_with fail
          go_ret
          exact ⟨rfl, HB.out⟩
        | true =>
          obtain ⟨hq, hpk⟩ := prove_pack HPE.out hw
          have HQ := Lib.hid hq
          have HPK := Lib.hid hpk
          have HP := Lib.hid (progE_ok HPE.out)
          clear hq hpk hw
          go_wp2_with fail
          refine (accepts_any _ _ _ rows owners who _ HR.out HO.out HW.out).mono ?_
          rintro e w6 ⟨yv, rfl, hy, hb6⟩
          replace c0 := below_cell hb6 c0
          replace c1 := below_cell hb6 c1
          replace HR := Lib.hid (HR.out.below hb6)
          replace HO := Lib.hid (HO.out.below hb6)
          replace HW := Lib.hid (HW.out.below hb6)
          replace HB := Lib.hid (HB.out.trans (hb6.mono HB.out.size))
          clear hb6
          rw [HQ.out]
          have HY := Lib.hid hy
          clear hy
          go_wp2_with fail
          refine (refuses_any _ _ _ rows owners who _ HR.out HO.out HW.out).mono ?_
          rintro e w7 ⟨vv, rfl, hv, hb7⟩
          replace c0 := below_cell hb7 c0
          replace c1 := below_cell hb7 c1
          replace HR := Lib.hid (HR.out.below hb7)
          replace HO := Lib.hid (HO.out.below hb7)
          replace HW := Lib.hid (HW.out.below hb7)
          replace HY := Lib.hid (HY.out.below hb7)
          replace HB := Lib.hid (HB.out.trans (hb7.mono HB.out.size))
          clear hb7
          rw [HQ.out]
          have HV := Lib.hid hv
          clear hv
          go_wp2_with fail
          refine (rCols_any _ _ rows _ HR.out ⟨_, _, _, rfl⟩).mono ?_
          rintro e w8 ⟨rfl, hb8⟩
          replace c0 := below_cell hb8 c0
          replace c1 := below_cell hb8 c1
          replace HR := Lib.hid (HR.out.below hb8)
          replace HO := Lib.hid (HO.out.below hb8)
          replace HW := Lib.hid (HW.out.below hb8)
          replace HY := Lib.hid (HY.out.below hb8)
          replace HV := Lib.hid (HV.out.below hb8)
          replace HB := Lib.hid (HB.out.trans (hb8.mono HB.out.size))
          clear hb8
          rcases HPK.out with ⟨h1, h2, h3⟩ | ⟨h1, h2, v, h3, h4⟩
          · rw [h1, h2]
            rw [h2] at HV
            have HV : Hid (Ints w8 vv []) := HV
            obtain ⟨y, hyd⟩ : ∃ y, y = accY rows owners who := ⟨_, rfl⟩
            rw [← hyd] at HY h3
            have H3 := Lib.hid h3
            obtain ⟨av, cv1, rfl, -⟩ := id HV.out
            obtain ⟨ay, cy, rfl, -, hl4, -⟩ := id HY.out
            have hyl := H3.out.len
            have d2 : ((y.length : Int) != (rows.length : Int)) = false := by rw [hyl]; simp
            have HYL := Lib.hid hyl
            clear h1 h2 h3 hyd HPK hyl
            have hcl : colsQ rows ≤ 64 := HP.out.cols_le
            have HCL := Lib.hid hcl
            obtain ⟨cs, hcs⟩ : ∃ cs, cs = colsQ rows := ⟨_, rfl⟩
            rw [← hcs] at hcl ⊢
            have HCS := Lib.hid hcs
            clear hcs
            go_wp2_with fail
            go_loopw [79] (fun i W => ∃ k : Nat, k ≤ cs ∧ i = .int .i64 k ∧ Below w8.heap.size w8 W) (fun i _ => cs - (intOf i).toNat)
            case atStart => exact ⟨0, Nat.zero_le _, rfl, Below.refl _ _⟩
            case round =>
              obtain ⟨k, hkl, rfl, hb⟩ := hrel
              have HBK := Lib.hid hb
              by_cases hlt : k < cs
              · have i0 : (k : Int) < (cs : Int) := by omega
                have z0 := below_cell hb c0
                have HSUM := Lib.hid (H3.out.sum k (by rw [← HCS.out]; exact hlt))
                by_cases hk0 : k = 0
                · have q0 : ((k : Int) == 0) = true := beq_iff_eq.2 (by omega)
                  have q1 : (k == 0) = true := beq_iff_eq.2 hk0
                  have HK0 := Lib.hid hk0
                  clear hk0
                  go_wp2_with fail
                  go_loopw [13, 87] (fun s i W => ∃ j : Nat, j ≤ rows.length ∧ i = .int .i64 j ∧ s = .int .i64 (sumK y rows k j) ∧ Below w8.heap.size w8 W) (fun _ i _ => rows.length - (intOf i).toNat)
                  case atStart => exact ⟨0, Nat.zero_le _, rfl, rfl, HBK.out⟩
                  case round =>
                    clear z0
                    obtain ⟨j, hjl, rfl, rfl, hb⟩ := hrel
                    have HBJ := Lib.hid hb
                    have hsn := sumK_num y rows k j
                    by_cases hjt : j < rows.length
                    · obtain ⟨-, bx, ox, _, _, ex, qx⟩ := HY.out.get (k := j) (by have := HYL.out; omega)
                      simp only [Value.slice.injEq] at ex
                      obtain ⟨rfl, -, -⟩ := ex
                      obtain ⟨-, bo, oo, _, _, eo, qo⟩ := HO.out.get (k := j) (by have := HP.out.len; omega)
                      simp only [Value.slice.injEq] at eo
                      obtain ⟨rfl, -, -⟩ := eo
                      obtain ⟨ar, cr, er, -, -, hk⟩ := HR.out
                      obtain ⟨bb, ob, rr, ea, qr, ir⟩ := hk j hjt
                      simp only [Value.slice.injEq] at er
                      obtain ⟨rfl, -, -⟩ := er
                      subst ea
                      have hrl : rows[j].length = cs := by rw [HCS.out]; exact HP.out.row hjt
                      obtain ⟨az, cz, rfl, -⟩ := id ir
                      obtain ⟨-, bz, oz, _, _, ez, qz⟩ := ir.get (k := k) (by omega)
                      simp only [Value.slice.injEq] at ez
                      obtain ⟨rfl, -, -⟩ := ez
                      rw [hrl] at qr
                      have hxn : 0 ≤ nth y j ∧ nth y j < 1073741789 := by rw [nth_at (show j < y.length by have := HYL.out; omega)]; exact H3.out.num _ (List.getElem_mem _)
                      have hzn : 0 ≤ nth rows[j] k ∧ nth rows[j] k < 1073741789 := by rw [nth_at (show k < rows[j].length by omega)]; exact HP.out.right.num _ (List.getElem_mem hjt) _ (List.getElem_mem _)
                      have HS : Hid (sumK y rows k (j + 1) = (sumK y rows k j + nth y j * nth rows[j] k) % 1073741789) := Lib.hid (by
                        show (sumK y rows k j + nth y j * nth (rows.getD j []) k) % 1073741789 = _
                        rw [getD_at hjt])
                      have HOW := Lib.hid (H3.out.own j hjt)
                      have y0 := below_cell hb c0
                      have y1 := below_cell hb c1
                      have y2 := below_cell hb qx
                      have y3 := below_cell hb qo
                      have y4 := below_cell hb qr
                      have y5 := below_cell hb qz
                      have HWJ := Lib.hid (HW.out.below hb)
                      have j0 : (0 : Int) ≤ (j : Int) := by omega
                      have j1 : (j : Int) < (rows.length : Int) := by omega
                      have j2 : (j : Int) < (y.length : Int) := by have := HYL.out; omega
                      have j3 : (j : Int) < (owners.length : Int) := by have := HP.out.len; omega
                      have k0 : (0 : Int) ≤ (k : Int) := by omega
                      clear hk ir qx qo qr qz hb hrl
                      obtain ⟨x, hx⟩ : ∃ x, x = nth y j := ⟨_, rfl⟩
                      obtain ⟨z, hz⟩ : ∃ z, z = nth rows[j] k := ⟨_, rfl⟩
                      obtain ⟨o, ho⟩ : ∃ o, o = nth owners j := ⟨_, rfl⟩
                      obtain ⟨s, hs⟩ : ∃ s, s = sumK y rows k j := ⟨_, rfl⟩
                      rw [← hx] at hxn y2 HS HOW
                      rw [← hz] at hzn y5 HS
                      rw [← ho] at y3 HOW
                      rw [← hs] at hsn HS ⊢
                      have hm0 : 0 ≤ x * z := Int.mul_nonneg hxn.1 hzn.1
                      have hm1 : x * z ≤ 1073741788 * 1073741788 := Int.mul_le_mul (by omega) (by omega) hzn.1 (by omega)
                      have v1 : IntKind.i64.wrap (x * z) = x * z := IntWalk.i64_in _ (by omega)
                      have v2 : IntKind.i64.wrap (s + x * z) = s + x * z := IntWalk.i64_in _ (by omega)
                      have v3 : (s + x * z).tmod 1073741789 = (s + x * z) % 1073741789 := Int.tmod_eq_emod_of_nonneg (by omega)
                      have v4 : IntKind.i64.wrap ((s + x * z) % 1073741789) = (s + x * z) % 1073741789 := IntWalk.i64_in _ (by omega)
                      have u1 : wrap64 (x * z) = x * z := by unfold wrap64; omega
                      have u2 : wrap64 (s + x * z) = s + x * z := by unfold wrap64; omega
                      have u4 : wrap64 ((s + x * z) % 1073741789) = (s + x * z) % 1073741789 := by unfold wrap64; omega
                      have e1 : decide (x < 0) = false := decide_eq_false (by omega)
                      have e2 : decide (1073741789 ≤ x) = false := decide_eq_false (by omega)
                      clear hx hz ho hs hm0 hm1 hsn hxn hzn
                      by_cases hx0 : x = 0
                      · have e3 : (x != 0) = false := by rw [hx0]; rfl
                        clear hx0
                        go_wp2_with fail
                        go_quiet (fail)
                        go_wp2_with fail
                        go_roundw
                        case rel => exact ⟨j + 1, by omega, by go_num, by rw [HS.out], below_drewN HBJ.out _⟩
                        case measure => simp [intOf]; omega
                      · have e3 : (x != 0) = true := bne_iff_ne.2 hx0
                        have HH : Hid (decide (o ∈ who) = true) := Lib.hid (decide_eq_true (HOW.out hx0))
                        clear hx0
                        go_wp2_with fail
                        with_reducible refine (rHas_any _ who o _ HWJ.out).mono ?_
                        rintro e w9 ⟨rfl, rfl⟩
                        rw [HH.out]
                        go_wp2_with fail
                        go_quiet (fail)
                        go_wp2_with fail
                        go_roundw
                        case rel => exact ⟨j + 1, by omega, by go_num, by rw [HS.out], below_drewN HBJ.out _⟩
                        case measure => simp [intOf]; omega
                    · obtain rfl : j = rows.length := by omega
                      have e4 : sumK y rows k rows.length = 1 := HSUM.out.trans (if_pos HK0.out)
                      rw [e4]
                      have hdj : decide (rows.length < rows.length) = false := decide_eq_false hjt
                      clear e4 hb hsn
                      go_wp2_with fail
                      go_roundw
                      case rel => exact ⟨k + 1, by omega, by go_num, HBJ.out⟩
                      case measure => simp [intOf]; omega
                · have q0 : ((k : Int) == 0) = false := beq_eq_false_iff_ne.2 (by omega)
                  have q1 : (k == 0) = false := beq_eq_false_iff_ne.2 hk0
                  have HK0 := Lib.hid hk0
                  clear hk0
                  go_wp2_with fail
                  go_loopw [13, 87] (fun s i W => ∃ j : Nat, j ≤ rows.length ∧ i = .int .i64 j ∧ s = .int .i64 (sumK y rows k j) ∧ Below w8.heap.size w8 W) (fun _ i _ => rows.length - (intOf i).toNat)
                  case atStart => exact ⟨0, Nat.zero_le _, rfl, rfl, HBK.out⟩
                  case round =>
                    clear z0
                    obtain ⟨j, hjl, rfl, rfl, hb⟩ := hrel
                    have HBJ := Lib.hid hb
                    have hsn := sumK_num y rows k j
                    by_cases hjt : j < rows.length
                    · obtain ⟨-, bx, ox, _, _, ex, qx⟩ := HY.out.get (k := j) (by have := HYL.out; omega)
                      simp only [Value.slice.injEq] at ex
                      obtain ⟨rfl, -, -⟩ := ex
                      obtain ⟨-, bo, oo, _, _, eo, qo⟩ := HO.out.get (k := j) (by have := HP.out.len; omega)
                      simp only [Value.slice.injEq] at eo
                      obtain ⟨rfl, -, -⟩ := eo
                      obtain ⟨ar, cr, er, -, -, hk⟩ := HR.out
                      obtain ⟨bb, ob, rr, ea, qr, ir⟩ := hk j hjt
                      simp only [Value.slice.injEq] at er
                      obtain ⟨rfl, -, -⟩ := er
                      subst ea
                      have hrl : rows[j].length = cs := by rw [HCS.out]; exact HP.out.row hjt
                      obtain ⟨az, cz, rfl, -⟩ := id ir
                      obtain ⟨-, bz, oz, _, _, ez, qz⟩ := ir.get (k := k) (by omega)
                      simp only [Value.slice.injEq] at ez
                      obtain ⟨rfl, -, -⟩ := ez
                      rw [hrl] at qr
                      have hxn : 0 ≤ nth y j ∧ nth y j < 1073741789 := by rw [nth_at (show j < y.length by have := HYL.out; omega)]; exact H3.out.num _ (List.getElem_mem _)
                      have hzn : 0 ≤ nth rows[j] k ∧ nth rows[j] k < 1073741789 := by rw [nth_at (show k < rows[j].length by omega)]; exact HP.out.right.num _ (List.getElem_mem hjt) _ (List.getElem_mem _)
                      have HS : Hid (sumK y rows k (j + 1) = (sumK y rows k j + nth y j * nth rows[j] k) % 1073741789) := Lib.hid (by
                        show (sumK y rows k j + nth y j * nth (rows.getD j []) k) % 1073741789 = _
                        rw [getD_at hjt])
                      have HOW := Lib.hid (H3.out.own j hjt)
                      have y0 := below_cell hb c0
                      have y1 := below_cell hb c1
                      have y2 := below_cell hb qx
                      have y3 := below_cell hb qo
                      have y4 := below_cell hb qr
                      have y5 := below_cell hb qz
                      have HWJ := Lib.hid (HW.out.below hb)
                      have j0 : (0 : Int) ≤ (j : Int) := by omega
                      have j1 : (j : Int) < (rows.length : Int) := by omega
                      have j2 : (j : Int) < (y.length : Int) := by have := HYL.out; omega
                      have j3 : (j : Int) < (owners.length : Int) := by have := HP.out.len; omega
                      have k0 : (0 : Int) ≤ (k : Int) := by omega
                      clear hk ir qx qo qr qz hb hrl
                      obtain ⟨x, hx⟩ : ∃ x, x = nth y j := ⟨_, rfl⟩
                      obtain ⟨z, hz⟩ : ∃ z, z = nth rows[j] k := ⟨_, rfl⟩
                      obtain ⟨o, ho⟩ : ∃ o, o = nth owners j := ⟨_, rfl⟩
                      obtain ⟨s, hs⟩ : ∃ s, s = sumK y rows k j := ⟨_, rfl⟩
                      rw [← hx] at hxn y2 HS HOW
                      rw [← hz] at hzn y5 HS
                      rw [← ho] at y3 HOW
                      rw [← hs] at hsn HS ⊢
                      have hm0 : 0 ≤ x * z := Int.mul_nonneg hxn.1 hzn.1
                      have hm1 : x * z ≤ 1073741788 * 1073741788 := Int.mul_le_mul (by omega) (by omega) hzn.1 (by omega)
                      have v1 : IntKind.i64.wrap (x * z) = x * z := IntWalk.i64_in _ (by omega)
                      have v2 : IntKind.i64.wrap (s + x * z) = s + x * z := IntWalk.i64_in _ (by omega)
                      have v3 : (s + x * z).tmod 1073741789 = (s + x * z) % 1073741789 := Int.tmod_eq_emod_of_nonneg (by omega)
                      have v4 : IntKind.i64.wrap ((s + x * z) % 1073741789) = (s + x * z) % 1073741789 := IntWalk.i64_in _ (by omega)
                      have u1 : wrap64 (x * z) = x * z := by unfold wrap64; omega
                      have u2 : wrap64 (s + x * z) = s + x * z := by unfold wrap64; omega
                      have u4 : wrap64 ((s + x * z) % 1073741789) = (s + x * z) % 1073741789 := by unfold wrap64; omega
                      have e1 : decide (x < 0) = false := decide_eq_false (by omega)
                      have e2 : decide (1073741789 ≤ x) = false := decide_eq_false (by omega)
                      clear hx hz ho hs hm0 hm1 hsn hxn hzn
                      by_cases hx0 : x = 0
                      · have e3 : (x != 0) = false := by rw [hx0]; rfl
                        clear hx0
                        go_wp2_with fail
                        go_quiet (fail)
                        go_wp2_with fail
                        go_roundw
                        case rel => exact ⟨j + 1, by omega, by go_num, by rw [HS.out], below_drewN HBJ.out _⟩
                        case measure => simp [intOf]; omega
                      · have e3 : (x != 0) = true := bne_iff_ne.2 hx0
                        have HH : Hid (decide (o ∈ who) = true) := Lib.hid (decide_eq_true (HOW.out hx0))
                        clear hx0
                        go_wp2_with fail
                        with_reducible refine (rHas_any _ who o _ HWJ.out).mono ?_
                        rintro e w9 ⟨rfl, rfl⟩
                        rw [HH.out]
                        go_wp2_with fail
                        go_quiet (fail)
                        go_wp2_with fail
                        go_roundw
                        case rel => exact ⟨j + 1, by omega, by go_num, by rw [HS.out], below_drewN HBJ.out _⟩
                        case measure => simp [intOf]; omega
                    · obtain rfl : j = rows.length := by omega
                      have e4 : sumK y rows k rows.length = 0 := HSUM.out.trans (if_neg HK0.out)
                      rw [e4]
                      have hdj : decide (rows.length < rows.length) = false := decide_eq_false hjt
                      clear e4 hb hsn
                      go_wp2_with fail
                      go_roundw
                      case rel => exact ⟨k + 1, by omega, by go_num, HBJ.out⟩
                      case measure => simp [intOf]; omega
              · have hdk : decide (k < cs) = false := decide_eq_false hlt
                have HF := Lib.hid (HB.out.trans (hb.mono HB.out.size))
                clear hb
                go_wp2_with fail
                go_ret
                exact ⟨rfl, HF.out⟩
          · rw [h1, h3]
            rw [h2] at HY
            rw [h3] at HV
            have HV : Hid (Ints w8 vv v) := HV
            have H4 := Lib.hid h4
            obtain ⟨ay, cy, rfl, -⟩ := id HY.out
            obtain ⟨av, cv1, rfl, -, hl4, -⟩ := id HV.out
            have hvl := H4.out.len
            have d2 : ((v.length : Int) != (colsQ rows : Int)) = false := by rw [hvl]; simp
            have HVL := Lib.hid hvl
            have hc1 := HP.out.cols
            obtain ⟨-, bv, o9, _, _, ev, qv⟩ := HV.out.get (k := 0) (by omega)
            simp only [Value.slice.injEq] at ev
            obtain ⟨rfl, -, -⟩ := ev
            rw [H4.out.one, Nat.add_zero] at qv
            have i9 : (0 : Int) < (v.length : Int) := by omega
            clear h1 h2 h3 h4 HPK hvl hc1
            obtain ⟨cs, hcs⟩ : ∃ cs, cs = colsQ rows := ⟨_, rfl⟩
            rw [← hcs] at d2 ⊢
            clear hcs
            go_wp2_with fail
            go_loopw [157] (fun i W => ∃ k : Nat, k ≤ v.length ∧ i = .int .i64 k ∧ Below w8.heap.size w8 W) (fun i _ => v.length - (intOf i).toNat)
            case atStart => exact ⟨0, Nat.zero_le _, rfl, Below.refl _ _⟩
            case round =>
              obtain ⟨k, hkl, rfl, hb⟩ := hrel
              have HBK := Lib.hid hb
              by_cases hlt : k < v.length
              · obtain ⟨-, bx, ox, _, _, ex, qx⟩ := HV.out.get hlt
                simp only [Value.slice.injEq, Option.some.injEq, Addr.mk.injEq] at ex
                obtain ⟨⟨rfl, rfl, -⟩, -, -⟩ := ex
                have hxn : 0 ≤ nth v k ∧ nth v k < 1073741789 := by rw [nth_at hlt]; exact H4.out.num _ (List.getElem_mem hlt)
                have y2 := below_cell hb qx
                have i0 : (0 : Int) ≤ (k : Int) := by omega
                have i1 : (k : Int) < (v.length : Int) := by omega
                have e1 : decide (nth v k < 0) = false := decide_eq_false (by omega)
                have e2 : decide (1073741789 ≤ nth v k) = false := decide_eq_false (by omega)
                clear hxn qx hb
                generalize nth v k = x at *
                go_wp2_with fail
                go_roundw
                case rel => exact ⟨k + 1, by omega, by go_num, HBK.out⟩
                case measure => simp [intOf]; omega
              · have hdk : decide (k < v.length) = false := decide_eq_false hlt
                have z0 := below_cell hb c0
                clear hlt hkl hb
                go_wp2_with fail
                go_loopw [171] (fun i W => ∃ j : Nat, j ≤ rows.length ∧ i = .int .i64 j ∧ Below w8.heap.size w8 W) (fun i _ => rows.length - (intOf i).toNat)
                case atStart => exact ⟨0, Nat.zero_le _, rfl, HBK.out⟩
                case round =>
                  clear z0
                  obtain ⟨j, hjl, rfl, hb⟩ := hrel
                  have HBJ := Lib.hid hb
                  by_cases hjt : j < rows.length
                  · obtain ⟨-, bo, oo, _, _, eo, qo⟩ := HO.out.get (k := j) (by have := HP.out.len; omega)
                    simp only [Value.slice.injEq] at eo
                    obtain ⟨rfl, -, -⟩ := eo
                    obtain ⟨ar, cr, er, -, -, hk⟩ := HR.out
                    obtain ⟨bb, ob, rr, ea, qr, ir⟩ := hk j hjt
                    simp only [Value.slice.injEq] at er
                    obtain ⟨rfl, -, -⟩ := er
                    subst ea
                    have HIR := Lib.hid (ir.below hb)
                    obtain ⟨az, cz, rfl, -⟩ := id ir
                    have HRL := Lib.hid (show v.length ≤ rows[j].length by rw [HVL.out, HP.out.row hjt]; exact Nat.le_refl _)
                    have HPR := Lib.hid (H4.out.prod j hjt)
                    rw [getD_at hjt] at HPR
                    have HNR := Lib.hid (HP.out.right.num _ (List.getElem_mem hjt))
                    have y0 := below_cell hb c0
                    have y1 := below_cell hb c1
                    have y3 := below_cell hb qo
                    have y4 := below_cell hb qr
                    have HWJ := Lib.hid (HW.out.below hb)
                    have HVJ := Lib.hid (HV.out.below hb)
                    have j0 : (0 : Int) ≤ (j : Int) := by omega
                    have j1 : (j : Int) < (rows.length : Int) := by omega
                    have j3 : (j : Int) < (owners.length : Int) := by have := HP.out.len; omega
                    clear hk ir qo qr hb
                    obtain ⟨o, ho⟩ : ∃ o, o = nth owners j := ⟨_, rfl⟩
                    obtain ⟨rw_, hrw⟩ : ∃ r, r = rows[j] := ⟨_, rfl⟩
                    rw [← ho] at y3 HPR
                    rw [← hrw] at y4 HPR HNR HRL HIR
                    clear ho hrw
                    go_wp2_with fail
                    with_reducible refine (rHas_any _ who o _ HWJ.out).mono ?_
                    rintro e w9 ⟨rfl, rfl⟩
                    by_cases ho : o ∈ who
                    · rw [decide_eq_true ho]
                      have HZ := Lib.hid (HPR.out ho)
                      clear ho
                      go_wp2_with fail
                      with_reducible refine (rproduct23_any _ _ v rw_ _ HVJ.out HIR.out HRL.out H4.out.num HNR.out).mono ?_
                      rintro e w9 ⟨rfl, hb9⟩
                      rw [HZ.out]
                      have HB9 := Lib.hid (HBJ.out.trans (hb9.mono HBJ.out.size))
                      clear hb9
                      go_wp2_with fail
                      go_roundw
                      case rel => exact ⟨j + 1, by omega, by go_num, HB9.out⟩
                      case measure => simp [intOf]; omega
                    · rw [decide_eq_false ho]
                      clear ho
                      go_wp2_with fail
                      go_roundw
                      case rel => exact ⟨j + 1, by omega, by go_num, HBJ.out⟩
                      case measure => simp [intOf]; omega
                  · have hdj : decide (j < rows.length) = false := decide_eq_false hjt
                    have HF := Lib.hid (HB.out.trans (hb.mono HB.out.size))
                    clear hb
                    go_wp2_with fail
                    go_ret
                    exact ⟨rfl, HF.out⟩

end Go.Proofs.Ytohebkpgjaaljaa
