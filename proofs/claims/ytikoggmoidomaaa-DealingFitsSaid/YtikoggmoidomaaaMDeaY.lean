/- The laws of dealing: DealingFits, the walk. -/
import Derived.Test.YtikoggmoidomaaaMDeaV
import Derived.Deep.RegionHeld3
namespace Go.Proofs.Ytikoggmoidomaaa
open Go.RowKit FP

theorem dealFits_1 {p v : Int} (h : p = v) : decide (v = p) = true := decide_eq_true h.symm
theorem dealFits_2 {p v : Int} (h : p ≠ v) : decide (v = p) = false := decide_eq_false (fun e => h e.symm)

set_option maxRecDepth 100000 in
set_option maxHeartbeats 8000000 in
theorem dealingFits_any (rv ov lv : Value) (rows : List (List Int)) (owners : List Int) (sec : Int) (l : List Int) (oth : Int) (w : World) (hR : Rows2 w rv rows) (hO : Ints w ov owners) (hsec : 0 ≤ sec ∧ sec < 4294967296) (hL : Words w lv l) (hoth : 0 ≤ oth ∧ oth < 4294967296) :
    Calls Try.prog 5 #[.agg #[rv, ov], .int .u32 sec, lv, .int .u32 oth] w fun e w' => e = .returned (.bool true) ∧ Below w.heap.size w w' := by
  obtain ⟨W1, hW1, hb1, hr1, hz⟩ := box_prog w rv ov 25
  have HR1 := Lib.hid (hR.below hb1)
  have HO1 := Lib.hid (hO.below hb1)
  have HL1 := Lib.hid (hL.below hb1)
  obtain ⟨a, cap, rfl, -, hlen, -⟩ := id hR
  obtain ⟨a2, cap2, rfl, -, hlen2, -⟩ := id hO
  obtain ⟨a3, cap3, rfl, -, hlen3, -⟩ := id hL
  have c0 : W1.cell? ⟨w.heap.size, 0, none⟩ = some (.slice a rows.length cap) := row_cell hr1 rfl
  have c1 : W1.cell? ⟨w.heap.size, 1, none⟩ = some (.slice a2 owners.length cap2) := row_cell hr1 rfl
  have HW1 := Lib.hid hW1
  have HB1 := Lib.hid hb1
  have HS := Lib.hid (sane34_any W1)
  clear hR hO hL hr1 hW1 hb1
  cases hsm : smallQ rows owners with
  | false =>
    have HSM := Lib.hid hsm
    clear hsm
    go_enter Try.func5, Try.ntmps5
    go_wp2_with fail
    rw [← HW1.out]
    refine HS.out.mono ?_
    rintro r w2 ⟨rfl, hb2⟩
    have d0 := below_cell hb2 c0
    have d1 := below_cell hb2 c1
    have HR2 := Lib.hid (HR1.out.below hb2)
    have HO2 := Lib.hid (HO1.out.below hb2)
    have HB2 := Lib.hid (HB1.out.trans (hb2.mono HB1.out.size))
    clear hb2
    go_wp2_with fail
    refine (rsmall_any _ _ rows owners _ HR2.out HO2.out).mono ?_
    rintro r w3 ⟨rfl, hb3⟩
    rw [HSM.out]
    go_wp2_with fail
    go_ret
    exact ⟨rfl, HB2.out.trans (hb3.mono HB2.out.size)⟩
  | true =>
    have HSM := Lib.hid hsm
    obtain ⟨hrl, hp0, hcl⟩ := small_ok hsm
    obtain ⟨s, hs⟩ : ∃ s, s = sec % 1073741789 := ⟨_, rfl⟩
    have hsn : 0 ≤ s ∧ s < 1073741789 := by omega
    have hs0 := hsn.1
    have hs1 := hsn.2
    obtain ⟨o2, ho2⟩ : ∃ o2, o2 = oth % 1073741789 := ⟨_, rfl⟩
    have hon : 0 ≤ o2 ∧ o2 < 1073741789 := by omega
    have HOK := Lib.hid (rand_ok hp0 l hsn)
    have HP0 := Lib.hid hp0
    have HDL := Lib.hid (fun W v h1 h2 h3 => deal_ok (.slice a rows.length cap) (.slice a2 owners.length cap2) v rows owners s (randQ rows l) W h1 h2 h3 HOK.out HP0.out)
    have HRD := Lib.hid (fun W h1 h2 h3 => random_any (.slice a rows.length cap) (.slice a2 owners.length cap2) (.slice a3 l.length cap3) rows owners l W h1 h2 h3 HOK.out.prog)
    have HCO := Lib.hid (fun W h1 h2 => rcolumns_any (.slice a rows.length cap) (.slice a2 owners.length cap2) rows owners W h1 h2)
    have HFT := Lib.hid (fun k (hk : k < rows.length) v (hv : 0 ≤ v ∧ v < 1073741789) => fit_deal HOK.out HP0.out hk hv)
    have HPN := Lib.hid (fun k => prodQ_num (rows.getD k []) (s :: randQ rows l))
    have HDA := Lib.hid (fun k h => dealL_at rows (s :: randQ rows l) (k := k) h)
    have HDN := Lib.hid (dealL_len rows (s :: randQ rows l))
    have HC0 : Hid (nth (dealC (s :: randQ rows l)) 0 = powE 4 s) := Lib.hid (by rw [nth_at (by simp [dealC])]; rfl)
    have HCN : Hid ((dealC (s :: randQ rows l)).length = colsQ rows) := Lib.hid (by have := HOK.out.len; simp [dealC]; omega)
    have hcc := HOK.out.prog.cols
    obtain ⟨D, hD⟩ : ∃ D, D = dealL rows (s :: randQ rows l) := ⟨_, rfl⟩
    obtain ⟨C, hC⟩ : ∃ C, C = dealC (s :: randQ rows l) := ⟨_, rfl⟩
    rw [← hD] at HDN
    rw [← hC] at HC0 HCN
    have HDA2 : Hid (∀ k (h : k < D.length), D[k] = ((k : Int), prodQ (rows.getD k []) (s :: randQ rows l))) := Lib.hid (by subst hD; exact HDA.out)
    have HDL2 : Hid (∀ W v, Rows2 W (.slice a rows.length cap) rows → Ints W (.slice a2 owners.length cap2) owners → Ints W v (randQ rows l) → Calls Try.prog 16 #[.agg #[.slice a rows.length cap, .slice a2 owners.length cap2], .int .i64 s, v] W fun r w' => ∃ al cl ac cc, r = .returned (.tuple #[.slice al rows.length cl, .slice ac (colsQ rows) cc, .int .i64 0]) ∧ Shares w' (.slice al rows.length cl) D ∧ Ints w' (.slice ac (colsQ rows) cc) C ∧ Below W.heap.size W w') := Lib.hid (by subst hD hC; exact HDL.out)
    have HFT2 : Hid (∀ k, k < rows.length → ∀ v, 0 ≤ v ∧ v < 1073741789 → fitE rows owners C k v = 0 ∧ fitB rows owners C k v = decide (v = prodQ (rows.getD k []) (s :: randQ rows l))) := Lib.hid (by subst hC; exact HFT.out)
    obtain ⟨P, hP⟩ : ∃ P : Nat → Int, P = fun k => prodQ (rows.getD k []) (s :: randQ rows l) := ⟨_, rfl⟩
    have HDA3 : Hid (∀ k (h : k < D.length), D[k] = ((k : Int), P k)) := Lib.hid (by subst hP; exact HDA2.out)
    have HFT3 : Hid (∀ k, k < rows.length → ∀ v, 0 ≤ v ∧ v < 1073741789 → fitE rows owners C k v = 0 ∧ fitB rows owners C k v = decide (v = P k)) := Lib.hid (by subst hP; exact HFT2.out)
    have HPN2 : Hid (∀ k, 0 ≤ P k ∧ P k < 1073741789) := Lib.hid (by subst hP; exact HPN.out)
    have HPW := Lib.hid (fun w => pow_yes 4 s w el_four (num_r64 hsn))
    obtain ⟨key, hkey⟩ : ∃ key, key = powE 4 s := ⟨_, rfl⟩
    rw [← hkey] at HPW HC0
    have hm1 : sec.tmod 1073741789 = s := by rw [hs, Int.tmod_eq_emod_of_nonneg hsec.1]
    have hw1 : IntKind.i64.wrap sec = sec := IntWalk.i64_in _ (by omega)
    have hm2 : oth.tmod 1073741789 = o2 := by rw [ho2, Int.tmod_eq_emod_of_nonneg hoth.1]
    have hw2 : IntKind.i64.wrap oth = oth := IntWalk.i64_in _ (by omega)
    have hsec0 := hsec.1
    have hsec1 := hsec.2
    have hoth0 := hoth.1
    have hoth1 := hoth.2
    have HS1 := Lib.hid hs
    have HO2E := Lib.hid ho2
    have HON := Lib.hid hon
    clear hsm hD hC hP hkey hs ho2 hon hsn HDL HFT HDA HDA2 HFT2 HPN hp0 hsec hoth
    go_enter Try.func5, Try.ntmps5
    go_wp2_with fail
    rw [← HW1.out]
    refine HS.out.mono ?_
    rintro r w2 ⟨rfl, hb2⟩
    have d0 := below_cell hb2 c0
    have d1 := below_cell hb2 c1
    have HR2 := Lib.hid (HR1.out.below hb2)
    have HO2 := Lib.hid (HO1.out.below hb2)
    have HL2 := Lib.hid (HL1.out.below hb2)
    have HB2 := Lib.hid (HB1.out.trans (hb2.mono HB1.out.size))
    clear hb2 c0 c1 HS HR1 HO1 HL1
    go_wp2_with fail
    refine (rsmall_any _ _ rows owners _ HR2.out HO2.out).mono ?_
    rintro r w3 ⟨rfl, hb3⟩
    rw [HSM.out]
    have x0 := below_cell hb3 d0
    have x1 := below_cell hb3 d1
    have hbd : Below w3.heap.size w3 w3.drew := (Below.refl _ _).drew
    have HR3 := Lib.hid ((HR2.out.below hb3).below hbd)
    have HO3 := Lib.hid ((HO2.out.below hb3).below hbd)
    have HL3 := Lib.hid ((HL2.out.below hb3).below hbd)
    have HB3 := Lib.hid ((HB2.out.trans (hb3.mono HB2.out.size)).drew)
    clear hb3 hbd d0 d1 HR2 HO2 HL2
    go_wp2_with fail
    try rw [← HS1.out]
    go_region_held3 (fun w' => w'.cell? ⟨w.heap.size, 0, none⟩ = some (.slice a rows.length cap) ∧ w'.cell? ⟨w.heap.size, 1, none⟩ = some (.slice a2 owners.length cap2)) (first | go_keep | exact ⟨y0, y1⟩ | exact ⟨z0, z1⟩)
      (first
        | (go_at_call 27; (refine (HRD.out _ HR3.out HO3.out HL3.out).mono ?_); rintro e w4 ⟨rn, rfl, hrn, hb4⟩; have HR4 := Lib.hid (HR3.out.below hb4); have HO4 := Lib.hid (HO3.out.below hb4); have HRN := Lib.hid hrn; have y0 := below_cell hb4 x0; have y1 := below_cell hb4 x1; have HB4 := Lib.hid (HB3.out.trans (hb4.mono HB3.out.size)); clear hrn hb4)
        | (go_at_call 16; (refine (HDL2.out _ _ HR4.out HO4.out HRN.out).mono ?_); rintro e w5 ⟨al, cl, ac, cc, rfl, hsh, hcm, hb5⟩; have HR5 := Lib.hid (HR4.out.below hb5); have HO5 := Lib.hid (HO4.out.below hb5); have HSH := Lib.hid hsh; have HCM := Lib.hid hcm; have z0 := below_cell hb5 y0; have z1 := below_cell hb5 y1; have HB5 := Lib.hid (HB4.out.trans (hb5.mono HB4.out.size)); clear hsh hcm hb5))
    clear HRD HDL2 HR3 HO3 HL3 HB3 HR4 HO4 HRN y0 y1 HB4 x0 x1 hw1 hm1 hsec0 hsec1 HSM HOK HP0
    go_wp2_with fail
    refine (HPW.out _).mono ?_
    rintro e w6 ⟨rfl, hb6⟩
    have x0 := below_cell hb6 z0
    have x1 := below_cell hb6 z1
    have HR6 := Lib.hid (HR5.out.below hb6)
    have HO6 := Lib.hid (HO5.out.below hb6)
    have HSH6 := Lib.hid (HSH.out.below hb6)
    have hcm6 := HCM.out.below hb6
    have HCM6 := Lib.hid hcm6
    have HB6 := Lib.hid (HB5.out.trans (hb6.mono HB5.out.size))
    obtain ⟨-, b9, o9, n9, k9, e9, q9⟩ := hcm6.get (k := 0) (by have := HCN.out; omega)
    simp only [Value.slice.injEq] at e9
    obtain ⟨rfl, -, -⟩ := e9
    rw [HC0.out, Nat.add_zero] at q9
    have hi0 : (0 : Int) < (colsQ rows : Nat) := by omega
    clear hb6 hcm6 HR5 HO5 HSH HCM HB5 z0 z1 HPW HC0
    go_wp2_with fail
    refine (HCO.out _ HR6.out HO6.out).mono ?_
    rintro e w7 ⟨rfl, hb7⟩
    have z0 := below_cell hb7 x0
    have z1 := below_cell hb7 x1
    have HR7 := Lib.hid (HR6.out.below hb7)
    have HO7 := Lib.hid (HO6.out.below hb7)
    have HSH7 := Lib.hid (HSH6.out.below hb7)
    have HCM7 := Lib.hid (HCM6.out.below hb7)
    have HB7 := Lib.hid (HB6.out.trans (hb7.mono HB6.out.size))
    have q7 := below_cell hb7 q9
    clear hb7 HR6 HO6 HSH6 HCM6 HB6 x0 x1 HCO q9
    go_wp2_with fail
    go_loopw [75] (fun i W => ∃ k : Nat, k ≤ rows.length ∧ i = .int .i64 k ∧ Below w7.heap.size w7 W) (fun i _ => rows.length - (intOf i).toNat)
    case atStart => exact ⟨0, Nat.zero_le _, rfl, Below.refl _ _⟩
    case round =>
      obtain ⟨k, hkl, rfl, hb⟩ := hrel
      have HBW := Lib.hid hb
      by_cases hlt : k < rows.length
      · have y0 := below_cell hb z0
        have y1 := below_cell hb z1
        have hr8 := HR7.out.below hb
        have ho8 := HO7.out.below hb
        have hc8 := HCM7.out.below hb
        have hs8 := HSH7.out.below hb
        obtain ⟨aS, cS, eS, -, -, hR64, hk⟩ := hs8
        obtain ⟨b, off, ha, qa, qb⟩ := hk k (by rw [HDN.out]; exact hlt)
        simp only [Value.slice.injEq] at eS
        obtain ⟨rfl, -, -⟩ := eS
        subst ha
        rw [HDA3.out] at qa qb
        have hpk := HPN2.out k
        obtain ⟨hfe, hfb⟩ := HFT3.out k hlt _ hpk
        rw [decide_eq_true rfl] at hfb
        obtain ⟨hge, hgb⟩ := HFT3.out k hlt _ HON.out
        obtain ⟨p, hp⟩ : ∃ p, p = P k := ⟨_, rfl⟩
        rw [← hp] at qa qb hpk hfe hfb hgb
        have hk64 : R64 (k : Int) := R64.mk (by omega) (by omega)
        have hp64 := num_r64 hpk
        have ho64 := num_r64 HON.out
        obtain ⟨W2, hW2, hbw, hrw, hzw⟩ := box_prog wr (.int .i64 k) (.int .i64 p) 38
        have s0 : W2.cell? ⟨wr.heap.size, 0, none⟩ = some (.int .i64 k) := row_cell hrw rfl
        have s1 : W2.cell? ⟨wr.heap.size, 1, none⟩ = some (.int .i64 p) := row_cell hrw rfl
        have t0 := below_cell hbw y0
        have t1 := below_cell hbw y1
        have HR8 := Lib.hid (hr8.below hbw)
        have HO8 := Lib.hid (ho8.below hbw)
        have HC8 := Lib.hid (hc8.below hbw)
        have HB8 := Lib.hid (HBW.out.trans (hbw.mono HBW.out.size))
        have HW2 := Lib.hid hW2
        have HF1 := Lib.hid (fun W h1 h2 h3 => fits_val (.slice a rows.length cap) (.slice a2 owners.length cap2) (.slice (some ⟨b9, o9, none⟩) (colsQ rows) cc) rows owners C k p 0 true W h1 h2 h3 hk64 hp64 ⟨hfe, hfb⟩)
        have HF2 := Lib.hid (fun W h1 h2 h3 => fits_val (.slice a rows.length cap) (.slice a2 owners.length cap2) (.slice (some ⟨b9, o9, none⟩) (colsQ rows) cc) rows owners C k o2 0 (decide (o2 = p)) W h1 h2 h3 hk64 ho64 ⟨hge, hgb⟩)
        have hi0 : 0 ≤ (k : Int) := by omega
        have hi1 : (k : Int) < (rows.length : Int) := by omega
        clear hk hR64 hr8 ho8 hc8 hb y0 y1 hrw hbw hfe hfb hge hgb hpk hW2 hp
        by_cases hpe : p = o2
        · have hq1 : (p == o2) = true := beq_iff_eq.2 hpe
          have hq2 : (decide (o2 = p)) = true := decide_eq_true hpe.symm
          rw [hq2] at HF2
          clear hpe hq2
          go_wp2_with (rw [← HW2.out])
          refine (HF1.out _ HR8.out HO8.out HC8.out).mono ?_
          rintro e w8 ⟨rfl, hb9⟩
          have x0 := below_cell hb9 t0
          have x1 := below_cell hb9 t1
          have v0 := below_cell hb9 s0
          have v1 := below_cell hb9 s1
          obtain ⟨W3, hW3, hbn, hrn, hzn⟩ := box_prog w8 (.int .i64 k) (.int .i64 o2) 38
          have HW3 := Lib.hid hW3
          have hb10 := HB8.out.trans (hb9.mono HB8.out.size)
          have HR9 := Lib.hid ((HR8.out.below hb9).below hbn)
          have HO9 := Lib.hid ((HO8.out.below hb9).below hbn)
          have HC9 := Lib.hid ((HC8.out.below hb9).below hbn)
          have HB9 := Lib.hid (hb10.trans (hbn.mono hb10.size))
          clear s0 s1 t0 t1
          have s0 := below_cell hbn v0
          have s1 := below_cell hbn v1
          have t0 := below_cell hbn x0
          have t1 := below_cell hbn x1
          have r0 : W3.cell? ⟨w8.heap.size, 0, none⟩ = some (.int .i64 k) := row_cell hrn rfl
          have r1 : W3.cell? ⟨w8.heap.size, 1, none⟩ = some (.int .i64 o2) := row_cell hrn rfl
          clear hb9 hbn hb10 HR8 HO8 HC8 HF1 hW3 hrn
          go_wp2_with (rw [← HW3.out])
          refine (HF2.out _ HR9.out HO9.out HC9.out).mono ?_
          rintro e w9 ⟨rfl, hb11⟩
          have p1 := below_cell hb11 s1
          have p2 := below_cell hb11 r1
          have HB10 := Lib.hid (HB9.out.trans (hb11.mono HB9.out.size))
          clear hb11 x0 x1 v0 v1 s0 s1 t0 t1 r0 r1 HR9 HO9 HC9 HF2
          go_wp2_with fail
          go_roundw
          case rel => exact ⟨k + 1, by omega, by go_num, HB10.out⟩
          case measure => simp [intOf]; omega
        · have hq1 : (p == o2) = false := beq_eq_false_iff_ne.2 hpe
          have hq2 : (decide (o2 = p)) = false := decide_eq_false (fun e => hpe e.symm)
          rw [hq2] at HF2
          clear hpe hq2
          go_wp2_with (rw [← HW2.out])
          refine (HF1.out _ HR8.out HO8.out HC8.out).mono ?_
          rintro e w8 ⟨rfl, hb9⟩
          have x0 := below_cell hb9 t0
          have x1 := below_cell hb9 t1
          have v0 := below_cell hb9 s0
          have v1 := below_cell hb9 s1
          obtain ⟨W3, hW3, hbn, hrn, hzn⟩ := box_prog w8 (.int .i64 k) (.int .i64 o2) 38
          have HW3 := Lib.hid hW3
          have hb10 := HB8.out.trans (hb9.mono HB8.out.size)
          have HR9 := Lib.hid ((HR8.out.below hb9).below hbn)
          have HO9 := Lib.hid ((HO8.out.below hb9).below hbn)
          have HC9 := Lib.hid ((HC8.out.below hb9).below hbn)
          have HB9 := Lib.hid (hb10.trans (hbn.mono hb10.size))
          clear s0 s1 t0 t1
          have s0 := below_cell hbn v0
          have s1 := below_cell hbn v1
          have t0 := below_cell hbn x0
          have t1 := below_cell hbn x1
          have r0 : W3.cell? ⟨w8.heap.size, 0, none⟩ = some (.int .i64 k) := row_cell hrn rfl
          have r1 : W3.cell? ⟨w8.heap.size, 1, none⟩ = some (.int .i64 o2) := row_cell hrn rfl
          clear hb9 hbn hb10 HR8 HO8 HC8 HF1 hW3 hrn
          go_wp2_with (rw [← HW3.out])
          refine (HF2.out _ HR9.out HO9.out HC9.out).mono ?_
          rintro e w9 ⟨rfl, hb11⟩
          have p1 := below_cell hb11 s1
          have p2 := below_cell hb11 r1
          have HB10 := Lib.hid (HB9.out.trans (hb11.mono HB9.out.size))
          clear hb11 x0 x1 v0 v1 s0 s1 t0 t1 r0 r1 HR9 HO9 HC9 HF2
          go_wp2_with fail
          go_roundw
          case rel => exact ⟨k + 1, by omega, by go_num, HB10.out⟩
          case measure => simp [intOf]; omega
      · have hdk : decide (k < rows.length) = false := decide_eq_false hlt
        have hdi : decide ((k : Int) < (rows.length : Int)) = false := decide_eq_false (by omega)
        have HF := Lib.hid (HB7.out.trans (HBW.out.mono HB7.out.size))
        clear hb
        go_wp2_with fail
        go_ret
        exact ⟨rfl, HF.out⟩

end Go.Proofs.Ytikoggmoidomaaa
