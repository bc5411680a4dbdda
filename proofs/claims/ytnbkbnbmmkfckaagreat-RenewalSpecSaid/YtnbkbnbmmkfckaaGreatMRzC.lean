/- The reference of renewing: Renew. The law RenewalSpec, the walk. -/
import Derived.Test.YtnbkbnbmmkfckaaGreatMRzA
import Derived.Test.YtnbkbnbmmkfckaaGreatMReQ
import Derived.Test.YtnbkbnbmmkfckaaGreatMRdH
import Derived.Test.YtnbkbnbmmkfckaaGreatMRdA
namespace Go.Proofs.YtnbkbnbmmkfckaaGreat
open Go.RowKit FP

structure FAdd (wd : World) (yv mcv mi : Value) (j i g2 b2 o2 bm om : Nat) (x z s : Int) (done : Nat → Bool) (v : Nat → Value) (w : World) : Prop where
  b : done 18 = false → w = wd
  f0 : done 0 = true → v 0 = yv
  f1 : done 1 = true → v 1 = .int .i64 j
  f2 : done 2 = true → v 2 = yv
  f3 : done 3 = true → v 3 = .int .i64 j
  f4 : done 4 = true → v 4 = .pointer (some ⟨g2, j * 2, none⟩)
  f5 : done 5 = true → v 5 = .pointer (some ⟨g2, j * 2 + 1, none⟩)
  f6 : done 6 = true → v 6 = .int .i64 x
  f7 : done 7 = true → v 7 = mcv
  f8 : done 8 = true → v 8 = .int .i64 i
  f9 : done 9 = true → v 9 = .pointer (some ⟨b2, o2 + i, none⟩)
  f10 : done 10 = true → v 10 = mi
  f11 : done 11 = true → v 11 = .int .i64 j
  f12 : done 12 = true → v 12 = .pointer (some ⟨bm, om + j * 2, none⟩)
  f13 : done 13 = true → v 13 = .pointer (some ⟨bm, om + j * 2 + 1, none⟩)
  f14 : done 14 = true → v 14 = .int .i64 z
  f15 : done 15 = true → v 15 = .int .i64 s
  f16 : done 16 = true → v 16 = .pointer (some ⟨g2, j * 2, none⟩)
  f17 : done 17 = true → v 17 = .pointer (some ⟨g2, j * 2 + 1, none⟩)
  z : done 18 = true → w = wd.setCell ⟨g2, j * 2 + 1, none⟩ (.int .i64 s)

set_option maxRecDepth 100000 in
set_option maxHeartbeats 16000000 in
theorem rRenew_any (ep : Int) (rv ov cv lv ccv mcv : Value) (rows : List (List Int)) (owners cs : List Int) (l : List (Int × Int)) (css : List (List Int)) (more : List (List (Int × Int))) (w : World) (hR : Rows2 w rv rows) (hO : Ints w ov owners) (hC : Ints w cv cs) (hL : Shares w lv l) (hCC : Rows2 w ccv css) (hMM : SRows w mcv more) (hep : R64 ep) :
    Calls Tryz.prog 10 #[.agg #[.int .i64 ep, rv, ov, cv], lv, ccv, mcv] w (RenPost rows owners ep cs l css more rv ov w) := by
  obtain ⟨W0, hW0, hb0, hr0, hs0⟩ := box_key w (.int .i64 ep) rv ov cv 27
  obtain ⟨W1, hW1, hb1, hr1, hs1⟩ := box_key W0 (.int .i64 0) (.slice none 0 0) (.slice none 0 0) (.slice none 0 0) 27
  have hb : Below w.heap.size w W1 := hb0.trans (hb1.mono hb0.size)
  have HR := Lib.hid (hR.below hb)
  have HO := Lib.hid (hO.below hb)
  have HC := Lib.hid (hC.below hb)
  have HL := Lib.hid (hL.below hb)
  have HCC := Lib.hid (hCC.below hb)
  have HMM := Lib.hid (hMM.below hb)
  obtain ⟨a1, k1, rfl, -, hl1, -⟩ := id hR
  obtain ⟨a2, k2, rfl, -, hl2, -⟩ := id hO
  obtain ⟨a3, k3, rfl, -, hl3, hcr, -⟩ := id hC
  obtain ⟨a4, k4, rfl, -, hl4, hlr, -⟩ := id hL
  obtain ⟨a5, k5, rfl, -, hl5, -⟩ := id hCC
  obtain ⟨a6, k6, rfl, -, hl6, -⟩ := id hMM
  have HLR := Lib.hid hlr
  have Q1 := Lib.hid ((hb1.block _ (row_lt hr0)).trans hr0)
  rw [hs0] at hr1
  have Q2 := Lib.hid hr1
  rw [hW0] at hW1
  have HW1 := Lib.hid hW1
  have HB := Lib.hid hb
  have HEP := Lib.hid hep
  clear hR hO hC hL hCC hMM hb hb0 hb1 hr0 hr1 hW0 hW1 hs0 hs1 hlr hcr hep
  have HPC := Lib.hid (rpCheck_any _ _ rows owners _ HR.out HO.out)
  have c1 := row_cell Q1.out (k := 1) rfl
  have c2 := row_cell Q1.out (k := 2) rfl
  go_enter Tryz.func10, Tryz.ntmps10
  go_wp2_with (rw [← HW1.out])
  clear c1 c2
  with_reducible refine (HPC.out).mono ?_
  rintro e w2 ⟨rfl, hb2⟩
  replace HR := Lib.hid (HR.out.below hb2)
  replace HO := Lib.hid (HO.out.below hb2)
  replace HC := Lib.hid (HC.out.below hb2)
  replace HL := Lib.hid (HL.out.below hb2)
  replace HCC := Lib.hid (HCC.out.below hb2)
  replace HMM := Lib.hid (HMM.out.below hb2)
  replace Q1 := Lib.hid ((hb2.block _ (row_lt Q1.out)).trans Q1.out)
  replace Q2 := Lib.hid ((hb2.block _ (row_lt Q2.out)).trans Q2.out)
  replace HB := Lib.hid (HB.out.trans (hb2.mono HB.out.size))
  clear hb2
  by_cases hp : progE rows owners = 0
  rotate_left
  · have HV : Hid (renE rows owners ep cs l css more = progE rows owners) := Lib.hid (by unfold renE; rw [if_pos hp])
    have HNZ := Lib.hid hp
    have d0 : (progE rows owners != 0) = true := bne_iff_ne.2 hp
    clear hp
    generalize progE rows owners = q at *
    have x0 := row_cell Q2.out (k := 0) rfl
    have x1 := row_cell Q2.out (k := 1) rfl
    have x2 := row_cell Q2.out (k := 2) rfl
    have x3 := row_cell Q2.out (k := 3) rfl
    have f0 := row_free Q2.out 0
    have f1 := row_free Q2.out 1
    have f2 := row_free Q2.out 2
    have f3 := row_free Q2.out 3
    go_wp2_with fail
    try simp only [Exit.inBlock, Exit.then]
    refine bodyPost_ret (v := .tuple #[.agg #[.int .i64 0, .slice none 0 0, .slice none 0 0, .slice none 0 0], .slice none 0 0, .int .i64 q]) ?_ rfl ?_
    · rw [results_cell_tmp2 rfl]
      go_simp
    · exact ren_off HV.out HNZ.out ((((HB.out.setCell (Nat.le_succ _) _).setCell (Nat.le_succ _) _).setCell (Nat.le_succ _) _).setCell (Nat.le_succ _) _)
  have HE := Lib.hid (renE_key (ep := ep) (cs := cs) (l := l) (css := css) (more := more) hp)
  have HP0 := Lib.hid hp
  have HKY := Lib.hid (fun ww h1 h2 h3 => rkey_any ep (.slice a1 rows.length k1) (.slice a2 owners.length k2) (.slice a3 cs.length k3) rows owners cs ww h1 h2 h3 (progE_ok hp).cols_le)
  rw [hp]
  clear hp HPC
  have c0 := row_cell Q1.out (k := 0) rfl
  have c1 := row_cell Q1.out (k := 1) rfl
  have c2 := row_cell Q1.out (k := 2) rfl
  have c3 := row_cell Q1.out (k := 3) rfl
  go_wp2_with fail
  clear c0 c1 c2 c3
  with_reducible refine (HKY.out _ HR.out HO.out HC.out).mono ?_
  rintro e w4 ⟨rfl, hb4⟩
  replace HR := Lib.hid (HR.out.below hb4)
  replace HO := Lib.hid (HO.out.below hb4)
  replace HC := Lib.hid (HC.out.below hb4)
  replace HL := Lib.hid (HL.out.below hb4)
  replace HCC := Lib.hid (HCC.out.below hb4)
  replace HMM := Lib.hid (HMM.out.below hb4)
  replace Q1 := Lib.hid ((hb4.block _ (row_lt Q1.out)).trans Q1.out)
  replace Q2 := Lib.hid ((hb4.block _ (row_lt Q2.out)).trans Q2.out)
  replace HB := Lib.hid (HB.out.trans (hb4.mono HB.out.size))
  clear hb4
  cases hkb : keyB rows ep cs with
  | false =>
    have HV : Hid (renE rows owners ep cs l css more = 380) := Lib.hid (by rw [HE.out, if_pos hkb])
    clear hkb
    have x0 := row_cell Q2.out (k := 0) rfl
    have x1 := row_cell Q2.out (k := 1) rfl
    have x2 := row_cell Q2.out (k := 2) rfl
    have x3 := row_cell Q2.out (k := 3) rfl
    have f0 := row_free Q2.out 0
    have f1 := row_free Q2.out 1
    have f2 := row_free Q2.out 2
    have f3 := row_free Q2.out 3
    go_wp2_with fail
    try simp only [Exit.inBlock, Exit.then]
    refine bodyPost_ret (v := .tuple #[.agg #[.int .i64 0, .slice none 0 0, .slice none 0 0, .slice none 0 0], .slice none 0 0, .int .i64 380]) ?_ rfl ?_
    · rw [results_cell_tmp2 rfl]
      go_simp
    · exact ren_off HV.out (by decide) ((((HB.out.setCell (Nat.le_succ _) _).setCell (Nat.le_succ _) _).setCell (Nat.le_succ _) _).setCell (Nat.le_succ _) _)
  | true =>
  obtain ⟨he0, he1, hcb⟩ := keyB_ok hkb
  replace HE := Lib.hid (HE.out.trans (if_neg (by rw [hkb]; decide)))
  have HCB := Lib.hid hcb
  clear hkb hcb HKY
  have c0 := row_cell Q1.out (k := 0) rfl
  by_cases h64 : ep = 64
  · have d0 : (ep == 64) = true := beq_iff_eq.2 h64
    have HV : Hid (renE rows owners ep cs l css more = 2) := Lib.hid (HE.out.trans (if_pos (.inl h64)))
    clear h64
    have x0 := row_cell Q2.out (k := 0) rfl
    have x1 := row_cell Q2.out (k := 1) rfl
    have x2 := row_cell Q2.out (k := 2) rfl
    have x3 := row_cell Q2.out (k := 3) rfl
    have f0 := row_free Q2.out 0
    have f1 := row_free Q2.out 1
    have f2 := row_free Q2.out 2
    have f3 := row_free Q2.out 3
    go_wp2_with fail
    try simp only [Exit.inBlock, Exit.then]
    refine bodyPost_ret (v := .tuple #[.agg #[.int .i64 0, .slice none 0 0, .slice none 0 0, .slice none 0 0], .slice none 0 0, .int .i64 2]) ?_ rfl ?_
    · rw [results_cell_tmp2 rfl]
      go_simp
    · exact ren_off HV.out (by decide) ((((HB.out.setCell (Nat.le_succ _) _).setCell (Nat.le_succ _) _).setCell (Nat.le_succ _) _).setCell (Nat.le_succ _) _)
  have d0 : (ep == 64) = false := beq_eq_false_iff_ne.2 h64
  by_cases hcl : 64 < css.length
  · have d1 : decide (64 < (css.length : Int)) = true := decide_eq_true (by omega)
    have HV : Hid (renE rows owners ep cs l css more = 2) := Lib.hid (HE.out.trans (if_pos (.inr hcl)))
    clear h64 hcl
    have x0 := row_cell Q2.out (k := 0) rfl
    have x1 := row_cell Q2.out (k := 1) rfl
    have x2 := row_cell Q2.out (k := 2) rfl
    have x3 := row_cell Q2.out (k := 3) rfl
    have f0 := row_free Q2.out 0
    have f1 := row_free Q2.out 1
    have f2 := row_free Q2.out 2
    have f3 := row_free Q2.out 3
    go_wp2_with fail
    try simp only [Exit.inBlock, Exit.then]
    refine bodyPost_ret (v := .tuple #[.agg #[.int .i64 0, .slice none 0 0, .slice none 0 0, .slice none 0 0], .slice none 0 0, .int .i64 2]) ?_ rfl ?_
    · rw [results_cell_tmp2 rfl]
      go_simp
    · exact ren_off HV.out (by decide) ((((HB.out.setCell (Nat.le_succ _) _).setCell (Nat.le_succ _) _).setCell (Nat.le_succ _) _).setCell (Nat.le_succ _) _)
  have d1 : decide (64 < (css.length : Int)) = false := decide_eq_false (by omega)
  replace HE := Lib.hid (HE.out.trans (if_neg (by omega)))
  clear h64
  have HFT := Lib.hid (fun ww h1 h2 h3 h4 => rfit_any (.slice a1 rows.length k1) (.slice a2 owners.length k2) (.slice a3 cs.length k3) (.slice a4 l.length k4) rows owners cs l ww h1 h2 h3 h4 (comB_dchk HP0.out HCB.out))
  have c1 := row_cell Q1.out (k := 1) rfl
  have c2 := row_cell Q1.out (k := 2) rfl
  have c3 := row_cell Q1.out (k := 3) rfl
  go_wp2_with fail
  clear c0 c1 c2 c3
  with_reducible refine (HFT.out _ HR.out HO.out HC.out HL.out).mono ?_
  rintro e w5 ⟨rfl, hb5⟩
  replace HR := Lib.hid (HR.out.below hb5)
  replace HO := Lib.hid (HO.out.below hb5)
  replace HC := Lib.hid (HC.out.below hb5)
  replace HL := Lib.hid (HL.out.below hb5)
  replace HCC := Lib.hid (HCC.out.below hb5)
  replace HMM := Lib.hid (HMM.out.below hb5)
  replace Q1 := Lib.hid ((hb5.block _ (row_lt Q1.out)).trans Q1.out)
  replace Q2 := Lib.hid ((hb5.block _ (row_lt Q2.out)).trans Q2.out)
  replace HB := Lib.hid (HB.out.trans (hb5.mono HB.out.size))
  clear hb5
  cases hfl : fitL rows cs l with
  | false =>
    have HV : Hid (renE rows owners ep cs l css more = 340) := Lib.hid (HE.out.trans (if_pos hfl))
    clear hfl hcl
    have x0 := row_cell Q2.out (k := 0) rfl
    have x1 := row_cell Q2.out (k := 1) rfl
    have x2 := row_cell Q2.out (k := 2) rfl
    have x3 := row_cell Q2.out (k := 3) rfl
    have f0 := row_free Q2.out 0
    have f1 := row_free Q2.out 1
    have f2 := row_free Q2.out 2
    have f3 := row_free Q2.out 3
    go_wp2_with fail
    try simp only [Exit.inBlock, Exit.then]
    refine bodyPost_ret (v := .tuple #[.agg #[.int .i64 0, .slice none 0 0, .slice none 0 0, .slice none 0 0], .slice none 0 0, .int .i64 340]) ?_ rfl ?_
    · rw [results_cell_tmp2 rfl]
      go_simp
    · exact ren_off HV.out (by decide) ((((HB.out.setCell (Nat.le_succ _) _).setCell (Nat.le_succ _) _).setCell (Nat.le_succ _) _).setCell (Nat.le_succ _) _)
  | true =>
  replace HE := Lib.hid (HE.out.trans (if_neg (by rw [hfl]; decide)))
  have HLB := Lib.hid (sharesB_len (fitL_shares hfl))
  clear hfl HFT
  by_cases hml : more.length = css.length
  rotate_left
  · have d2 : ((more.length : Int) != (css.length : Int)) = true := bne_iff_ne.2 (by omega)
    have HV : Hid (renE rows owners ep cs l css more = 1) := Lib.hid (HE.out.trans (if_pos hml))
    clear hml hcl
    have x0 := row_cell Q2.out (k := 0) rfl
    have x1 := row_cell Q2.out (k := 1) rfl
    have x2 := row_cell Q2.out (k := 2) rfl
    have x3 := row_cell Q2.out (k := 3) rfl
    have f0 := row_free Q2.out 0
    have f1 := row_free Q2.out 1
    have f2 := row_free Q2.out 2
    have f3 := row_free Q2.out 3
    go_wp2_with fail
    try simp only [Exit.inBlock, Exit.then]
    refine bodyPost_ret (v := .tuple #[.agg #[.int .i64 0, .slice none 0 0, .slice none 0 0, .slice none 0 0], .slice none 0 0, .int .i64 1]) ?_ rfl ?_
    · rw [results_cell_tmp2 rfl]
      go_simp
    · exact ren_off HV.out (by decide) ((((HB.out.setCell (Nat.le_succ _) _).setCell (Nat.le_succ _) _).setCell (Nat.le_succ _) _).setCell (Nat.le_succ _) _)
  have d2 : ((more.length : Int) != (css.length : Int)) = false := by rw [hml]; exact bne_self_eq_false _
  replace HE := Lib.hid (HE.out.trans (if_neg (by simp [hml])))
  have HML := Lib.hid hml
  clear hml
  have HFEW := Lib.hid (progE_ok HP0.out).few
  have HCL := Lib.hid (progE_ok HP0.out).cols
  have HCU := Lib.hid (progE_ok HP0.out).cols_le
  go_wp2_with fail
  go_loopw [12] (fun i W => ∃ k : Nat, k ≤ css.length ∧ i = .int .i64 k ∧ Hid (zerosB rows l css more k = true) ∧ Below w5.heap.size w5 W) (fun i _ => css.length - (intOf i).toNat)
  case atStart => exact ⟨0, Nat.zero_le _, rfl, Lib.hid rfl, Below.refl _ _⟩
  case round =>
    obtain ⟨k, hkl, rfl, HZ, hb⟩ := hrel
    have HBW := Lib.hid hb
    by_cases hlt : k < css.length
    · have HBD := Lib.hid (fun h => zerosB_bad (rows := rows) (l := l) (css := css) (more := more) hlt h)
      have HSN := Lib.hid (zerosB_snoc rows l css more k)
      obtain ⟨b1, o1, n1, k9, r1, e1, q1, i1⟩ := HCC.out.get hlt
      simp only [Value.slice.injEq] at e1
      obtain ⟨rfl, -, -⟩ := e1
      obtain ⟨b2, o2, n2, k8, r2, e2, q2, i2⟩ := HMM.out.get (k := k) (by rw [HML.out]; exact hlt)
      simp only [Value.slice.injEq] at e2
      obtain ⟨rfl, -, -⟩ := e2
      have HZN : Hid (zeroN rows l css more k = zeroB rows l (css.getD k []) (more.getD k [])) := Lib.hid rfl
      generalize css.getD k [] = c at *
      generalize more.getD k [] = m at *
      obtain ⟨rc, kc, rfl, -⟩ := id i1
      obtain ⟨rm, km, rfl, -⟩ := id i2
      have HIC := Lib.hid i1
      have HIM := Lib.hid i2
      have s1 := row_cell Q1.out (k := 1) (v := .slice a1 rows.length k1) rfl
      have s2 := row_cell Q1.out (k := 2) (v := .slice a2 owners.length k2) rfl
      clear i1 i2
      have HBW0 := Lib.hid (Below.refl wr.heap.size wr)
      replace HBW := Lib.hid (Below.refl w5.heap.size w5)
      replace q1 := below_cell hb q1
      replace q2 := below_cell hb q2
      replace s1 := below_cell hb s1
      replace s2 := below_cell hb s2
      replace HR := Lib.hid (HR.out.below hb)
      replace HO := Lib.hid (HO.out.below hb)
      replace HC := Lib.hid (HC.out.below hb)
      replace HL := Lib.hid (HL.out.below hb)
      replace HCC := Lib.hid (HCC.out.below hb)
      replace HMM := Lib.hid (HMM.out.below hb)
      replace HIC := Lib.hid (HIC.out.below hb)
      replace HIM := Lib.hid (HIM.out.below hb)
      replace Q1 := Lib.hid ((hb.block _ (row_lt Q1.out)).trans Q1.out)
      replace Q2 := Lib.hid ((hb.block _ (row_lt Q2.out)).trans Q2.out)
      replace HB := Lib.hid (HB.out.trans (hb.mono HB.out.size))
      replace HBW := Lib.hid (HBW.out.trans (hb.mono HBW.out.size))
      clear hb
      clear HBW0
      have j0 : (0 : Int) ≤ (k : Int) := by omega
      have j1 : (k : Int) < (css.length : Int) := by omega
      have j2 : (k : Int) < (more.length : Int) := by have := HML.out; omega
      have HNT := Lib.hid (fun ww h1 h2 h3 h4 h5 => rnothing_any (.slice a1 rows.length k1) (.slice a2 owners.length k2) (.slice rc c.length kc) (.slice rm m.length km) (.slice a4 l.length k4) rows owners c m l ww h1 h2 h3 h4 h5 HP0.out)
      rw [← HZN.out] at HNT
      go_wp2_with fail
      have hbd : Below wr.heap.size wr wr.drew := (Below.refl _ _).drew
      replace HR := Lib.hid (HR.out.below hbd)
      replace HO := Lib.hid (HO.out.below hbd)
      replace HC := Lib.hid (HC.out.below hbd)
      replace HL := Lib.hid (HL.out.below hbd)
      replace HCC := Lib.hid (HCC.out.below hbd)
      replace HMM := Lib.hid (HMM.out.below hbd)
      replace HIC := Lib.hid (HIC.out.below hbd)
      replace HIM := Lib.hid (HIM.out.below hbd)
      replace HB := Lib.hid (HB.out.drew)
      replace HBW := Lib.hid (HBW.out.drew)
      clear hbd
      go_region_held3 (fun w' => w'.cell? ⟨w.heap.size, 1, none⟩ = some (.slice a1 rows.length k1) ∧ w'.cell? ⟨w.heap.size, 2, none⟩ = some (.slice a2 owners.length k2) ∧ w'.cell? ⟨b1, o1 + k, none⟩ = some (.slice rc c.length kc) ∧ w'.cell? ⟨b2, o2 + k, none⟩ = some (.slice rm m.length km)) (first | go_keep | exact ⟨s1, s2, q1, q2⟩)
        ((go_at_call 35; (with_reducible refine (HNT.out _ HR.out HO.out HIC.out HIM.out HL.out).mono ?_); rintro e w6 ⟨rfl, hb6⟩; replace q1 := below_cell hb6 q1; replace q2 := below_cell hb6 q2; replace s1 := below_cell hb6 s1; replace s2 := below_cell hb6 s2; replace HR := Lib.hid (HR.out.below hb6); replace HO := Lib.hid (HO.out.below hb6); replace HC := Lib.hid (HC.out.below hb6); replace HL := Lib.hid (HL.out.below hb6); replace HCC := Lib.hid (HCC.out.below hb6); replace HMM := Lib.hid (HMM.out.below hb6); replace HIC := Lib.hid (HIC.out.below hb6); replace HIM := Lib.hid (HIM.out.below hb6); replace Q1 := Lib.hid ((hb6.block _ (row_lt Q1.out)).trans Q1.out); replace Q2 := Lib.hid ((hb6.block _ (row_lt Q2.out)).trans Q2.out); replace HB := Lib.hid (HB.out.trans (hb6.mono HB.out.size)); replace HBW := Lib.hid (HBW.out.trans (hb6.mono HBW.out.size)); clear hb6))
      cases hz0 : zeroN rows l css more k with
      | false =>
        have HV : Hid (renE rows owners ep cs l css more = 380) := Lib.hid (HE.out.trans (if_neg (by rw [HBD.out hz0]; decide)))
        clear hz0 hcl q1 q2 s1 s2
        have x0 := row_cell Q2.out (k := 0) rfl
        have x1 := row_cell Q2.out (k := 1) rfl
        have x2 := row_cell Q2.out (k := 2) rfl
        have x3 := row_cell Q2.out (k := 3) rfl
        have f0 := row_free Q2.out 0
        have f1 := row_free Q2.out 1
        have f2 := row_free Q2.out 2
        have f3 := row_free Q2.out 3
        go_wp2_with fail
        try simp only [Exit.inBlock, Exit.then]
        refine bodyPost_ret (v := .tuple #[.agg #[.int .i64 0, .slice none 0 0, .slice none 0 0, .slice none 0 0], .slice none 0 0, .int .i64 380]) ?_ rfl ?_
        · rw [results_cell_tmp2 rfl]
          go_simp
        · exact ren_off HV.out (by decide) ((((HB.out.setCell (Nat.le_succ _) _).setCell (Nat.le_succ _) _).setCell (Nat.le_succ _) _).setCell (Nat.le_succ _) _)
      | true =>
        have HZ2 : Hid (zerosB rows l css more (k + 1) = true) := Lib.hid (by rw [HSN.out, HZ.out, hz0]; rfl)
        clear hz0 q1 q2 s1 s2
        go_wp2_with fail
        go_roundw
        case rel => exact ⟨k + 1, by omega, by go_num, HZ2, HBW.out⟩
        case measure => simp [intOf]; omega
    · obtain rfl : k = css.length := by omega
      have hdk : decide (css.length < css.length) = false := decide_eq_false (by omega)
      have HV : Hid (renE rows owners ep cs l css more = 0) := Lib.hid (HE.out.trans (if_pos HZ.out))
      replace HR := Lib.hid (HR.out.below hb)
      replace HO := Lib.hid (HO.out.below hb)
      replace HC := Lib.hid (HC.out.below hb)
      replace HL := Lib.hid (HL.out.below hb)
      replace HCC := Lib.hid (HCC.out.below hb)
      replace HMM := Lib.hid (HMM.out.below hb)
      replace Q1 := Lib.hid ((hb.block _ (row_lt Q1.out)).trans Q1.out)
      replace Q2 := Lib.hid ((hb.block _ (row_lt Q2.out)).trans Q2.out)
      replace HB := Lib.hid (HB.out.trans (hb.mono HB.out.size))
      clear hb
      obtain ⟨wl, hwl⟩ : ∃ wl : World, wl = wr := ⟨_, rfl⟩
      rw [← hwl] at HR HO HC HL HCC HMM Q1 Q2 HB ⊢
      clear hwl HBW hcl
      have hwe : IntKind.i64.wrap (ep + 1) = ep + 1 := by rw [IntKind.wrap_i64]; omega
      have hcl2 := comB_el HCB.out
      have hlen : 0 < cs.length := by have := HCL.out; rw [hcl2.2]; exact this
      have hcsl : cs.length ≤ 64 := by have := HCU.out; rw [hcl2.2]; exact this
      have HCE := Lib.hid hcl2
      clear hcl2
      obtain ⟨W6, hW6, hb6, hr6, hs6⟩ := box_key wl (.int .i64 (ep + 1)) (.slice a1 rows.length k1) (.slice a2 owners.length k2) (.slice a3 cs.length k3) 27
      have HB6 := Lib.hid hb6
      have Q6 := Lib.hid hr6
      have HS6 := Lib.hid hs6
      have HW6 := Lib.hid hW6
      obtain ⟨W7, hW7⟩ : ∃ W7, W7 = W6.alloc (.cells #[] 3) := ⟨_, rfl⟩
      have hb7 : Below W6.heap.size W6 W7 := hW7 ▸ below_new _ _ _
      have h70 : W7.ownsRow W6.heap.size 3 1 (.slice (some ⟨W6.heap.size, 0, none⟩) 0 0) 0 [] := hW7 ▸ World.ownsRow_made _ #[] 0 (Nat.le_refl _) (by unfold maxLen; omega) rfl
      have H70 := Lib.hid h70
      have HB7 := Lib.hid hb7
      have HW7 := Lib.hid hW7
      have Q7 := Lib.hid ((hb7.block _ (row_lt hr6)).trans hr6)
      have HS7 := Lib.hid (hb7.size)
      have HC7 := Lib.hid (HC.out.below (hb6.trans (hb7.mono hb6.size)))
      have c0 := row_cell Q1.out (k := 0) (v := .int .i64 ep) rfl
      have c1 := row_cell Q1.out (k := 1) (v := .slice a1 rows.length k1) rfl
      have c2 := row_cell Q1.out (k := 2) (v := .slice a2 owners.length k2) rfl
      have c3 := row_cell Q1.out (k := 3) (v := .slice a3 cs.length k3) rfl
      have d3 := below_cell hb7 (below_cell hb6 c3)
      clear hW6 hb6 hr6 hs6 hW7 hb7 h70
      have hl6 : 0 + l.length ≤ 1000000 := by have := HLB.out; have := HFEW.out; omega
      have hcn : 0 + cs.length ≤ 17592186044416 := by omega
      go_wp2_with (first
        | rw [← HW6.out]
        | rw [← HW7.out]
        | (refine app_ints_any rfl _ _ rfl W6.heap.size W6.heap.size 0 0 [] rfl H70.out (.slice a3 cs.length k3) cs rfl HC7.out hcn (Nat.le_refl 0) HS7.out ?_; intro v9 w9 h9 o9; obtain ⟨g, cx, W10, rfl, hW10, hq9, hq10, ho10, hb10⟩ := ren_box HB6.out HS6.out Q7.out HB7.out hlen h9 o9; have z3 := row_cell hq9 (k := 3) rfl; have f3 := row_free hq9 3; have Q10 := Lib.hid hq10; have HO10 := Lib.hid ho10; have HB10 := Lib.hid hb10; have HW10 := Lib.hid hW10; clear h9 o9 hW10 hq9 hq10 ho10 hb10; obtain ⟨W11, hW11⟩ : ∃ W, W = W10.alloc (.cells #[] 47) := ⟨_, rfl⟩; have hb11 : Below W10.heap.size W10 W11 := hW11 ▸ below_new _ _ _; have H110 := Lib.hid (show W11.ownsRow W10.heap.size 47 2 (.slice (some ⟨W10.heap.size, 0, none⟩) 0 0) 0 [] from hW11 ▸ World.ownsRow_made _ #[] 0 (Nat.le_refl _) (by unfold maxLen; omega) rfl); have HB11 := Lib.hid hb11; have HS11 := Lib.hid hb11.size; have HL11 := Lib.hid (HL.out.below (HB10.out.trans (hb11.mono HB10.out.size))); have HW11 := Lib.hid hW11; clear hW11 hb11)
        | rw [← HW10.out]
        | rw [← HW11.out]
        | (refine app_shares_any rfl _ _ rfl W10.heap.size W10.heap.size 0 0 [] rfl H110.out (.slice a4 l.length k4) l rfl HL11.out hl6 (Nat.le_refl 0) HS11.out ?_; intro v12 w12 h12 o12; obtain ⟨ya, yc, rfl, hI0⟩ := ren_row HB10.out Q10.out HO10.out HB11.out h12 o12; have HI0 := Lib.hid hI0; clear h12 o12 hI0))
      clear c0 c1 c2 c3 d3 z3 f3 H70 HB7 HW7 Q7 HS7 HC7 HW6 HB6 Q6 HS6 HW10 HB10 Q10 HO10 HB11 HS11 HL11 HW11 H110
      obtain ⟨xc, hxc⟩ : ∃ xc, xc = Value.slice (some ⟨g, 0, none⟩) cs.length cx := ⟨_, rfl⟩
      have HXC := Lib.hid hxc
      clear hxc
      go_loopw [15] (fun i W => ∃ k : Nat, k ≤ css.length ∧ i = .int .i64 k ∧ RenI wl wl.heap.size #[.int .i64 (ep + 1), .slice a1 rows.length k1, .slice a2 owners.length k2, .slice (some ⟨g, 0, none⟩) cs.length cx] (.slice (some ⟨g, 0, none⟩) cs.length cx) (.slice ya l.length yc) cs.length l.length (renC cs (css.take k)) (renL l (more.take k)) W) (fun i _ => css.length - (intOf i).toNat)
      case atStart => exact ⟨0, Nat.zero_le _, rfl, HI0.out⟩
      case round =>
        obtain ⟨k, hkl, rfl, hI⟩ := hrel
        have HI := Lib.hid hI
        clear hI
        by_cases hlt : k < css.length
        · obtain ⟨hAe, hAl, hce, hcl3, hml3, hLl, hLr, hCS, hLS⟩ := ren_step HCB.out HZ.out HML.out HLR.out hlt
          obtain ⟨b1, o1, n1, k9, r1, e1, q1, i1⟩ := HCC.out.get hlt
          simp only [Value.slice.injEq] at e1
          obtain ⟨rfl, -, -⟩ := e1
          obtain ⟨b2, o2, n2, k8, r2, e2, q2, i2⟩ := HMM.out.get (k := k) (by rw [HML.out]; exact hlt)
          simp only [Value.slice.injEq] at e2
          obtain ⟨rfl, -, -⟩ := e2
          obtain ⟨A, hA⟩ : ∃ A, A = renC cs (css.take k) := ⟨_, rfl⟩
          obtain ⟨L, hL⟩ : ∃ L, L = renL l (more.take k) := ⟨_, rfl⟩
          rw [← hA] at hAe hAl hCS HI
          rw [← hL] at hLl hLr hLS HI
          generalize css.getD k [] = c at *
          generalize more.getD k [] = m at *
          obtain ⟨rc, kc, rfl, -⟩ := id i1
          obtain ⟨rm, km, rfl, -⟩ := id i2
          have HIC := Lib.hid i1
          have HIM := Lib.hid i2
          have HAE := Lib.hid hAe
          have HAL := Lib.hid hAl
          have HCE3 := Lib.hid hce
          have HCL3 := Lib.hid hcl3
          have HML3 := Lib.hid hml3
          have HLL := Lib.hid hLl
          have HLR3 := Lib.hid hLr
          have HCS := Lib.hid hCS
          have HLS := Lib.hid hLS
          have HQ1 := Lib.hid q1
          have HQ2 := Lib.hid q2
          have k0 : (0 : Int) ≤ (k : Int) := by omega
          have kk1 : (k : Int) < (css.length : Int) := by omega
          have kk2 : (k : Int) < (more.length : Int) := by have := HML.out; omega
          clear hA hL i1 i2 hAe hAl hce hcl3 hml3 hLl hLr hCS hLS q1 q2
          go_wp2_with fail
          go_loopw [16] (fun j W => ∃ q : Nat, q ≤ cs.length ∧ j = .int .i64 q ∧ RenI wl wl.heap.size #[.int .i64 (ep + 1), .slice a1 rows.length k1, .slice a2 owners.length k2, .slice (some ⟨g, 0, none⟩) cs.length cx] (.slice (some ⟨g, 0, none⟩) cs.length cx) (.slice ya l.length yc) cs.length l.length (mulP A c q) L W) (fun j _ => cs.length - (intOf j).toNat)
          case atStart => exact ⟨0, Nat.zero_le _, rfl, by rw [mulP_0]; exact HI.out⟩
          case round =>
            clear HI
            obtain ⟨q, hql, rfl, hI⟩ := hrel
            have HI3 := Lib.hid hI
            have z3 := row_cell hI.q (k := 3) rfl
            clear hI
            by_cases hqt : q < cs.length
            · have hqA : q < A.length := by rw [HAL.out]; exact hqt
              have hIx := Ints.own HI3.out.o1 (fun z hz => mulP_r64 HAE.out q z hz) (by rw [mulP_len, HAL.out]; omega)
              obtain ⟨-, bx, ox, nx, kx, ex, qx⟩ := hIx.get (k := q) (by rw [mulP_len]; exact hqA)
              simp only [Value.slice.injEq, Option.some.injEq, Addr.mk.injEq] at ex
              obtain ⟨⟨rfl, rfl, -⟩, -, -⟩ := ex
              rw [Nat.zero_add, mulP_at hqA] at qx
              have hqc : q < c.length := by rw [HCL3.out]; exact hqt
              obtain ⟨-, bc, oc, nc, kc', ec, qc⟩ := (HIC.out.below HI3.out.b).get hqc
              simp only [Value.slice.injEq] at ec
              obtain ⟨rfl, -, -⟩ := ec
              have qr := below_cell HI3.out.b HQ1.out
              have HMU := Lib.hid (fun ww => rmul_yes (nth A q) (nth c q) ww (by rw [nth_at hqA]; exact HAE.out _ (List.getElem_mem hqA)) (by rw [nth_at hqc]; exact HCE3.out _ (List.getElem_mem hqc)))
              have hdr : Below wr.heap.size wr wr.drew := (Below.refl _ _).drew
              have HI4 := Lib.hid (HI3.out.below hdr)
              have HST := Lib.hid ((HI4.out.setC q (nth A q * nth c q % 2147483579)).2)
              rw [mulP_set] at HST
              have f3 := (HI4.out.setC q (nth A q * nth c q % 2147483579)).1
              have x3 := row_cell HI4.out.q (k := 3) rfl
              have y3 := below_cell hdr qx
              have q0 : (0 : Int) ≤ (q : Int) := by omega
              have q1' : (q : Int) < (cs.length : Int) := by omega
              have q2' : (q : Int) < (c.length : Int) := by omega
              clear hIx hdr
              generalize nth A q = x at *
              generalize nth c q = y at *
              obtain ⟨s, hs⟩ : ∃ s, s = x * y % 2147483579 := ⟨_, rfl⟩
              rw [← hs] at HMU HST
              clear hs
              go_wp2_with fail
              go_region_held3 (fun w' => w'.cell? ⟨wl.heap.size, 3, none⟩ = some (.slice (some ⟨g, 0, none⟩) cs.length cx) ∧ w'.cell? ⟨g, q, none⟩ = some (.int .i64 x) ∧ w'.cell? ⟨b1, o1 + k, none⟩ = some (.slice (some ⟨bc, oc, none⟩) c.length kc) ∧ w'.cell? ⟨bc, oc + q, none⟩ = some (.int .i64 y)) (first | go_keep | exact ⟨z3, qx, qr, qc⟩)
                ((go_at_call 36; (with_reducible refine (HMU.out _).mono ?_); rintro e w6 ⟨rfl, rfl⟩))
              go_wp2_with fail
              go_roundw
              case rel => exact ⟨q + 1, by omega, by go_num, HST.out⟩
              case measure => simp [intOf]; omega
            · obtain rfl : q = cs.length := by omega
              have hdq : decide (cs.length < cs.length) = false := decide_eq_false (by omega)
              have eM : mulP A c cs.length = mulL A c := by rw [← HAL.out]; exact mulP_all A c
              have HI6 := Lib.hid HI3.out
              rw [eM] at HI6
              clear HI3 eM
              go_wp2_with fail
              clear z3
              go_loopw [19] (fun j W => ∃ q : Nat, q ≤ l.length ∧ j = .int .i64 q ∧ RenI wl wl.heap.size #[.int .i64 (ep + 1), .slice a1 rows.length k1, .slice a2 owners.length k2, .slice (some ⟨g, 0, none⟩) cs.length cx] (.slice (some ⟨g, 0, none⟩) cs.length cx) (.slice ya l.length yc) cs.length l.length (mulL A c) (addJ L m q) W) (fun j _ => l.length - (intOf j).toNat)
              case atStart => exact ⟨0, Nat.zero_le _, rfl, by rw [addJ_0]; exact HI6.out⟩
              case round =>
                clear HI6
                obtain ⟨q, hql2, rfl, hI⟩ := hrel
                by_cases hqt : q < l.length
                · obtain ⟨g2, yc2, ey⟩ := Joins.ownsRow_form hI.o2 (by omega)
                  simp only [Value.slice.injEq] at ey
                  obtain ⟨rfl, -, rfl⟩ := ey
                  have hqL : q < (addJ L m q).length := by rw [addJ_len, HLL.out]; exact hqt
                  have hqm : q < m.length := by rw [HML3.out]; exact hqt
                  obtain ⟨wd, hwd⟩ : ∃ wd : World, wd = wr.drew := ⟨_, rfl⟩
                  have hdr : Below wr.heap.size wr wd := hwd ▸ (Below.refl _ _).drew
                  have HI4 := Lib.hid (hI.below hdr)
                  have hSh := Shares.own HI4.out.o2 (addJ_r64 HLR3.out q) (by rw [addJ_len, HLL.out]; omega)
                  obtain ⟨aS, cS, eS, -, -, -, hk1⟩ := hSh
                  obtain ⟨bx, ox, ea, -, qa⟩ := hk1 q hqL
                  simp only [Value.slice.injEq] at eS
                  obtain ⟨rfl, -, -⟩ := eS
                  simp only [Option.some.injEq, Addr.mk.injEq] at ea
                  obtain ⟨rfl, rfl, -⟩ := ea
                  rw [Nat.zero_add, addJ_at hqL] at qa
                  obtain ⟨aT, cT, eT, -, -, hmr, hk2⟩ := HIM.out.below HI4.out.b
                  obtain ⟨bm, om, eb, -, qb⟩ := hk2 q hqm
                  simp only [Value.slice.injEq] at eT
                  obtain ⟨rfl, -, -⟩ := eT
                  subst eb
                  have hmg : m.getD q (0, 0) = m[q] := getD_at hqm _
                  rw [← hmg] at qb
                  have hrm := (hmr _ (List.getElem_mem hqm)).2
                  rw [← hmg] at hrm
                  have hrL := (HLR3.out _ (List.getElem_mem (show q < L.length by rw [HLL.out]; exact hqt))).2
                  rw [← getD_at (show q < L.length by rw [HLL.out]; exact hqt) (0, 0)] at hrL
                  have qm := below_cell HI4.out.b HQ2.out
                  have hST := (HI4.out.setL hqL (((L.getD q (0, 0)).2 + (m.getD q (0, 0)).2) % 1073741789)).2
                  have ff := (HI4.out.setL hqL (((L.getD q (0, 0)).2 + (m.getD q (0, 0)).2) % 1073741789)).1
                  rw [addJ_set hqL] at hST
                  generalize (L.getD q (0, 0)).2 = x at *
                  generalize (m.getD q (0, 0)).2 = z at *
                  have HAD := Lib.hid (fun ww => radd_any x z ww hrL hrm)
                  obtain ⟨s, hs⟩ : ∃ s, s = (x + z) % 1073741789 := ⟨_, rfl⟩
                  rw [← hs] at HAD hST
                  have HST := Lib.hid hST
                  have q0 : (0 : Int) ≤ (q : Int) := by omega
                  have q1' : (q : Int) < (l.length : Int) := by omega
                  have q2' : (q : Int) < (m.length : Int) := by omega
                  clear hk1 hk2 hmg hrm hrL hmr hs hST hI hdr
                  go_upto_region 32 with fail
                  refine wp_region_flows (by kernel_rfl) (by kernel_rfl) (by kernel_rfl) (by kernel_rfl) (fun done v W => FAdd wd (.slice (some ⟨g2, 0, none⟩) l.length yc) (.slice (some ⟨b2, o2, none⟩) more.length k6) (.slice (some ⟨bm, om, none⟩) m.length km) q k g2 b2 o2 bm om x z s done v W) (fun v => ?_) ?_ (fun v W h => ?_)
                  · exact ⟨(fun _ => hwd.symm), (fun h => by cases h), (fun h => by cases h), (fun h => by cases h), (fun h => by cases h), (fun h => by cases h), (fun h => by cases h), (fun h => by cases h), (fun h => by cases h), (fun h => by cases h), (fun h => by cases h), (fun h => by cases h), (fun h => by cases h), (fun h => by cases h), (fun h => by cases h), (fun h => by cases h), (fun h => by cases h), (fun h => by cases h), (fun h => by cases h), (fun h => by cases h)⟩
                  · clear hwd
                    refine ⟨?_, ?_, ?_, ?_, ?_, ?_, ?_, ?_, ?_, ?_, ?_, ?_, ?_, ?_, ?_, ?_, ?_, ?_, ?_, trivial⟩
                    · intro done v W A h hd hp hu hA hB
                      have n18_0 : done 18 = false := flow_not (fun hj => hu 18 0 rfl (hj)) hd
                      obtain rfl : W = wd := h.b n18_0
                      have e : A.tmps[14]?.getD undef = .slice (some ⟨g2, 0, none⟩) l.length yc := hB 14 rfl
                      clear hA hB hp hu
                      go_simp
                      exact ⟨_, rfl, ⟨h.b, (fun _ => rfl), h.f1, h.f2, h.f3, h.f4, h.f5, h.f6, h.f7, h.f8, h.f9, h.f10, h.f11, h.f12, h.f13, h.f14, h.f15, h.f16, h.f17, (h.z)⟩⟩
                    · intro done v W A h hd hp hu hA hB
                      have n18_1 : done 18 = false := flow_not (fun hj => hu 18 1 rfl (hj)) hd
                      obtain rfl : W = wd := h.b n18_1
                      have e : A.tmps[19]?.getD undef = .int .i64 (q : Nat) := hB 19 rfl
                      clear hA hB hp hu
                      go_simp
                      exact ⟨_, rfl, ⟨h.b, h.f0, (fun _ => rfl), h.f2, h.f3, h.f4, h.f5, h.f6, h.f7, h.f8, h.f9, h.f10, h.f11, h.f12, h.f13, h.f14, h.f15, h.f16, h.f17, (h.z)⟩⟩
                    · intro done v W A h hd hp hu hA hB
                      have n18_2 : done 18 = false := flow_not (fun hj => hu 18 2 rfl (hj)) hd
                      obtain rfl : W = wd := h.b n18_2
                      have e : A.tmps[14]?.getD undef = .slice (some ⟨g2, 0, none⟩) l.length yc := hB 14 rfl
                      clear hA hB hp hu
                      go_simp
                      exact ⟨_, rfl, ⟨h.b, h.f0, h.f1, (fun _ => rfl), h.f3, h.f4, h.f5, h.f6, h.f7, h.f8, h.f9, h.f10, h.f11, h.f12, h.f13, h.f14, h.f15, h.f16, h.f17, (h.z)⟩⟩
                    · intro done v W A h hd hp hu hA hB
                      have n18_3 : done 18 = false := flow_not (fun hj => hu 18 3 rfl (hj)) hd
                      obtain rfl : W = wd := h.b n18_3
                      have e : A.tmps[19]?.getD undef = .int .i64 (q : Nat) := hB 19 rfl
                      clear hA hB hp hu
                      go_simp
                      exact ⟨_, rfl, ⟨h.b, h.f0, h.f1, h.f2, (fun _ => rfl), h.f4, h.f5, h.f6, h.f7, h.f8, h.f9, h.f10, h.f11, h.f12, h.f13, h.f14, h.f15, h.f16, h.f17, (h.z)⟩⟩
                    · intro done v W A h hd hp hu hA hB
                      have n18_4 : done 18 = false := flow_not (fun hj => hu 18 4 rfl (hj)) hd
                      have hd2 : done 2 = true := hp 2 rfl
                      have hd3 : done 3 = true := hp 3 rfl
                      obtain rfl : W = wd := h.b n18_4
                      have e1 := (hA 2 129 rfl hd2).trans (h.f2 hd2)
                      have e2 := (hA 3 130 rfl hd3).trans (h.f3 hd3)
                      clear hA hB hp hu
                      go_simp
                      exact ⟨_, rfl, ⟨h.b, h.f0, h.f1, h.f2, h.f3, (fun _ => rfl), h.f5, h.f6, h.f7, h.f8, h.f9, h.f10, h.f11, h.f12, h.f13, h.f14, h.f15, h.f16, h.f17, (h.z)⟩⟩
                    · intro done v W A h hd hp hu hA hB
                      have n18_5 : done 18 = false := flow_not (fun hj => hu 18 5 rfl (hj)) hd
                      have hd4 : done 4 = true := hp 4 rfl
                      obtain rfl : W = wd := h.b n18_5
                      have e1 := (hA 4 131 rfl hd4).trans (h.f4 hd4)
                      clear hA hB hp hu
                      go_simp
                      exact ⟨_, rfl, ⟨h.b, h.f0, h.f1, h.f2, h.f3, h.f4, (fun _ => rfl), h.f6, h.f7, h.f8, h.f9, h.f10, h.f11, h.f12, h.f13, h.f14, h.f15, h.f16, h.f17, (h.z)⟩⟩
                    · intro done v W A h hd hp hu hA hB
                      have n18_6 : done 18 = false := flow_not (fun hj => hu 18 6 rfl (hj)) hd
                      have hd5 : done 5 = true := hp 5 rfl
                      obtain rfl : W = wd := h.b n18_6
                      have e1 := (hA 5 132 rfl hd5).trans (h.f5 hd5)
                      clear hA hB hp hu
                      go_simp
                      exact ⟨_, rfl, ⟨h.b, h.f0, h.f1, h.f2, h.f3, h.f4, h.f5, (fun _ => rfl), h.f7, h.f8, h.f9, h.f10, h.f11, h.f12, h.f13, h.f14, h.f15, h.f16, h.f17, (h.z)⟩⟩
                    · intro done v W A h hd hp hu hA hB
                      have n18_7 : done 18 = false := flow_not (fun hj => hu 18 7 rfl (hj)) hd
                      obtain rfl : W = wd := h.b n18_7
                      have e : A.tmps[3]?.getD undef = .slice (some ⟨b2, o2, none⟩) more.length k6 := hB 3 rfl
                      clear hA hB hp hu
                      go_simp
                      exact ⟨_, rfl, ⟨h.b, h.f0, h.f1, h.f2, h.f3, h.f4, h.f5, h.f6, (fun _ => rfl), h.f8, h.f9, h.f10, h.f11, h.f12, h.f13, h.f14, h.f15, h.f16, h.f17, (h.z)⟩⟩
                    · intro done v W A h hd hp hu hA hB
                      have n18_8 : done 18 = false := flow_not (fun hj => hu 18 8 rfl (hj)) hd
                      obtain rfl : W = wd := h.b n18_8
                      have e : A.tmps[15]?.getD undef = .int .i64 (k : Nat) := hB 15 rfl
                      clear hA hB hp hu
                      go_simp
                      exact ⟨_, rfl, ⟨h.b, h.f0, h.f1, h.f2, h.f3, h.f4, h.f5, h.f6, h.f7, (fun _ => rfl), h.f9, h.f10, h.f11, h.f12, h.f13, h.f14, h.f15, h.f16, h.f17, (h.z)⟩⟩
                    · intro done v W A h hd hp hu hA hB
                      have n18_9 : done 18 = false := flow_not (fun hj => hu 18 9 rfl (hj)) hd
                      have hd7 : done 7 = true := hp 7 rfl
                      have hd8 : done 8 = true := hp 8 rfl
                      obtain rfl : W = wd := h.b n18_9
                      have e1 := (hA 7 134 rfl hd7).trans (h.f7 hd7)
                      have e2 := (hA 8 135 rfl hd8).trans (h.f8 hd8)
                      clear hA hB hp hu
                      go_simp
                      exact ⟨_, rfl, ⟨h.b, h.f0, h.f1, h.f2, h.f3, h.f4, h.f5, h.f6, h.f7, h.f8, (fun _ => rfl), h.f10, h.f11, h.f12, h.f13, h.f14, h.f15, h.f16, h.f17, (h.z)⟩⟩
                    · intro done v W A h hd hp hu hA hB
                      have n18_10 : done 18 = false := flow_not (fun hj => hu 18 10 rfl (hj)) hd
                      have hd9 : done 9 = true := hp 9 rfl
                      obtain rfl : W = wd := h.b n18_10
                      have e1 := (hA 9 136 rfl hd9).trans (h.f9 hd9)
                      clear hA hB hp hu
                      go_simp
                      exact ⟨_, rfl, ⟨h.b, h.f0, h.f1, h.f2, h.f3, h.f4, h.f5, h.f6, h.f7, h.f8, h.f9, (fun _ => rfl), h.f11, h.f12, h.f13, h.f14, h.f15, h.f16, h.f17, (h.z)⟩⟩
                    · intro done v W A h hd hp hu hA hB
                      have n18_11 : done 18 = false := flow_not (fun hj => hu 18 11 rfl (hj)) hd
                      obtain rfl : W = wd := h.b n18_11
                      have e : A.tmps[19]?.getD undef = .int .i64 (q : Nat) := hB 19 rfl
                      clear hA hB hp hu
                      go_simp
                      exact ⟨_, rfl, ⟨h.b, h.f0, h.f1, h.f2, h.f3, h.f4, h.f5, h.f6, h.f7, h.f8, h.f9, h.f10, (fun _ => rfl), h.f12, h.f13, h.f14, h.f15, h.f16, h.f17, (h.z)⟩⟩
                    · intro done v W A h hd hp hu hA hB
                      have n18_12 : done 18 = false := flow_not (fun hj => hu 18 12 rfl (hj)) hd
                      have hd10 : done 10 = true := hp 10 rfl
                      have hd11 : done 11 = true := hp 11 rfl
                      obtain rfl : W = wd := h.b n18_12
                      have e1 := (hA 10 137 rfl hd10).trans (h.f10 hd10)
                      have e2 := (hA 11 138 rfl hd11).trans (h.f11 hd11)
                      clear hA hB hp hu
                      go_simp
                      exact ⟨_, rfl, ⟨h.b, h.f0, h.f1, h.f2, h.f3, h.f4, h.f5, h.f6, h.f7, h.f8, h.f9, h.f10, h.f11, (fun _ => rfl), h.f13, h.f14, h.f15, h.f16, h.f17, (h.z)⟩⟩
                    · intro done v W A h hd hp hu hA hB
                      have n18_13 : done 18 = false := flow_not (fun hj => hu 18 13 rfl (hj)) hd
                      have hd12 : done 12 = true := hp 12 rfl
                      obtain rfl : W = wd := h.b n18_13
                      have e1 := (hA 12 139 rfl hd12).trans (h.f12 hd12)
                      clear hA hB hp hu
                      go_simp
                      exact ⟨_, rfl, ⟨h.b, h.f0, h.f1, h.f2, h.f3, h.f4, h.f5, h.f6, h.f7, h.f8, h.f9, h.f10, h.f11, h.f12, (fun _ => rfl), h.f14, h.f15, h.f16, h.f17, (h.z)⟩⟩
                    · intro done v W A h hd hp hu hA hB
                      have n18_14 : done 18 = false := flow_not (fun hj => hu 18 14 rfl (hj)) hd
                      have hd13 : done 13 = true := hp 13 rfl
                      obtain rfl : W = wd := h.b n18_14
                      have e1 := (hA 13 140 rfl hd13).trans (h.f13 hd13)
                      clear hA hB hp hu
                      go_simp
                      exact ⟨_, rfl, ⟨h.b, h.f0, h.f1, h.f2, h.f3, h.f4, h.f5, h.f6, h.f7, h.f8, h.f9, h.f10, h.f11, h.f12, h.f13, (fun _ => rfl), h.f15, h.f16, h.f17, (h.z)⟩⟩
                    · intro done v W A h hd hp hu hA hB
                      have n18_15 : done 18 = false := flow_not (fun hj => hu 18 15 rfl (hj)) hd
                      have hd6 : done 6 = true := hp 6 rfl
                      have hd14 : done 14 = true := hp 14 rfl
                      obtain rfl : W = wd := h.b n18_15
                      have e1 := (hA 6 133 rfl hd6).trans (h.f6 hd6)
                      have e2 := (hA 14 141 rfl hd14).trans (h.f14 hd14)
                      clear hA hB hp hu
                      go_simp
                      with_reducible refine (HAD.out _).mono ?_
                      rintro e wq ⟨rfl, rfl⟩
                      exact ⟨_, rfl, ⟨h.b, h.f0, h.f1, h.f2, h.f3, h.f4, h.f5, h.f6, h.f7, h.f8, h.f9, h.f10, h.f11, h.f12, h.f13, h.f14, (fun _ => rfl), h.f16, h.f17, (h.z)⟩⟩
                    · intro done v W A h hd hp hu hA hB
                      have n18_16 : done 18 = false := flow_not (fun hj => hu 17 16 rfl (hu 18 17 rfl (hj))) hd
                      have hd0 : done 0 = true := hp 0 rfl
                      have hd1 : done 1 = true := hp 1 rfl
                      obtain rfl : W = wd := h.b n18_16
                      have e1 := (hA 0 127 rfl hd0).trans (h.f0 hd0)
                      have e2 := (hA 1 128 rfl hd1).trans (h.f1 hd1)
                      clear hA hB hp hu
                      go_simp
                      exact ⟨_, rfl, ⟨h.b, h.f0, h.f1, h.f2, h.f3, h.f4, h.f5, h.f6, h.f7, h.f8, h.f9, h.f10, h.f11, h.f12, h.f13, h.f14, h.f15, (fun _ => rfl), h.f17, (h.z)⟩⟩
                    · intro done v W A h hd hp hu hA hB
                      have n18_17 : done 18 = false := flow_not (fun hj => hu 18 17 rfl (hj)) hd
                      have hd16 : done 16 = true := hp 16 rfl
                      obtain rfl : W = wd := h.b n18_17
                      have e1 := (hA 16 143 rfl hd16).trans (h.f16 hd16)
                      clear hA hB hp hu
                      go_simp
                      exact ⟨_, rfl, ⟨h.b, h.f0, h.f1, h.f2, h.f3, h.f4, h.f5, h.f6, h.f7, h.f8, h.f9, h.f10, h.f11, h.f12, h.f13, h.f14, h.f15, h.f16, (fun _ => rfl), (h.z)⟩⟩
                    · intro done v W A h hd hp hu hA hB
                      have hd15 : done 15 = true := hp 15 rfl
                      have hd17 : done 17 = true := hp 17 rfl
                      obtain rfl : W = wd := h.b hd
                      have e1 := (hA 17 144 rfl hd17).trans (h.f17 hd17)
                      have e2 := (hA 15 142 rfl hd15).trans (h.f15 hd15)
                      clear hA hB hp hu
                      go_simp
                      exact ⟨undef, ⟨(fun h2 => absurd (show true = false from h2) (by decide)), h.f0, h.f1, h.f2, h.f3, h.f4, h.f5, h.f6, h.f7, h.f8, h.f9, h.f10, h.f11, h.f12, h.f13, h.f14, h.f15, h.f16, h.f17, (fun _ => rfl)⟩⟩
                  have hz := h.z rfl
                  subst hz
                  clear h qa qb qm ff hwd
                  simp only [putL, Act.put, Nat.reduceAdd, List.setIfInBounds_toArray, List.set_cons_zero, List.set_cons_succ]
                  go_wp2_with fail
                  go_roundw
                  case rel => exact ⟨q + 1, by omega, by go_num, HST.out⟩
                  case measure => simp [intOf]; omega
                · obtain rfl : q = l.length := by omega
                  have hdq2 : decide (l.length < l.length) = false := decide_eq_false (by omega)
                  have eS : addJ L m l.length = addS L m := by rw [← HLL.out]; exact addJ_all L m
                  rw [eS, ← HLS.out, ← HCS.out] at hI
                  have HI7 := Lib.hid hI
                  clear eS hI
                  go_wp2_with fail
                  go_roundw
                  case rel => exact ⟨k + 1, by omega, by go_num, HI7.out⟩
                  case measure => simp [intOf]; omega
        · obtain rfl : k = css.length := by omega
          have hdk2 : decide (css.length < css.length) = false := decide_eq_false (by omega)
          rw [List.take_length, List.take_of_length_le (by rw [HML.out]; exact Nat.le_refl _)] at HI
          have Q2w := Lib.hid ((HI.out.b.block _ (row_lt Q2.out)).trans Q2.out)
          have hlt2 := row_lt Q2.out
          have HRA := renC_el HCB.out HZ.out css.length (Nat.le_refl _)
          rw [List.take_length] at HRA
          have hIx := fun (ww : World) (h : ww.ownsRow wl.heap.size 3 1 (.slice (some ⟨g, 0, none⟩) cs.length cx) cs.length ((renC cs css).map (Value.int .i64))) => Ints.own h (fun z hz => (HRA.1 z hz).r64) (by rw [renC_len]; omega)
          have hRL := renL_rows l more (fun m hm => by
            obtain ⟨i, hi, rfl⟩ := List.mem_iff_getElem.1 hm
            have h6 := zerosB_at HZ.out (show i < css.length by rw [← HML.out]; exact hi)
            unfold zeroN zeroB at h6
            simp only [Bool.and_eq_true, decide_eq_true_eq] at h6
            have h7 := rowsS_len h6.2.2.1
            rw [getD_at hi] at h7
            exact h7) HLR.out
          have hSx := fun (ww : World) (h : ww.ownsRow wl.heap.size 47 2 (.slice ya l.length yc) l.length ((renL l more).flatMap shaC)) => Shares.own h hRL (by rw [renL_len]; omega)
          have HIX := Lib.hid hIx
          have HSX := Lib.hid hSx
          have z0 := row_cell HI.out.q (k := 0) (v := .int .i64 (ep + 1)) rfl
          have z1 := row_cell HI.out.q (k := 1) (v := .slice a1 rows.length k1) rfl
          have z2 := row_cell HI.out.q (k := 2) (v := .slice a2 owners.length k2) rfl
          have z3 := row_cell HI.out.q (k := 3) (v := .slice (some ⟨g, 0, none⟩) cs.length cx) rfl
          have x0 := row_cell Q2w.out (k := 0) rfl
          have x1 := row_cell Q2w.out (k := 1) rfl
          have x2 := row_cell Q2w.out (k := 2) rfl
          have x3 := row_cell Q2w.out (k := 3) rfl
          have f0 := row_free Q2w.out 0
          have f1 := row_free Q2w.out 1
          have f2 := row_free Q2w.out 2
          have f3 := row_free Q2w.out 3
          clear hIx hSx hRL HRA
          go_wp2_with fail
          try simp only [Exit.inBlock, Exit.then]
          refine bodyPost_ret (v := .tuple #[.agg #[.int .i64 (ep + 1), .slice a1 rows.length k1, .slice a2 owners.length k2, .slice (some ⟨g, 0, none⟩) cs.length cx], .slice ya l.length yc, .int .i64 0]) ?_ rfl ?_
          · rw [results_cell_tmp2 rfl]
            go_simp
          · exact ⟨_, _, by rw [HV.out], fun _ => ⟨_, rfl, HIX.out _ (ownsRow_setCell_below (ownsRow_setCell_below (ownsRow_setCell_below (ownsRow_setCell_below HI.out.o1 hlt2 _) hlt2 _) hlt2 _) hlt2 _), HSX.out _ (ownsRow_setCell_below (ownsRow_setCell_below (ownsRow_setCell_below (ownsRow_setCell_below HI.out.o2 hlt2 _) hlt2 _) hlt2 _) hlt2 _)⟩, fun h => absurd HV.out h, (((((HB.out.trans (HI.out.b.mono HB.out.size)).setCell (Nat.le_succ _) _).setCell (Nat.le_succ _) _).setCell (Nat.le_succ _) _).setCell (Nat.le_succ _) _)⟩

end Go.Proofs.YtnbkbnbmmkfckaaGreat

namespace Go.Proofs.YtnbkbnbmmkfckaaGreat
open Go.RowKit FP

set_option maxRecDepth 100000 in
set_option maxHeartbeats 2000000 in
theorem zero38_any (rv ov mv : Value) (rows : List (List Int)) (owners : List Int) (rnd : List Int) (w : World) (hR : Rows2 w rv rows) (hO : Ints w ov owners) (hM : Ints w mv rnd) :
    Calls Tryz.prog 7 #[.agg #[rv, ov], mv] w fun r w' => ∃ lv cv, r = .returned (.tuple #[lv, cv, .int .i64 (dealE rows owners 0 rnd)]) ∧ Shares w' lv (if dealE rows owners 0 rnd = 0 then dealL rows (0 :: rnd) else []) ∧ Ints w' cv (if dealE rows owners 0 rnd = 0 then dealC (0 :: rnd) else []) ∧ Below w.heap.size w w' := by
  obtain ⟨W1, hW1, hb1, hr1, hz⟩ := box_prog w rv ov 25
  have HD := Lib.hid (deal_any rv ov mv rows owners 0 rnd W1 (hR.below hb1) (hO.below hb1) (hM.below hb1) (R64.mk (by omega) (by omega)))
  obtain ⟨a, cap, rfl, -, hlen, -⟩ := id hR
  obtain ⟨a2, cap2, rfl, -, hlen2, -⟩ := id hO
  have c0 : W1.cell? ⟨w.heap.size, 0, none⟩ = some (.slice a rows.length cap) := row_cell hr1 rfl
  have c1 : W1.cell? ⟨w.heap.size, 1, none⟩ = some (.slice a2 owners.length cap2) := row_cell hr1 rfl
  have HW1 := Lib.hid hW1
  have HB1 := Lib.hid hb1
  clear hR hO hM hr1 hW1 hb1
  generalize (if dealE rows owners 0 rnd = 0 then dealL rows (0 :: rnd) else []) = S1 at HD ⊢
  generalize (if dealE rows owners 0 rnd = 0 then dealC (0 :: rnd) else []) = S2 at HD ⊢
  generalize dealE rows owners 0 rnd = e1 at HD ⊢
  go_enter Tryz.func7, Tryz.ntmps7
  go_wp2_with fail
  rw [← HW1.out]
  refine HD.out.mono ?_
  rintro r w2 ⟨lv, cv, rfl, hl, hc, hb2⟩
  have HL := Lib.hid hl
  have HC := Lib.hid hc
  have HB2 := Lib.hid (HB1.out.trans (hb2.mono HB1.out.size))
  clear hl hc hb2 HD c0 c1
  go_wp2_with fail
  go_ret3
  exact ⟨_, _, rfl, HL.out, HC.out, HB2.out⟩

set_option maxRecDepth 100000 in
set_option maxHeartbeats 2000000 in
theorem rZero38_any (rv ov mv : Value) (rows : List (List Int)) (owners : List Int) (rnd : List Int) (w : World) (hR : Rows2 w rv rows) (hO : Ints w ov owners) (hM : Ints w mv rnd) :
    Calls Tryz.prog 8 #[.agg #[rv, ov], mv] w fun r w' => ∃ lv cv, r = .returned (.tuple #[lv, cv, .int .i64 (dealE rows owners 0 rnd)]) ∧ Shares w' lv (if dealE rows owners 0 rnd = 0 then dealL rows (0 :: rnd) else []) ∧ Ints w' cv (if dealE rows owners 0 rnd = 0 then dealC (0 :: rnd) else []) ∧ Below w.heap.size w w' := by
  obtain ⟨W1, hW1, hb1, hr1, hz⟩ := box_prog w rv ov 25
  have HD := Lib.hid (rDeal_any rv ov mv rows owners 0 rnd W1 (hR.below hb1) (hO.below hb1) (hM.below hb1))
  obtain ⟨a, cap, rfl, -, hlen, -⟩ := id hR
  obtain ⟨a2, cap2, rfl, -, hlen2, -⟩ := id hO
  have c0 : W1.cell? ⟨w.heap.size, 0, none⟩ = some (.slice a rows.length cap) := row_cell hr1 rfl
  have c1 : W1.cell? ⟨w.heap.size, 1, none⟩ = some (.slice a2 owners.length cap2) := row_cell hr1 rfl
  have HW1 := Lib.hid hW1
  have HB1 := Lib.hid hb1
  clear hR hO hM hr1 hW1 hb1
  generalize (if dealE rows owners 0 rnd = 0 then dealL rows (0 :: rnd) else []) = S1 at HD ⊢
  generalize (if dealE rows owners 0 rnd = 0 then dealC (0 :: rnd) else []) = S2 at HD ⊢
  generalize dealE rows owners 0 rnd = e1 at HD ⊢
  go_enter Tryz.func8, Tryz.ntmps8
  go_wp2_with fail
  rw [← HW1.out]
  refine HD.out.mono ?_
  rintro r w2 ⟨lv, cv, rfl, hl, hc, hb2⟩
  have HL := Lib.hid hl
  have HC := Lib.hid hc
  have HB2 := Lib.hid (HB1.out.trans (hb2.mono HB1.out.size))
  clear hl hc hb2 HD c0 c1
  go_wp2_with fail
  go_ret3
  exact ⟨_, _, rfl, HL.out, HC.out, HB2.out⟩

set_option maxRecDepth 100000 in
set_option maxHeartbeats 8000000 in
theorem rfew38_any (ep : Int) (rv ov cv lv ccv mcv : Value) (rows : List (List Int)) (owners cs : List Int) (l : List (Int × Int)) (css : List (List Int)) (more : List (List (Int × Int))) (w : World) (hR : Rows2 w rv rows) (hO : Ints w ov owners) (hC : Ints w cv cs) (hL : Shares w lv l) (hCC : Rows2 w ccv css) (hMM : SRows w mcv more) :
    Calls Tryz.prog 6 #[.agg #[.int .i64 ep, rv, ov, cv], lv, ccv, mcv] w fun e w' => ∃ b, e = .returned (.bool b) ∧ Below w.heap.size w w' := by
  obtain ⟨W1, hW1, hb1, hr1, -⟩ := box_key w (.int .i64 ep) rv ov cv 27
  have HR := Lib.hid (hR.below hb1)
  have HO := Lib.hid (hO.below hb1)
  have HCC := Lib.hid (hCC.below hb1)
  have HMM := Lib.hid (hMM.below hb1)
  obtain ⟨a1, k1, rfl, -, hl1, -⟩ := id hR
  obtain ⟨a2, k2, rfl, -, hl2, -⟩ := id hO
  obtain ⟨a3, k3, rfl, -, hl3, -⟩ := id hC
  obtain ⟨a4, k4, rfl, -, hl4, -⟩ := id hL
  obtain ⟨a5, k5, rfl, -, hl5, -⟩ := id hCC
  obtain ⟨a6, k6, rfl, -, hl6, -⟩ := id hMM
  have Q1 := Lib.hid hr1
  have HW1 := Lib.hid hW1
  have HB := Lib.hid hb1
  clear hR hO hC hL hCC hMM hb1 hr1 hW1
  have c1 := row_cell Q1.out (k := 1) rfl
  have c2 := row_cell Q1.out (k := 2) rfl
  go_enter Tryz.func6, Tryz.ntmps6
  go_wp2_with (rw [← HW1.out])
  clear c1 c2
  with_reducible refine (rfew_any _ _ rows owners _ HR.out HO.out).mono ?_
  rintro e w2 ⟨b, rfl, hb2⟩
  replace HR := Lib.hid (HR.out.below hb2)
  replace HO := Lib.hid (HO.out.below hb2)
  replace HCC := Lib.hid (HCC.out.below hb2)
  replace HMM := Lib.hid (HMM.out.below hb2)
  replace Q1 := Lib.hid ((hb2.block _ (row_lt Q1.out)).trans Q1.out)
  replace HB := Lib.hid (HB.out.trans (hb2.mono HB.out.size))
  clear hb2
  have c3 := row_cell Q1.out (k := 3) rfl
  cases b with
  | false =>
    go_wp2_with fail
    go_ret
    exact ⟨_, rfl, HB.out⟩
  | true =>
  by_cases g1 : 80 < cs.length
  · have dg1 : decide ((80 : Int) < (cs.length : Int)) = true := decide_eq_true (by omega)
    clear g1
    go_wp2_with fail
    go_ret
    exact ⟨_, rfl, HB.out⟩
  have dg1 : decide ((80 : Int) < (cs.length : Int)) = false := decide_eq_false (by omega)
  clear g1
  by_cases g2 : 80 < l.length
  · have dg2 : decide ((80 : Int) < (l.length : Int)) = true := decide_eq_true (by omega)
    clear g2
    go_wp2_with fail
    go_ret
    exact ⟨_, rfl, HB.out⟩
  have dg2 : decide ((80 : Int) < (l.length : Int)) = false := decide_eq_false (by omega)
  clear g2
  by_cases g3 : 4 < css.length ∧ css.length ≤ 64
  · have dg3 : decide ((4 : Int) < (css.length : Int)) = true := decide_eq_true (by omega)
    have dg3b : decide ((css.length : Int) ≤ 64) = true := decide_eq_true (by omega)
    clear g3
    go_wp2_with fail
    go_ret
    exact ⟨_, rfl, HB.out⟩
  obtain ⟨u, hu⟩ : ∃ u : World, u = w2 := ⟨_, rfl⟩
  rw [← hu] at HR HO HCC HMM Q1 HB ⊢ c3
  clear hu
  by_cases h4 : 4 < css.length
  · have e4 : decide ((4 : Int) < (css.length : Int)) = true := decide_eq_true (by omega)
    have e64 : decide ((css.length : Int) ≤ 64) = false := decide_eq_false (by omega)
    clear g3 h4
    by_cases g4 : 70 < css.length
    · have dg4 : decide ((70 : Int) < (css.length : Int)) = true := decide_eq_true (by omega)
      clear g4
      go_wp2_with fail
      go_ret
      exact ⟨_, rfl, HB.out⟩
    have dg4 : decide ((70 : Int) < (css.length : Int)) = false := decide_eq_false (by omega)
    clear g4
    by_cases g5 : 70 < more.length
    · have dg5 : decide ((70 : Int) < (more.length : Int)) = true := decide_eq_true (by omega)
      clear g5
      go_wp2_with fail
      go_ret
      exact ⟨_, rfl, HB.out⟩
    have dg5 : decide ((70 : Int) < (more.length : Int)) = false := decide_eq_false (by omega)
    clear g5
    go_wp2_with fail
    go_loopw [9] (fun i W => ∃ k : Nat, k ≤ css.length ∧ i = .int .i64 k ∧ Below u.heap.size u W) (fun i _ => css.length - (intOf i).toNat)
    case atStart => exact ⟨0, Nat.zero_le _, rfl, Below.refl _ _⟩
    case round =>
      obtain ⟨k, hkl, rfl, hb⟩ := hrel
      by_cases hlt : k < css.length
      · obtain ⟨b1, o1, n1, k9, r1, e1, q1, i1⟩ := HCC.out.get hlt
        simp only [Value.slice.injEq] at e1
        obtain ⟨rfl, -, -⟩ := e1
        have y1 := below_cell hb q1
        obtain ⟨c, hc⟩ : ∃ c, c = css.getD k [] := ⟨_, rfl⟩
        rw [← hc] at i1
        obtain ⟨rc, kc, rfl, -⟩ := id i1
        have j0 : (0 : Int) ≤ (k : Int) := by omega
        have j1 : (k : Int) < (css.length : Int) := by omega
        have HBW := Lib.hid hb
        clear q1 i1 hb hc
        by_cases h80 : 80 < c.length
        · have d80 : decide ((80 : Int) < (c.length : Int)) = true := decide_eq_true (by omega)
          clear h80
          go_wp2_with fail
          go_ret
          exact ⟨_, rfl, HB.out.trans (HBW.out.mono HB.out.size)⟩
        · have d80 : decide ((80 : Int) < (c.length : Int)) = false := decide_eq_false (by omega)
          clear h80
          go_wp2_with fail
          go_roundw
          case rel => exact ⟨k + 1, by omega, by go_num, HBW.out⟩
          case measure => simp [intOf]; omega
      · obtain rfl : k = css.length := by omega
        have hdk : decide (css.length < css.length) = false := decide_eq_false (by omega)
        replace HMM := Lib.hid (HMM.out.below hb)
        replace HB := Lib.hid (HB.out.trans (hb.mono HB.out.size))
        obtain ⟨wl, hwl⟩ : ∃ wl : World, wl = wr := ⟨_, rfl⟩
        rw [← hwl] at HMM HB ⊢
        clear hwl hb c3 HCC HR HO Q1
        go_wp2_with fail
        go_loopw [10] (fun i W => ∃ k : Nat, k ≤ more.length ∧ i = .int .i64 k ∧ Below wl.heap.size wl W) (fun i _ => more.length - (intOf i).toNat)
        case atStart => exact ⟨0, Nat.zero_le _, rfl, Below.refl _ _⟩
        case round =>
          obtain ⟨k, hkl2, rfl, hb⟩ := hrel
          by_cases hlt : k < more.length
          · obtain ⟨b1, o1, n1, k9, r1, e1, q1, i1⟩ := HMM.out.get hlt
            simp only [Value.slice.injEq] at e1
            obtain ⟨rfl, -, -⟩ := e1
            have y1 := below_cell hb q1
            obtain ⟨c, hc⟩ : ∃ c, c = more.getD k [] := ⟨_, rfl⟩
            rw [← hc] at i1
            obtain ⟨rc, kc, rfl, -⟩ := id i1
            have j0 : (0 : Int) ≤ (k : Int) := by omega
            have j1 : (k : Int) < (more.length : Int) := by omega
            have HBW := Lib.hid hb
            clear q1 i1 hb hc
            by_cases h80 : 80 < c.length
            · have d80 : decide ((80 : Int) < (c.length : Int)) = true := decide_eq_true (by omega)
              clear h80
              go_wp2_with fail
              go_ret
              exact ⟨_, rfl, HB.out.trans (HBW.out.mono HB.out.size)⟩
            · have d80 : decide ((80 : Int) < (c.length : Int)) = false := decide_eq_false (by omega)
              clear h80
              go_wp2_with fail
              go_roundw
              case rel => exact ⟨k + 1, by omega, by go_num, HBW.out⟩
              case measure => simp [intOf]; omega
          · obtain rfl : k = more.length := by omega
            have hdk2 : decide (more.length < more.length) = false := decide_eq_false (by omega)
            have HBF := Lib.hid (HB.out.trans (hb.mono HB.out.size))
            clear hb
            go_wp2_with fail
            go_ret
            exact ⟨_, rfl, HBF.out⟩
  · have e4 : decide ((4 : Int) < (css.length : Int)) = false := decide_eq_false (by omega)
    have dg4 : decide ((70 : Int) < (css.length : Int)) = false := decide_eq_false (by omega)
    clear g3 h4
    by_cases g5 : 70 < more.length
    · have dg5 : decide ((70 : Int) < (more.length : Int)) = true := decide_eq_true (by omega)
      clear g5
      go_wp2_with fail
      go_ret
      exact ⟨_, rfl, HB.out⟩
    have dg5 : decide ((70 : Int) < (more.length : Int)) = false := decide_eq_false (by omega)
    clear g5
    go_wp2_with fail
    go_loopw [9] (fun i W => ∃ k : Nat, k ≤ css.length ∧ i = .int .i64 k ∧ Below u.heap.size u W) (fun i _ => css.length - (intOf i).toNat)
    case atStart => exact ⟨0, Nat.zero_le _, rfl, Below.refl _ _⟩
    case round =>
      obtain ⟨k, hkl, rfl, hb⟩ := hrel
      by_cases hlt : k < css.length
      · obtain ⟨b1, o1, n1, k9, r1, e1, q1, i1⟩ := HCC.out.get hlt
        simp only [Value.slice.injEq] at e1
        obtain ⟨rfl, -, -⟩ := e1
        have y1 := below_cell hb q1
        obtain ⟨c, hc⟩ : ∃ c, c = css.getD k [] := ⟨_, rfl⟩
        rw [← hc] at i1
        obtain ⟨rc, kc, rfl, -⟩ := id i1
        have j0 : (0 : Int) ≤ (k : Int) := by omega
        have j1 : (k : Int) < (css.length : Int) := by omega
        have HBW := Lib.hid hb
        clear q1 i1 hb hc
        by_cases h80 : 80 < c.length
        · have d80 : decide ((80 : Int) < (c.length : Int)) = true := decide_eq_true (by omega)
          clear h80
          go_wp2_with fail
          go_ret
          exact ⟨_, rfl, HB.out.trans (HBW.out.mono HB.out.size)⟩
        · have d80 : decide ((80 : Int) < (c.length : Int)) = false := decide_eq_false (by omega)
          clear h80
          go_wp2_with fail
          go_roundw
          case rel => exact ⟨k + 1, by omega, by go_num, HBW.out⟩
          case measure => simp [intOf]; omega
      · obtain rfl : k = css.length := by omega
        have hdk : decide (css.length < css.length) = false := decide_eq_false (by omega)
        replace HMM := Lib.hid (HMM.out.below hb)
        replace HB := Lib.hid (HB.out.trans (hb.mono HB.out.size))
        obtain ⟨wl, hwl⟩ : ∃ wl : World, wl = wr := ⟨_, rfl⟩
        rw [← hwl] at HMM HB ⊢
        clear hwl hb c3 HCC HR HO Q1
        go_wp2_with fail
        go_loopw [10] (fun i W => ∃ k : Nat, k ≤ more.length ∧ i = .int .i64 k ∧ Below wl.heap.size wl W) (fun i _ => more.length - (intOf i).toNat)
        case atStart => exact ⟨0, Nat.zero_le _, rfl, Below.refl _ _⟩
        case round =>
          obtain ⟨k, hkl2, rfl, hb⟩ := hrel
          by_cases hlt : k < more.length
          · obtain ⟨b1, o1, n1, k9, r1, e1, q1, i1⟩ := HMM.out.get hlt
            simp only [Value.slice.injEq] at e1
            obtain ⟨rfl, -, -⟩ := e1
            have y1 := below_cell hb q1
            obtain ⟨c, hc⟩ : ∃ c, c = more.getD k [] := ⟨_, rfl⟩
            rw [← hc] at i1
            obtain ⟨rc, kc, rfl, -⟩ := id i1
            have j0 : (0 : Int) ≤ (k : Int) := by omega
            have j1 : (k : Int) < (more.length : Int) := by omega
            have HBW := Lib.hid hb
            clear q1 i1 hb hc
            by_cases h80 : 80 < c.length
            · have d80 : decide ((80 : Int) < (c.length : Int)) = true := decide_eq_true (by omega)
              clear h80
              go_wp2_with fail
              go_ret
              exact ⟨_, rfl, HB.out.trans (HBW.out.mono HB.out.size)⟩
            · have d80 : decide ((80 : Int) < (c.length : Int)) = false := decide_eq_false (by omega)
              clear h80
              go_wp2_with fail
              go_roundw
              case rel => exact ⟨k + 1, by omega, by go_num, HBW.out⟩
              case measure => simp [intOf]; omega
          · obtain rfl : k = more.length := by omega
            have hdk2 : decide (more.length < more.length) = false := decide_eq_false (by omega)
            have HBF := Lib.hid (HB.out.trans (hb.mono HB.out.size))
            clear hb
            go_wp2_with fail
            go_ret
            exact ⟨_, rfl, HBF.out⟩

set_option maxRecDepth 100000 in
set_option maxHeartbeats 16000000 in
theorem renewalSpec_any (rv ov cv lv ccv mcv nv : Value) (ep : Int) (rows : List (List Int)) (owners cs : List Int) (l : List (Int × Int)) (css : List (List Int)) (more : List (List (Int × Int))) (rnd : List Int) (w : World) (hep : R64 ep) (hR : Rows2 w rv rows) (hO : Ints w ov owners) (hC : Ints w cv cs) (hL : Shares w lv l) (hCC : Rows2 w ccv css) (hMM : SRows w mcv more) (hN : Ints w nv rnd) :
    Calls Tryz.prog 3 #[.agg #[.int .i64 ep, rv, ov, cv], lv, ccv, mcv, nv] w fun e w' => e = .returned (.bool true) ∧ Below w.heap.size w w' := by
  obtain ⟨W1, hW1, hb1, hr1, -⟩ := box_key w (.int .i64 ep) rv ov cv 27
  have HR := Lib.hid (hR.below hb1)
  have HO := Lib.hid (hO.below hb1)
  have HC := Lib.hid (hC.below hb1)
  have HL := Lib.hid (hL.below hb1)
  have HCC := Lib.hid (hCC.below hb1)
  have HMM := Lib.hid (hMM.below hb1)
  have HN := Lib.hid (hN.below hb1)
  obtain ⟨a1, k1, rfl, -, hl1, -⟩ := id hR
  obtain ⟨a2, k2, rfl, -, hl2, -⟩ := id hO
  obtain ⟨a3, k3, rfl, -, hl3, -⟩ := id hC
  obtain ⟨a4, k4, rfl, -, hl4, -⟩ := id hL
  obtain ⟨a5, k5, rfl, -, hl5, -⟩ := id hCC
  obtain ⟨a6, k6, rfl, -, hl6, -⟩ := id hMM
  obtain ⟨a7, k7, rfl, -, hl7, -⟩ := id hN
  have Q1 := Lib.hid hr1
  have HW1 := Lib.hid hW1
  have HB := Lib.hid hb1
  have HS := Lib.hid (sane38_any W1)
  have HEP := Lib.hid hep
  clear hR hO hC hL hCC hMM hN hb1 hr1 hW1 hep
  go_enter Tryz.func3, Tryz.ntmps3
  go_wp2_with (rw [← HW1.out])
  with_reducible refine (HS.out).mono ?_
  rintro e w2 ⟨rfl, hb2⟩
  replace HR := Lib.hid (HR.out.below hb2)
  replace HO := Lib.hid (HO.out.below hb2)
  replace HC := Lib.hid (HC.out.below hb2)
  replace HL := Lib.hid (HL.out.below hb2)
  replace HCC := Lib.hid (HCC.out.below hb2)
  replace HMM := Lib.hid (HMM.out.below hb2)
  replace HN := Lib.hid (HN.out.below hb2)
  replace Q1 := Lib.hid ((hb2.block _ (row_lt Q1.out)).trans Q1.out)
  replace HB := Lib.hid (HB.out.trans (hb2.mono HB.out.size))
  clear hb2
  have c0 := row_cell Q1.out (k := 0) (v := .int .i64 ep) rfl
  have c1 := row_cell Q1.out (k := 1) (v := .slice a1 rows.length k1) rfl
  have c2 := row_cell Q1.out (k := 2) (v := .slice a2 owners.length k2) rfl
  have c3 := row_cell Q1.out (k := 3) (v := .slice a3 cs.length k3) rfl
  go_wp2_with fail
  with_reducible refine (rfew38_any ep _ _ _ _ _ _ rows owners cs l css more _ HR.out HO.out HC.out HL.out HCC.out HMM.out).mono ?_
  rintro e w3 ⟨b, rfl, hb3⟩
  replace c0 := below_cell hb3 c0
  replace c1 := below_cell hb3 c1
  replace c2 := below_cell hb3 c2
  replace c3 := below_cell hb3 c3
  replace HR := Lib.hid (HR.out.below hb3)
  replace HO := Lib.hid (HO.out.below hb3)
  replace HC := Lib.hid (HC.out.below hb3)
  replace HL := Lib.hid (HL.out.below hb3)
  replace HCC := Lib.hid (HCC.out.below hb3)
  replace HMM := Lib.hid (HMM.out.below hb3)
  replace HN := Lib.hid (HN.out.below hb3)
  replace Q1 := Lib.hid ((hb3.block _ (row_lt Q1.out)).trans Q1.out)
  replace HB := Lib.hid (HB.out.trans (hb3.mono HB.out.size))
  clear hb3
  cases b with
  | false =>
    go_wp2_with fail
    go_ret
    exact ⟨rfl, HB.out⟩
  | true =>
  by_cases h80 : 80 < rnd.length
  · have d80 : decide ((80 : Int) < (rnd.length : Int)) = true := decide_eq_true (by omega)
    clear h80
    go_wp2_with fail
    go_ret
    exact ⟨rfl, HB.out⟩
  have d80 : decide ((80 : Int) < (rnd.length : Int)) = false := decide_eq_false (by omega)
  clear h80
  go_wp2_with fail
  with_reducible refine (zero38_any _ _ _ rows owners rnd _ HR.out HO.out HN.out).mono ?_
  rintro e w4 ⟨lv1, cv1, rfl, hs1, hc1, hb4⟩
  replace c0 := below_cell hb4 c0
  replace c1 := below_cell hb4 c1
  replace c2 := below_cell hb4 c2
  replace c3 := below_cell hb4 c3
  replace HR := Lib.hid (HR.out.below hb4)
  replace HO := Lib.hid (HO.out.below hb4)
  replace HC := Lib.hid (HC.out.below hb4)
  replace HL := Lib.hid (HL.out.below hb4)
  replace HCC := Lib.hid (HCC.out.below hb4)
  replace HMM := Lib.hid (HMM.out.below hb4)
  replace HN := Lib.hid (HN.out.below hb4)
  replace Q1 := Lib.hid ((hb4.block _ (row_lt Q1.out)).trans Q1.out)
  replace HB := Lib.hid (HB.out.trans (hb4.mono HB.out.size))
  clear hb4
  have HL1 := Lib.hid hs1
  have HC1 := Lib.hid hc1
  clear hs1 hc1
  go_wp2_with fail
  with_reducible refine (rZero38_any _ _ _ rows owners rnd _ HR.out HO.out HN.out).mono ?_
  rintro e w5 ⟨lv2, cv2, rfl, hs1, hc1, hb5⟩
  replace c0 := below_cell hb5 c0
  replace c1 := below_cell hb5 c1
  replace c2 := below_cell hb5 c2
  replace c3 := below_cell hb5 c3
  replace HR := Lib.hid (HR.out.below hb5)
  replace HO := Lib.hid (HO.out.below hb5)
  replace HC := Lib.hid (HC.out.below hb5)
  replace HL := Lib.hid (HL.out.below hb5)
  replace HCC := Lib.hid (HCC.out.below hb5)
  replace HMM := Lib.hid (HMM.out.below hb5)
  replace HN := Lib.hid (HN.out.below hb5)
  replace HL1 := Lib.hid (HL1.out.below hb5)
  replace HC1 := Lib.hid (HC1.out.below hb5)
  replace Q1 := Lib.hid ((hb5.block _ (row_lt Q1.out)).trans Q1.out)
  replace HB := Lib.hid (HB.out.trans (hb5.mono HB.out.size))
  clear hb5
  have HL2 := Lib.hid hs1
  have HC2 := Lib.hid hc1
  clear hs1 hc1
  generalize (if dealE rows owners 0 rnd = 0 then dealL rows (0 :: rnd) else []) = S1 at *
  generalize (if dealE rows owners 0 rnd = 0 then dealC (0 :: rnd) else []) = S2 at *
  generalize dealE rows owners 0 rnd = e1 at *
  have HSS : Hid (sameS S1 S1 = true) := Lib.hid (decide_eq_true rfl)
  have HSQ : Hid (sameQ S2 S2 = true) := Lib.hid (decide_eq_true rfl)
  have dee : (e1 == e1) = true := beq_self_eq_true _
  clear HN
  by_cases he : renE rows owners ep cs l css more = 0
  · have HE := Lib.hid he
    clear he
    obtain ⟨X, hX⟩ : ∃ X, X = renC cs css := ⟨_, rfl⟩
    have HXX := Lib.hid hX
    obtain ⟨Y, hY'⟩ : ∃ Y, Y = renL l more := ⟨_, rfl⟩
    have HYY := Lib.hid hY'
    clear hX hY'
    go_wp2_with fail
    with_reducible refine (renew_any ep _ _ _ _ _ _ rows owners cs l css more _ HR.out HO.out HC.out HL.out HCC.out HMM.out).mono ?_
    rintro e w6 ⟨kv, yv, rfl, hY, -, hb6⟩
    obtain ⟨kc, rfl, hkc, hys⟩ := hY HE.out
    rw [← HXX.out] at hkc
    rw [← HYY.out] at hys
    obtain ⟨ka, kk, rfl, -⟩ := id hkc
    have HK1 := Lib.hid hkc
    have HY1 := Lib.hid hys
    clear hkc hys hY
    replace c0 := below_cell hb6 c0
    replace c1 := below_cell hb6 c1
    replace c2 := below_cell hb6 c2
    replace c3 := below_cell hb6 c3
    replace HR := Lib.hid (HR.out.below hb6)
    replace HO := Lib.hid (HO.out.below hb6)
    replace HC := Lib.hid (HC.out.below hb6)
    replace HL := Lib.hid (HL.out.below hb6)
    replace HCC := Lib.hid (HCC.out.below hb6)
    replace HMM := Lib.hid (HMM.out.below hb6)
    replace HL1 := Lib.hid (HL1.out.below hb6)
    replace HC1 := Lib.hid (HC1.out.below hb6)
    replace HL2 := Lib.hid (HL2.out.below hb6)
    replace HC2 := Lib.hid (HC2.out.below hb6)
    replace Q1 := Lib.hid ((hb6.block _ (row_lt Q1.out)).trans Q1.out)
    replace HB := Lib.hid (HB.out.trans (hb6.mono HB.out.size))
    clear hb6
    rw [HE.out]
    obtain ⟨W7, hW7, hb7, hq7, -⟩ := box_key w6 (.int .i64 (ep + 1)) (.slice a1 rows.length k1) (.slice a2 owners.length k2) (.slice ka X.length kk) 27
    have HW7 := Lib.hid hW7
    have Q7 := Lib.hid hq7
    have x0 := below_cell hb7 c0
    have x1 := below_cell hb7 c1
    have x2 := below_cell hb7 c2
    have x3 := below_cell hb7 c3
    clear hW7 hq7
    replace c0 := below_cell hb7 c0
    replace c1 := below_cell hb7 c1
    replace c2 := below_cell hb7 c2
    replace c3 := below_cell hb7 c3
    replace HR := Lib.hid (HR.out.below hb7)
    replace HO := Lib.hid (HO.out.below hb7)
    replace HC := Lib.hid (HC.out.below hb7)
    replace HL := Lib.hid (HL.out.below hb7)
    replace HCC := Lib.hid (HCC.out.below hb7)
    replace HMM := Lib.hid (HMM.out.below hb7)
    replace HL1 := Lib.hid (HL1.out.below hb7)
    replace HC1 := Lib.hid (HC1.out.below hb7)
    replace HL2 := Lib.hid (HL2.out.below hb7)
    replace HC2 := Lib.hid (HC2.out.below hb7)
    replace HK1 := Lib.hid (HK1.out.below hb7)
    replace HY1 := Lib.hid (HY1.out.below hb7)
    replace Q1 := Lib.hid ((hb7.block _ (row_lt Q1.out)).trans Q1.out)
    replace HB := Lib.hid (HB.out.trans (hb7.mono HB.out.size))
    clear hb7
    go_wp2_with (rw [← HW7.out])
    clear x0 x1 x2 x3
    with_reducible refine (rRenew_any ep _ _ _ _ _ _ rows owners cs l css more _ HR.out HO.out HC.out HL.out HCC.out HMM.out HEP.out).mono ?_
    rintro e w8 ⟨kv, yv2, rfl, hY, -, hb8⟩
    obtain ⟨kc2, rfl, hkc, hys⟩ := hY HE.out
    rw [← HXX.out] at hkc
    rw [← HYY.out] at hys
    obtain ⟨kb, kl, rfl, -⟩ := id hkc
    have HK2 := Lib.hid hkc
    have HY2 := Lib.hid hys
    clear hkc hys hY
    replace c0 := below_cell hb8 c0
    replace c1 := below_cell hb8 c1
    replace c2 := below_cell hb8 c2
    replace c3 := below_cell hb8 c3
    replace HR := Lib.hid (HR.out.below hb8)
    replace HO := Lib.hid (HO.out.below hb8)
    replace HC := Lib.hid (HC.out.below hb8)
    replace HL := Lib.hid (HL.out.below hb8)
    replace HCC := Lib.hid (HCC.out.below hb8)
    replace HMM := Lib.hid (HMM.out.below hb8)
    replace HL1 := Lib.hid (HL1.out.below hb8)
    replace HC1 := Lib.hid (HC1.out.below hb8)
    replace HL2 := Lib.hid (HL2.out.below hb8)
    replace HC2 := Lib.hid (HC2.out.below hb8)
    replace HK1 := Lib.hid (HK1.out.below hb8)
    replace HY1 := Lib.hid (HY1.out.below hb8)
    replace Q1 := Lib.hid ((hb8.block _ (row_lt Q1.out)).trans Q1.out)
    replace Q7 := Lib.hid ((hb8.block _ (row_lt Q7.out)).trans Q7.out)
    replace HB := Lib.hid (HB.out.trans (hb8.mono HB.out.size))
    clear hb8
    rw [HE.out]
    obtain ⟨W9, hW9, hb9, hq9, -⟩ := box_key w8 (.int .i64 (ep + 1)) (.slice a1 rows.length k1) (.slice a2 owners.length k2) (.slice kb X.length kl) 27
    have HW9 := Lib.hid hW9
    have Q9 := Lib.hid hq9
    clear hW9 hq9
    replace c0 := below_cell hb9 c0
    replace c1 := below_cell hb9 c1
    replace c2 := below_cell hb9 c2
    replace c3 := below_cell hb9 c3
    replace HR := Lib.hid (HR.out.below hb9)
    replace HO := Lib.hid (HO.out.below hb9)
    replace HC := Lib.hid (HC.out.below hb9)
    replace HL := Lib.hid (HL.out.below hb9)
    replace HCC := Lib.hid (HCC.out.below hb9)
    replace HMM := Lib.hid (HMM.out.below hb9)
    replace HL1 := Lib.hid (HL1.out.below hb9)
    replace HC1 := Lib.hid (HC1.out.below hb9)
    replace HL2 := Lib.hid (HL2.out.below hb9)
    replace HC2 := Lib.hid (HC2.out.below hb9)
    replace HK1 := Lib.hid (HK1.out.below hb9)
    replace HY1 := Lib.hid (HY1.out.below hb9)
    replace HK2 := Lib.hid (HK2.out.below hb9)
    replace HY2 := Lib.hid (HY2.out.below hb9)
    replace Q1 := Lib.hid ((hb9.block _ (row_lt Q1.out)).trans Q1.out)
    replace Q7 := Lib.hid ((hb9.block _ (row_lt Q7.out)).trans Q7.out)
    replace HB := Lib.hid (HB.out.trans (hb9.mono HB.out.size))
    clear hb9
    go_wp2_with (rw [← HW9.out])
    with_reducible refine (rsame_any _ _ S1 S1 _ HL1.out HL2.out).mono ?_
    rintro e w10 ⟨rfl, hb10⟩
    replace c0 := below_cell hb10 c0
    replace c1 := below_cell hb10 c1
    replace c2 := below_cell hb10 c2
    replace c3 := below_cell hb10 c3
    replace HR := Lib.hid (HR.out.below hb10)
    replace HO := Lib.hid (HO.out.below hb10)
    replace HC := Lib.hid (HC.out.below hb10)
    replace HL := Lib.hid (HL.out.below hb10)
    replace HCC := Lib.hid (HCC.out.below hb10)
    replace HMM := Lib.hid (HMM.out.below hb10)
    replace HL1 := Lib.hid (HL1.out.below hb10)
    replace HC1 := Lib.hid (HC1.out.below hb10)
    replace HL2 := Lib.hid (HL2.out.below hb10)
    replace HC2 := Lib.hid (HC2.out.below hb10)
    replace HK1 := Lib.hid (HK1.out.below hb10)
    replace HY1 := Lib.hid (HY1.out.below hb10)
    replace HK2 := Lib.hid (HK2.out.below hb10)
    replace HY2 := Lib.hid (HY2.out.below hb10)
    replace Q1 := Lib.hid ((hb10.block _ (row_lt Q1.out)).trans Q1.out)
    replace Q7 := Lib.hid ((hb10.block _ (row_lt Q7.out)).trans Q7.out)
    replace Q9 := Lib.hid ((hb10.block _ (row_lt Q9.out)).trans Q9.out)
    replace HB := Lib.hid (HB.out.trans (hb10.mono HB.out.size))
    clear hb10
    rw [HSS.out]
    go_wp2_with fail
    with_reducible refine (rSameInts34_any _ _ S2 S2 _ HC1.out HC2.out).mono ?_
    rintro e w11 ⟨rfl, hb11⟩
    replace c0 := below_cell hb11 c0
    replace c1 := below_cell hb11 c1
    replace c2 := below_cell hb11 c2
    replace c3 := below_cell hb11 c3
    replace HR := Lib.hid (HR.out.below hb11)
    replace HO := Lib.hid (HO.out.below hb11)
    replace HC := Lib.hid (HC.out.below hb11)
    replace HL := Lib.hid (HL.out.below hb11)
    replace HCC := Lib.hid (HCC.out.below hb11)
    replace HMM := Lib.hid (HMM.out.below hb11)
    replace HL1 := Lib.hid (HL1.out.below hb11)
    replace HC1 := Lib.hid (HC1.out.below hb11)
    replace HL2 := Lib.hid (HL2.out.below hb11)
    replace HC2 := Lib.hid (HC2.out.below hb11)
    replace HK1 := Lib.hid (HK1.out.below hb11)
    replace HY1 := Lib.hid (HY1.out.below hb11)
    replace HK2 := Lib.hid (HK2.out.below hb11)
    replace HY2 := Lib.hid (HY2.out.below hb11)
    replace Q1 := Lib.hid ((hb11.block _ (row_lt Q1.out)).trans Q1.out)
    replace Q7 := Lib.hid ((hb11.block _ (row_lt Q7.out)).trans Q7.out)
    replace Q9 := Lib.hid ((hb11.block _ (row_lt Q9.out)).trans Q9.out)
    replace HB := Lib.hid (HB.out.trans (hb11.mono HB.out.size))
    clear hb11
    rw [HSQ.out]
    have u0 := row_cell Q7.out (k := 0) (v := .int .i64 (ep + 1)) rfl
    have u1 := row_cell Q7.out (k := 1) (v := .slice a1 rows.length k1) rfl
    have u2 := row_cell Q7.out (k := 2) (v := .slice a2 owners.length k2) rfl
    have u3 := row_cell Q7.out (k := 3) (v := .slice ka X.length kk) rfl
    have v0 := row_cell Q9.out (k := 0) (v := .int .i64 (ep + 1)) rfl
    have v1 := row_cell Q9.out (k := 1) (v := .slice a1 rows.length k1) rfl
    have v2 := row_cell Q9.out (k := 2) (v := .slice a2 owners.length k2) rfl
    have v3 := row_cell Q9.out (k := 3) (v := .slice kb X.length kl) rfl
    have HSK : Hid (sameKey (ep + 1) (ep + 1) rows rows owners owners X X = true) := Lib.hid (by simp [sameKey, sameP, sameQ])
    have HSY : Hid (sameS Y Y = true) := Lib.hid (decide_eq_true rfl)
    go_wp2_with fail
    clear u0 u1 u2 u3 v0 v1 v2 v3
    with_reducible refine (rSameKey_any (ep + 1) (ep + 1) _ _ _ _ _ _ rows rows owners owners X X _ HR.out HO.out HK1.out HR.out HO.out HK2.out).mono ?_
    rintro e w12 ⟨rfl, hb12⟩
    replace c0 := below_cell hb12 c0
    replace c1 := below_cell hb12 c1
    replace c2 := below_cell hb12 c2
    replace c3 := below_cell hb12 c3
    replace HR := Lib.hid (HR.out.below hb12)
    replace HO := Lib.hid (HO.out.below hb12)
    replace HC := Lib.hid (HC.out.below hb12)
    replace HL := Lib.hid (HL.out.below hb12)
    replace HCC := Lib.hid (HCC.out.below hb12)
    replace HMM := Lib.hid (HMM.out.below hb12)
    replace HL1 := Lib.hid (HL1.out.below hb12)
    replace HC1 := Lib.hid (HC1.out.below hb12)
    replace HL2 := Lib.hid (HL2.out.below hb12)
    replace HC2 := Lib.hid (HC2.out.below hb12)
    replace HK1 := Lib.hid (HK1.out.below hb12)
    replace HY1 := Lib.hid (HY1.out.below hb12)
    replace HK2 := Lib.hid (HK2.out.below hb12)
    replace HY2 := Lib.hid (HY2.out.below hb12)
    replace Q1 := Lib.hid ((hb12.block _ (row_lt Q1.out)).trans Q1.out)
    replace Q7 := Lib.hid ((hb12.block _ (row_lt Q7.out)).trans Q7.out)
    replace Q9 := Lib.hid ((hb12.block _ (row_lt Q9.out)).trans Q9.out)
    replace HB := Lib.hid (HB.out.trans (hb12.mono HB.out.size))
    clear hb12
    rw [HSK.out]
    go_wp2_with fail
    with_reducible refine (rsame_any _ _ Y Y _ HY1.out HY2.out).mono ?_
    rintro e w13 ⟨rfl, hb13⟩
    replace c0 := below_cell hb13 c0
    replace c1 := below_cell hb13 c1
    replace c2 := below_cell hb13 c2
    replace c3 := below_cell hb13 c3
    replace HR := Lib.hid (HR.out.below hb13)
    replace HO := Lib.hid (HO.out.below hb13)
    replace HC := Lib.hid (HC.out.below hb13)
    replace HL := Lib.hid (HL.out.below hb13)
    replace HCC := Lib.hid (HCC.out.below hb13)
    replace HMM := Lib.hid (HMM.out.below hb13)
    replace HL1 := Lib.hid (HL1.out.below hb13)
    replace HC1 := Lib.hid (HC1.out.below hb13)
    replace HL2 := Lib.hid (HL2.out.below hb13)
    replace HC2 := Lib.hid (HC2.out.below hb13)
    replace HK1 := Lib.hid (HK1.out.below hb13)
    replace HY1 := Lib.hid (HY1.out.below hb13)
    replace HK2 := Lib.hid (HK2.out.below hb13)
    replace HY2 := Lib.hid (HY2.out.below hb13)
    replace Q1 := Lib.hid ((hb13.block _ (row_lt Q1.out)).trans Q1.out)
    replace Q7 := Lib.hid ((hb13.block _ (row_lt Q7.out)).trans Q7.out)
    replace Q9 := Lib.hid ((hb13.block _ (row_lt Q9.out)).trans Q9.out)
    replace HB := Lib.hid (HB.out.trans (hb13.mono HB.out.size))
    clear hb13
    rw [HSY.out]
    go_wp2_with fail
    go_ret
    exact ⟨rfl, HB.out⟩
  · have HE := Lib.hid he
    clear he
    obtain ⟨er, her⟩ : ∃ er, er = renE rows owners ep cs l css more := ⟨_, rfl⟩
    have HER := Lib.hid her
    have drr : (er == er) = true := beq_self_eq_true _
    go_wp2_with fail
    with_reducible refine (renew_any ep _ _ _ _ _ _ rows owners cs l css more _ HR.out HO.out HC.out HL.out HCC.out HMM.out).mono ?_
    rintro e w6 ⟨kv, yv, rfl, -, hY, hb6⟩
    obtain ⟨rfl, rfl⟩ := hY HE.out
    clear hY
    replace c0 := below_cell hb6 c0
    replace c1 := below_cell hb6 c1
    replace c2 := below_cell hb6 c2
    replace c3 := below_cell hb6 c3
    replace HR := Lib.hid (HR.out.below hb6)
    replace HO := Lib.hid (HO.out.below hb6)
    replace HC := Lib.hid (HC.out.below hb6)
    replace HL := Lib.hid (HL.out.below hb6)
    replace HCC := Lib.hid (HCC.out.below hb6)
    replace HMM := Lib.hid (HMM.out.below hb6)
    replace HL1 := Lib.hid (HL1.out.below hb6)
    replace HC1 := Lib.hid (HC1.out.below hb6)
    replace HL2 := Lib.hid (HL2.out.below hb6)
    replace HC2 := Lib.hid (HC2.out.below hb6)
    replace Q1 := Lib.hid ((hb6.block _ (row_lt Q1.out)).trans Q1.out)
    replace HB := Lib.hid (HB.out.trans (hb6.mono HB.out.size))
    clear hb6
    rw [← HER.out]
    obtain ⟨W7, hW7, hb7, hq7, -⟩ := box_key w6 (.int .i64 0) (.slice none 0 0) (.slice none 0 0) (.slice none 0 0) 27
    have HW7 := Lib.hid hW7
    have Q7 := Lib.hid hq7
    have x0 := below_cell hb7 c0
    have x1 := below_cell hb7 c1
    have x2 := below_cell hb7 c2
    have x3 := below_cell hb7 c3
    have z0 := row_cell hq7 (k := 0) (v := .int .i64 0) rfl
    have z1 := row_cell hq7 (k := 1) (v := .slice none 0 0) rfl
    have z2 := row_cell hq7 (k := 2) (v := .slice none 0 0) rfl
    have z3 := row_cell hq7 (k := 3) (v := .slice none 0 0) rfl
    have g0 := row_free hq7 0
    have g1 := row_free hq7 1
    have g2 := row_free hq7 2
    have g3 := row_free hq7 3
    clear hW7 hq7
    replace c0 := below_cell hb7 c0
    replace c1 := below_cell hb7 c1
    replace c2 := below_cell hb7 c2
    replace c3 := below_cell hb7 c3
    replace HR := Lib.hid (HR.out.below hb7)
    replace HO := Lib.hid (HO.out.below hb7)
    replace HC := Lib.hid (HC.out.below hb7)
    replace HL := Lib.hid (HL.out.below hb7)
    replace HCC := Lib.hid (HCC.out.below hb7)
    replace HMM := Lib.hid (HMM.out.below hb7)
    replace HL1 := Lib.hid (HL1.out.below hb7)
    replace HC1 := Lib.hid (HC1.out.below hb7)
    replace HL2 := Lib.hid (HL2.out.below hb7)
    replace HC2 := Lib.hid (HC2.out.below hb7)
    replace Q1 := Lib.hid ((hb7.block _ (row_lt Q1.out)).trans Q1.out)
    replace HB := Lib.hid (HB.out.trans (hb7.mono HB.out.size))
    clear hb7
    go_wp2_with (first | rw [← HW7.out] | rw [set_same z0, set_same z1, set_same z2, set_same z3])
    clear x0 x1 x2 x3 z0 z1 z2 z3 g0 g1 g2 g3
    with_reducible refine (rRenew_any ep _ _ _ _ _ _ rows owners cs l css more _ HR.out HO.out HC.out HL.out HCC.out HMM.out HEP.out).mono ?_
    rintro e w8 ⟨kv, yv2, rfl, -, hY, hb8⟩
    obtain ⟨rfl, rfl⟩ := hY HE.out
    clear hY
    replace c0 := below_cell hb8 c0
    replace c1 := below_cell hb8 c1
    replace c2 := below_cell hb8 c2
    replace c3 := below_cell hb8 c3
    replace HR := Lib.hid (HR.out.below hb8)
    replace HO := Lib.hid (HO.out.below hb8)
    replace HC := Lib.hid (HC.out.below hb8)
    replace HL := Lib.hid (HL.out.below hb8)
    replace HCC := Lib.hid (HCC.out.below hb8)
    replace HMM := Lib.hid (HMM.out.below hb8)
    replace HL1 := Lib.hid (HL1.out.below hb8)
    replace HC1 := Lib.hid (HC1.out.below hb8)
    replace HL2 := Lib.hid (HL2.out.below hb8)
    replace HC2 := Lib.hid (HC2.out.below hb8)
    replace Q1 := Lib.hid ((hb8.block _ (row_lt Q1.out)).trans Q1.out)
    replace Q7 := Lib.hid ((hb8.block _ (row_lt Q7.out)).trans Q7.out)
    replace HB := Lib.hid (HB.out.trans (hb8.mono HB.out.size))
    clear hb8
    rw [← HER.out]
    obtain ⟨W9, hW9, hb9, hq9, -⟩ := box_key w8 (.int .i64 0) (.slice none 0 0) (.slice none 0 0) (.slice none 0 0) 27
    have HW9 := Lib.hid hW9
    have Q9 := Lib.hid hq9
    have z0 := row_cell hq9 (k := 0) (v := .int .i64 0) rfl
    have z1 := row_cell hq9 (k := 1) (v := .slice none 0 0) rfl
    have z2 := row_cell hq9 (k := 2) (v := .slice none 0 0) rfl
    have z3 := row_cell hq9 (k := 3) (v := .slice none 0 0) rfl
    have g0 := row_free hq9 0
    have g1 := row_free hq9 1
    have g2 := row_free hq9 2
    have g3 := row_free hq9 3
    clear hW9 hq9
    replace c0 := below_cell hb9 c0
    replace c1 := below_cell hb9 c1
    replace c2 := below_cell hb9 c2
    replace c3 := below_cell hb9 c3
    replace HR := Lib.hid (HR.out.below hb9)
    replace HO := Lib.hid (HO.out.below hb9)
    replace HC := Lib.hid (HC.out.below hb9)
    replace HL := Lib.hid (HL.out.below hb9)
    replace HCC := Lib.hid (HCC.out.below hb9)
    replace HMM := Lib.hid (HMM.out.below hb9)
    replace HL1 := Lib.hid (HL1.out.below hb9)
    replace HC1 := Lib.hid (HC1.out.below hb9)
    replace HL2 := Lib.hid (HL2.out.below hb9)
    replace HC2 := Lib.hid (HC2.out.below hb9)
    replace Q1 := Lib.hid ((hb9.block _ (row_lt Q1.out)).trans Q1.out)
    replace Q7 := Lib.hid ((hb9.block _ (row_lt Q7.out)).trans Q7.out)
    replace HB := Lib.hid (HB.out.trans (hb9.mono HB.out.size))
    clear hb9
    go_wp2_with (first | rw [← HW9.out] | rw [set_same z0, set_same z1, set_same z2, set_same z3])
    clear z0 z1 z2 z3 g0 g1 g2 g3
    with_reducible refine (rsame_any _ _ S1 S1 _ HL1.out HL2.out).mono ?_
    rintro e w10 ⟨rfl, hb10⟩
    replace c0 := below_cell hb10 c0
    replace c1 := below_cell hb10 c1
    replace c2 := below_cell hb10 c2
    replace c3 := below_cell hb10 c3
    replace HR := Lib.hid (HR.out.below hb10)
    replace HO := Lib.hid (HO.out.below hb10)
    replace HC := Lib.hid (HC.out.below hb10)
    replace HL := Lib.hid (HL.out.below hb10)
    replace HCC := Lib.hid (HCC.out.below hb10)
    replace HMM := Lib.hid (HMM.out.below hb10)
    replace HL1 := Lib.hid (HL1.out.below hb10)
    replace HC1 := Lib.hid (HC1.out.below hb10)
    replace HL2 := Lib.hid (HL2.out.below hb10)
    replace HC2 := Lib.hid (HC2.out.below hb10)
    replace Q1 := Lib.hid ((hb10.block _ (row_lt Q1.out)).trans Q1.out)
    replace Q7 := Lib.hid ((hb10.block _ (row_lt Q7.out)).trans Q7.out)
    replace Q9 := Lib.hid ((hb10.block _ (row_lt Q9.out)).trans Q9.out)
    replace HB := Lib.hid (HB.out.trans (hb10.mono HB.out.size))
    clear hb10
    rw [HSS.out]
    go_wp2_with fail
    with_reducible refine (rSameInts34_any _ _ S2 S2 _ HC1.out HC2.out).mono ?_
    rintro e w11 ⟨rfl, hb11⟩
    replace c0 := below_cell hb11 c0
    replace c1 := below_cell hb11 c1
    replace c2 := below_cell hb11 c2
    replace c3 := below_cell hb11 c3
    replace HR := Lib.hid (HR.out.below hb11)
    replace HO := Lib.hid (HO.out.below hb11)
    replace HC := Lib.hid (HC.out.below hb11)
    replace HL := Lib.hid (HL.out.below hb11)
    replace HCC := Lib.hid (HCC.out.below hb11)
    replace HMM := Lib.hid (HMM.out.below hb11)
    replace HL1 := Lib.hid (HL1.out.below hb11)
    replace HC1 := Lib.hid (HC1.out.below hb11)
    replace HL2 := Lib.hid (HL2.out.below hb11)
    replace HC2 := Lib.hid (HC2.out.below hb11)
    replace Q1 := Lib.hid ((hb11.block _ (row_lt Q1.out)).trans Q1.out)
    replace Q7 := Lib.hid ((hb11.block _ (row_lt Q7.out)).trans Q7.out)
    replace Q9 := Lib.hid ((hb11.block _ (row_lt Q9.out)).trans Q9.out)
    replace HB := Lib.hid (HB.out.trans (hb11.mono HB.out.size))
    clear hb11
    rw [HSQ.out]
    have u0 := row_cell Q7.out (k := 0) (v := .int .i64 0) rfl
    have u1 := row_cell Q7.out (k := 1) (v := .slice none 0 0) rfl
    have u2 := row_cell Q7.out (k := 2) (v := .slice none 0 0) rfl
    have u3 := row_cell Q7.out (k := 3) (v := .slice none 0 0) rfl
    have v0 := row_cell Q9.out (k := 0) (v := .int .i64 0) rfl
    have v1 := row_cell Q9.out (k := 1) (v := .slice none 0 0) rfl
    have v2 := row_cell Q9.out (k := 2) (v := .slice none 0 0) rfl
    have v3 := row_cell Q9.out (k := 3) (v := .slice none 0 0) rfl
    have HSK : Hid (sameKey 0 0 [] [] [] [] [] [] = true) := Lib.hid (by simp [sameKey, sameP, sameQ])
    have HSY : Hid (sameS [] [] = true) := Lib.hid (decide_eq_true rfl)
    have HKK := Lib.hid (fun W => rSameKey_any 0 0 (.slice none 0 0) (.slice none 0 0) (.slice none 0 0) (.slice none 0 0) (.slice none 0 0) (.slice none 0 0) [] [] [] [] [] [] W (Rows2.nil W none 0) (Ints.nil W none 0) (Ints.nil W none 0) (Rows2.nil W none 0) (Ints.nil W none 0) (Ints.nil W none 0))
    have HSN := Lib.hid (fun W => rsame_any (.slice none 0 0) (.slice none 0 0) [] [] W (Shares.nil W none 0) (Shares.nil W none 0))
    go_wp2_with fail
    clear u0 u1 u2 u3 v0 v1 v2 v3
    with_reducible refine (HKK.out _).mono ?_
    rintro e w12 ⟨rfl, hb12⟩
    replace c0 := below_cell hb12 c0
    replace c1 := below_cell hb12 c1
    replace c2 := below_cell hb12 c2
    replace c3 := below_cell hb12 c3
    replace HR := Lib.hid (HR.out.below hb12)
    replace HO := Lib.hid (HO.out.below hb12)
    replace HC := Lib.hid (HC.out.below hb12)
    replace HL := Lib.hid (HL.out.below hb12)
    replace HCC := Lib.hid (HCC.out.below hb12)
    replace HMM := Lib.hid (HMM.out.below hb12)
    replace HL1 := Lib.hid (HL1.out.below hb12)
    replace HC1 := Lib.hid (HC1.out.below hb12)
    replace HL2 := Lib.hid (HL2.out.below hb12)
    replace HC2 := Lib.hid (HC2.out.below hb12)
    replace Q1 := Lib.hid ((hb12.block _ (row_lt Q1.out)).trans Q1.out)
    replace Q7 := Lib.hid ((hb12.block _ (row_lt Q7.out)).trans Q7.out)
    replace Q9 := Lib.hid ((hb12.block _ (row_lt Q9.out)).trans Q9.out)
    replace HB := Lib.hid (HB.out.trans (hb12.mono HB.out.size))
    clear hb12
    rw [HSK.out]
    go_wp2_with fail
    with_reducible refine (HSN.out _).mono ?_
    rintro e w13 ⟨rfl, hb13⟩
    replace c0 := below_cell hb13 c0
    replace c1 := below_cell hb13 c1
    replace c2 := below_cell hb13 c2
    replace c3 := below_cell hb13 c3
    replace HR := Lib.hid (HR.out.below hb13)
    replace HO := Lib.hid (HO.out.below hb13)
    replace HC := Lib.hid (HC.out.below hb13)
    replace HL := Lib.hid (HL.out.below hb13)
    replace HCC := Lib.hid (HCC.out.below hb13)
    replace HMM := Lib.hid (HMM.out.below hb13)
    replace HL1 := Lib.hid (HL1.out.below hb13)
    replace HC1 := Lib.hid (HC1.out.below hb13)
    replace HL2 := Lib.hid (HL2.out.below hb13)
    replace HC2 := Lib.hid (HC2.out.below hb13)
    replace Q1 := Lib.hid ((hb13.block _ (row_lt Q1.out)).trans Q1.out)
    replace Q7 := Lib.hid ((hb13.block _ (row_lt Q7.out)).trans Q7.out)
    replace Q9 := Lib.hid ((hb13.block _ (row_lt Q9.out)).trans Q9.out)
    replace HB := Lib.hid (HB.out.trans (hb13.mono HB.out.size))
    clear hb13
    rw [HSY.out]
    go_wp2_with fail
    go_ret
    exact ⟨rfl, HB.out⟩

end Go.Proofs.YtnbkbnbmmkfckaaGreat
