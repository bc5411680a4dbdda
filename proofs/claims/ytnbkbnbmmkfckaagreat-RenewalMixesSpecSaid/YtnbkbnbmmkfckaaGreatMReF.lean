/- Package renewal: Renew. -/
import Derived.Test.YtnbkbnbmmkfckaaGreatMSuC
namespace Go.Proofs.YtnbkbnbmmkfckaaGreat
open Go.RowKit FP

theorem renE_key {rows : List (List Int)} {owners : List Int} {ep : Int} {cs : List Int} {l : List (Int × Int)} {css : List (List Int)} {more : List (List (Int × Int))} (h : progE rows owners = 0) : renE rows owners ep cs l css more = if keyB rows ep cs = false then 380 else if ep = 64 ∨ 64 < css.length then 2 else if fitL rows cs l = false then 340 else if more.length ≠ css.length then 1 else if zerosB rows l css more css.length = true then 0 else 380 := by
  unfold renE; rw [if_neg (by simp [h])]
theorem comB_dchk {rows : List (List Int)} {owners cs : List Int} (hp : progE rows owners = 0) (h : comB rows cs = true) : dchkE rows owners cs = 0 := by rw [comB_E hp, if_pos h]
theorem keyB_ok {rows : List (List Int)} {ep : Int} {cs : List Int} (h : keyB rows ep cs = true) : 0 ≤ ep ∧ ep ≤ 64 ∧ comB rows cs = true := by
  unfold keyB at h; simpa only [Bool.and_eq_true, decide_eq_true_eq] using h

set_option maxRecDepth 100000 in
set_option maxHeartbeats 16000000 in
theorem renew_any (ep : Int) (rv ov cv lv ccv mcv : Value) (rows : List (List Int)) (owners cs : List Int) (l : List (Int × Int)) (css : List (List Int)) (more : List (List (Int × Int))) (w : World) (hR : Rows2 w rv rows) (hO : Ints w ov owners) (hC : Ints w cv cs) (hL : Shares w lv l) (hCC : Rows2 w ccv css) (hMM : SRows w mcv more) :
    Calls Tryz.prog 9 #[.agg #[.int .i64 ep, rv, ov, cv], lv, ccv, mcv] w (RenPost rows owners ep cs l css more rv ov w) := by
  obtain ⟨W0, hW0, hb0, hr0, hs0⟩ := box_key w (.int .i64 ep) rv ov cv 27
  obtain ⟨W1, hW1, hb1, hr1, hs1⟩ := box_key W0 (.int .i64 0) (.slice none 0 0) (.slice none 0 0) (.slice none 0 0) 27
  have hb : Below w.heap.size w W1 := hb0.trans (hb1.mono hb0.size)
  have HR := Lib.hid (hR.below hb)
  have HO := Lib.hid (hO.below hb)
  have HC := Lib.hid (hC.below hb)
  have HL := Lib.hid (hL.below hb)
  have HCC := Lib.hid (hCC.below hb)
  have HMM := Lib.hid (hMM.below hb)
  have HC0 := Lib.hid hC
  have HL0 := Lib.hid hL
  have HCC0 := Lib.hid hCC
  have HMM0 := Lib.hid hMM
  obtain ⟨a1, k1, rfl, -, hl1, -⟩ := id hR
  obtain ⟨a2, k2, rfl, -, hl2, -⟩ := id hO
  obtain ⟨a3, k3, rfl, -, hl3, -⟩ := id hC
  obtain ⟨a4, k4, rfl, -, hl4, hlr, -⟩ := id hL
  obtain ⟨a5, k5, rfl, -, hl5, -⟩ := id hCC
  obtain ⟨a6, k6, rfl, -, hl6, -⟩ := id hMM
  have HLR := Lib.hid hlr
  have Q1 := Lib.hid ((hb1.block _ (row_lt hr0)).trans hr0)
  rw [hs0] at hr1
  have Q2 := Lib.hid hr1
  rw [hW0] at hW1
  have HW1 := Lib.hid hW1
  have HB := Lib.hid hb
  clear hR hO hC hL hCC hMM hb hb0 hb1 hr0 hr1 hW0 hW1 hs0 hs1 hlr
  have HPC := Lib.hid (pCheck_any _ _ rows owners _ HR.out HO.out)
  have c1 := row_cell Q1.out (k := 1) rfl
  have c2 := row_cell Q1.out (k := 2) rfl
  go_enter Tryz.func9, Tryz.ntmps9
  go_wp2_with (rw [← HW1.out])
  clear c1 c2
  refine (HPC.out).mono ?_
  rintro e w2 ⟨rfl, hb2⟩
  replace HR := Lib.hid (HR.out.below hb2)
  replace HO := Lib.hid (HO.out.below hb2)
  replace HC := Lib.hid (HC.out.below hb2)
  replace HL := Lib.hid (HL.out.below hb2)
  replace HCC := Lib.hid (HCC.out.below hb2)
  replace HMM := Lib.hid (HMM.out.below hb2)
  replace Q1 := Lib.hid ((hb2.block _ (row_lt Q1.out)).trans Q1.out)
  replace Q2 := Lib.hid ((hb2.block _ (row_lt Q2.out)).trans Q2.out)
  replace HB := Lib.hid (HB.out.trans (hb2.mono HB.out.size))
  clear hb2
  by_cases hp : progE rows owners = 0
  rotate_left
  · have HV : Hid (renE rows owners ep cs l css more = progE rows owners) := Lib.hid (by unfold renE; rw [if_pos hp])
    have HNZ := Lib.hid hp
    have d0 : (progE rows owners != 0) = true := bne_iff_ne.2 hp
    clear hp
    generalize progE rows owners = q at *
    have x0 := row_cell Q2.out (k := 0) rfl
    have x1 := row_cell Q2.out (k := 1) rfl
    have x2 := row_cell Q2.out (k := 2) rfl
    have x3 := row_cell Q2.out (k := 3) rfl
    have f0 := row_free Q2.out 0
    have f1 := row_free Q2.out 1
    have f2 := row_free Q2.out 2
    have f3 := row_free Q2.out 3
    go_wp2_with fail
    try simp only [Exit.inBlock, Exit.then]
    refine bodyPost_ret (v := .tuple #[.agg #[.int .i64 0, .slice none 0 0, .slice none 0 0, .slice none 0 0], .slice none 0 0, .int .i64 q]) ?_ rfl ?_
    · rw [results_cell_tmp2 rfl]
      go_simp
    · exact ren_off HV.out HNZ.out ((((HB.out.setCell (Nat.le_succ _) _).setCell (Nat.le_succ _) _).setCell (Nat.le_succ _) _).setCell (Nat.le_succ _) _)
  have HE := Lib.hid (renE_key (ep := ep) (cs := cs) (l := l) (css := css) (more := more) hp)
  have HP0 := Lib.hid hp
  rw [hp]
  clear hp HPC
  have c0 := row_cell Q1.out (k := 0) rfl
  have c1 := row_cell Q1.out (k := 1) rfl
  have c2 := row_cell Q1.out (k := 2) rfl
  have c3 := row_cell Q1.out (k := 3) rfl
  obtain ⟨W3, hW3, hb3, hr3, -⟩ := box_key w2 (.int .i64 ep) (.slice a1 rows.length k1) (.slice a2 owners.length k2) (.slice a3 cs.length k3) 51
  have Q3 := Lib.hid hr3
  have HW3 := Lib.hid hW3
  clear hW3 hr3
  replace HR := Lib.hid (HR.out.below hb3)
  replace HO := Lib.hid (HO.out.below hb3)
  replace HC := Lib.hid (HC.out.below hb3)
  replace HL := Lib.hid (HL.out.below hb3)
  replace HCC := Lib.hid (HCC.out.below hb3)
  replace HMM := Lib.hid (HMM.out.below hb3)
  replace Q1 := Lib.hid ((hb3.block _ (row_lt Q1.out)).trans Q1.out)
  replace Q2 := Lib.hid ((hb3.block _ (row_lt Q2.out)).trans Q2.out)
  replace HB := Lib.hid (HB.out.trans (hb3.mono HB.out.size))
  clear hb3
  have s0 := row_cell Q3.out (k := 0) rfl
  have s1 := row_cell Q3.out (k := 1) rfl
  have s2 := row_cell Q3.out (k := 2) rfl
  have s3 := row_cell Q3.out (k := 3) rfl
  go_wp2_with (rw [← HW3.out])
  clear c0 c1 c2 c3 s0 s1 s2 s3
  refine (kright_any ep _ _ _ rows cs _ HR.out ⟨_, _, _, rfl⟩ HC.out).mono ?_
  rintro e w4 ⟨rfl, hb4⟩
  replace HR := Lib.hid (HR.out.below hb4)
  replace HO := Lib.hid (HO.out.below hb4)
  replace HC := Lib.hid (HC.out.below hb4)
  replace HL := Lib.hid (HL.out.below hb4)
  replace HCC := Lib.hid (HCC.out.below hb4)
  replace HMM := Lib.hid (HMM.out.below hb4)
  replace Q1 := Lib.hid ((hb4.block _ (row_lt Q1.out)).trans Q1.out)
  replace Q2 := Lib.hid ((hb4.block _ (row_lt Q2.out)).trans Q2.out)
  replace Q3 := Lib.hid ((hb4.block _ (row_lt Q3.out)).trans Q3.out)
  replace HB := Lib.hid (HB.out.trans (hb4.mono HB.out.size))
  clear hb4
  cases hkb : keyB rows ep cs with
  | false =>
    have HV : Hid (renE rows owners ep cs l css more = 380) := Lib.hid (by rw [HE.out, if_pos hkb])
    clear hkb
    have x0 := row_cell Q2.out (k := 0) rfl
    have x1 := row_cell Q2.out (k := 1) rfl
    have x2 := row_cell Q2.out (k := 2) rfl
    have x3 := row_cell Q2.out (k := 3) rfl
    have f0 := row_free Q2.out 0
    have f1 := row_free Q2.out 1
    have f2 := row_free Q2.out 2
    have f3 := row_free Q2.out 3
    go_wp2_with fail
    try simp only [Exit.inBlock, Exit.then]
    refine bodyPost_ret (v := .tuple #[.agg #[.int .i64 0, .slice none 0 0, .slice none 0 0, .slice none 0 0], .slice none 0 0, .int .i64 380]) ?_ rfl ?_
    · rw [results_cell_tmp2 rfl]
      go_simp
    · exact ren_off HV.out (by decide) ((((HB.out.setCell (Nat.le_succ _) _).setCell (Nat.le_succ _) _).setCell (Nat.le_succ _) _).setCell (Nat.le_succ _) _)
  | true =>
  obtain ⟨he0, he1, hcb⟩ := keyB_ok hkb
  replace HE := Lib.hid (HE.out.trans (if_neg (by rw [hkb]; decide)))
  have HCB := Lib.hid hcb
  clear hkb hcb
  have c0 := row_cell Q1.out (k := 0) rfl
  by_cases h64 : ep = 64
  · have d0 : (ep == 64) = true := beq_iff_eq.2 h64
    have HV : Hid (renE rows owners ep cs l css more = 2) := Lib.hid (HE.out.trans (if_pos (.inl h64)))
    clear h64
    have x0 := row_cell Q2.out (k := 0) rfl
    have x1 := row_cell Q2.out (k := 1) rfl
    have x2 := row_cell Q2.out (k := 2) rfl
    have x3 := row_cell Q2.out (k := 3) rfl
    have f0 := row_free Q2.out 0
    have f1 := row_free Q2.out 1
    have f2 := row_free Q2.out 2
    have f3 := row_free Q2.out 3
    go_wp2_with fail
    try simp only [Exit.inBlock, Exit.then]
    refine bodyPost_ret (v := .tuple #[.agg #[.int .i64 0, .slice none 0 0, .slice none 0 0, .slice none 0 0], .slice none 0 0, .int .i64 2]) ?_ rfl ?_
    · rw [results_cell_tmp2 rfl]
      go_simp
    · exact ren_off HV.out (by decide) ((((HB.out.setCell (Nat.le_succ _) _).setCell (Nat.le_succ _) _).setCell (Nat.le_succ _) _).setCell (Nat.le_succ _) _)
  have d0 : (ep == 64) = false := beq_eq_false_iff_ne.2 h64
  by_cases hcl : 64 < css.length
  · have d1 : decide (64 < (css.length : Int)) = true := decide_eq_true (by omega)
    have HV : Hid (renE rows owners ep cs l css more = 2) := Lib.hid (HE.out.trans (if_pos (.inr hcl)))
    clear h64 hcl
    have x0 := row_cell Q2.out (k := 0) rfl
    have x1 := row_cell Q2.out (k := 1) rfl
    have x2 := row_cell Q2.out (k := 2) rfl
    have x3 := row_cell Q2.out (k := 3) rfl
    have f0 := row_free Q2.out 0
    have f1 := row_free Q2.out 1
    have f2 := row_free Q2.out 2
    have f3 := row_free Q2.out 3
    go_wp2_with fail
    try simp only [Exit.inBlock, Exit.then]
    refine bodyPost_ret (v := .tuple #[.agg #[.int .i64 0, .slice none 0 0, .slice none 0 0, .slice none 0 0], .slice none 0 0, .int .i64 2]) ?_ rfl ?_
    · rw [results_cell_tmp2 rfl]
      go_simp
    · exact ren_off HV.out (by decide) ((((HB.out.setCell (Nat.le_succ _) _).setCell (Nat.le_succ _) _).setCell (Nat.le_succ _) _).setCell (Nat.le_succ _) _)
  have d1 : decide (64 < (css.length : Int)) = false := decide_eq_false (by omega)
  replace HE := Lib.hid (HE.out.trans (if_neg (by omega)))
  clear h64
  have HFT := Lib.hid (fun ww h1 h2 h3 h4 => kfit_any ep (.slice a1 rows.length k1) (.slice a2 owners.length k2) (.slice a3 cs.length k3) (.slice a3 cs.length k3) (.slice a4 l.length k4) rows owners cs l ww h1 h2 ⟨_, _, _, rfl⟩ h3 h4 (comB_dchk HP0.out HCB.out))
  have c3 := row_cell Q1.out (k := 3) rfl
  have s0 := row_cell Q3.out (k := 0) rfl
  have s1 := row_cell Q3.out (k := 1) rfl
  have s2 := row_cell Q3.out (k := 2) rfl
  have s3 := row_cell Q3.out (k := 3) rfl
  go_wp2_with fail
  clear c0 c3 s0 s1 s2 s3
  refine (HFT.out _ HR.out HO.out HC.out HL.out).mono ?_
  rintro e w5 ⟨rfl, hb5⟩
  replace HR := Lib.hid (HR.out.below hb5)
  replace HO := Lib.hid (HO.out.below hb5)
  replace HC := Lib.hid (HC.out.below hb5)
  replace HL := Lib.hid (HL.out.below hb5)
  replace HCC := Lib.hid (HCC.out.below hb5)
  replace HMM := Lib.hid (HMM.out.below hb5)
  replace Q1 := Lib.hid ((hb5.block _ (row_lt Q1.out)).trans Q1.out)
  replace Q2 := Lib.hid ((hb5.block _ (row_lt Q2.out)).trans Q2.out)
  replace Q3 := Lib.hid ((hb5.block _ (row_lt Q3.out)).trans Q3.out)
  replace HB := Lib.hid (HB.out.trans (hb5.mono HB.out.size))
  clear hb5
  cases hfl : fitL rows cs l with
  | false =>
    have HV : Hid (renE rows owners ep cs l css more = 340) := Lib.hid (HE.out.trans (if_pos hfl))
    clear hfl hcl
    have x0 := row_cell Q2.out (k := 0) rfl
    have x1 := row_cell Q2.out (k := 1) rfl
    have x2 := row_cell Q2.out (k := 2) rfl
    have x3 := row_cell Q2.out (k := 3) rfl
    have f0 := row_free Q2.out 0
    have f1 := row_free Q2.out 1
    have f2 := row_free Q2.out 2
    have f3 := row_free Q2.out 3
    go_wp2_with fail
    try simp only [Exit.inBlock, Exit.then]
    refine bodyPost_ret (v := .tuple #[.agg #[.int .i64 0, .slice none 0 0, .slice none 0 0, .slice none 0 0], .slice none 0 0, .int .i64 340]) ?_ rfl ?_
    · rw [results_cell_tmp2 rfl]
      go_simp
    · exact ren_off HV.out (by decide) ((((HB.out.setCell (Nat.le_succ _) _).setCell (Nat.le_succ _) _).setCell (Nat.le_succ _) _).setCell (Nat.le_succ _) _)
  | true =>
  replace HE := Lib.hid (HE.out.trans (if_neg (by rw [hfl]; decide)))
  have HLB := Lib.hid (sharesB_len (fitL_shares hfl))
  clear hfl HFT
  by_cases hml : more.length = css.length
  rotate_left
  · have d2 : ((more.length : Int) != (css.length : Int)) = true := bne_iff_ne.2 (by omega)
    have HV : Hid (renE rows owners ep cs l css more = 1) := Lib.hid (HE.out.trans (if_pos hml))
    clear hml hcl
    have x0 := row_cell Q2.out (k := 0) rfl
    have x1 := row_cell Q2.out (k := 1) rfl
    have x2 := row_cell Q2.out (k := 2) rfl
    have x3 := row_cell Q2.out (k := 3) rfl
    have f0 := row_free Q2.out 0
    have f1 := row_free Q2.out 1
    have f2 := row_free Q2.out 2
    have f3 := row_free Q2.out 3
    go_wp2_with fail
    try simp only [Exit.inBlock, Exit.then]
    refine bodyPost_ret (v := .tuple #[.agg #[.int .i64 0, .slice none 0 0, .slice none 0 0, .slice none 0 0], .slice none 0 0, .int .i64 1]) ?_ rfl ?_
    · rw [results_cell_tmp2 rfl]
      go_simp
    · exact ren_off HV.out (by decide) ((((HB.out.setCell (Nat.le_succ _) _).setCell (Nat.le_succ _) _).setCell (Nat.le_succ _) _).setCell (Nat.le_succ _) _)
  have d2 : ((more.length : Int) != (css.length : Int)) = false := by rw [hml]; exact bne_self_eq_false _
  replace HE := Lib.hid (HE.out.trans (if_neg (by simp [hml])))
  have HML := Lib.hid hml
  clear hml
  have hmf : ∀ (fn : Fn) (first cap : Array Value) (w : World), (Instr.makeFunc fn first cap).run Tryz.prog w = .ok (.func fn first cap) w := fun _ _ _ _ => rfl
  have HFEW := Lib.hid (progE_ok HP0.out).few
  have HCL := Lib.hid (progE_ok HP0.out).cols
  have HCU := Lib.hid (progE_ok HP0.out).cols_le
  go_wp2_with fail
  go_loopw [61] (fun i W => ∃ k : Nat, k ≤ css.length ∧ i = .int .i64 k ∧ Hid (zerosB rows l css more k = true) ∧ Below w5.heap.size w5 W) (fun i _ => css.length - (intOf i).toNat)
  case atStart => exact ⟨0, Nat.zero_le _, rfl, Lib.hid rfl, Below.refl _ _⟩
  case round =>
    obtain ⟨k, hkl, rfl, HZ, hb⟩ := hrel
    have HBW := Lib.hid hb
    by_cases hlt : k < css.length
    · have HBD := Lib.hid (fun h => zerosB_bad (rows := rows) (l := l) (css := css) (more := more) hlt h)
      have HSN := Lib.hid (zerosB_snoc rows l css more k)
      obtain ⟨b1, o1, n1, k9, r1, e1, q1, i1⟩ := HCC.out.get hlt
      simp only [Value.slice.injEq] at e1
      obtain ⟨rfl, -, -⟩ := e1
      obtain ⟨b2, o2, n2, k8, r2, e2, q2, i2⟩ := HMM.out.get (k := k) (by rw [HML.out]; exact hlt)
      simp only [Value.slice.injEq] at e2
      obtain ⟨rfl, -, -⟩ := e2
      have HZN : Hid (zeroN rows l css more k = zeroB rows l (css.getD k []) (more.getD k [])) := Lib.hid rfl
      generalize css.getD k [] = c at *
      generalize more.getD k [] = m at *
      obtain ⟨rc, kc, rfl, -⟩ := id i1
      obtain ⟨rm, km, rfl, -⟩ := id i2
      have HIC := Lib.hid i1
      have HIM := Lib.hid i2
      clear i1 i2
      replace q1 := below_cell hb q1
      replace q2 := below_cell hb q2
      replace HR := Lib.hid (HR.out.below hb)
      replace HO := Lib.hid (HO.out.below hb)
      replace HC := Lib.hid (HC.out.below hb)
      replace HL := Lib.hid (HL.out.below hb)
      replace HCC := Lib.hid (HCC.out.below hb)
      replace HMM := Lib.hid (HMM.out.below hb)
      replace HIC := Lib.hid (HIC.out.below hb)
      replace HIM := Lib.hid (HIM.out.below hb)
      replace Q1 := Lib.hid ((hb.block _ (row_lt Q1.out)).trans Q1.out)
      replace Q2 := Lib.hid ((hb.block _ (row_lt Q2.out)).trans Q2.out)
      replace Q3 := Lib.hid ((hb.block _ (row_lt Q3.out)).trans Q3.out)
      replace HB := Lib.hid (HB.out.trans (hb.mono HB.out.size))
      clear hb
      have j0 : (0 : Int) ≤ (k : Int) := by omega
      have j1 : (k : Int) < (css.length : Int) := by omega
      have j2 : (k : Int) < (more.length : Int) := by have := HML.out; omega
      have HKC := Lib.hid (fun ww h1 h2 => kcommits_any ep (.slice a1 rows.length k1) (.slice a2 owners.length k2) (.slice a3 cs.length k3) (.slice rc c.length kc) rows c ww h1 ⟨_, _, _, rfl⟩ ⟨_, _, _, rfl⟩ h2)
      go_wp2_with fail
      have hbd : Below wr.heap.size wr wr.drew := (Below.refl _ _).drew
      replace HR := Lib.hid (HR.out.below hbd)
      replace HO := Lib.hid (HO.out.below hbd)
      replace HC := Lib.hid (HC.out.below hbd)
      replace HL := Lib.hid (HL.out.below hbd)
      replace HCC := Lib.hid (HCC.out.below hbd)
      replace HMM := Lib.hid (HMM.out.below hbd)
      replace HIC := Lib.hid (HIC.out.below hbd)
      replace HIM := Lib.hid (HIM.out.below hbd)
      replace HB := Lib.hid (HB.out.drew)
      replace HBW := Lib.hid (HBW.out.drew)
      clear hbd
      have HEF := Lib.hid (fun ww h1 h2 => efRows_any (.slice rm m.length km) (.slice a4 l.length k4) m l ww h1 h2)
      have s0 := row_cell Q3.out (k := 0) rfl
      have s1 := row_cell Q3.out (k := 1) rfl
      have s2 := row_cell Q3.out (k := 2) rfl
      have s3 := row_cell Q3.out (k := 3) rfl
      cases hcc : comB rows c with
      | false =>
        rw [hcc] at HKC
        have HV : Hid (renE rows owners ep cs l css more = 380) := Lib.hid (HE.out.trans (if_neg (by rw [HBD.out (by rw [HZN.out]; unfold zeroB; rw [hcc]; rfl)]; decide)))
        clear hcc q1 q2
        refine wp_region_held_drew (S := (fun w' => w'.cell? ⟨w2.heap.size, 0, none⟩ = some (.int .i64 ep) ∧ w'.cell? ⟨w2.heap.size, 1, none⟩ = some (.slice a1 rows.length k1) ∧ w'.cell? ⟨w2.heap.size, 2, none⟩ = some (.slice a2 owners.length k2) ∧ w'.cell? ⟨w2.heap.size, 3, none⟩ = some (.slice a3 cs.length k3))) (by kernel_rfl) (by (try dsimp only); (first | exact ⟨z0, z1, z2, z3⟩ | exact ⟨s0, s1, s2, s3⟩ | go_keep)) (fun hHeld => ?_)
        refine take_yes (i := 0) (some 66) ?_ rfl (by kernel_rfl) (by kernel_rfl) (by kernel_rfl) (by kernel_rfl) (fun _ _ _ h => h) (by kernel_rfl) ?_ (by assumption) ?_
        rotate_left
        · (intro w hSw; (try dsimp only at hSw); go_simp; (try with_reducible rfl))
        simp only [Act.put, List.setIfInBounds_toArray, List.set_cons_zero, List.set_cons_succ]
        refine take_yes (i := 1) (some 67) _ rfl (by kernel_rfl) (by kernel_rfl) (by kernel_rfl) (by kernel_rfl) (fun _ _ _ h => h) (by kernel_rfl) (fun w _ => by rfl) (by assumption) ?_
        simp only [Act.put, List.setIfInBounds_toArray, List.set_cons_zero, List.set_cons_succ]
        refine wpAnyH_ready (rs := [2]) (by kernel_rfl) (by simp) ?_
        refine AllReadyH.cons rfl (fun K hK => ?_) AllReadyH.nil
        rw [if_pos (by rfl)]
        go_simp
        (go_at_call 24; (refine (HKC.out _ HR.out HIC.out).mono ?_); rintro e w6 ⟨rfl, hb6⟩; have z0 := below_cell hb6 s0; have z1 := below_cell hb6 s1; have z2 := below_cell hb6 s2; have z3 := below_cell hb6 s3; replace HR := Lib.hid (HR.out.below hb6); replace HO := Lib.hid (HO.out.below hb6); replace HC := Lib.hid (HC.out.below hb6); replace HL := Lib.hid (HL.out.below hb6); replace HCC := Lib.hid (HCC.out.below hb6); replace HMM := Lib.hid (HMM.out.below hb6); replace HIC := Lib.hid (HIC.out.below hb6); replace HIM := Lib.hid (HIM.out.below hb6); replace Q1 := Lib.hid ((hb6.block _ (row_lt Q1.out)).trans Q1.out); replace Q2 := Lib.hid ((hb6.block _ (row_lt Q2.out)).trans Q2.out); replace Q3 := Lib.hid ((hb6.block _ (row_lt Q3.out)).trans Q3.out); replace HB := Lib.hid (HB.out.trans (hb6.mono HB.out.size)); replace HBW := Lib.hid (HBW.out.trans (hb6.mono HBW.out.size)); clear hb6)
        refine hK.out _ _ (by (try dsimp only); (first | exact ⟨z0, z1, z2, z3⟩ | exact ⟨s0, s1, s2, s3⟩ | go_keep)) (fun hHeld => ?_)
        clear hK K
        try simp only [Act.put, List.setIfInBounds_toArray, List.set_cons_zero, List.set_cons_succ]
        refine take_yes (i := 3) (some 69) _ rfl (by kernel_rfl) (by kernel_rfl) (by kernel_rfl) (by kernel_rfl) (fun _ _ _ h => h) (by kernel_rfl) (fun w _ => by rfl) (by assumption) ?_
        simp only [Act.put, List.setIfInBounds_toArray, List.set_cons_zero, List.set_cons_succ]
        refine take_yes (i := 4) (some 70) _ rfl (by kernel_rfl) (by kernel_rfl) (by kernel_rfl) (by kernel_rfl) (fun _ _ _ h => h) (by kernel_rfl) (fun w _ => by rfl) (by assumption) ?_
        simp only [Act.put, List.setIfInBounds_toArray, List.set_cons_zero, List.set_cons_succ]
        refine take_no (i := 5) (some 71) rfl (by kernel_rfl) (by kernel_rfl) (by kernel_rfl) (by kernel_rfl) (fun _ _ _ h => h) (by kernel_rfl) (by assumption) ?_
        simp only [Act.put, List.setIfInBounds_toArray, List.set_cons_zero, List.set_cons_succ]
        refine take_no (i := 6) (some 72) rfl (by kernel_rfl) (by kernel_rfl) (by kernel_rfl) (by kernel_rfl) (fun _ _ _ h => h) (by kernel_rfl) (by assumption) ?_
        simp only [Act.put, List.setIfInBounds_toArray, List.set_cons_zero, List.set_cons_succ]
        refine take_no (i := 7) (some 73) rfl (by kernel_rfl) (by kernel_rfl) (by kernel_rfl) (by kernel_rfl) (fun _ _ _ h => h) (by kernel_rfl) (by assumption) ?_
        simp only [Act.put, List.setIfInBounds_toArray, List.set_cons_zero, List.set_cons_succ]
        refine take_no (i := 8) (some 74) rfl (by kernel_rfl) (by kernel_rfl) (by kernel_rfl) (by kernel_rfl) (fun _ _ _ h => h) (by kernel_rfl) (by assumption) ?_
        simp only [Act.put, List.setIfInBounds_toArray, List.set_cons_zero, List.set_cons_succ]
        refine take_yes (i := 9) (some 75) (.bool true) rfl (by kernel_rfl) (by kernel_rfl) (by kernel_rfl) (by kernel_rfl) (fun _ _ _ h => h) (by kernel_rfl) (fun w _ => by rfl) (by assumption) ?_
        simp only [Act.put, List.setIfInBounds_toArray, List.set_cons_zero, List.set_cons_succ]
        refine take_yes (i := 10) (some 76) _ rfl (by kernel_rfl) (by kernel_rfl) (by kernel_rfl) (by kernel_rfl) (fun _ _ _ h => h) (by kernel_rfl) (fun w _ => by rfl) (by assumption) ?_
        simp only [Act.put, List.setIfInBounds_toArray, List.set_cons_zero, List.set_cons_succ]
        refine take_no (i := 11) (some 77) rfl (by kernel_rfl) (by kernel_rfl) (by kernel_rfl) (by kernel_rfl) (fun _ _ _ h => h) (by kernel_rfl) (by assumption) ?_
        simp only [Act.put, List.setIfInBounds_toArray, List.set_cons_zero, List.set_cons_succ]
        refine take_no (i := 12) (some 78) rfl (by kernel_rfl) (by kernel_rfl) (by kernel_rfl) (by kernel_rfl) (fun _ _ _ h => h) (by kernel_rfl) (by assumption) ?_
        simp only [Act.put, List.setIfInBounds_toArray, List.set_cons_zero, List.set_cons_succ]
        refine take_no (i := 13) (some 79) rfl (by kernel_rfl) (by kernel_rfl) (by kernel_rfl) (by kernel_rfl) (fun _ _ _ h => h) (by kernel_rfl) (by assumption) ?_
        simp only [Act.put, List.setIfInBounds_toArray, List.set_cons_zero, List.set_cons_succ]
        refine take_no (i := 14) (some 80) rfl (by kernel_rfl) (by kernel_rfl) (by kernel_rfl) (by kernel_rfl) (fun _ _ _ h => h) (by kernel_rfl) (by assumption) ?_
        simp only [Act.put, List.setIfInBounds_toArray, List.set_cons_zero, List.set_cons_succ]
        refine take_no (i := 15) (some 81) rfl (by kernel_rfl) (by kernel_rfl) (by kernel_rfl) (by kernel_rfl) (fun _ _ _ h => h) (by kernel_rfl) (by assumption) ?_
        simp only [Act.put, List.setIfInBounds_toArray, List.set_cons_zero, List.set_cons_succ]
        refine take_no (i := 16) (some 82) rfl (by kernel_rfl) (by kernel_rfl) (by kernel_rfl) (by kernel_rfl) (fun _ _ _ h => h) (by kernel_rfl) (by assumption) ?_
        simp only [Act.put, List.setIfInBounds_toArray, List.set_cons_zero, List.set_cons_succ]
        refine take_no (i := 17) (some 83) rfl (by kernel_rfl) (by kernel_rfl) (by kernel_rfl) (by kernel_rfl) (fun _ _ _ h => h) (by kernel_rfl) (by assumption) ?_
        simp only [Act.put, List.setIfInBounds_toArray, List.set_cons_zero, List.set_cons_succ]
        refine take_no (i := 18) (some 84) rfl (by kernel_rfl) (by kernel_rfl) (by kernel_rfl) (by kernel_rfl) (fun _ _ _ h => h) (by kernel_rfl) (by assumption) ?_
        simp only [Act.put, List.setIfInBounds_toArray, List.set_cons_zero, List.set_cons_succ]
        refine take_yes (i := 19) (some 85) (.bool true) rfl (by kernel_rfl) (by kernel_rfl) (by kernel_rfl) (by kernel_rfl) (fun _ _ _ h => h) (by kernel_rfl) (fun w _ => by rfl) (by assumption) ?_
        simp only [Act.put, List.setIfInBounds_toArray, List.set_cons_zero, List.set_cons_succ]
        refine take_yes (i := 20) (some 86) _ rfl (by kernel_rfl) (by kernel_rfl) (by kernel_rfl) (by kernel_rfl) (fun _ _ _ h => h) (by kernel_rfl) (fun w _ => by rfl) (by assumption) ?_
        simp only [Act.put, List.setIfInBounds_toArray, List.set_cons_zero, List.set_cons_succ]
        refine take_no (i := 21) (some 87) rfl (by kernel_rfl) (by kernel_rfl) (by kernel_rfl) (by kernel_rfl) (fun _ _ _ h => h) (by kernel_rfl) (by assumption) ?_
        simp only [Act.put, List.setIfInBounds_toArray, List.set_cons_zero, List.set_cons_succ]
        refine take_no (i := 22) (some 88) rfl (by kernel_rfl) (by kernel_rfl) (by kernel_rfl) (by kernel_rfl) (fun _ _ _ h => h) (by kernel_rfl) (by assumption) ?_
        simp only [Act.put, List.setIfInBounds_toArray, List.set_cons_zero, List.set_cons_succ]
        refine take_no (i := 23) (some 89) rfl (by kernel_rfl) (by kernel_rfl) (by kernel_rfl) (by kernel_rfl) (fun _ _ _ h => h) (by kernel_rfl) (by assumption) ?_
        simp only [Act.put, List.setIfInBounds_toArray, List.set_cons_zero, List.set_cons_succ]
        refine take_no (i := 24) (some 90) rfl (by kernel_rfl) (by kernel_rfl) (by kernel_rfl) (by kernel_rfl) (fun _ _ _ h => h) (by kernel_rfl) (by assumption) ?_
        simp only [Act.put, List.setIfInBounds_toArray, List.set_cons_zero, List.set_cons_succ]
        refine take_no (i := 25) (some 91) rfl (by kernel_rfl) (by kernel_rfl) (by kernel_rfl) (by kernel_rfl) (fun _ _ _ h => h) (by kernel_rfl) (by assumption) ?_
        simp only [Act.put, List.setIfInBounds_toArray, List.set_cons_zero, List.set_cons_succ]
        refine take_no (i := 26) (some 92) rfl (by kernel_rfl) (by kernel_rfl) (by kernel_rfl) (by kernel_rfl) (fun _ _ _ h => h) (by kernel_rfl) (by assumption) ?_
        simp only [Act.put, List.setIfInBounds_toArray, List.set_cons_zero, List.set_cons_succ]
        refine take_no (i := 27) (some 93) rfl (by kernel_rfl) (by kernel_rfl) (by kernel_rfl) (by kernel_rfl) (fun _ _ _ h => h) (by kernel_rfl) (by assumption) ?_
        simp only [Act.put, List.setIfInBounds_toArray, List.set_cons_zero, List.set_cons_succ]
        refine take_no (i := 28) (some 94) rfl (by kernel_rfl) (by kernel_rfl) (by kernel_rfl) (by kernel_rfl) (fun _ _ _ h => h) (by kernel_rfl) (by assumption) ?_
        simp only [Act.put, List.setIfInBounds_toArray, List.set_cons_zero, List.set_cons_succ]
        refine take_yes (i := 29) (some 95) (.bool true) rfl (by kernel_rfl) (by kernel_rfl) (by kernel_rfl) (by kernel_rfl) (fun _ _ _ h => h) (by kernel_rfl) (fun w _ => by rfl) (by assumption) ?_
        simp only [Act.put, List.setIfInBounds_toArray, List.set_cons_zero, List.set_cons_succ]
        refine wpAnyH_done (by kernel_rfl) ?_ _
        clear hHeld
        clear s0 z0 s1 z1 s2 z2 s3 z3
        have x0 := row_cell Q2.out (k := 0) rfl
        have x1 := row_cell Q2.out (k := 1) rfl
        have x2 := row_cell Q2.out (k := 2) rfl
        have x3 := row_cell Q2.out (k := 3) rfl
        have f0 := row_free Q2.out 0
        have f1 := row_free Q2.out 1
        have f2 := row_free Q2.out 2
        have f3 := row_free Q2.out 3
        go_wp2_with fail
        try simp only [Exit.inBlock, Exit.then]
        refine bodyPost_ret (v := .tuple #[.agg #[.int .i64 0, .slice none 0 0, .slice none 0 0, .slice none 0 0], .slice none 0 0, .int .i64 380]) ?_ rfl ?_
        · rw [results_cell_tmp2 rfl]
          go_simp
        · exact ren_off HV.out (by decide) ((((HB.out.setCell (Nat.le_succ _) _).setCell (Nat.le_succ _) _).setCell (Nat.le_succ _) _).setCell (Nat.le_succ _) _)
      | true =>
      rw [hcc] at HKC
      have hce := comB_el hcc
      obtain ⟨-, bc, oc, nc, kc', ec, qc⟩ := HIC.out.get (k := 0) (by rw [hce.2]; exact HCL.out)
      simp only [Value.slice.injEq] at ec
      obtain ⟨rfl, -, -⟩ := ec
      rw [Nat.add_zero] at qc
      have j3 : (0 : Int) < (c.length : Int) := by have := HCL.out; rw [hce.2]; omega
      have j4 : 0 < c.length := by omega
      have j5 : k < more.length := by omega
      obtain ⟨x, hx⟩ : ∃ x, x = nth c 0 := ⟨_, rfl⟩
      have HX := Lib.hid hx
      rw [← hx] at qc
      have s4 := qc
      have s5 := q2
      have HCE := Lib.hid hcc
      clear q1 q2 qc hcc hce hx
      by_cases hx1 : x = 1
      rotate_left
      · have d3 : (x != 1) = true := bne_iff_ne.2 hx1
        have HV : Hid (renE rows owners ep cs l css more = 380) := Lib.hid (HE.out.trans (if_neg (by rw [HBD.out (by rw [HZN.out]; unfold zeroB; rw [← HX.out, show (x == 1) = false from beq_eq_false_iff_ne.2 hx1]; simp)]; decide)))
        clear hx1 s5
        refine wp_region_held_drew (S := (fun w' => w'.cell? ⟨w2.heap.size, 0, none⟩ = some (.int .i64 ep) ∧ w'.cell? ⟨w2.heap.size, 1, none⟩ = some (.slice a1 rows.length k1) ∧ w'.cell? ⟨w2.heap.size, 2, none⟩ = some (.slice a2 owners.length k2) ∧ w'.cell? ⟨w2.heap.size, 3, none⟩ = some (.slice a3 cs.length k3) ∧ w'.cell? ⟨bc, oc, none⟩ = some (.int .i64 x))) (by kernel_rfl) (by (try dsimp only); (first | exact ⟨z0, z1, z2, z3, z4⟩ | exact ⟨s0, s1, s2, s3, s4⟩ | go_keep)) (fun hHeld => ?_)
        refine take_yes (i := 0) (some 66) ?_ rfl (by kernel_rfl) (by kernel_rfl) (by kernel_rfl) (by kernel_rfl) (fun _ _ _ h => h) (by kernel_rfl) ?_ (by assumption) ?_
        rotate_left
        · (intro w hSw; (try dsimp only at hSw); go_simp; (try with_reducible rfl))
        simp only [Act.put, List.setIfInBounds_toArray, List.set_cons_zero, List.set_cons_succ]
        refine take_yes (i := 1) (some 67) _ rfl (by kernel_rfl) (by kernel_rfl) (by kernel_rfl) (by kernel_rfl) (fun _ _ _ h => h) (by kernel_rfl) (fun w _ => by rfl) (by assumption) ?_
        simp only [Act.put, List.setIfInBounds_toArray, List.set_cons_zero, List.set_cons_succ]
        refine wpAnyH_ready (rs := [2]) (by kernel_rfl) (by simp) ?_
        refine AllReadyH.cons rfl (fun K hK => ?_) AllReadyH.nil
        rw [if_pos (by rfl)]
        go_simp
        (go_at_call 24; (refine (HKC.out _ HR.out HIC.out).mono ?_); rintro e w6 ⟨rfl, hb6⟩; have z0 := below_cell hb6 s0; have z1 := below_cell hb6 s1; have z2 := below_cell hb6 s2; have z3 := below_cell hb6 s3; have z4 := below_cell hb6 s4; replace HR := Lib.hid (HR.out.below hb6); replace HO := Lib.hid (HO.out.below hb6); replace HC := Lib.hid (HC.out.below hb6); replace HL := Lib.hid (HL.out.below hb6); replace HCC := Lib.hid (HCC.out.below hb6); replace HMM := Lib.hid (HMM.out.below hb6); replace HIC := Lib.hid (HIC.out.below hb6); replace HIM := Lib.hid (HIM.out.below hb6); replace Q1 := Lib.hid ((hb6.block _ (row_lt Q1.out)).trans Q1.out); replace Q2 := Lib.hid ((hb6.block _ (row_lt Q2.out)).trans Q2.out); replace Q3 := Lib.hid ((hb6.block _ (row_lt Q3.out)).trans Q3.out); replace HB := Lib.hid (HB.out.trans (hb6.mono HB.out.size)); replace HBW := Lib.hid (HBW.out.trans (hb6.mono HBW.out.size)); clear hb6)
        refine hK.out _ _ (by (try dsimp only); (first | exact ⟨z0, z1, z2, z3, z4⟩ | exact ⟨s0, s1, s2, s3, s4⟩ | go_keep)) (fun hHeld => ?_)
        clear hK K
        try simp only [Act.put, List.setIfInBounds_toArray, List.set_cons_zero, List.set_cons_succ]
        refine take_yes (i := 3) (some 69) _ rfl (by kernel_rfl) (by kernel_rfl) (by kernel_rfl) (by kernel_rfl) (fun _ _ _ h => h) (by kernel_rfl) (fun w _ => by rfl) (by assumption) ?_
        simp only [Act.put, List.setIfInBounds_toArray, List.set_cons_zero, List.set_cons_succ]
        refine take_yes (i := 4) (some 70) _ rfl (by kernel_rfl) (by kernel_rfl) (by kernel_rfl) (by kernel_rfl) (fun _ _ _ h => h) (by kernel_rfl) (fun w _ => by rfl) (by assumption) ?_
        simp only [Act.put, List.setIfInBounds_toArray, List.set_cons_zero, List.set_cons_succ]
        refine take_yes (i := 5) (some 71) _ rfl (by kernel_rfl) (by kernel_rfl) (by kernel_rfl) (by kernel_rfl) (fun _ _ _ h => h) (by kernel_rfl) (fun w _ => by rfl) (by assumption) ?_
        simp only [Act.put, List.setIfInBounds_toArray, List.set_cons_zero, List.set_cons_succ]
        refine take_yes (i := 6) (some 72) ?_ rfl (by kernel_rfl) (by kernel_rfl) (by kernel_rfl) (by kernel_rfl) (fun _ _ _ h => h) (by kernel_rfl) ?_ (by assumption) ?_
        rotate_left
        · (intro w hSw; (try dsimp only at hSw); go_simp; (try with_reducible rfl))
        simp only [Act.put, List.setIfInBounds_toArray, List.set_cons_zero, List.set_cons_succ]
        refine take_yes (i := 7) (some 73) ?_ rfl (by kernel_rfl) (by kernel_rfl) (by kernel_rfl) (by kernel_rfl) (fun _ _ _ h => h) (by kernel_rfl) ?_ (by assumption) ?_
        rotate_left
        · (intro w hSw; (try dsimp only at hSw); go_simp; (try with_reducible rfl))
        simp only [Act.put, List.setIfInBounds_toArray, List.set_cons_zero, List.set_cons_succ]
        refine take_yes (i := 8) (some 74) ?_ rfl (by kernel_rfl) (by kernel_rfl) (by kernel_rfl) (by kernel_rfl) (fun _ _ _ h => h) (by kernel_rfl) ?_ (by assumption) ?_
        rotate_left
        · (intro w hSw; (try dsimp only at hSw); go_simp; (try with_reducible rfl))
        simp only [Act.put, List.setIfInBounds_toArray, List.set_cons_zero, List.set_cons_succ]
        refine take_yes (i := 9) (some 75) (.bool true) rfl (by kernel_rfl) (by kernel_rfl) (by kernel_rfl) (by kernel_rfl) (fun _ _ _ h => h) (by kernel_rfl) (fun w _ => by rfl) (by assumption) ?_
        simp only [Act.put, List.setIfInBounds_toArray, List.set_cons_zero, List.set_cons_succ]
        refine take_yes (i := 10) (some 76) _ rfl (by kernel_rfl) (by kernel_rfl) (by kernel_rfl) (by kernel_rfl) (fun _ _ _ h => h) (by kernel_rfl) (fun w _ => by rfl) (by assumption) ?_
        simp only [Act.put, List.setIfInBounds_toArray, List.set_cons_zero, List.set_cons_succ]
        refine take_no (i := 11) (some 77) rfl (by kernel_rfl) (by kernel_rfl) (by kernel_rfl) (by kernel_rfl) (fun _ _ _ h => h) (by kernel_rfl) (by assumption) ?_
        simp only [Act.put, List.setIfInBounds_toArray, List.set_cons_zero, List.set_cons_succ]
        refine take_no (i := 12) (some 78) rfl (by kernel_rfl) (by kernel_rfl) (by kernel_rfl) (by kernel_rfl) (fun _ _ _ h => h) (by kernel_rfl) (by assumption) ?_
        simp only [Act.put, List.setIfInBounds_toArray, List.set_cons_zero, List.set_cons_succ]
        refine take_no (i := 13) (some 79) rfl (by kernel_rfl) (by kernel_rfl) (by kernel_rfl) (by kernel_rfl) (fun _ _ _ h => h) (by kernel_rfl) (by assumption) ?_
        simp only [Act.put, List.setIfInBounds_toArray, List.set_cons_zero, List.set_cons_succ]
        refine take_no (i := 14) (some 80) rfl (by kernel_rfl) (by kernel_rfl) (by kernel_rfl) (by kernel_rfl) (fun _ _ _ h => h) (by kernel_rfl) (by assumption) ?_
        simp only [Act.put, List.setIfInBounds_toArray, List.set_cons_zero, List.set_cons_succ]
        refine take_no (i := 15) (some 81) rfl (by kernel_rfl) (by kernel_rfl) (by kernel_rfl) (by kernel_rfl) (fun _ _ _ h => h) (by kernel_rfl) (by assumption) ?_
        simp only [Act.put, List.setIfInBounds_toArray, List.set_cons_zero, List.set_cons_succ]
        refine take_no (i := 16) (some 82) rfl (by kernel_rfl) (by kernel_rfl) (by kernel_rfl) (by kernel_rfl) (fun _ _ _ h => h) (by kernel_rfl) (by assumption) ?_
        simp only [Act.put, List.setIfInBounds_toArray, List.set_cons_zero, List.set_cons_succ]
        refine take_no (i := 17) (some 83) rfl (by kernel_rfl) (by kernel_rfl) (by kernel_rfl) (by kernel_rfl) (fun _ _ _ h => h) (by kernel_rfl) (by assumption) ?_
        simp only [Act.put, List.setIfInBounds_toArray, List.set_cons_zero, List.set_cons_succ]
        refine take_no (i := 18) (some 84) rfl (by kernel_rfl) (by kernel_rfl) (by kernel_rfl) (by kernel_rfl) (fun _ _ _ h => h) (by kernel_rfl) (by assumption) ?_
        simp only [Act.put, List.setIfInBounds_toArray, List.set_cons_zero, List.set_cons_succ]
        refine take_yes (i := 19) (some 85) (.bool true) rfl (by kernel_rfl) (by kernel_rfl) (by kernel_rfl) (by kernel_rfl) (fun _ _ _ h => h) (by kernel_rfl) (fun w _ => by rfl) (by assumption) ?_
        simp only [Act.put, List.setIfInBounds_toArray, List.set_cons_zero, List.set_cons_succ]
        refine take_yes (i := 20) (some 86) _ rfl (by kernel_rfl) (by kernel_rfl) (by kernel_rfl) (by kernel_rfl) (fun _ _ _ h => h) (by kernel_rfl) (fun w _ => by rfl) (by assumption) ?_
        simp only [Act.put, List.setIfInBounds_toArray, List.set_cons_zero, List.set_cons_succ]
        refine take_no (i := 21) (some 87) rfl (by kernel_rfl) (by kernel_rfl) (by kernel_rfl) (by kernel_rfl) (fun _ _ _ h => h) (by kernel_rfl) (by assumption) ?_
        simp only [Act.put, List.setIfInBounds_toArray, List.set_cons_zero, List.set_cons_succ]
        refine take_no (i := 22) (some 88) rfl (by kernel_rfl) (by kernel_rfl) (by kernel_rfl) (by kernel_rfl) (fun _ _ _ h => h) (by kernel_rfl) (by assumption) ?_
        simp only [Act.put, List.setIfInBounds_toArray, List.set_cons_zero, List.set_cons_succ]
        refine take_no (i := 23) (some 89) rfl (by kernel_rfl) (by kernel_rfl) (by kernel_rfl) (by kernel_rfl) (fun _ _ _ h => h) (by kernel_rfl) (by assumption) ?_
        simp only [Act.put, List.setIfInBounds_toArray, List.set_cons_zero, List.set_cons_succ]
        refine take_no (i := 24) (some 90) rfl (by kernel_rfl) (by kernel_rfl) (by kernel_rfl) (by kernel_rfl) (fun _ _ _ h => h) (by kernel_rfl) (by assumption) ?_
        simp only [Act.put, List.setIfInBounds_toArray, List.set_cons_zero, List.set_cons_succ]
        refine take_no (i := 25) (some 91) rfl (by kernel_rfl) (by kernel_rfl) (by kernel_rfl) (by kernel_rfl) (fun _ _ _ h => h) (by kernel_rfl) (by assumption) ?_
        simp only [Act.put, List.setIfInBounds_toArray, List.set_cons_zero, List.set_cons_succ]
        refine take_no (i := 26) (some 92) rfl (by kernel_rfl) (by kernel_rfl) (by kernel_rfl) (by kernel_rfl) (fun _ _ _ h => h) (by kernel_rfl) (by assumption) ?_
        simp only [Act.put, List.setIfInBounds_toArray, List.set_cons_zero, List.set_cons_succ]
        refine take_no (i := 27) (some 93) rfl (by kernel_rfl) (by kernel_rfl) (by kernel_rfl) (by kernel_rfl) (fun _ _ _ h => h) (by kernel_rfl) (by assumption) ?_
        simp only [Act.put, List.setIfInBounds_toArray, List.set_cons_zero, List.set_cons_succ]
        refine take_no (i := 28) (some 94) rfl (by kernel_rfl) (by kernel_rfl) (by kernel_rfl) (by kernel_rfl) (fun _ _ _ h => h) (by kernel_rfl) (by assumption) ?_
        simp only [Act.put, List.setIfInBounds_toArray, List.set_cons_zero, List.set_cons_succ]
        refine take_yes (i := 29) (some 95) (.bool true) rfl (by kernel_rfl) (by kernel_rfl) (by kernel_rfl) (by kernel_rfl) (fun _ _ _ h => h) (by kernel_rfl) (fun w _ => by rfl) (by assumption) ?_
        simp only [Act.put, List.setIfInBounds_toArray, List.set_cons_zero, List.set_cons_succ]
        refine wpAnyH_done (by kernel_rfl) ?_ _
        clear hHeld
        clear s0 z0 s1 z1 s2 z2 s3 z3 s4 z4
        have x0 := row_cell Q2.out (k := 0) rfl
        have x1 := row_cell Q2.out (k := 1) rfl
        have x2 := row_cell Q2.out (k := 2) rfl
        have x3 := row_cell Q2.out (k := 3) rfl
        have f0 := row_free Q2.out 0
        have f1 := row_free Q2.out 1
        have f2 := row_free Q2.out 2
        have f3 := row_free Q2.out 3
        go_wp2_with fail
        try simp only [Exit.inBlock, Exit.then]
        refine bodyPost_ret (v := .tuple #[.agg #[.int .i64 0, .slice none 0 0, .slice none 0 0, .slice none 0 0], .slice none 0 0, .int .i64 380]) ?_ rfl ?_
        · rw [results_cell_tmp2 rfl]
          go_simp
        · exact ren_off HV.out (by decide) ((((HB.out.setCell (Nat.le_succ _) _).setCell (Nat.le_succ _) _).setCell (Nat.le_succ _) _).setCell (Nat.le_succ _) _)
      have d3 : (x != 1) = false := by rw [hx1]; rfl
      have HX1 := Lib.hid hx1
      clear hx1
      cases hrw : decide (rowsS m = rowsS l) with
      | false =>
        rw [hrw] at HEF
        have HV : Hid (renE rows owners ep cs l css more = 380) := Lib.hid (HE.out.trans (if_neg (by rw [HBD.out (by rw [HZN.out]; unfold zeroB; rw [hrw]; simp)]; decide)))
        clear hrw
        refine wp_region_held_drew (S := (fun w' => w'.cell? ⟨w2.heap.size, 0, none⟩ = some (.int .i64 ep) ∧ w'.cell? ⟨w2.heap.size, 1, none⟩ = some (.slice a1 rows.length k1) ∧ w'.cell? ⟨w2.heap.size, 2, none⟩ = some (.slice a2 owners.length k2) ∧ w'.cell? ⟨w2.heap.size, 3, none⟩ = some (.slice a3 cs.length k3) ∧ w'.cell? ⟨bc, oc, none⟩ = some (.int .i64 x) ∧ w'.cell? ⟨b2, o2 + k, none⟩ = some (.slice rm m.length km))) (by kernel_rfl) (by (try dsimp only); (first | exact ⟨z0, z1, z2, z3, z4, z5⟩ | exact ⟨s0, s1, s2, s3, s4, s5⟩ | go_keep)) (fun hHeld => ?_)
        refine take_yes (i := 0) (some 66) ?_ rfl (by kernel_rfl) (by kernel_rfl) (by kernel_rfl) (by kernel_rfl) (fun _ _ _ h => h) (by kernel_rfl) ?_ (by assumption) ?_
        rotate_left
        · (intro w hSw; (try dsimp only at hSw); go_simp; (try with_reducible rfl))
        simp only [Act.put, List.setIfInBounds_toArray, List.set_cons_zero, List.set_cons_succ]
        refine take_yes (i := 1) (some 67) _ rfl (by kernel_rfl) (by kernel_rfl) (by kernel_rfl) (by kernel_rfl) (fun _ _ _ h => h) (by kernel_rfl) (fun w _ => by rfl) (by assumption) ?_
        simp only [Act.put, List.setIfInBounds_toArray, List.set_cons_zero, List.set_cons_succ]
        refine wpAnyH_ready (rs := [2]) (by kernel_rfl) (by simp) ?_
        refine AllReadyH.cons rfl (fun K hK => ?_) AllReadyH.nil
        rw [if_pos (by rfl)]
        go_simp
        (go_at_call 24; (refine (HKC.out _ HR.out HIC.out).mono ?_); rintro e w6 ⟨rfl, hb6⟩; have z0 := below_cell hb6 s0; have z1 := below_cell hb6 s1; have z2 := below_cell hb6 s2; have z3 := below_cell hb6 s3; have z4 := below_cell hb6 s4; have z5 := below_cell hb6 s5; replace HR := Lib.hid (HR.out.below hb6); replace HO := Lib.hid (HO.out.below hb6); replace HC := Lib.hid (HC.out.below hb6); replace HL := Lib.hid (HL.out.below hb6); replace HCC := Lib.hid (HCC.out.below hb6); replace HMM := Lib.hid (HMM.out.below hb6); replace HIC := Lib.hid (HIC.out.below hb6); replace HIM := Lib.hid (HIM.out.below hb6); replace Q1 := Lib.hid ((hb6.block _ (row_lt Q1.out)).trans Q1.out); replace Q2 := Lib.hid ((hb6.block _ (row_lt Q2.out)).trans Q2.out); replace Q3 := Lib.hid ((hb6.block _ (row_lt Q3.out)).trans Q3.out); replace HB := Lib.hid (HB.out.trans (hb6.mono HB.out.size)); replace HBW := Lib.hid (HBW.out.trans (hb6.mono HBW.out.size)); clear hb6)
        refine hK.out _ _ (by (try dsimp only); (first | exact ⟨z0, z1, z2, z3, z4, z5⟩ | exact ⟨s0, s1, s2, s3, s4, s5⟩ | go_keep)) (fun hHeld => ?_)
        clear hK K
        try simp only [Act.put, List.setIfInBounds_toArray, List.set_cons_zero, List.set_cons_succ]
        refine take_yes (i := 3) (some 69) _ rfl (by kernel_rfl) (by kernel_rfl) (by kernel_rfl) (by kernel_rfl) (fun _ _ _ h => h) (by kernel_rfl) (fun w _ => by rfl) (by assumption) ?_
        simp only [Act.put, List.setIfInBounds_toArray, List.set_cons_zero, List.set_cons_succ]
        refine take_yes (i := 4) (some 70) _ rfl (by kernel_rfl) (by kernel_rfl) (by kernel_rfl) (by kernel_rfl) (fun _ _ _ h => h) (by kernel_rfl) (fun w _ => by rfl) (by assumption) ?_
        simp only [Act.put, List.setIfInBounds_toArray, List.set_cons_zero, List.set_cons_succ]
        refine take_yes (i := 5) (some 71) _ rfl (by kernel_rfl) (by kernel_rfl) (by kernel_rfl) (by kernel_rfl) (fun _ _ _ h => h) (by kernel_rfl) (fun w _ => by rfl) (by assumption) ?_
        simp only [Act.put, List.setIfInBounds_toArray, List.set_cons_zero, List.set_cons_succ]
        refine take_yes (i := 6) (some 72) ?_ rfl (by kernel_rfl) (by kernel_rfl) (by kernel_rfl) (by kernel_rfl) (fun _ _ _ h => h) (by kernel_rfl) ?_ (by assumption) ?_
        rotate_left
        · (intro w hSw; (try dsimp only at hSw); go_simp; (try with_reducible rfl))
        simp only [Act.put, List.setIfInBounds_toArray, List.set_cons_zero, List.set_cons_succ]
        refine take_yes (i := 7) (some 73) ?_ rfl (by kernel_rfl) (by kernel_rfl) (by kernel_rfl) (by kernel_rfl) (fun _ _ _ h => h) (by kernel_rfl) ?_ (by assumption) ?_
        rotate_left
        · (intro w hSw; (try dsimp only at hSw); go_simp; (try with_reducible rfl))
        simp only [Act.put, List.setIfInBounds_toArray, List.set_cons_zero, List.set_cons_succ]
        refine take_yes (i := 8) (some 74) ?_ rfl (by kernel_rfl) (by kernel_rfl) (by kernel_rfl) (by kernel_rfl) (fun _ _ _ h => h) (by kernel_rfl) ?_ (by assumption) ?_
        rotate_left
        · (intro w hSw; (try dsimp only at hSw); go_simp; (try with_reducible rfl))
        simp only [Act.put, List.setIfInBounds_toArray, List.set_cons_zero, List.set_cons_succ]
        refine take_yes (i := 9) (some 75) (.bool false) rfl (by kernel_rfl) (by kernel_rfl) (by kernel_rfl) (by kernel_rfl) (fun _ _ _ h => h) (by kernel_rfl) (fun w _ => by rfl) (by assumption) ?_
        simp only [Act.put, List.setIfInBounds_toArray, List.set_cons_zero, List.set_cons_succ]
        refine take_yes (i := 10) (some 76) _ rfl (by kernel_rfl) (by kernel_rfl) (by kernel_rfl) (by kernel_rfl) (fun _ _ _ h => h) (by kernel_rfl) (fun w _ => by rfl) (by assumption) ?_
        simp only [Act.put, List.setIfInBounds_toArray, List.set_cons_zero, List.set_cons_succ]
        refine take_yes (i := 11) (some 77) _ rfl (by kernel_rfl) (by kernel_rfl) (by kernel_rfl) (by kernel_rfl) (fun _ _ _ h => h) (by kernel_rfl) (fun w _ => by rfl) (by assumption) ?_
        simp only [Act.put, List.setIfInBounds_toArray, List.set_cons_zero, List.set_cons_succ]
        refine take_yes (i := 12) (some 78) _ rfl (by kernel_rfl) (by kernel_rfl) (by kernel_rfl) (by kernel_rfl) (fun _ _ _ h => h) (by kernel_rfl) (fun w _ => by rfl) (by assumption) ?_
        simp only [Act.put, List.setIfInBounds_toArray, List.set_cons_zero, List.set_cons_succ]
        refine take_yes (i := 13) (some 79) ?_ rfl (by kernel_rfl) (by kernel_rfl) (by kernel_rfl) (by kernel_rfl) (fun _ _ _ h => h) (by kernel_rfl) ?_ (by assumption) ?_
        rotate_left
        · (intro w hSw; (try dsimp only at hSw); go_simp; (try with_reducible rfl))
        simp only [Act.put, List.setIfInBounds_toArray, List.set_cons_zero, List.set_cons_succ]
        refine take_yes (i := 14) (some 80) ?_ rfl (by kernel_rfl) (by kernel_rfl) (by kernel_rfl) (by kernel_rfl) (fun _ _ _ h => h) (by kernel_rfl) ?_ (by assumption) ?_
        rotate_left
        · (intro w hSw; (try dsimp only at hSw); go_simp; (try with_reducible rfl))
        simp only [Act.put, List.setIfInBounds_toArray, List.set_cons_zero, List.set_cons_succ]
        refine take_yes (i := 15) (some 81) _ rfl (by kernel_rfl) (by kernel_rfl) (by kernel_rfl) (by kernel_rfl) (fun _ _ _ h => h) (by kernel_rfl) (fun w _ => by rfl) (by assumption) ?_
        simp only [Act.put, List.setIfInBounds_toArray, List.set_cons_zero, List.set_cons_succ]
        refine take_yes (i := 16) (some 82) _ rfl (by kernel_rfl) (by kernel_rfl) (by kernel_rfl) (by kernel_rfl) (fun _ _ _ h => h) (by kernel_rfl) (fun w _ => by rfl) (by assumption) ?_
        simp only [Act.put, List.setIfInBounds_toArray, List.set_cons_zero, List.set_cons_succ]
        refine wpAnyH_ready (rs := [17]) (by kernel_rfl) (by simp) ?_
        refine AllReadyH.cons rfl (fun K hK => ?_) AllReadyH.nil
        rw [if_pos (by rfl)]
        go_simp
        (go_at_call 25; (refine (HEF.out _ HIM.out HL.out).mono ?_); rintro e w7 ⟨rfl, hb7⟩; replace z0 := below_cell hb7 z0; replace z1 := below_cell hb7 z1; replace z2 := below_cell hb7 z2; replace z3 := below_cell hb7 z3; replace z4 := below_cell hb7 z4; replace z5 := below_cell hb7 z5; replace HR := Lib.hid (HR.out.below hb7); replace HO := Lib.hid (HO.out.below hb7); replace HC := Lib.hid (HC.out.below hb7); replace HL := Lib.hid (HL.out.below hb7); replace HCC := Lib.hid (HCC.out.below hb7); replace HMM := Lib.hid (HMM.out.below hb7); replace HIC := Lib.hid (HIC.out.below hb7); replace HIM := Lib.hid (HIM.out.below hb7); replace Q1 := Lib.hid ((hb7.block _ (row_lt Q1.out)).trans Q1.out); replace Q2 := Lib.hid ((hb7.block _ (row_lt Q2.out)).trans Q2.out); replace Q3 := Lib.hid ((hb7.block _ (row_lt Q3.out)).trans Q3.out); replace HB := Lib.hid (HB.out.trans (hb7.mono HB.out.size)); replace HBW := Lib.hid (HBW.out.trans (hb7.mono HBW.out.size)); clear hb7)
        refine hK.out _ _ (by (try dsimp only); (first | exact ⟨z0, z1, z2, z3, z4, z5⟩ | exact ⟨s0, s1, s2, s3, s4, s5⟩ | go_keep)) (fun hHeld => ?_)
        clear hK K
        try simp only [Act.put, List.setIfInBounds_toArray, List.set_cons_zero, List.set_cons_succ]
        refine take_yes (i := 18) (some 84) _ rfl (by kernel_rfl) (by kernel_rfl) (by kernel_rfl) (by kernel_rfl) (fun _ _ _ h => h) (by kernel_rfl) (fun w _ => by rfl) (by assumption) ?_
        simp only [Act.put, List.setIfInBounds_toArray, List.set_cons_zero, List.set_cons_succ]
        refine take_yes (i := 19) (some 85) (.bool true) rfl (by kernel_rfl) (by kernel_rfl) (by kernel_rfl) (by kernel_rfl) (fun _ _ _ h => h) (by kernel_rfl) (fun w _ => by rfl) (by assumption) ?_
        simp only [Act.put, List.setIfInBounds_toArray, List.set_cons_zero, List.set_cons_succ]
        refine take_yes (i := 20) (some 86) _ rfl (by kernel_rfl) (by kernel_rfl) (by kernel_rfl) (by kernel_rfl) (fun _ _ _ h => h) (by kernel_rfl) (fun w _ => by rfl) (by assumption) ?_
        simp only [Act.put, List.setIfInBounds_toArray, List.set_cons_zero, List.set_cons_succ]
        refine take_no (i := 21) (some 87) rfl (by kernel_rfl) (by kernel_rfl) (by kernel_rfl) (by kernel_rfl) (fun _ _ _ h => h) (by kernel_rfl) (by assumption) ?_
        simp only [Act.put, List.setIfInBounds_toArray, List.set_cons_zero, List.set_cons_succ]
        refine take_no (i := 22) (some 88) rfl (by kernel_rfl) (by kernel_rfl) (by kernel_rfl) (by kernel_rfl) (fun _ _ _ h => h) (by kernel_rfl) (by assumption) ?_
        simp only [Act.put, List.setIfInBounds_toArray, List.set_cons_zero, List.set_cons_succ]
        refine take_no (i := 23) (some 89) rfl (by kernel_rfl) (by kernel_rfl) (by kernel_rfl) (by kernel_rfl) (fun _ _ _ h => h) (by kernel_rfl) (by assumption) ?_
        simp only [Act.put, List.setIfInBounds_toArray, List.set_cons_zero, List.set_cons_succ]
        refine take_no (i := 24) (some 90) rfl (by kernel_rfl) (by kernel_rfl) (by kernel_rfl) (by kernel_rfl) (fun _ _ _ h => h) (by kernel_rfl) (by assumption) ?_
        simp only [Act.put, List.setIfInBounds_toArray, List.set_cons_zero, List.set_cons_succ]
        refine take_no (i := 25) (some 91) rfl (by kernel_rfl) (by kernel_rfl) (by kernel_rfl) (by kernel_rfl) (fun _ _ _ h => h) (by kernel_rfl) (by assumption) ?_
        simp only [Act.put, List.setIfInBounds_toArray, List.set_cons_zero, List.set_cons_succ]
        refine take_no (i := 26) (some 92) rfl (by kernel_rfl) (by kernel_rfl) (by kernel_rfl) (by kernel_rfl) (fun _ _ _ h => h) (by kernel_rfl) (by assumption) ?_
        simp only [Act.put, List.setIfInBounds_toArray, List.set_cons_zero, List.set_cons_succ]
        refine take_no (i := 27) (some 93) rfl (by kernel_rfl) (by kernel_rfl) (by kernel_rfl) (by kernel_rfl) (fun _ _ _ h => h) (by kernel_rfl) (by assumption) ?_
        simp only [Act.put, List.setIfInBounds_toArray, List.set_cons_zero, List.set_cons_succ]
        refine take_no (i := 28) (some 94) rfl (by kernel_rfl) (by kernel_rfl) (by kernel_rfl) (by kernel_rfl) (fun _ _ _ h => h) (by kernel_rfl) (by assumption) ?_
        simp only [Act.put, List.setIfInBounds_toArray, List.set_cons_zero, List.set_cons_succ]
        refine take_yes (i := 29) (some 95) (.bool true) rfl (by kernel_rfl) (by kernel_rfl) (by kernel_rfl) (by kernel_rfl) (fun _ _ _ h => h) (by kernel_rfl) (fun w _ => by rfl) (by assumption) ?_
        simp only [Act.put, List.setIfInBounds_toArray, List.set_cons_zero, List.set_cons_succ]
        refine wpAnyH_done (by kernel_rfl) ?_ _
        clear hHeld
        clear s0 z0 s1 z1 s2 z2 s3 z3 s4 z4 s5 z5
        have x0 := row_cell Q2.out (k := 0) rfl
        have x1 := row_cell Q2.out (k := 1) rfl
        have x2 := row_cell Q2.out (k := 2) rfl
        have x3 := row_cell Q2.out (k := 3) rfl
        have f0 := row_free Q2.out 0
        have f1 := row_free Q2.out 1
        have f2 := row_free Q2.out 2
        have f3 := row_free Q2.out 3
        go_wp2_with fail
        try simp only [Exit.inBlock, Exit.then]
        refine bodyPost_ret (v := .tuple #[.agg #[.int .i64 0, .slice none 0 0, .slice none 0 0, .slice none 0 0], .slice none 0 0, .int .i64 380]) ?_ rfl ?_
        · rw [results_cell_tmp2 rfl]
          go_simp
        · exact ren_off HV.out (by decide) ((((HB.out.setCell (Nat.le_succ _) _).setCell (Nat.le_succ _) _).setCell (Nat.le_succ _) _).setCell (Nat.le_succ _) _)
      | true =>
      rw [hrw] at HEF
      have HKF := Lib.hid (fun ww h1 h2 h3 h4 => kfit_any ep (.slice a1 rows.length k1) (.slice a2 owners.length k2) (.slice a3 cs.length k3) (.slice (some ⟨bc, oc, none⟩) c.length kc) (.slice rm m.length km) rows owners c m ww h1 h2 ⟨_, _, _, rfl⟩ h3 h4 (comB_dchk HP0.out HCE.out))
      have HZV : Hid (zeroN rows l css more k = fitL rows c m) := Lib.hid (by rw [HZN.out]; unfold zeroB; rw [HCE.out, ← HX.out, HX1.out, hrw]; rfl)
      clear hrw
      cases hfm : fitL rows c m with
      | false =>
        rw [hfm] at HKF
        have HV : Hid (renE rows owners ep cs l css more = 380) := Lib.hid (HE.out.trans (if_neg (by rw [HBD.out (by rw [HZV.out, hfm])]; decide)))
        clear hfm
        refine wp_region_held_drew (S := (fun w' => w'.cell? ⟨w2.heap.size, 0, none⟩ = some (.int .i64 ep) ∧ w'.cell? ⟨w2.heap.size, 1, none⟩ = some (.slice a1 rows.length k1) ∧ w'.cell? ⟨w2.heap.size, 2, none⟩ = some (.slice a2 owners.length k2) ∧ w'.cell? ⟨w2.heap.size, 3, none⟩ = some (.slice a3 cs.length k3) ∧ w'.cell? ⟨bc, oc, none⟩ = some (.int .i64 x) ∧ w'.cell? ⟨b2, o2 + k, none⟩ = some (.slice rm m.length km))) (by kernel_rfl) (by (try dsimp only); (first | exact ⟨z0, z1, z2, z3, z4, z5⟩ | exact ⟨s0, s1, s2, s3, s4, s5⟩ | go_keep)) (fun hHeld => ?_)
        refine take_yes (i := 0) (some 66) ?_ rfl (by kernel_rfl) (by kernel_rfl) (by kernel_rfl) (by kernel_rfl) (fun _ _ _ h => h) (by kernel_rfl) ?_ (by assumption) ?_
        rotate_left
        · (intro w hSw; (try dsimp only at hSw); go_simp; (try with_reducible rfl))
        simp only [Act.put, List.setIfInBounds_toArray, List.set_cons_zero, List.set_cons_succ]
        refine take_yes (i := 1) (some 67) _ rfl (by kernel_rfl) (by kernel_rfl) (by kernel_rfl) (by kernel_rfl) (fun _ _ _ h => h) (by kernel_rfl) (fun w _ => by rfl) (by assumption) ?_
        simp only [Act.put, List.setIfInBounds_toArray, List.set_cons_zero, List.set_cons_succ]
        refine wpAnyH_ready (rs := [2]) (by kernel_rfl) (by simp) ?_
        refine AllReadyH.cons rfl (fun K hK => ?_) AllReadyH.nil
        rw [if_pos (by rfl)]
        go_simp
        (go_at_call 24; (refine (HKC.out _ HR.out HIC.out).mono ?_); rintro e w6 ⟨rfl, hb6⟩; have z0 := below_cell hb6 s0; have z1 := below_cell hb6 s1; have z2 := below_cell hb6 s2; have z3 := below_cell hb6 s3; have z4 := below_cell hb6 s4; have z5 := below_cell hb6 s5; replace HR := Lib.hid (HR.out.below hb6); replace HO := Lib.hid (HO.out.below hb6); replace HC := Lib.hid (HC.out.below hb6); replace HL := Lib.hid (HL.out.below hb6); replace HCC := Lib.hid (HCC.out.below hb6); replace HMM := Lib.hid (HMM.out.below hb6); replace HIC := Lib.hid (HIC.out.below hb6); replace HIM := Lib.hid (HIM.out.below hb6); replace Q1 := Lib.hid ((hb6.block _ (row_lt Q1.out)).trans Q1.out); replace Q2 := Lib.hid ((hb6.block _ (row_lt Q2.out)).trans Q2.out); replace Q3 := Lib.hid ((hb6.block _ (row_lt Q3.out)).trans Q3.out); replace HB := Lib.hid (HB.out.trans (hb6.mono HB.out.size)); replace HBW := Lib.hid (HBW.out.trans (hb6.mono HBW.out.size)); clear hb6)
        refine hK.out _ _ (by (try dsimp only); (first | exact ⟨z0, z1, z2, z3, z4, z5⟩ | exact ⟨s0, s1, s2, s3, s4, s5⟩ | go_keep)) (fun hHeld => ?_)
        clear hK K
        try simp only [Act.put, List.setIfInBounds_toArray, List.set_cons_zero, List.set_cons_succ]
        refine take_yes (i := 3) (some 69) _ rfl (by kernel_rfl) (by kernel_rfl) (by kernel_rfl) (by kernel_rfl) (fun _ _ _ h => h) (by kernel_rfl) (fun w _ => by rfl) (by assumption) ?_
        simp only [Act.put, List.setIfInBounds_toArray, List.set_cons_zero, List.set_cons_succ]
        refine take_yes (i := 4) (some 70) _ rfl (by kernel_rfl) (by kernel_rfl) (by kernel_rfl) (by kernel_rfl) (fun _ _ _ h => h) (by kernel_rfl) (fun w _ => by rfl) (by assumption) ?_
        simp only [Act.put, List.setIfInBounds_toArray, List.set_cons_zero, List.set_cons_succ]
        refine take_yes (i := 5) (some 71) _ rfl (by kernel_rfl) (by kernel_rfl) (by kernel_rfl) (by kernel_rfl) (fun _ _ _ h => h) (by kernel_rfl) (fun w _ => by rfl) (by assumption) ?_
        simp only [Act.put, List.setIfInBounds_toArray, List.set_cons_zero, List.set_cons_succ]
        refine take_yes (i := 6) (some 72) ?_ rfl (by kernel_rfl) (by kernel_rfl) (by kernel_rfl) (by kernel_rfl) (fun _ _ _ h => h) (by kernel_rfl) ?_ (by assumption) ?_
        rotate_left
        · (intro w hSw; (try dsimp only at hSw); go_simp; (try with_reducible rfl))
        simp only [Act.put, List.setIfInBounds_toArray, List.set_cons_zero, List.set_cons_succ]
        refine take_yes (i := 7) (some 73) ?_ rfl (by kernel_rfl) (by kernel_rfl) (by kernel_rfl) (by kernel_rfl) (fun _ _ _ h => h) (by kernel_rfl) ?_ (by assumption) ?_
        rotate_left
        · (intro w hSw; (try dsimp only at hSw); go_simp; (try with_reducible rfl))
        simp only [Act.put, List.setIfInBounds_toArray, List.set_cons_zero, List.set_cons_succ]
        refine take_yes (i := 8) (some 74) ?_ rfl (by kernel_rfl) (by kernel_rfl) (by kernel_rfl) (by kernel_rfl) (fun _ _ _ h => h) (by kernel_rfl) ?_ (by assumption) ?_
        rotate_left
        · (intro w hSw; (try dsimp only at hSw); go_simp; (try with_reducible rfl))
        simp only [Act.put, List.setIfInBounds_toArray, List.set_cons_zero, List.set_cons_succ]
        refine take_yes (i := 9) (some 75) (.bool false) rfl (by kernel_rfl) (by kernel_rfl) (by kernel_rfl) (by kernel_rfl) (fun _ _ _ h => h) (by kernel_rfl) (fun w _ => by rfl) (by assumption) ?_
        simp only [Act.put, List.setIfInBounds_toArray, List.set_cons_zero, List.set_cons_succ]
        refine take_yes (i := 10) (some 76) _ rfl (by kernel_rfl) (by kernel_rfl) (by kernel_rfl) (by kernel_rfl) (fun _ _ _ h => h) (by kernel_rfl) (fun w _ => by rfl) (by assumption) ?_
        simp only [Act.put, List.setIfInBounds_toArray, List.set_cons_zero, List.set_cons_succ]
        refine take_yes (i := 11) (some 77) _ rfl (by kernel_rfl) (by kernel_rfl) (by kernel_rfl) (by kernel_rfl) (fun _ _ _ h => h) (by kernel_rfl) (fun w _ => by rfl) (by assumption) ?_
        simp only [Act.put, List.setIfInBounds_toArray, List.set_cons_zero, List.set_cons_succ]
        refine take_yes (i := 12) (some 78) _ rfl (by kernel_rfl) (by kernel_rfl) (by kernel_rfl) (by kernel_rfl) (fun _ _ _ h => h) (by kernel_rfl) (fun w _ => by rfl) (by assumption) ?_
        simp only [Act.put, List.setIfInBounds_toArray, List.set_cons_zero, List.set_cons_succ]
        refine take_yes (i := 13) (some 79) ?_ rfl (by kernel_rfl) (by kernel_rfl) (by kernel_rfl) (by kernel_rfl) (fun _ _ _ h => h) (by kernel_rfl) ?_ (by assumption) ?_
        rotate_left
        · (intro w hSw; (try dsimp only at hSw); go_simp; (try with_reducible rfl))
        simp only [Act.put, List.setIfInBounds_toArray, List.set_cons_zero, List.set_cons_succ]
        refine take_yes (i := 14) (some 80) ?_ rfl (by kernel_rfl) (by kernel_rfl) (by kernel_rfl) (by kernel_rfl) (fun _ _ _ h => h) (by kernel_rfl) ?_ (by assumption) ?_
        rotate_left
        · (intro w hSw; (try dsimp only at hSw); go_simp; (try with_reducible rfl))
        simp only [Act.put, List.setIfInBounds_toArray, List.set_cons_zero, List.set_cons_succ]
        refine take_yes (i := 15) (some 81) _ rfl (by kernel_rfl) (by kernel_rfl) (by kernel_rfl) (by kernel_rfl) (fun _ _ _ h => h) (by kernel_rfl) (fun w _ => by rfl) (by assumption) ?_
        simp only [Act.put, List.setIfInBounds_toArray, List.set_cons_zero, List.set_cons_succ]
        refine take_yes (i := 16) (some 82) _ rfl (by kernel_rfl) (by kernel_rfl) (by kernel_rfl) (by kernel_rfl) (fun _ _ _ h => h) (by kernel_rfl) (fun w _ => by rfl) (by assumption) ?_
        simp only [Act.put, List.setIfInBounds_toArray, List.set_cons_zero, List.set_cons_succ]
        refine wpAnyH_ready (rs := [17]) (by kernel_rfl) (by simp) ?_
        refine AllReadyH.cons rfl (fun K hK => ?_) AllReadyH.nil
        rw [if_pos (by rfl)]
        go_simp
        (go_at_call 25; (refine (HEF.out _ HIM.out HL.out).mono ?_); rintro e w7 ⟨rfl, hb7⟩; replace z0 := below_cell hb7 z0; replace z1 := below_cell hb7 z1; replace z2 := below_cell hb7 z2; replace z3 := below_cell hb7 z3; replace z4 := below_cell hb7 z4; replace z5 := below_cell hb7 z5; replace HR := Lib.hid (HR.out.below hb7); replace HO := Lib.hid (HO.out.below hb7); replace HC := Lib.hid (HC.out.below hb7); replace HL := Lib.hid (HL.out.below hb7); replace HCC := Lib.hid (HCC.out.below hb7); replace HMM := Lib.hid (HMM.out.below hb7); replace HIC := Lib.hid (HIC.out.below hb7); replace HIM := Lib.hid (HIM.out.below hb7); replace Q1 := Lib.hid ((hb7.block _ (row_lt Q1.out)).trans Q1.out); replace Q2 := Lib.hid ((hb7.block _ (row_lt Q2.out)).trans Q2.out); replace Q3 := Lib.hid ((hb7.block _ (row_lt Q3.out)).trans Q3.out); replace HB := Lib.hid (HB.out.trans (hb7.mono HB.out.size)); replace HBW := Lib.hid (HBW.out.trans (hb7.mono HBW.out.size)); clear hb7)
        refine hK.out _ _ (by (try dsimp only); (first | exact ⟨z0, z1, z2, z3, z4, z5⟩ | exact ⟨s0, s1, s2, s3, s4, s5⟩ | go_keep)) (fun hHeld => ?_)
        clear hK K
        try simp only [Act.put, List.setIfInBounds_toArray, List.set_cons_zero, List.set_cons_succ]
        refine take_yes (i := 18) (some 84) _ rfl (by kernel_rfl) (by kernel_rfl) (by kernel_rfl) (by kernel_rfl) (fun _ _ _ h => h) (by kernel_rfl) (fun w _ => by rfl) (by assumption) ?_
        simp only [Act.put, List.setIfInBounds_toArray, List.set_cons_zero, List.set_cons_succ]
        refine take_yes (i := 19) (some 85) (.bool false) rfl (by kernel_rfl) (by kernel_rfl) (by kernel_rfl) (by kernel_rfl) (fun _ _ _ h => h) (by kernel_rfl) (fun w _ => by rfl) (by assumption) ?_
        simp only [Act.put, List.setIfInBounds_toArray, List.set_cons_zero, List.set_cons_succ]
        refine take_yes (i := 20) (some 86) _ rfl (by kernel_rfl) (by kernel_rfl) (by kernel_rfl) (by kernel_rfl) (fun _ _ _ h => h) (by kernel_rfl) (fun w _ => by rfl) (by assumption) ?_
        simp only [Act.put, List.setIfInBounds_toArray, List.set_cons_zero, List.set_cons_succ]
        refine take_yes (i := 21) (some 87) ?_ rfl (by kernel_rfl) (by kernel_rfl) (by kernel_rfl) (by kernel_rfl) (fun _ _ _ h => h) (by kernel_rfl) ?_ (by assumption) ?_
        rotate_left
        · (intro w hSw; (try dsimp only at hSw); go_simp; (try with_reducible rfl))
        simp only [Act.put, List.setIfInBounds_toArray, List.set_cons_zero, List.set_cons_succ]
        refine take_yes (i := 22) (some 88) _ rfl (by kernel_rfl) (by kernel_rfl) (by kernel_rfl) (by kernel_rfl) (fun _ _ _ h => h) (by kernel_rfl) (fun w _ => by rfl) (by assumption) ?_
        simp only [Act.put, List.setIfInBounds_toArray, List.set_cons_zero, List.set_cons_succ]
        refine take_yes (i := 23) (some 89) _ rfl (by kernel_rfl) (by kernel_rfl) (by kernel_rfl) (by kernel_rfl) (fun _ _ _ h => h) (by kernel_rfl) (fun w _ => by rfl) (by assumption) ?_
        simp only [Act.put, List.setIfInBounds_toArray, List.set_cons_zero, List.set_cons_succ]
        refine take_yes (i := 24) (some 90) _ rfl (by kernel_rfl) (by kernel_rfl) (by kernel_rfl) (by kernel_rfl) (fun _ _ _ h => h) (by kernel_rfl) (fun w _ => by rfl) (by assumption) ?_
        simp only [Act.put, List.setIfInBounds_toArray, List.set_cons_zero, List.set_cons_succ]
        refine take_yes (i := 25) (some 91) ?_ rfl (by kernel_rfl) (by kernel_rfl) (by kernel_rfl) (by kernel_rfl) (fun _ _ _ h => h) (by kernel_rfl) ?_ (by assumption) ?_
        rotate_left
        · (intro w hSw; (try dsimp only at hSw); go_simp; (try with_reducible rfl))
        simp only [Act.put, List.setIfInBounds_toArray, List.set_cons_zero, List.set_cons_succ]
        refine take_yes (i := 26) (some 92) ?_ rfl (by kernel_rfl) (by kernel_rfl) (by kernel_rfl) (by kernel_rfl) (fun _ _ _ h => h) (by kernel_rfl) ?_ (by assumption) ?_
        rotate_left
        · (intro w hSw; (try dsimp only at hSw); go_simp; (try with_reducible rfl))
        simp only [Act.put, List.setIfInBounds_toArray, List.set_cons_zero, List.set_cons_succ]
        refine wpAnyH_ready (rs := [27]) (by kernel_rfl) (by simp) ?_
        refine AllReadyH.cons rfl (fun K hK => ?_) AllReadyH.nil
        rw [if_pos (by rfl)]
        go_simp
        (go_at_call 22; (refine (HKF.out _ HR.out HO.out HIC.out HIM.out).mono ?_); rintro e w8 ⟨rfl, hb8⟩; replace z0 := below_cell hb8 z0; replace z1 := below_cell hb8 z1; replace z2 := below_cell hb8 z2; replace z3 := below_cell hb8 z3; replace z4 := below_cell hb8 z4; replace z5 := below_cell hb8 z5; replace HR := Lib.hid (HR.out.below hb8); replace HO := Lib.hid (HO.out.below hb8); replace HC := Lib.hid (HC.out.below hb8); replace HL := Lib.hid (HL.out.below hb8); replace HCC := Lib.hid (HCC.out.below hb8); replace HMM := Lib.hid (HMM.out.below hb8); replace HIC := Lib.hid (HIC.out.below hb8); replace HIM := Lib.hid (HIM.out.below hb8); replace Q1 := Lib.hid ((hb8.block _ (row_lt Q1.out)).trans Q1.out); replace Q2 := Lib.hid ((hb8.block _ (row_lt Q2.out)).trans Q2.out); replace Q3 := Lib.hid ((hb8.block _ (row_lt Q3.out)).trans Q3.out); replace HB := Lib.hid (HB.out.trans (hb8.mono HB.out.size)); replace HBW := Lib.hid (HBW.out.trans (hb8.mono HBW.out.size)); clear hb8)
        refine hK.out _ _ (by (try dsimp only); (first | exact ⟨z0, z1, z2, z3, z4, z5⟩ | exact ⟨s0, s1, s2, s3, s4, s5⟩ | go_keep)) (fun hHeld => ?_)
        clear hK K
        try simp only [Act.put, List.setIfInBounds_toArray, List.set_cons_zero, List.set_cons_succ]
        refine take_yes (i := 28) (some 94) _ rfl (by kernel_rfl) (by kernel_rfl) (by kernel_rfl) (by kernel_rfl) (fun _ _ _ h => h) (by kernel_rfl) (fun w _ => by rfl) (by assumption) ?_
        simp only [Act.put, List.setIfInBounds_toArray, List.set_cons_zero, List.set_cons_succ]
        refine take_yes (i := 29) (some 95) _ rfl (by kernel_rfl) (by kernel_rfl) (by kernel_rfl) (by kernel_rfl) (fun _ _ _ h => h) (by kernel_rfl) (fun w _ => by rfl) (by assumption) ?_
        simp only [Act.put, List.setIfInBounds_toArray, List.set_cons_zero, List.set_cons_succ]
        refine wpAnyH_done (by kernel_rfl) ?_ _
        clear hHeld
        clear s0 z0 s1 z1 s2 z2 s3 z3 s4 z4 s5 z5
        have x0 := row_cell Q2.out (k := 0) rfl
        have x1 := row_cell Q2.out (k := 1) rfl
        have x2 := row_cell Q2.out (k := 2) rfl
        have x3 := row_cell Q2.out (k := 3) rfl
        have f0 := row_free Q2.out 0
        have f1 := row_free Q2.out 1
        have f2 := row_free Q2.out 2
        have f3 := row_free Q2.out 3
        go_wp2_with fail
        try simp only [Exit.inBlock, Exit.then]
        refine bodyPost_ret (v := .tuple #[.agg #[.int .i64 0, .slice none 0 0, .slice none 0 0, .slice none 0 0], .slice none 0 0, .int .i64 380]) ?_ rfl ?_
        · rw [results_cell_tmp2 rfl]
          go_simp
        · exact ren_off HV.out (by decide) ((((HB.out.setCell (Nat.le_succ _) _).setCell (Nat.le_succ _) _).setCell (Nat.le_succ _) _).setCell (Nat.le_succ _) _)
      | true =>
        rw [hfm] at HKF
        have HN : Hid (zerosB rows l css more (k + 1) = true) := Lib.hid (by rw [HSN.out, HZ.out, HZV.out, hfm]; rfl)
        clear hfm
        refine wp_region_held_drew (S := (fun w' => w'.cell? ⟨w2.heap.size, 0, none⟩ = some (.int .i64 ep) ∧ w'.cell? ⟨w2.heap.size, 1, none⟩ = some (.slice a1 rows.length k1) ∧ w'.cell? ⟨w2.heap.size, 2, none⟩ = some (.slice a2 owners.length k2) ∧ w'.cell? ⟨w2.heap.size, 3, none⟩ = some (.slice a3 cs.length k3) ∧ w'.cell? ⟨bc, oc, none⟩ = some (.int .i64 x) ∧ w'.cell? ⟨b2, o2 + k, none⟩ = some (.slice rm m.length km))) (by kernel_rfl) (by (try dsimp only); (first | exact ⟨z0, z1, z2, z3, z4, z5⟩ | exact ⟨s0, s1, s2, s3, s4, s5⟩ | go_keep)) (fun hHeld => ?_)
        refine take_yes (i := 0) (some 66) ?_ rfl (by kernel_rfl) (by kernel_rfl) (by kernel_rfl) (by kernel_rfl) (fun _ _ _ h => h) (by kernel_rfl) ?_ (by assumption) ?_
        rotate_left
        · (intro w hSw; (try dsimp only at hSw); go_simp; (try with_reducible rfl))
        simp only [Act.put, List.setIfInBounds_toArray, List.set_cons_zero, List.set_cons_succ]
        refine take_yes (i := 1) (some 67) _ rfl (by kernel_rfl) (by kernel_rfl) (by kernel_rfl) (by kernel_rfl) (fun _ _ _ h => h) (by kernel_rfl) (fun w _ => by rfl) (by assumption) ?_
        simp only [Act.put, List.setIfInBounds_toArray, List.set_cons_zero, List.set_cons_succ]
        refine wpAnyH_ready (rs := [2]) (by kernel_rfl) (by simp) ?_
        refine AllReadyH.cons rfl (fun K hK => ?_) AllReadyH.nil
        rw [if_pos (by rfl)]
        go_simp
        (go_at_call 24; (refine (HKC.out _ HR.out HIC.out).mono ?_); rintro e w6 ⟨rfl, hb6⟩; have z0 := below_cell hb6 s0; have z1 := below_cell hb6 s1; have z2 := below_cell hb6 s2; have z3 := below_cell hb6 s3; have z4 := below_cell hb6 s4; have z5 := below_cell hb6 s5; replace HR := Lib.hid (HR.out.below hb6); replace HO := Lib.hid (HO.out.below hb6); replace HC := Lib.hid (HC.out.below hb6); replace HL := Lib.hid (HL.out.below hb6); replace HCC := Lib.hid (HCC.out.below hb6); replace HMM := Lib.hid (HMM.out.below hb6); replace HIC := Lib.hid (HIC.out.below hb6); replace HIM := Lib.hid (HIM.out.below hb6); replace Q1 := Lib.hid ((hb6.block _ (row_lt Q1.out)).trans Q1.out); replace Q2 := Lib.hid ((hb6.block _ (row_lt Q2.out)).trans Q2.out); replace Q3 := Lib.hid ((hb6.block _ (row_lt Q3.out)).trans Q3.out); replace HB := Lib.hid (HB.out.trans (hb6.mono HB.out.size)); replace HBW := Lib.hid (HBW.out.trans (hb6.mono HBW.out.size)); clear hb6)
        refine hK.out _ _ (by (try dsimp only); (first | exact ⟨z0, z1, z2, z3, z4, z5⟩ | exact ⟨s0, s1, s2, s3, s4, s5⟩ | go_keep)) (fun hHeld => ?_)
        clear hK K
        try simp only [Act.put, List.setIfInBounds_toArray, List.set_cons_zero, List.set_cons_succ]
        refine take_yes (i := 3) (some 69) _ rfl (by kernel_rfl) (by kernel_rfl) (by kernel_rfl) (by kernel_rfl) (fun _ _ _ h => h) (by kernel_rfl) (fun w _ => by rfl) (by assumption) ?_
        simp only [Act.put, List.setIfInBounds_toArray, List.set_cons_zero, List.set_cons_succ]
        refine take_yes (i := 4) (some 70) _ rfl (by kernel_rfl) (by kernel_rfl) (by kernel_rfl) (by kernel_rfl) (fun _ _ _ h => h) (by kernel_rfl) (fun w _ => by rfl) (by assumption) ?_
        simp only [Act.put, List.setIfInBounds_toArray, List.set_cons_zero, List.set_cons_succ]
        refine take_yes (i := 5) (some 71) _ rfl (by kernel_rfl) (by kernel_rfl) (by kernel_rfl) (by kernel_rfl) (fun _ _ _ h => h) (by kernel_rfl) (fun w _ => by rfl) (by assumption) ?_
        simp only [Act.put, List.setIfInBounds_toArray, List.set_cons_zero, List.set_cons_succ]
        refine take_yes (i := 6) (some 72) ?_ rfl (by kernel_rfl) (by kernel_rfl) (by kernel_rfl) (by kernel_rfl) (fun _ _ _ h => h) (by kernel_rfl) ?_ (by assumption) ?_
        rotate_left
        · (intro w hSw; (try dsimp only at hSw); go_simp; (try with_reducible rfl))
        simp only [Act.put, List.setIfInBounds_toArray, List.set_cons_zero, List.set_cons_succ]
        refine take_yes (i := 7) (some 73) ?_ rfl (by kernel_rfl) (by kernel_rfl) (by kernel_rfl) (by kernel_rfl) (fun _ _ _ h => h) (by kernel_rfl) ?_ (by assumption) ?_
        rotate_left
        · (intro w hSw; (try dsimp only at hSw); go_simp; (try with_reducible rfl))
        simp only [Act.put, List.setIfInBounds_toArray, List.set_cons_zero, List.set_cons_succ]
        refine take_yes (i := 8) (some 74) ?_ rfl (by kernel_rfl) (by kernel_rfl) (by kernel_rfl) (by kernel_rfl) (fun _ _ _ h => h) (by kernel_rfl) ?_ (by assumption) ?_
        rotate_left
        · (intro w hSw; (try dsimp only at hSw); go_simp; (try with_reducible rfl))
        simp only [Act.put, List.setIfInBounds_toArray, List.set_cons_zero, List.set_cons_succ]
        refine take_yes (i := 9) (some 75) (.bool false) rfl (by kernel_rfl) (by kernel_rfl) (by kernel_rfl) (by kernel_rfl) (fun _ _ _ h => h) (by kernel_rfl) (fun w _ => by rfl) (by assumption) ?_
        simp only [Act.put, List.setIfInBounds_toArray, List.set_cons_zero, List.set_cons_succ]
        refine take_yes (i := 10) (some 76) _ rfl (by kernel_rfl) (by kernel_rfl) (by kernel_rfl) (by kernel_rfl) (fun _ _ _ h => h) (by kernel_rfl) (fun w _ => by rfl) (by assumption) ?_
        simp only [Act.put, List.setIfInBounds_toArray, List.set_cons_zero, List.set_cons_succ]
        refine take_yes (i := 11) (some 77) _ rfl (by kernel_rfl) (by kernel_rfl) (by kernel_rfl) (by kernel_rfl) (fun _ _ _ h => h) (by kernel_rfl) (fun w _ => by rfl) (by assumption) ?_
        simp only [Act.put, List.setIfInBounds_toArray, List.set_cons_zero, List.set_cons_succ]
        refine take_yes (i := 12) (some 78) _ rfl (by kernel_rfl) (by kernel_rfl) (by kernel_rfl) (by kernel_rfl) (fun _ _ _ h => h) (by kernel_rfl) (fun w _ => by rfl) (by assumption) ?_
        simp only [Act.put, List.setIfInBounds_toArray, List.set_cons_zero, List.set_cons_succ]
        refine take_yes (i := 13) (some 79) ?_ rfl (by kernel_rfl) (by kernel_rfl) (by kernel_rfl) (by kernel_rfl) (fun _ _ _ h => h) (by kernel_rfl) ?_ (by assumption) ?_
        rotate_left
        · (intro w hSw; (try dsimp only at hSw); go_simp; (try with_reducible rfl))
        simp only [Act.put, List.setIfInBounds_toArray, List.set_cons_zero, List.set_cons_succ]
        refine take_yes (i := 14) (some 80) ?_ rfl (by kernel_rfl) (by kernel_rfl) (by kernel_rfl) (by kernel_rfl) (fun _ _ _ h => h) (by kernel_rfl) ?_ (by assumption) ?_
        rotate_left
        · (intro w hSw; (try dsimp only at hSw); go_simp; (try with_reducible rfl))
        simp only [Act.put, List.setIfInBounds_toArray, List.set_cons_zero, List.set_cons_succ]
        refine take_yes (i := 15) (some 81) _ rfl (by kernel_rfl) (by kernel_rfl) (by kernel_rfl) (by kernel_rfl) (fun _ _ _ h => h) (by kernel_rfl) (fun w _ => by rfl) (by assumption) ?_
        simp only [Act.put, List.setIfInBounds_toArray, List.set_cons_zero, List.set_cons_succ]
        refine take_yes (i := 16) (some 82) _ rfl (by kernel_rfl) (by kernel_rfl) (by kernel_rfl) (by kernel_rfl) (fun _ _ _ h => h) (by kernel_rfl) (fun w _ => by rfl) (by assumption) ?_
        simp only [Act.put, List.setIfInBounds_toArray, List.set_cons_zero, List.set_cons_succ]
        refine wpAnyH_ready (rs := [17]) (by kernel_rfl) (by simp) ?_
        refine AllReadyH.cons rfl (fun K hK => ?_) AllReadyH.nil
        rw [if_pos (by rfl)]
        go_simp
        (go_at_call 25; (refine (HEF.out _ HIM.out HL.out).mono ?_); rintro e w7 ⟨rfl, hb7⟩; replace z0 := below_cell hb7 z0; replace z1 := below_cell hb7 z1; replace z2 := below_cell hb7 z2; replace z3 := below_cell hb7 z3; replace z4 := below_cell hb7 z4; replace z5 := below_cell hb7 z5; replace HR := Lib.hid (HR.out.below hb7); replace HO := Lib.hid (HO.out.below hb7); replace HC := Lib.hid (HC.out.below hb7); replace HL := Lib.hid (HL.out.below hb7); replace HCC := Lib.hid (HCC.out.below hb7); replace HMM := Lib.hid (HMM.out.below hb7); replace HIC := Lib.hid (HIC.out.below hb7); replace HIM := Lib.hid (HIM.out.below hb7); replace Q1 := Lib.hid ((hb7.block _ (row_lt Q1.out)).trans Q1.out); replace Q2 := Lib.hid ((hb7.block _ (row_lt Q2.out)).trans Q2.out); replace Q3 := Lib.hid ((hb7.block _ (row_lt Q3.out)).trans Q3.out); replace HB := Lib.hid (HB.out.trans (hb7.mono HB.out.size)); replace HBW := Lib.hid (HBW.out.trans (hb7.mono HBW.out.size)); clear hb7)
        refine hK.out _ _ (by (try dsimp only); (first | exact ⟨z0, z1, z2, z3, z4, z5⟩ | exact ⟨s0, s1, s2, s3, s4, s5⟩ | go_keep)) (fun hHeld => ?_)
        clear hK K
        try simp only [Act.put, List.setIfInBounds_toArray, List.set_cons_zero, List.set_cons_succ]
        refine take_yes (i := 18) (some 84) _ rfl (by kernel_rfl) (by kernel_rfl) (by kernel_rfl) (by kernel_rfl) (fun _ _ _ h => h) (by kernel_rfl) (fun w _ => by rfl) (by assumption) ?_
        simp only [Act.put, List.setIfInBounds_toArray, List.set_cons_zero, List.set_cons_succ]
        refine take_yes (i := 19) (some 85) (.bool false) rfl (by kernel_rfl) (by kernel_rfl) (by kernel_rfl) (by kernel_rfl) (fun _ _ _ h => h) (by kernel_rfl) (fun w _ => by rfl) (by assumption) ?_
        simp only [Act.put, List.setIfInBounds_toArray, List.set_cons_zero, List.set_cons_succ]
        refine take_yes (i := 20) (some 86) _ rfl (by kernel_rfl) (by kernel_rfl) (by kernel_rfl) (by kernel_rfl) (fun _ _ _ h => h) (by kernel_rfl) (fun w _ => by rfl) (by assumption) ?_
        simp only [Act.put, List.setIfInBounds_toArray, List.set_cons_zero, List.set_cons_succ]
        refine take_yes (i := 21) (some 87) ?_ rfl (by kernel_rfl) (by kernel_rfl) (by kernel_rfl) (by kernel_rfl) (fun _ _ _ h => h) (by kernel_rfl) ?_ (by assumption) ?_
        rotate_left
        · (intro w hSw; (try dsimp only at hSw); go_simp; (try with_reducible rfl))
        simp only [Act.put, List.setIfInBounds_toArray, List.set_cons_zero, List.set_cons_succ]
        refine take_yes (i := 22) (some 88) _ rfl (by kernel_rfl) (by kernel_rfl) (by kernel_rfl) (by kernel_rfl) (fun _ _ _ h => h) (by kernel_rfl) (fun w _ => by rfl) (by assumption) ?_
        simp only [Act.put, List.setIfInBounds_toArray, List.set_cons_zero, List.set_cons_succ]
        refine take_yes (i := 23) (some 89) _ rfl (by kernel_rfl) (by kernel_rfl) (by kernel_rfl) (by kernel_rfl) (fun _ _ _ h => h) (by kernel_rfl) (fun w _ => by rfl) (by assumption) ?_
        simp only [Act.put, List.setIfInBounds_toArray, List.set_cons_zero, List.set_cons_succ]
        refine take_yes (i := 24) (some 90) _ rfl (by kernel_rfl) (by kernel_rfl) (by kernel_rfl) (by kernel_rfl) (fun _ _ _ h => h) (by kernel_rfl) (fun w _ => by rfl) (by assumption) ?_
        simp only [Act.put, List.setIfInBounds_toArray, List.set_cons_zero, List.set_cons_succ]
        refine take_yes (i := 25) (some 91) ?_ rfl (by kernel_rfl) (by kernel_rfl) (by kernel_rfl) (by kernel_rfl) (fun _ _ _ h => h) (by kernel_rfl) ?_ (by assumption) ?_
        rotate_left
        · (intro w hSw; (try dsimp only at hSw); go_simp; (try with_reducible rfl))
        simp only [Act.put, List.setIfInBounds_toArray, List.set_cons_zero, List.set_cons_succ]
        refine take_yes (i := 26) (some 92) ?_ rfl (by kernel_rfl) (by kernel_rfl) (by kernel_rfl) (by kernel_rfl) (fun _ _ _ h => h) (by kernel_rfl) ?_ (by assumption) ?_
        rotate_left
        · (intro w hSw; (try dsimp only at hSw); go_simp; (try with_reducible rfl))
        simp only [Act.put, List.setIfInBounds_toArray, List.set_cons_zero, List.set_cons_succ]
        refine wpAnyH_ready (rs := [27]) (by kernel_rfl) (by simp) ?_
        refine AllReadyH.cons rfl (fun K hK => ?_) AllReadyH.nil
        rw [if_pos (by rfl)]
        go_simp
        (go_at_call 22; (refine (HKF.out _ HR.out HO.out HIC.out HIM.out).mono ?_); rintro e w8 ⟨rfl, hb8⟩; replace z0 := below_cell hb8 z0; replace z1 := below_cell hb8 z1; replace z2 := below_cell hb8 z2; replace z3 := below_cell hb8 z3; replace z4 := below_cell hb8 z4; replace z5 := below_cell hb8 z5; replace HR := Lib.hid (HR.out.below hb8); replace HO := Lib.hid (HO.out.below hb8); replace HC := Lib.hid (HC.out.below hb8); replace HL := Lib.hid (HL.out.below hb8); replace HCC := Lib.hid (HCC.out.below hb8); replace HMM := Lib.hid (HMM.out.below hb8); replace HIC := Lib.hid (HIC.out.below hb8); replace HIM := Lib.hid (HIM.out.below hb8); replace Q1 := Lib.hid ((hb8.block _ (row_lt Q1.out)).trans Q1.out); replace Q2 := Lib.hid ((hb8.block _ (row_lt Q2.out)).trans Q2.out); replace Q3 := Lib.hid ((hb8.block _ (row_lt Q3.out)).trans Q3.out); replace HB := Lib.hid (HB.out.trans (hb8.mono HB.out.size)); replace HBW := Lib.hid (HBW.out.trans (hb8.mono HBW.out.size)); clear hb8)
        refine hK.out _ _ (by (try dsimp only); (first | exact ⟨z0, z1, z2, z3, z4, z5⟩ | exact ⟨s0, s1, s2, s3, s4, s5⟩ | go_keep)) (fun hHeld => ?_)
        clear hK K
        try simp only [Act.put, List.setIfInBounds_toArray, List.set_cons_zero, List.set_cons_succ]
        refine take_yes (i := 28) (some 94) _ rfl (by kernel_rfl) (by kernel_rfl) (by kernel_rfl) (by kernel_rfl) (fun _ _ _ h => h) (by kernel_rfl) (fun w _ => by rfl) (by assumption) ?_
        simp only [Act.put, List.setIfInBounds_toArray, List.set_cons_zero, List.set_cons_succ]
        refine take_yes (i := 29) (some 95) _ rfl (by kernel_rfl) (by kernel_rfl) (by kernel_rfl) (by kernel_rfl) (fun _ _ _ h => h) (by kernel_rfl) (fun w _ => by rfl) (by assumption) ?_
        simp only [Act.put, List.setIfInBounds_toArray, List.set_cons_zero, List.set_cons_succ]
        refine wpAnyH_done (by kernel_rfl) ?_ _
        clear hHeld
        clear s0 z0 s1 z1 s2 z2 s3 z3 s4 z4 s5 z5
        go_wp2_with fail
        go_roundw
        case rel => exact ⟨k + 1, by omega, by go_num, HN, HBW.out⟩
        case measure => simp [intOf]; omega
    · obtain rfl : k = css.length := by omega
      have hdk : decide (css.length < css.length) = false := decide_eq_false (by omega)
      have HV : Hid (renE rows owners ep cs l css more = 0) := Lib.hid (HE.out.trans (if_pos HZ.out))
      replace HR := Lib.hid (HR.out.below hb)
      replace HO := Lib.hid (HO.out.below hb)
      replace HC := Lib.hid (HC.out.below hb)
      replace HL := Lib.hid (HL.out.below hb)
      replace HCC := Lib.hid (HCC.out.below hb)
      replace HMM := Lib.hid (HMM.out.below hb)
      replace Q1 := Lib.hid ((hb.block _ (row_lt Q1.out)).trans Q1.out)
      replace Q2 := Lib.hid ((hb.block _ (row_lt Q2.out)).trans Q2.out)
      replace Q3 := Lib.hid ((hb.block _ (row_lt Q3.out)).trans Q3.out)
      replace HB := Lib.hid (HB.out.trans (hb.mono HB.out.size))
      clear hb
      obtain ⟨wl, hwl⟩ : ∃ wl : World, wl = wr := ⟨_, rfl⟩
      rw [← hwl] at Q1 Q2 HB ⊢
      clear hwl HR HO HC HL HCC HMM Q3 HBW
      have HCX := Lib.hid (IntsX.of HC0.out HB.out wl.heap.size)
      have HLX := Lib.hid (SharesX.of HL0.out HB.out wl.heap.size)
      have HBL : Hid (w.heap.size + 1 < wl.heap.size) := Lib.hid (row_lt Q2.out)
      have HMR : Hid (∀ i, i < css.length → (more.getD i []).length = l.length ∧ comB rows (css.getD i []) = true) := Lib.hid (fun i hi => by
        have h := zerosB_at HZ.out hi
        unfold zeroN zeroB at h
        simp only [Bool.and_eq_true, decide_eq_true_eq] at h
        exact ⟨rowsS_len h.2.2.1, h.1⟩)
      have HMA : Hid (∀ m ∈ more, m.length = l.length) := Lib.hid (fun m hm => by
        obtain ⟨i, hi, rfl⟩ := List.mem_iff_getElem.1 hm
        have h := (HMR.out i (by rw [← HML.out]; exact hi)).1
        rwa [getD_at hi] at h)
      have c1 := row_cell Q1.out (k := 1) rfl
      go_wp2_with fail
      clear c1
      go_loopw [1, 100] (fun lI i W => ∃ k : Nat, k ≤ css.length ∧ i = .int .i64 k ∧ ∃ cvI, Hid (W.heap[w.heap.size]? = some (.cells #[.int .i64 ep, .slice a1 rows.length k1, .slice a2 owners.length k2, cvI] 27 (0, 0))) ∧ Hid (W.heap[w.heap.size + 1]? = some (.cells #[.int .i64 0, .slice none 0 0, .slice none 0 0, .slice none 0 0] 27 (0, 0))) ∧ Hid (IntsX w.heap.size wl.heap.size W cvI (renC cs (css.take k))) ∧ Hid (SharesX w.heap.size wl.heap.size W lI (renL l (more.take k))) ∧ Hid (Below w.heap.size w W) ∧ Hid (wl.heap.size ≤ W.heap.size)) (fun _ i _ => css.length - (intOf i).toNat)
      case atStart => exact ⟨0, Nat.zero_le _, rfl, _, Q1, Q2, HCX, HLX, HB, Lib.hid (Nat.le_refl _)⟩
      case round =>
        clear HCX HLX Q1 Q2 HB
        obtain ⟨k, hkl, rfl, cvI, Q1, Q2, HCI, HLI, HB, HSZ⟩ := hrel
        by_cases hlt : k < css.length
        · obtain ⟨b1, o1, n1, k9, r1, e1, q1, i1⟩ := (HCC0.out.below HB.out).get hlt
          simp only [Value.slice.injEq] at e1
          obtain ⟨rfl, -, -⟩ := e1
          obtain ⟨hme, hcc⟩ := HMR.out k hlt
          have hA := renC_el HCB.out HZ.out k hkl
          have hce := comB_el hcc
          have HCT := Lib.hid (renC_take cs css hlt)
          have HLT := Lib.hid (renL_take l more (k := k) (by rw [HML.out]; exact hlt))
          have HRR := Lib.hid (renL_rows l (more.take (k + 1)) (fun m hm => HMA.out m (List.mem_of_mem_take hm)) HLR.out)
          have hLL := renL_len l (more.take k)
          have hgm : more.getD k [] = more[k]'(by rw [HML.out]; exact hlt) := getD_at (by rw [HML.out]; exact hlt) []
          have hgc : css.getD k [] = css[k] := getD_at hlt []
          rw [← hgm] at HLT
          rw [← hgc] at HCT
          have hcu := HCU.out
          have hlb := HLB.out
          have hfw := HFEW.out
          have HPI := Lib.hid (fun u v ww h1 h2 => pairI_any u v (renC cs (css.take k)) (css.getD k []) ww h1 h2 (by rw [hA.2, hce.2]; exact Nat.le_refl _) (by rw [hA.2]; omega) hA.1 hce.1)
          have HPS := Lib.hid (fun u v ww h1 h2 => pairS_any u v (renL l (more.take k)) (more.getD k []) ww h1 h2 (by rw [hLL, hme]; exact Nat.le_refl _) (by rw [hLL]; omega))
          have HA2 := Lib.hid hA.2
          have HEL := Lib.hid (mulL_el hA.1 hce.1 (by rw [hA.2, hce.2]; exact Nat.le_refl _))
          have HLL := Lib.hid hLL
          clear hA hce hme hcc hgm hgc hLL
          generalize css.getD k [] = c at *
          obtain ⟨m, hm2⟩ : ∃ m, m = more.getD k [] := ⟨_, rfl⟩
          rw [← hm2] at HLT HPS
          have HM := Lib.hid hm2
          clear hm2
          generalize renC cs (css.take k) = A at *
          generalize renL l (more.take k) = L at *
          obtain ⟨rc, kc, rfl, -⟩ := id i1
          obtain ⟨ca, ck, rfl, -⟩ := id HCI.out
          obtain ⟨la, lk, rfl, -⟩ := id HLI.out
          have HIC := Lib.hid i1
          have j0 : (0 : Int) ≤ (k : Int) := by omega
          have j1 : (k : Int) < (css.length : Int) := by omega
          have j2 : (k : Int) < (more.length : Int) := by have := HML.out; omega
          have c3 := row_cell Q1.out (k := 3) rfl
          clear i1
          go_wp2_with fail
          clear c3 q1
          refine (HPI.out _ _ _ HCI.out.ints HIC.out).mono ?_
          rintro e w6 ⟨x, rfl, hox, hb6⟩
          obtain ⟨xa, xk, rfl⟩ := own_shape hox
          have hx6 : IntsX w.heap.size wl.heap.size w6 (.slice xa A.length xk) (mulL A c) := IntsX.own hox HSZ.out (fun z hz => (HEL.out z hz).r64) (by rw [mulL_len, HA2.out]; omega)
          have HB6 := Lib.hid (HB.out.trans (hb6.mono HB.out.size))
          have Q16 := Lib.hid ((hb6.block _ (row_lt Q1.out)).trans Q1.out)
          have Q26 := Lib.hid ((hb6.block _ (row_lt Q2.out)).trans Q2.out)
          have HL6 := Lib.hid (HLI.out.below hb6)
          have HS6 := Lib.hid (Nat.le_trans HSZ.out hb6.size)
          have HX6 := Lib.hid hx6
          obtain ⟨W7, hW7⟩ : ∃ W7, W7 = w6.setCell ⟨w.heap.size, 3, none⟩ (.slice xa A.length xk) := ⟨_, rfl⟩
          have Q17 : Hid (W7.heap[w.heap.size]? = some (.cells #[.int .i64 ep, .slice a1 rows.length k1, .slice a2 owners.length k2, .slice xa A.length xk] 27 (0, 0))) := Lib.hid (by rw [hW7]; exact row_set Q16.out 3 _)
          have Q27 := Lib.hid (show W7.heap[w.heap.size + 1]? = some (.cells #[.int .i64 0, .slice none 0 0, .slice none 0 0, .slice none 0 0] 27 (0, 0)) by rw [hW7, heap_setCell_other _ _ _ _ (by simp)]; exact Q26.out)
          have hbl := HBL.out
          have HX7 := Lib.hid (show IntsX w.heap.size wl.heap.size W7 (.slice xa A.length xk) (mulL A c) by rw [hW7]; exact HX6.out.set (Nat.le_refl _) (by omega) _)
          have HL7 := Lib.hid (show SharesX w.heap.size wl.heap.size W7 (.slice la L.length lk) L by rw [hW7]; exact HL6.out.set (Nat.le_refl _) (by omega) _)
          have HB7 := Lib.hid (show Below w.heap.size w W7 by rw [hW7]; exact HB6.out.setCell (Nat.le_refl _) _)
          have HS7 := Lib.hid (show wl.heap.size ≤ W7.heap.size by rw [hW7, World.size_setCell]; exact HS6.out)
          have HW7 := Lib.hid hW7
          have z3 := row_cell Q16.out (k := 3) rfl
          have f3 := row_free Q16.out 3
          obtain ⟨b2, o2, n2, k8, r2, e2, q2, i2⟩ := (HMM0.out.below HB7.out).get (k := k) (by rw [HML.out]; exact hlt)
          simp only [Value.slice.injEq] at e2
          obtain ⟨rfl, -, -⟩ := e2
          rw [← HM.out] at i2
          obtain ⟨rm, km, rfl, -⟩ := id i2
          have HIM := Lib.hid i2
          clear i2
          rw [HW7.out] at q2
          go_wp2_with fail
          rw [← HW7.out]
          clear q2 z3 f3
          with_reducible refine (HPS.out _ _ _ HL7.out.shares HIM.out).mono ?_
          rintro e w8 ⟨y, rfl, hoy, hb8⟩
          have HY8 := Lib.hid (show SharesX w.heap.size wl.heap.size w8 y (addS L m) from SharesX.own hoy HS7.out (by rw [← HLT.out]; exact HRR.out) (by rw [addS_len, HLL.out]; omega))
          have HB8 := Lib.hid (HB7.out.trans (hb8.mono HB7.out.size))
          have Q18 := Lib.hid ((hb8.block _ (row_lt Q17.out)).trans Q17.out)
          have Q28 := Lib.hid ((hb8.block _ (row_lt Q27.out)).trans Q27.out)
          have HX8 := Lib.hid (HX7.out.below hb8)
          have HS8 := Lib.hid (Nat.le_trans HS7.out hb8.size)
          clear hoy hb8 hox hb6 hx6 hW7
          go_wp2_with fail
          go_roundw
          case rel => exact ⟨k + 1, by omega, by go_num, _, Q18, Q28, by rw [HCT.out]; exact HX8, by rw [HLT.out]; exact HY8, HB8, HS8⟩
          case measure => simp [intOf]; omega
        · obtain rfl : k = css.length := by omega
          have hdk2 : decide (css.length < css.length) = false := decide_eq_false (by omega)
          rw [List.take_length] at HCI
          rw [List.take_of_length_le (by rw [HML.out]; exact Nat.le_refl _)] at HLI
          obtain ⟨ca, ck, rfl, -⟩ := id HCI.out
          obtain ⟨la, lk, rfl, -⟩ := id HLI.out
          have hwe : IntKind.i64.wrap (ep + 1) = ep + 1 := by rw [IntKind.wrap_i64]; omega
          have hbl := HBL.out
          obtain ⟨W7, hW7⟩ : ∃ W7, W7 = wr.setCell ⟨w.heap.size, 0, none⟩ (.int .i64 (ep + 1)) := ⟨_, rfl⟩
          have Q17 : Hid (W7.heap[w.heap.size]? = some (.cells #[.int .i64 (ep + 1), .slice a1 rows.length k1, .slice a2 owners.length k2, .slice ca (renC cs css).length ck] 27 (0, 0))) := Lib.hid (by rw [hW7]; exact row_set Q1.out 0 _)
          have Q27 := Lib.hid (show W7.heap[w.heap.size + 1]? = some (.cells #[.int .i64 0, .slice none 0 0, .slice none 0 0, .slice none 0 0] 27 (0, 0)) by rw [hW7, heap_setCell_other _ _ _ _ (by simp)]; exact Q2.out)
          have HX7 := Lib.hid (show IntsX w.heap.size wl.heap.size W7 (.slice ca (renC cs css).length ck) (renC cs css) by rw [hW7]; exact HCI.out.set (Nat.le_refl _) (by omega) _)
          have HL7 := Lib.hid (show SharesX w.heap.size wl.heap.size W7 (.slice la (renL l more).length lk) (renL l more) by rw [hW7]; exact HLI.out.set (Nat.le_refl _) (by omega) _)
          have HB7 := Lib.hid (show Below w.heap.size w W7 by rw [hW7]; exact HB.out.setCell (Nat.le_refl _) _)
          have HW7 := Lib.hid hW7
          have c0 := row_cell Q1.out (k := 0) rfl
          have g0 := row_free Q1.out 0
          have z0 := row_cell Q17.out (k := 0) rfl
          have z1 := row_cell Q17.out (k := 1) rfl
          have z2 := row_cell Q17.out (k := 2) rfl
          have z3 := row_cell Q17.out (k := 3) rfl
          have x0 := row_cell Q27.out (k := 0) rfl
          have x1 := row_cell Q27.out (k := 1) rfl
          have x2 := row_cell Q27.out (k := 2) rfl
          have x3 := row_cell Q27.out (k := 3) rfl
          have f0 := row_free Q27.out 0
          have f1 := row_free Q27.out 1
          have f2 := row_free Q27.out 2
          have f3 := row_free Q27.out 3
          clear hW7
          go_wp2_with (rw [← HW7.out])
          try simp only [Exit.inBlock, Exit.then]
          refine bodyPost_ret (v := .tuple #[.agg #[.int .i64 (ep + 1), .slice a1 rows.length k1, .slice a2 owners.length k2, .slice ca (renC cs css).length ck], .slice la (renL l more).length lk, .int .i64 0]) ?_ rfl ?_
          · rw [results_cell_tmp2 rfl]
            go_simp
          · refine ⟨_, _, by rw [HV.out], fun _ => ⟨_, rfl, ((((HX7.out.set (Nat.le_succ _) hbl _).set (Nat.le_succ _) hbl _).set (Nat.le_succ _) hbl _).set (Nat.le_succ _) hbl _).ints, ((((HL7.out.set (Nat.le_succ _) hbl _).set (Nat.le_succ _) hbl _).set (Nat.le_succ _) hbl _).set (Nat.le_succ _) hbl _).shares⟩, fun h => absurd HV.out h, (((HB7.out.setCell (Nat.le_succ _) _).setCell (Nat.le_succ _) _).setCell (Nat.le_succ _) _).setCell (Nat.le_succ _) _⟩

end Go.Proofs.YtnbkbnbmmkfckaaGreat
