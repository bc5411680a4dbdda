/- The laws of moving: MovingMoveSpec. A law's argument that is a share or a list of shares. A law's argument that is a list of shares. A law's argument that is a key. A law's argument that is a list of lists of shares. -/
import Derived.Test.YtjjoadmkpbmhpaaGreatMMvV
import Derived.Test.YtjjoadmkpbmhpaaGreatMMvI
import Derived.Test.YtjjoadmkpbmhpaaGreatMReP
import Derived.Test.YtjjoadmkpbmhpaaGreatMDeaD
import Derived.Test.YtjjoadmkpbmhpaaGreatMRbP
import Derived.ChangeSame
import Derived.ChangeArms
namespace Go.Proofs.YtjjoadmkpbmhpaaGreat
open Go.RowKit FP

/-- What both Moves give. -/
def MvN (E : Int) (RR : List (List Int)) (OO CC : List Int) (LL : List (Int × Int)) (ME : Int) (w : World) (e : Ending) (w' : World) : Prop :=
  ∃ ra rn rc oa on oc ka kn kc la ln lc, e = .returned (.tuple #[.agg #[.int .i64 E, .slice ra rn rc, .slice oa on oc, .slice ka kn kc], .slice la ln lc, .int .i64 ME]) ∧ Rows2 w' (.slice ra rn rc) RR ∧ Ints w' (.slice oa on oc) OO ∧ Ints w' (.slice ka kn kc) CC ∧ Shares w' (.slice la ln lc) LL ∧ Below w.heap.size w w'
theorem mv_norm {ep : Int} {rv2 ov2 : Value} {C : List Int} {L : List (Int × Int)} {ME : Int} {w : World} {rows2 : List (List Int)} {owners2 : List Int} (hR : Rows2 w rv2 rows2) (hO : Ints w ov2 owners2) {e : Ending} {w' : World} (h : MvPost ep rv2 ov2 C L ME w e w') :
    MvN (if ME = 0 then ep + 1 else 0) (if ME = 0 then rows2 else []) (if ME = 0 then owners2 else []) (if ME = 0 then C else []) (if ME = 0 then L else []) ME w e w' := by
  obtain ⟨E', rv', ov', kv, lv', rfl, hY, hN, hb⟩ := h
  by_cases h0 : ME = 0
  · obtain ⟨rfl, rfl, rfl, hi, hs⟩ := hY h0
    simp only [if_pos h0]
    obtain ⟨ra, rc, rfl, -⟩ := id hR
    obtain ⟨oa, oc, rfl, -⟩ := id hO
    obtain ⟨ka, kc, rfl, -⟩ := id hi.1
    obtain ⟨la, lc, rfl, -⟩ := id hs.1
    exact ⟨_, _, _, _, _, _, _, _, _, _, _, _, rfl, hR.below hb, hO.below hb, hi.1, hs.1, hb⟩
  · obtain ⟨rfl, rfl, rfl, rfl, rfl⟩ := hN h0
    simp only [if_neg h0]
    exact ⟨_, _, _, _, _, _, _, _, _, _, _, _, rfl, Rows2.nil _ _ _, Ints.nil _ _ _, Ints.nil _ _ _, Shares.nil _ _ _, hb⟩

set_option maxRecDepth 100000 in
set_option maxHeartbeats 16000000 in
theorem movingMoveSpec_any (rv ov cv rv2 ov2 wv rwv cmv lv : Value) (ep : Int) (rows : List (List Int)) (owners cs : List Int) (rows2 : List (List Int)) (owners2 who rws : List Int) (css : List (List Int)) (ls : List (List (Int × Int))) (w : World) (_hep : R64 ep) (hR : Rows2 w rv rows) (hO : Ints w ov owners) (hC : Ints w cv cs) (hR2 : Rows2 w rv2 rows2) (hO2 : Ints w ov2 owners2) (hWH : Ints w wv who) (hRW : Ints w rwv rws) (hCS : Rows2 w cmv css) (hLS : SRows w lv ls) :
    Calls Tryz.prog 4 #[.agg #[.int .i64 ep, rv, ov, cv], .agg #[rv2, ov2], wv, rwv, cmv, lv] w fun e w' => e = .returned (.bool true) ∧ Below w.heap.size w w' := by
  obtain ⟨W0, hW0, hb0, hr0, hs0⟩ := box_key w (.int .i64 ep) rv ov cv 27
  obtain ⟨W1, hW1, hb1, hr1, hz1⟩ := box_prog W0 rv2 ov2 25
  have hs1 : W1.heap.size = W0.heap.size + 1 := by rw [hW1]; simp
  have t0 : Below w.heap.size w W0 := hb0
  have t1 : Below w.heap.size w W1 := t0.trans (hb1.mono t0.size)
  have Q0 := Lib.hid ((hb1.block _ (row_lt hr0)).trans hr0)
  have Q1 := Lib.hid hr1
  rw [hs0] at Q1
  have HB := Lib.hid t1
  have HR := Lib.hid (hR.below t1)
  have HO := Lib.hid (hO.below t1)
  have HC := Lib.hid (hC.below t1)
  have HR2 := Lib.hid (hR2.below t1)
  have HO2 := Lib.hid (hO2.below t1)
  have HWH := Lib.hid (hWH.below t1)
  have HRW := Lib.hid (hRW.below t1)
  have HCS := Lib.hid (hCS.below t1)
  have HLS := Lib.hid (hLS.below t1)
  obtain ⟨a1, k1, rfl, -, hl1, -⟩ := id hR
  obtain ⟨a2, k2, rfl, -, hl2, -⟩ := id hO
  obtain ⟨a3, k3, rfl, -, hl3, -⟩ := id hC
  obtain ⟨a4, k4, rfl, -, hl4, -⟩ := id hR2
  obtain ⟨a5, k5, rfl, -, hl5, -⟩ := id hO2
  obtain ⟨a6, k6, rfl, -, hl6, -⟩ := id hCS
  obtain ⟨a7, k7, rfl, -, hl7, -⟩ := id hLS
  obtain ⟨a8, k8, rfl, -, hl8, -⟩ := id hWH
  obtain ⟨a9, k9, rfl, -, hl9, -⟩ := id hRW
  rw [hW0] at hW1
  have HWB := Lib.hid hW1
  clear hW0 hb0 hr0 hs0 t0 hW1 hb1 hr1 hs1 t1 hz1
  clear hR hO hC hR2 hO2 hWH hRW hCS hLS
  go_enter Tryz.func4, Tryz.ntmps4
  go_wp2_with (rw [← HWB.out])
  clear HWB
  with_reducible refine (sane39_any _).mono ?_
  rintro e w2 ⟨rfl, hb2⟩
  replace HR := Lib.hid (HR.out.below hb2)
  replace HO := Lib.hid (HO.out.below hb2)
  replace HC := Lib.hid (HC.out.below hb2)
  replace HR2 := Lib.hid (HR2.out.below hb2)
  replace HO2 := Lib.hid (HO2.out.below hb2)
  replace HWH := Lib.hid (HWH.out.below hb2)
  replace HRW := Lib.hid (HRW.out.below hb2)
  replace HCS := Lib.hid (HCS.out.below hb2)
  replace HLS := Lib.hid (HLS.out.below hb2)
  replace Q0 := Lib.hid ((hb2.block _ (row_lt Q0.out)).trans Q0.out)
  replace Q1 := Lib.hid ((hb2.block _ (row_lt Q1.out)).trans Q1.out)
  replace HB := Lib.hid (HB.out.trans (hb2.mono HB.out.size))
  clear hb2
  have p00 := row_cell Q0.out (k := 0) rfl
  have p01 := row_cell Q0.out (k := 1) rfl
  have p02 := row_cell Q0.out (k := 2) rfl
  have p03 := row_cell Q0.out (k := 3) rfl
  have p10 := row_cell Q1.out (k := 0) rfl
  have p11 := row_cell Q1.out (k := 1) rfl
  go_wp2_with fail
  with_reducible refine (few39_any ep _ _ _ _ _ _ _ rows owners cs rows2 owners2 css ls _ HR.out HO.out HC.out HR2.out HO2.out HCS.out HLS.out).mono ?_
  rintro e w4 ⟨b4, rfl, hb4⟩
  replace p00 := below_cell hb4 p00
  replace p01 := below_cell hb4 p01
  replace p02 := below_cell hb4 p02
  replace p03 := below_cell hb4 p03
  replace p10 := below_cell hb4 p10
  replace p11 := below_cell hb4 p11
  replace HR := Lib.hid (HR.out.below hb4)
  replace HO := Lib.hid (HO.out.below hb4)
  replace HC := Lib.hid (HC.out.below hb4)
  replace HR2 := Lib.hid (HR2.out.below hb4)
  replace HO2 := Lib.hid (HO2.out.below hb4)
  replace HWH := Lib.hid (HWH.out.below hb4)
  replace HRW := Lib.hid (HRW.out.below hb4)
  replace HCS := Lib.hid (HCS.out.below hb4)
  replace HLS := Lib.hid (HLS.out.below hb4)
  replace Q0 := Lib.hid ((hb4.block _ (row_lt Q0.out)).trans Q0.out)
  replace Q1 := Lib.hid ((hb4.block _ (row_lt Q1.out)).trans Q1.out)
  replace HB := Lib.hid (HB.out.trans (hb4.mono HB.out.size))
  clear hb4
  cases b4 with
  | false =>
    go_wp2_with fail
    go_ret
    exact ⟨rfl, HB.out⟩
  | true =>
  by_cases g1 : 80 < who.length
  · have d1 : decide ((80 : Int) < (who.length : Int)) = true := decide_eq_true (by omega)
    have d2 : decide (80 < who.length) = true := decide_eq_true g1
    clear g1
    go_wp2_with fail
    go_ret
    exact ⟨rfl, HB.out⟩
  have d1g1 : decide ((80 : Int) < (who.length : Int)) = false := decide_eq_false (by omega)
  have d2g1 : decide (80 < who.length) = false := decide_eq_false g1
  clear g1
  by_cases g2 : 80 < rws.length
  · have d1 : decide ((80 : Int) < (rws.length : Int)) = true := decide_eq_true (by omega)
    have d2 : decide (80 < rws.length) = true := decide_eq_true g2
    clear g2
    go_wp2_with fail
    go_ret
    exact ⟨rfl, HB.out⟩
  have d1g2 : decide ((80 : Int) < (rws.length : Int)) = false := decide_eq_false (by omega)
  have d2g2 : decide (80 < rws.length) = false := decide_eq_false g2
  clear g2
  go_wp2_with fail
  clear d1g1 d2g1 d1g2 d2g2
  obtain ⟨ME, hME⟩ : ∃ x, x = mvE rows owners ep cs rows2 owners2 who rws css ls := ⟨_, rfl⟩
  have HM1 := Lib.hid (fun W h1 h2 h3 h4 h5 h6 h7 h8 h9 => mMove_any ep (.slice a1 rows.length k1) (.slice a2 owners.length k2) (.slice a3 cs.length k3) (.slice a4 rows2.length k4) (.slice a5 owners2.length k5) (.slice a6 css.length k6) (.slice a7 ls.length k7) (.slice a8 who.length k8) (.slice a9 rws.length k9) rows owners cs rows2 owners2 who rws css ls W h1 h2 h3 h4 h5 h6 h7 h8 h9)
  have HM2 := Lib.hid (fun W h1 h2 h3 h4 h5 h6 h7 h8 h9 => rMove39_any ep (.slice a1 rows.length k1) (.slice a2 owners.length k2) (.slice a3 cs.length k3) (.slice a4 rows2.length k4) (.slice a5 owners2.length k5) (.slice a6 css.length k6) (.slice a7 ls.length k7) (.slice a8 who.length k8) (.slice a9 rws.length k9) rows owners cs rows2 owners2 who rws css ls W h1 h2 h3 h4 h5 h6 h7 h8 h9)
  rw [← hME] at HM1 HM2
  clear hME
  generalize mvC css rws (accY rows owners who) (colsQ rows2) = C at *
  generalize mvL ls rws (accY rows owners who) = L at *
  with_reducible refine (HM1.out _ HR.out HO.out HC.out HR2.out HO2.out HCS.out HLS.out HWH.out HRW.out).mono ?_
  intro e w5 hmv
  have hmn := mv_norm HR2.out HO2.out hmv
  clear hmv
  obtain ⟨EE, hEE⟩ : ∃ x, x = (if ME = 0 then ep + 1 else 0) := ⟨_, rfl⟩
  obtain ⟨RR, hRR⟩ : ∃ x, x = (if ME = 0 then rows2 else []) := ⟨_, rfl⟩
  obtain ⟨OO, hOO⟩ : ∃ x, x = (if ME = 0 then owners2 else []) := ⟨_, rfl⟩
  obtain ⟨CC, hCC⟩ : ∃ x, x = (if ME = 0 then C else []) := ⟨_, rfl⟩
  obtain ⟨LL, hLL⟩ : ∃ x, x = (if ME = 0 then L else []) := ⟨_, rfl⟩
  rw [← hEE, ← hRR, ← hOO, ← hCC, ← hLL] at hmn
  have HEE := Lib.hid hEE
  have HRR := Lib.hid hRR
  have HOO := Lib.hid hOO
  have HCC := Lib.hid hCC
  have HLL := Lib.hid hLL
  clear hEE hRR hOO hCC hLL
  obtain ⟨ra1, rn1, rc1, oa1, on1, oc1, ka1, kn1, kc1, la1, ln1, lc1, rfl, hr1, ho1, hk1, hl1, hb5⟩ := hmn
  replace p00 := below_cell hb5 p00
  replace p01 := below_cell hb5 p01
  replace p02 := below_cell hb5 p02
  replace p03 := below_cell hb5 p03
  replace p10 := below_cell hb5 p10
  replace p11 := below_cell hb5 p11
  replace HR := Lib.hid (HR.out.below hb5)
  replace HO := Lib.hid (HO.out.below hb5)
  replace HC := Lib.hid (HC.out.below hb5)
  replace HR2 := Lib.hid (HR2.out.below hb5)
  replace HO2 := Lib.hid (HO2.out.below hb5)
  replace HWH := Lib.hid (HWH.out.below hb5)
  replace HRW := Lib.hid (HRW.out.below hb5)
  replace HCS := Lib.hid (HCS.out.below hb5)
  replace HLS := Lib.hid (HLS.out.below hb5)
  replace Q0 := Lib.hid ((hb5.block _ (row_lt Q0.out)).trans Q0.out)
  replace Q1 := Lib.hid ((hb5.block _ (row_lt Q1.out)).trans Q1.out)
  replace HB := Lib.hid (HB.out.trans (hb5.mono HB.out.size))
  clear hb5
  have XR1 := Lib.hid hr1
  have XO1 := Lib.hid ho1
  have XK1 := Lib.hid hk1
  have XL1 := Lib.hid hl1
  clear hr1 ho1 hk1 hl1
  obtain ⟨W6, hW6, hb6, hr6, hs6⟩ := box_key w5 (.int .i64 EE) (.slice ra1 rn1 rc1) (.slice oa1 on1 oc1) (.slice ka1 kn1 kc1) 27
  have HW6 := Lib.hid hW6
  have Q2 := Lib.hid hr6
  have op00 := p00
  have op01 := p01
  have op02 := p02
  have op03 := p03
  have op10 := p10
  have op11 := p11
  replace p00 := below_cell hb6 p00
  replace p01 := below_cell hb6 p01
  replace p02 := below_cell hb6 p02
  replace p03 := below_cell hb6 p03
  replace p10 := below_cell hb6 p10
  replace p11 := below_cell hb6 p11
  replace HR := Lib.hid (HR.out.below hb6)
  replace HO := Lib.hid (HO.out.below hb6)
  replace HC := Lib.hid (HC.out.below hb6)
  replace HR2 := Lib.hid (HR2.out.below hb6)
  replace HO2 := Lib.hid (HO2.out.below hb6)
  replace HWH := Lib.hid (HWH.out.below hb6)
  replace HRW := Lib.hid (HRW.out.below hb6)
  replace HCS := Lib.hid (HCS.out.below hb6)
  replace HLS := Lib.hid (HLS.out.below hb6)
  replace XR1 := Lib.hid (XR1.out.below hb6)
  replace XO1 := Lib.hid (XO1.out.below hb6)
  replace XK1 := Lib.hid (XK1.out.below hb6)
  replace XL1 := Lib.hid (XL1.out.below hb6)
  replace Q0 := Lib.hid ((hb6.block _ (row_lt Q0.out)).trans Q0.out)
  replace Q1 := Lib.hid ((hb6.block _ (row_lt Q1.out)).trans Q1.out)
  replace HB := Lib.hid (HB.out.trans (hb6.mono HB.out.size))
  clear hb6
  clear hW6 hr6 hs6
  go_wp2_with (rw [← HW6.out])
  clear HW6 op00 op01 op02 op03 op10 op11
  with_reducible refine (HM2.out _ HR.out HO.out HC.out HR2.out HO2.out HCS.out HLS.out HWH.out HRW.out).mono ?_
  intro e w7 hmv
  have hmn := mv_norm (rows2 := rows2) (owners2 := owners2) HR2.out HO2.out (show MvPost _ _ _ _ _ _ _ _ _ from hmv)
  clear hmv
  rw [← HEE.out, ← HRR.out, ← HOO.out, ← HCC.out, ← HLL.out] at hmn
  clear HEE HRR HOO HCC HLL HM1 HM2
  clear p00 p01 p02 p03 p10 p11
  have x0 := row_cell Q2.out (k := 0) rfl
  have x1 := row_cell Q2.out (k := 1) rfl
  have x2 := row_cell Q2.out (k := 2) rfl
  have x3 := row_cell Q2.out (k := 3) rfl
  obtain ⟨ra2, rn2, rc2, oa2, on2, oc2, ka2, kn2, kc2, la2, ln2, lc2, rfl, hr2, ho2, hk2, hl2, hb5⟩ := hmn
  replace x0 := below_cell hb5 x0
  replace x1 := below_cell hb5 x1
  replace x2 := below_cell hb5 x2
  replace x3 := below_cell hb5 x3
  replace HR := Lib.hid (HR.out.below hb5)
  replace HO := Lib.hid (HO.out.below hb5)
  replace HC := Lib.hid (HC.out.below hb5)
  replace HR2 := Lib.hid (HR2.out.below hb5)
  replace HO2 := Lib.hid (HO2.out.below hb5)
  replace HWH := Lib.hid (HWH.out.below hb5)
  replace HRW := Lib.hid (HRW.out.below hb5)
  replace HCS := Lib.hid (HCS.out.below hb5)
  replace HLS := Lib.hid (HLS.out.below hb5)
  replace XR1 := Lib.hid (XR1.out.below hb5)
  replace XO1 := Lib.hid (XO1.out.below hb5)
  replace XK1 := Lib.hid (XK1.out.below hb5)
  replace XL1 := Lib.hid (XL1.out.below hb5)
  replace Q0 := Lib.hid ((hb5.block _ (row_lt Q0.out)).trans Q0.out)
  replace Q1 := Lib.hid ((hb5.block _ (row_lt Q1.out)).trans Q1.out)
  replace Q2 := Lib.hid ((hb5.block _ (row_lt Q2.out)).trans Q2.out)
  replace HB := Lib.hid (HB.out.trans (hb5.mono HB.out.size))
  clear hb5
  have XR2 := Lib.hid hr2
  have XO2 := Lib.hid ho2
  have XK2 := Lib.hid hk2
  have XL2 := Lib.hid hl2
  clear hr2 ho2 hk2 hl2
  obtain ⟨W8, hW8, hb6, hr6, hs6⟩ := box_key w7 (.int .i64 EE) (.slice ra2 rn2 rc2) (.slice oa2 on2 oc2) (.slice ka2 kn2 kc2) 27
  have HW8 := Lib.hid hW8
  have Q3 := Lib.hid hr6
  have ox0 := x0
  have ox1 := x1
  have ox2 := x2
  have ox3 := x3
  replace x0 := below_cell hb6 x0
  replace x1 := below_cell hb6 x1
  replace x2 := below_cell hb6 x2
  replace x3 := below_cell hb6 x3
  replace HR := Lib.hid (HR.out.below hb6)
  replace HO := Lib.hid (HO.out.below hb6)
  replace HC := Lib.hid (HC.out.below hb6)
  replace HR2 := Lib.hid (HR2.out.below hb6)
  replace HO2 := Lib.hid (HO2.out.below hb6)
  replace HWH := Lib.hid (HWH.out.below hb6)
  replace HRW := Lib.hid (HRW.out.below hb6)
  replace HCS := Lib.hid (HCS.out.below hb6)
  replace HLS := Lib.hid (HLS.out.below hb6)
  replace XR1 := Lib.hid (XR1.out.below hb6)
  replace XO1 := Lib.hid (XO1.out.below hb6)
  replace XK1 := Lib.hid (XK1.out.below hb6)
  replace XL1 := Lib.hid (XL1.out.below hb6)
  replace XR2 := Lib.hid (XR2.out.below hb6)
  replace XO2 := Lib.hid (XO2.out.below hb6)
  replace XK2 := Lib.hid (XK2.out.below hb6)
  replace XL2 := Lib.hid (XL2.out.below hb6)
  replace Q0 := Lib.hid ((hb6.block _ (row_lt Q0.out)).trans Q0.out)
  replace Q1 := Lib.hid ((hb6.block _ (row_lt Q1.out)).trans Q1.out)
  replace Q2 := Lib.hid ((hb6.block _ (row_lt Q2.out)).trans Q2.out)
  replace HB := Lib.hid (HB.out.trans (hb6.mono HB.out.size))
  clear hb6
  clear hW8 hr6 hs6
  have z0 := row_cell Q3.out (k := 0) rfl
  have z1 := row_cell Q3.out (k := 1) rfl
  have z2 := row_cell Q3.out (k := 2) rfl
  have z3 := row_cell Q3.out (k := 3) rfl
  go_wp2_with (rw [← HW8.out])
  clear HW8 ox0 ox1 ox2 ox3
  with_reducible refine (rSameKey39_yes EE _ _ _ _ _ _ RR OO CC _ XR1.out XO1.out XK1.out XR2.out XO2.out XK2.out).mono ?_
  rintro e w9 ⟨rfl, hb9⟩
  replace x0 := below_cell hb9 x0
  replace x1 := below_cell hb9 x1
  replace x2 := below_cell hb9 x2
  replace x3 := below_cell hb9 x3
  replace HR := Lib.hid (HR.out.below hb9)
  replace HO := Lib.hid (HO.out.below hb9)
  replace HC := Lib.hid (HC.out.below hb9)
  replace HR2 := Lib.hid (HR2.out.below hb9)
  replace HO2 := Lib.hid (HO2.out.below hb9)
  replace HWH := Lib.hid (HWH.out.below hb9)
  replace HRW := Lib.hid (HRW.out.below hb9)
  replace HCS := Lib.hid (HCS.out.below hb9)
  replace HLS := Lib.hid (HLS.out.below hb9)
  replace XR1 := Lib.hid (XR1.out.below hb9)
  replace XO1 := Lib.hid (XO1.out.below hb9)
  replace XK1 := Lib.hid (XK1.out.below hb9)
  replace XL1 := Lib.hid (XL1.out.below hb9)
  replace XR2 := Lib.hid (XR2.out.below hb9)
  replace XO2 := Lib.hid (XO2.out.below hb9)
  replace XK2 := Lib.hid (XK2.out.below hb9)
  replace XL2 := Lib.hid (XL2.out.below hb9)
  replace Q0 := Lib.hid ((hb9.block _ (row_lt Q0.out)).trans Q0.out)
  replace Q1 := Lib.hid ((hb9.block _ (row_lt Q1.out)).trans Q1.out)
  replace Q2 := Lib.hid ((hb9.block _ (row_lt Q2.out)).trans Q2.out)
  replace Q3 := Lib.hid ((hb9.block _ (row_lt Q3.out)).trans Q3.out)
  replace HB := Lib.hid (HB.out.trans (hb9.mono HB.out.size))
  clear hb9
  go_wp2_with fail
  with_reducible refine (rsame_any _ _ LL LL _ XL1.out XL2.out).mono ?_
  rintro e w10 ⟨rfl, hb10⟩
  replace HB := Lib.hid (HB.out.trans (hb10.mono HB.out.size))
  rw [show sameS LL LL = true from decide_eq_true rfl]
  have j1 : (ME == ME) = true := beq_self_eq_true _
  clear x0 x1 x2 x3 z0 z1 z2 z3
  go_wp2_with fail
  go_ret
  exact ⟨rfl, HB.out⟩

end Go.Proofs.YtjjoadmkpbmhpaaGreat

namespace Go.Proofs.YtjjoadmkpbmhpaaGreat
open Go.ChangeShapes Go.WideShapes Go.ChangeAt Go.RowKit Go.Deep Go.Joins

set_option maxRecDepth 100000 in
theorem cellsShare : Tryz.prog.cellsOf 29 = 2 := by kernel_rfl
set_option maxRecDepth 100000 in
theorem bytesShare : Tryz.prog.bytesOf 29 = 16 := by kernel_rfl

section
variable {H : Type} {enc : TypeId × Value → H} {W : World} {base : Nat}
end

end Go.Proofs.YtjjoadmkpbmhpaaGreat

namespace Go.Proofs.YtjjoadmkpbmhpaaGreat
open Go.ChangeShapes Go.WideShapes Go.ChangeAt Go.RowKit Go.Deep Go.Joins

section
variable {H : Type} {enc : TypeId × Value → H} {W : World}
set_option maxRecDepth 100000 in
theorem share_cells {fuel : Nat} {cs : List Value} {y : DataW H × List MemPlace} (h : DataW.trod enc Tryz.prog W 0 (fun _ => true) true fuel 29 cs = some y) : ∃ x z : Int, cs = [.int .i64 x, .int .i64 z] ∧ R64 x ∧ R64 z := by
  obtain ⟨y0, y1, n, -, hl, h0, h1⟩ := trod_struct2 Tryz.underlying29 h
  rw [cellsShare] at hl
  match cs, hl with
  | [c0, c1], _ =>
    have h0' : DataW.trod enc Tryz.prog W 0 (fun _ => true) true n 3 [c0] = some y0 := by simpa [cellsInt] using h0
    have h1' : DataW.trod enc Tryz.prog W 0 (fun _ => true) true n 3 [c1] = some y1 := by simpa [cellsInt] using h1
    obtain ⟨E, e0, -, w0⟩ := DataW.trod_int Tryz.underlying3 h0'
    obtain ⟨S, e1, -, w1⟩ := DataW.trod_int Tryz.underlying3 h1'
    simp at e0 e1
    subst e0 e1
    exact ⟨E, S, rfl, wf_r64 w0, wf_r64 w1⟩

set_option maxRecDepth 100000 in
theorem open_shares {v : Value} {d : DataW H} {ps : List MemPlace} (hs : ∃ a n c, v = .slice a n c) (h : DataW.Trod enc Tryz.prog W 0 (fun _ => true) true 32 v d ps) (hl : Light 32 d) : ∃ l, Shares W v l := by
  obtain ⟨a0, len0, cap0, rfl⟩ := hs
  obtain ⟨fuel, hf⟩ := h
  rcases DataW.trod_slice Tryz.underlying32 hf with ⟨hcs, -⟩ | ⟨a, len, cap, elems, rest, n, -, hcs, hx, -, hle, hm, hlen, hel, hsp, -⟩
  · simp [Value.cells] at hcs
    obtain ⟨rfl, rfl, rfl⟩ := hcs
    exact ⟨[], Shares.nil _ _ _⟩
  · simp [Value.cells] at hcs
    obtain ⟨rfl, rfl, rfl⟩ := hcs
    simp only [Prod.mk.injEq] at hx
    obtain ⟨hrl, -⟩ := hsp rfl
    have hcap : len0 * 16 ≤ reachBytes := by
      have := hl ((elems.length + rest.length) * 16) (by
        rw [hx.1]
        simp only [DataW.weights, Tryz.underlying32, bytesShare, List.length_map]
        exact List.mem_cons_self ..)
      rw [hlen] at this
      exact Nat.le_trans (Nat.mul_le_mul_right _ (Nat.le_add_right _ _)) this
    rw [reach_is] at hcap
    have hrow : ∀ i, i < len0 → ∃ p : Int × Int, (R64 p.1 ∧ R64 p.2) ∧ W.cell? (a.add (i * 2)) = some (.int .i64 p.1) ∧ W.cell? (a.add (i * 2 + 1)) = some (.int .i64 p.2) := fun i hi => by
      have h1 := hel i hi
      rw [cellsShare, List.getElem?_eq_getElem (by omega)] at h1
      obtain ⟨cs, hc, ht⟩ := Option.bind_eq_some_iff.1 h1
      obtain ⟨x, z, rfl, hx, hz⟩ := share_cells ht
      obtain ⟨-, -, hcell⟩ := World.cells?_some hc
      refine ⟨(x, z), ⟨hx, hz⟩, ?_, ?_⟩
      · have := hcell 0 (by omega); simpa [Addr.add] using this
      · have := hcell 1 (by omega)
        have e : (a.add (i * 2)).add 1 = a.add (i * 2 + 1) := by
          unfold Addr.add
          by_cases h : i * 2 = 0 <;> simp [h, Nat.add_assoc]
        rw [e] at this
        simpa using this
    obtain ⟨f, hf2⟩ : ∃ f : Nat → Int × Int, ∀ i, i < len0 → (R64 (f i).1 ∧ R64 (f i).2) ∧ W.cell? (a.add (i * 2)) = some (.int .i64 (f i).1) ∧ W.cell? (a.add (i * 2 + 1)) = some (.int .i64 (f i).2) :=
      ⟨fun i => if hi : i < len0 then (hrow i hi).choose else (0, 0), fun i hi => by simp only [dif_pos hi]; exact (hrow i hi).choose_spec⟩
    refine ⟨(List.range len0).map f, some a, cap0, by simp, by simp [hle], by simp; omega, ?_, fun k hk => ?_⟩
    · intro p hp
      obtain ⟨i, hi, rfl⟩ := List.mem_map.1 hp
      exact (hf2 i (List.mem_range.1 hi)).1
    · simp at hk
      obtain ⟨b, o, sp⟩ := a
      have hsp2 : sp = none := by
        have h0 := World.cell?_spot (hf2 0 (by omega)).2.1
        simpa [Addr.add] using h0
      subst hsp2
      obtain ⟨-, h1, h2⟩ := hf2 k hk
      refine ⟨b, o, rfl, ?_, ?_⟩
      · rw [← add_plain]; simpa using h1
      · rw [Nat.add_assoc, ← add_plain]; simpa using h2
end

end Go.Proofs.YtjjoadmkpbmhpaaGreat

namespace Go.Proofs.YtjjoadmkpbmhpaaGreat
open Go.ChangeShapes Go.WideShapes Go.ChangeAt Go.RowKit Go.Deep Go.Joins

set_option maxRecDepth 100000 in
theorem cellsMat : Tryz.prog.cellsOf 22 = 1 := by kernel_rfl
set_option maxRecDepth 100000 in
theorem cellsKey : Tryz.prog.cellsOf 27 = 4 := by kernel_rfl

section
variable {H : Type} {enc : TypeId × Value → H} {W : World} {base : Nat}

set_option maxRecDepth 100000 in
theorem key_parts {n : Nat} {cs : List Value} {y : DataW H × List MemPlace} (h : DataW.trod enc Tryz.prog W 0 (fun _ => true) true n 27 cs = some y) :
    ∃ m, n = m + 1 ∧ ∃ c0 c1 c2 c3 y0 y1 y2, cs = [c0, c1, c2, c3] ∧ y.1 = .agg [(y0 : DataW H × List MemPlace).1, (y1 : DataW H × List MemPlace).1, (y2 : DataW H × List MemPlace).1] ∧
      DataW.trod enc Tryz.prog W 0 (fun _ => true) true m 3 [c0] = some y0 ∧ DataW.trod enc Tryz.prog W 0 (fun _ => true) true m 25 [c1, c2] = some y1 ∧ DataW.trod enc Tryz.prog W 0 (fun _ => true) true m 23 [c3] = some y2 := by
  obtain ⟨xs, m, hm, rfl, hl, hlen, hf⟩ := DataW.trod_struct Tryz.underlying27 h
  rw [cellsKey] at hl
  match xs, hlen with
  | [y0, y1, y2], _ =>
    match cs, hl with
    | [c0, c1, c2, c3], _ =>
      have h0 := hf 0 _ rfl
      have h1 := hf 1 _ rfl
      have h2 := hf 2 _ rfl
      exact ⟨m, hm, c0, c1, c2, c3, y0, y1, y2, rfl, by simp, by simpa [cellsInt, cellsProgram] using h0, by simpa [cellsInt, cellsProgram] using h1, by simpa [cellsRow, cellsInt, cellsProgram] using h2⟩
set_option maxRecDepth 100000 in
theorem prog_cells {n : Nat} {c1 c2 : Value} {y : DataW H × List MemPlace} (h : DataW.trod enc Tryz.prog W 0 (fun _ => true) true n 25 [c1, c2] = some y) (hl : Light 25 y.1) :
    ∃ rows owners, Rows2 W c1 rows ∧ Ints W c2 owners := by
  obtain ⟨xs, m, hm, rfl, -, hlen, hf⟩ := DataW.trod_struct Tryz.underlying25 h
  match xs, hlen with
  | [y0, y1], _ =>
    have h0 := hf 0 _ rfl
    have h1 := hf 1 _ rfl
    have h0' : DataW.trod enc Tryz.prog W 0 (fun _ => true) true m 22 [c1] = some y0 := by simpa [cellsMat] using h0
    have h1' : DataW.trod enc Tryz.prog W 0 (fun _ => true) true m 23 [c2] = some y1 := by simpa [cellsMat, cellsRow] using h1
    obtain ⟨a0, l0, q0, e0⟩ := slice_form Tryz.underlying22 h0'
    obtain ⟨a1, l1, q1, e1⟩ := slice_form Tryz.underlying23 h1'
    simp only [List.cons.injEq, and_true] at e0 e1
    subst e0 e1
    have hw : ∀ k, k ∈ y0.1.weights Tryz.prog 22 ++ (y1.1.weights Tryz.prog 23 ++ []) → k ≤ reachBytes := fun k hk => hl k (by
      simp only [DataW.weights, Tryz.underlying25, List.map_cons, List.map_nil]
      exact hk)
    obtain ⟨rows, hr⟩ := open_rows ⟨_, _, _, rfl⟩ (v := .slice a0 l0 q0) (d := y0.1) (ps := y0.2) ⟨m, h0'⟩ (fun k hk => hw k (List.mem_append_left _ hk))
    obtain ⟨owners, ho⟩ := open_list ⟨_, _, _, rfl⟩ (v := .slice a1 l1 q1) (d := y1.1) (ps := y1.2) ⟨m, h1'⟩ (fun k hk => hw k (List.mem_append_right _ (List.mem_append_left _ hk)))
    exact ⟨rows, owners, hr, ho⟩
set_option maxRecDepth 100000 in
theorem open_key {v : Value} {d : DataW H} {ps : List MemPlace} (hv : Value.okWide Tryz.prog W .any base 27 v) (h : DataW.Trod enc Tryz.prog W 0 (fun _ => true) true 27 v d ps) (hl : Light 27 d) :
    ∃ ep rv ov cv rows owners cs, v = .agg #[.int .i64 ep, rv, ov, cv] ∧ R64 ep ∧ Rows2 W rv rows ∧ Ints W ov owners ∧ Ints W cv cs := by
  obtain ⟨cs, rfl, hsz⟩ := okWide_struct Tryz.underlying27 hv
  obtain ⟨fuel, hf⟩ := h
  obtain ⟨m, rfl, c0, c1, c2, c3, y0, y1, y2, e, hy, h0, h1, h2⟩ := key_parts hf
  have e2 : cs = #[c0, c1, c2, c3] := by
    apply Array.ext'
    simpa [Value.cells] using e
  obtain ⟨ep, e0, -, w0⟩ := DataW.trod_int Tryz.underlying3 h0
  simp only [List.cons.injEq, and_true] at e0
  subst e0
  have hy' : d = .agg [y0.1, y1.1, y2.1] := hy
  have hw : ∀ k, k ∈ y0.1.weights Tryz.prog 3 ++ (y1.1.weights Tryz.prog 25 ++ (y2.1.weights Tryz.prog 23 ++ [])) → k ≤ reachBytes := fun k hk => hl k (by
    rw [hy']
    simp only [DataW.weights, Tryz.underlying27]
    exact hk)
  obtain ⟨rows, owners, hr, ho⟩ := prog_cells h1 (fun k hk => hw k (List.mem_append_right _ (List.mem_append_left _ hk)))
  obtain ⟨a3, l3, q3, e3⟩ := slice_form Tryz.underlying23 h2
  simp only [List.cons.injEq, and_true] at e3
  subst e3
  obtain ⟨zs, hz⟩ := open_list ⟨_, _, _, rfl⟩ (v := .slice a3 l3 q3) (d := y2.1) (ps := y2.2) ⟨m, h2⟩ (fun k hk => hw k (List.mem_append_right _ (List.mem_append_right _ (List.mem_append_left _ hk))))
  exact ⟨ep, _, _, _, rows, owners, zs, by rw [e2], wf_r64 w0, hr, ho, hz⟩
end

end Go.Proofs.YtjjoadmkpbmhpaaGreat

namespace Go.Proofs.YtjjoadmkpbmhpaaGreat
open Go.ChangeShapes Go.WideShapes Go.ChangeAt Go.RowKit Go.Deep Go.Joins

set_option maxRecDepth 100000 in
theorem cellsSList : Tryz.prog.cellsOf 32 = 1 := by kernel_rfl
set_option maxRecDepth 100000 in
theorem bytesSList : Tryz.prog.bytesOf 32 = 24 := by kernel_rfl
section
variable {H : Type} {enc : TypeId × Value → H} {W : World}
set_option maxRecDepth 100000 in
/-- Lists of shares as an argument. -/
theorem open_srows {v : Value} {d : DataW H} {ps : List MemPlace} (hs : ∃ a n c, v = .slice a n c) (h : DataW.Trod enc Tryz.prog W 0 (fun _ => true) true 41 v d ps) (hl : Light 41 d) : ∃ ls, SRows W v ls := by
  obtain ⟨a0, len, cap, rfl⟩ := hs
  obtain ⟨fuel, hf⟩ := h
  rcases open_slice1 Tryz.underlying41 cellsSList hf with ⟨hcs, -⟩ | ⟨a, len', cap', m, n, V, D, Pl, hcs, -, hle, hm, hmm, hx, hrows⟩
  · simp [Value.cells] at hcs
    obtain ⟨rfl, rfl, rfl⟩ := hcs
    exact ⟨[], SRows.nil _ _ _⟩
  · simp [Value.cells] at hcs
    obtain ⟨rfl, rfl, rfl⟩ := hcs
    simp only [if_true] at hmm
    subst hmm
    simp only [Prod.mk.injEq] at hx
    have hlen : m * 24 ≤ reachBytes := by
      have := hl ((len + (m - len)) * 24) (by
        rw [hx.1]
        simp only [DataW.weights, Tryz.underlying41, bytesSList, List.length_map, List.length_range]
        exact List.mem_cons_self ..)
      rwa [show len + (m - len) = m by omega] at this
    rw [reach_is] at hlen
    have hrow : ∀ r, r < len → ∃ l : List (Int × Int), Shares W (V r) l := fun r hr => by
      obtain ⟨h1, h2⟩ := hrows r (by omega)
      have hlt : Light 32 (D r) := fun n hn => hl n (by
        rw [hx.1]
        simp only [DataW.weights, Tryz.underlying41]
        exact List.mem_cons_of_mem _ (List.mem_append_left _ (weightsAll_mem (List.mem_map.2 ⟨r, List.mem_range.2 hr, rfl⟩) hn)))
      have hV : ∃ a n c, V r = .slice a n c := by
        rcases DataW.trod_slice Tryz.underlying32 h2 with ⟨e, -⟩ | ⟨a, l, c, el, re, n, -, e, -⟩
        · simp at e; exact ⟨_, _, _, e⟩
        · simp at e; exact ⟨_, _, _, e⟩
      refine open_shares (enc := enc) (ps := Pl r) hV ⟨n, ?_⟩ hlt
      obtain ⟨a, l, c, e⟩ := hV
      rw [e] at h2 ⊢
      simpa [Value.cells] using h2
    obtain ⟨f, hfz⟩ : ∃ f : Nat → List (Int × Int), ∀ r, r < len → Shares W (V r) (f r) :=
      ⟨fun r => if hr : r < len then (hrow r hr).choose else [], fun r hr => by simp only [dif_pos hr]; exact (hrow r hr).choose_spec⟩
    refine ⟨(List.range len).map f, some a, m, by simp, by simp [hle], by simp; omega, fun k hk => ?_⟩
    simp at hk
    obtain ⟨b, o, sp⟩ := a
    have hsp : sp = none := by
      have h0 := World.cell?_spot (hrows 0 (by omega)).1
      simpa [Addr.add] using h0
    subst hsp
    refine ⟨b, o, V k, rfl, ?_, ?_⟩
    · rw [← add_plain]; exact (hrows k (by omega)).1
    · simpa using hfz k hk
end

end Go.Proofs.YtjjoadmkpbmhpaaGreat
