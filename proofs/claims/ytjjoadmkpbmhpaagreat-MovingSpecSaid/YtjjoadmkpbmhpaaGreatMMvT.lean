/- The laws of moving: MovingSpec. A law's argument that is a share or a list of shares. A law's argument that is a list of shares. A law's argument that is a key. -/
import Derived.Test.YtjjoadmkpbmhpaaGreatMMvS
import Derived.Test.YtjjoadmkpbmhpaaGreatMReP
import Derived.Test.YtjjoadmkpbmhpaaGreatMDeaE
import Derived.ChangeSame
import Derived.ChangeArms
namespace Go.Proofs.YtjjoadmkpbmhpaaGreat
open Go.RowKit FP

theorem rows2_two {w : World} {a b : Value} {x y : List Int} (hx : Ints w a x) (hy : Ints w b y) (T : TypeId) : Rows2 (w.alloc (.cells #[a, b] T)) (.slice (some ⟨w.heap.size, 0, none⟩) 2 2) [x, y] := by
  have hb := below_new w #[a, b] T
  have hq := World.alloc_heap_new w (.cells #[a, b] T)
  refine ⟨_, 2, rfl, by simp, by simp, fun k hk => ?_⟩
  match k, hk with
  | 0, _ => exact ⟨_, 0, a, rfl, row_cell hq rfl, hx.below hb⟩
  | 1, _ => exact ⟨_, 0, b, rfl, row_cell hq rfl, hy.below hb⟩

set_option maxRecDepth 100000 in
set_option maxHeartbeats 16000000 in
theorem movingSpec_any (rv ov cv rv2 ov2 mv lv : Value) (ep : Int) (rows : List (List Int)) (owners cs : List Int) (rows2 : List (List Int)) (owners2 : List Int) (r v : Int) (rnd : List Int) (row : Int) (c : List Int) (w : World) (_hep : R64 ep) (hR : Rows2 w rv rows) (hO : Ints w ov owners) (hC : Ints w cv cs) (hR2 : Rows2 w rv2 rows2) (hO2 : Ints w ov2 owners2) (hr : R64 r) (hv : R64 v) (hM : Ints w mv rnd) (hrow : R64 row) (hL : Ints w lv c) :
    Calls Tryz.prog 3 #[.agg #[.int .i64 ep, rv, ov, cv], .agg #[rv2, ov2], .agg #[.int .i64 r, .int .i64 v], mv, .int .i64 row, lv] w fun e w' => e = .returned (.bool true) ∧ Below w.heap.size w w' := by
  have HRR := Lib.hid hr
  have HVV := Lib.hid hv
  have HRW := Lib.hid hrow
  clear hr hv hrow
  obtain ⟨W0, hW0, hb0, hr0, hs0⟩ := box_key w (.int .i64 ep) rv ov cv 27
  obtain ⟨W1, hW1, hb1, hr1, hz1⟩ := box_prog W0 rv2 ov2 25
  have hs1 : W1.heap.size = W0.heap.size + 1 := by rw [hW1]; simp
  obtain ⟨W2, hW2, hb2, hr2, hz2⟩ := box_prog W1 (.int .i64 r) (.int .i64 v) 29
  have hs2 : W2.heap.size = W1.heap.size + 1 := by rw [hW2]; simp
  have t0 : Below w.heap.size w W0 := hb0
  have t1 : Below w.heap.size w W1 := t0.trans (hb1.mono t0.size)
  have t2 : Below w.heap.size w W2 := t1.trans (hb2.mono t1.size)
  have Q0 := Lib.hid ((hb2.block _ (row_lt ((hb1.block _ (row_lt hr0)).trans hr0))).trans ((hb1.block _ (row_lt hr0)).trans hr0))
  have Q1 := Lib.hid ((hb2.block _ (row_lt hr1)).trans hr1)
  have Q2 := Lib.hid hr2
  rw [hs0] at Q1
  rw [hs1, hs0] at Q2
  have HB := Lib.hid t2
  have HR := Lib.hid (hR.below t2)
  have HO := Lib.hid (hO.below t2)
  have HC := Lib.hid (hC.below t2)
  have HR2 := Lib.hid (hR2.below t2)
  have HO2 := Lib.hid (hO2.below t2)
  have HM := Lib.hid (hM.below t2)
  have HL := Lib.hid (hL.below t2)
  obtain ⟨a1, k1, rfl, -, hl1, -⟩ := id hR
  obtain ⟨a2, k2, rfl, -, hl2, -⟩ := id hO
  obtain ⟨a3, k3, rfl, -, hl3, -⟩ := id hC
  obtain ⟨a4, k4, rfl, -, hl4, -⟩ := id hR2
  obtain ⟨a5, k5, rfl, -, hl5, -⟩ := id hO2
  obtain ⟨a6, k6, rfl, -, hl6, -⟩ := id hM
  obtain ⟨a7, k7, rfl, -, hl7, -⟩ := id hL
  rw [hW1, hW0] at hW2
  have HWB := Lib.hid hW2
  clear hW0 hb0 hr0 hs0 t0 hW1 hb1 hr1 hs1 t1 hW2 hb2 hr2 hs2 t2 hz1 hz2
  clear hR hO hC hR2 hO2 hM hL
  go_enter Tryz.func3, Tryz.ntmps3
  go_wp2_with (rw [← HWB.out])
  clear HWB
  with_reducible refine (sane39_any _).mono ?_
  rintro e w2 ⟨rfl, hb2⟩
  replace HR := Lib.hid (HR.out.below hb2)
  replace HO := Lib.hid (HO.out.below hb2)
  replace HC := Lib.hid (HC.out.below hb2)
  replace HR2 := Lib.hid (HR2.out.below hb2)
  replace HO2 := Lib.hid (HO2.out.below hb2)
  replace HM := Lib.hid (HM.out.below hb2)
  replace HL := Lib.hid (HL.out.below hb2)
  replace Q0 := Lib.hid ((hb2.block _ (row_lt Q0.out)).trans Q0.out)
  replace Q1 := Lib.hid ((hb2.block _ (row_lt Q1.out)).trans Q1.out)
  replace Q2 := Lib.hid ((hb2.block _ (row_lt Q2.out)).trans Q2.out)
  replace HB := Lib.hid (HB.out.trans (hb2.mono HB.out.size))
  clear hb2
  have p00 := row_cell Q0.out (k := 0) rfl
  have p01 := row_cell Q0.out (k := 1) rfl
  have p02 := row_cell Q0.out (k := 2) rfl
  have p03 := row_cell Q0.out (k := 3) rfl
  have p10 := row_cell Q1.out (k := 0) rfl
  have p11 := row_cell Q1.out (k := 1) rfl
  have p20 := row_cell Q2.out (k := 0) rfl
  have p21 := row_cell Q2.out (k := 1) rfl
  obtain ⟨W3, hW3⟩ : ∃ W, W = w2.alloc (.cells #[(.slice a6 rnd.length k6), (.slice a7 c.length k7)] 23) := ⟨_, rfl⟩
  have hb3 : Below w2.heap.size w2 W3 := by rw [hW3]; exact below_new _ _ _
  have HTW := Lib.hid (show Rows2 W3 (.slice (some ⟨w2.heap.size, 0, none⟩) 2 2) [rnd, c] by rw [hW3]; exact rows2_two HM.out HL.out _)
  have HW3 := Lib.hid hW3
  clear hW3
  have op00 := p00
  have op01 := p01
  have op02 := p02
  have op03 := p03
  have op10 := p10
  have op11 := p11
  have op20 := p20
  have op21 := p21
  replace p00 := below_cell hb3 p00
  replace p01 := below_cell hb3 p01
  replace p02 := below_cell hb3 p02
  replace p03 := below_cell hb3 p03
  replace p10 := below_cell hb3 p10
  replace p11 := below_cell hb3 p11
  replace p20 := below_cell hb3 p20
  replace p21 := below_cell hb3 p21
  replace HR := Lib.hid (HR.out.below hb3)
  replace HO := Lib.hid (HO.out.below hb3)
  replace HC := Lib.hid (HC.out.below hb3)
  replace HR2 := Lib.hid (HR2.out.below hb3)
  replace HO2 := Lib.hid (HO2.out.below hb3)
  replace HM := Lib.hid (HM.out.below hb3)
  replace HL := Lib.hid (HL.out.below hb3)
  replace Q0 := Lib.hid ((hb3.block _ (row_lt Q0.out)).trans Q0.out)
  replace Q1 := Lib.hid ((hb3.block _ (row_lt Q1.out)).trans Q1.out)
  replace Q2 := Lib.hid ((hb3.block _ (row_lt Q2.out)).trans Q2.out)
  replace HB := Lib.hid (HB.out.trans (hb3.mono HB.out.size))
  clear hb3
  go_wp2_with (rw [← HW3.out])
  clear HW3 op00 op01 op02 op03 op10 op11 op20 op21
  with_reducible refine (few39_any ep (.slice a1 rows.length k1) (.slice a2 owners.length k2) (.slice a3 cs.length k3) (.slice a4 rows2.length k4) (.slice a5 owners2.length k5) _ _ rows owners cs rows2 owners2 _ [] _ HR.out HO.out HC.out HR2.out HO2.out HTW.out (SRows.nil _ _ _)).mono ?_
  rintro e w4 ⟨b4, rfl, hb4⟩
  replace p00 := below_cell hb4 p00
  replace p01 := below_cell hb4 p01
  replace p02 := below_cell hb4 p02
  replace p03 := below_cell hb4 p03
  replace p10 := below_cell hb4 p10
  replace p11 := below_cell hb4 p11
  replace p20 := below_cell hb4 p20
  replace p21 := below_cell hb4 p21
  replace HR := Lib.hid (HR.out.below hb4)
  replace HO := Lib.hid (HO.out.below hb4)
  replace HC := Lib.hid (HC.out.below hb4)
  replace HR2 := Lib.hid (HR2.out.below hb4)
  replace HO2 := Lib.hid (HO2.out.below hb4)
  replace HM := Lib.hid (HM.out.below hb4)
  replace HL := Lib.hid (HL.out.below hb4)
  replace Q0 := Lib.hid ((hb4.block _ (row_lt Q0.out)).trans Q0.out)
  replace Q1 := Lib.hid ((hb4.block _ (row_lt Q1.out)).trans Q1.out)
  replace Q2 := Lib.hid ((hb4.block _ (row_lt Q2.out)).trans Q2.out)
  replace HB := Lib.hid (HB.out.trans (hb4.mono HB.out.size))
  clear hb4
  clear HTW
  cases b4 with
  | false =>
    go_wp2_with fail
    go_ret
    exact ⟨rfl, HB.out⟩
  | true =>
  go_wp2_with fail
  with_reducible refine (mDeal_any ep (.slice a1 rows.length k1) (.slice a2 owners.length k2) (.slice a3 cs.length k3) (.slice a4 rows2.length k4) (.slice a5 owners2.length k5) (.slice a6 rnd.length k6) r v rows owners cs rows2 owners2 rnd _ HR.out HO.out HC.out HR2.out HO2.out HM.out HRR.out HVV.out).mono ?_
  rintro e w5 ⟨l1, c1, rfl, hl1, hc1, -, hb5⟩
  replace p00 := below_cell hb5 p00
  replace p01 := below_cell hb5 p01
  replace p02 := below_cell hb5 p02
  replace p03 := below_cell hb5 p03
  replace p10 := below_cell hb5 p10
  replace p11 := below_cell hb5 p11
  replace p20 := below_cell hb5 p20
  replace p21 := below_cell hb5 p21
  replace HR := Lib.hid (HR.out.below hb5)
  replace HO := Lib.hid (HO.out.below hb5)
  replace HC := Lib.hid (HC.out.below hb5)
  replace HR2 := Lib.hid (HR2.out.below hb5)
  replace HO2 := Lib.hid (HO2.out.below hb5)
  replace HM := Lib.hid (HM.out.below hb5)
  replace HL := Lib.hid (HL.out.below hb5)
  replace Q0 := Lib.hid ((hb5.block _ (row_lt Q0.out)).trans Q0.out)
  replace Q1 := Lib.hid ((hb5.block _ (row_lt Q1.out)).trans Q1.out)
  replace Q2 := Lib.hid ((hb5.block _ (row_lt Q2.out)).trans Q2.out)
  replace HB := Lib.hid (HB.out.trans (hb5.mono HB.out.size))
  clear hb5
  have HL1 := Lib.hid hl1.shares
  have HC1 := Lib.hid hc1.ints
  clear hl1 hc1
  go_wp2_with fail
  with_reducible refine (rDeal39_any ep (.slice a1 rows.length k1) (.slice a2 owners.length k2) (.slice a3 cs.length k3) (.slice a4 rows2.length k4) (.slice a5 owners2.length k5) (.slice a6 rnd.length k6) r v rows owners cs rows2 owners2 rnd _ HR.out HO.out HC.out HR2.out HO2.out HM.out HRR.out HVV.out).mono ?_
  rintro e w6 ⟨l2, c2, rfl, hl2, hc2, hb6⟩
  replace p00 := below_cell hb6 p00
  replace p01 := below_cell hb6 p01
  replace p02 := below_cell hb6 p02
  replace p03 := below_cell hb6 p03
  replace p10 := below_cell hb6 p10
  replace p11 := below_cell hb6 p11
  replace p20 := below_cell hb6 p20
  replace p21 := below_cell hb6 p21
  replace HR := Lib.hid (HR.out.below hb6)
  replace HO := Lib.hid (HO.out.below hb6)
  replace HC := Lib.hid (HC.out.below hb6)
  replace HR2 := Lib.hid (HR2.out.below hb6)
  replace HO2 := Lib.hid (HO2.out.below hb6)
  replace HM := Lib.hid (HM.out.below hb6)
  replace HL := Lib.hid (HL.out.below hb6)
  replace HL1 := Lib.hid (HL1.out.below hb6)
  replace HC1 := Lib.hid (HC1.out.below hb6)
  replace Q0 := Lib.hid ((hb6.block _ (row_lt Q0.out)).trans Q0.out)
  replace Q1 := Lib.hid ((hb6.block _ (row_lt Q1.out)).trans Q1.out)
  replace Q2 := Lib.hid ((hb6.block _ (row_lt Q2.out)).trans Q2.out)
  replace HB := Lib.hid (HB.out.trans (hb6.mono HB.out.size))
  clear hb6
  have HL2 := Lib.hid hl2
  have HC2 := Lib.hid hc2
  clear hl2 hc2
  generalize mdE rows owners ep cs rows2 owners2 r v rnd = ME at *
  obtain ⟨S1, hS1⟩ : ∃ S, S = (if ME = 0 then dealL rows2 (v :: rnd) else []) := ⟨_, rfl⟩
  obtain ⟨I1, hI1⟩ : ∃ S, S = (if ME = 0 then dealC (v :: rnd) else []) := ⟨_, rfl⟩
  rw [← hS1] at HL1 HL2
  rw [← hI1] at HC1 HC2
  clear hS1 hI1
  go_wp2_with fail
  with_reducible refine (mFits_any ep (.slice a1 rows.length k1) (.slice a2 owners.length k2) (.slice a3 cs.length k3) (.slice a4 rows2.length k4) (.slice a5 owners2.length k5) (.slice a7 c.length k7) row rows owners cs rows2 owners2 c _ HR.out HO.out HC.out HR2.out HO2.out HL.out HRW.out).mono ?_
  rintro e w7 ⟨rfl, hb7⟩
  replace p00 := below_cell hb7 p00
  replace p01 := below_cell hb7 p01
  replace p02 := below_cell hb7 p02
  replace p03 := below_cell hb7 p03
  replace p10 := below_cell hb7 p10
  replace p11 := below_cell hb7 p11
  replace p20 := below_cell hb7 p20
  replace p21 := below_cell hb7 p21
  replace HR := Lib.hid (HR.out.below hb7)
  replace HO := Lib.hid (HO.out.below hb7)
  replace HC := Lib.hid (HC.out.below hb7)
  replace HR2 := Lib.hid (HR2.out.below hb7)
  replace HO2 := Lib.hid (HO2.out.below hb7)
  replace HM := Lib.hid (HM.out.below hb7)
  replace HL := Lib.hid (HL.out.below hb7)
  replace HL1 := Lib.hid (HL1.out.below hb7)
  replace HC1 := Lib.hid (HC1.out.below hb7)
  replace HL2 := Lib.hid (HL2.out.below hb7)
  replace HC2 := Lib.hid (HC2.out.below hb7)
  replace Q0 := Lib.hid ((hb7.block _ (row_lt Q0.out)).trans Q0.out)
  replace Q1 := Lib.hid ((hb7.block _ (row_lt Q1.out)).trans Q1.out)
  replace Q2 := Lib.hid ((hb7.block _ (row_lt Q2.out)).trans Q2.out)
  replace HB := Lib.hid (HB.out.trans (hb7.mono HB.out.size))
  clear hb7
  go_wp2_with fail
  with_reducible refine (rFits39_any ep (.slice a1 rows.length k1) (.slice a2 owners.length k2) (.slice a3 cs.length k3) (.slice a4 rows2.length k4) (.slice a5 owners2.length k5) (.slice a7 c.length k7) row rows owners cs rows2 owners2 c _ HR.out HO.out HC.out HR2.out HO2.out HL.out HRW.out).mono ?_
  rintro e w8 ⟨rfl, hb8⟩
  replace p00 := below_cell hb8 p00
  replace p01 := below_cell hb8 p01
  replace p02 := below_cell hb8 p02
  replace p03 := below_cell hb8 p03
  replace p10 := below_cell hb8 p10
  replace p11 := below_cell hb8 p11
  replace p20 := below_cell hb8 p20
  replace p21 := below_cell hb8 p21
  replace HR := Lib.hid (HR.out.below hb8)
  replace HO := Lib.hid (HO.out.below hb8)
  replace HC := Lib.hid (HC.out.below hb8)
  replace HR2 := Lib.hid (HR2.out.below hb8)
  replace HO2 := Lib.hid (HO2.out.below hb8)
  replace HM := Lib.hid (HM.out.below hb8)
  replace HL := Lib.hid (HL.out.below hb8)
  replace HL1 := Lib.hid (HL1.out.below hb8)
  replace HC1 := Lib.hid (HC1.out.below hb8)
  replace HL2 := Lib.hid (HL2.out.below hb8)
  replace HC2 := Lib.hid (HC2.out.below hb8)
  replace Q0 := Lib.hid ((hb8.block _ (row_lt Q0.out)).trans Q0.out)
  replace Q1 := Lib.hid ((hb8.block _ (row_lt Q1.out)).trans Q1.out)
  replace Q2 := Lib.hid ((hb8.block _ (row_lt Q2.out)).trans Q2.out)
  replace HB := Lib.hid (HB.out.trans (hb8.mono HB.out.size))
  clear hb8
  generalize mfE rows owners ep cs rows2 owners2 row c = FE at *
  generalize mfB rows owners ep cs rows2 owners2 row c = FB at *
  go_wp2_with fail
  with_reducible refine (rsame_any _ _ S1 S1 _ HL1.out HL2.out).mono ?_
  rintro e w9 ⟨rfl, hb9⟩
  replace p00 := below_cell hb9 p00
  replace p01 := below_cell hb9 p01
  replace p02 := below_cell hb9 p02
  replace p03 := below_cell hb9 p03
  replace p10 := below_cell hb9 p10
  replace p11 := below_cell hb9 p11
  replace p20 := below_cell hb9 p20
  replace p21 := below_cell hb9 p21
  replace HR := Lib.hid (HR.out.below hb9)
  replace HO := Lib.hid (HO.out.below hb9)
  replace HC := Lib.hid (HC.out.below hb9)
  replace HR2 := Lib.hid (HR2.out.below hb9)
  replace HO2 := Lib.hid (HO2.out.below hb9)
  replace HM := Lib.hid (HM.out.below hb9)
  replace HL := Lib.hid (HL.out.below hb9)
  replace HL1 := Lib.hid (HL1.out.below hb9)
  replace HC1 := Lib.hid (HC1.out.below hb9)
  replace HL2 := Lib.hid (HL2.out.below hb9)
  replace HC2 := Lib.hid (HC2.out.below hb9)
  replace Q0 := Lib.hid ((hb9.block _ (row_lt Q0.out)).trans Q0.out)
  replace Q1 := Lib.hid ((hb9.block _ (row_lt Q1.out)).trans Q1.out)
  replace Q2 := Lib.hid ((hb9.block _ (row_lt Q2.out)).trans Q2.out)
  replace HB := Lib.hid (HB.out.trans (hb9.mono HB.out.size))
  clear hb9
  rw [show sameS S1 S1 = true from decide_eq_true rfl]
  go_wp2_with fail
  with_reducible refine (rSame23_is _ _ I1 I1 true _ HC1.out HC2.out (by unfold sameQ; simp)).mono ?_
  rintro e w10 ⟨rfl, hb10⟩
  replace p00 := below_cell hb10 p00
  replace p01 := below_cell hb10 p01
  replace p02 := below_cell hb10 p02
  replace p03 := below_cell hb10 p03
  replace p10 := below_cell hb10 p10
  replace p11 := below_cell hb10 p11
  replace p20 := below_cell hb10 p20
  replace p21 := below_cell hb10 p21
  replace HR := Lib.hid (HR.out.below hb10)
  replace HO := Lib.hid (HO.out.below hb10)
  replace HC := Lib.hid (HC.out.below hb10)
  replace HR2 := Lib.hid (HR2.out.below hb10)
  replace HO2 := Lib.hid (HO2.out.below hb10)
  replace HM := Lib.hid (HM.out.below hb10)
  replace HL := Lib.hid (HL.out.below hb10)
  replace HL1 := Lib.hid (HL1.out.below hb10)
  replace HC1 := Lib.hid (HC1.out.below hb10)
  replace HL2 := Lib.hid (HL2.out.below hb10)
  replace HC2 := Lib.hid (HC2.out.below hb10)
  replace Q0 := Lib.hid ((hb10.block _ (row_lt Q0.out)).trans Q0.out)
  replace Q1 := Lib.hid ((hb10.block _ (row_lt Q1.out)).trans Q1.out)
  replace Q2 := Lib.hid ((hb10.block _ (row_lt Q2.out)).trans Q2.out)
  replace HB := Lib.hid (HB.out.trans (hb10.mono HB.out.size))
  clear hb10
  have j1 : (ME == ME) = true := beq_self_eq_true _
  have j2 : (FE == FE) = true := beq_self_eq_true _
  have j3 : (FB == FB) = true := beq_self_eq_true _
  go_wp2_with fail
  go_ret
  exact ⟨rfl, HB.out⟩

end Go.Proofs.YtjjoadmkpbmhpaaGreat

namespace Go.Proofs.YtjjoadmkpbmhpaaGreat
open Go.ChangeShapes Go.WideShapes Go.ChangeAt Go.RowKit Go.Deep Go.Joins

set_option maxRecDepth 100000 in
theorem cellsShare : Tryz.prog.cellsOf 29 = 2 := by kernel_rfl
section
variable {H : Type} {enc : TypeId × Value → H} {W : World} {base : Nat}
set_option maxRecDepth 100000 in
/-- A share as an argument. -/
theorem open_share {v : Value} {d : DataW H} {ps : List MemPlace} (hv : Value.okWide Tryz.prog W .any base 29 v) (h : DataW.Trod enc Tryz.prog W 0 (fun _ => true) true 29 v d ps) : ∃ x y : Int, v = .agg #[.int .i64 x, .int .i64 y] ∧ R64 x ∧ R64 y := by
  obtain ⟨v0, v1, y0, y1, n, rfl, -, -, h0, h1⟩ := open_agg2 Tryz.underlying29 (by kernel_rfl) cellsShare hv h
  obtain ⟨E, e0, -, w0⟩ := DataW.trod_int Tryz.underlying3 h0
  obtain ⟨S, e1, -, w1⟩ := DataW.trod_int Tryz.underlying3 h1
  simp at e0 e1
  subst e0 e1
  exact ⟨E, S, rfl, wf_r64 w0, wf_r64 w1⟩
end

end Go.Proofs.YtjjoadmkpbmhpaaGreat

namespace Go.Proofs.YtjjoadmkpbmhpaaGreat
open Go.ChangeShapes Go.WideShapes Go.ChangeAt Go.RowKit Go.Deep Go.Joins

section
variable {H : Type} {enc : TypeId × Value → H} {W : World}
end

end Go.Proofs.YtjjoadmkpbmhpaaGreat

namespace Go.Proofs.YtjjoadmkpbmhpaaGreat
open Go.ChangeShapes Go.WideShapes Go.ChangeAt Go.RowKit Go.Deep Go.Joins

set_option maxRecDepth 100000 in
theorem cellsMat : Tryz.prog.cellsOf 22 = 1 := by kernel_rfl
set_option maxRecDepth 100000 in
theorem cellsKey : Tryz.prog.cellsOf 27 = 4 := by kernel_rfl

section
variable {H : Type} {enc : TypeId × Value → H} {W : World} {base : Nat}

set_option maxRecDepth 100000 in
theorem key_parts {n : Nat} {cs : List Value} {y : DataW H × List MemPlace} (h : DataW.trod enc Tryz.prog W 0 (fun _ => true) true n 27 cs = some y) :
    ∃ m, n = m + 1 ∧ ∃ c0 c1 c2 c3 y0 y1 y2, cs = [c0, c1, c2, c3] ∧ y.1 = .agg [(y0 : DataW H × List MemPlace).1, (y1 : DataW H × List MemPlace).1, (y2 : DataW H × List MemPlace).1] ∧
      DataW.trod enc Tryz.prog W 0 (fun _ => true) true m 3 [c0] = some y0 ∧ DataW.trod enc Tryz.prog W 0 (fun _ => true) true m 25 [c1, c2] = some y1 ∧ DataW.trod enc Tryz.prog W 0 (fun _ => true) true m 23 [c3] = some y2 := by
  obtain ⟨xs, m, hm, rfl, hl, hlen, hf⟩ := DataW.trod_struct Tryz.underlying27 h
  rw [cellsKey] at hl
  match xs, hlen with
  | [y0, y1, y2], _ =>
    match cs, hl with
    | [c0, c1, c2, c3], _ =>
      have h0 := hf 0 _ rfl
      have h1 := hf 1 _ rfl
      have h2 := hf 2 _ rfl
      exact ⟨m, hm, c0, c1, c2, c3, y0, y1, y2, rfl, by simp, by simpa [cellsInt, cellsProgram] using h0, by simpa [cellsInt, cellsProgram] using h1, by simpa [cellsRow, cellsInt, cellsProgram] using h2⟩
set_option maxRecDepth 100000 in
theorem prog_cells {n : Nat} {c1 c2 : Value} {y : DataW H × List MemPlace} (h : DataW.trod enc Tryz.prog W 0 (fun _ => true) true n 25 [c1, c2] = some y) (hl : Light 25 y.1) :
    ∃ rows owners, Rows2 W c1 rows ∧ Ints W c2 owners := by
  obtain ⟨xs, m, hm, rfl, -, hlen, hf⟩ := DataW.trod_struct Tryz.underlying25 h
  match xs, hlen with
  | [y0, y1], _ =>
    have h0 := hf 0 _ rfl
    have h1 := hf 1 _ rfl
    have h0' : DataW.trod enc Tryz.prog W 0 (fun _ => true) true m 22 [c1] = some y0 := by simpa [cellsMat] using h0
    have h1' : DataW.trod enc Tryz.prog W 0 (fun _ => true) true m 23 [c2] = some y1 := by simpa [cellsMat, cellsRow] using h1
    obtain ⟨a0, l0, q0, e0⟩ := slice_form Tryz.underlying22 h0'
    obtain ⟨a1, l1, q1, e1⟩ := slice_form Tryz.underlying23 h1'
    simp only [List.cons.injEq, and_true] at e0 e1
    subst e0 e1
    have hw : ∀ k, k ∈ y0.1.weights Tryz.prog 22 ++ (y1.1.weights Tryz.prog 23 ++ []) → k ≤ reachBytes := fun k hk => hl k (by
      simp only [DataW.weights, Tryz.underlying25, List.map_cons, List.map_nil]
      exact hk)
    obtain ⟨rows, hr⟩ := open_rows ⟨_, _, _, rfl⟩ (v := .slice a0 l0 q0) (d := y0.1) (ps := y0.2) ⟨m, h0'⟩ (fun k hk => hw k (List.mem_append_left _ hk))
    obtain ⟨owners, ho⟩ := open_list ⟨_, _, _, rfl⟩ (v := .slice a1 l1 q1) (d := y1.1) (ps := y1.2) ⟨m, h1'⟩ (fun k hk => hw k (List.mem_append_right _ (List.mem_append_left _ hk)))
    exact ⟨rows, owners, hr, ho⟩
set_option maxRecDepth 100000 in
theorem open_key {v : Value} {d : DataW H} {ps : List MemPlace} (hv : Value.okWide Tryz.prog W .any base 27 v) (h : DataW.Trod enc Tryz.prog W 0 (fun _ => true) true 27 v d ps) (hl : Light 27 d) :
    ∃ ep rv ov cv rows owners cs, v = .agg #[.int .i64 ep, rv, ov, cv] ∧ R64 ep ∧ Rows2 W rv rows ∧ Ints W ov owners ∧ Ints W cv cs := by
  obtain ⟨cs, rfl, hsz⟩ := okWide_struct Tryz.underlying27 hv
  obtain ⟨fuel, hf⟩ := h
  obtain ⟨m, rfl, c0, c1, c2, c3, y0, y1, y2, e, hy, h0, h1, h2⟩ := key_parts hf
  have e2 : cs = #[c0, c1, c2, c3] := by
    apply Array.ext'
    simpa [Value.cells] using e
  obtain ⟨ep, e0, -, w0⟩ := DataW.trod_int Tryz.underlying3 h0
  simp only [List.cons.injEq, and_true] at e0
  subst e0
  have hy' : d = .agg [y0.1, y1.1, y2.1] := hy
  have hw : ∀ k, k ∈ y0.1.weights Tryz.prog 3 ++ (y1.1.weights Tryz.prog 25 ++ (y2.1.weights Tryz.prog 23 ++ [])) → k ≤ reachBytes := fun k hk => hl k (by
    rw [hy']
    simp only [DataW.weights, Tryz.underlying27]
    exact hk)
  obtain ⟨rows, owners, hr, ho⟩ := prog_cells h1 (fun k hk => hw k (List.mem_append_right _ (List.mem_append_left _ hk)))
  obtain ⟨a3, l3, q3, e3⟩ := slice_form Tryz.underlying23 h2
  simp only [List.cons.injEq, and_true] at e3
  subst e3
  obtain ⟨zs, hz⟩ := open_list ⟨_, _, _, rfl⟩ (v := .slice a3 l3 q3) (d := y2.1) (ps := y2.2) ⟨m, h2⟩ (fun k hk => hw k (List.mem_append_right _ (List.mem_append_right _ (List.mem_append_left _ hk))))
  exact ⟨ep, _, _, _, rows, owners, zs, by rw [e2], wf_r64 w0, hr, ho, hz⟩
end

end Go.Proofs.YtjjoadmkpbmhpaaGreat
