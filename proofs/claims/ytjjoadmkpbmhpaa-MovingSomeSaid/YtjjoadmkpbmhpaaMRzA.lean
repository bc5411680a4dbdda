/- The reference of renewing: Key, Fit, sameRows, nothing. The reference of moving: Error, Deal, Fits, Few. The reference of moving: Rows, alike, dealt, power, SameKey. -/
import Derived.Test.YtjjoadmkpbmhpaaMReP
import Derived.Test.YtjjoadmkpbmhpaaMRbP
import Derived.Test.YtjjoadmkpbmhpaaMLaI
import Derived.Test.YtjjoadmkpbmhpaaMReN
import Derived.Test.YtjjoadmkpbmhpaaMMvN
import Derived.Test.YtjjoadmkpbmhpaaMPmH
import Derived.Test.YtjjoadmkpbmhpaaMProF
import Derived.Test.YtjjoadmkpbmhpaaMRegF
namespace Go.Proofs.Ytjjoadmkpbmhpaa
open Go.RowKit FP

end Go.Proofs.Ytjjoadmkpbmhpaa

namespace Go.Proofs.Ytjjoadmkpbmhpaa
open Go.RowKit FP

end Go.Proofs.Ytjjoadmkpbmhpaa

namespace Go.Proofs.Ytjjoadmkpbmhpaa
open Go.RowKit FP

set_option maxRecDepth 100000 in
set_option maxHeartbeats 8000000 in
theorem rSameKey39_yes (ep : Int) (rv ov cv rv2 ov2 cv2 : Value) (rows : List (List Int)) (owners cs : List Int) (w : World) (hR : Rows2 w rv rows) (hO : Ints w ov owners) (hC : Ints w cv cs) (hR2 : Rows2 w rv2 rows) (hO2 : Ints w ov2 owners) (hC2 : Ints w cv2 cs) :
    Calls Try.prog 13 #[.agg #[.int .i64 ep, rv, ov, cv], .agg #[.int .i64 ep, rv2, ov2, cv2]] w fun e w' => e = .returned (.bool true) ∧ Below w.heap.size w w' := by
  obtain ⟨W0, hW0, hb0, hr0, hs0⟩ := box_key w (.int .i64 ep) rv ov cv 30
  obtain ⟨W1, hW1, hb1, hr1, hs1⟩ := box_key W0 (.int .i64 ep) rv2 ov2 cv2 30
  have t0 : Below w.heap.size w W0 := hb0
  have t1 : Below w.heap.size w W1 := t0.trans (hb1.mono t0.size)
  have Q0 := Lib.hid ((hb1.block _ (row_lt hr0)).trans hr0)
  have Q1 := Lib.hid hr1
  rw [hs0] at Q1
  have HB := Lib.hid t1
  have HR := Lib.hid (hR.below t1)
  have HO := Lib.hid (hO.below t1)
  have HC := Lib.hid (hC.below t1)
  have HR2 := Lib.hid (hR2.below t1)
  have HO2 := Lib.hid (hO2.below t1)
  have HC2 := Lib.hid (hC2.below t1)
  obtain ⟨a1, k1, rfl, -, hl1, -⟩ := id hR
  obtain ⟨a2, k2, rfl, -, hl2, -⟩ := id hO
  obtain ⟨a3, k3, rfl, -, hl3, -⟩ := id hC
  obtain ⟨a4, k4, rfl, -, hl4, -⟩ := id hR2
  obtain ⟨a5, k5, rfl, -, hl5, -⟩ := id hO2
  obtain ⟨a6, k6, rfl, -, hl6, -⟩ := id hC2
  rw [hW0] at hW1
  have HWB := Lib.hid hW1
  clear hW0 hb0 hr0 hs0 t0 hW1 hb1 hr1 hs1 t1
  clear hR hO hC hR2 hO2 hC2
  have p00 := row_cell Q0.out (k := 0) rfl
  have p01 := row_cell Q0.out (k := 1) rfl
  have p02 := row_cell Q0.out (k := 2) rfl
  have p03 := row_cell Q0.out (k := 3) rfl
  have p10 := row_cell Q1.out (k := 0) rfl
  have p11 := row_cell Q1.out (k := 1) rfl
  have p12 := row_cell Q1.out (k := 2) rfl
  have p13 := row_cell Q1.out (k := 3) rfl
  have j1 : (ep == ep) = true := beq_self_eq_true _
  go_enter Try.func13, Try.ntmps13
  go_wp2_with (rw [← HWB.out])
  clear HWB
  with_reducible refine (rSameP_any _ _ _ _ rows rows owners owners _ HR.out HO.out HR2.out HO2.out).mono ?_
  rintro e w2 ⟨rfl, hb2⟩
  replace p00 := below_cell hb2 p00
  replace p01 := below_cell hb2 p01
  replace p02 := below_cell hb2 p02
  replace p03 := below_cell hb2 p03
  replace p10 := below_cell hb2 p10
  replace p11 := below_cell hb2 p11
  replace p12 := below_cell hb2 p12
  replace p13 := below_cell hb2 p13
  replace HR := Lib.hid (HR.out.below hb2)
  replace HO := Lib.hid (HO.out.below hb2)
  replace HC := Lib.hid (HC.out.below hb2)
  replace HR2 := Lib.hid (HR2.out.below hb2)
  replace HO2 := Lib.hid (HO2.out.below hb2)
  replace HC2 := Lib.hid (HC2.out.below hb2)
  replace Q0 := Lib.hid ((hb2.block _ (row_lt Q0.out)).trans Q0.out)
  replace Q1 := Lib.hid ((hb2.block _ (row_lt Q1.out)).trans Q1.out)
  replace HB := Lib.hid (HB.out.trans (hb2.mono HB.out.size))
  clear hb2
  rw [show sameP rows rows owners owners = true by unfold sameP sameQ; simp]
  go_wp2_with fail
  with_reducible refine (rSame23_is _ _ cs cs true _ HC.out HC2.out (by unfold sameQ; simp)).mono ?_
  rintro e w3 ⟨rfl, hb3⟩
  replace p00 := below_cell hb3 p00
  replace p01 := below_cell hb3 p01
  replace p02 := below_cell hb3 p02
  replace p03 := below_cell hb3 p03
  replace p10 := below_cell hb3 p10
  replace p11 := below_cell hb3 p11
  replace p12 := below_cell hb3 p12
  replace p13 := below_cell hb3 p13
  replace HR := Lib.hid (HR.out.below hb3)
  replace HO := Lib.hid (HO.out.below hb3)
  replace HC := Lib.hid (HC.out.below hb3)
  replace HR2 := Lib.hid (HR2.out.below hb3)
  replace HO2 := Lib.hid (HO2.out.below hb3)
  replace HC2 := Lib.hid (HC2.out.below hb3)
  replace Q0 := Lib.hid ((hb3.block _ (row_lt Q0.out)).trans Q0.out)
  replace Q1 := Lib.hid ((hb3.block _ (row_lt Q1.out)).trans Q1.out)
  replace HB := Lib.hid (HB.out.trans (hb3.mono HB.out.size))
  clear hb3
  go_wp2_with fail
  go_ret
  exact ⟨rfl, HB.out⟩

end Go.Proofs.Ytjjoadmkpbmhpaa
