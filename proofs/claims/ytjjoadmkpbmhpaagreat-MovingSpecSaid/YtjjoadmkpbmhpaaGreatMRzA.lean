/- The reference of renewing: Key, Fit, sameRows, nothing. -/
import Derived.Test.YtjjoadmkpbmhpaaGreatMReP
import Derived.Test.YtjjoadmkpbmhpaaGreatMRbP
import Derived.Test.YtjjoadmkpbmhpaaGreatMRdC
import Derived.Test.YtjjoadmkpbmhpaaGreatMDeaV
import Derived.Test.YtjjoadmkpbmhpaaGreatMReN
namespace Go.Proofs.YtjjoadmkpbmhpaaGreat
open Go.RowKit FP

set_option maxRecDepth 100000 in
set_option maxHeartbeats 4000000 in
theorem rkey_any (ep : Int) (rv ov cv : Value) (rows : List (List Int)) (owners cs : List Int) (w : World) (hR : Rows2 w rv rows) (hO : Ints w ov owners) (hC : Ints w cv cs) (hcq : colsQ rows ≤ 64) :
    Calls Tryz.prog 80 #[.agg #[.int .i64 ep, rv, ov, cv]] w fun e w' => e = .returned (.bool (keyB rows ep cs)) ∧ Below w.heap.size w w' := by
  obtain ⟨W1, hW1, hb1, hr1, -⟩ := box_key w (.int .i64 ep) rv ov cv 27
  have HR := Lib.hid (hR.below hb1)
  have HO := Lib.hid (hO.below hb1)
  have HC := Lib.hid (hC.below hb1)
  obtain ⟨a1, k1, rfl, -, hl1, -⟩ := id hR
  obtain ⟨a2, k2, rfl, -⟩ := id hO
  obtain ⟨a3, k3, rfl, -, hl3, -⟩ := id hC
  have c0 : W1.cell? ⟨w.heap.size, 0, none⟩ = some (.int .i64 ep) := row_cell hr1 rfl
  have c1 : W1.cell? ⟨w.heap.size, 1, none⟩ = some (.slice a1 rows.length k1) := row_cell hr1 rfl
  have c2 : W1.cell? ⟨w.heap.size, 2, none⟩ = some (.slice a2 owners.length k2) := row_cell hr1 rfl
  have c3 : W1.cell? ⟨w.heap.size, 3, none⟩ = some (.slice a3 cs.length k3) := row_cell hr1 rfl
  have HW1 := Lib.hid hW1
  have HB := Lib.hid hb1
  have HKC := Lib.hid (rcommits_any (.slice a1 rows.length k1) (.slice a2 owners.length k2) (.slice a3 cs.length k3) rows owners cs W1 HR.out HO.out HC.out hcq)
  clear hR hO hC hr1 hW1 hb1
  by_cases h0 : 0 ≤ ep
  · have d0 : decide (0 ≤ ep) = true := decide_eq_true h0
    by_cases h1 : ep ≤ 64
    · have d1 : decide (ep ≤ 64) = true := decide_eq_true h1
      have HV : Hid (keyB rows ep cs = comB rows cs) := Lib.hid (by unfold keyB; rw [d0, d1]; rfl)
      clear h0 h1
      go_enter Tryz.func80, Tryz.ntmps80
      go_wp2_with (rw [← HW1.out])
      refine (HKC.out).mono ?_
      rintro e w2 ⟨rfl, hb2⟩
      go_wp2_with fail
      go_ret
      exact ⟨ret_bool HV.out.symm, HB.out.trans (hb2.mono HB.out.size)⟩
    · have d1 : decide (ep ≤ 64) = false := decide_eq_false h1
      have HV : Hid (keyB rows ep cs = false) := Lib.hid (by unfold keyB; rw [d0, d1]; rfl)
      clear h0 h1
      go_enter Tryz.func80, Tryz.ntmps80
      go_wp2_with (rw [← HW1.out])
      go_ret
      exact ⟨ret_bool HV.out.symm, HB.out⟩
  · have d0 : decide (0 ≤ ep) = false := decide_eq_false h0
    have HV : Hid (keyB rows ep cs = false) := Lib.hid (by unfold keyB; rw [d0]; rfl)
    clear h0
    go_enter Tryz.func80, Tryz.ntmps80
    go_wp2_with (rw [← HW1.out])
    go_ret
    exact ⟨ret_bool HV.out.symm, HB.out⟩

end Go.Proofs.YtjjoadmkpbmhpaaGreat
