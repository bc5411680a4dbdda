/- The reference of parcels: Seal. -/
import Derived.Test.YtggnipkfliompaaGreatDoorMRefA
namespace Go.Proofs.YtggnipkfliompaaGreatDoor
open Go.RowKit

/-- What Seal returns. -/
def sealA (u key dealer row value : Int) : Array Value := if sealE u key dealer row value = 0 then #[.int .i64 row, .int .i64 (powE 4 u), .int .i64 (cipV u key dealer row value)] else #[.int .i64 0, .int .i64 0, .int .i64 0]
theorem sealA_no {u key dealer row value : Int} (h : sealE u key dealer row value ≠ 0) : sealA u key dealer row value = #[.int .i64 0, .int .i64 0, .int .i64 0] := if_neg h
theorem sealA_yes {u key dealer row value : Int} (h : sealE u key dealer row value = 0) : sealA u key dealer row value = #[.int .i64 row, .int .i64 (powE 4 u), .int .i64 (cipV u key dealer row value)] := if_pos h

set_option maxRecDepth 100000 in
set_option maxHeartbeats 8000000 in
theorem rseal_any (u key dealer row value : Int) (w : World) (hu : R64 u) (hk : R64 key) (hl : R64 dealer) (hr : R64 row) :
    Calls Tryz.prog 97 #[.int .i64 u, .int .i64 key, .int .i64 dealer, .int .i64 row, .int .i64 value] w fun r w' => r = .returned (.tuple #[.agg (sealA u key dealer row value), .int .i64 (sealE u key dealer row value)]) ∧ Below w.heap.size w w' := by
  obtain ⟨W1, hW1⟩ : ∃ W, W = w.alloc (.cells #[.int .i64 0, .int .i64 0, .int .i64 0] 49) := ⟨_, rfl⟩
  have hb1 : Below w.heap.size w W1 := by rw [hW1]; exact below_new _ _ _
  have hr1 : W1.heap[w.heap.size]? = some (.cells #[.int .i64 0, .int .i64 0, .int .i64 0] 49 (0, 0)) := by rw [hW1]; exact World.alloc_heap_new _ _
  have HB := Lib.hid hb1
  have Q := Lib.hid hr1
  have HW1 := Lib.hid hW1
  have HRR := Lib.hid (And.intro hu (And.intro hk (And.intro hl hr)))
  clear hb1 hr1 hW1
  go_enter Tryz.func97, Tryz.ntmps97
  go_wp2_with (rw [← HW1.out])
  with_reducible refine (secret35_any u _).mono ?_
  rintro e w2 ⟨rfl, rfl⟩
  clear HW1
  cases e1 : inB u 1 1073741788 with
  | false =>
    have HV : Hid (sealE u key dealer row value = 110) := Lib.hid (by unfold sealE; rw [e1]; rfl)
    clear e1
    have z0 := row_cell Q.out (k := 0) (v := .int .i64 0) rfl
    have f0 := row_free Q.out 0
    have z1 := row_cell Q.out (k := 1) (v := .int .i64 0) rfl
    have f1 := row_free Q.out 1
    have z2 := row_cell Q.out (k := 2) (v := .int .i64 0) rfl
    have f2 := row_free Q.out 2
    obtain ⟨Wf, hWf⟩ : ∃ W, W = (((W1.setCell ⟨w.heap.size, 0, none⟩ (.int .i64 0)).setCell ⟨w.heap.size, 1, none⟩ (.int .i64 0)).setCell ⟨w.heap.size, 2, none⟩ (.int .i64 0)) := ⟨_, rfl⟩
    have qf : Wf.heap[w.heap.size]? = some (.cells #[.int .i64 0, .int .i64 0, .int .i64 0] 49 (0, 0)) := by rw [hWf]; exact (row_set (row_set (row_set Q.out 0 (.int .i64 0)) 1 (.int .i64 0)) 2 (.int .i64 0))
    have HBF : Hid (Below w.heap.size w Wf) := Lib.hid (by rw [hWf]; exact (((HB.out.setCell (Nat.le_refl _) _).setCell (Nat.le_refl _) _).setCell (Nat.le_refl _) _))
    have y0 := row_cell qf (k := 0) (v := .int .i64 0) rfl
    have y1 := row_cell qf (k := 1) (v := .int .i64 0) rfl
    have y2 := row_cell qf (k := 2) (v := .int .i64 0) rfl
    have HWf := Lib.hid hWf
    clear hWf qf
    go_wp2_with (rw [← HWf.out])
    refine bodyPost_ret (v := .tuple #[.agg #[.int .i64 0, .int .i64 0, .int .i64 0], .int .i64 110]) (by simp [results, Tryz.results97, go_sem, y0, y1, y2]) rfl ?_
    exact ⟨by rw [sealA_no (by rw [HV.out]; decide), HV.out], HBF.out⟩
  | true =>
  go_wp2_with fail
  with_reducible refine (rvalid_any key _ HRR.out.2.1).mono ?_
  rintro e w2 ⟨rfl, rfl⟩
  cases e2 : elB key with
  | false =>
    have HV : Hid (sealE u key dealer row value = 100) := Lib.hid (by unfold sealE; rw [e1, e2]; rfl)
    clear e1 e2
    have z0 := row_cell Q.out (k := 0) (v := .int .i64 0) rfl
    have f0 := row_free Q.out 0
    have z1 := row_cell Q.out (k := 1) (v := .int .i64 0) rfl
    have f1 := row_free Q.out 1
    have z2 := row_cell Q.out (k := 2) (v := .int .i64 0) rfl
    have f2 := row_free Q.out 2
    obtain ⟨Wf, hWf⟩ : ∃ W, W = (((W1.setCell ⟨w.heap.size, 0, none⟩ (.int .i64 0)).setCell ⟨w.heap.size, 1, none⟩ (.int .i64 0)).setCell ⟨w.heap.size, 2, none⟩ (.int .i64 0)) := ⟨_, rfl⟩
    have qf : Wf.heap[w.heap.size]? = some (.cells #[.int .i64 0, .int .i64 0, .int .i64 0] 49 (0, 0)) := by rw [hWf]; exact (row_set (row_set (row_set Q.out 0 (.int .i64 0)) 1 (.int .i64 0)) 2 (.int .i64 0))
    have HBF : Hid (Below w.heap.size w Wf) := Lib.hid (by rw [hWf]; exact (((HB.out.setCell (Nat.le_refl _) _).setCell (Nat.le_refl _) _).setCell (Nat.le_refl _) _))
    have y0 := row_cell qf (k := 0) (v := .int .i64 0) rfl
    have y1 := row_cell qf (k := 1) (v := .int .i64 0) rfl
    have y2 := row_cell qf (k := 2) (v := .int .i64 0) rfl
    have HWf := Lib.hid hWf
    clear hWf qf
    go_wp2_with (rw [← HWf.out])
    refine bodyPost_ret (v := .tuple #[.agg #[.int .i64 0, .int .i64 0, .int .i64 0], .int .i64 100]) (by simp [results, Tryz.results97, go_sem, y0, y1, y2]) rfl ?_
    exact ⟨by rw [sealA_no (by rw [HV.out]; decide), HV.out], HBF.out⟩
  | true =>
  go_wp2_with fail
  with_reducible refine (person35_any dealer _).mono ?_
  rintro e w2 ⟨rfl, rfl⟩
  cases e3 : inB dealer 0 63 with
  | false =>
    have HV : Hid (sealE u key dealer row value = 1) := Lib.hid (by unfold sealE; rw [e1, e2, e3]; rfl)
    clear e1 e2 e3
    have z0 := row_cell Q.out (k := 0) (v := .int .i64 0) rfl
    have f0 := row_free Q.out 0
    have z1 := row_cell Q.out (k := 1) (v := .int .i64 0) rfl
    have f1 := row_free Q.out 1
    have z2 := row_cell Q.out (k := 2) (v := .int .i64 0) rfl
    have f2 := row_free Q.out 2
    obtain ⟨Wf, hWf⟩ : ∃ W, W = (((W1.setCell ⟨w.heap.size, 0, none⟩ (.int .i64 0)).setCell ⟨w.heap.size, 1, none⟩ (.int .i64 0)).setCell ⟨w.heap.size, 2, none⟩ (.int .i64 0)) := ⟨_, rfl⟩
    have qf : Wf.heap[w.heap.size]? = some (.cells #[.int .i64 0, .int .i64 0, .int .i64 0] 49 (0, 0)) := by rw [hWf]; exact (row_set (row_set (row_set Q.out 0 (.int .i64 0)) 1 (.int .i64 0)) 2 (.int .i64 0))
    have HBF : Hid (Below w.heap.size w Wf) := Lib.hid (by rw [hWf]; exact (((HB.out.setCell (Nat.le_refl _) _).setCell (Nat.le_refl _) _).setCell (Nat.le_refl _) _))
    have y0 := row_cell qf (k := 0) (v := .int .i64 0) rfl
    have y1 := row_cell qf (k := 1) (v := .int .i64 0) rfl
    have y2 := row_cell qf (k := 2) (v := .int .i64 0) rfl
    have HWf := Lib.hid hWf
    clear hWf qf
    go_wp2_with (rw [← HWf.out])
    refine bodyPost_ret (v := .tuple #[.agg #[.int .i64 0, .int .i64 0, .int .i64 0], .int .i64 1]) (by simp [results, Tryz.results97, go_sem, y0, y1, y2]) rfl ?_
    exact ⟨by rw [sealA_no (by rw [HV.out]; decide), HV.out], HBF.out⟩
  | true =>
  go_wp2_with fail
  with_reducible refine (row35_any row _).mono ?_
  rintro e w2 ⟨rfl, rfl⟩
  cases e4 : inB row 0 63 with
  | false =>
    have HV : Hid (sealE u key dealer row value = 1) := Lib.hid (by unfold sealE; rw [e1, e2, e3, e4]; rfl)
    clear e1 e2 e3 e4
    have z0 := row_cell Q.out (k := 0) (v := .int .i64 0) rfl
    have f0 := row_free Q.out 0
    have z1 := row_cell Q.out (k := 1) (v := .int .i64 0) rfl
    have f1 := row_free Q.out 1
    have z2 := row_cell Q.out (k := 2) (v := .int .i64 0) rfl
    have f2 := row_free Q.out 2
    obtain ⟨Wf, hWf⟩ : ∃ W, W = (((W1.setCell ⟨w.heap.size, 0, none⟩ (.int .i64 0)).setCell ⟨w.heap.size, 1, none⟩ (.int .i64 0)).setCell ⟨w.heap.size, 2, none⟩ (.int .i64 0)) := ⟨_, rfl⟩
    have qf : Wf.heap[w.heap.size]? = some (.cells #[.int .i64 0, .int .i64 0, .int .i64 0] 49 (0, 0)) := by rw [hWf]; exact (row_set (row_set (row_set Q.out 0 (.int .i64 0)) 1 (.int .i64 0)) 2 (.int .i64 0))
    have HBF : Hid (Below w.heap.size w Wf) := Lib.hid (by rw [hWf]; exact (((HB.out.setCell (Nat.le_refl _) _).setCell (Nat.le_refl _) _).setCell (Nat.le_refl _) _))
    have y0 := row_cell qf (k := 0) (v := .int .i64 0) rfl
    have y1 := row_cell qf (k := 1) (v := .int .i64 0) rfl
    have y2 := row_cell qf (k := 2) (v := .int .i64 0) rfl
    have HWf := Lib.hid hWf
    clear hWf qf
    go_wp2_with (rw [← HWf.out])
    refine bodyPost_ret (v := .tuple #[.agg #[.int .i64 0, .int .i64 0, .int .i64 0], .int .i64 1]) (by simp [results, Tryz.results97, go_sem, y0, y1, y2]) rfl ?_
    exact ⟨by rw [sealA_no (by rw [HV.out]; decide), HV.out], HBF.out⟩
  | true =>
  go_wp2_with fail
  with_reducible refine (number35_any value _).mono ?_
  rintro e w2 ⟨rfl, rfl⟩
  cases e5 : inB value 0 1073741788 with
  | false =>
    have HV : Hid (sealE u key dealer row value = 350) := Lib.hid (by unfold sealE; rw [e1, e2, e3, e4, e5]; rfl)
    clear e1 e2 e3 e4 e5
    have z0 := row_cell Q.out (k := 0) (v := .int .i64 0) rfl
    have f0 := row_free Q.out 0
    have z1 := row_cell Q.out (k := 1) (v := .int .i64 0) rfl
    have f1 := row_free Q.out 1
    have z2 := row_cell Q.out (k := 2) (v := .int .i64 0) rfl
    have f2 := row_free Q.out 2
    obtain ⟨Wf, hWf⟩ : ∃ W, W = (((W1.setCell ⟨w.heap.size, 0, none⟩ (.int .i64 0)).setCell ⟨w.heap.size, 1, none⟩ (.int .i64 0)).setCell ⟨w.heap.size, 2, none⟩ (.int .i64 0)) := ⟨_, rfl⟩
    have qf : Wf.heap[w.heap.size]? = some (.cells #[.int .i64 0, .int .i64 0, .int .i64 0] 49 (0, 0)) := by rw [hWf]; exact (row_set (row_set (row_set Q.out 0 (.int .i64 0)) 1 (.int .i64 0)) 2 (.int .i64 0))
    have HBF : Hid (Below w.heap.size w Wf) := Lib.hid (by rw [hWf]; exact (((HB.out.setCell (Nat.le_refl _) _).setCell (Nat.le_refl _) _).setCell (Nat.le_refl _) _))
    have y0 := row_cell qf (k := 0) (v := .int .i64 0) rfl
    have y1 := row_cell qf (k := 1) (v := .int .i64 0) rfl
    have y2 := row_cell qf (k := 2) (v := .int .i64 0) rfl
    have HWf := Lib.hid hWf
    clear hWf qf
    go_wp2_with (rw [← HWf.out])
    refine bodyPost_ret (v := .tuple #[.agg #[.int .i64 0, .int .i64 0, .int .i64 0], .int .i64 350]) (by simp [results, Tryz.results97, go_sem, y0, y1, y2]) rfl ?_
    exact ⟨by rw [sealA_no (by rw [HV.out]; decide), HV.out], HBF.out⟩
  | true =>
  have HV : Hid (sealE u key dealer row value = 0) := Lib.hid (by unfold sealE; rw [e1, e2, e3, e4, e5]; rfl)
  have hel := elB_iff.1 e2
  have hvn := inB_iff.1 e5
  have HPU := Lib.hid (fun W => rpow_yes 4 u W el_four HRR.out.1)
  have HPK := Lib.hid (fun W => rpow_yes key u W hel HRR.out.1)
  have HD := Lib.hid (el_powE hel u).r64
  have hpn := padV_num (powE key u) dealer row
  have HPA := Lib.hid (rpad_any (powE key u) dealer row)
  obtain ⟨pt, hpt⟩ : ∃ p, p = powE 4 u := ⟨_, rfl⟩
  obtain ⟨d, hd⟩ : ∃ p, p = powE key u := ⟨_, rfl⟩
  rw [← hpt] at HPU
  rw [← hd] at HPK HD hpn HPA
  obtain ⟨pd, hpd⟩ : ∃ p, p = padV d dealer row := ⟨_, rfl⟩
  rw [← hpd] at hpn HPA
  obtain ⟨q1, hq1⟩ : ∃ q, q = value + pd := ⟨_, rfl⟩
  obtain ⟨q2, hq2⟩ : ∃ q, q = q1 % 1073741789 := ⟨_, rfl⟩
  have HO : Hid (sealA u key dealer row value = #[.int .i64 row, .int .i64 pt, .int .i64 q2]) := Lib.hid (by
    rw [sealA_yes HV.out, hpt, hq2, hq1, hpd, hd]; rfl)
  have m1 : IntKind.i64.wrap (value + pd) = q1 := by rw [hq1]; exact IntWalk.i64_in _ (by omega)
  have m2 : q1.tmod 1073741789 = q2 := by rw [hq2]; exact Int.tmod_eq_emod_of_nonneg (by omega)
  clear e1 e2 e3 e4 e5 hel hvn hpn hpt hd hpd hq1 hq2
  go_wp2_with fail
  with_reducible refine (HPU.out _).mono ?_
  rintro e w3 ⟨rfl, rfl⟩
  go_wp2_with fail
  with_reducible refine (HPK.out _).mono ?_
  rintro e w4 ⟨rfl, rfl⟩
  go_wp2_with fail
  with_reducible refine (HPA.out _ (fun z hz => by
    simp only [List.mem_cons, List.not_mem_nil, or_false] at hz
    rcases hz with rfl | rfl | rfl
    · exact HD.out
    · exact HRR.out.2.2.1
    · exact HRR.out.2.2.2)).mono ?_
  rintro e w5 ⟨rfl, hb5⟩
  replace Q := Lib.hid ((hb5.block _ (row_lt Q.out)).trans Q.out)
  replace HB := Lib.hid (HB.out.trans (hb5.mono HB.out.size))
  clear hb5
  have z0 := row_cell Q.out (k := 0) (v := .int .i64 0) rfl
  have f0 := row_free Q.out 0
  have z1 := row_cell Q.out (k := 1) (v := .int .i64 0) rfl
  have f1 := row_free Q.out 1
  have z2 := row_cell Q.out (k := 2) (v := .int .i64 0) rfl
  have f2 := row_free Q.out 2
  obtain ⟨Wf, hWf⟩ : ∃ W, W = (((w5.setCell ⟨w.heap.size, 0, none⟩ (.int .i64 row)).setCell ⟨w.heap.size, 1, none⟩ (.int .i64 pt)).setCell ⟨w.heap.size, 2, none⟩ (.int .i64 q2)) := ⟨_, rfl⟩
  have qf : Wf.heap[w.heap.size]? = some (.cells #[.int .i64 row, .int .i64 pt, .int .i64 q2] 49 (0, 0)) := by rw [hWf]; exact (row_set (row_set (row_set Q.out 0 (.int .i64 row)) 1 (.int .i64 pt)) 2 (.int .i64 q2))
  have HBF : Hid (Below w.heap.size w Wf) := Lib.hid (by rw [hWf]; exact (((HB.out.setCell (Nat.le_refl _) _).setCell (Nat.le_refl _) _).setCell (Nat.le_refl _) _))
  have y0 := row_cell qf (k := 0) (v := .int .i64 row) rfl
  have y1 := row_cell qf (k := 1) (v := .int .i64 pt) rfl
  have y2 := row_cell qf (k := 2) (v := .int .i64 q2) rfl
  have HWf := Lib.hid hWf
  clear hWf qf
  go_wp2_with (rw [← HWf.out])
  refine bodyPost_ret (v := .tuple #[.agg #[.int .i64 row, .int .i64 pt, .int .i64 q2], .int .i64 0]) (by simp [results, Tryz.results97, go_sem, y0, y1, y2]) rfl ?_
  exact ⟨by rw [HO.out, HV.out], HBF.out⟩

end Go.Proofs.YtggnipkfliompaaGreatDoor
