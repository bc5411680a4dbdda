/- The reference of complaints: Fits, Make, Settle. -/
import Derived.Test.YtggnipkfliompaaGreatDoorMCoT
import Derived.Test.YtggnipkfliompaaGreatDoorMCoI
import Derived.Test.YtggnipkfliompaaGreatDoorMRefM
import Derived.Test.YtggnipkfliompaaGreatDoorMRefP
namespace Go.Proofs.YtggnipkfliompaaGreatDoor
open Go.RowKit FP

section
variable {rows : List (List Int)} {owners : List Int} {s key : Int} {d : Dlg} {row q : Int} {c : Cmp}
theorem mk_no (h : mkE rows owners s d row = q) (hq : q ≠ 0) : mkC rows owners s d row = ⟨0, 0, 0, 0, 0⟩ ∧ mkB rows owners s d row = false ∧ mkE rows owners s d row = q := by
  have hb : mkB rows owners s d row = false := by unfold mkB; rw [h, beq_eq_false_iff_ne.2 hq]; rfl
  exact ⟨by unfold mkC; rw [hb]; rfl, hb, h⟩
theorem mk_ok (h : mkE rows owners s d row = 0) (hf : fitV rows d row (mkV s d row) = true) : mkC rows owners s d row = ⟨0, 0, 0, 0, 0⟩ ∧ mkB rows owners s d row = false ∧ mkE rows owners s d row = 0 := by
  have hb : mkB rows owners s d row = false := by unfold mkB; rw [h, hf]; rfl
  exact ⟨by unfold mkC; rw [hb]; rfl, hb, h⟩
theorem mk_bad (h : mkE rows owners s d row = 0) (hf : fitV rows d row (mkV s d row) = false) : mkC rows owners s d row = ⟨d.dealer, row, powE (parAt d row).2.1 s, prE s (parAt d row).2.1, prS s (parAt d row).2.1⟩ ∧ mkB rows owners s d row = true ∧ mkE rows owners s d row = 0 := by
  have hb : mkB rows owners s d row = true := by unfold mkB; rw [h, hf]; rfl
  exact ⟨by unfold mkC; rw [hb]; rfl, hb, h⟩
theorem mkE_c (h : cE rows owners d ≠ 0) : mkE rows owners s d row = cE rows owners d := by unfold mkE; rw [if_pos h]
theorem mkE_s (h : cE rows owners d = 0) (h2 : inB s 1 1073741788 = false) : mkE rows owners s d row = 110 := by unfold mkE; rw [if_neg (by rw [h]; simp), if_pos h2]
theorem mkE_r (h : cE rows owners d = 0) (h2 : inB s 1 1073741788 = true) (h3 : row < 0 ∨ (d.ps.length : Int) ≤ row) : mkE rows owners s d row = 1 := by unfold mkE; rw [if_neg (by rw [h]; simp), if_neg (by rw [h2]; decide), if_pos h3]
theorem mkE_o (h : cE rows owners d = 0) (h2 : inB s 1 1073741788 = true) (h3 : ¬ (row < 0 ∨ (d.ps.length : Int) ≤ row)) : mkE rows owners s d row = openE s d.dealer (parAt d row).1 (parAt d row).2.1 (parAt d row).2.2 := by unfold mkE; rw [if_neg (by rw [h]; simp), if_neg (by rw [h2]; decide), if_neg h3]
theorem st_c (h : cE rows owners d = q) (hq : q ≠ 0) : stG rows owners key d c = 0 ∧ stE rows owners key d c = q := by
  have e : stE rows owners key d c = q := by unfold stE; rw [h, if_pos hq]
  exact ⟨by unfold stG; rw [e, if_pos hq], e⟩
theorem st_r (h : cE rows owners d = 0) (h2 : c.dealer ≠ d.dealer ∨ c.row < 0 ∨ (d.ps.length : Int) ≤ c.row) : stG rows owners key d c = 0 ∧ stE rows owners key d c = 360 := by
  have e : stE rows owners key d c = 360 := by unfold stE; rw [h, if_neg (by simp), if_pos h2]
  exact ⟨by unfold stG; rw [e, if_pos (by decide)], e⟩
theorem st_k (h : cE rows owners d = 0) (h2 : ¬ (c.dealer ≠ d.dealer ∨ c.row < 0 ∨ (d.ps.length : Int) ≤ c.row)) (h3 : chkB key (parAt d c.row).2.1 c.D c.E c.S = false) : stG rows owners key d c = 2 ∧ stE rows owners key d c = 0 := by
  have e : stE rows owners key d c = 0 := by unfold stE; rw [h, if_neg (by simp), if_neg h2, if_pos h3]
  exact ⟨by unfold stG; rw [e, if_neg (by simp), if_pos h3], e⟩
theorem stE_w (h : cE rows owners d = 0) (h2 : ¬ (c.dealer ≠ d.dealer ∨ c.row < 0 ∨ (d.ps.length : Int) ≤ c.row)) (h3 : chkB key (parAt d c.row).2.1 c.D c.E c.S = true) : stE rows owners key d c = withE c.D d.dealer (parAt d c.row).1 (parAt d c.row).2.1 (parAt d c.row).2.2 := by
  unfold stE; rw [h, if_neg (by simp), if_neg h2, if_neg (by rw [h3]; decide)]
theorem st_w (h : stE rows owners key d c = q) (hq : q ≠ 0) : stG rows owners key d c = 0 ∧ stE rows owners key d c = q := ⟨by unfold stG; rw [h, if_pos hq], h⟩
theorem st_f (h : stE rows owners key d c = 0) (h3 : chkB key (parAt d c.row).2.1 c.D c.E c.S = true) {b : Bool} (hf : fitV rows d c.row (opnV c.D d.dealer (parAt d c.row).1 (parAt d c.row).2.2) = b) : stG rows owners key d c = (if b = true then 2 else 1) ∧ stE rows owners key d c = 0 :=
  ⟨by unfold stG; rw [h, if_neg (by simp), if_neg (by rw [h3]; decide), hf], h⟩
end

set_option maxRecDepth 100000 in
set_option maxHeartbeats 4000000 in
theorem rFits36_any (rv ov cv pv : Value) (rows : List (List Int)) (owners : List Int) (dl : Int) (cs : List Int) (ps : List Pcl) (row v : Int) (w : World) (hR : Rows2 w rv rows) (hO : Ints w ov owners) (hC : Ints w cv cs) (_hP : Parcels w pv ps) (hr : R64 row) (hv : R64 v) :
    Calls Tryz.prog 62 #[.agg #[rv, ov], .agg #[.int .i64 dl, cv, pv], .int .i64 row, .int .i64 v] w fun e w' => e = .returned (.bool (fitB rows owners cs row v)) ∧ Below w.heap.size w w' := by
  obtain ⟨W1, hW1, hb1, hr1, hr2⟩ := box_pd w rv ov (.int .i64 dl) cv pv
  have HF := Lib.hid (rFits_any rv ov cv rows owners cs row v W1 (hR.below hb1) (hO.below hb1) (hC.below hb1) hr hv)
  generalize fitB rows owners cs row v = b at *
  generalize fitE rows owners cs row v = q at *
  obtain ⟨a1, k1, rfl, -⟩ := id hR
  obtain ⟨a2, k2, rfl, -⟩ := id hO
  obtain ⟨a3, k3, rfl, -⟩ := id hC
  have c0 := row_cell hr1 (k := 0) (v := .slice a1 rows.length k1) rfl
  have c1 := row_cell hr1 (k := 1) (v := .slice a2 owners.length k2) rfl
  have de1 := row_cell hr2 (k := 1) (v := .slice a3 cs.length k3) rfl
  have HW1 := Lib.hid hW1
  have HB := Lib.hid hb1
  clear hR hO hC hr1 hr2 hW1 hb1 hr hv
  go_enter Tryz.func62, Tryz.ntmps62
  go_wp2_with (rw [← HW1.out])
  with_reducible refine HF.out.mono ?_
  rintro e w2 ⟨rfl, hb2⟩
  replace HB := Lib.hid (HB.out.trans (hb2.mono HB.out.size))
  clear hb2 HF HW1 c0 c1 de1
  go_wp2_with fail
  go_ret
  exact ⟨rfl, HB.out⟩

structure FMk8 (w0 : World) (pv : Value) (k : Nat) (gp : Nat) (op : Nat) (bD : Nat) (s : Int) (dl : Int) (n : Int) (pt : Int) (ci : Int) (V : Int) (F : Int) (done : Nat → Bool) (v : Nat → Value) (w : World) : Prop where
  b : Below w0.heap.size w0 w
  f0 : done 0 = true → v 0 = .int .i64 s
  f1 : done 1 = true → v 1 = .pointer (some ⟨bD, 0, none⟩)
  f2 : done 2 = true → v 2 = .int .i64 dl
  f3 : done 3 = true → v 3 = .pointer (some ⟨bD, 2, none⟩)
  f4 : done 4 = true → v 4 = pv
  f5 : done 5 = true → v 5 = .int .i64 (k : Int)
  f6 : done 6 = true → v 6 = .pointer (some ⟨gp, op + k * 3, none⟩)
  f7 : done 7 = true → v 7 = .agg #[.int .i64 n, .int .i64 pt, .int .i64 ci]
  f8 : done 8 = true → v 8 = .tuple #[.int .i64 V, .int .i64 F]
  f9 : done 9 = true → v 9 = .tuple #[.int .i64 V, .int .i64 F]
  f10 : done 10 = true → v 10 = .int .i64 V
  f11 : done 11 = true → v 11 = .int .i64 F
  f12 : done 12 = true → v 12 = .int .i64 V
  f13 : done 13 = true → v 13 = .int .i64 F


set_option maxRecDepth 100000 in
set_option maxHeartbeats 8000000 in
theorem rMake36_any (rv ov cv pv : Value) (rows : List (List Int)) (owners : List Int) (dl : Int) (cs : List Int) (ps : List Pcl) (s row : Int) (w : World) (hR : Rows2 w rv rows) (hO : Ints w ov owners) (hC : Ints w cv cs) (hP : Parcels w pv ps) (hs : R64 s) (hrow : R64 row) :
    Calls Tryz.prog 16 #[.agg #[rv, ov], .int .i64 s, .agg #[.int .i64 dl, cv, pv], .int .i64 row] w fun r w' => r = .returned (.tuple #[cmpV (mkC rows owners s ⟨dl, cs, ps⟩ row), .bool (mkB rows owners s ⟨dl, cs, ps⟩ row), .int .i64 (mkE rows owners s ⟨dl, cs, ps⟩ row)]) ∧ Below w.heap.size w w' := by
  obtain ⟨W1, hW1, hb1, hr1, hr2⟩ := box_pd w rv ov (.int .i64 dl) cv pv
  have hs1 : W1.heap.size = w.heap.size + 1 + 1 := by rw [hW1]; simp
  obtain ⟨W2, hW2⟩ : ∃ W, W = W1.alloc (.cells #[.int .i64 0, .int .i64 0, .int .i64 0, .int .i64 0, .int .i64 0] 34) := ⟨_, rfl⟩
  have hb2 : Below W1.heap.size W1 W2 := by rw [hW2]; exact below_new _ _ _
  have hr3 : W2.heap[w.heap.size + 1 + 1]? = some (.cells #[.int .i64 0, .int .i64 0, .int .i64 0, .int .i64 0, .int .i64 0] 34 (0, 0)) := by rw [hW2, ← hs1]; exact World.alloc_heap_new _ _
  have QC := Lib.hid hr3
  have hbq := hb1.trans (hb2.mono hb1.size)
  have HB := Lib.hid hbq
  have HR := Lib.hid (hR.below hbq)
  have HO := Lib.hid (hO.below hbq)
  have HC := Lib.hid (hC.below hbq)
  have HP := Lib.hid (hP.below hbq)
  obtain ⟨a1, k1, rfl, -⟩ := id hR
  obtain ⟨a2, k2, rfl, -, hl2, -⟩ := id hO
  obtain ⟨a3, k3, rfl, -, hl3, -⟩ := id hC
  obtain ⟨a4, k4, rfl, -, hl4, -⟩ := id hP
  have e1 := (hb2.block _ (row_lt hr1)).trans hr1
  have e2 := (hb2.block _ (row_lt hr2)).trans hr2
  have c0 := row_cell e1 (k := 0) (v := .slice a1 rows.length k1) rfl
  have c1 := row_cell e1 (k := 1) (v := .slice a2 owners.length k2) rfl
  have de0 := row_cell e2 (k := 0) (v := .int .i64 dl) rfl
  have de1 := row_cell e2 (k := 1) (v := .slice a3 cs.length k3) rfl
  have de2 := row_cell e2 (k := 2) (v := .slice a4 ps.length k4) rfl
  rw [hW1] at hW2
  have HW := Lib.hid hW2
  clear hR hO hC hP hr1 hr2 hr3 hW1 hW2 hb1 hb2 hbq e1 e2 hs1
  obtain ⟨s1, s2⟩ := hs
  go_enter Tryz.func16, Tryz.ntmps16
  go_wp2_with (rw [← HW.out])
  with_reducible refine (rError36_any _ _ _ _ rows owners dl cs ps _ HR.out HO.out HC.out HP.out).mono ?_
  rintro e w2 ⟨rfl, hb⟩
  replace c0 := below_cell hb c0
  replace c1 := below_cell hb c1
  replace de0 := below_cell hb de0
  replace de1 := below_cell hb de1
  replace de2 := below_cell hb de2
  replace HR := Lib.hid (HR.out.below hb)
  replace HO := Lib.hid (HO.out.below hb)
  replace HC := Lib.hid (HC.out.below hb)
  replace HP := Lib.hid (HP.out.below hb)
  replace QC := Lib.hid ((hb.block _ (row_lt QC.out)).trans QC.out)
  replace HB := Lib.hid (HB.out.trans (hb.mono HB.out.size))
  clear hb
  clear HW
  obtain ⟨q, hq⟩ : ∃ q, q = cE rows owners ⟨dl, cs, ps⟩ := ⟨_, rfl⟩
  rw [← hq]
  by_cases he : q = 0
  rotate_left
  · have HV := Lib.hid (mk_no (mkE_c (s := s) (row := row) (by rw [← hq]; exact he)) (by rw [← hq]; exact he))
    have d0 : (q != 0) = true := bne_iff_ne.2 he
    rw [← hq] at HV
    clear hq he
    have q0 := row_cell QC.out (k := 0) (v := .int .i64 0) rfl
    have q1 := row_cell QC.out (k := 1) (v := .int .i64 0) rfl
    have q2 := row_cell QC.out (k := 2) (v := .int .i64 0) rfl
    have q3 := row_cell QC.out (k := 3) (v := .int .i64 0) rfl
    have q4 := row_cell QC.out (k := 4) (v := .int .i64 0) rfl
    have f0 := row_free QC.out 0
    have f1 := row_free QC.out 1
    have f2 := row_free QC.out 2
    have f3 := row_free QC.out 3
    have f4 := row_free QC.out 4
    have hq := (row_set (row_set (row_set (row_set (row_set QC.out 0 (.int .i64 0)) 1 (.int .i64 0)) 2 (.int .i64 0)) 3 (.int .i64 0)) 4 (.int .i64 0))
    have p0 := row_cell hq (k := 0) (v := .int .i64 0) rfl
    have p1 := row_cell hq (k := 1) (v := .int .i64 0) rfl
    have p2 := row_cell hq (k := 2) (v := .int .i64 0) rfl
    have p3 := row_cell hq (k := 3) (v := .int .i64 0) rfl
    have p4 := row_cell hq (k := 4) (v := .int .i64 0) rfl
    have hle : w.heap.size ≤ w.heap.size + 1 + 1 := by omega
    have HBQ := Lib.hid (((((HB.out.setCell (p := ⟨w.heap.size + 1 + 1, 0, none⟩) hle (.int .i64 0)).setCell (p := ⟨w.heap.size + 1 + 1, 1, none⟩) hle (.int .i64 0)).setCell (p := ⟨w.heap.size + 1 + 1, 2, none⟩) hle (.int .i64 0)).setCell (p := ⟨w.heap.size + 1 + 1, 3, none⟩) hle (.int .i64 0)).setCell (p := ⟨w.heap.size + 1 + 1, 4, none⟩) hle (.int .i64 0))
    clear hq hle
    go_wp2_with fail
    refine bodyPost_ret (v := .tuple #[.agg #[.int .i64 0, .int .i64 0, .int .i64 0, .int .i64 0, .int .i64 0], .bool false, .int .i64 q]) (by simp [results, Tryz.results16, go_sem, p0, p1, p2, p3, p4]) rfl ⟨by rw [HV.out.1, HV.out.2.1, HV.out.2.2]; rfl, HBQ.out⟩
  subst he
  have HCE := Lib.hid hq.symm
  clear hq
  by_cases h1 : s < 1
  · have HV := Lib.hid (mk_no (mkE_s (row := row) HCE.out (inB_false (n := s) (by omega))) (by decide))
    have q0 := row_cell QC.out (k := 0) (v := .int .i64 0) rfl
    have q1 := row_cell QC.out (k := 1) (v := .int .i64 0) rfl
    have q2 := row_cell QC.out (k := 2) (v := .int .i64 0) rfl
    have q3 := row_cell QC.out (k := 3) (v := .int .i64 0) rfl
    have q4 := row_cell QC.out (k := 4) (v := .int .i64 0) rfl
    have f0 := row_free QC.out 0
    have f1 := row_free QC.out 1
    have f2 := row_free QC.out 2
    have f3 := row_free QC.out 3
    have f4 := row_free QC.out 4
    have hq := (row_set (row_set (row_set (row_set (row_set QC.out 0 (.int .i64 0)) 1 (.int .i64 0)) 2 (.int .i64 0)) 3 (.int .i64 0)) 4 (.int .i64 0))
    have p0 := row_cell hq (k := 0) (v := .int .i64 0) rfl
    have p1 := row_cell hq (k := 1) (v := .int .i64 0) rfl
    have p2 := row_cell hq (k := 2) (v := .int .i64 0) rfl
    have p3 := row_cell hq (k := 3) (v := .int .i64 0) rfl
    have p4 := row_cell hq (k := 4) (v := .int .i64 0) rfl
    have hle : w.heap.size ≤ w.heap.size + 1 + 1 := by omega
    have HBQ := Lib.hid (((((HB.out.setCell (p := ⟨w.heap.size + 1 + 1, 0, none⟩) hle (.int .i64 0)).setCell (p := ⟨w.heap.size + 1 + 1, 1, none⟩) hle (.int .i64 0)).setCell (p := ⟨w.heap.size + 1 + 1, 2, none⟩) hle (.int .i64 0)).setCell (p := ⟨w.heap.size + 1 + 1, 3, none⟩) hle (.int .i64 0)).setCell (p := ⟨w.heap.size + 1 + 1, 4, none⟩) hle (.int .i64 0))
    clear hq hle
    go_wp2_with fail
    refine bodyPost_ret (v := .tuple #[.agg #[.int .i64 0, .int .i64 0, .int .i64 0, .int .i64 0, .int .i64 0], .bool false, .int .i64 110]) (by simp [results, Tryz.results16, go_sem, p0, p1, p2, p3, p4]) rfl ⟨by rw [HV.out.1, HV.out.2.1, HV.out.2.2]; rfl, HBQ.out⟩
  by_cases h2 : 1073741789 ≤ s
  · have HV := Lib.hid (mk_no (mkE_s (row := row) HCE.out (inB_false (n := s) (by omega))) (by decide))
    have q0 := row_cell QC.out (k := 0) (v := .int .i64 0) rfl
    have q1 := row_cell QC.out (k := 1) (v := .int .i64 0) rfl
    have q2 := row_cell QC.out (k := 2) (v := .int .i64 0) rfl
    have q3 := row_cell QC.out (k := 3) (v := .int .i64 0) rfl
    have q4 := row_cell QC.out (k := 4) (v := .int .i64 0) rfl
    have f0 := row_free QC.out 0
    have f1 := row_free QC.out 1
    have f2 := row_free QC.out 2
    have f3 := row_free QC.out 3
    have f4 := row_free QC.out 4
    have hq := (row_set (row_set (row_set (row_set (row_set QC.out 0 (.int .i64 0)) 1 (.int .i64 0)) 2 (.int .i64 0)) 3 (.int .i64 0)) 4 (.int .i64 0))
    have p0 := row_cell hq (k := 0) (v := .int .i64 0) rfl
    have p1 := row_cell hq (k := 1) (v := .int .i64 0) rfl
    have p2 := row_cell hq (k := 2) (v := .int .i64 0) rfl
    have p3 := row_cell hq (k := 3) (v := .int .i64 0) rfl
    have p4 := row_cell hq (k := 4) (v := .int .i64 0) rfl
    have hle : w.heap.size ≤ w.heap.size + 1 + 1 := by omega
    have HBQ := Lib.hid (((((HB.out.setCell (p := ⟨w.heap.size + 1 + 1, 0, none⟩) hle (.int .i64 0)).setCell (p := ⟨w.heap.size + 1 + 1, 1, none⟩) hle (.int .i64 0)).setCell (p := ⟨w.heap.size + 1 + 1, 2, none⟩) hle (.int .i64 0)).setCell (p := ⟨w.heap.size + 1 + 1, 3, none⟩) hle (.int .i64 0)).setCell (p := ⟨w.heap.size + 1 + 1, 4, none⟩) hle (.int .i64 0))
    clear hq hle
    go_wp2_with fail
    refine bodyPost_ret (v := .tuple #[.agg #[.int .i64 0, .int .i64 0, .int .i64 0, .int .i64 0, .int .i64 0], .bool false, .int .i64 110]) (by simp [results, Tryz.results16, go_sem, p0, p1, p2, p3, p4]) rfl ⟨by rw [HV.out.1, HV.out.2.1, HV.out.2.2]; rfl, HBQ.out⟩
  have HS : Hid (inB s 1 1073741788 = true) := Lib.hid (inB_iff.2 ⟨by omega, by omega⟩)
  have HCM := Lib.hid (cE_ok.1 HCE.out)
  have hlen : ps.length = rows.length := HCM.out.len
  by_cases h3 : row < 0
  · have HV := Lib.hid (mk_no (mkE_r (d := ⟨dl, cs, ps⟩) HCE.out HS.out (.inl h3)) (by decide))
    clear hlen
    have q0 := row_cell QC.out (k := 0) (v := .int .i64 0) rfl
    have q1 := row_cell QC.out (k := 1) (v := .int .i64 0) rfl
    have q2 := row_cell QC.out (k := 2) (v := .int .i64 0) rfl
    have q3 := row_cell QC.out (k := 3) (v := .int .i64 0) rfl
    have q4 := row_cell QC.out (k := 4) (v := .int .i64 0) rfl
    have f0 := row_free QC.out 0
    have f1 := row_free QC.out 1
    have f2 := row_free QC.out 2
    have f3 := row_free QC.out 3
    have f4 := row_free QC.out 4
    have hq := (row_set (row_set (row_set (row_set (row_set QC.out 0 (.int .i64 0)) 1 (.int .i64 0)) 2 (.int .i64 0)) 3 (.int .i64 0)) 4 (.int .i64 0))
    have p0 := row_cell hq (k := 0) (v := .int .i64 0) rfl
    have p1 := row_cell hq (k := 1) (v := .int .i64 0) rfl
    have p2 := row_cell hq (k := 2) (v := .int .i64 0) rfl
    have p3 := row_cell hq (k := 3) (v := .int .i64 0) rfl
    have p4 := row_cell hq (k := 4) (v := .int .i64 0) rfl
    have hle : w.heap.size ≤ w.heap.size + 1 + 1 := by omega
    have HBQ := Lib.hid (((((HB.out.setCell (p := ⟨w.heap.size + 1 + 1, 0, none⟩) hle (.int .i64 0)).setCell (p := ⟨w.heap.size + 1 + 1, 1, none⟩) hle (.int .i64 0)).setCell (p := ⟨w.heap.size + 1 + 1, 2, none⟩) hle (.int .i64 0)).setCell (p := ⟨w.heap.size + 1 + 1, 3, none⟩) hle (.int .i64 0)).setCell (p := ⟨w.heap.size + 1 + 1, 4, none⟩) hle (.int .i64 0))
    clear hq hle
    go_wp2_with fail
    refine bodyPost_ret (v := .tuple #[.agg #[.int .i64 0, .int .i64 0, .int .i64 0, .int .i64 0, .int .i64 0], .bool false, .int .i64 1]) (by simp [results, Tryz.results16, go_sem, p0, p1, p2, p3, p4]) rfl ⟨by rw [HV.out.1, HV.out.2.1, HV.out.2.2]; rfl, HBQ.out⟩
  by_cases h4 : (rows.length : Int) ≤ row
  · have HV := Lib.hid (mk_no (mkE_r (d := ⟨dl, cs, ps⟩) HCE.out HS.out (.inr (by rw [hlen]; exact h4))) (by decide))
    clear hlen
    have q0 := row_cell QC.out (k := 0) (v := .int .i64 0) rfl
    have q1 := row_cell QC.out (k := 1) (v := .int .i64 0) rfl
    have q2 := row_cell QC.out (k := 2) (v := .int .i64 0) rfl
    have q3 := row_cell QC.out (k := 3) (v := .int .i64 0) rfl
    have q4 := row_cell QC.out (k := 4) (v := .int .i64 0) rfl
    have f0 := row_free QC.out 0
    have f1 := row_free QC.out 1
    have f2 := row_free QC.out 2
    have f3 := row_free QC.out 3
    have f4 := row_free QC.out 4
    have hq := (row_set (row_set (row_set (row_set (row_set QC.out 0 (.int .i64 0)) 1 (.int .i64 0)) 2 (.int .i64 0)) 3 (.int .i64 0)) 4 (.int .i64 0))
    have p0 := row_cell hq (k := 0) (v := .int .i64 0) rfl
    have p1 := row_cell hq (k := 1) (v := .int .i64 0) rfl
    have p2 := row_cell hq (k := 2) (v := .int .i64 0) rfl
    have p3 := row_cell hq (k := 3) (v := .int .i64 0) rfl
    have p4 := row_cell hq (k := 4) (v := .int .i64 0) rfl
    have hle : w.heap.size ≤ w.heap.size + 1 + 1 := by omega
    have HBQ := Lib.hid (((((HB.out.setCell (p := ⟨w.heap.size + 1 + 1, 0, none⟩) hle (.int .i64 0)).setCell (p := ⟨w.heap.size + 1 + 1, 1, none⟩) hle (.int .i64 0)).setCell (p := ⟨w.heap.size + 1 + 1, 2, none⟩) hle (.int .i64 0)).setCell (p := ⟨w.heap.size + 1 + 1, 3, none⟩) hle (.int .i64 0)).setCell (p := ⟨w.heap.size + 1 + 1, 4, none⟩) hle (.int .i64 0))
    clear hq hle
    go_wp2_with fail
    refine bodyPost_ret (v := .tuple #[.agg #[.int .i64 0, .int .i64 0, .int .i64 0, .int .i64 0, .int .i64 0], .bool false, .int .i64 1]) (by simp [results, Tryz.results16, go_sem, p0, p1, p2, p3, p4]) rfl ⟨by rw [HV.out.1, HV.out.2.1, HV.out.2.2]; rfl, HBQ.out⟩
  have HE := Lib.hid (mkE_o (d := ⟨dl, cs, ps⟩) HCE.out HS.out (row := row) (by rw [hlen]; omega))
  obtain ⟨k, rfl⟩ : ∃ k : Nat, row = (k : Int) := ⟨row.toNat, by omega⟩
  have hk : k < ps.length := by omega
  obtain ⟨gp, op, hga, z0, z1, z2⟩ := (show ∃ b off, a4 = some ⟨b, off, none⟩ ∧ w2.cell? ⟨b, off + k * 3, none⟩ = some (.int .i64 ps[k].1) ∧ w2.cell? ⟨b, off + k * 3 + 1, none⟩ = some (.int .i64 ps[k].2.1) ∧ w2.cell? ⟨b, off + k * 3 + 2, none⟩ = some (.int .i64 ps[k].2.2) by
    obtain ⟨a, cp, e, -, -, -, hh⟩ := HP.out
    injection e with e1 e2 e3
    subst e1
    exact hh k hk)
  subst hga
  obtain ⟨p1, p2, p3⟩ : R64 ps[k].1 ∧ R64 ps[k].2.1 ∧ R64 ps[k].2.2 := by
    obtain ⟨a, cp, e, -, -, hh, -⟩ := HP.out
    exact hh _ (List.getElem_mem hk)
  have HPA : Hid (parAt ⟨dl, cs, ps⟩ (k : Int) = ps[k]) := Lib.hid (by
    obtain ⟨_, h⟩ := parAt_mem (d := ⟨dl, cs, ps⟩) (row := (k : Int)) ⟨by omega, by show (k : Int) < (ps.length : Int); omega⟩
    exact h)
  rw [HPA.out] at HE
  have HD64 : Hid (R64 dl) := Lib.hid (by have := HCM.out.dealer; exact ⟨by have := this.1; simp only at this; omega, by have := this.2; simp only at this; omega⟩)
  have hfb := fun v hv => fitB_com HCM.out (row := (k : Int)) (v := v) ⟨by omega, by show (k : Int) < (ps.length : Int); omega⟩ hv
  have HFB := Lib.hid hfb
  clear hfb
  have HPR : Hid (mkV s ⟨dl, cs, ps⟩ (k : Int) = opnV (powE ps[k].2.1 s) dl ps[k].1 ps[k].2.2) := Lib.hid (by unfold mkV; rw [HPA.out])
  have HBAD := Lib.hid (fun h hf => mk_bad (rows := rows) (owners := owners) (s := s) (d := ⟨dl, cs, ps⟩) (row := (k : Int)) h hf)
  rw [HPA.out] at HBAD
  have HOP := Lib.hid (fun w => ropen_any s dl ps[k].1 ps[k].2.1 ps[k].2.2 w ⟨s1, s2⟩ HD64.out p1 p2)
  obtain ⟨n, hn⟩ : ∃ n, n = ps[k].1 := ⟨_, rfl⟩
  obtain ⟨pt, hpt⟩ : ∃ n, n = ps[k].2.1 := ⟨_, rfl⟩
  obtain ⟨ci, hci⟩ : ∃ n, n = ps[k].2.2 := ⟨_, rfl⟩
  rw [← hn] at HE HPR HOP z0
  rw [← hpt] at HE HPR HOP HBAD z1 p2
  rw [← hci] at HE HPR HOP z2
  clear hn hpt hci HPA p1 p3
  obtain ⟨F, hF⟩ : ∃ x, x = openE s dl n pt ci := ⟨_, rfl⟩
  obtain ⟨V, hV⟩ : ∃ x, x = openV s dl n pt ci := ⟨_, rfl⟩
  have HOK : Hid (F = 0 → (1 ≤ s ∧ s < 1073741789) ∧ El pt ∧ V = opnV (powE pt s) dl n ci ∧ (0 ≤ V ∧ V < 1073741789)) := Lib.hid (fun h => by
    rw [hF] at h
    obtain ⟨⟨x1, x2⟩, -, x3⟩ := openE_ok.1 h
    rw [hV, openV_yes h]
    exact ⟨⟨x1, by omega⟩, x3.pt, rfl, opnV_num _ _ _ _⟩)
  have HEF : Hid (mkE rows owners s ⟨dl, cs, ps⟩ (k : Int) = F) := Lib.hid (HE.out.trans hF.symm)
  rw [← hF, ← hV] at HOP
  have HLN := Lib.hid hlen
  have hk0 : (0 : Int) ≤ (k : Int) := Int.natCast_nonneg k
  have hk1 : (k : Int) < (ps.length : Int) := by omega
  clear HE hF hV hlen
  go_wp2_with fail
  refine wp_region_flowsG (by kernel_rfl) (by kernel_rfl) (by kernel_rfl) (by kernel_rfl) (fun done v W => FMk8 w2 (.slice (some ⟨gp, op, none⟩) ps.length k4) (k) (gp) (op) ((w.heap.size + 1)) (s) (dl) (n) (pt) (ci) (V) (F) done v W) (fun v => ?_) ?_ (fun v W h => ?_)
  · exact ⟨(Below.refl _ _).drew, (fun h => by cases h), (fun h => by cases h), (fun h => by cases h), (fun h => by cases h), (fun h => by cases h), (fun h => by cases h), (fun h => by cases h), (fun h => by cases h), (fun h => by cases h), (fun h => by cases h), (fun h => by cases h), (fun h => by cases h), (fun h => by cases h), (fun h => by cases h)⟩
  · refine ⟨?_, ?_, ?_, ?_, ?_, ?_, ?_, ?_, ?_, ?_, ?_, ?_, ?_, ?_, trivial⟩
    · intro done v W A h hd hp hu hA hB hdf
      have e0 : A.tmps[1]?.getD undef = .int .i64 s := hB 1 rfl
      clear hA hB hp hu hdf
      go_simp
      exact ⟨_, rfl, { h with f0 := (fun _ => rfl) }⟩
    · intro done v W A h hd hp hu hA hB hdf
      have e0 : A.tmps[6]?.getD undef = .pointer (some ⟨(w.heap.size + 1), 0, none⟩) := hB 6 rfl
      clear hA hB hp hu hdf
      go_simp
      exact ⟨_, rfl, { h with f1 := (fun _ => rfl) }⟩
    · intro done v W A h hd hp hu hA hB hdf
      have hd1 : done 1 = true := hp 1 rfl
      have e0 := (hA 1 43 rfl hd1).trans (h.f1 hd1)
      have y0_ := below_cell h.b de0
      clear hA hB hp hu hdf
      go_simp
      exact ⟨_, rfl, { h with f2 := (fun _ => rfl) }⟩
    · intro done v W A h hd hp hu hA hB hdf
      have e0 : A.tmps[6]?.getD undef = .pointer (some ⟨(w.heap.size + 1), 0, none⟩) := hB 6 rfl
      clear hA hB hp hu hdf
      go_simp
      exact ⟨_, rfl, { h with f3 := (fun _ => rfl) }⟩
    · intro done v W A h hd hp hu hA hB hdf
      have hd3 : done 3 = true := hp 3 rfl
      have e0 := (hA 3 45 rfl hd3).trans (h.f3 hd3)
      have y0_ := below_cell h.b de2
      clear hA hB hp hu hdf
      go_simp
      exact ⟨_, rfl, { h with f4 := (fun _ => rfl) }⟩
    · intro done v W A h hd hp hu hA hB hdf
      have e0 : A.tmps[3]?.getD undef = .int .i64 (k : Int) := hB 3 rfl
      clear hA hB hp hu hdf
      go_simp
      exact ⟨_, rfl, { h with f5 := (fun _ => rfl) }⟩
    · intro done v W A h hd hp hu hA hB hdf
      have hd4 : done 4 = true := hp 4 rfl
      have hd5 : done 5 = true := hp 5 rfl
      have e0 := (hA 4 46 rfl hd4).trans (h.f4 hd4)
      have e1 := (hA 5 47 rfl hd5).trans (h.f5 hd5)
      clear hA hB hp hu hdf
      go_simp
      exact ⟨_, rfl, { h with f6 := (fun _ => rfl) }⟩
    · intro done v W A h hd hp hu hA hB hdf
      have hd6 : done 6 = true := hp 6 rfl
      have e0 := (hA 6 48 rfl hd6).trans (h.f6 hd6)
      have y0_ := below_cell h.b z0
      have y1_ := below_cell h.b z1
      have y2_ := below_cell h.b z2
      clear hA hB hp hu hdf
      go_simp
      exact ⟨_, rfl, { h with f7 := (fun _ => rfl) }⟩
    · intro done v W A h hd hp hu hA hB hdf
      have hd0 : done 0 = true := hp 0 rfl
      have hd2 : done 2 = true := hp 2 rfl
      have hd7 : done 7 = true := hp 7 rfl
      have e0 := (hA 0 42 rfl hd0).trans (h.f0 hd0)
      have e1 := (hA 2 44 rfl hd2).trans (h.f2 hd2)
      have e2 := (hA 7 49 rfl hd7).trans (h.f7 hd7)
      clear hA hB hp hu hdf
      go_simp
      with_reducible refine (HOP.out W).mono ?_
      rintro e wq ⟨rfl, hb⟩
      exact ⟨_, rfl, { h with b := h.b.trans (hb.mono h.b.size), f8 := (fun _ => rfl) }⟩
    · intro done v W A h hd hp hu hA hB hdf
      have hd8 : done 8 = true := hp 8 rfl
      have e0 := (hA 8 50 rfl hd8).trans (h.f8 hd8)
      clear hA hB hp hu hdf
      go_simp
      exact ⟨_, rfl, { h with f9 := (fun _ => rfl) }⟩
    · intro done v W A h hd hp hu hA hB hdf
      have hd9 : done 9 = true := hp 9 rfl
      have e0 := (hA 9 41 rfl hd9).trans (h.f9 hd9)
      clear hA hB hp hu hdf
      go_simp
      exact ⟨_, rfl, { h with f10 := (fun _ => rfl) }⟩
    · intro done v W A h hd hp hu hA hB hdf
      have hd9 : done 9 = true := hp 9 rfl
      have e0 := (hA 9 41 rfl hd9).trans (h.f9 hd9)
      clear hA hB hp hu hdf
      go_simp
      exact ⟨_, rfl, { h with f11 := (fun _ => rfl) }⟩
    · intro done v W A h hd hp hu hA hB hdf
      have hd10 : done 10 = true := hp 10 rfl
      have e0 := (hA 10 51 rfl hd10).trans (h.f10 hd10)
      clear hA hB hp hu hdf
      go_simp
      exact ⟨_, rfl, { h with f12 := (fun _ => rfl) }⟩
    · intro done v W A h hd hp hu hA hB hdf
      have hd11 : done 11 = true := hp 11 rfl
      have e0 := (hA 11 52 rfl hd11).trans (h.f11 hd11)
      clear hA hB hp hu hdf
      go_simp
      exact ⟨_, rfl, { h with f13 := (fun _ => rfl) }⟩
  simp only [putL, Act.put, Nat.reduceAdd, List.setIfInBounds_toArray, List.set_cons_zero, List.set_cons_succ]
  rw [h.f12 rfl]
  rw [h.f13 rfl]
  have hbr := h.b
  replace c0 := below_cell hbr c0
  replace c1 := below_cell hbr c1
  replace de0 := below_cell hbr de0
  replace de1 := below_cell hbr de1
  replace de2 := below_cell hbr de2
  replace z0 := below_cell hbr z0
  replace z1 := below_cell hbr z1
  replace z2 := below_cell hbr z2
  replace HR := Lib.hid (HR.out.below hbr)
  replace HO := Lib.hid (HO.out.below hbr)
  replace HC := Lib.hid (HC.out.below hbr)
  replace HP := Lib.hid (HP.out.below hbr)
  replace QC := Lib.hid ((hbr.block _ (row_lt QC.out)).trans QC.out)
  replace HB := Lib.hid (HB.out.trans (hbr.mono HB.out.size))
  clear hbr
  by_cases hF0 : F = 0
  rotate_left
  · have HV := Lib.hid (mk_no HEF.out hF0)
    have d0 : (F != 0) = true := bne_iff_ne.2 hF0
    clear hF0
    have q0 := row_cell QC.out (k := 0) (v := .int .i64 0) rfl
    have q1 := row_cell QC.out (k := 1) (v := .int .i64 0) rfl
    have q2 := row_cell QC.out (k := 2) (v := .int .i64 0) rfl
    have q3 := row_cell QC.out (k := 3) (v := .int .i64 0) rfl
    have q4 := row_cell QC.out (k := 4) (v := .int .i64 0) rfl
    have f0 := row_free QC.out 0
    have f1 := row_free QC.out 1
    have f2 := row_free QC.out 2
    have f3 := row_free QC.out 3
    have f4 := row_free QC.out 4
    have hq := (row_set (row_set (row_set (row_set (row_set QC.out 0 (.int .i64 0)) 1 (.int .i64 0)) 2 (.int .i64 0)) 3 (.int .i64 0)) 4 (.int .i64 0))
    have p0 := row_cell hq (k := 0) (v := .int .i64 0) rfl
    have p1 := row_cell hq (k := 1) (v := .int .i64 0) rfl
    have p2 := row_cell hq (k := 2) (v := .int .i64 0) rfl
    have p3 := row_cell hq (k := 3) (v := .int .i64 0) rfl
    have p4 := row_cell hq (k := 4) (v := .int .i64 0) rfl
    have hle : w.heap.size ≤ w.heap.size + 1 + 1 := by omega
    have HBQ := Lib.hid (((((HB.out.setCell (p := ⟨w.heap.size + 1 + 1, 0, none⟩) hle (.int .i64 0)).setCell (p := ⟨w.heap.size + 1 + 1, 1, none⟩) hle (.int .i64 0)).setCell (p := ⟨w.heap.size + 1 + 1, 2, none⟩) hle (.int .i64 0)).setCell (p := ⟨w.heap.size + 1 + 1, 3, none⟩) hle (.int .i64 0)).setCell (p := ⟨w.heap.size + 1 + 1, 4, none⟩) hle (.int .i64 0))
    clear hq hle
    go_wp2_with fail
    refine bodyPost_ret (v := .tuple #[.agg #[.int .i64 0, .int .i64 0, .int .i64 0, .int .i64 0, .int .i64 0], .bool false, .int .i64 F]) (by simp [results, Tryz.results16, go_sem, p0, p1, p2, p3, p4]) rfl ⟨by rw [HV.out.1, HV.out.2.1, HV.out.2.2]; rfl, HBQ.out⟩
  subst hF0
  obtain ⟨hx1, hx2, hx3, hx4⟩ := HOK.out rfl
  have HX := Lib.hid (And.intro hx1 hx2)
  have HFE := Lib.hid (HFB.out V hx4)
  have HVV : Hid (mkV s ⟨dl, cs, ps⟩ (k : Int) = V) := Lib.hid (HPR.out.trans hx3.symm)
  have hV64 : R64 V := ⟨by omega, by omega⟩
  have hk64 : R64 (k : Int) := hrow
  clear HOK HFB HPR hx1 hx2 hx3 hx4 hrow
  go_wp2_with fail
  with_reducible refine (rFits36_any _ _ _ _ rows owners dl cs ps (k : Int) V _ HR.out HO.out HC.out HP.out hk64 hV64).mono ?_
  rintro e w4 ⟨rfl, hb⟩
  replace c0 := below_cell hb c0
  replace c1 := below_cell hb c1
  replace de0 := below_cell hb de0
  replace de1 := below_cell hb de1
  replace de2 := below_cell hb de2
  replace z0 := below_cell hb z0
  replace z1 := below_cell hb z1
  replace z2 := below_cell hb z2
  replace HR := Lib.hid (HR.out.below hb)
  replace HO := Lib.hid (HO.out.below hb)
  replace HC := Lib.hid (HC.out.below hb)
  replace HP := Lib.hid (HP.out.below hb)
  replace QC := Lib.hid ((hb.block _ (row_lt QC.out)).trans QC.out)
  replace HB := Lib.hid (HB.out.trans (hb.mono HB.out.size))
  clear hb
  have HFE2 : Hid (fitB rows owners cs (k : Int) V = fitV rows ⟨dl, cs, ps⟩ (k : Int) (mkV s ⟨dl, cs, ps⟩ (k : Int))) := Lib.hid (HFE.out.trans (by rw [HVV.out]))
  obtain ⟨b, hb⟩ : ∃ b, b = fitB rows owners cs (k : Int) V := ⟨_, rfl⟩
  rw [← hb] at HFE2 ⊢
  clear hb HFE HVV hV64 hk64
  cases b with
  | true =>
    have HV := Lib.hid (mk_ok HEF.out HFE2.out.symm)
    clear HFE2
    have q0 := row_cell QC.out (k := 0) (v := .int .i64 0) rfl
    have q1 := row_cell QC.out (k := 1) (v := .int .i64 0) rfl
    have q2 := row_cell QC.out (k := 2) (v := .int .i64 0) rfl
    have q3 := row_cell QC.out (k := 3) (v := .int .i64 0) rfl
    have q4 := row_cell QC.out (k := 4) (v := .int .i64 0) rfl
    have f0 := row_free QC.out 0
    have f1 := row_free QC.out 1
    have f2 := row_free QC.out 2
    have f3 := row_free QC.out 3
    have f4 := row_free QC.out 4
    have hq := (row_set (row_set (row_set (row_set (row_set QC.out 0 (.int .i64 0)) 1 (.int .i64 0)) 2 (.int .i64 0)) 3 (.int .i64 0)) 4 (.int .i64 0))
    have p0 := row_cell hq (k := 0) (v := .int .i64 0) rfl
    have p1 := row_cell hq (k := 1) (v := .int .i64 0) rfl
    have p2 := row_cell hq (k := 2) (v := .int .i64 0) rfl
    have p3 := row_cell hq (k := 3) (v := .int .i64 0) rfl
    have p4 := row_cell hq (k := 4) (v := .int .i64 0) rfl
    have hle : w.heap.size ≤ w.heap.size + 1 + 1 := by omega
    have HBQ := Lib.hid (((((HB.out.setCell (p := ⟨w.heap.size + 1 + 1, 0, none⟩) hle (.int .i64 0)).setCell (p := ⟨w.heap.size + 1 + 1, 1, none⟩) hle (.int .i64 0)).setCell (p := ⟨w.heap.size + 1 + 1, 2, none⟩) hle (.int .i64 0)).setCell (p := ⟨w.heap.size + 1 + 1, 3, none⟩) hle (.int .i64 0)).setCell (p := ⟨w.heap.size + 1 + 1, 4, none⟩) hle (.int .i64 0))
    clear hq hle
    go_wp2_with fail
    refine bodyPost_ret (v := .tuple #[.agg #[.int .i64 0, .int .i64 0, .int .i64 0, .int .i64 0, .int .i64 0], .bool false, .int .i64 0]) (by simp [results, Tryz.results16, go_sem, p0, p1, p2, p3, p4]) rfl ⟨by rw [HV.out.1, HV.out.2.1, HV.out.2.2]; rfl, HBQ.out⟩
  | false =>
    have HV := Lib.hid (HBAD.out HEF.out HFE2.out.symm)
    clear HFE2 HBAD HEF
    go_wp2_with fail
    with_reducible refine (rprove_yes s pt _ HX.out.1.1 HX.out.1.2 HX.out.2).mono ?_
    rintro e w5 ⟨rfl, hb⟩
    replace c0 := below_cell hb c0
    replace c1 := below_cell hb c1
    replace de0 := below_cell hb de0
    replace de1 := below_cell hb de1
    replace de2 := below_cell hb de2
    replace z0 := below_cell hb z0
    replace z1 := below_cell hb z1
    replace z2 := below_cell hb z2
    replace HR := Lib.hid (HR.out.below hb)
    replace HO := Lib.hid (HO.out.below hb)
    replace HC := Lib.hid (HC.out.below hb)
    replace HP := Lib.hid (HP.out.below hb)
    replace QC := Lib.hid ((hb.block _ (row_lt QC.out)).trans QC.out)
    replace HB := Lib.hid (HB.out.trans (hb.mono HB.out.size))
    clear hb
    obtain ⟨D, hD⟩ : ∃ n, n = powE pt s := ⟨_, rfl⟩
    obtain ⟨EE, hE⟩ : ∃ n, n = prE s pt := ⟨_, rfl⟩
    obtain ⟨SS, hS⟩ : ∃ n, n = prS s pt := ⟨_, rfl⟩
    rw [← hD, ← hE, ← hS] at HV ⊢
    clear hD hE hS HX
    obtain ⟨hb6, y0, y1⟩ := cell_agg2 w5 EE SS 32
    replace c0 := below_cell hb6 c0
    replace c1 := below_cell hb6 c1
    replace de0 := below_cell hb6 de0
    replace de1 := below_cell hb6 de1
    replace de2 := below_cell hb6 de2
    replace z0 := below_cell hb6 z0
    replace z1 := below_cell hb6 z1
    replace z2 := below_cell hb6 z2
    replace HR := Lib.hid (HR.out.below hb6)
    replace HO := Lib.hid (HO.out.below hb6)
    replace HC := Lib.hid (HC.out.below hb6)
    replace HP := Lib.hid (HP.out.below hb6)
    replace QC := Lib.hid ((hb6.block _ (row_lt QC.out)).trans QC.out)
    replace HB := Lib.hid (HB.out.trans (hb6.mono HB.out.size))
    clear hb6
    have q0 := row_cell QC.out (k := 0) (v := .int .i64 0) rfl
    have q1 := row_cell QC.out (k := 1) (v := .int .i64 0) rfl
    have q2 := row_cell QC.out (k := 2) (v := .int .i64 0) rfl
    have q3 := row_cell QC.out (k := 3) (v := .int .i64 0) rfl
    have q4 := row_cell QC.out (k := 4) (v := .int .i64 0) rfl
    have f0 := row_free QC.out 0
    have f1 := row_free QC.out 1
    have f2 := row_free QC.out 2
    have f3 := row_free QC.out 3
    have f4 := row_free QC.out 4
    have hq := (row_set (row_set (row_set (row_set (row_set QC.out 0 (.int .i64 dl)) 1 (.int .i64 (k : Int))) 2 (.int .i64 D)) 3 (.int .i64 EE)) 4 (.int .i64 SS))
    have p0 := row_cell hq (k := 0) (v := .int .i64 dl) rfl
    have p1 := row_cell hq (k := 1) (v := .int .i64 (k : Int)) rfl
    have p2 := row_cell hq (k := 2) (v := .int .i64 D) rfl
    have p3 := row_cell hq (k := 3) (v := .int .i64 EE) rfl
    have p4 := row_cell hq (k := 4) (v := .int .i64 SS) rfl
    have hle : w.heap.size ≤ w.heap.size + 1 + 1 := by omega
    have HBQ := Lib.hid (((((HB.out.setCell (p := ⟨w.heap.size + 1 + 1, 0, none⟩) hle (.int .i64 dl)).setCell (p := ⟨w.heap.size + 1 + 1, 1, none⟩) hle (.int .i64 (k : Int))).setCell (p := ⟨w.heap.size + 1 + 1, 2, none⟩) hle (.int .i64 D)).setCell (p := ⟨w.heap.size + 1 + 1, 3, none⟩) hle (.int .i64 EE)).setCell (p := ⟨w.heap.size + 1 + 1, 4, none⟩) hle (.int .i64 SS))
    clear hq hle
    go_wp2_with fail
    refine bodyPost_ret (v := .tuple #[.agg #[.int .i64 dl, .int .i64 (k : Int), .int .i64 D, .int .i64 EE, .int .i64 SS], .bool true, .int .i64 0]) (by simp [results, Tryz.results16, go_sem, p0, p1, p2, p3, p4]) rfl ⟨by rw [HV.out.1, HV.out.2.1, HV.out.2.2]; rfl, HBQ.out⟩

end Go.Proofs.YtggnipkfliompaaGreatDoor
