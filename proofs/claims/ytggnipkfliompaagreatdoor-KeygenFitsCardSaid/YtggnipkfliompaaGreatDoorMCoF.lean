/- Package complaints: what Make tries. The laws of complaints, in plain Lean: what Make and Settle answer about a sealed dealing. The laws of dealing: the sum of two lists, in plain Lean. What LinearSums and LinearChanged say, without a program: combinations of sums; rows that are changed. The laws of dealing: what is recovered from shares that were dealt; sums of dealings, in plain Lean. Products of commitments and sums of what is dealt, in plain Lean. -/
import Derived.Test.YtggnipkfliompaaGreatDoorMCoE
import Derived.Test.YtggnipkfliompaaGreatDoorMParF
import Derived.Test.YtggnipkfliompaaGreatDoorMEqA
import Derived.Test.YtggnipkfliompaaGreatDoorMDeaJ
namespace Go.Proofs.YtggnipkfliompaaGreatDoor
open Go.RowKit FP

def cmp0 : Cmp := ⟨0, 0, 0, 0, 0⟩
/-- What Make's function leaves. -/
def MkR (w0 : World) (C K : Nat) (rows : List (List Int)) (owners : List Int) (s : Int) (d : Dlg) (row : Int) (e : Int) (w' : World) : Prop :=
  e = mkE rows owners s d row ∧ Below w0.heap.size w0 w' ∧ w'.heap[C]? = some (.cells (cmpA (mkC rows owners s d row)) 34 (0, 0)) ∧ w'.heap[K]? = some (.cells #[.bool (mkB rows owners s d row)] 4 (0, 0))
theorem mkB_not {rows : List (List Int)} {owners : List Int} {s : Int} {d : Dlg} {row : Int} (h : mkE rows owners s d row ≠ 0) : mkB rows owners s d row = false := by
  unfold mkB; rw [beq_eq_false_iff_ne.2 h]; rfl
theorem mkB_fits {rows : List (List Int)} {owners : List Int} {s : Int} {d : Dlg} {row : Int} (h : fitV rows d row (mkV s d row) = true) : mkB rows owners s d row = false := by
  unfold mkB; rw [h]; simp
theorem mkB_yes {rows : List (List Int)} {owners : List Int} {s : Int} {d : Dlg} {row : Int} (h : mkE rows owners s d row = 0) (h2 : fitV rows d row (mkV s d row) = false) : mkB rows owners s d row = true := by
  unfold mkB; rw [h, h2]; rfl
theorem mkC_no {rows : List (List Int)} {owners : List Int} {s : Int} {d : Dlg} {row : Int} (h : mkB rows owners s d row = false) : mkC rows owners s d row = cmp0 := by
  unfold mkC; rw [h]; rfl
theorem mk_rest {C K : Nat} {w0 w : World} {rows : List (List Int)} {owners : List Int} {s : Int} {d : Dlg} {row : Int} (hb : Below w0.heap.size w0 w) (hB : mkB rows owners s d row = false)
    (qC : w.heap[C]? = some (.cells (cmpA cmp0) 34 (0, 0))) (qK : w.heap[K]? = some (.cells #[.bool false] 4 (0, 0))) : MkR w0 C K rows owners s d row (mkE rows owners s d row) w :=
  ⟨rfl, hb, by rw [mkC_no hB]; exact qC, by rw [hB]; exact qK⟩
theorem mk_stop {E C K : Nat} {w0 w : World} {rows : List (List Int)} {owners : List Int} {s : Int} {d : Dlg} {row e : Int} (hb : Below w0.heap.size w0 w) (he : mkE rows owners s d row = e) (h0 : e ≠ 0)
    (qC : w.heap[C]? = some (.cells (cmpA cmp0) 34 (0, 0))) (qK : w.heap[K]? = some (.cells #[.bool false] 4 (0, 0))) (qE : w.heap[E]? = some (.cells #[.int .i64 0] 35 (0, 0))) :
    TryF E (MkR w0 C K rows owners s d row) (.panicked (stopped36 e)) w :=
  ⟨⟨e, by rw [raised36_not h0], by rw [← he]; exact mk_rest hb (mkB_not (by rw [he]; exact h0)) qC qK⟩, qE⟩
theorem Parcels.at {w : World} {a : Option Addr} {n c : Nat} {l : List Pcl} (h : Parcels w (.slice a n c) l) {k : Nat} (hk : k < l.length) : ∃ b off, a = some ⟨b, off, none⟩ ∧ w.cell? ⟨b, off + k * 3, none⟩ = some (.int .i64 l[k].1) ∧ w.cell? ⟨b, off + k * 3 + 1, none⟩ = some (.int .i64 l[k].2.1) ∧ w.cell? ⟨b, off + k * 3 + 2, none⟩ = some (.int .i64 l[k].2.2) ∧ R64 l[k].2.1 := by
  obtain ⟨a', cap, h1, -, -, h4, h5⟩ := h
  cases h1
  obtain ⟨b, off, e, h6, h7, h8⟩ := h5 k hk
  exact ⟨b, off, e, h6, h7, h8, (h4 _ (List.getElem_mem hk)).2.1⟩

set_option maxRecDepth 100000 in
theorem goes_make1 : Goes Tryz.prog 54 := goes_of Tryz.func54 (by kernel_rfl) rfl

set_option maxRecDepth 100000 in
set_option maxHeartbeats 8000000 in
theorem make1_any (w0 : World) (P D S R C K E : Nat) (rv ov cv pv : Value) (rows : List (List Int)) (owners : List Int) (d : Dlg) (s row : Int) (w : World)
    (hb : Below w0.heap.size w0 w) (hG : Glob w) (hR : Rows2 w rv rows) (hO : Ints w ov owners) (hC : Ints w cv d.cs) (hP : Parcels w pv d.ps)
    (qP : w.heap[P]? = some (.cells #[rv, ov] 25 (0, 0))) (qD : w.heap[D]? = some (.cells #[.int .i64 d.dealer, cv, pv] 28 (0, 0))) (qS : w.heap[S]? = some (.cells #[.int .i64 s] 3 (0, 0))) (qR : w.heap[R]? = some (.cells #[.int .i64 row] 3 (0, 0)))
    (qC : w.heap[C]? = some (.cells (cmpA cmp0) 34 (0, 0))) (qK : w.heap[K]? = some (.cells #[.bool false] 4 (0, 0))) (qE : w.heap[E]? = some (.cells #[.int .i64 0] 35 (0, 0)))
    (hnC : w0.heap.size ≤ C) (hnK : w0.heap.size ≤ K) (hCK : C ≠ K) (hEC : E ≠ C) (hEK : E ≠ K) (hs : R64 s) (hrow : R64 row) :
    Calls Tryz.prog 54 #[.pointer (some ⟨P, 0, none⟩), .pointer (some ⟨D, 0, none⟩), .pointer (some ⟨S, 0, none⟩), .pointer (some ⟨R, 0, none⟩), .pointer (some ⟨C, 0, none⟩), .pointer (some ⟨K, 0, none⟩)] w (TryF E (MkR w0 C K rows owners s d row)) := by
  have HB := Lib.hid hb
  have HG := Lib.hid hG
  have HR := Lib.hid hR
  have HO := Lib.hid hO
  have HC := Lib.hid hC
  have HP := Lib.hid hP
  have QP := Lib.hid qP
  have QD := Lib.hid qD
  have QS := Lib.hid qS
  have QR := Lib.hid qR
  have QC := Lib.hid qC
  have QK := Lib.hid qK
  have QE := Lib.hid qE
  have hN0 := HB.out.size
  have HNE := Lib.hid (And.intro hnC (And.intro hnK (And.intro hCK (And.intro hEC hEK))))
  obtain ⟨a1, k1, rfl, -, hl1, -⟩ := id hR
  obtain ⟨a2, k2, rfl, -, hl2, -⟩ := id hO
  obtain ⟨a3, k3, rfl, -, hl3, -⟩ := id hC
  obtain ⟨a4, k4, rfl, -, hl4, -⟩ := id hP
  clear hb hG hR hO hC hP qP qD qS qR qC qK qE hnC hnK hCK hEC hEK
  obtain ⟨ME, hME⟩ : ∃ e, e = mkE rows owners s d row := ⟨_, rfl⟩
  have p0 := row_cell QP.out (k := 0) (v := .slice a1 rows.length k1) rfl
  have p1 := row_cell QP.out (k := 1) (v := .slice a2 owners.length k2) rfl
  have d0 := row_cell QD.out (k := 0) (v := .int .i64 d.dealer) rfl
  have d1 := row_cell QD.out (k := 1) (v := .slice a3 d.cs.length k3) rfl
  have d2 := row_cell QD.out (k := 2) (v := .slice a4 d.ps.length k4) rfl
  have s0 := row_cell QS.out (k := 0) (v := .int .i64 s) rfl
  have r0 := row_cell QR.out (k := 0) (v := .int .i64 row) rfl
  go_enter Tryz.func54, Tryz.ntmps54
  go_wp2_with fail
  with_reducible refine ((check36_any _ _ _ _ rows owners d _ HR.out HO.out HC.out HP.out)).mono ?_
  rintro e w2 ⟨rfl, hb2⟩
  replace p0 := below_cell hb2 p0
  replace p1 := below_cell hb2 p1
  replace d0 := below_cell hb2 d0
  replace d1 := below_cell hb2 d1
  replace d2 := below_cell hb2 d2
  replace s0 := below_cell hb2 s0
  replace r0 := below_cell hb2 r0
  replace HG := Lib.hid (HG.out.below hb2)
  replace HR := Lib.hid (HR.out.below hb2)
  replace HO := Lib.hid (HO.out.below hb2)
  replace HC := Lib.hid (HC.out.below hb2)
  replace HP := Lib.hid (HP.out.below hb2)
  replace QP := Lib.hid ((hb2.block _ (row_lt QP.out)).trans QP.out)
  replace QD := Lib.hid ((hb2.block _ (row_lt QD.out)).trans QD.out)
  replace QS := Lib.hid ((hb2.block _ (row_lt QS.out)).trans QS.out)
  replace QR := Lib.hid ((hb2.block _ (row_lt QR.out)).trans QR.out)
  replace QC := Lib.hid ((hb2.block _ (row_lt QC.out)).trans QC.out)
  replace QK := Lib.hid ((hb2.block _ (row_lt QK.out)).trans QK.out)
  replace QE := Lib.hid ((hb2.block _ (row_lt QE.out)).trans QE.out)
  replace HB := Lib.hid (HB.out.trans (hb2.mono HB.out.size))
  clear hb2
  by_cases hc : cE rows owners d = 0
  rotate_left
  · have HV : Hid (mkE rows owners s d row = cE rows owners d) := Lib.hid (by unfold mkE; rw [if_pos hc])
    rw [raised36_not hc]
    have HNZ := Lib.hid hc
    clear hc
    go_wp2_with fail
    exact ⟨rfl, mk_stop HB.out HV.out HNZ.out QC.out QK.out QE.out⟩
  have HCM := Lib.hid (cE_ok.1 hc)
  have HE : Hid (mkE rows owners s d row = if inB s 1 1073741788 = false then 110 else if row < 0 ∨ (d.ps.length : Int) ≤ row then 1 else openE s d.dealer (parAt d row).1 (parAt d row).2.1 (parAt d row).2.2) := Lib.hid (by unfold mkE; rw [if_neg (by simp [hc])])
  rw [hc, raised36_zero rfl]
  clear hc
  cases hin : inB s 1 1073741788 with
  | false =>
    have HV := Lib.hid (HE.out.trans (if_pos hin))
    by_cases h0 : 1 ≤ s
    · have e0 : decide (1 ≤ s) = true := decide_eq_true h0
      have e1 : decide (s < 1073741789) = false := decide_eq_false (fun h => by rw [inB_iff.2 ⟨h0, by omega⟩] at hin; cases hin)
      clear h0 hin
      go_wp2_with fail
      with_reducible refine ((cmust_bad 110 _)).mono ?_
      rintro e w3 ⟨rfl, rfl⟩
      go_wp2_with fail
      exact ⟨rfl, mk_stop HB.out HV.out (by decide) QC.out QK.out QE.out⟩
    · have e0 : decide (1 ≤ s) = false := decide_eq_false h0
      clear h0 hin
      go_wp2_with fail
      with_reducible refine ((cmust_bad 110 _)).mono ?_
      rintro e w3 ⟨rfl, rfl⟩
      go_wp2_with fail
      exact ⟨rfl, mk_stop HB.out HV.out (by decide) QC.out QK.out QE.out⟩
  | true =>
  replace HE := Lib.hid (HE.out.trans (if_neg (by rw [hin]; decide)))
  have HS := Lib.hid (inB_iff.1 hin)
  have e0 : decide (1 ≤ s) = true := decide_eq_true HS.out.1
  have e1 : decide (s < 1073741789) = true := decide_eq_true (by have := HS.out.2; omega)
  clear hin
  go_wp2_with fail
  with_reducible refine ((cmust_ok 110 _)).mono ?_
  rintro e w3 ⟨rfl, rfl⟩
  by_cases hrr : row < 0 ∨ (d.ps.length : Int) ≤ row
  · have HV := Lib.hid (HE.out.trans (if_pos hrr))
    by_cases h0 : 0 ≤ row
    · have g0 : decide (0 ≤ row) = true := decide_eq_true h0
      have g1 : decide (row < (d.ps.length : Int)) = false := decide_eq_false (by omega)
      clear hrr h0
      go_wp2_with fail
      with_reducible refine ((cmust_bad 1 _)).mono ?_
      rintro e w4 ⟨rfl, rfl⟩
      go_wp2_with fail
      exact ⟨rfl, mk_stop HB.out HV.out (by decide) QC.out QK.out QE.out⟩
    · have g0 : decide (0 ≤ row) = false := decide_eq_false h0
      clear hrr h0
      go_wp2_with fail
      with_reducible refine ((cmust_bad 1 _)).mono ?_
      rintro e w4 ⟨rfl, rfl⟩
      go_wp2_with fail
      exact ⟨rfl, mk_stop HB.out HV.out (by decide) QC.out QK.out QE.out⟩
  replace HE := Lib.hid (HE.out.trans (if_neg hrr))
  have HRW : Hid (0 ≤ row ∧ row < (d.ps.length : Int)) := Lib.hid (by omega)
  have g0 : decide (0 ≤ row) = true := decide_eq_true HRW.out.1
  have g1 : decide (row < (d.ps.length : Int)) = true := decide_eq_true HRW.out.2
  clear hrr
  obtain ⟨k, hk⟩ : ∃ k : Nat, row = (k : Int) := ⟨row.toNat, by have := HRW.out.1; omega⟩
  have hkl : k < d.ps.length := by have := HRW.out.2; omega
  have HAT := Lib.hid (show parAt d row = d.ps[k] by obtain ⟨h, e⟩ := parAt_mem HRW.out; rw [e]; congr 1; rw [hk]; rfl)
  obtain ⟨xb, xo, hx, y0, y1, y2, hpt⟩ := HP.out.at hkl
  subst hx
  obtain ⟨x0, hx0⟩ : ∃ x, x = (parAt d row).1 := ⟨_, rfl⟩
  obtain ⟨x1, hx1⟩ : ∃ x, x = (parAt d row).2.1 := ⟨_, rfl⟩
  obtain ⟨x2, hx2⟩ : ∃ x, x = (parAt d row).2.2 := ⟨_, rfl⟩
  rw [← HAT.out, ← hx0] at y0
  rw [← HAT.out, ← hx1] at y1 hpt
  rw [← HAT.out, ← hx2] at y2
  rw [← hx0, ← hx1, ← hx2] at HE
  have HX : Hid (x0 = (parAt d row).1 ∧ x1 = (parAt d row).2.1 ∧ x2 = (parAt d row).2.2) := Lib.hid ⟨hx0, hx1, hx2⟩
  clear hx0 hx1 hx2 HAT
  subst hk
  have i0 : 0 ≤ (k : Int) := HRW.out.1
  have i1 : (k : Int) < (d.ps.length : Int) := HRW.out.2
  go_wp2_with fail
  with_reducible refine ((cmust_ok 1 _)).mono ?_
  rintro e w4 ⟨rfl, rfl⟩
  clear g0 g1
  obtain ⟨W5, hW5, hb5, hr5, hs5⟩ := box36 w2 (.int .i64 x0) (.int .i64 x1) (.int .i64 x2) 49
  have b5 := Lib.hid hb5
  have Q5 := Lib.hid hr5
  have HW5 := Lib.hid hW5
  clear hb5 hr5 hW5
  have HR64 := Lib.hid (And.intro hs hpt)
  have s5 := below_cell b5.out s0
  have d5 := below_cell b5.out d0
  have z0 := row_cell Q5.out (k := 0) rfl
  have z1 := row_cell Q5.out (k := 1) rfl
  have z2 := row_cell Q5.out (k := 2) rfl
  have hsz : w2.heap.size ≤ W5.heap.size := b5.out.size
  go_wp2_with (rw [← HW5.out])
  clear s5 d5
  have hb5 := b5.out
  clear b5 HW5
  replace p0 := below_cell hb5 p0
  replace p1 := below_cell hb5 p1
  replace d0 := below_cell hb5 d0
  replace d1 := below_cell hb5 d1
  replace d2 := below_cell hb5 d2
  replace s0 := below_cell hb5 s0
  replace r0 := below_cell hb5 r0
  replace y0 := below_cell hb5 y0
  replace y1 := below_cell hb5 y1
  replace y2 := below_cell hb5 y2
  replace HG := Lib.hid (HG.out.below hb5)
  replace HR := Lib.hid (HR.out.below hb5)
  replace HO := Lib.hid (HO.out.below hb5)
  replace HC := Lib.hid (HC.out.below hb5)
  replace HP := Lib.hid (HP.out.below hb5)
  replace QP := Lib.hid ((hb5.block _ (row_lt QP.out)).trans QP.out)
  replace QD := Lib.hid ((hb5.block _ (row_lt QD.out)).trans QD.out)
  replace QS := Lib.hid ((hb5.block _ (row_lt QS.out)).trans QS.out)
  replace QR := Lib.hid ((hb5.block _ (row_lt QR.out)).trans QR.out)
  replace QC := Lib.hid ((hb5.block _ (row_lt QC.out)).trans QC.out)
  replace QK := Lib.hid ((hb5.block _ (row_lt QK.out)).trans QK.out)
  replace QE := Lib.hid ((hb5.block _ (row_lt QE.out)).trans QE.out)
  replace HB := Lib.hid (HB.out.trans (hb5.mono HB.out.size))
  clear hb5
  by_cases ho : openE s d.dealer x0 x1 x2 = 0
  rotate_left
  · have HV := Lib.hid HE.out
    have HNZ := Lib.hid ho
    with_reducible refine ((open_no s d.dealer x0 x1 x2 _ hpt ho)).mono ?_
    rintro e w6 ⟨rfl, hb6⟩
    replace p0 := below_cell hb6 p0
    replace p1 := below_cell hb6 p1
    replace d0 := below_cell hb6 d0
    replace d1 := below_cell hb6 d1
    replace d2 := below_cell hb6 d2
    replace s0 := below_cell hb6 s0
    replace r0 := below_cell hb6 r0
    replace y0 := below_cell hb6 y0
    replace y1 := below_cell hb6 y1
    replace y2 := below_cell hb6 y2
    replace z0 := below_cell hb6 z0
    replace z1 := below_cell hb6 z1
    replace z2 := below_cell hb6 z2
    replace HG := Lib.hid (HG.out.below hb6)
    replace HR := Lib.hid (HR.out.below hb6)
    replace HO := Lib.hid (HO.out.below hb6)
    replace HC := Lib.hid (HC.out.below hb6)
    replace HP := Lib.hid (HP.out.below hb6)
    replace QP := Lib.hid ((hb6.block _ (row_lt QP.out)).trans QP.out)
    replace QD := Lib.hid ((hb6.block _ (row_lt QD.out)).trans QD.out)
    replace QS := Lib.hid ((hb6.block _ (row_lt QS.out)).trans QS.out)
    replace QR := Lib.hid ((hb6.block _ (row_lt QR.out)).trans QR.out)
    replace QC := Lib.hid ((hb6.block _ (row_lt QC.out)).trans QC.out)
    replace QK := Lib.hid ((hb6.block _ (row_lt QK.out)).trans QK.out)
    replace QE := Lib.hid ((hb6.block _ (row_lt QE.out)).trans QE.out)
    replace HB := Lib.hid (HB.out.trans (hb6.mono HB.out.size))
    clear hb6
    clear ho
    generalize openE s d.dealer x0 x1 x2 = q at *
    go_wp2_with fail
    with_reducible refine ((get_bad 0 q _ HNZ.out)).mono ?_
    rintro e w7 ⟨rfl, rfl⟩
    go_wp2_with fail
    exact ⟨rfl, mk_stop HB.out HV.out HNZ.out QC.out QK.out QE.out⟩
  have HO2 := Lib.hid (openE_ok.1 ho)
  replace HE := Lib.hid (HE.out.trans ho)
  clear ho
  with_reducible refine ((open_yes s d.dealer x0 x1 x2 _ HO2.out.1 HO2.out.2.1 HO2.out.2.2 HG.out)).mono ?_
  rintro e w6 ⟨rfl, hb6⟩
  replace p0 := below_cell hb6 p0
  replace p1 := below_cell hb6 p1
  replace d0 := below_cell hb6 d0
  replace d1 := below_cell hb6 d1
  replace d2 := below_cell hb6 d2
  replace s0 := below_cell hb6 s0
  replace r0 := below_cell hb6 r0
  replace y0 := below_cell hb6 y0
  replace y1 := below_cell hb6 y1
  replace y2 := below_cell hb6 y2
  replace z0 := below_cell hb6 z0
  replace z1 := below_cell hb6 z1
  replace z2 := below_cell hb6 z2
  replace HG := Lib.hid (HG.out.below hb6)
  replace HR := Lib.hid (HR.out.below hb6)
  replace HO := Lib.hid (HO.out.below hb6)
  replace HC := Lib.hid (HC.out.below hb6)
  replace HP := Lib.hid (HP.out.below hb6)
  replace QP := Lib.hid ((hb6.block _ (row_lt QP.out)).trans QP.out)
  replace QD := Lib.hid ((hb6.block _ (row_lt QD.out)).trans QD.out)
  replace QS := Lib.hid ((hb6.block _ (row_lt QS.out)).trans QS.out)
  replace QR := Lib.hid ((hb6.block _ (row_lt QR.out)).trans QR.out)
  replace QC := Lib.hid ((hb6.block _ (row_lt QC.out)).trans QC.out)
  replace QK := Lib.hid ((hb6.block _ (row_lt QK.out)).trans QK.out)
  replace QE := Lib.hid ((hb6.block _ (row_lt QE.out)).trans QE.out)
  replace HB := Lib.hid (HB.out.trans (hb6.mono HB.out.size))
  clear hb6
  have HVV : Hid (mkV s d (k : Int) = opnV (powE x1 s) d.dealer x0 x2) := Lib.hid (by unfold mkV; rw [← HX.out.1, ← HX.out.2.1, ← HX.out.2.2])
  have HVN := Lib.hid (opnV_num (powE x1 s) d.dealer x0 x2)
  generalize opnV (powE x1 s) d.dealer x0 x2 = v at *
  go_wp2_with fail
  with_reducible refine ((get_ok v _)).mono ?_
  rintro e w7 ⟨rfl, rfl⟩
  have HFT := Lib.hid (fun W h1 h2 h3 => fits_any (.slice a1 rows.length k1) (.slice a2 owners.length k2) (.slice a3 d.cs.length k3) rows owners d.cs (k : Int) v W h1 h2 h3 hrow (num_r64 HVN.out))
  rw [fitE_com HCM.out HRW.out HVN.out, fitB_com HCM.out HRW.out HVN.out] at HFT
  cases hf : fitV rows d (k : Int) v with
  | true =>
    rw [hf] at HFT
    have HNB : Hid (mkB rows owners s d (k : Int) = false) := Lib.hid (mkB_fits (by rw [HVV.out]; exact hf))
    clear hf
    go_wp2_with fail
    with_reducible refine ((HFT.out _ HR.out HO.out HC.out)).mono ?_
    rintro e w8 ⟨rfl, hb8⟩
    replace p0 := below_cell hb8 p0
    replace p1 := below_cell hb8 p1
    replace d0 := below_cell hb8 d0
    replace d1 := below_cell hb8 d1
    replace d2 := below_cell hb8 d2
    replace s0 := below_cell hb8 s0
    replace r0 := below_cell hb8 r0
    replace y0 := below_cell hb8 y0
    replace y1 := below_cell hb8 y1
    replace y2 := below_cell hb8 y2
    replace z0 := below_cell hb8 z0
    replace z1 := below_cell hb8 z1
    replace z2 := below_cell hb8 z2
    replace HG := Lib.hid (HG.out.below hb8)
    replace HR := Lib.hid (HR.out.below hb8)
    replace HO := Lib.hid (HO.out.below hb8)
    replace HC := Lib.hid (HC.out.below hb8)
    replace HP := Lib.hid (HP.out.below hb8)
    replace QP := Lib.hid ((hb8.block _ (row_lt QP.out)).trans QP.out)
    replace QD := Lib.hid ((hb8.block _ (row_lt QD.out)).trans QD.out)
    replace QS := Lib.hid ((hb8.block _ (row_lt QS.out)).trans QS.out)
    replace QR := Lib.hid ((hb8.block _ (row_lt QR.out)).trans QR.out)
    replace QC := Lib.hid ((hb8.block _ (row_lt QC.out)).trans QC.out)
    replace QK := Lib.hid ((hb8.block _ (row_lt QK.out)).trans QK.out)
    replace QE := Lib.hid ((hb8.block _ (row_lt QE.out)).trans QE.out)
    replace HB := Lib.hid (HB.out.trans (hb8.mono HB.out.size))
    clear hb8
    go_wp2_with fail
    with_reducible refine ((getb_ok true _)).mono ?_
    rintro e w9 ⟨rfl, rfl⟩
    go_wp2_with fail
    go_end0
    exact ⟨⟨0, by rw [raised36_zero rfl], by rw [← HE.out]; exact mk_rest HB.out HNB.out QC.out QK.out⟩, QE.out⟩
  | false =>
    rw [hf] at HFT
    have HNB : Hid (mkB rows owners s d (k : Int) = true) := Lib.hid (mkB_yes HE.out (by rw [HVV.out]; exact hf))
    clear hf
    go_wp2_with fail
    with_reducible refine ((HFT.out _ HR.out HO.out HC.out)).mono ?_
    rintro e w8 ⟨rfl, hb8⟩
    replace p0 := below_cell hb8 p0
    replace p1 := below_cell hb8 p1
    replace d0 := below_cell hb8 d0
    replace d1 := below_cell hb8 d1
    replace d2 := below_cell hb8 d2
    replace s0 := below_cell hb8 s0
    replace r0 := below_cell hb8 r0
    replace y0 := below_cell hb8 y0
    replace y1 := below_cell hb8 y1
    replace y2 := below_cell hb8 y2
    replace z0 := below_cell hb8 z0
    replace z1 := below_cell hb8 z1
    replace z2 := below_cell hb8 z2
    replace HG := Lib.hid (HG.out.below hb8)
    replace HR := Lib.hid (HR.out.below hb8)
    replace HO := Lib.hid (HO.out.below hb8)
    replace HC := Lib.hid (HC.out.below hb8)
    replace HP := Lib.hid (HP.out.below hb8)
    replace QP := Lib.hid ((hb8.block _ (row_lt QP.out)).trans QP.out)
    replace QD := Lib.hid ((hb8.block _ (row_lt QD.out)).trans QD.out)
    replace QS := Lib.hid ((hb8.block _ (row_lt QS.out)).trans QS.out)
    replace QR := Lib.hid ((hb8.block _ (row_lt QR.out)).trans QR.out)
    replace QC := Lib.hid ((hb8.block _ (row_lt QC.out)).trans QC.out)
    replace QK := Lib.hid ((hb8.block _ (row_lt QK.out)).trans QK.out)
    replace QE := Lib.hid ((hb8.block _ (row_lt QE.out)).trans QE.out)
    replace HB := Lib.hid (HB.out.trans (hb8.mono HB.out.size))
    clear hb8
    go_wp2_with fail
    with_reducible refine ((getb_ok false _)).mono ?_
    rintro e w9 ⟨rfl, rfl⟩
    have HEL := Lib.hid HO2.out.2.2.pt
    go_wp2_with fail
    with_reducible refine ((prove_yes s x1 _ HS.out.1 (by have := HS.out.2; omega) HEL.out HG.out)).mono ?_
    rintro e w10 ⟨rfl, hb10⟩
    replace p0 := below_cell hb10 p0
    replace p1 := below_cell hb10 p1
    replace d0 := below_cell hb10 d0
    replace d1 := below_cell hb10 d1
    replace d2 := below_cell hb10 d2
    replace s0 := below_cell hb10 s0
    replace r0 := below_cell hb10 r0
    replace y0 := below_cell hb10 y0
    replace y1 := below_cell hb10 y1
    replace y2 := below_cell hb10 y2
    replace z0 := below_cell hb10 z0
    replace z1 := below_cell hb10 z1
    replace z2 := below_cell hb10 z2
    replace HG := Lib.hid (HG.out.below hb10)
    replace HR := Lib.hid (HR.out.below hb10)
    replace HO := Lib.hid (HO.out.below hb10)
    replace HC := Lib.hid (HC.out.below hb10)
    replace HP := Lib.hid (HP.out.below hb10)
    replace QP := Lib.hid ((hb10.block _ (row_lt QP.out)).trans QP.out)
    replace QD := Lib.hid ((hb10.block _ (row_lt QD.out)).trans QD.out)
    replace QS := Lib.hid ((hb10.block _ (row_lt QS.out)).trans QS.out)
    replace QR := Lib.hid ((hb10.block _ (row_lt QR.out)).trans QR.out)
    replace QC := Lib.hid ((hb10.block _ (row_lt QC.out)).trans QC.out)
    replace QK := Lib.hid ((hb10.block _ (row_lt QK.out)).trans QK.out)
    replace QE := Lib.hid ((hb10.block _ (row_lt QE.out)).trans QE.out)
    replace HB := Lib.hid (HB.out.trans (hb10.mono HB.out.size))
    clear hb10
    obtain ⟨D1, hD1⟩ : ∃ D1, D1 = powE x1 s := ⟨_, rfl⟩
    obtain ⟨E1, hE1⟩ : ∃ E1, E1 = prE s x1 := ⟨_, rfl⟩
    obtain ⟨S1, hS1⟩ : ∃ S1, S1 = prS s x1 := ⟨_, rfl⟩
    rw [← hD1, ← hE1, ← hS1]
    have HMC : Hid (mkC rows owners s d (k : Int) = ⟨d.dealer, (k : Int), D1, E1, S1⟩) := Lib.hid (by unfold mkC; rw [HNB.out, if_pos rfl, ← HX.out.2.1, ← hD1, ← hE1, ← hS1])
    clear hD1 hE1 hS1
    obtain ⟨W11, hW11, hb11, hr11, -⟩ := box_prog w10 (.int .i64 E1) (.int .i64 S1) 32
    have HW11 := Lib.hid hW11
    have Q11 := Lib.hid hr11
    clear hW11 hr11
    have hsz10 : w10.heap.size ≤ W11.heap.size := hb11.size
    go_wp2_with (rw [← HW11.out])
    replace p0 := below_cell hb11 p0
    replace p1 := below_cell hb11 p1
    replace d0 := below_cell hb11 d0
    replace d1 := below_cell hb11 d1
    replace d2 := below_cell hb11 d2
    replace s0 := below_cell hb11 s0
    replace r0 := below_cell hb11 r0
    replace y0 := below_cell hb11 y0
    replace y1 := below_cell hb11 y1
    replace y2 := below_cell hb11 y2
    replace z0 := below_cell hb11 z0
    replace z1 := below_cell hb11 z1
    replace z2 := below_cell hb11 z2
    replace HG := Lib.hid (HG.out.below hb11)
    replace HR := Lib.hid (HR.out.below hb11)
    replace HO := Lib.hid (HO.out.below hb11)
    replace HC := Lib.hid (HC.out.below hb11)
    replace HP := Lib.hid (HP.out.below hb11)
    replace QP := Lib.hid ((hb11.block _ (row_lt QP.out)).trans QP.out)
    replace QD := Lib.hid ((hb11.block _ (row_lt QD.out)).trans QD.out)
    replace QS := Lib.hid ((hb11.block _ (row_lt QS.out)).trans QS.out)
    replace QR := Lib.hid ((hb11.block _ (row_lt QR.out)).trans QR.out)
    replace QC := Lib.hid ((hb11.block _ (row_lt QC.out)).trans QC.out)
    replace QK := Lib.hid ((hb11.block _ (row_lt QK.out)).trans QK.out)
    replace QE := Lib.hid ((hb11.block _ (row_lt QE.out)).trans QE.out)
    replace HB := Lib.hid (HB.out.trans (hb11.mono HB.out.size))
    clear hb11
    have m0 := row_cell Q11.out (k := 0) rfl
    have m1 := row_cell Q11.out (k := 1) rfl
    with_reducible refine ((cmust_ok 0 _)).mono ?_
    rintro e w12 ⟨rfl, rfl⟩
    have t0 := row_cell QC.out (k := 0) rfl
    have t1 := row_cell QC.out (k := 1) rfl
    have t2 := row_cell QC.out (k := 2) rfl
    have t3 := row_cell QC.out (k := 3) rfl
    have t4 := row_cell QC.out (k := 4) rfl
    have f0 := row_free QC.out 0
    have f1 := row_free QC.out 1
    have f2 := row_free QC.out 2
    have f3 := row_free QC.out 3
    have f4 := row_free QC.out 4
    have u0 := row_cell QK.out (k := 0) rfl
    have g0 := row_free QK.out 0
    have n1 := HNE.out.2.2.1
    go_wp2_with fail
    go_end0
    have hq := row_set (row_set (row_set (row_set (row_set QC.out 0 (.int .i64 d.dealer)) 1 (.int .i64 (k : Int))) 2 (.int .i64 D1)) 3 (.int .i64 E1)) 4 (.int .i64 S1)
    obtain ⟨x1, x2, x3, x4, x5⟩ := HNE.out
    refine ⟨⟨0, by rw [raised36_zero rfl], HE.out.symm, ?_, ?_, ?_⟩, ?_⟩
    · exact (((((HB.out.setCell x1 _).setCell x1 _).setCell x1 _).setCell x1 _).setCell x1 _).setCell x2 _
    · rw [HMC.out, Below.heap_setCell _ _ _ _ x3]; exact hq
    · rw [HNB.out]
      have hk : ((((((W11.setCell ⟨C, 0, none⟩ (.int .i64 d.dealer)).setCell ⟨C, 1, none⟩ (.int .i64 (k : Int))).setCell ⟨C, 2, none⟩ (.int .i64 D1)).setCell ⟨C, 3, none⟩ (.int .i64 E1)).setCell ⟨C, 4, none⟩ (.int .i64 S1)).heap[K]? = some (.cells #[.bool false] 4 (0, 0))) := by
        rw [Below.heap_setCell _ _ _ _ x3.symm, Below.heap_setCell _ _ _ _ x3.symm, Below.heap_setCell _ _ _ _ x3.symm, Below.heap_setCell _ _ _ _ x3.symm, Below.heap_setCell _ _ _ _ x3.symm]; exact QK.out
      exact row_set hk 0 _
    · rw [Below.heap_setCell _ _ _ _ x5, Below.heap_setCell _ _ _ _ x4, Below.heap_setCell _ _ _ _ x4, Below.heap_setCell _ _ _ _ x4, Below.heap_setCell _ _ _ _ x4, Below.heap_setCell _ _ _ _ x4]; exact QE.out

end Go.Proofs.YtggnipkfliompaaGreatDoor

namespace Go.Proofs.YtggnipkfliompaaGreatDoor
open Go.RowKit FP

section
variable {rows : List (List Int)} {owners ss : List Int} {x : Int} {rnd : List Int} {dealer row by' : Int} {i : Nat}
end

end Go.Proofs.YtggnipkfliompaaGreatDoor

namespace Go.Proofs.YtggnipkfliompaaGreatDoor
open Go.RowKit FP

end Go.Proofs.YtggnipkfliompaaGreatDoor

namespace Go.Proofs.YtggnipkfliompaaGreatDoor

end Go.Proofs.YtggnipkfliompaaGreatDoor

namespace Go.Proofs.YtggnipkfliompaaGreatDoor
open Go.RowKit FP

end Go.Proofs.YtggnipkfliompaaGreatDoor

namespace Go.Proofs.YtggnipkfliompaaGreatDoor
open Go.RowKit FP

def mulL (a b : List Int) : List Int := (List.range a.length).map fun i => nth a i * nth b i % 2147483579
def renC (cs : List Int) (css : List (List Int)) : List Int := css.foldl mulL cs
theorem mulL_len (a b : List Int) : (mulL a b).length = a.length := by simp [mulL]
theorem mulL_el {a b : List Int} (ha : ∀ c ∈ a, El c) (hb : ∀ c ∈ b, El c) (hl : a.length ≤ b.length) : ∀ c ∈ mulL a b, El c := by
  intro c hc
  obtain ⟨i, hi, rfl⟩ := List.mem_map.1 hc
  have hi2 : i < a.length := by simpa using hi
  exact el_mul (ha _ (by rw [nth_at hi2]; exact List.getElem_mem _)) (hb _ (by rw [nth_at (show i < b.length by omega)]; exact List.getElem_mem _))
theorem comB_el {rows : List (List Int)} {cs : List Int} (h : comB rows cs = true) : (∀ c ∈ cs, El c) ∧ cs.length = colsQ rows := by
  unfold comB at h
  simp only [Bool.and_eq_true, decide_eq_true_eq, Bool.not_eq_true'] at h
  exact ⟨any_notel h.1, h.2⟩
theorem com_deal_B {rows : List (List Int)} {owners : List Int} {x : Int} {u : List Int} (h : DealOK rows owners x u) (hp : progE rows owners = 0) : comB rows (dealC (x :: u)) = true ∧ dchkE rows owners (dealC (x :: u)) = 0 := by
  have h0 := dchkE_of (com_deal h hp)
  refine ⟨?_, h0⟩
  rw [comB_E hp] at h0
  cases e : comB rows (dealC (x :: u)) with
  | true => rfl
  | false => rw [e] at h0; cases h0
end Go.Proofs.YtggnipkfliompaaGreatDoor
