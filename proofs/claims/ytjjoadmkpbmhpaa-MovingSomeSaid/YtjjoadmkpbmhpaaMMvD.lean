/- Package moving: fits, Fits. Package moving: isSet, owned, the same rows. -/
import Derived.Test.YtjjoadmkpbmhpaaMMvB
import Derived.Test.YtjjoadmkpbmhpaaMRbP
import Derived.Test.YtjjoadmkpbmhpaaMProC
import Derived.Test.YtjjoadmkpbmhpaaMLinJ
namespace Go.Proofs.Ytjjoadmkpbmhpaa
open Go.RowKit FP

/-- Are commitments those of a row? -/
def fitM (rows : List (List Int)) (owners cs : List Int) (rows2 : List (List Int)) (row : Int) (c : List Int) : Bool := decide (pubE rows owners cs row = 0) && (comB rows2 c && nth c 0 == pubR rows owners cs row)

set_option maxRecDepth 100000 in
set_option maxHeartbeats 4000000 in
theorem mfits_any (ep : Int) (rv ov cv rv2 ov2 lv : Value) (row : Int) (rows : List (List Int)) (owners cs : List Int) (rows2 : List (List Int)) (owners2 c : List Int) (w : World) (hR : Rows2 w rv rows) (hO : Ints w ov owners) (hC : Ints w cv cs) (hR2 : Rows2 w rv2 rows2) (hO2 : Ints w ov2 owners2) (hL : Ints w lv c) (hr : R64 row) (hp2 : progE rows2 owners2 = 0) :
    Calls Try.prog 38 #[.agg #[.int .i64 ep, rv, ov, cv], .agg #[rv2, ov2], .int .i64 row, lv] w fun e w' => e = .returned (.bool (fitM rows owners cs rows2 row c)) ∧ Below w.heap.size w w' := by
  obtain ⟨W0, hW0, hb0, hr0, hs0⟩ := box_key w (.int .i64 ep) rv ov cv 30
  obtain ⟨W1, hW1, hb1, hr1, hz⟩ := box_prog W0 rv2 ov2 25
  have hb : Below w.heap.size w W1 := hb0.trans (hb1.mono hb0.size)
  have HR := Lib.hid (hR.below hb)
  have HO := Lib.hid (hO.below hb)
  have HC := Lib.hid (hC.below hb)
  have HR2 := Lib.hid (hR2.below hb)
  have HL := Lib.hid (hL.below hb)
  obtain ⟨a1, k1, rfl, -, hl1, -⟩ := id hR
  obtain ⟨a2, k2, rfl, -, hl2, -⟩ := id hO
  obtain ⟨a3, k3, rfl, -, hl3, -⟩ := id hC
  obtain ⟨a4, k4, rfl, -, hl4, -⟩ := id hR2
  obtain ⟨a5, k5, rfl, -, hl5, -⟩ := id hO2
  obtain ⟨a6, k6, rfl, -, hl6, -⟩ := id hL
  have Q1 := Lib.hid ((hb1.block _ (row_lt hr0)).trans hr0)
  rw [hs0] at hr1
  have Q2 := Lib.hid hr1
  rw [hW0] at hW1
  have HW1 := Lib.hid hW1
  have HB := Lib.hid hb
  have HRW := Lib.hid hr
  have hc2 := (progE_ok hp2).cols
  clear hR hO hC hR2 hO2 hL hb hb0 hb1 hr0 hr1 hW0 hW1 hs0 hz hr hp2
  have c1 := row_cell Q1.out (k := 1) rfl
  have c2 := row_cell Q1.out (k := 2) rfl
  have c3 := row_cell Q1.out (k := 3) rfl
  go_enter Try.func38, Try.ntmps38
  go_wp2_with (rw [← HW1.out])
  clear c1 c2 c3
  with_reducible refine (public_any _ _ _ rows owners cs row _ HR.out HO.out HC.out HRW.out).mono ?_
  rintro e w2 ⟨rfl, hb2⟩
  replace HR := Lib.hid (HR.out.below hb2)
  replace HO := Lib.hid (HO.out.below hb2)
  replace HC := Lib.hid (HC.out.below hb2)
  replace HR2 := Lib.hid (HR2.out.below hb2)
  replace HL := Lib.hid (HL.out.below hb2)
  replace Q1 := Lib.hid ((hb2.block _ (row_lt Q1.out)).trans Q1.out)
  replace Q2 := Lib.hid ((hb2.block _ (row_lt Q2.out)).trans Q2.out)
  replace HB := Lib.hid (HB.out.trans (hb2.mono HB.out.size))
  clear hb2
  by_cases hpe : pubE rows owners cs row = 0
  rotate_left
  · have HV : Hid (fitM rows owners cs rows2 row c = false) := Lib.hid (by unfold fitM; rw [decide_eq_false hpe]; rfl)
    have d0 : (pubE rows owners cs row == 0) = false := beq_eq_false_iff_ne.2 hpe
    clear hpe
    generalize pubE rows owners cs row = q at *
    generalize pubR rows owners cs row = x at *
    go_wp2_with fail
    go_ret
    exact ⟨ret_bool HV.out.symm, HB.out⟩
  have HV : Hid (fitM rows owners cs rows2 row c = (comB rows2 c && nth c 0 == pubR rows owners cs row)) := Lib.hid (by unfold fitM; rw [decide_eq_true hpe]; rfl)
  rw [hpe]
  clear hpe
  generalize pubR rows owners cs row = x at *
  have e0 := row_cell Q2.out (k := 0) rfl
  have e1 := row_cell Q2.out (k := 1) rfl
  go_wp2_with fail
  clear e0 e1
  with_reducible refine (mcommitted_any _ _ _ rows2 c _ HR2.out ⟨_, _, _, rfl⟩ HL.out).mono ?_
  rintro e w3 ⟨rfl, hb3⟩
  replace HR := Lib.hid (HR.out.below hb3)
  replace HO := Lib.hid (HO.out.below hb3)
  replace HC := Lib.hid (HC.out.below hb3)
  replace HR2 := Lib.hid (HR2.out.below hb3)
  replace HL := Lib.hid (HL.out.below hb3)
  replace Q1 := Lib.hid ((hb3.block _ (row_lt Q1.out)).trans Q1.out)
  replace Q2 := Lib.hid ((hb3.block _ (row_lt Q2.out)).trans Q2.out)
  replace HB := Lib.hid (HB.out.trans (hb3.mono HB.out.size))
  clear hb3
  cases hcm : comB rows2 c with
  | false =>
    rw [hcm] at HV
    clear hcm
    go_wp2_with fail
    go_ret
    exact ⟨ret_bool HV.out.symm, HB.out⟩
  | true =>
    have hlen := (comB_el hcm).2
    rw [hcm] at HV
    obtain ⟨-, bd, od, nd, kd, ed, qd⟩ := HL.out.get (k := 0) (by omega)
    simp only [Value.slice.injEq] at ed
    obtain ⟨rfl, -, -⟩ := ed
    rw [Nat.add_zero] at qd
    have j1 : (0 : Int) < (c.length : Int) := by omega
    have j2 : 0 < c.length := by omega
    clear hcm hlen hc2
    generalize nth c 0 = y at *
    go_wp2_with fail
    go_ret
    exact ⟨ret_bool HV.out.symm, HB.out⟩

/-- The error of examining such a dealing. -/
def mfE (rows : List (List Int)) (owners : List Int) (ep : Int) (cs : List Int) (rows2 : List (List Int)) (owners2 : List Int) (row : Int) (c : List Int) : Int :=
  if chkE rows owners ep cs rows2 owners2 ≠ 0 then chkE rows owners ep cs rows2 owners2 else if row < 0 ∨ (rows.length : Int) ≤ row then 1 else if comB rows2 c = false then 340 else 0
def mfB (rows : List (List Int)) (owners : List Int) (ep : Int) (cs : List Int) (rows2 : List (List Int)) (owners2 : List Int) (row : Int) (c : List Int) : Bool := decide (mfE rows owners ep cs rows2 owners2 row c = 0) && fitM rows owners cs rows2 row c
/-- How Fits ends. -/
def MfPost (ME : Int) (MB : Bool) (w : World) (e : Ending) (w' : World) : Prop := e = .returned (.tuple #[.bool MB, .int .i64 ME]) ∧ Below w.heap.size w w'
theorem chkE_prog {rows : List (List Int)} {owners : List Int} {ep : Int} {cs : List Int} {rows2 : List (List Int)} {owners2 : List Int} (h : chkE rows owners ep cs rows2 owners2 = 0) : progE rows owners = 0 ∧ keyB rows ep cs = true ∧ progE rows2 owners2 = 0 := by
  unfold chkE at h
  by_cases hp : progE rows owners = 0
  · rw [if_neg (by simp [hp])] at h
    cases hk : keyB rows ep cs with
    | false => rw [if_pos hk] at h; cases h
    | true => rw [if_neg (by rw [hk]; decide)] at h; exact ⟨hp, rfl, h⟩
  · rw [if_pos hp] at h; exact absurd h hp

set_option maxRecDepth 100000 in
set_option maxHeartbeats 8000000 in
theorem mFits_any (ep : Int) (rv ov cv rv2 ov2 lv : Value) (row : Int) (rows : List (List Int)) (owners cs : List Int) (rows2 : List (List Int)) (owners2 c : List Int) (w : World) (hR : Rows2 w rv rows) (hO : Ints w ov owners) (hC : Ints w cv cs) (hR2 : Rows2 w rv2 rows2) (hO2 : Ints w ov2 owners2) (hL : Ints w lv c) (hr : R64 row) :
    Calls Try.prog 11 #[.agg #[.int .i64 ep, rv, ov, cv], .agg #[rv2, ov2], .int .i64 row, lv] w (MfPost (mfE rows owners ep cs rows2 owners2 row c) (mfB rows owners ep cs rows2 owners2 row c) w) := by
  obtain ⟨W0, hW0, hb0, hr0, hs0⟩ := box_key w (.int .i64 ep) rv ov cv 30
  obtain ⟨W1, hW1, hb1, hr1, hs1⟩ : ∃ W, W = W0.alloc (.cells #[rv2, ov2] 25) ∧ Below W0.heap.size W0 W ∧ W.heap[W0.heap.size]? = some (.cells #[rv2, ov2] 25 (0, 0)) ∧ W.heap.size = W0.heap.size + 1 := ⟨_, rfl, below_new _ _ _, World.alloc_heap_new _ _, by simp⟩
  obtain ⟨W3, hW3, hb3, hr3, hs3⟩ := box_err W1 (.int .i64 0) 36
  have h01 := hb0.trans (hb1.mono hb0.size)
  have hb : Below w.heap.size w W3 := h01.trans (hb3.mono h01.size)
  have HR := Lib.hid (hR.below hb)
  have HO := Lib.hid (hO.below hb)
  have HC := Lib.hid (hC.below hb)
  have HR2 := Lib.hid (hR2.below hb)
  have HO2 := Lib.hid (hO2.below hb)
  have HL := Lib.hid (hL.below hb)
  obtain ⟨a1, k1, rfl, -, hl1, -⟩ := id hR
  obtain ⟨a2, k2, rfl, -, hl2, -⟩ := id hO
  obtain ⟨a3, k3, rfl, -, hl3, -⟩ := id hC
  obtain ⟨a4, k4, rfl, -, hl4, -⟩ := id hR2
  obtain ⟨a5, k5, rfl, -, hl5, -⟩ := id hO2
  obtain ⟨a6, k6, rfl, -, hl6, -⟩ := id hL
  have e1 : W0.heap.size = w.heap.size + 1 := hs0
  have e2 : W1.heap.size = w.heap.size + 1 + 1 := by omega
  rw [e1] at hr1
  rw [e2] at hr3
  have Q1 := Lib.hid ((hb1.trans (hb3.mono hb1.size)).block _ (row_lt hr0) |>.trans hr0)
  have Q2 := Lib.hid (hb3.block _ (row_lt hr1) |>.trans hr1)
  have QE := Lib.hid hr3
  rw [hW1, hW0] at hW3
  have HW := Lib.hid hW3
  have HB := Lib.hid hb
  have HRW := Lib.hid hr
  clear hR hO hC hR2 hO2 hL hb hb0 hb1 hb3 h01 hr0 hr1 hr3 hW0 hW1 hW3 hs0 hs1 hs3 e1 e2 hr
  have HCK := Lib.hid (fun ww h1 h2 h3 h4 h5 => mcheck_any ep (.slice a1 rows.length k1) (.slice a2 owners.length k2) (.slice a3 cs.length k3) (.slice a4 rows2.length k4) (.slice a5 owners2.length k5) rows owners cs rows2 owners2 ww h1 h2 h3 h4 h5)
  have c0 := row_cell Q1.out (k := 0) (v := .int .i64 ep) rfl
  have c1 := row_cell Q1.out (k := 1) (v := .slice a1 rows.length k1) rfl
  have c2 := row_cell Q1.out (k := 2) (v := .slice a2 owners.length k2) rfl
  have c3 := row_cell Q1.out (k := 3) (v := .slice a3 cs.length k3) rfl
  have d0 := row_cell Q2.out (k := 0) (v := .slice a4 rows2.length k4) rfl
  have d1 := row_cell Q2.out (k := 1) (v := .slice a5 owners2.length k5) rfl
  obtain ⟨ME, hME⟩ : ∃ x, x = mfE rows owners ep cs rows2 owners2 row c := ⟨_, rfl⟩
  obtain ⟨MB, hMB⟩ : ∃ x, x = mfB rows owners ep cs rows2 owners2 row c := ⟨_, rfl⟩
  rw [← hME, ← hMB]
  have HMB : Hid (MB = (decide (ME = 0) && fitM rows owners cs rows2 row c)) := Lib.hid (by rw [hMB, hME]; rfl)
  have HME := Lib.hid hME
  have HOFF := Lib.hid (fun q (h : ME = q) (hq : q ≠ 0) => show MB = false by rw [HMB.out, h, decide_eq_false hq]; rfl)
  clear hME hMB
  by_cases hck : chkE rows owners ep cs rows2 owners2 = 0
  rotate_left
  · have HV : Hid (ME = chkE rows owners ep cs rows2 owners2) := Lib.hid (by rw [HME.out]; unfold mfE; rw [if_pos hck])
    have HNZ := Lib.hid hck
    clear hck HME
    generalize chkE rows owners ep cs rows2 owners2 = q at *
    go_enter_defers Try.func11, Try.ntmps11
    go_wp2_with (rw [← HW.out])
    with_reducible refine (mono_ending (HCK.out _ HR.out HO.out HC.out HR2.out HO2.out) (raised39_not HNZ.out)).mono ?_
    rintro e w4 ⟨rfl, hb4⟩
    replace c0 := below_cell hb4 c0
    replace c1 := below_cell hb4 c1
    replace c2 := below_cell hb4 c2
    replace c3 := below_cell hb4 c3
    replace d0 := below_cell hb4 d0
    replace d1 := below_cell hb4 d1
    replace HR := Lib.hid (HR.out.below hb4)
    replace HO := Lib.hid (HO.out.below hb4)
    replace HC := Lib.hid (HC.out.below hb4)
    replace HR2 := Lib.hid (HR2.out.below hb4)
    replace HO2 := Lib.hid (HO2.out.below hb4)
    replace HL := Lib.hid (HL.out.below hb4)
    replace Q1 := Lib.hid ((hb4.block _ (row_lt Q1.out)).trans Q1.out)
    replace Q2 := Lib.hid ((hb4.block _ (row_lt Q2.out)).trans Q2.out)
    replace QE := Lib.hid ((hb4.block _ (row_lt QE.out)).trans QE.out)
    replace HB := Lib.hid (HB.out.trans (hb4.mono HB.out.size))
    clear hb4
    refine leaves_cons (f := 34) (args := #[.pointer (some ⟨w.heap.size + 1 + 1, 0, none⟩)]) (by simp) (by simp [go_sem]) ?_
    refine (caught39_panicking (w.heap.size + 1 + 1) 0 0 q [] _ (row_cell QE.out rfl) (row_free QE.out 0) (row_lt QE.out)).mono ?_
    rintro e u' w'' ⟨rfl, rfl, rfl⟩
    obtain ⟨Wf, hWf, hbf, hxf⟩ := stop_end HB.out (show w.heap.size ≤ w.heap.size + 1 + 1 by omega) QE.out q
    rw [← hWf]
    simp [Leaves, settle, results, Try.results11, go_sem, hxf]
    exact ⟨by rw [HOFF.out _ HV.out HNZ.out, HV.out], hbf⟩
  have HE : Hid (ME = if row < 0 ∨ (rows.length : Int) ≤ row then 1 else if comB rows2 c = false then 340 else 0) := Lib.hid (by rw [HME.out]; unfold mfE; rw [if_neg (by simp [hck])])
  have HCK0 := Lib.hid hck
  have HP2 := Lib.hid (chkE_prog hck).2.2
  clear hck
  go_enter_defers Try.func11, Try.ntmps11
  go_wp2_with (rw [← HW.out])
  with_reducible refine (mono_ending (HCK.out _ HR.out HO.out HC.out HR2.out HO2.out) (raised39_zero HCK0.out)).mono ?_
  rintro e w4 ⟨rfl, hb4⟩
  replace c0 := below_cell hb4 c0
  replace c1 := below_cell hb4 c1
  replace c2 := below_cell hb4 c2
  replace c3 := below_cell hb4 c3
  replace d0 := below_cell hb4 d0
  replace d1 := below_cell hb4 d1
  replace HR := Lib.hid (HR.out.below hb4)
  replace HO := Lib.hid (HO.out.below hb4)
  replace HC := Lib.hid (HC.out.below hb4)
  replace HR2 := Lib.hid (HR2.out.below hb4)
  replace HO2 := Lib.hid (HO2.out.below hb4)
  replace HL := Lib.hid (HL.out.below hb4)
  replace Q1 := Lib.hid ((hb4.block _ (row_lt Q1.out)).trans Q1.out)
  replace Q2 := Lib.hid ((hb4.block _ (row_lt Q2.out)).trans Q2.out)
  replace QE := Lib.hid ((hb4.block _ (row_lt QE.out)).trans QE.out)
  replace HB := Lib.hid (HB.out.trans (hb4.mono HB.out.size))
  clear hb4
  by_cases hrr : row < 0 ∨ (rows.length : Int) ≤ row
  · have HV := Lib.hid (HE.out.trans (if_pos hrr))
    by_cases h0 : 0 ≤ row
    · have g0 : decide (0 ≤ row) = true := decide_eq_true h0
      have g1 : decide (row < (rows.length : Int)) = false := decide_eq_false (by omega)
      clear hrr h0
      go_wp2_with fail
      with_reducible refine (must_bad 1 _).mono ?_
      rintro e w6 ⟨rfl, rfl⟩
      refine leaves_cons (f := 34) (args := #[.pointer (some ⟨w.heap.size + 1 + 1, 0, none⟩)]) (by simp) (by simp [go_sem]) ?_
      refine (caught39_panicking (w.heap.size + 1 + 1) 0 0 1 [] _ (row_cell QE.out rfl) (row_free QE.out 0) (row_lt QE.out)).mono ?_
      rintro e u' w'' ⟨rfl, rfl, rfl⟩
      obtain ⟨Wf, hWf, hbf, hxf⟩ := stop_end HB.out (show w.heap.size ≤ w.heap.size + 1 + 1 by omega) QE.out 1
      rw [← hWf]
      simp [Leaves, settle, results, Try.results11, go_sem, hxf]
      exact ⟨by rw [HOFF.out _ HV.out (by decide), HV.out], hbf⟩
    · have g0 : decide (0 ≤ row) = false := decide_eq_false h0
      clear hrr h0
      go_wp2_with fail
      with_reducible refine (must_bad 1 _).mono ?_
      rintro e w6 ⟨rfl, rfl⟩
      refine leaves_cons (f := 34) (args := #[.pointer (some ⟨w.heap.size + 1 + 1, 0, none⟩)]) (by simp) (by simp [go_sem]) ?_
      refine (caught39_panicking (w.heap.size + 1 + 1) 0 0 1 [] _ (row_cell QE.out rfl) (row_free QE.out 0) (row_lt QE.out)).mono ?_
      rintro e u' w'' ⟨rfl, rfl, rfl⟩
      obtain ⟨Wf, hWf, hbf, hxf⟩ := stop_end HB.out (show w.heap.size ≤ w.heap.size + 1 + 1 by omega) QE.out 1
      rw [← hWf]
      simp [Leaves, settle, results, Try.results11, go_sem, hxf]
      exact ⟨by rw [HOFF.out _ HV.out (by decide), HV.out], hbf⟩
  replace HE := Lib.hid (HE.out.trans (if_neg hrr))
  have g0 : decide (0 ≤ row) = true := decide_eq_true (by omega)
  have g1 : decide (row < (rows.length : Int)) = true := decide_eq_true (by omega)
  clear hrr
  go_wp2_with fail
  with_reducible refine (must_ok 1 _).mono ?_
  rintro e w5 ⟨rfl, rfl⟩
  go_wp2_with fail
  with_reducible refine (mcommitted_any _ _ _ rows2 c _ HR2.out ⟨_, _, _, rfl⟩ HL.out).mono ?_
  rintro e w6 ⟨rfl, hb6⟩
  replace c0 := below_cell hb6 c0
  replace c1 := below_cell hb6 c1
  replace c2 := below_cell hb6 c2
  replace c3 := below_cell hb6 c3
  replace d0 := below_cell hb6 d0
  replace d1 := below_cell hb6 d1
  replace HR := Lib.hid (HR.out.below hb6)
  replace HO := Lib.hid (HO.out.below hb6)
  replace HC := Lib.hid (HC.out.below hb6)
  replace HR2 := Lib.hid (HR2.out.below hb6)
  replace HO2 := Lib.hid (HO2.out.below hb6)
  replace HL := Lib.hid (HL.out.below hb6)
  replace Q1 := Lib.hid ((hb6.block _ (row_lt Q1.out)).trans Q1.out)
  replace Q2 := Lib.hid ((hb6.block _ (row_lt Q2.out)).trans Q2.out)
  replace QE := Lib.hid ((hb6.block _ (row_lt QE.out)).trans QE.out)
  replace HB := Lib.hid (HB.out.trans (hb6.mono HB.out.size))
  clear hb6
  cases hcm : comB rows2 c with
  | false =>
    have HV := Lib.hid (HE.out.trans (if_pos hcm))
    clear hcm HE
    go_wp2_with fail
    with_reducible refine (must_bad 340 _).mono ?_
    rintro e w7 ⟨rfl, rfl⟩
    refine leaves_cons (f := 34) (args := #[.pointer (some ⟨w.heap.size + 1 + 1, 0, none⟩)]) (by simp) (by simp [go_sem]) ?_
    refine (caught39_panicking (w.heap.size + 1 + 1) 0 0 340 [] _ (row_cell QE.out rfl) (row_free QE.out 0) (row_lt QE.out)).mono ?_
    rintro e u' w'' ⟨rfl, rfl, rfl⟩
    obtain ⟨Wf, hWf, hbf, hxf⟩ := stop_end HB.out (show w.heap.size ≤ w.heap.size + 1 + 1 by omega) QE.out 340
    rw [← hWf]
    simp [Leaves, settle, results, Try.results11, go_sem, hxf]
    exact ⟨by rw [HOFF.out _ HV.out (by decide), HV.out], hbf⟩
  | true =>
    have HV := Lib.hid (HE.out.trans (if_neg (by rw [hcm]; decide)))
    have HMT : Hid (MB = fitM rows owners cs rows2 row c) := Lib.hid (by rw [HMB.out, HV.out]; rfl)
    clear hcm HE
    go_wp2_with fail
    with_reducible refine (must_ok 340 _).mono ?_
    rintro e w7 ⟨rfl, rfl⟩
    have HFT := Lib.hid (fun ww h1 h2 h3 h4 h5 h6 => mfits_any ep (.slice a1 rows.length k1) (.slice a2 owners.length k2) (.slice a3 cs.length k3) (.slice a4 rows2.length k4) (.slice a5 owners2.length k5) (.slice a6 c.length k6) row rows owners cs rows2 owners2 c ww h1 h2 h3 h4 h5 h6 HRW.out HP2.out)
    rw [← HMT.out] at HFT
    go_wp2_with fail
    with_reducible refine (HFT.out _ HR.out HO.out HC.out HR2.out HO2.out HL.out).mono ?_
    rintro e w8 ⟨rfl, hb8⟩
    replace c0 := below_cell hb8 c0
    replace c1 := below_cell hb8 c1
    replace c2 := below_cell hb8 c2
    replace c3 := below_cell hb8 c3
    replace d0 := below_cell hb8 d0
    replace d1 := below_cell hb8 d1
    replace HR := Lib.hid (HR.out.below hb8)
    replace HO := Lib.hid (HO.out.below hb8)
    replace HC := Lib.hid (HC.out.below hb8)
    replace HR2 := Lib.hid (HR2.out.below hb8)
    replace HO2 := Lib.hid (HO2.out.below hb8)
    replace HL := Lib.hid (HL.out.below hb8)
    replace Q1 := Lib.hid ((hb8.block _ (row_lt Q1.out)).trans Q1.out)
    replace Q2 := Lib.hid ((hb8.block _ (row_lt Q2.out)).trans Q2.out)
    replace QE := Lib.hid ((hb8.block _ (row_lt QE.out)).trans QE.out)
    replace HB := Lib.hid (HB.out.trans (hb8.mono HB.out.size))
    clear hb8
    have z0 := row_cell QE.out (k := 0) rfl
    have z1 := row_free QE.out 0
    go_wp2_with fail
    refine leaves_cons (f := 34) (args := #[.pointer (some ⟨w.heap.size + 1 + 1, 0, none⟩)]) (by simp) (by simp [go_sem]) ?_
    refine (caught39_idle _ _).mono ?_
    rintro e u' w'' ⟨rfl, rfl, rfl⟩
    have hxf := row_cell (row_set QE.out 0 (.int .i64 0)) (k := 0) rfl
    simp [Leaves, settle, results, Try.results11, go_sem, hxf]
    exact ⟨by rw [HV.out], HB.out.setCell (show w.heap.size ≤ w.heap.size + 1 + 1 by omega) _⟩

end Go.Proofs.Ytjjoadmkpbmhpaa

namespace Go.Proofs.Ytjjoadmkpbmhpaa
open Go.RowKit FP

set_option maxRecDepth 100000 in
theorem mrows1_any (r v r2 v2 : Int) (w : World) :
    Calls Try.prog 42 #[.agg #[.int .i64 r, .int .i64 v], .agg #[.int .i64 r2, .int .i64 v2]] w fun e w' => e = .returned (.bool (r == r2)) ∧ Below w.heap.size w w' := by
  obtain ⟨W1, hW1, hb1, hr1, -⟩ := box_prog w (.int .i64 r) (.int .i64 v) 35
  obtain ⟨W2, hW2, hb2, hr2, -⟩ := box_prog W1 (.int .i64 r2) (.int .i64 v2) 35
  have hs : W1.heap.size = w.heap.size + 1 := by rw [hW1]; simp
  have c0 : W2.cell? ⟨w.heap.size, 0, none⟩ = some (.int .i64 r) := below_cell hb2 (row_cell hr1 rfl)
  have c1 : W2.cell? ⟨w.heap.size + 1, 0, none⟩ = some (.int .i64 r2) := by rw [← hs]; exact row_cell hr2 rfl
  have HB := Lib.hid (hb1.trans (hb2.mono hb1.size))
  rw [hW1] at hW2
  have HW := Lib.hid hW2
  clear hW2 hW1 hr1 hr2 hb1 hb2 hs
  go_enter Try.func42, Try.ntmps42
  go_wp2_with (rw [← HW.out])
  go_ret
  exact ⟨rfl, HB.out⟩

set_option maxRecDepth 100000 in
set_option maxHeartbeats 4000000 in
theorem mefRows_any (u v : Value) (a b : List (Int × Int)) (w : World) (hA : Shares w u a) (hB : Shares w v b) :
    Calls Try.prog 43 #[u, v, .func (.func 42) #[] #[]] w fun e w' => e = .returned (.bool (decide (rowsS a = rowsS b))) ∧ Below w.heap.size w w' := by
  obtain ⟨a1, k1, rfl, hc1, hl1, hr1, hk1⟩ := hA
  obtain ⟨a2, k2, rfl, hc2, hl2, hr2, hk2⟩ := hB
  by_cases hl : a.length = b.length
  rotate_left
  · have hl' : ((a.length : Int) != (b.length : Int)) = true := by rw [bne_iff_ne]; omega
    have HV : Hid (decide (rowsS a = rowsS b) = false) := Lib.hid (decide_eq_false (fun h => hl (rowsS_len h)))
    clear hl
    go_enter Try.func43, Try.ntmps43
    go_wp2_with fail
    go_ret
    exact ⟨ret_bool HV.out.symm, Below.refl _ _⟩
  have hl' : ((a.length : Int) != (b.length : Int)) = false := by rw [hl]; simp
  have HL := Lib.hid hl
  have HK2 : Hid (∀ k (h : k < a.length), ∃ x z, x = (b[k]'(by rw [← HL.out]; exact h)).1 ∧ ∃ q off, a2 = some ⟨q, off, none⟩ ∧ w.cell? ⟨q, off + k * 2, none⟩ = some (.int .i64 x) ∧ w.cell? ⟨q, off + k * 2 + 1, none⟩ = some (.int .i64 z)) := Lib.hid (fun k h => ⟨_, _, rfl, hk2 k (by omega)⟩)
  have HK1 := Lib.hid hk1
  rw [← hl] at hl' hl2 ⊢
  clear hl hk1 hk2
  go_enter Try.func43, Try.ntmps43
  go_wp2_with fail
  go_loopw [17] (fun i W => ∃ k : Nat, k ≤ a.length ∧ i = .int .i64 k ∧ Hid (∀ j (h1 : j < a.length) (h2 : j < b.length), j < k → a[j].1 = b[j].1) ∧ Below w.heap.size w W) (fun i _ => a.length - (intOf i).toNat)
  case atStart => exact ⟨0, Nat.zero_le _, rfl, Lib.hid fun j _ _ h => absurd h (Nat.not_lt_zero _), Below.refl _ _⟩
  case round =>
    obtain ⟨k, hkl, rfl, HP, hb⟩ := hrel
    by_cases hlt : k < a.length
    · obtain ⟨p, off, rfl, qa, qb⟩ := HK1.out k hlt
      obtain ⟨y, z, hy, p', off', rfl, qc, qd⟩ := HK2.out k hlt
      have y1 := below_cell hb qa
      have y2 := below_cell hb qb
      have y3 := below_cell hb qc
      have y4 := below_cell hb qd
      obtain ⟨x, hx⟩ : ∃ x, x = a[k].1 := ⟨_, rfl⟩
      obtain ⟨t, ht⟩ : ∃ t, t = a[k].2 := ⟨_, rfl⟩
      rw [← hx] at y1
      rw [← ht] at y2
      have i1 : (0 : Int) ≤ (k : Int) := by omega
      have i2 : (k : Int) < (a.length : Int) := by omega
      have HX := Lib.hid hx
      have HY := Lib.hid hy
      obtain ⟨W5, hW5, hb5, hr5, -⟩ := box_prog wr (.int .i64 x) (.int .i64 t) 35
      have s0 : W5.cell? ⟨wr.heap.size, 0, none⟩ = some (.int .i64 x) := row_cell hr5 rfl
      have s1 : W5.cell? ⟨wr.heap.size, 1, none⟩ = some (.int .i64 t) := row_cell hr5 rfl
      have z3 := below_cell hb5 y3
      have z4 := below_cell hb5 y4
      obtain ⟨W6, hW6, hb6, hr6, -⟩ := box_prog W5 (.int .i64 y) (.int .i64 z) 35
      have u0 := below_cell hb6 s0
      have u1 := below_cell hb6 s1
      have u2 : W6.cell? ⟨W5.heap.size, 0, none⟩ = some (.int .i64 y) := row_cell hr6 rfl
      have u3 : W6.cell? ⟨W5.heap.size, 1, none⟩ = some (.int .i64 z) := row_cell hr6 rfl
      have HW5 := Lib.hid hW5
      have HW6 := Lib.hid hW6
      have hbw := hb.trans (hb5.mono hb.size)
      have HBW := Lib.hid (hbw.trans (hb6.mono hbw.size))
      clear hx hy ht qa qb qc qd hb hr5 hr6 hW5 hW6 hb5 hb6 hbw
      by_cases he : x = y
      · have he' : (x == y) = true := by simpa using he
        have HN := Lib.hid (show ∀ j (h1 : j < a.length) (h2 : j < b.length), j < k + 1 → a[j].1 = b[j].1 from fun j h1 h2 h3 => by
          by_cases e : j = k
          · subst e; rw [← HX.out, ← HY.out, he]
          · exact HP.out j h1 h2 (by omega))
        clear he
        go_wp2_with (first | rw [← HW5.out] | rw [← HW6.out])
        refine (mrows1_any x t y z _).mono ?_
        rintro e w7 ⟨rfl, hb7⟩
        rw [he']
        go_wp2_with fail
        go_roundw
        case rel => exact ⟨k + 1, by omega, by go_num, HN, HBW.out.trans (hb7.mono HBW.out.size)⟩
        case measure => simp [intOf]; omega
      · have he' : (x == y) = false := by simpa using he
        have HV : Hid (decide (rowsS a = rowsS b) = false) := Lib.hid (decide_eq_false (rowsS_at hlt (by rw [← HL.out]; exact hlt) (by rw [← HX.out, ← HY.out]; exact he)))
        clear he
        go_wp2_with (first | rw [← HW5.out] | rw [← HW6.out])
        refine (mrows1_any x t y z _).mono ?_
        rintro e w7 ⟨rfl, hb7⟩
        rw [he']
        go_wp2_with fail
        go_ret
        exact ⟨ret_bool HV.out.symm, HBW.out.trans (hb7.mono HBW.out.size)⟩
    · have HV : Hid (decide (rowsS a = rowsS b) = true) := Lib.hid (decide_eq_true (rowsS_all HL.out fun j h1 h2 => HP.out j h1 h2 (by omega)))
      go_wp2_with fail
      go_ret
      exact ⟨ret_bool HV.out.symm, hb⟩


set_option maxRecDepth 100000 in
set_option maxHeartbeats 4000000 in
theorem misSet_any (v : Value) (who : List Int) (w : World) (hW : Ints w v who) :
    Calls Try.prog 39 #[v] w fun e w' => e = .returned (.bool (peopleB (-1) who)) ∧ Below w.heap.size w w' := by
  have HW := Lib.hid hW
  obtain ⟨a1, k1, rfl, -, hl1, -⟩ := id hW
  clear hW
  go_enter Try.func39, Try.ntmps39
  go_wp2_with fail
  go_loopw [3, 8] (fun last i W => ∃ k : Nat, k ≤ who.length ∧ i = .int .i64 k ∧ last = .int .i64 (lastP (-1) (who.take k)) ∧ Hid (peopleB (-1) (who.take k) = true) ∧ Hid (-1 ≤ lastP (-1) (who.take k)) ∧ W = w) (fun _ i _ => who.length - (intOf i).toNat)
  case atStart => exact ⟨0, Nat.zero_le _, rfl, rfl, Lib.hid rfl, Lib.hid (by unfold lastP; simp), rfl⟩
  case round =>
    obtain ⟨k, hkl, rfl, rfl, HP, HG, rfl⟩ := hrel
    by_cases hlt : k < who.length
    · obtain ⟨hr, b1, o1, n1, c1, e1, q1⟩ := HW.out.get hlt
      simp only [Value.slice.injEq] at e1
      obtain ⟨rfl, -, -⟩ := e1
      rw [nth_at hlt] at q1 hr
      have HTK := Lib.hid (peopleB_take (last := -1) hlt)
      have HLT := Lib.hid (lastP_take (last := -1) hlt)
      have HBD := Lib.hid (fun h => peopleB_bad (l := who) (last := -1) (k := k) h)
      have i0 : (0 : Int) ≤ (k : Int) := by omega
      have i1 : (k : Int) < (who.length : Int) := by omega
      obtain ⟨x, hx⟩ : ∃ x, x = who[k] := ⟨_, rfl⟩
      obtain ⟨la, hla⟩ : ∃ la, la = lastP (-1) (who.take k) := ⟨_, rfl⟩
      rw [← hx] at q1 HTK HLT
      rw [← hla] at HTK HG ⊢
      rw [HP.out, Bool.true_and] at HTK
      have hg := HG.out
      clear hr hx hla HP HG
      by_cases hle : x ≤ la
      · have d1 : decide (x ≤ la) = true := decide_eq_true hle
        have HV := Lib.hid (HBD.out (by rw [HTK.out, decide_eq_false (show ¬ la < x by omega), Bool.and_false]))
        clear hle
        go_wp2_with fail
        go_ret
        exact ⟨ret_bool HV.out.symm, Below.refl _ _⟩
      have d1 : decide (x ≤ la) = false := decide_eq_false hle
      by_cases h64 : 64 ≤ x
      · have d2 : decide (64 ≤ x) = true := decide_eq_true h64
        have HV := Lib.hid (HBD.out (by rw [HTK.out, inB_false (by omega), Bool.false_and]))
        clear hle h64
        go_wp2_with fail
        go_ret
        exact ⟨ret_bool HV.out.symm, Below.refl _ _⟩
      have d2 : decide (64 ≤ x) = false := decide_eq_false h64
      have HN : Hid (peopleB (-1) (who.take (k + 1)) = true) := Lib.hid (by rw [HTK.out, inB_iff.2 (by omega), decide_eq_true (show la < x by omega)]; rfl)
      have HG2 : Hid (-1 ≤ lastP (-1) (who.take (k + 1))) := Lib.hid (by rw [HLT.out]; omega)
      clear hle h64 hg
      go_wp2_with fail
      go_roundw
      case rel => exact ⟨k + 1, by omega, by go_num, by rw [HLT.out], HN, HG2, by trivial⟩
      case measure => simp [intOf]; omega
    · obtain rfl : k = who.length := by omega
      have hdk : decide (who.length < who.length) = false := decide_eq_false (by omega)
      have HV : Hid (peopleB (-1) who = true) := Lib.hid (by have := HP.out; rwa [List.take_length] at this)
      go_wp2_with fail
      go_ret
      exact ⟨ret_bool HV.out.symm, Below.refl _ _⟩

/-- The rows of people, as numbers. -/
def ownN (owners who : List Int) (n : Nat) : List Int := (ownL owners who n).map fun (i : Nat) => (i : Int)
theorem ownN_len (owners who : List Int) (n : Nat) : (ownN owners who n).length ≤ n := by unfold ownN; rw [List.length_map]; exact ownL_len _ _ _

set_option maxRecDepth 100000 in
set_option maxHeartbeats 4000000 in
theorem mowned_any (rv ov wv : Value) (owners who : List Int) (w : World) (hr : ∃ a n c, rv = .slice a n c) (hO : Ints w ov owners) (hW : Ints w wv who) (hl : owners.length ≤ 1000) :
    Calls Try.prog 41 #[.agg #[rv, ov], wv] w fun e w' => ∃ v, e = .returned v ∧ Ints w' v (ownN owners who owners.length) ∧ Below w.heap.size w w' := by
  obtain ⟨W1, hW1, hb1, hr1, hz⟩ := box_prog w rv ov 25
  obtain ⟨a1, n1, k1, rfl⟩ := hr
  have HO := Lib.hid (hO.below hb1)
  have HWW := Lib.hid (hW.below hb1)
  obtain ⟨a2, k2, rfl, -, hl2, -⟩ := id hO
  obtain ⟨a3, k3, rfl, -, hl3, -⟩ := id hW
  have c1 : W1.cell? ⟨w.heap.size, 1, none⟩ = some (.slice a2 owners.length k2) := row_cell hr1 rfl
  have HW1 := Lib.hid hW1
  have HB1 := Lib.hid hb1
  have h00 : W1.ownsRow W1.heap.size 3 1 (.slice none 0 0) (ownL owners who 0).length ((ownN owners who 0).map (Value.int .i64)) := World.ownsRow_nil _ _ _ _
  clear hO hW hr1 hW1 hb1
  go_enter Try.func41, Try.ntmps41
  go_wp2_with (rw [← HW1.out])
  go_loopw [4, 10] (fun L i W => ∃ k : Nat, k ≤ owners.length ∧ i = .int .i64 k ∧ W.ownsRow W1.heap.size 3 1 L (ownL owners who k).length ((ownN owners who k).map (Value.int .i64)) ∧ Below W1.heap.size W1 W) (fun _ i _ => owners.length - (intOf i).toNat)
  case atStart => exact ⟨0, Nat.zero_le _, rfl, h00, Below.refl _ _⟩
  case round =>
    clear h00
    obtain ⟨k, hkl, rfl, hown, hb⟩ := hrel
    have HOW := Lib.hid hown
    have HBW := Lib.hid hb
    by_cases hlt : k < owners.length
    · obtain ⟨-, b1, o1, n2, c2, e1, q1⟩ := (HO.out.below hb).get hlt
      simp only [Value.slice.injEq] at e1
      obtain ⟨rfl, -, -⟩ := e1
      have HWR := Lib.hid (HWW.out.below hb)
      have i0 : (0 : Int) ≤ (k : Int) := by omega
      have i1 : (k : Int) < (owners.length : Int) := by omega
      have hlk : (ownL owners who k).length ≤ 1000000 := by have := ownL_len owners who k; omega
      clear hown hb
      by_cases hm : nth owners k ∈ who
      · have HT : Hid ((ownN owners who (k + 1)).map (Value.int .i64) = (ownN owners who k).map (Value.int .i64) ++ [.int .i64 (k : Int)]) := Lib.hid (by unfold ownN; rw [ownL_yes hm, List.map_append, List.map_append]; rfl)
        have HTL : Hid ((ownL owners who (k + 1)).length = (ownL owners who k).length + 1) := Lib.hid (by rw [ownL_yes hm, List.length_append]; rfl)
        have HCT := Lib.hid (contains_yes _ who (nth owners k) _ HWR.out hm)
        have HN := Lib.hid (below_new wr #[.int .i64 k] 3)
        have HOX := Lib.hid (own_keep HOW.out HN.out)
        have HQ0 := Lib.hid (show (wr.alloc (.cells #[.int .i64 k] 3)).cell? ⟨wr.heap.size, 0, none⟩ = some (.int .i64 k) from row_cell (World.alloc_heap_new _ _) rfl)
        have HB9 := Lib.hid (HBW.out.trans (HN.out.mono HBW.out.size))
        have HBS := Lib.hid HB9.out.size
        clear hm
        generalize nth owners k = x at *
        go_wp2_with fail
        with_reducible refine HCT.out.mono ?_
        rintro e w2 ⟨rfl, rfl⟩
        go_wp2_with (refine app_int rfl _ _ rfl W1.heap.size (ownL owners who k).length _ _ rfl HOX.out wr.heap.size 1 (k : Int) rfl HQ0.out hlk HBS.out ?_; intro v9 w9 h9 o9; have H9 := Lib.hid h9; have O9 := Lib.hid o9; clear h9 o9)
        go_roundw
        case rel => exact ⟨k + 1, by omega, by go_num, by rw [HT.out, HTL.out]; exact H9.out, HB9.out.trans (own_below HOX.out O9.out HBS.out)⟩
        case measure => simp [intOf]; omega
      · have HTL : Hid (ownL owners who (k + 1) = ownL owners who k) := Lib.hid (ownL_no hm)
        have HT : Hid (ownN owners who (k + 1) = ownN owners who k) := Lib.hid (by unfold ownN; rw [ownL_no hm])
        have HCT := Lib.hid (contains_no _ who (nth owners k) _ HWR.out hm)
        clear hm
        generalize nth owners k = x at *
        go_wp2_with fail
        with_reducible refine HCT.out.mono ?_
        rintro e w2 ⟨rfl, rfl⟩
        go_wp2_with fail
        go_roundw
        case rel => exact ⟨k + 1, by omega, by go_num, by rw [HT.out, HTL.out]; exact HOW.out, HBW.out⟩
        case measure => simp [intOf]; omega
    · obtain rfl : k = owners.length := by omega
      have hdk : decide (owners.length < owners.length) = false := decide_eq_false (by omega)
      have HIF := Lib.hid (Ints.own (zs := ownN owners who owners.length) hown (fun z hz => by
        obtain ⟨i, hi, rfl⟩ := List.mem_map.1 hz
        have := (ownL_lt hi).1
        exact R64.mk (by omega) (by omega)) (by have := ownN_len owners who owners.length; omega))
      have HF := Lib.hid (HB1.out.trans (hb.mono HB1.out.size))
      clear hown hb
      go_wp2_with fail
      go_ret
      exact ⟨_, rfl, HIF.out, HF.out⟩

end Go.Proofs.Ytjjoadmkpbmhpaa
