/- The laws of complaints: the examples hold (sane). -/
import Derived.Test.YtggnipkfliompaaGreatDoorMCoK
import Derived.Test.YtggnipkfliompaaGreatDoorMRegF
namespace Go.Proofs.YtggnipkfliompaaGreatDoor
open Go.RowKit FP

/-- A box that a drawn region makes, and stores a complaint into. -/
def CBox (n0 : Nat) (w : World) (d s : Bool) (v : Value) (c : Cmp) : Prop := d = true → ∃ B, v = .pointer (some ⟨B, 0, none⟩) ∧ n0 ≤ B ∧ B < w.heap.size ∧ w.heap[B]? = some (.cells (cmpA (if s = true then c else cmp0)) 34 (0, 0))
theorem CBox.nil (n0 : Nat) (w : World) (v : Value) (c : Cmp) : CBox n0 w false false v c := fun h => by cases h
theorem CBox.below {n0 : Nat} {w w' : World} {d s : Bool} {v : Value} {c : Cmp} (h : CBox n0 w d s v c) (hb : Below w.heap.size w w') : CBox n0 w' d s v c := fun hd => by
  obtain ⟨B, e, h1, h2, h3⟩ := h hd
  exact ⟨B, e, h1, Nat.lt_of_lt_of_le h2 hb.size, (hb.block _ h2).trans h3⟩
theorem CBox.alloc {n0 : Nat} {w : World} {d s : Bool} {v : Value} {c : Cmp} (_h : CBox n0 w d s v c) (hs : s = false) (hn : n0 ≤ w.heap.size) : CBox n0 (w.alloc (.cells (cmpA cmp0) 34)) true s (.pointer (some ⟨w.heap.size, 0, none⟩)) c := fun _ =>
  ⟨w.heap.size, rfl, hn, by simp, by rw [hs]; exact World.alloc_heap_new _ _⟩
theorem CBox.store {n0 : Nat} {w : World} {d s : Bool} {v : Value} {c : Cmp} {B : Nat} (h : CBox n0 w d s v c) (hv : v = .pointer (some ⟨B, 0, none⟩)) (hd : d = true) (hS : w.heap[B]? = some (.cells (cmpA cmp0) 34 (0, 0))) : CBox n0 (cmpW w B c) d true v c := fun _ => by
  obtain ⟨B', e, h1, h2, -⟩ := h hd
  rw [hv] at e
  simp only [Value.pointer.injEq, Option.some.injEq, Addr.mk.injEq] at e
  obtain ⟨rfl, -, -⟩ := e
  exact ⟨B, hv, h1, by simpa [cmpW, World.setCell] using h2, cmpW_row c rfl _ hS⟩
structure FCa2 (w0 : World) (fv : Value) (bF1 : Nat) (done : Nat → Bool) (v : Nat → Value) (w : World) : Prop where
  b : Below w0.heap.size w0 w
  f0 : done 0 = true → done 2 = false → TwoV (v 0) w
  f1 : done 1 = true → v 1 = fv
  f2 : done 2 = true → v 2 = .tuple #[.agg #[.int .i64 0, .int .i64 0, .int .i64 0, .int .i64 0, .int .i64 0], .bool false, .int .i64 0]
  f3 : done 3 = true → v 3 = .tuple #[.agg #[.int .i64 0, .int .i64 0, .int .i64 0, .int .i64 0, .int .i64 0], .bool false, .int .i64 0]
  f4 : done 4 = true → v 4 = .agg #[.int .i64 0, .int .i64 0, .int .i64 0, .int .i64 0, .int .i64 0]
  f5 : done 5 = true → v 5 = .bool false
  f6 : done 6 = true → v 6 = .int .i64 0
  f9 : done 9 = true → v 9 = .bool false
  f10 : done 10 = true → v 10 = .int .i64 0
  bx : CBox w0.heap.size w (done 7) (done 8) (v 7) cmp0

structure FCa3 (w0 : World) (fv : Value) (bF2 : Nat) (D1 : Int) (E1 : Int) (S1 : Int) (done : Nat → Bool) (v : Nat → Value) (w : World) : Prop where
  b : Below w0.heap.size w0 w
  f0 : done 0 = true → done 2 = false → TwoV (v 0) w
  f1 : done 1 = true → v 1 = fv
  f2 : done 2 = true → v 2 = .tuple #[.agg #[.int .i64 3, .int .i64 1, .int .i64 D1, .int .i64 E1, .int .i64 S1], .bool true, .int .i64 0]
  f3 : done 3 = true → v 3 = .tuple #[.agg #[.int .i64 3, .int .i64 1, .int .i64 D1, .int .i64 E1, .int .i64 S1], .bool true, .int .i64 0]
  f4 : done 4 = true → v 4 = .agg #[.int .i64 3, .int .i64 1, .int .i64 D1, .int .i64 E1, .int .i64 S1]
  f5 : done 5 = true → v 5 = .bool true
  f6 : done 6 = true → v 6 = .int .i64 0
  f9 : done 9 = true → v 9 = .bool true
  f10 : done 10 = true → v 10 = .int .i64 0
  bx : CBox w0.heap.size w (done 7) (done 8) (v 7) ⟨3, 1, D1, E1, S1⟩

structure FCa4 (w0 : World) (fv : Value) (bF1 : Nat) (done : Nat → Bool) (v : Nat → Value) (w : World) : Prop where
  b : Below w0.heap.size w0 w
  f0 : done 0 = true → done 2 = false → TwoV (v 0) w
  f1 : done 1 = true → v 1 = fv
  f2 : done 2 = true → v 2 = .tuple #[.agg #[.int .i64 0, .int .i64 0, .int .i64 0, .int .i64 0, .int .i64 0], .bool false, .int .i64 110]
  f3 : done 3 = true → v 3 = .tuple #[.agg #[.int .i64 0, .int .i64 0, .int .i64 0, .int .i64 0, .int .i64 0], .bool false, .int .i64 110]
  f4 : done 4 = true → v 4 = .agg #[.int .i64 0, .int .i64 0, .int .i64 0, .int .i64 0, .int .i64 0]
  f5 : done 5 = true → v 5 = .bool false
  f6 : done 6 = true → v 6 = .int .i64 110
  f9 : done 9 = true → v 9 = .bool false
  f10 : done 10 = true → v 10 = .int .i64 110
  bx : CBox w0.heap.size w (done 7) (done 8) (v 7) cmp0

structure FCa5 (w0 : World) (fv : Value) (bF1 : Nat) (done : Nat → Bool) (v : Nat → Value) (w : World) : Prop where
  b : Below w0.heap.size w0 w
  f0 : done 0 = true → done 2 = false → TwoV (v 0) w
  f1 : done 1 = true → v 1 = fv
  f2 : done 2 = true → v 2 = .tuple #[.agg #[.int .i64 0, .int .i64 0, .int .i64 0, .int .i64 0, .int .i64 0], .bool false, .int .i64 1]
  f3 : done 3 = true → v 3 = .tuple #[.agg #[.int .i64 0, .int .i64 0, .int .i64 0, .int .i64 0, .int .i64 0], .bool false, .int .i64 1]
  f4 : done 4 = true → v 4 = .agg #[.int .i64 0, .int .i64 0, .int .i64 0, .int .i64 0, .int .i64 0]
  f5 : done 5 = true → v 5 = .bool false
  f6 : done 6 = true → v 6 = .int .i64 1
  f9 : done 9 = true → v 9 = .bool false
  f10 : done 10 = true → v 10 = .int .i64 1
  bx : CBox w0.heap.size w (done 7) (done 8) (v 7) cmp0

structure FCa8 (w0 : World) (fv : Value) (bF2 : Nat) (kk : Int) (bC : Nat) (D1 : Int) (E1 : Int) (S1 : Int) (done : Nat → Bool) (v : Nat → Value) (w : World) : Prop where
  b : Below w0.heap.size w0 w
  f0 : done 0 = true → done 4 = false → TwoV (v 0) w
  f1 : done 1 = true → v 1 = .int .i64 kk
  f2 : done 2 = true → v 2 = fv
  f3 : done 3 = true → v 3 = .agg #[.int .i64 3, .int .i64 1, .int .i64 D1, .int .i64 E1, .int .i64 S1]
  f4 : done 4 = true → v 4 = .tuple #[.int .i64 1, .int .i64 0]
  f5 : done 5 = true → v 5 = .tuple #[.int .i64 1, .int .i64 0]
  f6 : done 6 = true → v 6 = .int .i64 1
  f7 : done 7 = true → v 7 = .int .i64 0
  f8 : done 8 = true → v 8 = .int .i64 1
  f9 : done 9 = true → v 9 = .int .i64 0

structure FCa12 (w0 : World) (fv : Value) (bF1 : Nat) (kk : Int) (bE : Nat) (D1 : Int) (E1 : Int) (S1 : Int) (done : Nat → Bool) (v : Nat → Value) (w : World) : Prop where
  b : Below w0.heap.size w0 w
  f0 : done 0 = true → done 6 = false → TwoV (v 0) w
  f1 : done 1 = true → v 1 = .int .i64 kk
  f2 : done 2 = true → v 2 = fv
  f3 : done 3 = true → v 3 = .int .i64 D1
  f4 : done 4 = true → v 4 = .agg #[.int .i64 E1, .int .i64 S1]
  f5 : done 5 = true → v 5 = .agg #[.int .i64 3, .int .i64 1, .int .i64 D1, .int .i64 E1, .int .i64 S1]
  f6 : done 6 = true → v 6 = .tuple #[.int .i64 2, .int .i64 0]
  f7 : done 7 = true → v 7 = .tuple #[.int .i64 2, .int .i64 0]
  f8 : done 8 = true → v 8 = .int .i64 2
  f9 : done 9 = true → v 9 = .int .i64 0
  f10 : done 10 = true → v 10 = .int .i64 2
  f11 : done 11 = true → v 11 = .int .i64 0

structure FCa13 (w0 : World) (fv : Value) (bF1 : Nat) (kk : Int) (done : Nat → Bool) (v : Nat → Value) (w : World) : Prop where
  b : Below w0.heap.size w0 w
  f0 : done 0 = true → done 4 = false → TwoV (v 0) w
  f1 : done 1 = true → v 1 = .int .i64 kk
  f2 : done 2 = true → v 2 = fv
  f3 : done 3 = true → v 3 = .agg #[.int .i64 3, .int .i64 2, .int .i64 0, .int .i64 0, .int .i64 0]
  f4 : done 4 = true → v 4 = .tuple #[.int .i64 0, .int .i64 360]
  f5 : done 5 = true → v 5 = .tuple #[.int .i64 0, .int .i64 360]
  f6 : done 6 = true → v 6 = .int .i64 0
  f7 : done 7 = true → v 7 = .int .i64 360
  f8 : done 8 = true → v 8 = .int .i64 0
  f9 : done 9 = true → v 9 = .int .i64 360

structure FCa14 (w0 : World) (fv : Value) (bF1 : Nat) (kk : Int) (done : Nat → Bool) (v : Nat → Value) (w : World) : Prop where
  b : Below w0.heap.size w0 w
  f0 : done 0 = true → done 4 = false → TwoV (v 0) w
  f1 : done 1 = true → v 1 = .int .i64 kk
  f2 : done 2 = true → v 2 = fv
  f3 : done 3 = true → v 3 = .agg #[.int .i64 4, .int .i64 0, .int .i64 0, .int .i64 0, .int .i64 0]
  f4 : done 4 = true → v 4 = .tuple #[.int .i64 0, .int .i64 360]
  f5 : done 5 = true → v 5 = .tuple #[.int .i64 0, .int .i64 360]
  f6 : done 6 = true → v 6 = .int .i64 0
  f7 : done 7 = true → v 7 = .int .i64 360
  f8 : done 8 = true → v 8 = .int .i64 0
  f9 : done 9 = true → v 9 = .int .i64 360

theorem ex_st3g : stG R36 O36 (powE 4 13) (D36 0 0) ⟨3, 2, 0, 0, 0⟩ = 0 := by unfold stG; rw [if_pos (by rw [ex_st3]; decide)]
theorem ex_st4g : stG R36 O36 (powE 4 13) (D36 0 0) ⟨4, 0, 0, 0, 0⟩ = 0 := by unfold stG; rw [if_pos (by rw [ex_st4]; decide)]

set_option maxRecDepth 100000 in
set_option maxHeartbeats 16000000 in
theorem sane36_any (w : World) (hG : Glob w) :
    Calls Tryz.prog 13 #[] w fun r w' => r = .returned (.bool true) ∧ Below w.heap.size w w' := by
  have HB := Lib.hid (Below.refl w.heap.size w)
  have HTW := Lib.hid two36_any
  have H64 := Lib.hid (fun (z : Int) (h : -2000 ≤ z ∧ z ≤ 2000) => (by unfold R64; omega : R64 z))
  have HG := Lib.hid (fun W (h : Below w.heap.size w W) => hG.below h)
  clear hG
  go_enter Tryz.func13, Tryz.ntmps13
  go_wp2_with fail
  with_reducible refine (dealt36_any 0 0 _ (HG.out _ HB.out) (by omega) (H64.out _ (by omega))).mono ?_
  rintro e w1 ⟨u1, rfl, ⟨cv1, pv1, rfl, -, hc1, hp1⟩, hb1⟩
  replace HB := Lib.hid (HB.out.trans (hb1.mono HB.out.size))
  clear hb1
  obtain ⟨aC1, kC1, rfl, -⟩ := id hc1
  obtain ⟨aP1, kP1, rfl, -⟩ := id hp1
  rw [show (D36 0 0).cs.length = 2 from rfl] at hc1 ⊢
  rw [show (D36 0 0).ps.length = 2 from sealD_len] at hp1 ⊢
  rw [show (D36 0 0).dealer = 3 from rfl]
  obtain ⟨pb, po, ep, -, hpt, -, -⟩ := hp1.at (k := 1) (by rw [show (D36 0 0).ps.length = 2 from sealD_len]; omega)
  subst ep
  obtain ⟨pt, hpte⟩ : ∃ z, z = powE 4 (us36 1) := ⟨_, rfl⟩
  have hpv : (D36 0 0).ps[1].2.1 = pt := by rw [hpte]; exact congrArg (fun p => p.2.1) (sealD_at (rows := R36) (x := 5) (rnd := [7]) (i := 1) _)
  rw [hpv] at hpt
  have HEL : Hid (El pt) := Lib.hid (by rw [hpte]; exact el_powE el_four _)
  have HPT := Lib.hid hpte
  clear hpv hpte
  have HC1 := Lib.hid hc1
  have HP1 := Lib.hid hp1
  clear hc1 hp1
  go_wp2_with fail
  with_reducible refine (dealt36_any 1 1 _ (HG.out _ HB.out) (by omega) (H64.out _ (by omega))).mono ?_
  rintro e w2 ⟨u2, rfl, ⟨cv2, pv2, rfl, -, hc2, hp2⟩, hb2⟩
  replace hpt := below_cell hb2 hpt
  replace HC1 := Lib.hid (HC1.out.below hb2)
  replace HP1 := Lib.hid (HP1.out.below hb2)
  replace HB := Lib.hid (HB.out.trans (hb2.mono HB.out.size))
  clear hb2
  obtain ⟨aC2, kC2, rfl, -⟩ := id hc2
  obtain ⟨aP2, kP2, rfl, -⟩ := id hp2
  rw [show (D36 1 1).cs.length = 2 from rfl] at hc2 ⊢
  rw [show (D36 1 1).ps.length = 2 from sealD_len] at hp2 ⊢
  rw [show (D36 1 1).dealer = 3 from rfl]
  have HC2 := Lib.hid hc2
  have HP2 := Lib.hid hp2
  clear hc2 hp2
  go_wp2_with fail
  obtain ⟨W3, hW3, hb3, hr3, hs3⟩ := box36 w2 (.int .i64 3) (.slice aC1 2 kC1) (.slice (some ⟨pb, po, none⟩) 2 kP1) 28
  obtain ⟨W4, hW4, hb4, hr4, hs4⟩ := box36 W3 (.int .i64 3) (.slice aC2 2 kC2) (.slice aP2 2 kP2) 28
  rw [← hW3, ← hW4, ← hs3]
  have Q1 := Lib.hid ((hb4.block _ (row_lt hr3)).trans hr3)
  have Q2 := Lib.hid hr4
  have hb5 := hb3.trans (hb4.mono hb3.size)
  replace hpt := below_cell hb5 hpt
  replace HC1 := Lib.hid (HC1.out.below hb5)
  replace HP1 := Lib.hid (HP1.out.below hb5)
  replace HC2 := Lib.hid (HC2.out.below hb5)
  replace HP2 := Lib.hid (HP2.out.below hb5)
  replace HB := Lib.hid (HB.out.trans (hb5.mono HB.out.size))
  clear hb5
  obtain ⟨bF1, h1⟩ : ∃ b, b = w2.heap.size := ⟨_, rfl⟩
  obtain ⟨bF2, h2⟩ : ∃ b, b = W3.heap.size := ⟨_, rfl⟩
  rw [← h1] at Q1 ⊢
  rw [← h2] at Q2 ⊢
  clear h1 h2 hW3 hW4 hr3 hr4 hs3 hs4 hb3 hb4
  have q10 := row_cell Q1.out (k := 0) (v := .int .i64 3) rfl
  have q11 := row_cell Q1.out (k := 1) (v := .slice aC1 2 kC1) rfl
  have q12 := row_cell Q1.out (k := 2) (v := .slice (some ⟨pb, po, none⟩) 2 kP1) rfl
  have q20 := row_cell Q2.out (k := 0) (v := .int .i64 3) rfl
  have q21 := row_cell Q2.out (k := 1) (v := .slice aC2 2 kC2) rfl
  have q22 := row_cell Q2.out (k := 2) (v := .slice aP2 2 kP2) rfl
  obtain ⟨D1, hD1⟩ : ∃ x, x = ownD us36 ss36 1 := ⟨_, rfl⟩
  obtain ⟨E1, hE1⟩ : ∃ x, x = prE 13 (powE 4 (us36 1)) := ⟨_, rfl⟩
  obtain ⟨S1, hS1⟩ : ∃ x, x = prS 13 (powE 4 (us36 1)) := ⟨_, rfl⟩
  have HOC : Hid (ownC 3 us36 ss36 1 = ⟨3, 1, D1, E1, S1⟩) := Lib.hid (by rw [hD1, hE1, hS1]; rfl)
  have HPR : Hid (powE pt 13 = D1 ∧ prE 13 pt = E1 ∧ prS 13 pt = S1) := Lib.hid ⟨by rw [HPT.out]; exact hD1.symm, by rw [HPT.out]; exact hE1.symm, by rw [HPT.out]; exact hS1.symm⟩
  have HCR : Hid (CmpR ⟨3, 1, D1, E1, S1⟩) := Lib.hid ⟨H64.out 3 (by omega), H64.out 1 (by omega), by rw [hD1]; exact (el_powE (el_powE el_four _) _).r64, by rw [hE1]; exact num_r64 (prE_num _ _), by rw [hS1]; exact num_r64 (prS_num _ _)⟩
  clear hD1 hE1 hS1
  obtain ⟨wr, hwr⟩ : ∃ x, x = W4 := ⟨_, rfl⟩
  subst hwr
  have HM1 := Lib.hid (fun (W1 : World) (h1 : Below wr.heap.size wr W1) (v1 : Value) (m1 : TwoV v1 W1) => show Calls Tryz.prog 15 #[v1, .int .i64 11, .agg #[.int .i64 3, .slice aC1 2 kC1, .slice (some ⟨pb, po, none⟩) 2 kP1], .int .i64 0] W1 (fun e w' => e = .returned (.tuple #[.agg #[.int .i64 0, .int .i64 0, .int .i64 0, .int .i64 0, .int .i64 0], .bool false, .int .i64 0]) ∧ Below W1.heap.size W1 w') from by
    obtain ⟨ra, rc, oa, oc, rfl, hr, ho⟩ := m1
    exact (cMake_any _ _ _ _ R36 O36 (D36 0 0) 11 0 W1 (HG.out _ (HB.out.trans (h1.mono HB.out.size))) hr ho (HC1.out.below h1) (HP1.out.below h1) (H64.out _ (by omega)) (H64.out _ (by omega))).mono fun e w' ⟨e1, h2⟩ => ⟨e1.trans (by rw [ex_mk1.1, mkC_no ex_mk1.2, ex_mk1.2]; rfl), h2⟩)
  refine wp_region_flowsG (by kernel_rfl) (by kernel_rfl) (by kernel_rfl) (by kernel_rfl) (fun done v W => FCa2 wr (.agg #[.int .i64 3, .slice aC1 2 kC1, .slice (some ⟨pb, po, none⟩) 2 kP1]) (bF1) done v W) (fun v => ?_) ?_ (fun v W h => ?_)
  · exact ⟨(Below.refl _ _).drew, (fun h => by cases h), (fun h => by cases h), (fun h => by cases h), (fun h => by cases h), (fun h => by cases h), (fun h => by cases h), (fun h => by cases h), (fun h => by cases h), (fun h => by cases h), CBox.nil _ _ _ _⟩
  · refine ⟨?_, ?_, ?_, ?_, ?_, ?_, ?_, ?_, ?_, ?_, ?_, trivial⟩
    · intro done v W A h hd hp hu hA hB hdf
      clear hA hB hp hu hdf
      go_simp
      with_reducible refine (HTW.out W).mono ?_
      rintro e wq ⟨u, rfl, hn, hb⟩
      exact ⟨_, rfl, { h with b := h.b.trans (hb.mono h.b.size), f0 := (fun _ _ => hn), bx := (h.bx.below hb) }⟩
    · intro done v W A h hd hp hu hA hB hdf
      have e0 : A.tmps[1]?.getD undef = .pointer (some ⟨bF1, 0, none⟩) := hB 1 rfl
      have y0_ := below_cell h.b q10
      have y1_ := below_cell h.b q11
      have y2_ := below_cell h.b q12
      clear hA hB hp hu hdf
      go_simp
      exact ⟨_, rfl, { h with f1 := (fun _ => rfl) }⟩
    · intro done v W A h hd hp hu hA hB hdf
      have hd0 : done 0 = true := hp 0 rfl
      have hd1 : done 1 = true := hp 1 rfl
      have e0 := hA 0 34 rfl hd0
      have m0 := h.f0 hd0 hd
      have e2 := (hA 1 35 rfl hd1).trans (h.f1 hd1)
      clear hA hB hp hu hdf
      go_simp
      with_reducible refine (HM1.out W h.b _ m0).mono ?_
      rintro e wq ⟨rfl, hb⟩
      exact ⟨_, rfl, { h with b := h.b.trans (hb.mono h.b.size), f0 := (fun _ h2 => absurd (show true = false from h2) (by decide)), f2 := (fun _ => rfl), bx := (h.bx.below hb) }⟩
    · intro done v W A h hd hp hu hA hB hdf
      have hd2 : done 2 = true := hp 2 rfl
      have e0 := (hA 2 36 rfl hd2).trans (h.f2 hd2)
      clear hA hB hp hu hdf
      go_simp
      exact ⟨_, rfl, { h with f3 := (fun _ => rfl) }⟩
    · intro done v W A h hd hp hu hA hB hdf
      have hd3 : done 3 = true := hp 3 rfl
      have e0 := (hA 3 33 rfl hd3).trans (h.f3 hd3)
      clear hA hB hp hu hdf
      go_simp
      exact ⟨_, rfl, { h with f4 := (fun _ => rfl) }⟩
    · intro done v W A h hd hp hu hA hB hdf
      have hd3 : done 3 = true := hp 3 rfl
      have e0 := (hA 3 33 rfl hd3).trans (h.f3 hd3)
      clear hA hB hp hu hdf
      go_simp
      exact ⟨_, rfl, { h with f5 := (fun _ => rfl) }⟩
    · intro done v W A h hd hp hu hA hB hdf
      have hd3 : done 3 = true := hp 3 rfl
      have e0 := (hA 3 33 rfl hd3).trans (h.f3 hd3)
      clear hA hB hp hu hdf
      go_simp
      exact ⟨_, rfl, { h with f6 := (fun _ => rfl) }⟩
    · intro done v W A h hd hp hu hA hB hdf
      have n8_7 : done 8 = false := flow_not (fun hj => hu 8 7 rfl (hj)) hd
      have hb := below_new W (cmpA cmp0) 34
      have hn := h.b.size
      clear hA hB hp hu hdf
      go_simp
      exact ⟨_, rfl, { h with b := h.b.trans (hb.mono h.b.size), f0 := (fun h1 h2 => (h.f0 h1 h2).below hb), bx := (h.bx.alloc n8_7 hn) }⟩
    · intro done v W A h hd hp hu hA hB hdf
      have hd2 : done 2 = true := hp 2 rfl
      have hd4 : done 4 = true := hp 4 rfl
      have hd7 : done 7 = true := hp 7 rfl
      obtain ⟨B, eB, hn0, -, hS⟩ := h.bx hd7
      simp only [hd, Bool.false_eq_true, if_false] at hS
      have e1 := (hA 7 3 rfl hd7).trans eB
      have e2 := (hA 4 37 rfl hd4).trans (h.f4 hd4)
      have u0 := row_cell hS (k := 0) (v := .int .i64 0) rfl
      have u1 := row_cell hS (k := 1) (v := .int .i64 0) rfl
      have u2 := row_cell hS (k := 2) (v := .int .i64 0) rfl
      have u3 := row_cell hS (k := 3) (v := .int .i64 0) rfl
      have u4 := row_cell hS (k := 4) (v := .int .i64 0) rfl
      have g0 := row_free hS 0
      have g1 := row_free hS 1
      have g2 := row_free hS 2
      have g3 := row_free hS 3
      have g4 := row_free hS 4
      clear hA hB hp hu hdf
      go_simp
      exact ⟨undef, { h with b := cmpW_below (C := B) (cmp0 : Cmp) h.b hn0, f0 := (fun _ h2 => absurd (hd2.symm.trans h2) (by decide)), bx := (h.bx.store eB hd7 hS) }⟩
    · intro done v W A h hd hp hu hA hB hdf
      have hd5 : done 5 = true := hp 5 rfl
      have e0 := (hA 5 38 rfl hd5).trans (h.f5 hd5)
      clear hA hB hp hu hdf
      go_simp
      exact ⟨_, rfl, { h with f9 := (fun _ => rfl) }⟩
    · intro done v W A h hd hp hu hA hB hdf
      have hd6 : done 6 = true := hp 6 rfl
      have e0 := (hA 6 39 rfl hd6).trans (h.f6 hd6)
      clear hA hB hp hu hdf
      go_simp
      exact ⟨_, rfl, { h with f10 := (fun _ => rfl) }⟩
  simp only [putL, Act.put, Nat.reduceAdd, List.setIfInBounds_toArray, List.set_cons_zero, List.set_cons_succ]
  rw [h.f9 rfl]
  rw [h.f10 rfl]
  have hbr := h.b
  replace hpt := below_cell hbr hpt
  replace q10 := below_cell hbr q10
  replace q11 := below_cell hbr q11
  replace q12 := below_cell hbr q12
  replace q20 := below_cell hbr q20
  replace q21 := below_cell hbr q21
  replace q22 := below_cell hbr q22
  replace HC1 := Lib.hid (HC1.out.below hbr)
  replace HP1 := Lib.hid (HP1.out.below hbr)
  replace HC2 := Lib.hid (HC2.out.below hbr)
  replace HP2 := Lib.hid (HP2.out.below hbr)
  replace Q1 := Lib.hid ((hbr.block _ (row_lt Q1.out)).trans Q1.out)
  replace Q2 := Lib.hid ((hbr.block _ (row_lt Q2.out)).trans Q2.out)
  replace HB := Lib.hid (HB.out.trans (hbr.mono HB.out.size))
  clear h hbr HM1
  go_wp2_with fail
  obtain ⟨wr, hwr⟩ : ∃ x, x = W := ⟨_, rfl⟩
  subst hwr
  have HM1 := Lib.hid (fun (W1 : World) (h1 : Below wr.heap.size wr W1) (v1 : Value) (m1 : TwoV v1 W1) => show Calls Tryz.prog 15 #[v1, .int .i64 13, .agg #[.int .i64 3, .slice aC2 2 kC2, .slice aP2 2 kP2], .int .i64 1] W1 (fun e w' => e = .returned (.tuple #[.agg #[.int .i64 3, .int .i64 1, .int .i64 D1, .int .i64 E1, .int .i64 S1], .bool true, .int .i64 0]) ∧ Below W1.heap.size W1 w') from by
    obtain ⟨ra, rc, oa, oc, rfl, hr, ho⟩ := m1
    exact (cMake_any _ _ _ _ R36 O36 (D36 1 1) 13 1 W1 (HG.out _ (HB.out.trans (h1.mono HB.out.size))) hr ho (HC2.out.below h1) (HP2.out.below h1) (H64.out _ (by omega)) (H64.out _ (by omega))).mono fun e w' ⟨e1, h2⟩ => ⟨e1.trans (by rw [ex_mk2.1, ex_mk2.2.1, ex_mk2.2.2, HOC.out]; rfl), h2⟩)
  refine wp_region_flowsG (by kernel_rfl) (by kernel_rfl) (by kernel_rfl) (by kernel_rfl) (fun done v W => FCa3 wr (.agg #[.int .i64 3, .slice aC2 2 kC2, .slice aP2 2 kP2]) (bF2) (D1) (E1) (S1) done v W) (fun v => ?_) ?_ (fun v W h => ?_)
  · exact ⟨(Below.refl _ _).drew, (fun h => by cases h), (fun h => by cases h), (fun h => by cases h), (fun h => by cases h), (fun h => by cases h), (fun h => by cases h), (fun h => by cases h), (fun h => by cases h), (fun h => by cases h), CBox.nil _ _ _ _⟩
  · refine ⟨?_, ?_, ?_, ?_, ?_, ?_, ?_, ?_, ?_, ?_, ?_, trivial⟩
    · intro done v W A h hd hp hu hA hB hdf
      clear hA hB hp hu hdf
      go_simp
      with_reducible refine (HTW.out W).mono ?_
      rintro e wq ⟨u, rfl, hn, hb⟩
      exact ⟨_, rfl, { h with b := h.b.trans (hb.mono h.b.size), f0 := (fun _ _ => hn), bx := (h.bx.below hb) }⟩
    · intro done v W A h hd hp hu hA hB hdf
      have e0 : A.tmps[2]?.getD undef = .pointer (some ⟨bF2, 0, none⟩) := hB 2 rfl
      have y0_ := below_cell h.b q20
      have y1_ := below_cell h.b q21
      have y2_ := below_cell h.b q22
      clear hA hB hp hu hdf
      go_simp
      exact ⟨_, rfl, { h with f1 := (fun _ => rfl) }⟩
    · intro done v W A h hd hp hu hA hB hdf
      have hd0 : done 0 = true := hp 0 rfl
      have hd1 : done 1 = true := hp 1 rfl
      have e0 := hA 0 41 rfl hd0
      have m0 := h.f0 hd0 hd
      have e2 := (hA 1 42 rfl hd1).trans (h.f1 hd1)
      clear hA hB hp hu hdf
      go_simp
      with_reducible refine (HM1.out W h.b _ m0).mono ?_
      rintro e wq ⟨rfl, hb⟩
      exact ⟨_, rfl, { h with b := h.b.trans (hb.mono h.b.size), f0 := (fun _ h2 => absurd (show true = false from h2) (by decide)), f2 := (fun _ => rfl), bx := (h.bx.below hb) }⟩
    · intro done v W A h hd hp hu hA hB hdf
      have hd2 : done 2 = true := hp 2 rfl
      have e0 := (hA 2 43 rfl hd2).trans (h.f2 hd2)
      clear hA hB hp hu hdf
      go_simp
      exact ⟨_, rfl, { h with f3 := (fun _ => rfl) }⟩
    · intro done v W A h hd hp hu hA hB hdf
      have hd3 : done 3 = true := hp 3 rfl
      have e0 := (hA 3 40 rfl hd3).trans (h.f3 hd3)
      clear hA hB hp hu hdf
      go_simp
      exact ⟨_, rfl, { h with f4 := (fun _ => rfl) }⟩
    · intro done v W A h hd hp hu hA hB hdf
      have hd3 : done 3 = true := hp 3 rfl
      have e0 := (hA 3 40 rfl hd3).trans (h.f3 hd3)
      clear hA hB hp hu hdf
      go_simp
      exact ⟨_, rfl, { h with f5 := (fun _ => rfl) }⟩
    · intro done v W A h hd hp hu hA hB hdf
      have hd3 : done 3 = true := hp 3 rfl
      have e0 := (hA 3 40 rfl hd3).trans (h.f3 hd3)
      clear hA hB hp hu hdf
      go_simp
      exact ⟨_, rfl, { h with f6 := (fun _ => rfl) }⟩
    · intro done v W A h hd hp hu hA hB hdf
      have n8_7 : done 8 = false := flow_not (fun hj => hu 8 7 rfl (hj)) hd
      have hb := below_new W (cmpA cmp0) 34
      have hn := h.b.size
      clear hA hB hp hu hdf
      go_simp
      exact ⟨_, rfl, { h with b := h.b.trans (hb.mono h.b.size), f0 := (fun h1 h2 => (h.f0 h1 h2).below hb), bx := (h.bx.alloc n8_7 hn) }⟩
    · intro done v W A h hd hp hu hA hB hdf
      have hd2 : done 2 = true := hp 2 rfl
      have hd4 : done 4 = true := hp 4 rfl
      have hd7 : done 7 = true := hp 7 rfl
      obtain ⟨B, eB, hn0, -, hS⟩ := h.bx hd7
      simp only [hd, Bool.false_eq_true, if_false] at hS
      have e1 := (hA 7 6 rfl hd7).trans eB
      have e2 := (hA 4 44 rfl hd4).trans (h.f4 hd4)
      have u0 := row_cell hS (k := 0) (v := .int .i64 0) rfl
      have u1 := row_cell hS (k := 1) (v := .int .i64 0) rfl
      have u2 := row_cell hS (k := 2) (v := .int .i64 0) rfl
      have u3 := row_cell hS (k := 3) (v := .int .i64 0) rfl
      have u4 := row_cell hS (k := 4) (v := .int .i64 0) rfl
      have g0 := row_free hS 0
      have g1 := row_free hS 1
      have g2 := row_free hS 2
      have g3 := row_free hS 3
      have g4 := row_free hS 4
      clear hA hB hp hu hdf
      go_simp
      exact ⟨undef, { h with b := cmpW_below (C := B) (⟨3, 1, D1, E1, S1⟩ : Cmp) h.b hn0, f0 := (fun _ h2 => absurd (hd2.symm.trans h2) (by decide)), bx := (h.bx.store eB hd7 hS) }⟩
    · intro done v W A h hd hp hu hA hB hdf
      have hd5 : done 5 = true := hp 5 rfl
      have e0 := (hA 5 45 rfl hd5).trans (h.f5 hd5)
      clear hA hB hp hu hdf
      go_simp
      exact ⟨_, rfl, { h with f9 := (fun _ => rfl) }⟩
    · intro done v W A h hd hp hu hA hB hdf
      have hd6 : done 6 = true := hp 6 rfl
      have e0 := (hA 6 46 rfl hd6).trans (h.f6 hd6)
      clear hA hB hp hu hdf
      go_simp
      exact ⟨_, rfl, { h with f10 := (fun _ => rfl) }⟩
  simp only [putL, Act.put, Nat.reduceAdd, List.setIfInBounds_toArray, List.set_cons_zero, List.set_cons_succ]
  rw [h.f9 rfl]
  rw [h.f10 rfl]
  have hbr := h.b
  obtain ⟨bC, eX, -, -, hX⟩ := h.bx rfl
  have QC := Lib.hid (show W.heap[bC]? = some (.cells (cmpA ⟨3, 1, D1, E1, S1⟩) 34 (0, 0)) from hX)
  rw [eX]
  clear eX hX
  replace hpt := below_cell hbr hpt
  replace q10 := below_cell hbr q10
  replace q11 := below_cell hbr q11
  replace q12 := below_cell hbr q12
  replace q20 := below_cell hbr q20
  replace q21 := below_cell hbr q21
  replace q22 := below_cell hbr q22
  replace HC1 := Lib.hid (HC1.out.below hbr)
  replace HP1 := Lib.hid (HP1.out.below hbr)
  replace HC2 := Lib.hid (HC2.out.below hbr)
  replace HP2 := Lib.hid (HP2.out.below hbr)
  replace Q1 := Lib.hid ((hbr.block _ (row_lt Q1.out)).trans Q1.out)
  replace Q2 := Lib.hid ((hbr.block _ (row_lt Q2.out)).trans Q2.out)
  replace HB := Lib.hid (HB.out.trans (hbr.mono HB.out.size))
  clear h hbr HM1
  go_wp2_with fail
  obtain ⟨wr, hwr⟩ : ∃ x, x = W := ⟨_, rfl⟩
  subst hwr
  have HM1 := Lib.hid (fun (W1 : World) (h1 : Below wr.heap.size wr W1) (v1 : Value) (m1 : TwoV v1 W1) => show Calls Tryz.prog 15 #[v1, .int .i64 0, .agg #[.int .i64 3, .slice aC1 2 kC1, .slice (some ⟨pb, po, none⟩) 2 kP1], .int .i64 0] W1 (fun e w' => e = .returned (.tuple #[.agg #[.int .i64 0, .int .i64 0, .int .i64 0, .int .i64 0, .int .i64 0], .bool false, .int .i64 110]) ∧ Below W1.heap.size W1 w') from by
    obtain ⟨ra, rc, oa, oc, rfl, hr, ho⟩ := m1
    exact (cMake_any _ _ _ _ R36 O36 (D36 0 0) 0 0 W1 (HG.out _ (HB.out.trans (h1.mono HB.out.size))) hr ho (HC1.out.below h1) (HP1.out.below h1) (H64.out _ (by omega)) (H64.out _ (by omega))).mono fun e w' ⟨e1, h2⟩ => ⟨e1.trans (by rw [ex_mk3, mkC_no (mkB_not (by rw [ex_mk3]; decide)), mkB_not (by rw [ex_mk3]; decide)]; rfl), h2⟩)
  refine wp_region_flowsG (by kernel_rfl) (by kernel_rfl) (by kernel_rfl) (by kernel_rfl) (fun done v W => FCa4 wr (.agg #[.int .i64 3, .slice aC1 2 kC1, .slice (some ⟨pb, po, none⟩) 2 kP1]) (bF1) done v W) (fun v => ?_) ?_ (fun v W h => ?_)
  · exact ⟨(Below.refl _ _).drew, (fun h => by cases h), (fun h => by cases h), (fun h => by cases h), (fun h => by cases h), (fun h => by cases h), (fun h => by cases h), (fun h => by cases h), (fun h => by cases h), (fun h => by cases h), CBox.nil _ _ _ _⟩
  · refine ⟨?_, ?_, ?_, ?_, ?_, ?_, ?_, ?_, ?_, ?_, ?_, trivial⟩
    · intro done v W A h hd hp hu hA hB hdf
      clear hA hB hp hu hdf
      go_simp
      with_reducible refine (HTW.out W).mono ?_
      rintro e wq ⟨u, rfl, hn, hb⟩
      exact ⟨_, rfl, { h with b := h.b.trans (hb.mono h.b.size), f0 := (fun _ _ => hn), bx := (h.bx.below hb) }⟩
    · intro done v W A h hd hp hu hA hB hdf
      have e0 : A.tmps[1]?.getD undef = .pointer (some ⟨bF1, 0, none⟩) := hB 1 rfl
      have y0_ := below_cell h.b q10
      have y1_ := below_cell h.b q11
      have y2_ := below_cell h.b q12
      clear hA hB hp hu hdf
      go_simp
      exact ⟨_, rfl, { h with f1 := (fun _ => rfl) }⟩
    · intro done v W A h hd hp hu hA hB hdf
      have hd0 : done 0 = true := hp 0 rfl
      have hd1 : done 1 = true := hp 1 rfl
      have e0 := hA 0 48 rfl hd0
      have m0 := h.f0 hd0 hd
      have e2 := (hA 1 49 rfl hd1).trans (h.f1 hd1)
      clear hA hB hp hu hdf
      go_simp
      with_reducible refine (HM1.out W h.b _ m0).mono ?_
      rintro e wq ⟨rfl, hb⟩
      exact ⟨_, rfl, { h with b := h.b.trans (hb.mono h.b.size), f0 := (fun _ h2 => absurd (show true = false from h2) (by decide)), f2 := (fun _ => rfl), bx := (h.bx.below hb) }⟩
    · intro done v W A h hd hp hu hA hB hdf
      have hd2 : done 2 = true := hp 2 rfl
      have e0 := (hA 2 50 rfl hd2).trans (h.f2 hd2)
      clear hA hB hp hu hdf
      go_simp
      exact ⟨_, rfl, { h with f3 := (fun _ => rfl) }⟩
    · intro done v W A h hd hp hu hA hB hdf
      have hd3 : done 3 = true := hp 3 rfl
      have e0 := (hA 3 47 rfl hd3).trans (h.f3 hd3)
      clear hA hB hp hu hdf
      go_simp
      exact ⟨_, rfl, { h with f4 := (fun _ => rfl) }⟩
    · intro done v W A h hd hp hu hA hB hdf
      have hd3 : done 3 = true := hp 3 rfl
      have e0 := (hA 3 47 rfl hd3).trans (h.f3 hd3)
      clear hA hB hp hu hdf
      go_simp
      exact ⟨_, rfl, { h with f5 := (fun _ => rfl) }⟩
    · intro done v W A h hd hp hu hA hB hdf
      have hd3 : done 3 = true := hp 3 rfl
      have e0 := (hA 3 47 rfl hd3).trans (h.f3 hd3)
      clear hA hB hp hu hdf
      go_simp
      exact ⟨_, rfl, { h with f6 := (fun _ => rfl) }⟩
    · intro done v W A h hd hp hu hA hB hdf
      have n8_7 : done 8 = false := flow_not (fun hj => hu 8 7 rfl (hj)) hd
      have hb := below_new W (cmpA cmp0) 34
      have hn := h.b.size
      clear hA hB hp hu hdf
      go_simp
      exact ⟨_, rfl, { h with b := h.b.trans (hb.mono h.b.size), f0 := (fun h1 h2 => (h.f0 h1 h2).below hb), bx := (h.bx.alloc n8_7 hn) }⟩
    · intro done v W A h hd hp hu hA hB hdf
      have hd2 : done 2 = true := hp 2 rfl
      have hd4 : done 4 = true := hp 4 rfl
      have hd7 : done 7 = true := hp 7 rfl
      obtain ⟨B, eB, hn0, -, hS⟩ := h.bx hd7
      simp only [hd, Bool.false_eq_true, if_false] at hS
      have e1 := (hA 7 9 rfl hd7).trans eB
      have e2 := (hA 4 51 rfl hd4).trans (h.f4 hd4)
      have u0 := row_cell hS (k := 0) (v := .int .i64 0) rfl
      have u1 := row_cell hS (k := 1) (v := .int .i64 0) rfl
      have u2 := row_cell hS (k := 2) (v := .int .i64 0) rfl
      have u3 := row_cell hS (k := 3) (v := .int .i64 0) rfl
      have u4 := row_cell hS (k := 4) (v := .int .i64 0) rfl
      have g0 := row_free hS 0
      have g1 := row_free hS 1
      have g2 := row_free hS 2
      have g3 := row_free hS 3
      have g4 := row_free hS 4
      clear hA hB hp hu hdf
      go_simp
      exact ⟨undef, { h with b := cmpW_below (C := B) (cmp0 : Cmp) h.b hn0, f0 := (fun _ h2 => absurd (hd2.symm.trans h2) (by decide)), bx := (h.bx.store eB hd7 hS) }⟩
    · intro done v W A h hd hp hu hA hB hdf
      have hd5 : done 5 = true := hp 5 rfl
      have e0 := (hA 5 52 rfl hd5).trans (h.f5 hd5)
      clear hA hB hp hu hdf
      go_simp
      exact ⟨_, rfl, { h with f9 := (fun _ => rfl) }⟩
    · intro done v W A h hd hp hu hA hB hdf
      have hd6 : done 6 = true := hp 6 rfl
      have e0 := (hA 6 53 rfl hd6).trans (h.f6 hd6)
      clear hA hB hp hu hdf
      go_simp
      exact ⟨_, rfl, { h with f10 := (fun _ => rfl) }⟩
  simp only [putL, Act.put, Nat.reduceAdd, List.setIfInBounds_toArray, List.set_cons_zero, List.set_cons_succ]
  rw [h.f9 rfl]
  rw [h.f10 rfl]
  have hbr := h.b
  replace hpt := below_cell hbr hpt
  replace q10 := below_cell hbr q10
  replace q11 := below_cell hbr q11
  replace q12 := below_cell hbr q12
  replace q20 := below_cell hbr q20
  replace q21 := below_cell hbr q21
  replace q22 := below_cell hbr q22
  replace HC1 := Lib.hid (HC1.out.below hbr)
  replace HP1 := Lib.hid (HP1.out.below hbr)
  replace HC2 := Lib.hid (HC2.out.below hbr)
  replace HP2 := Lib.hid (HP2.out.below hbr)
  replace Q1 := Lib.hid ((hbr.block _ (row_lt Q1.out)).trans Q1.out)
  replace Q2 := Lib.hid ((hbr.block _ (row_lt Q2.out)).trans Q2.out)
  replace QC := Lib.hid ((hbr.block _ (row_lt QC.out)).trans QC.out)
  replace HB := Lib.hid (HB.out.trans (hbr.mono HB.out.size))
  clear h hbr HM1
  go_wp2_with fail
  obtain ⟨wr, hwr⟩ : ∃ x, x = W := ⟨_, rfl⟩
  subst hwr
  have HM1 := Lib.hid (fun (W1 : World) (h1 : Below wr.heap.size wr W1) (v1 : Value) (m1 : TwoV v1 W1) => show Calls Tryz.prog 15 #[v1, .int .i64 1, .agg #[.int .i64 3, .slice aC1 2 kC1, .slice (some ⟨pb, po, none⟩) 2 kP1], .int .i64 2] W1 (fun e w' => e = .returned (.tuple #[.agg #[.int .i64 0, .int .i64 0, .int .i64 0, .int .i64 0, .int .i64 0], .bool false, .int .i64 1]) ∧ Below W1.heap.size W1 w') from by
    obtain ⟨ra, rc, oa, oc, rfl, hr, ho⟩ := m1
    exact (cMake_any _ _ _ _ R36 O36 (D36 0 0) 1 2 W1 (HG.out _ (HB.out.trans (h1.mono HB.out.size))) hr ho (HC1.out.below h1) (HP1.out.below h1) (H64.out _ (by omega)) (H64.out _ (by omega))).mono fun e w' ⟨e1, h2⟩ => ⟨e1.trans (by rw [ex_mk4, mkC_no (mkB_not (by rw [ex_mk4]; decide)), mkB_not (by rw [ex_mk4]; decide)]; rfl), h2⟩)
  refine wp_region_flowsG (by kernel_rfl) (by kernel_rfl) (by kernel_rfl) (by kernel_rfl) (fun done v W => FCa5 wr (.agg #[.int .i64 3, .slice aC1 2 kC1, .slice (some ⟨pb, po, none⟩) 2 kP1]) (bF1) done v W) (fun v => ?_) ?_ (fun v W h => ?_)
  · exact ⟨(Below.refl _ _).drew, (fun h => by cases h), (fun h => by cases h), (fun h => by cases h), (fun h => by cases h), (fun h => by cases h), (fun h => by cases h), (fun h => by cases h), (fun h => by cases h), (fun h => by cases h), CBox.nil _ _ _ _⟩
  · refine ⟨?_, ?_, ?_, ?_, ?_, ?_, ?_, ?_, ?_, ?_, ?_, trivial⟩
    · intro done v W A h hd hp hu hA hB hdf
      clear hA hB hp hu hdf
      go_simp
      with_reducible refine (HTW.out W).mono ?_
      rintro e wq ⟨u, rfl, hn, hb⟩
      exact ⟨_, rfl, { h with b := h.b.trans (hb.mono h.b.size), f0 := (fun _ _ => hn), bx := (h.bx.below hb) }⟩
    · intro done v W A h hd hp hu hA hB hdf
      have e0 : A.tmps[1]?.getD undef = .pointer (some ⟨bF1, 0, none⟩) := hB 1 rfl
      have y0_ := below_cell h.b q10
      have y1_ := below_cell h.b q11
      have y2_ := below_cell h.b q12
      clear hA hB hp hu hdf
      go_simp
      exact ⟨_, rfl, { h with f1 := (fun _ => rfl) }⟩
    · intro done v W A h hd hp hu hA hB hdf
      have hd0 : done 0 = true := hp 0 rfl
      have hd1 : done 1 = true := hp 1 rfl
      have e0 := hA 0 55 rfl hd0
      have m0 := h.f0 hd0 hd
      have e2 := (hA 1 56 rfl hd1).trans (h.f1 hd1)
      clear hA hB hp hu hdf
      go_simp
      with_reducible refine (HM1.out W h.b _ m0).mono ?_
      rintro e wq ⟨rfl, hb⟩
      exact ⟨_, rfl, { h with b := h.b.trans (hb.mono h.b.size), f0 := (fun _ h2 => absurd (show true = false from h2) (by decide)), f2 := (fun _ => rfl), bx := (h.bx.below hb) }⟩
    · intro done v W A h hd hp hu hA hB hdf
      have hd2 : done 2 = true := hp 2 rfl
      have e0 := (hA 2 57 rfl hd2).trans (h.f2 hd2)
      clear hA hB hp hu hdf
      go_simp
      exact ⟨_, rfl, { h with f3 := (fun _ => rfl) }⟩
    · intro done v W A h hd hp hu hA hB hdf
      have hd3 : done 3 = true := hp 3 rfl
      have e0 := (hA 3 54 rfl hd3).trans (h.f3 hd3)
      clear hA hB hp hu hdf
      go_simp
      exact ⟨_, rfl, { h with f4 := (fun _ => rfl) }⟩
    · intro done v W A h hd hp hu hA hB hdf
      have hd3 : done 3 = true := hp 3 rfl
      have e0 := (hA 3 54 rfl hd3).trans (h.f3 hd3)
      clear hA hB hp hu hdf
      go_simp
      exact ⟨_, rfl, { h with f5 := (fun _ => rfl) }⟩
    · intro done v W A h hd hp hu hA hB hdf
      have hd3 : done 3 = true := hp 3 rfl
      have e0 := (hA 3 54 rfl hd3).trans (h.f3 hd3)
      clear hA hB hp hu hdf
      go_simp
      exact ⟨_, rfl, { h with f6 := (fun _ => rfl) }⟩
    · intro done v W A h hd hp hu hA hB hdf
      have n8_7 : done 8 = false := flow_not (fun hj => hu 8 7 rfl (hj)) hd
      have hb := below_new W (cmpA cmp0) 34
      have hn := h.b.size
      clear hA hB hp hu hdf
      go_simp
      exact ⟨_, rfl, { h with b := h.b.trans (hb.mono h.b.size), f0 := (fun h1 h2 => (h.f0 h1 h2).below hb), bx := (h.bx.alloc n8_7 hn) }⟩
    · intro done v W A h hd hp hu hA hB hdf
      have hd2 : done 2 = true := hp 2 rfl
      have hd4 : done 4 = true := hp 4 rfl
      have hd7 : done 7 = true := hp 7 rfl
      obtain ⟨B, eB, hn0, -, hS⟩ := h.bx hd7
      simp only [hd, Bool.false_eq_true, if_false] at hS
      have e1 := (hA 7 12 rfl hd7).trans eB
      have e2 := (hA 4 58 rfl hd4).trans (h.f4 hd4)
      have u0 := row_cell hS (k := 0) (v := .int .i64 0) rfl
      have u1 := row_cell hS (k := 1) (v := .int .i64 0) rfl
      have u2 := row_cell hS (k := 2) (v := .int .i64 0) rfl
      have u3 := row_cell hS (k := 3) (v := .int .i64 0) rfl
      have u4 := row_cell hS (k := 4) (v := .int .i64 0) rfl
      have g0 := row_free hS 0
      have g1 := row_free hS 1
      have g2 := row_free hS 2
      have g3 := row_free hS 3
      have g4 := row_free hS 4
      clear hA hB hp hu hdf
      go_simp
      exact ⟨undef, { h with b := cmpW_below (C := B) (cmp0 : Cmp) h.b hn0, f0 := (fun _ h2 => absurd (hd2.symm.trans h2) (by decide)), bx := (h.bx.store eB hd7 hS) }⟩
    · intro done v W A h hd hp hu hA hB hdf
      have hd5 : done 5 = true := hp 5 rfl
      have e0 := (hA 5 59 rfl hd5).trans (h.f5 hd5)
      clear hA hB hp hu hdf
      go_simp
      exact ⟨_, rfl, { h with f9 := (fun _ => rfl) }⟩
    · intro done v W A h hd hp hu hA hB hdf
      have hd6 : done 6 = true := hp 6 rfl
      have e0 := (hA 6 60 rfl hd6).trans (h.f6 hd6)
      clear hA hB hp hu hdf
      go_simp
      exact ⟨_, rfl, { h with f10 := (fun _ => rfl) }⟩
  simp only [putL, Act.put, Nat.reduceAdd, List.setIfInBounds_toArray, List.set_cons_zero, List.set_cons_succ]
  rw [h.f9 rfl]
  rw [h.f10 rfl]
  have hbr := h.b
  replace hpt := below_cell hbr hpt
  replace q10 := below_cell hbr q10
  replace q11 := below_cell hbr q11
  replace q12 := below_cell hbr q12
  replace q20 := below_cell hbr q20
  replace q21 := below_cell hbr q21
  replace q22 := below_cell hbr q22
  replace HC1 := Lib.hid (HC1.out.below hbr)
  replace HP1 := Lib.hid (HP1.out.below hbr)
  replace HC2 := Lib.hid (HC2.out.below hbr)
  replace HP2 := Lib.hid (HP2.out.below hbr)
  replace Q1 := Lib.hid ((hbr.block _ (row_lt Q1.out)).trans Q1.out)
  replace Q2 := Lib.hid ((hbr.block _ (row_lt Q2.out)).trans Q2.out)
  replace QC := Lib.hid ((hbr.block _ (row_lt QC.out)).trans QC.out)
  replace HB := Lib.hid (HB.out.trans (hbr.mono HB.out.size))
  clear h hbr HM1
  go_wp2_with fail
  with_reducible refine (HTW.out _).mono ?_
  rintro e w6 ⟨u6, rfl, ⟨ra, rc, oa, oc, rfl, hr, ho⟩, hb6⟩
  replace hpt := below_cell hb6 hpt
  replace q10 := below_cell hb6 q10
  replace q11 := below_cell hb6 q11
  replace q12 := below_cell hb6 q12
  replace q20 := below_cell hb6 q20
  replace q21 := below_cell hb6 q21
  replace q22 := below_cell hb6 q22
  replace HC1 := Lib.hid (HC1.out.below hb6)
  replace HP1 := Lib.hid (HP1.out.below hb6)
  replace HC2 := Lib.hid (HC2.out.below hb6)
  replace HP2 := Lib.hid (HP2.out.below hb6)
  replace Q1 := Lib.hid ((hb6.block _ (row_lt Q1.out)).trans Q1.out)
  replace Q2 := Lib.hid ((hb6.block _ (row_lt Q2.out)).trans Q2.out)
  replace QC := Lib.hid ((hb6.block _ (row_lt QC.out)).trans QC.out)
  replace HB := Lib.hid (HB.out.trans (hb6.mono HB.out.size))
  clear hb6
  go_wp2_with fail
  with_reducible refine (cMake_any _ _ (.slice none 0 0) (.slice none 0 0) R36 O36 ⟨0, [], []⟩ 0 0 _ (HG.out _ HB.out) hr ho (Ints.nil _ _ _) (Parcels.nil _ _ _) (H64.out _ (by omega)) (H64.out _ (by omega))).mono ?_
  rintro e w7 ⟨rfl, hb7⟩
  replace hpt := below_cell hb7 hpt
  replace q10 := below_cell hb7 q10
  replace q11 := below_cell hb7 q11
  replace q12 := below_cell hb7 q12
  replace q20 := below_cell hb7 q20
  replace q21 := below_cell hb7 q21
  replace q22 := below_cell hb7 q22
  replace HC1 := Lib.hid (HC1.out.below hb7)
  replace HP1 := Lib.hid (HP1.out.below hb7)
  replace HC2 := Lib.hid (HC2.out.below hb7)
  replace HP2 := Lib.hid (HP2.out.below hb7)
  replace Q1 := Lib.hid ((hb7.block _ (row_lt Q1.out)).trans Q1.out)
  replace Q2 := Lib.hid ((hb7.block _ (row_lt Q2.out)).trans Q2.out)
  replace QC := Lib.hid ((hb7.block _ (row_lt QC.out)).trans QC.out)
  replace HB := Lib.hid (HB.out.trans (hb7.mono HB.out.size))
  clear hb7
  rw [ex_mk5, mkC_no (mkB_not (by rw [ex_mk5]; decide)), mkB_not (by rw [ex_mk5]; decide)]
  clear hr ho
  unfold cmpV cmpA cmp0
  go_wp2_with fail
  obtain ⟨W8, hW8⟩ : ∃ W, W = w7.alloc (.cells #[.int .i64 0, .int .i64 0, .int .i64 0, .int .i64 0, .int .i64 0] 34) := ⟨_, rfl⟩
  rw [← hW8]
  have hb8 : Below w7.heap.size w7 W8 := by rw [hW8]; exact below_new _ _ _
  clear hW8
  replace hpt := below_cell hb8 hpt
  replace q10 := below_cell hb8 q10
  replace q11 := below_cell hb8 q11
  replace q12 := below_cell hb8 q12
  replace q20 := below_cell hb8 q20
  replace q21 := below_cell hb8 q21
  replace q22 := below_cell hb8 q22
  replace HC1 := Lib.hid (HC1.out.below hb8)
  replace HP1 := Lib.hid (HP1.out.below hb8)
  replace HC2 := Lib.hid (HC2.out.below hb8)
  replace HP2 := Lib.hid (HP2.out.below hb8)
  replace Q1 := Lib.hid ((hb8.block _ (row_lt Q1.out)).trans Q1.out)
  replace Q2 := Lib.hid ((hb8.block _ (row_lt Q2.out)).trans Q2.out)
  replace QC := Lib.hid ((hb8.block _ (row_lt QC.out)).trans QC.out)
  replace HB := Lib.hid (HB.out.trans (hb8.mono HB.out.size))
  clear hb8
  with_reducible refine (pow_yes 4 13 _ el_four (H64.out _ (by omega))).mono ?_
  rintro e w9 ⟨rfl, hb9⟩
  replace hpt := below_cell hb9 hpt
  replace q10 := below_cell hb9 q10
  replace q11 := below_cell hb9 q11
  replace q12 := below_cell hb9 q12
  replace q20 := below_cell hb9 q20
  replace q21 := below_cell hb9 q21
  replace q22 := below_cell hb9 q22
  replace HC1 := Lib.hid (HC1.out.below hb9)
  replace HP1 := Lib.hid (HP1.out.below hb9)
  replace HC2 := Lib.hid (HC2.out.below hb9)
  replace HP2 := Lib.hid (HP2.out.below hb9)
  replace Q1 := Lib.hid ((hb9.block _ (row_lt Q1.out)).trans Q1.out)
  replace Q2 := Lib.hid ((hb9.block _ (row_lt Q2.out)).trans Q2.out)
  replace QC := Lib.hid ((hb9.block _ (row_lt QC.out)).trans QC.out)
  replace HB := Lib.hid (HB.out.trans (hb9.mono HB.out.size))
  clear hb9
  obtain ⟨kk, hkk⟩ : ∃ x, x = powE 4 13 := ⟨_, rfl⟩
  rw [← hkk]
  have HKK := Lib.hid hkk
  clear hkk
  go_wp2_with fail
  have x0 := row_cell QC.out (k := 0) (v := .int .i64 3) rfl
  have x1 := row_cell QC.out (k := 1) (v := .int .i64 1) rfl
  have x2 := row_cell QC.out (k := 2) (v := .int .i64 D1) rfl
  have x3 := row_cell QC.out (k := 3) (v := .int .i64 E1) rfl
  have x4 := row_cell QC.out (k := 4) (v := .int .i64 S1) rfl
  obtain ⟨wr, hwr⟩ : ∃ x, x = w9 := ⟨_, rfl⟩
  subst hwr
  have HM1 := Lib.hid (fun (W1 : World) (h1 : Below wr.heap.size wr W1) (v1 : Value) (m1 : TwoV v1 W1) => show Calls Tryz.prog 17 #[v1, .int .i64 kk, .agg #[.int .i64 3, .slice aC2 2 kC2, .slice aP2 2 kP2], .agg #[.int .i64 3, .int .i64 1, .int .i64 D1, .int .i64 E1, .int .i64 S1]] W1 (fun e w' => e = .returned (.tuple #[.int .i64 1, .int .i64 0]) ∧ Below W1.heap.size W1 w') from by
    obtain ⟨ra, rc, oa, oc, rfl, hr, ho⟩ := m1
    exact (cSettle_any _ _ _ _ R36 O36 (D36 1 1) ⟨3, 1, D1, E1, S1⟩ kk W1 (HG.out _ (HB.out.trans (h1.mono HB.out.size))) hr ho (HC2.out.below h1) (HP2.out.below h1) (by rw [HKK.out]; exact (el_powE el_four _).r64) HCR.out).mono fun e w' ⟨e1, h2⟩ => ⟨e1.trans (by rw [HKK.out, ← HOC.out, ex_st1.1, ex_st1.2]), h2⟩)
  refine wp_region_flowsG (by kernel_rfl) (by kernel_rfl) (by kernel_rfl) (by kernel_rfl) (fun done v W => FCa8 wr (.agg #[.int .i64 3, .slice aC2 2 kC2, .slice aP2 2 kP2]) (bF2) (kk) (bC) (D1) (E1) (S1) done v W) (fun v => ?_) ?_ (fun v W h => ?_)
  · exact ⟨(Below.refl _ _).drew, (fun h => by cases h), (fun h => by cases h), (fun h => by cases h), (fun h => by cases h), (fun h => by cases h), (fun h => by cases h), (fun h => by cases h), (fun h => by cases h), (fun h => by cases h), (fun h => by cases h)⟩
  · refine ⟨?_, ?_, ?_, ?_, ?_, ?_, ?_, ?_, ?_, ?_, trivial⟩
    · intro done v W A h hd hp hu hA hB hdf
      clear hA hB hp hu hdf
      go_simp
      with_reducible refine (HTW.out W).mono ?_
      rintro e wq ⟨u, rfl, hn, hb⟩
      exact ⟨_, rfl, { h with b := h.b.trans (hb.mono h.b.size), f0 := (fun _ _ => hn) }⟩
    · intro done v W A h hd hp hu hA hB hdf
      have e0 : A.tmps[18]?.getD undef = .int .i64 kk := hB 18 rfl
      clear hA hB hp hu hdf
      go_simp
      exact ⟨_, rfl, { h with f1 := (fun _ => rfl) }⟩
    · intro done v W A h hd hp hu hA hB hdf
      have e0 : A.tmps[2]?.getD undef = .pointer (some ⟨bF2, 0, none⟩) := hB 2 rfl
      have y0_ := below_cell h.b q20
      have y1_ := below_cell h.b q21
      have y2_ := below_cell h.b q22
      clear hA hB hp hu hdf
      go_simp
      exact ⟨_, rfl, { h with f2 := (fun _ => rfl) }⟩
    · intro done v W A h hd hp hu hA hB hdf
      have e0 : A.tmps[6]?.getD undef = .pointer (some ⟨bC, 0, none⟩) := hB 6 rfl
      have y0_ := below_cell h.b x0
      have y1_ := below_cell h.b x1
      have y2_ := below_cell h.b x2
      have y3_ := below_cell h.b x3
      have y4_ := below_cell h.b x4
      clear hA hB hp hu hdf
      go_simp
      exact ⟨_, rfl, { h with f3 := (fun _ => rfl) }⟩
    · intro done v W A h hd hp hu hA hB hdf
      have hd0 : done 0 = true := hp 0 rfl
      have hd1 : done 1 = true := hp 1 rfl
      have hd2 : done 2 = true := hp 2 rfl
      have hd3 : done 3 = true := hp 3 rfl
      have e0 := hA 0 73 rfl hd0
      have m0 := h.f0 hd0 hd
      have e1 := (hA 1 74 rfl hd1).trans (h.f1 hd1)
      have e2 := (hA 2 75 rfl hd2).trans (h.f2 hd2)
      have e3 := (hA 3 76 rfl hd3).trans (h.f3 hd3)
      clear hA hB hp hu hdf
      go_simp
      with_reducible refine (HM1.out W h.b _ m0).mono ?_
      rintro e wq ⟨rfl, hb⟩
      exact ⟨_, rfl, { h with b := h.b.trans (hb.mono h.b.size), f0 := (fun _ h2 => absurd (show true = false from h2) (by decide)), f4 := (fun _ => rfl) }⟩
    · intro done v W A h hd hp hu hA hB hdf
      have hd4 : done 4 = true := hp 4 rfl
      have e0 := (hA 4 77 rfl hd4).trans (h.f4 hd4)
      clear hA hB hp hu hdf
      go_simp
      exact ⟨_, rfl, { h with f5 := (fun _ => rfl) }⟩
    · intro done v W A h hd hp hu hA hB hdf
      have hd5 : done 5 = true := hp 5 rfl
      have e0 := (hA 5 72 rfl hd5).trans (h.f5 hd5)
      clear hA hB hp hu hdf
      go_simp
      exact ⟨_, rfl, { h with f6 := (fun _ => rfl) }⟩
    · intro done v W A h hd hp hu hA hB hdf
      have hd5 : done 5 = true := hp 5 rfl
      have e0 := (hA 5 72 rfl hd5).trans (h.f5 hd5)
      clear hA hB hp hu hdf
      go_simp
      exact ⟨_, rfl, { h with f7 := (fun _ => rfl) }⟩
    · intro done v W A h hd hp hu hA hB hdf
      have hd6 : done 6 = true := hp 6 rfl
      have e0 := (hA 6 78 rfl hd6).trans (h.f6 hd6)
      clear hA hB hp hu hdf
      go_simp
      exact ⟨_, rfl, { h with f8 := (fun _ => rfl) }⟩
    · intro done v W A h hd hp hu hA hB hdf
      have hd7 : done 7 = true := hp 7 rfl
      have e0 := (hA 7 79 rfl hd7).trans (h.f7 hd7)
      clear hA hB hp hu hdf
      go_simp
      exact ⟨_, rfl, { h with f9 := (fun _ => rfl) }⟩
  simp only [putL, Act.put, Nat.reduceAdd, List.setIfInBounds_toArray, List.set_cons_zero, List.set_cons_succ]
  rw [h.f8 rfl]
  rw [h.f9 rfl]
  have hbr := h.b
  replace hpt := below_cell hbr hpt
  replace q10 := below_cell hbr q10
  replace q11 := below_cell hbr q11
  replace q12 := below_cell hbr q12
  replace q20 := below_cell hbr q20
  replace q21 := below_cell hbr q21
  replace q22 := below_cell hbr q22
  replace x0 := below_cell hbr x0
  replace x1 := below_cell hbr x1
  replace x2 := below_cell hbr x2
  replace x3 := below_cell hbr x3
  replace x4 := below_cell hbr x4
  replace HC1 := Lib.hid (HC1.out.below hbr)
  replace HP1 := Lib.hid (HP1.out.below hbr)
  replace HC2 := Lib.hid (HC2.out.below hbr)
  replace HP2 := Lib.hid (HP2.out.below hbr)
  replace Q1 := Lib.hid ((hbr.block _ (row_lt Q1.out)).trans Q1.out)
  replace Q2 := Lib.hid ((hbr.block _ (row_lt Q2.out)).trans Q2.out)
  replace QC := Lib.hid ((hbr.block _ (row_lt QC.out)).trans QC.out)
  replace HB := Lib.hid (HB.out.trans (hbr.mono HB.out.size))
  clear h hbr HM1
  go_wp2_with fail
  with_reducible refine (prove_yes 13 pt _ (by omega) (by omega) HEL.out (HG.out _ HB.out)).mono ?_
  rintro e w11 ⟨rfl, hb11⟩
  replace hpt := below_cell hb11 hpt
  replace q10 := below_cell hb11 q10
  replace q11 := below_cell hb11 q11
  replace q12 := below_cell hb11 q12
  replace q20 := below_cell hb11 q20
  replace q21 := below_cell hb11 q21
  replace q22 := below_cell hb11 q22
  replace x0 := below_cell hb11 x0
  replace x1 := below_cell hb11 x1
  replace x2 := below_cell hb11 x2
  replace x3 := below_cell hb11 x3
  replace x4 := below_cell hb11 x4
  replace HC1 := Lib.hid (HC1.out.below hb11)
  replace HP1 := Lib.hid (HP1.out.below hb11)
  replace HC2 := Lib.hid (HC2.out.below hb11)
  replace HP2 := Lib.hid (HP2.out.below hb11)
  replace Q1 := Lib.hid ((hb11.block _ (row_lt Q1.out)).trans Q1.out)
  replace Q2 := Lib.hid ((hb11.block _ (row_lt Q2.out)).trans Q2.out)
  replace QC := Lib.hid ((hb11.block _ (row_lt QC.out)).trans QC.out)
  replace HB := Lib.hid (HB.out.trans (hb11.mono HB.out.size))
  clear hb11
  rw [HPR.out.1, HPR.out.2.1, HPR.out.2.2]
  clear HPR
  go_wp2_with fail
  obtain ⟨W12, hW12⟩ : ∃ W, W = w11.alloc (.cells #[.int .i64 E1, .int .i64 S1] 32) := ⟨_, rfl⟩
  rw [← hW12]
  have hb12 : Below w11.heap.size w11 W12 := by rw [hW12]; exact below_new _ _ _
  have QE : Hid (W12.heap[w11.heap.size]? = some (.cells #[.int .i64 E1, .int .i64 S1] 32 (0, 0))) := Lib.hid (by rw [hW12]; exact World.alloc_heap_new _ _)
  clear hW12
  replace hpt := below_cell hb12 hpt
  replace q10 := below_cell hb12 q10
  replace q11 := below_cell hb12 q11
  replace q12 := below_cell hb12 q12
  replace q20 := below_cell hb12 q20
  replace q21 := below_cell hb12 q21
  replace q22 := below_cell hb12 q22
  replace x0 := below_cell hb12 x0
  replace x1 := below_cell hb12 x1
  replace x2 := below_cell hb12 x2
  replace x3 := below_cell hb12 x3
  replace x4 := below_cell hb12 x4
  replace HC1 := Lib.hid (HC1.out.below hb12)
  replace HP1 := Lib.hid (HP1.out.below hb12)
  replace HC2 := Lib.hid (HC2.out.below hb12)
  replace HP2 := Lib.hid (HP2.out.below hb12)
  replace Q1 := Lib.hid ((hb12.block _ (row_lt Q1.out)).trans Q1.out)
  replace Q2 := Lib.hid ((hb12.block _ (row_lt Q2.out)).trans Q2.out)
  replace QC := Lib.hid ((hb12.block _ (row_lt QC.out)).trans QC.out)
  replace HB := Lib.hid (HB.out.trans (hb12.mono HB.out.size))
  clear hb12
  obtain ⟨bE, hbE⟩ : ∃ b, b = w11.heap.size := ⟨_, rfl⟩
  rw [← hbE] at QE ⊢
  clear hbE
  have xe0 := row_cell QE.out (k := 0) (v := .int .i64 E1) rfl
  have xe1 := row_cell QE.out (k := 1) (v := .int .i64 S1) rfl
  obtain ⟨wr, hwr⟩ : ∃ x, x = W12 := ⟨_, rfl⟩
  subst hwr
  have HM1 := Lib.hid (fun (W1 : World) (h1 : Below wr.heap.size wr W1) (v1 : Value) (m1 : TwoV v1 W1) => show Calls Tryz.prog 17 #[v1, .int .i64 kk, .agg #[.int .i64 3, .slice aC1 2 kC1, .slice (some ⟨pb, po, none⟩) 2 kP1], .agg #[.int .i64 3, .int .i64 1, .int .i64 D1, .int .i64 E1, .int .i64 S1]] W1 (fun e w' => e = .returned (.tuple #[.int .i64 2, .int .i64 0]) ∧ Below W1.heap.size W1 w') from by
    obtain ⟨ra, rc, oa, oc, rfl, hr, ho⟩ := m1
    exact (cSettle_any _ _ _ _ R36 O36 (D36 0 0) ⟨3, 1, D1, E1, S1⟩ kk W1 (HG.out _ (HB.out.trans (h1.mono HB.out.size))) hr ho (HC1.out.below h1) (HP1.out.below h1) (by rw [HKK.out]; exact (el_powE el_four _).r64) HCR.out).mono fun e w' ⟨e1, h2⟩ => ⟨e1.trans (by rw [HKK.out, ← HOC.out, ex_st2.1, ex_st2.2]), h2⟩)
  refine wp_region_flowsG (by kernel_rfl) (by kernel_rfl) (by kernel_rfl) (by kernel_rfl) (fun done v W => FCa12 wr (.agg #[.int .i64 3, .slice aC1 2 kC1, .slice (some ⟨pb, po, none⟩) 2 kP1]) (bF1) (kk) (bE) (D1) (E1) (S1) done v W) (fun v => ?_) ?_ (fun v W h => ?_)
  · exact ⟨(Below.refl _ _).drew, (fun h => by cases h), (fun h => by cases h), (fun h => by cases h), (fun h => by cases h), (fun h => by cases h), (fun h => by cases h), (fun h => by cases h), (fun h => by cases h), (fun h => by cases h), (fun h => by cases h), (fun h => by cases h), (fun h => by cases h)⟩
  · refine ⟨?_, ?_, ?_, ?_, ?_, ?_, ?_, ?_, ?_, ?_, ?_, ?_, trivial⟩
    · intro done v W A h hd hp hu hA hB hdf
      clear hA hB hp hu hdf
      go_simp
      with_reducible refine (HTW.out W).mono ?_
      rintro e wq ⟨u, rfl, hn, hb⟩
      exact ⟨_, rfl, { h with b := h.b.trans (hb.mono h.b.size), f0 := (fun _ _ => hn) }⟩
    · intro done v W A h hd hp hu hA hB hdf
      have e0 : A.tmps[18]?.getD undef = .int .i64 kk := hB 18 rfl
      clear hA hB hp hu hdf
      go_simp
      exact ⟨_, rfl, { h with f1 := (fun _ => rfl) }⟩
    · intro done v W A h hd hp hu hA hB hdf
      have e0 : A.tmps[1]?.getD undef = .pointer (some ⟨bF1, 0, none⟩) := hB 1 rfl
      have y0_ := below_cell h.b q10
      have y1_ := below_cell h.b q11
      have y2_ := below_cell h.b q12
      clear hA hB hp hu hdf
      go_simp
      exact ⟨_, rfl, { h with f2 := (fun _ => rfl) }⟩
    · intro done v W A h hd hp hu hA hB hdf
      have e0 : A.tmps[22]?.getD undef = .int .i64 D1 := hB 22 rfl
      clear hA hB hp hu hdf
      go_simp
      exact ⟨_, rfl, { h with f3 := (fun _ => rfl) }⟩
    · intro done v W A h hd hp hu hA hB hdf
      have e0 : A.tmps[23]?.getD undef = .pointer (some ⟨bE, 0, none⟩) := hB 23 rfl
      have y0_ := below_cell h.b xe0
      have y1_ := below_cell h.b xe1
      clear hA hB hp hu hdf
      go_simp
      exact ⟨_, rfl, { h with f4 := (fun _ => rfl) }⟩
    · intro done v W A h hd hp hu hA hB hdf
      have hd3 : done 3 = true := hp 3 rfl
      have hd4 : done 4 = true := hp 4 rfl
      have e2 := (hA 3 147 rfl hd3).trans (h.f3 hd3)
      have e3 := (hA 4 148 rfl hd4).trans (h.f4 hd4)
      clear hA hB hp hu hdf
      go_simp
      exact ⟨_, rfl, { h with f5 := (fun _ => rfl) }⟩
    · intro done v W A h hd hp hu hA hB hdf
      have hd0 : done 0 = true := hp 0 rfl
      have hd1 : done 1 = true := hp 1 rfl
      have hd2 : done 2 = true := hp 2 rfl
      have hd5 : done 5 = true := hp 5 rfl
      have e0 := hA 0 144 rfl hd0
      have m0 := h.f0 hd0 hd
      have e1 := (hA 1 145 rfl hd1).trans (h.f1 hd1)
      have e2 := (hA 2 146 rfl hd2).trans (h.f2 hd2)
      have e3 := (hA 5 149 rfl hd5).trans (h.f5 hd5)
      clear hA hB hp hu hdf
      go_simp
      with_reducible refine (HM1.out W h.b _ m0).mono ?_
      rintro e wq ⟨rfl, hb⟩
      exact ⟨_, rfl, { h with b := h.b.trans (hb.mono h.b.size), f0 := (fun _ h2 => absurd (show true = false from h2) (by decide)), f6 := (fun _ => rfl) }⟩
    · intro done v W A h hd hp hu hA hB hdf
      have hd6 : done 6 = true := hp 6 rfl
      have e0 := (hA 6 150 rfl hd6).trans (h.f6 hd6)
      clear hA hB hp hu hdf
      go_simp
      exact ⟨_, rfl, { h with f7 := (fun _ => rfl) }⟩
    · intro done v W A h hd hp hu hA hB hdf
      have hd7 : done 7 = true := hp 7 rfl
      have e0 := (hA 7 143 rfl hd7).trans (h.f7 hd7)
      clear hA hB hp hu hdf
      go_simp
      exact ⟨_, rfl, { h with f8 := (fun _ => rfl) }⟩
    · intro done v W A h hd hp hu hA hB hdf
      have hd7 : done 7 = true := hp 7 rfl
      have e0 := (hA 7 143 rfl hd7).trans (h.f7 hd7)
      clear hA hB hp hu hdf
      go_simp
      exact ⟨_, rfl, { h with f9 := (fun _ => rfl) }⟩
    · intro done v W A h hd hp hu hA hB hdf
      have hd8 : done 8 = true := hp 8 rfl
      have e0 := (hA 8 151 rfl hd8).trans (h.f8 hd8)
      clear hA hB hp hu hdf
      go_simp
      exact ⟨_, rfl, { h with f10 := (fun _ => rfl) }⟩
    · intro done v W A h hd hp hu hA hB hdf
      have hd9 : done 9 = true := hp 9 rfl
      have e0 := (hA 9 152 rfl hd9).trans (h.f9 hd9)
      clear hA hB hp hu hdf
      go_simp
      exact ⟨_, rfl, { h with f11 := (fun _ => rfl) }⟩
  simp only [putL, Act.put, Nat.reduceAdd, List.setIfInBounds_toArray, List.set_cons_zero, List.set_cons_succ]
  rw [h.f10 rfl]
  rw [h.f11 rfl]
  have hbr := h.b
  replace hpt := below_cell hbr hpt
  replace q10 := below_cell hbr q10
  replace q11 := below_cell hbr q11
  replace q12 := below_cell hbr q12
  replace q20 := below_cell hbr q20
  replace q21 := below_cell hbr q21
  replace q22 := below_cell hbr q22
  replace x0 := below_cell hbr x0
  replace x1 := below_cell hbr x1
  replace x2 := below_cell hbr x2
  replace x3 := below_cell hbr x3
  replace x4 := below_cell hbr x4
  replace xe0 := below_cell hbr xe0
  replace xe1 := below_cell hbr xe1
  replace HC1 := Lib.hid (HC1.out.below hbr)
  replace HP1 := Lib.hid (HP1.out.below hbr)
  replace HC2 := Lib.hid (HC2.out.below hbr)
  replace HP2 := Lib.hid (HP2.out.below hbr)
  replace Q1 := Lib.hid ((hbr.block _ (row_lt Q1.out)).trans Q1.out)
  replace Q2 := Lib.hid ((hbr.block _ (row_lt Q2.out)).trans Q2.out)
  replace QC := Lib.hid ((hbr.block _ (row_lt QC.out)).trans QC.out)
  replace QE := Lib.hid ((hbr.block _ (row_lt QE.out)).trans QE.out)
  replace HB := Lib.hid (HB.out.trans (hbr.mono HB.out.size))
  clear h hbr HM1
  go_wp2_with fail
  obtain ⟨wr, hwr⟩ : ∃ x, x = W := ⟨_, rfl⟩
  subst hwr
  have HM1 := Lib.hid (fun (W1 : World) (h1 : Below wr.heap.size wr W1) (v1 : Value) (m1 : TwoV v1 W1) => show Calls Tryz.prog 17 #[v1, .int .i64 kk, .agg #[.int .i64 3, .slice aC1 2 kC1, .slice (some ⟨pb, po, none⟩) 2 kP1], .agg #[.int .i64 3, .int .i64 2, .int .i64 0, .int .i64 0, .int .i64 0]] W1 (fun e w' => e = .returned (.tuple #[.int .i64 0, .int .i64 360]) ∧ Below W1.heap.size W1 w') from by
    obtain ⟨ra, rc, oa, oc, rfl, hr, ho⟩ := m1
    exact (cSettle_any _ _ _ _ R36 O36 (D36 0 0) ⟨3, 2, 0, 0, 0⟩ kk W1 (HG.out _ (HB.out.trans (h1.mono HB.out.size))) hr ho (HC1.out.below h1) (HP1.out.below h1) (by rw [HKK.out]; exact (el_powE el_four _).r64) ⟨H64.out 3 (by omega), H64.out 2 (by omega), H64.out 0 (by omega), H64.out 0 (by omega), H64.out 0 (by omega)⟩).mono fun e w' ⟨e1, h2⟩ => ⟨e1.trans (by rw [HKK.out, ex_st3, ex_st3g]), h2⟩)
  refine wp_region_flowsG (by kernel_rfl) (by kernel_rfl) (by kernel_rfl) (by kernel_rfl) (fun done v W => FCa13 wr (.agg #[.int .i64 3, .slice aC1 2 kC1, .slice (some ⟨pb, po, none⟩) 2 kP1]) (bF1) (kk) done v W) (fun v => ?_) ?_ (fun v W h => ?_)
  · exact ⟨(Below.refl _ _).drew, (fun h => by cases h), (fun h => by cases h), (fun h => by cases h), (fun h => by cases h), (fun h => by cases h), (fun h => by cases h), (fun h => by cases h), (fun h => by cases h), (fun h => by cases h), (fun h => by cases h)⟩
  · refine ⟨?_, ?_, ?_, ?_, ?_, ?_, ?_, ?_, ?_, ?_, trivial⟩
    · intro done v W A h hd hp hu hA hB hdf
      clear hA hB hp hu hdf
      go_simp
      with_reducible refine (HTW.out W).mono ?_
      rintro e wq ⟨u, rfl, hn, hb⟩
      exact ⟨_, rfl, { h with b := h.b.trans (hb.mono h.b.size), f0 := (fun _ _ => hn) }⟩
    · intro done v W A h hd hp hu hA hB hdf
      have e0 : A.tmps[18]?.getD undef = .int .i64 kk := hB 18 rfl
      clear hA hB hp hu hdf
      go_simp
      exact ⟨_, rfl, { h with f1 := (fun _ => rfl) }⟩
    · intro done v W A h hd hp hu hA hB hdf
      have e0 : A.tmps[1]?.getD undef = .pointer (some ⟨bF1, 0, none⟩) := hB 1 rfl
      have y0_ := below_cell h.b q10
      have y1_ := below_cell h.b q11
      have y2_ := below_cell h.b q12
      clear hA hB hp hu hdf
      go_simp
      exact ⟨_, rfl, { h with f2 := (fun _ => rfl) }⟩
    · intro done v W A h hd hp hu hA hB hdf
      clear hA hB hp hu hdf
      go_simp
      exact ⟨_, rfl, { h with f3 := (fun _ => rfl) }⟩
    · intro done v W A h hd hp hu hA hB hdf
      have hd0 : done 0 = true := hp 0 rfl
      have hd1 : done 1 = true := hp 1 rfl
      have hd2 : done 2 = true := hp 2 rfl
      have hd3 : done 3 = true := hp 3 rfl
      have e0 := hA 0 154 rfl hd0
      have m0 := h.f0 hd0 hd
      have e1 := (hA 1 155 rfl hd1).trans (h.f1 hd1)
      have e2 := (hA 2 156 rfl hd2).trans (h.f2 hd2)
      have e3 := (hA 3 157 rfl hd3).trans (h.f3 hd3)
      clear hA hB hp hu hdf
      go_simp
      with_reducible refine (HM1.out W h.b _ m0).mono ?_
      rintro e wq ⟨rfl, hb⟩
      exact ⟨_, rfl, { h with b := h.b.trans (hb.mono h.b.size), f0 := (fun _ h2 => absurd (show true = false from h2) (by decide)), f4 := (fun _ => rfl) }⟩
    · intro done v W A h hd hp hu hA hB hdf
      have hd4 : done 4 = true := hp 4 rfl
      have e0 := (hA 4 158 rfl hd4).trans (h.f4 hd4)
      clear hA hB hp hu hdf
      go_simp
      exact ⟨_, rfl, { h with f5 := (fun _ => rfl) }⟩
    · intro done v W A h hd hp hu hA hB hdf
      have hd5 : done 5 = true := hp 5 rfl
      have e0 := (hA 5 153 rfl hd5).trans (h.f5 hd5)
      clear hA hB hp hu hdf
      go_simp
      exact ⟨_, rfl, { h with f6 := (fun _ => rfl) }⟩
    · intro done v W A h hd hp hu hA hB hdf
      have hd5 : done 5 = true := hp 5 rfl
      have e0 := (hA 5 153 rfl hd5).trans (h.f5 hd5)
      clear hA hB hp hu hdf
      go_simp
      exact ⟨_, rfl, { h with f7 := (fun _ => rfl) }⟩
    · intro done v W A h hd hp hu hA hB hdf
      have hd6 : done 6 = true := hp 6 rfl
      have e0 := (hA 6 159 rfl hd6).trans (h.f6 hd6)
      clear hA hB hp hu hdf
      go_simp
      exact ⟨_, rfl, { h with f8 := (fun _ => rfl) }⟩
    · intro done v W A h hd hp hu hA hB hdf
      have hd7 : done 7 = true := hp 7 rfl
      have e0 := (hA 7 160 rfl hd7).trans (h.f7 hd7)
      clear hA hB hp hu hdf
      go_simp
      exact ⟨_, rfl, { h with f9 := (fun _ => rfl) }⟩
  simp only [putL, Act.put, Nat.reduceAdd, List.setIfInBounds_toArray, List.set_cons_zero, List.set_cons_succ]
  rw [h.f8 rfl]
  rw [h.f9 rfl]
  have hbr := h.b
  replace hpt := below_cell hbr hpt
  replace q10 := below_cell hbr q10
  replace q11 := below_cell hbr q11
  replace q12 := below_cell hbr q12
  replace q20 := below_cell hbr q20
  replace q21 := below_cell hbr q21
  replace q22 := below_cell hbr q22
  replace x0 := below_cell hbr x0
  replace x1 := below_cell hbr x1
  replace x2 := below_cell hbr x2
  replace x3 := below_cell hbr x3
  replace x4 := below_cell hbr x4
  replace xe0 := below_cell hbr xe0
  replace xe1 := below_cell hbr xe1
  replace HC1 := Lib.hid (HC1.out.below hbr)
  replace HP1 := Lib.hid (HP1.out.below hbr)
  replace HC2 := Lib.hid (HC2.out.below hbr)
  replace HP2 := Lib.hid (HP2.out.below hbr)
  replace Q1 := Lib.hid ((hbr.block _ (row_lt Q1.out)).trans Q1.out)
  replace Q2 := Lib.hid ((hbr.block _ (row_lt Q2.out)).trans Q2.out)
  replace QC := Lib.hid ((hbr.block _ (row_lt QC.out)).trans QC.out)
  replace QE := Lib.hid ((hbr.block _ (row_lt QE.out)).trans QE.out)
  replace HB := Lib.hid (HB.out.trans (hbr.mono HB.out.size))
  clear h hbr HM1
  go_wp2_with fail
  obtain ⟨wr, hwr⟩ : ∃ x, x = W := ⟨_, rfl⟩
  subst hwr
  have HM1 := Lib.hid (fun (W1 : World) (h1 : Below wr.heap.size wr W1) (v1 : Value) (m1 : TwoV v1 W1) => show Calls Tryz.prog 17 #[v1, .int .i64 kk, .agg #[.int .i64 3, .slice aC1 2 kC1, .slice (some ⟨pb, po, none⟩) 2 kP1], .agg #[.int .i64 4, .int .i64 0, .int .i64 0, .int .i64 0, .int .i64 0]] W1 (fun e w' => e = .returned (.tuple #[.int .i64 0, .int .i64 360]) ∧ Below W1.heap.size W1 w') from by
    obtain ⟨ra, rc, oa, oc, rfl, hr, ho⟩ := m1
    exact (cSettle_any _ _ _ _ R36 O36 (D36 0 0) ⟨4, 0, 0, 0, 0⟩ kk W1 (HG.out _ (HB.out.trans (h1.mono HB.out.size))) hr ho (HC1.out.below h1) (HP1.out.below h1) (by rw [HKK.out]; exact (el_powE el_four _).r64) ⟨H64.out 4 (by omega), H64.out 0 (by omega), H64.out 0 (by omega), H64.out 0 (by omega), H64.out 0 (by omega)⟩).mono fun e w' ⟨e1, h2⟩ => ⟨e1.trans (by rw [HKK.out, ex_st4, ex_st4g]), h2⟩)
  refine wp_region_flowsG (by kernel_rfl) (by kernel_rfl) (by kernel_rfl) (by kernel_rfl) (fun done v W => FCa14 wr (.agg #[.int .i64 3, .slice aC1 2 kC1, .slice (some ⟨pb, po, none⟩) 2 kP1]) (bF1) (kk) done v W) (fun v => ?_) ?_ (fun v W h => ?_)
  · exact ⟨(Below.refl _ _).drew, (fun h => by cases h), (fun h => by cases h), (fun h => by cases h), (fun h => by cases h), (fun h => by cases h), (fun h => by cases h), (fun h => by cases h), (fun h => by cases h), (fun h => by cases h), (fun h => by cases h)⟩
  · refine ⟨?_, ?_, ?_, ?_, ?_, ?_, ?_, ?_, ?_, ?_, trivial⟩
    · intro done v W A h hd hp hu hA hB hdf
      clear hA hB hp hu hdf
      go_simp
      with_reducible refine (HTW.out W).mono ?_
      rintro e wq ⟨u, rfl, hn, hb⟩
      exact ⟨_, rfl, { h with b := h.b.trans (hb.mono h.b.size), f0 := (fun _ _ => hn) }⟩
    · intro done v W A h hd hp hu hA hB hdf
      have e0 : A.tmps[18]?.getD undef = .int .i64 kk := hB 18 rfl
      clear hA hB hp hu hdf
      go_simp
      exact ⟨_, rfl, { h with f1 := (fun _ => rfl) }⟩
    · intro done v W A h hd hp hu hA hB hdf
      have e0 : A.tmps[1]?.getD undef = .pointer (some ⟨bF1, 0, none⟩) := hB 1 rfl
      have y0_ := below_cell h.b q10
      have y1_ := below_cell h.b q11
      have y2_ := below_cell h.b q12
      clear hA hB hp hu hdf
      go_simp
      exact ⟨_, rfl, { h with f2 := (fun _ => rfl) }⟩
    · intro done v W A h hd hp hu hA hB hdf
      clear hA hB hp hu hdf
      go_simp
      exact ⟨_, rfl, { h with f3 := (fun _ => rfl) }⟩
    · intro done v W A h hd hp hu hA hB hdf
      have hd0 : done 0 = true := hp 0 rfl
      have hd1 : done 1 = true := hp 1 rfl
      have hd2 : done 2 = true := hp 2 rfl
      have hd3 : done 3 = true := hp 3 rfl
      have e0 := hA 0 162 rfl hd0
      have m0 := h.f0 hd0 hd
      have e1 := (hA 1 163 rfl hd1).trans (h.f1 hd1)
      have e2 := (hA 2 164 rfl hd2).trans (h.f2 hd2)
      have e3 := (hA 3 165 rfl hd3).trans (h.f3 hd3)
      clear hA hB hp hu hdf
      go_simp
      with_reducible refine (HM1.out W h.b _ m0).mono ?_
      rintro e wq ⟨rfl, hb⟩
      exact ⟨_, rfl, { h with b := h.b.trans (hb.mono h.b.size), f0 := (fun _ h2 => absurd (show true = false from h2) (by decide)), f4 := (fun _ => rfl) }⟩
    · intro done v W A h hd hp hu hA hB hdf
      have hd4 : done 4 = true := hp 4 rfl
      have e0 := (hA 4 166 rfl hd4).trans (h.f4 hd4)
      clear hA hB hp hu hdf
      go_simp
      exact ⟨_, rfl, { h with f5 := (fun _ => rfl) }⟩
    · intro done v W A h hd hp hu hA hB hdf
      have hd5 : done 5 = true := hp 5 rfl
      have e0 := (hA 5 161 rfl hd5).trans (h.f5 hd5)
      clear hA hB hp hu hdf
      go_simp
      exact ⟨_, rfl, { h with f6 := (fun _ => rfl) }⟩
    · intro done v W A h hd hp hu hA hB hdf
      have hd5 : done 5 = true := hp 5 rfl
      have e0 := (hA 5 161 rfl hd5).trans (h.f5 hd5)
      clear hA hB hp hu hdf
      go_simp
      exact ⟨_, rfl, { h with f7 := (fun _ => rfl) }⟩
    · intro done v W A h hd hp hu hA hB hdf
      have hd6 : done 6 = true := hp 6 rfl
      have e0 := (hA 6 167 rfl hd6).trans (h.f6 hd6)
      clear hA hB hp hu hdf
      go_simp
      exact ⟨_, rfl, { h with f8 := (fun _ => rfl) }⟩
    · intro done v W A h hd hp hu hA hB hdf
      have hd7 : done 7 = true := hp 7 rfl
      have e0 := (hA 7 168 rfl hd7).trans (h.f7 hd7)
      clear hA hB hp hu hdf
      go_simp
      exact ⟨_, rfl, { h with f9 := (fun _ => rfl) }⟩
  simp only [putL, Act.put, Nat.reduceAdd, List.setIfInBounds_toArray, List.set_cons_zero, List.set_cons_succ]
  rw [h.f8 rfl]
  rw [h.f9 rfl]
  have hbr := h.b
  replace hpt := below_cell hbr hpt
  replace q10 := below_cell hbr q10
  replace q11 := below_cell hbr q11
  replace q12 := below_cell hbr q12
  replace q20 := below_cell hbr q20
  replace q21 := below_cell hbr q21
  replace q22 := below_cell hbr q22
  replace x0 := below_cell hbr x0
  replace x1 := below_cell hbr x1
  replace x2 := below_cell hbr x2
  replace x3 := below_cell hbr x3
  replace x4 := below_cell hbr x4
  replace xe0 := below_cell hbr xe0
  replace xe1 := below_cell hbr xe1
  replace HC1 := Lib.hid (HC1.out.below hbr)
  replace HP1 := Lib.hid (HP1.out.below hbr)
  replace HC2 := Lib.hid (HC2.out.below hbr)
  replace HP2 := Lib.hid (HP2.out.below hbr)
  replace Q1 := Lib.hid ((hbr.block _ (row_lt Q1.out)).trans Q1.out)
  replace Q2 := Lib.hid ((hbr.block _ (row_lt Q2.out)).trans Q2.out)
  replace QC := Lib.hid ((hbr.block _ (row_lt QC.out)).trans QC.out)
  replace QE := Lib.hid ((hbr.block _ (row_lt QE.out)).trans QE.out)
  replace HB := Lib.hid (HB.out.trans (hbr.mono HB.out.size))
  clear h hbr HM1
  go_wp2_with fail
  go_ret
  exact ⟨rfl, HB.out⟩

end Go.Proofs.YtggnipkfliompaaGreatDoor
