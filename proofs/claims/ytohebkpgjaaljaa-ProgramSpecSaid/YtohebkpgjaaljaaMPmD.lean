/- The laws of package program: the examples hold (sane). -/
import Derived.Test.YtohebkpgjaaljaaMPmA
import Derived.Test.YtohebkpgjaaljaaMSane
namespace Go.Proofs.Ytohebkpgjaaljaa
open Go.RowKit FP

theorem lit_ints (w : World) (zs : List Int) (cs : Array Value) (hc : cs = (zs.map (Value.int .i64)).toArray) (hr : (zs.all fun z => decide (-9223372036854775808 ≤ z ∧ z ≤ 9223372036854775807)) = true) (hn : zs.length ≤ 1000) : ∃ W, W = w.alloc (.cells cs 3) ∧ Below w.heap.size w W ∧ Ints W (sl w.heap.size zs.length) zs :=
  ⟨_, rfl, below_a _ _, ints_lit w zs cs _ hc (rall zs hr) hn⟩
theorem want1 (w : World) : ∃ W, W = (((w.alloc (.cells #[.int .i64 1] 3)).alloc (.cells #[sl w.heap.size 1] 23)).alloc (.cells #[.int .i64 4] 3)) ∧
    Below w.heap.size w W ∧ Rows2 W (sl (w.heap.size + 1) 1) [[1]] ∧ Ints W (sl (w.heap.size + 1 + 1) 1) [4] := by
  refine ⟨_, rfl, ?_, ?_, ?_⟩
  · repeat (first | exact Below.refl _ _ | refine Below.alloc ?_ (by simp; try omega) _)
  · exact (rows_1 w [1] #[.int .i64 1] _ _ rfl (by decide) (by decide)).below (below_a _ _)
  · have := ints_lit ((w.alloc (.cells #[.int .i64 1] 3)).alloc (.cells #[sl w.heap.size 1] 23)) [4] #[.int .i64 4] 3 rfl (rall _ (by decide)) (by decide)
    simpa using this
theorem want3 (w : World) : ∃ W, W = ((((((w.alloc (.cells #[.int .i64 1, .int .i64 1] 3)).alloc (.cells #[.int .i64 1, .int .i64 2] 3)).alloc (.cells #[.int .i64 1, .int .i64 3] 3)).alloc (.cells #[sl w.heap.size 2, sl (w.heap.size + 1) 2, sl (w.heap.size + 1 + 1) 2] 23)).alloc (.cells #[.int .i64 5, .int .i64 6, .int .i64 9] 3)).alloc (.cells #[sl (w.heap.size + 1 + 1 + 1) 3, sl (w.heap.size + 1 + 1 + 1 + 1) 3] 25)) ∧
    Below w.heap.size w W ∧ Rows2 W (sl (w.heap.size + 1 + 1 + 1) 3) P3 ∧ Ints W (sl (w.heap.size + 1 + 1 + 1 + 1) 3) O3 ∧
    W.cell? ⟨w.heap.size + 1 + 1 + 1 + 1 + 1, 0, none⟩ = some (sl (w.heap.size + 1 + 1 + 1) 3) ∧ W.cell? ⟨w.heap.size + 1 + 1 + 1 + 1 + 1, 1, none⟩ = some (sl (w.heap.size + 1 + 1 + 1 + 1) 3) := by
  obtain ⟨A, hA⟩ : ∃ A, A = ((((w.alloc (.cells #[.int .i64 1, .int .i64 1] 3)).alloc (.cells #[.int .i64 1, .int .i64 2] 3)).alloc (.cells #[.int .i64 1, .int .i64 3] 3)).alloc (.cells #[sl w.heap.size 2, sl (w.heap.size + 1) 2, sl (w.heap.size + 1 + 1) 2] 23)) := ⟨_, rfl⟩
  have hs : A.heap.size = w.heap.size + 1 + 1 + 1 + 1 := by rw [hA]; simp
  have hR : Rows2 A (sl (w.heap.size + 1 + 1 + 1) 3) P3 := hA ▸ rows_3 w [1, 1] [1, 2] [1, 3] _ _ _ 3 23 rfl rfl rfl (by decide) (by decide) (by decide) (by decide) (by decide) (by decide)
  have hB : Below w.heap.size w A := by
    rw [hA]
    repeat (first | exact Below.refl _ _ | refine Below.alloc ?_ (by simp; try omega) _)
  rw [← hA]
  have hO := ints_lit A O3 #[.int .i64 5, .int .i64 6, .int .i64 9] 3 rfl (rall _ (by decide)) (by decide)
  rw [hs] at hO
  refine ⟨_, rfl, (hB.alloc hB.size _).alloc (Nat.le_trans hB.size (below_a A _).size) _, (hR.below (below_a A _)).below (below_a _ _), hO.below (below_a _ _), ?_, ?_⟩
  · simp [go_sem, hs]
  · simp [go_sem, hs]
theorem want4 (w : World) : ∃ W, W = ((((((w.alloc (.cells #[.int .i64 1, .int .i64 1, .int .i64 1] 3)).alloc (.cells #[.int .i64 1, .int .i64 1, .int .i64 2] 3)).alloc (.cells #[.int .i64 1, .int .i64 1, .int .i64 3] 3)).alloc (.cells #[.int .i64 1, .int .i64 2, .int .i64 0] 3)).alloc (.cells #[sl w.heap.size 3, sl (w.heap.size + 1) 3, sl (w.heap.size + 1 + 1) 3, sl (w.heap.size + 1 + 1 + 1) 3] 23)).alloc (.cells #[.int .i64 5, .int .i64 6, .int .i64 9, .int .i64 3] 3)) ∧
    Below w.heap.size w W ∧ Rows2 W (sl (w.heap.size + 1 + 1 + 1 + 1) 4) P4 ∧ Ints W (sl (w.heap.size + 1 + 1 + 1 + 1 + 1) 4) O4 := by
  obtain ⟨A, hA⟩ : ∃ A, A = (((w.alloc (.cells #[.int .i64 1, .int .i64 1, .int .i64 1] 3)).alloc (.cells #[.int .i64 1, .int .i64 1, .int .i64 2] 3)).alloc (.cells #[.int .i64 1, .int .i64 1, .int .i64 3] 3)).alloc (.cells #[.int .i64 1, .int .i64 2, .int .i64 0] 3) := ⟨_, rfl⟩
  have hs : A.heap.size = w.heap.size + 1 + 1 + 1 + 1 := by rw [hA]; simp
  have hB : Below w.heap.size w A := by
    rw [hA]
    repeat (first | exact Below.refl _ _ | refine Below.alloc ?_ (by simp; try omega) _)
  have r : ∀ x : Int, -10 ≤ x ∧ x ≤ 10 → R64 x := fun x h => R64.mk (by omega) (by omega)
  have row : ∀ b x y z, -10 ≤ x ∧ x ≤ 10 → -10 ≤ y ∧ y ≤ 10 → -10 ≤ z ∧ z ≤ 10 → A.cell? ⟨b, 0, none⟩ = some (.int .i64 x) → A.cell? ⟨b, 1, none⟩ = some (.int .i64 y) → A.cell? ⟨b, 2, none⟩ = some (.int .i64 z) → Ints A (sl b 3) [x, y, z] := fun b x y z hx hy hz h0 h1 h2 =>
    ⟨_, 3, rfl, Nat.le_refl _, by simp, by simp [r x hx, r y hy, r z hz], fun k hk => ⟨b, 0, rfl, by
      match k, hk with
      | 0, _ => exact h0
      | 1, _ => exact h1
      | 2, _ => exact h2⟩⟩
  have hR := rows_lit A P4 [sl w.heap.size 3, sl (w.heap.size + 1) 3, sl (w.heap.size + 1 + 1) 3, sl (w.heap.size + 1 + 1 + 1) 3] #[sl w.heap.size 3, sl (w.heap.size + 1) 3, sl (w.heap.size + 1 + 1) 3, sl (w.heap.size + 1 + 1 + 1) 3] 23 rfl rfl (by decide) (fun k h1 h2 => by
    match k, h1 with
    | 0, _ => exact row _ _ _ _ (by omega) (by omega) (by omega) (by rw [hA]; simp [go_sem]) (by rw [hA]; simp [go_sem]) (by rw [hA]; simp [go_sem])
    | 1, _ => exact row _ _ _ _ (by omega) (by omega) (by omega) (by rw [hA]; simp [go_sem]) (by rw [hA]; simp [go_sem]) (by rw [hA]; simp [go_sem])
    | 2, _ => exact row _ _ _ _ (by omega) (by omega) (by omega) (by rw [hA]; simp [go_sem]) (by rw [hA]; simp [go_sem]) (by rw [hA]; simp [go_sem])
    | 3, _ => exact row _ _ _ _ (by omega) (by omega) (by omega) (by rw [hA]; simp [go_sem]) (by rw [hA]; simp [go_sem]) (by rw [hA]; simp [go_sem]))
  rw [← hA]
  have hO := ints_lit (A.alloc (.cells #[sl w.heap.size 3, sl (w.heap.size + 1) 3, sl (w.heap.size + 1 + 1) 3, sl (w.heap.size + 1 + 1 + 1) 3] 23)) O4 #[.int .i64 5, .int .i64 6, .int .i64 9, .int .i64 3] 3 rfl (rall _ (by decide)) (by decide)
  rw [World.size_alloc, hs] at hO
  rw [hs] at hR
  exact ⟨_, rfl, (hB.alloc hB.size _).alloc (Nat.le_trans hB.size (below_a A _).size) _, hR.below (below_a _ _), hO⟩
theorem deep_gate (w : World) (b : Nat) (hg : GatW w (.agg #[.int .i64 (-1), .int .i64 2, .slice (some ⟨b, 0, none⟩) 3 3]) twoG) : ∃ W, W = w.alloc (.cells #[.int .i64 (-1), .int .i64 2, .slice (some ⟨b, 0, none⟩) 3 3, .int .i64 3, .int .i64 0, .slice none 0 0] 28) ∧ Below w.heap.size w W ∧ GatW W (.agg #[.int .i64 (-1), .int .i64 2, sl w.heap.size 2]) deepG := by
  have hb := below_new w #[.int .i64 (-1), .int .i64 2, .slice (some ⟨b, 0, none⟩) 3 3, .int .i64 3, .int .i64 0, .slice none 0 0] 28
  have hr := World.alloc_heap_new w (.cells #[.int .i64 (-1), .int .i64 2, .slice (some ⟨b, 0, none⟩) 3 3, .int .i64 3, .int .i64 0, .slice none 0 0] 28)
  have r : ∀ x : Int, -10 ≤ x ∧ x ≤ 10 → R64 x := fun x h => R64.mk (by omega) (by omega)
  refine ⟨_, rfl, hb, GateV.mk (-1) 2 [twoG, leafG 3] (some ⟨w.heap.size, 0, none⟩) 2 (fun k => if k = 0 then .agg #[.int .i64 (-1), .int .i64 2, .slice (some ⟨b, 0, none⟩) 3 3] else leafV 3) (r _ (by omega)) (r _ (by omega)) (Nat.le_refl _) (by simp) (fun k hk => ?_) (fun k hk => ?_)⟩
  · match k, hk with
    | 0, _ => exact ⟨_, 0, _, _, _, _, _, rfl, rfl, row_cell hr rfl, row_cell hr rfl, row_cell hr rfl⟩
    | 1, _ => exact ⟨_, 0, _, _, _, _, _, rfl, rfl, row_cell hr rfl, row_cell hr rfl, row_cell hr rfl⟩
  · match k, hk with
    | 0, _ => exact hg.below hb
    | 1, _ => exact leaf_gate _ _ (r _ (by omega))

theorem want0 (w : World) : ∃ W, W = (((w.alloc (.cells #[] 3)).alloc (.cells #[sl w.heap.size 0] 23)).alloc (.cells #[.int .i64 0] 3)) ∧
    Below w.heap.size w W ∧ Rows2 W (sl (w.heap.size + 1) 1) [[]] ∧ Ints W (sl (w.heap.size + 1 + 1) 1) [0] := by
  refine ⟨_, rfl, ?_, ?_, ?_⟩
  · repeat (first | exact Below.refl _ _ | refine Below.alloc ?_ (by simp; try omega) _)
  · exact (rows_1 w [] #[] _ _ rfl (by decide) (by decide)).below (below_a _ _)
  · have := ints_lit ((w.alloc (.cells #[] 3)).alloc (.cells #[sl w.heap.size 0] 23)) [0] #[.int .i64 0] 3 rfl (rall _ (by decide)) (by decide)
    simpa using this
set_option maxRecDepth 100000 in
theorem pcheck_val (rv ov : Value) (rows : List (List Int)) (owners : List Int) (e : Int) (w : World) (hR : Rows2 w rv rows) (hO : Ints w ov owners) (h : progE rows owners = e) :
    Calls Try.prog 17 #[.agg #[rv, ov]] w fun r w' => r = .returned (.int .i64 e) ∧ Below w.heap.size w w' :=
  (pCheck_any rv ov rows owners w hR hO).mono fun r w' ⟨h1, h2⟩ => ⟨by rw [h1, h], h2⟩

set_option maxRecDepth 100000 in
set_option maxHeartbeats 16000000 in
theorem sane23_any (w : World) :
    Calls Try.prog 12 #[] w fun r w' => r = .returned (.bool true) ∧ Below w.heap.size w w' := by
  have r : ∀ x : Int, -10 ≤ x ∧ x ≤ 10 → R64 x := fun x h => R64.mk (by omega) (by omega)
  have r1 := r 1 (by omega)
  have r2 := r (-1) (by omega)
  have r4 := r 4 (by omega)
  clear r
  have hm : ∀ w : World, (Instr.makeSlice 22 (.int .i64 65) (.int .i64 65)).run Try.prog w = .ok (sl w.heap.size 65) (w.alloc (.cells (madeCells #[.slice none 0 0] 65) 23)) := fun w =>
    run_make_row' (P := Try.prog) 22 23 (.slice none 0 0) 24 Try.underlying22 infoRw rfl .i64 .i64 65 (by omega) (by omega) w
  have HB := Lib.hid (Below.refl w.heap.size w)
  go_enter Try.func12, Try.ntmps12
  go_wp2_with fail
  refine (two_any _).mono ?_
  rintro e w1 ⟨b0, rfl, hg, hb1⟩
  replace HB := Lib.hid (HB.out.trans (hb1.mono HB.out.size))
  clear hb1
  have HG := Lib.hid hg
  clear hg
  go_wp2_with fail
  refine (make_val _ twoG 0 P3 O3 _ HG.out exm_two).mono ?_
  rintro e w2 ⟨a1, k1, b1, d1, rfl, hR, hO, hb2⟩
  replace HB := Lib.hid (HB.out.trans (hb2.mono HB.out.size))
  clear hb2
  clear HG
  obtain ⟨W3, hW3, hb3, hr3, -⟩ := box_prog w2 (.slice a1 3 k1) (.slice b1 3 d1) 25
  have HR1 := Lib.hid (hR.below hb3)
  have HO1 := Lib.hid (hO.below hb3)
  have c10 : W3.cell? ⟨w2.heap.size, 0, none⟩ = some (.slice a1 3 k1) := row_cell hr3 rfl
  have c11 : W3.cell? ⟨w2.heap.size, 1, none⟩ = some (.slice b1 3 d1) := row_cell hr3 rfl
  have HW3 := Lib.hid hW3
  clear hR hO hr3 hW3
  replace HB := Lib.hid (HB.out.trans (hb3.mono HB.out.size))
  clear hb3
  go_wp2_with (rw [← HW3.out])
  refine (leaf_any 4 _).mono ?_
  rintro e w4 ⟨rfl, hb4⟩
  replace c10 := below_cell hb4 c10
  replace c11 := below_cell hb4 c11
  replace HR1 := Lib.hid (HR1.out.below hb4)
  replace HO1 := Lib.hid (HO1.out.below hb4)
  replace HB := Lib.hid (HB.out.trans (hb4.mono HB.out.size))
  clear hb4
  go_wp2_with fail
  refine (make_val _ (leafG 4) 0 [[1]] [4] _ (leaf_gate _ _ r4) exm_leaf).mono ?_
  rintro e w5 ⟨a2, k2, b2, d2, rfl, hR, hO, hb5⟩
  replace c10 := below_cell hb5 c10
  replace c11 := below_cell hb5 c11
  replace HR1 := Lib.hid (HR1.out.below hb5)
  replace HO1 := Lib.hid (HO1.out.below hb5)
  replace HB := Lib.hid (HB.out.trans (hb5.mono HB.out.size))
  clear hb5
  obtain ⟨W6, hW6, hb6, hr6, -⟩ := box_prog w5 (.slice a2 1 k2) (.slice b2 1 d2) 25
  have HR2 := Lib.hid (hR.below hb6)
  have HO2 := Lib.hid (hO.below hb6)
  have c20 : W6.cell? ⟨w5.heap.size, 0, none⟩ = some (.slice a2 1 k2) := row_cell hr6 rfl
  have c21 : W6.cell? ⟨w5.heap.size, 1, none⟩ = some (.slice b2 1 d2) := row_cell hr6 rfl
  have HW6 := Lib.hid hW6
  clear hR hO hr6 hW6
  replace c10 := below_cell hb6 c10
  replace c11 := below_cell hb6 c11
  replace HR1 := Lib.hid (HR1.out.below hb6)
  replace HO1 := Lib.hid (HO1.out.below hb6)
  replace HB := Lib.hid (HB.out.trans (hb6.mono HB.out.size))
  clear hb6
  go_wp2_with (rw [← HW6.out])
  refine (make_val _ oneG 0 [] [] _ (GateV.mk (-1) 1 [] none 0 (fun _ => undef) r2 r1 (Nat.le_refl _) (by simp) (fun k h => absurd h (Nat.not_lt_zero _)) (fun k h => absurd h (Nat.not_lt_zero _))) exm_one).mono ?_
  rintro e w7 ⟨a3, k3, b3, d3, rfl, hR, hO, hb7⟩
  replace c10 := below_cell hb7 c10
  replace c11 := below_cell hb7 c11
  replace c20 := below_cell hb7 c20
  replace c21 := below_cell hb7 c21
  replace HR1 := Lib.hid (HR1.out.below hb7)
  replace HO1 := Lib.hid (HO1.out.below hb7)
  replace HR2 := Lib.hid (HR2.out.below hb7)
  replace HO2 := Lib.hid (HO2.out.below hb7)
  replace HB := Lib.hid (HB.out.trans (hb7.mono HB.out.size))
  clear hb7
  obtain ⟨W8, hW8, hb8, hr8, -⟩ := box_prog w7 (.slice a3 0 k3) (.slice b3 0 d3) 25
  have HR3 := Lib.hid (hR.below hb8)
  have HO3 := Lib.hid (hO.below hb8)
  have c30 : W8.cell? ⟨w7.heap.size, 0, none⟩ = some (.slice a3 0 k3) := row_cell hr8 rfl
  have c31 : W8.cell? ⟨w7.heap.size, 1, none⟩ = some (.slice b3 0 d3) := row_cell hr8 rfl
  have HW8 := Lib.hid hW8
  clear hR hO hr8 hW8
  replace c10 := below_cell hb8 c10
  replace c11 := below_cell hb8 c11
  replace c20 := below_cell hb8 c20
  replace c21 := below_cell hb8 c21
  replace HR1 := Lib.hid (HR1.out.below hb8)
  replace HO1 := Lib.hid (HO1.out.below hb8)
  replace HR2 := Lib.hid (HR2.out.below hb8)
  replace HO2 := Lib.hid (HO2.out.below hb8)
  replace HB := Lib.hid (HB.out.trans (hb8.mono HB.out.size))
  clear hb8
  go_wp2_with (rw [← HW8.out])
  refine (two_any _).mono ?_
  rintro e w9 ⟨b9, rfl, hg, hb9⟩
  replace c10 := below_cell hb9 c10
  replace c11 := below_cell hb9 c11
  replace c20 := below_cell hb9 c20
  replace c21 := below_cell hb9 c21
  replace c30 := below_cell hb9 c30
  replace c31 := below_cell hb9 c31
  replace HR1 := Lib.hid (HR1.out.below hb9)
  replace HO1 := Lib.hid (HO1.out.below hb9)
  replace HR2 := Lib.hid (HR2.out.below hb9)
  replace HO2 := Lib.hid (HO2.out.below hb9)
  replace HR3 := Lib.hid (HR3.out.below hb9)
  replace HO3 := Lib.hid (HO3.out.below hb9)
  replace HB := Lib.hid (HB.out.trans (hb9.mono HB.out.size))
  clear hb9
  have HG := Lib.hid hg
  clear hg
  go_wp2_with fail
  refine (leaf_any 3 _).mono ?_
  rintro e w10 ⟨rfl, hb10⟩
  replace c10 := below_cell hb10 c10
  replace c11 := below_cell hb10 c11
  replace c20 := below_cell hb10 c20
  replace c21 := below_cell hb10 c21
  replace c30 := below_cell hb10 c30
  replace c31 := below_cell hb10 c31
  replace HR1 := Lib.hid (HR1.out.below hb10)
  replace HO1 := Lib.hid (HO1.out.below hb10)
  replace HR2 := Lib.hid (HR2.out.below hb10)
  replace HO2 := Lib.hid (HO2.out.below hb10)
  replace HR3 := Lib.hid (HR3.out.below hb10)
  replace HO3 := Lib.hid (HO3.out.below hb10)
  replace HG := Lib.hid (HG.out.below hb10)
  replace HB := Lib.hid (HB.out.trans (hb10.mono HB.out.size))
  clear hb10
  obtain ⟨W11, hW11, hb11, hg11⟩ := deep_gate w10 b9 HG.out
  have HG11 := Lib.hid hg11
  have HW11 := Lib.hid hW11
  clear hg11 hW11 HG
  replace c10 := below_cell hb11 c10
  replace c11 := below_cell hb11 c11
  replace c20 := below_cell hb11 c20
  replace c21 := below_cell hb11 c21
  replace c30 := below_cell hb11 c30
  replace c31 := below_cell hb11 c31
  replace HR1 := Lib.hid (HR1.out.below hb11)
  replace HO1 := Lib.hid (HO1.out.below hb11)
  replace HR2 := Lib.hid (HR2.out.below hb11)
  replace HO2 := Lib.hid (HO2.out.below hb11)
  replace HR3 := Lib.hid (HR3.out.below hb11)
  replace HO3 := Lib.hid (HO3.out.below hb11)
  replace HB := Lib.hid (HB.out.trans (hb11.mono HB.out.size))
  clear hb11
  go_wp2_with (rw [← HW11.out])
  refine (make_val _ deepG 0 P4 O4 _ HG11.out exm_deep).mono ?_
  rintro e w12 ⟨a4, k4, b4, d4, rfl, hR, hO, hb12⟩
  replace c10 := below_cell hb12 c10
  replace c11 := below_cell hb12 c11
  replace c20 := below_cell hb12 c20
  replace c21 := below_cell hb12 c21
  replace c30 := below_cell hb12 c30
  replace c31 := below_cell hb12 c31
  replace HR1 := Lib.hid (HR1.out.below hb12)
  replace HO1 := Lib.hid (HO1.out.below hb12)
  replace HR2 := Lib.hid (HR2.out.below hb12)
  replace HO2 := Lib.hid (HO2.out.below hb12)
  replace HR3 := Lib.hid (HR3.out.below hb12)
  replace HO3 := Lib.hid (HO3.out.below hb12)
  replace HB := Lib.hid (HB.out.trans (hb12.mono HB.out.size))
  clear hb12
  obtain ⟨W13, hW13, hb13, hr13, -⟩ := box_prog w12 (.slice a4 4 k4) (.slice b4 4 d4) 25
  have HR4 := Lib.hid (hR.below hb13)
  have HO4 := Lib.hid (hO.below hb13)
  have c40 : W13.cell? ⟨w12.heap.size, 0, none⟩ = some (.slice a4 4 k4) := row_cell hr13 rfl
  have c41 : W13.cell? ⟨w12.heap.size, 1, none⟩ = some (.slice b4 4 d4) := row_cell hr13 rfl
  have HW13 := Lib.hid hW13
  clear hR hO hr13 hW13 HG11
  replace c10 := below_cell hb13 c10
  replace c11 := below_cell hb13 c11
  replace c20 := below_cell hb13 c20
  replace c21 := below_cell hb13 c21
  replace c30 := below_cell hb13 c30
  replace c31 := below_cell hb13 c31
  replace HR1 := Lib.hid (HR1.out.below hb13)
  replace HO1 := Lib.hid (HO1.out.below hb13)
  replace HR2 := Lib.hid (HR2.out.below hb13)
  replace HO2 := Lib.hid (HO2.out.below hb13)
  replace HR3 := Lib.hid (HR3.out.below hb13)
  replace HO3 := Lib.hid (HO3.out.below hb13)
  replace HB := Lib.hid (HB.out.trans (hb13.mono HB.out.size))
  clear hb13
  obtain ⟨W14, hW14, hb14, hR5, hO5, c50, c51⟩ := want3 W13
  have HR5 := Lib.hid hR5
  have HO5 := Lib.hid hO5
  have HW14 := Lib.hid hW14
  clear hR5 hO5 hW14
  replace c10 := below_cell hb14 c10
  replace c11 := below_cell hb14 c11
  replace c20 := below_cell hb14 c20
  replace c21 := below_cell hb14 c21
  replace c30 := below_cell hb14 c30
  replace c31 := below_cell hb14 c31
  replace c40 := below_cell hb14 c40
  replace c41 := below_cell hb14 c41
  replace HR1 := Lib.hid (HR1.out.below hb14)
  replace HO1 := Lib.hid (HO1.out.below hb14)
  replace HR2 := Lib.hid (HR2.out.below hb14)
  replace HO2 := Lib.hid (HO2.out.below hb14)
  replace HR3 := Lib.hid (HR3.out.below hb14)
  replace HO3 := Lib.hid (HO3.out.below hb14)
  replace HR4 := Lib.hid (HR4.out.below hb14)
  replace HO4 := Lib.hid (HO4.out.below hb14)
  replace HB := Lib.hid (HB.out.trans (hb14.mono HB.out.size))
  clear hb14
  go_wp2_with (first | rw [← HW13.out] | rw [← HW14.out])
  refine (same_val _ _ _ _ P3 P3 O3 O3 true _ HR1.out HO1.out HR5.out HO5.out (by decide +kernel)).mono ?_
  rintro e w15 ⟨rfl, hb15⟩
  replace c10 := below_cell hb15 c10
  replace c11 := below_cell hb15 c11
  replace c20 := below_cell hb15 c20
  replace c21 := below_cell hb15 c21
  replace c30 := below_cell hb15 c30
  replace c31 := below_cell hb15 c31
  replace c40 := below_cell hb15 c40
  replace c41 := below_cell hb15 c41
  replace c50 := below_cell hb15 c50
  replace c51 := below_cell hb15 c51
  replace HR1 := Lib.hid (HR1.out.below hb15)
  replace HO1 := Lib.hid (HO1.out.below hb15)
  replace HR2 := Lib.hid (HR2.out.below hb15)
  replace HO2 := Lib.hid (HO2.out.below hb15)
  replace HR3 := Lib.hid (HR3.out.below hb15)
  replace HO3 := Lib.hid (HO3.out.below hb15)
  replace HR4 := Lib.hid (HR4.out.below hb15)
  replace HO4 := Lib.hid (HO4.out.below hb15)
  replace HR5 := Lib.hid (HR5.out.below hb15)
  replace HO5 := Lib.hid (HO5.out.below hb15)
  replace HB := Lib.hid (HB.out.trans (hb15.mono HB.out.size))
  clear hb15
  obtain ⟨W16, hW16, hb16, hR6, hO6⟩ := want1 w15
  have HR6 := Lib.hid hR6
  have HO6 := Lib.hid hO6
  have HW16 := Lib.hid hW16
  clear hR6 hO6 hW16 c50 c51 HR5 HO5
  have kc20 := c20
  have kc21 := c21
  replace c10 := below_cell hb16 c10
  replace c11 := below_cell hb16 c11
  replace c20 := below_cell hb16 c20
  replace c21 := below_cell hb16 c21
  replace c30 := below_cell hb16 c30
  replace c31 := below_cell hb16 c31
  replace c40 := below_cell hb16 c40
  replace c41 := below_cell hb16 c41
  replace HR1 := Lib.hid (HR1.out.below hb16)
  replace HO1 := Lib.hid (HO1.out.below hb16)
  replace HR2 := Lib.hid (HR2.out.below hb16)
  replace HO2 := Lib.hid (HO2.out.below hb16)
  replace HR3 := Lib.hid (HR3.out.below hb16)
  replace HO3 := Lib.hid (HO3.out.below hb16)
  replace HR4 := Lib.hid (HR4.out.below hb16)
  replace HO4 := Lib.hid (HO4.out.below hb16)
  replace HB := Lib.hid (HB.out.trans (hb16.mono HB.out.size))
  clear hb16
  go_wp2_with (rw [← HW16.out])
  clear kc20 kc21
  refine (same_val _ _ _ _ [[1]] [[1]] [4] [4] true _ HR2.out HO2.out HR6.out HO6.out (by decide +kernel)).mono ?_
  rintro e w17 ⟨rfl, hb17⟩
  replace c10 := below_cell hb17 c10
  replace c11 := below_cell hb17 c11
  replace c20 := below_cell hb17 c20
  replace c21 := below_cell hb17 c21
  replace c30 := below_cell hb17 c30
  replace c31 := below_cell hb17 c31
  replace c40 := below_cell hb17 c40
  replace c41 := below_cell hb17 c41
  replace HR1 := Lib.hid (HR1.out.below hb17)
  replace HO1 := Lib.hid (HO1.out.below hb17)
  replace HR2 := Lib.hid (HR2.out.below hb17)
  replace HO2 := Lib.hid (HO2.out.below hb17)
  replace HR3 := Lib.hid (HR3.out.below hb17)
  replace HO3 := Lib.hid (HO3.out.below hb17)
  replace HR4 := Lib.hid (HR4.out.below hb17)
  replace HO4 := Lib.hid (HO4.out.below hb17)
  replace HB := Lib.hid (HB.out.trans (hb17.mono HB.out.size))
  clear hb17
  clear HR2 HO2 HR6 HO6 c20 c21
  go_wp2_with fail
  refine (same_val _ _ _ _ [] [] [] [] true _ HR3.out HO3.out (Rows2.nil _ none 0) (Ints.nil _ none 0) (by decide +kernel)).mono ?_
  rintro e w18 ⟨rfl, hb18⟩
  replace c10 := below_cell hb18 c10
  replace c11 := below_cell hb18 c11
  replace c30 := below_cell hb18 c30
  replace c31 := below_cell hb18 c31
  replace c40 := below_cell hb18 c40
  replace c41 := below_cell hb18 c41
  replace HR1 := Lib.hid (HR1.out.below hb18)
  replace HO1 := Lib.hid (HO1.out.below hb18)
  replace HR3 := Lib.hid (HR3.out.below hb18)
  replace HO3 := Lib.hid (HO3.out.below hb18)
  replace HR4 := Lib.hid (HR4.out.below hb18)
  replace HO4 := Lib.hid (HO4.out.below hb18)
  replace HB := Lib.hid (HB.out.trans (hb18.mono HB.out.size))
  clear hb18
  clear HR3 HO3 c30 c31
  obtain ⟨W19, hW19, hb19, hR7, hO7⟩ := want4 w18
  have HR7 := Lib.hid hR7
  have HO7 := Lib.hid hO7
  have HW19 := Lib.hid hW19
  clear hR7 hO7 hW19
  have kc40 := c40
  have kc41 := c41
  replace c10 := below_cell hb19 c10
  replace c11 := below_cell hb19 c11
  replace c40 := below_cell hb19 c40
  replace c41 := below_cell hb19 c41
  replace HR1 := Lib.hid (HR1.out.below hb19)
  replace HO1 := Lib.hid (HO1.out.below hb19)
  replace HR4 := Lib.hid (HR4.out.below hb19)
  replace HO4 := Lib.hid (HO4.out.below hb19)
  replace HB := Lib.hid (HB.out.trans (hb19.mono HB.out.size))
  clear hb19
  go_wp2_with (rw [← HW19.out])
  clear kc40 kc41
  refine (same_val _ _ _ _ P4 P4 O4 O4 true _ HR4.out HO4.out HR7.out HO7.out (by decide +kernel)).mono ?_
  rintro e w20 ⟨rfl, hb20⟩
  replace c10 := below_cell hb20 c10
  replace c11 := below_cell hb20 c11
  replace c40 := below_cell hb20 c40
  replace c41 := below_cell hb20 c41
  replace HR1 := Lib.hid (HR1.out.below hb20)
  replace HO1 := Lib.hid (HO1.out.below hb20)
  replace HR4 := Lib.hid (HR4.out.below hb20)
  replace HO4 := Lib.hid (HO4.out.below hb20)
  replace HB := Lib.hid (HB.out.trans (hb20.mono HB.out.size))
  clear hb20
  clear HR4 HO4 c40 c41 HR7 HO7
  obtain ⟨W21, hW21, hb21, hI1⟩ := lit_ints w20 [5, 9] #[.int .i64 5, .int .i64 9] rfl (by decide) (by decide)
  have HI1 := Lib.hid hI1
  have HW21 := Lib.hid hW21
  clear hI1 hW21
  have kc10 := c10
  have kc11 := c11
  replace c10 := below_cell hb21 c10
  replace c11 := below_cell hb21 c11
  replace HR1 := Lib.hid (HR1.out.below hb21)
  replace HO1 := Lib.hid (HO1.out.below hb21)
  replace HB := Lib.hid (HB.out.trans (hb21.mono HB.out.size))
  clear hb21
  go_wp2_with (rw [← HW21.out])
  clear kc10 kc11
  refine (acc_val _ _ _ P3 O3 [5, 9] [536870896, 0, 536870894] true 0 _ HR1.out HO1.out HI1.out exa_1 exq_1.1).mono ?_
  rintro e w22 ⟨ay, cy, rfl, hY, hb22⟩
  replace c10 := below_cell hb22 c10
  replace c11 := below_cell hb22 c11
  replace HR1 := Lib.hid (HR1.out.below hb22)
  replace HO1 := Lib.hid (HO1.out.below hb22)
  replace HB := Lib.hid (HB.out.trans (hb22.mono HB.out.size))
  clear hb22
  have HY := Lib.hid hY
  clear hY HI1
  obtain ⟨W23, hW23, hb23, hI1⟩ := lit_ints w22 [5] #[.int .i64 5] rfl (by decide) (by decide)
  have HI1 := Lib.hid hI1
  have HW23 := Lib.hid hW23
  clear hI1 hW23
  have kc10 := c10
  have kc11 := c11
  replace c10 := below_cell hb23 c10
  replace c11 := below_cell hb23 c11
  replace HR1 := Lib.hid (HR1.out.below hb23)
  replace HO1 := Lib.hid (HO1.out.below hb23)
  replace HY := Lib.hid (HY.out.below hb23)
  replace HB := Lib.hid (HB.out.trans (hb23.mono HB.out.size))
  clear hb23
  go_wp2_with (rw [← HW23.out])
  clear kc10 kc11
  refine (acc_val _ _ _ P3 O3 [5] [] false 0 _ HR1.out HO1.out HI1.out exa_2 exq_1.2.1).mono ?_
  rintro e w24 ⟨a24, c24, rfl, -, hb24⟩
  replace c10 := below_cell hb24 c10
  replace c11 := below_cell hb24 c11
  replace HR1 := Lib.hid (HR1.out.below hb24)
  replace HO1 := Lib.hid (HO1.out.below hb24)
  replace HY := Lib.hid (HY.out.below hb24)
  replace HB := Lib.hid (HB.out.trans (hb24.mono HB.out.size))
  clear hb24
  obtain ⟨W25, hW25, hb25, hI2⟩ := lit_ints w24 [5] #[.int .i64 5] rfl (by decide) (by decide)
  have HI2 := Lib.hid hI2
  have HW25 := Lib.hid hW25
  clear hI2 hW25 HI1
  have kc10 := c10
  have kc11 := c11
  replace c10 := below_cell hb25 c10
  replace c11 := below_cell hb25 c11
  replace HR1 := Lib.hid (HR1.out.below hb25)
  replace HO1 := Lib.hid (HO1.out.below hb25)
  replace HY := Lib.hid (HY.out.below hb25)
  replace HB := Lib.hid (HB.out.trans (hb25.mono HB.out.size))
  clear hb25
  go_wp2_with (rw [← HW25.out])
  clear kc10 kc11
  refine (ref_val _ _ _ P3 O3 [5] [1, 1073741788] true 0 _ HR1.out HO1.out HI2.out (by rw [exs_1]; exact ⟨rfl, rfl⟩) exq_1.2.1).mono ?_
  rintro e w26 ⟨aw, cw, rfl, hZ, hb26⟩
  replace c10 := below_cell hb26 c10
  replace c11 := below_cell hb26 c11
  replace HR1 := Lib.hid (HR1.out.below hb26)
  replace HO1 := Lib.hid (HO1.out.below hb26)
  replace HY := Lib.hid (HY.out.below hb26)
  replace HB := Lib.hid (HB.out.trans (hb26.mono HB.out.size))
  clear hb26
  have HZ := Lib.hid hZ
  clear hZ HI2
  obtain ⟨W27, hW27, hb27, hI1⟩ := lit_ints w26 [5, 9] #[.int .i64 5, .int .i64 9] rfl (by decide) (by decide)
  have HI1 := Lib.hid hI1
  have HW27 := Lib.hid hW27
  clear hI1 hW27
  have kc10 := c10
  have kc11 := c11
  replace c10 := below_cell hb27 c10
  replace c11 := below_cell hb27 c11
  replace HR1 := Lib.hid (HR1.out.below hb27)
  replace HO1 := Lib.hid (HO1.out.below hb27)
  replace HY := Lib.hid (HY.out.below hb27)
  replace HZ := Lib.hid (HZ.out.below hb27)
  replace HB := Lib.hid (HB.out.trans (hb27.mono HB.out.size))
  clear hb27
  go_wp2_with (rw [← HW27.out])
  clear kc10 kc11
  refine (ref_val _ _ _ P3 O3 [5, 9] [] false 0 _ HR1.out HO1.out HI1.out (by rw [exs_2]; exact ⟨rfl, rfl⟩) exq_1.1).mono ?_
  rintro e w28 ⟨a28, c28, rfl, -, hb28⟩
  replace c10 := below_cell hb28 c10
  replace c11 := below_cell hb28 c11
  replace HR1 := Lib.hid (HR1.out.below hb28)
  replace HO1 := Lib.hid (HO1.out.below hb28)
  replace HY := Lib.hid (HY.out.below hb28)
  replace HZ := Lib.hid (HZ.out.below hb28)
  replace HB := Lib.hid (HB.out.trans (hb28.mono HB.out.size))
  clear hb28
  clear HI1
  go_wp2_with fail
  refine (acc_val _ _ _ [] [] [] [] false 0 _ (Rows2.nil _ none 0) (Ints.nil _ none 0) (Ints.nil _ none 0) exa_3 exq_1.2.2.1).mono ?_
  rintro e w29 ⟨a29, c29, rfl, -, hb29⟩
  replace c10 := below_cell hb29 c10
  replace c11 := below_cell hb29 c11
  replace HR1 := Lib.hid (HR1.out.below hb29)
  replace HO1 := Lib.hid (HO1.out.below hb29)
  replace HY := Lib.hid (HY.out.below hb29)
  replace HZ := Lib.hid (HZ.out.below hb29)
  replace HB := Lib.hid (HB.out.trans (hb29.mono HB.out.size))
  clear hb29
  go_wp2_with fail
  refine (ref_val _ _ _ [] [] [] [1] true 0 _ (Rows2.nil _ none 0) (Ints.nil _ none 0) (Ints.nil _ none 0) (by rw [exs_3]; exact ⟨rfl, rfl⟩) exq_1.2.2.1).mono ?_
  rintro e w30 ⟨av, cv1, rfl, hV, hb30⟩
  replace c10 := below_cell hb30 c10
  replace c11 := below_cell hb30 c11
  replace HR1 := Lib.hid (HR1.out.below hb30)
  replace HO1 := Lib.hid (HO1.out.below hb30)
  replace HY := Lib.hid (HY.out.below hb30)
  replace HZ := Lib.hid (HZ.out.below hb30)
  replace HB := Lib.hid (HB.out.trans (hb30.mono HB.out.size))
  clear hb30
  have HV := Lib.hid hV
  clear hV
  obtain ⟨W31, hW31, hb31, hI1⟩ := lit_ints w30 [3, 3] #[.int .i64 3, .int .i64 3] rfl (by decide) (by decide)
  have HI1 := Lib.hid hI1
  have HW31 := Lib.hid hW31
  clear hI1 hW31
  have kc10 := c10
  have kc11 := c11
  replace c10 := below_cell hb31 c10
  replace c11 := below_cell hb31 c11
  replace HR1 := Lib.hid (HR1.out.below hb31)
  replace HO1 := Lib.hid (HO1.out.below hb31)
  replace HY := Lib.hid (HY.out.below hb31)
  replace HZ := Lib.hid (HZ.out.below hb31)
  replace HV := Lib.hid (HV.out.below hb31)
  replace HB := Lib.hid (HB.out.trans (hb31.mono HB.out.size))
  clear hb31
  go_wp2_with (rw [← HW31.out])
  clear kc10 kc11
  refine (acc_val _ _ _ P3 O3 [3, 3] [] false 1 _ HR1.out HO1.out HI1.out exa_4 exq_1.2.2.2).mono ?_
  rintro e w32 ⟨a32, c32, rfl, -, hb32⟩
  replace c10 := below_cell hb32 c10
  replace c11 := below_cell hb32 c11
  replace HR1 := Lib.hid (HR1.out.below hb32)
  replace HO1 := Lib.hid (HO1.out.below hb32)
  replace HY := Lib.hid (HY.out.below hb32)
  replace HZ := Lib.hid (HZ.out.below hb32)
  replace HV := Lib.hid (HV.out.below hb32)
  replace HB := Lib.hid (HB.out.trans (hb32.mono HB.out.size))
  clear hb32
  clear HI1
  obtain ⟨W33, hW33, hb33, hI1⟩ := lit_ints w32 [536870896, 0, 536870894] #[.int .i64 536870896, .int .i64 0, .int .i64 536870894] rfl (by decide) (by decide)
  have HI1 := Lib.hid hI1
  have HW33 := Lib.hid hW33
  clear hI1 hW33
  have kc10 := c10
  have kc11 := c11
  replace c10 := below_cell hb33 c10
  replace c11 := below_cell hb33 c11
  replace HR1 := Lib.hid (HR1.out.below hb33)
  replace HO1 := Lib.hid (HO1.out.below hb33)
  replace HY := Lib.hid (HY.out.below hb33)
  replace HZ := Lib.hid (HZ.out.below hb33)
  replace HV := Lib.hid (HV.out.below hb33)
  replace HB := Lib.hid (HB.out.trans (hb33.mono HB.out.size))
  clear hb33
  go_wp2_with (rw [← HW33.out])
  clear kc10 kc11
  refine (rSame23_is _ _ [536870896, 0, 536870894] [536870896, 0, 536870894] true _ HY.out HI1.out (by decide +kernel)).mono ?_
  rintro e w34 ⟨rfl, hb34⟩
  replace c10 := below_cell hb34 c10
  replace c11 := below_cell hb34 c11
  replace HR1 := Lib.hid (HR1.out.below hb34)
  replace HO1 := Lib.hid (HO1.out.below hb34)
  replace HY := Lib.hid (HY.out.below hb34)
  replace HZ := Lib.hid (HZ.out.below hb34)
  replace HV := Lib.hid (HV.out.below hb34)
  replace HB := Lib.hid (HB.out.trans (hb34.mono HB.out.size))
  clear hb34
  clear HI1 HY
  obtain ⟨W35, hW35, hb35, hI1⟩ := lit_ints w34 [1] #[.int .i64 1] rfl (by decide) (by decide)
  have HI1 := Lib.hid hI1
  have HW35 := Lib.hid hW35
  clear hI1 hW35
  have kc10 := c10
  have kc11 := c11
  replace c10 := below_cell hb35 c10
  replace c11 := below_cell hb35 c11
  replace HR1 := Lib.hid (HR1.out.below hb35)
  replace HO1 := Lib.hid (HO1.out.below hb35)
  replace HZ := Lib.hid (HZ.out.below hb35)
  replace HV := Lib.hid (HV.out.below hb35)
  replace HB := Lib.hid (HB.out.trans (hb35.mono HB.out.size))
  clear hb35
  go_wp2_with (rw [← HW35.out])
  clear kc10 kc11
  refine (rSame23_is _ _ [1] [1] true _ HV.out HI1.out (by decide +kernel)).mono ?_
  rintro e w36 ⟨rfl, hb36⟩
  replace c10 := below_cell hb36 c10
  replace c11 := below_cell hb36 c11
  replace HR1 := Lib.hid (HR1.out.below hb36)
  replace HO1 := Lib.hid (HO1.out.below hb36)
  replace HZ := Lib.hid (HZ.out.below hb36)
  replace HV := Lib.hid (HV.out.below hb36)
  replace HB := Lib.hid (HB.out.trans (hb36.mono HB.out.size))
  clear hb36
  clear HI1 HV
  obtain ⟨W37, hW37, hb37, hI1⟩ := lit_ints w36 [1, 1073741788] #[.int .i64 1, .int .i64 1073741788] rfl (by decide) (by decide)
  have HI1 := Lib.hid hI1
  have HW37 := Lib.hid hW37
  clear hI1 hW37
  have kc10 := c10
  have kc11 := c11
  replace c10 := below_cell hb37 c10
  replace c11 := below_cell hb37 c11
  replace HR1 := Lib.hid (HR1.out.below hb37)
  replace HO1 := Lib.hid (HO1.out.below hb37)
  replace HZ := Lib.hid (HZ.out.below hb37)
  replace HB := Lib.hid (HB.out.trans (hb37.mono HB.out.size))
  clear hb37
  go_wp2_with (rw [← HW37.out])
  clear kc10 kc11
  refine (rSame23_is _ _ [1, 1073741788] [1, 1073741788] true _ HZ.out HI1.out (by decide +kernel)).mono ?_
  rintro e w38 ⟨rfl, hb38⟩
  replace c10 := below_cell hb38 c10
  replace c11 := below_cell hb38 c11
  replace HR1 := Lib.hid (HR1.out.below hb38)
  replace HO1 := Lib.hid (HO1.out.below hb38)
  replace HZ := Lib.hid (HZ.out.below hb38)
  replace HB := Lib.hid (HB.out.trans (hb38.mono HB.out.size))
  clear hb38
  clear HI1 HZ
  go_wp2_with fail
  refine (pcheck_val _ _ P3 O3 0 _ HR1.out HO1.out exc_3).mono ?_
  rintro e w39 ⟨rfl, hb39⟩
  replace c10 := below_cell hb39 c10
  replace c11 := below_cell hb39 c11
  replace HR1 := Lib.hid (HR1.out.below hb39)
  replace HO1 := Lib.hid (HO1.out.below hb39)
  replace HB := Lib.hid (HB.out.trans (hb39.mono HB.out.size))
  clear hb39
  clear HR1 HO1 c10 c11
  obtain ⟨W40, hW40, hb40, hR8, hO8⟩ := want0 w39
  have HR8 := Lib.hid hR8
  have HO8 := Lib.hid hO8
  have HW40 := Lib.hid hW40
  clear hR8 hO8 hW40
  replace HB := Lib.hid (HB.out.trans (hb40.mono HB.out.size))
  clear hb40
  go_wp2_with (rw [← HW40.out])
  refine (pcheck_val _ _ [[]] [0] 230 _ HR8.out HO8.out exc_0).mono ?_
  rintro e w41 ⟨rfl, hb41⟩
  replace HB := Lib.hid (HB.out.trans (hb41.mono HB.out.size))
  clear hb41
  clear HR8 HO8
  have hb42 := below_a w41 (.cells (madeCells #[.slice none 0 0] 65) 23)
  replace HB := Lib.hid (HB.out.trans (hb42.mono HB.out.size))
  clear hb42
  go_wp2_with fail
  refine (pcheck_val _ _ (List.replicate 65 []) [] 2 _ (made_nils w41 65 (by decide)) (Ints.nil _ none 0) exc_65).mono ?_
  rintro e w43 ⟨rfl, hb43⟩
  replace HB := Lib.hid (HB.out.trans (hb43.mono HB.out.size))
  clear hb43
  go_wp2_with fail
  go_ret
  exact ⟨rfl, HB.out⟩

end Go.Proofs.Ytohebkpgjaaljaa
