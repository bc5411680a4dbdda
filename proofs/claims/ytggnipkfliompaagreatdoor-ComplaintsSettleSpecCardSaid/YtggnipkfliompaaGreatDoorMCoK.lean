/- The laws of complaints: the examples' program and dealings. The laws of complaints, in plain Lean: other parcels. A region that draws its order inside a round of a range over a function: as outside, where no operation is about to call a Go function. A region that draws its order, where a condition on the world holds up to certain operations only (stores into what was loaded). -/
import Derived.Test.YtggnipkfliompaaGreatDoorMCoI
import Derived.Test.YtggnipkfliompaaGreatDoorMSane
import Derived.Test.YtggnipkfliompaaGreatDoorMCoF
import Derived.Test.YtggnipkfliompaaGreatDoorMRange
import Derived.OrdersIn
import Derived.Deep.RegionHeld3
import Derived.OrdersHeld
namespace Go.Proofs.YtggnipkfliompaaGreatDoor
open Go.RowKit FP

/-- The examples' program. -/
def TwoV (v : Value) (w : World) : Prop := ∃ a c b d, v = .agg #[.slice a 2 c, .slice b 2 d] ∧ Rows2 w (.slice a 2 c) R36 ∧ Ints w (.slice b 2 d) O36
theorem TwoV.below {v : Value} {w w' : World} (h : TwoV v w) (hb : Below w.heap.size w w') : TwoV v w' := by
  obtain ⟨a, c, b, d, e, h1, h2⟩ := h; exact ⟨a, c, b, d, e, h1.below hb, h2.below hb⟩

set_option maxRecDepth 100000 in
set_option maxHeartbeats 2000000 in
theorem two36_any (w : World) :
    Calls Tryz.prog 51 #[] w fun r w' => ∃ v, r = .returned v ∧ TwoV v w' ∧ Below w.heap.size w w' := by
  go_enter Tryz.func51, Tryz.ntmps51
  go_wp2_with fail
  refine bodyPost_ret (v := .agg #[.slice (some ⟨w.heap.size + 1 + 1 + 1, 0, none⟩) 2 2, .slice (some ⟨w.heap.size + 1 + 1 + 1 + 1, 0, none⟩) 2 2]) (by simp [results, Tryz.results51, go_sem]) rfl ?_
  refine ⟨_, rfl, ⟨_, _, _, _, rfl, rows_of2 (r := .slice (some ⟨w.heap.size + 1, 0, none⟩) 2 2) (s := .slice (some ⟨w.heap.size + 1 + 1, 0, none⟩) 2 2) (by simp [go_sem]) (by simp [go_sem]) (ints_of2 (by simp [go_sem]) (by simp [go_sem]) (R64.mk (by omega) (by omega)) (R64.mk (by omega) (by omega)) (Nat.le_refl _)) (ints_of2 (by simp [go_sem]) (by simp [go_sem]) (R64.mk (by omega) (by omega)) (R64.mk (by omega) (by omega)) (Nat.le_refl _)) (Nat.le_refl _),
    ints_of2 (by simp [go_sem]) (by simp [go_sem]) (R64.mk (by omega) (by omega)) (R64.mk (by omega) (by omega)) (Nat.le_refl _)⟩, ?_⟩
  repeat (first | exact Below.refl _ _ | refine Below.setCell ?_ (by simp; try omega) _ | refine Below.alloc ?_ (by simp; try omega) _ | refine Below.drew ?_)

theorem own_sl {W : World} {base size n : Nat} {e : TypeId} {v : Value} {xs : List Value} (h : W.ownsRow base e size v n xs) : ∃ a k c, v = .slice a k c := by
  rcases h.2 with ⟨rfl, -⟩ | ⟨g, cap, cur, rfl, -⟩
  · exact ⟨_, _, _, rfl⟩
  · exact ⟨_, _, _, rfl⟩
theorem ints_at {w : World} {a : Option Addr} {n c : Nat} {l : List Int} (h : Ints w (.slice a n c) l) {k : Nat} (hk : k < l.length) : ∃ b off, a = some ⟨b, off, none⟩ ∧ w.cell? ⟨b, off + k, none⟩ = some (.int .i64 l[k]) := by
  obtain ⟨a', cap, h1, -, -, -, h5⟩ := h
  cases h1
  exact h5 k hk
theorem ints_lit2 (w : World) (x y : Int) (t : TypeId) (hx : R64 x) (hy : R64 y) : Ints (w.alloc (.cells #[.int .i64 x, .int .i64 y] t)) (.slice (some ⟨w.heap.size, 0, none⟩) 2 2) [x, y] := by
  have h := World.alloc_heap_new w (.cells #[.int .i64 x, .int .i64 y] t)
  exact ints_of2 (row_cell h rfl) (row_cell h rfl) hx hy (Nat.le_refl _)
theorem ints_set {w : World} {b B o o2 n c : Nat} {l : List Int} (h : Ints w (.slice (some ⟨b, o2, none⟩) n c) l) (hb : b ≠ B) (v : Value) : Ints (w.setCell ⟨B, o, none⟩ v) (.slice (some ⟨b, o2, none⟩) n c) l := by
  obtain ⟨a, cap, h1, h2, h3, h4, h5⟩ := h
  refine ⟨a, cap, h1, h2, h3, h4, fun k hk => ?_⟩
  obtain ⟨b', off, e, hc⟩ := h5 k hk
  cases h1
  simp only [Option.some.injEq, Addr.mk.injEq, and_true] at e
  obtain ⟨rfl, rfl⟩ := e
  exact ⟨b, o2, rfl, (cell_other (.inl hb.symm)).trans hc⟩
theorem ints_keep {B : Nat} {w w' : World} {b o2 n c : Nat} {l : List Int} (h : Ints w (.slice (some ⟨b, o2, none⟩) n c) l) (hb : Below B w w') (hlt : b < B) : Ints w' (.slice (some ⟨b, o2, none⟩) n c) l := by
  obtain ⟨a, cap, h1, h2, h3, h4, h5⟩ := h
  refine ⟨a, cap, h1, h2, h3, h4, fun k hk => ?_⟩
  obtain ⟨b', off, e, hc⟩ := h5 k hk
  cases h1
  simp only [Option.some.injEq, Addr.mk.injEq, and_true] at e
  obtain ⟨rfl, rfl⟩ := e
  exact ⟨b, o2, rfl, (hb.cell (p := ⟨b, o2 + k, none⟩) hlt).trans hc⟩
theorem own_ge {W : World} {base size n g cap : Nat} {e : TypeId} {xs : List Value} (h : W.ownsRow base e size (.slice (some ⟨g, 0, none⟩) n cap) n xs) : base ≤ g ∧ g < W.heap.size := by
  rcases h.2 with ⟨h0, -⟩ | ⟨g', cap', cur, e1, hg, hq, -⟩
  · cases h0
  · simp only [Value.slice.injEq, Option.some.injEq, Addr.mk.injEq] at e1
    obtain ⟨⟨rfl, -⟩, -⟩ := e1
    exact ⟨hg, row_lt hq⟩
theorem Parcels.set {w : World} {B o n c : Nat} {a : Option Addr} {l : List Pcl} (h : Parcels w (.slice a n c) l) (hb : ∀ b o2, a = some ⟨b, o2, none⟩ → b ≠ B) (v : Value) : Parcels (w.setCell ⟨B, o, none⟩ v) (.slice a n c) l := by
  obtain ⟨a', cap, h1, h2, h3, h4, h5⟩ := h
  refine ⟨a', cap, h1, h2, h3, h4, fun k hk => ?_⟩
  obtain ⟨b', off, e, hc, hd, he⟩ := h5 k hk
  cases h1
  have hne := hb _ _ e
  exact ⟨b', off, e, (cell_other (.inl hne.symm)).trans hc, (cell_other (.inl hne.symm)).trans hd, (cell_other (.inl hne.symm)).trans he⟩
def c36 (k : Nat) : Int := if k = 0 then 5 else 7
theorem c36_at {k : Nat} (h : k < ([5, 7] : List Int).length) : ([5, 7] : List Int)[k] = c36 k := by
  match k, h with
  | 0, _ => rfl
  | 1, _ => rfl
theorem ss36_at {k : Nat} (h : k < ([11, 13] : List Int).length) : ([11, 13] : List Int)[k] = ss36 k := by
  match k, h with
  | 0, _ => rfl
  | 1, _ => rfl
theorem c36_r (k : Nat) : R64 (c36 k) := by unfold c36; split <;> exact R64.mk (by omega) (by omega)
theorem ss36_r (k : Nat) : R64 (ss36 k) := by unfold ss36; split <;> exact R64.mk (by omega) (by omega)

set_option maxRecDepth 100000 in
set_option maxHeartbeats 8000000 in
theorem dealt36_any (row by' : Int) (w : World) (hG : Glob w) (hby : 0 ≤ by' ∧ by' ≤ 1) (hrow : R64 row) :
    Calls Tryz.prog 50 #[.int .i64 row, .int .i64 by'] w fun r w' => ∃ v, r = .returned v ∧ DlgV w' v (D36 row by') ∧ Below w.heap.size w w' := by
  have HSD := Lib.hid (sd36 row by' hby)
  have HG := Lib.hid (fun W (h : Below w.heap.size w W) => hG.below h)
  have i5 : R64 5 := R64.mk (by omega) (by omega)
  have HBY := Lib.hid (And.intro hby hrow)
  clear hG hby
  obtain ⟨W0, hW0⟩ : ∃ W, W = (w.alloc (.cells #[.int .i64 0, .slice none 0 0, .slice none 0 0] 28)).alloc (.cells #[.int .i64 3, .slice none 0 0, .slice none 0 0] 28) := ⟨_, rfl⟩
  obtain ⟨W1, hW1⟩ : ∃ W, W = W0.alloc (.cells #[.int .i64 5, .int .i64 7] 3) := ⟨_, rfl⟩
  have hs0 : W0.heap.size = w.heap.size + 1 + 1 := by rw [hW0]; simp
  have hs1 : W1.heap.size = w.heap.size + 1 + 1 + 1 := by rw [hW1]; simp [hs0]
  have hb0 : Below w.heap.size w W0 := by rw [hW0]; exact ((Below.refl _ _).alloc (Nat.le_refl _) _).alloc (by simp) _
  have hb1 : Below W0.heap.size W0 W1 := by rw [hW1]; exact below_new _ _ _
  have hq0 : W0.heap[w.heap.size]? = some (.cells #[.int .i64 0, .slice none 0 0, .slice none 0 0] 28 (0, 0)) := by
    rw [hW0]; exact (Below.heap_alloc _ _ _ (by simp)).trans (World.alloc_heap_new _ _)
  have hq1 : W0.heap[w.heap.size + 1]? = some (.cells #[.int .i64 3, .slice none 0 0, .slice none 0 0] 28 (0, 0)) := by
    have := World.alloc_heap_new (w.alloc (.cells #[.int .i64 0, .slice none 0 0, .slice none 0 0] 28)) (.cells #[.int .i64 3, .slice none 0 0, .slice none 0 0] 28)
    rw [← hW0] at this; simpa using this
  have hl : Ints W1 (.slice (some ⟨w.heap.size + 1 + 1, 0, none⟩) 2 2) [5, 7] := by rw [hW1, ← hs0]; exact ints_lit2 _ _ _ _ i5 (R64.mk (by omega) (by omega))
  have Q0 := Lib.hid ((hb1.block _ (row_lt hq0)).trans hq0)
  have Q1 := Lib.hid ((hb1.block _ (row_lt hq1)).trans hq1)
  have HB := Lib.hid (hb0.trans (hb1.mono hb0.size))
  have HL := Lib.hid hl
  rw [hW0] at hW1
  have HW1 := Lib.hid hW1
  have HW0 := Lib.hid hW0
  have HS1 := Lib.hid hs1
  have h01 : W1.ownsRow W1.heap.size 3 1 (.slice none 0 0) 0 (((dealC [5, 7]).take 0).map (Value.int .i64)) := World.ownsRow_nil _ _ _ _
  clear hq0 hq1 hb0 hb1 hW0 hW1 hl hs0
  go_enter Tryz.func50, Tryz.ntmps50
  go_wp2_with fail
  rw [← HW1.out]
  go_loopw [7, 8, 9, 20] (fun _ _ _ i W => ∃ k : Nat, k ≤ 2 ∧ i = .int .i64 k ∧ Below w.heap.size w W ∧ W.heap[w.heap.size]? = some (.cells #[.int .i64 0, .slice none 0 0, .slice none 0 0] 28 (0, 0)) ∧ Ints W (.slice (some ⟨w.heap.size + 1 + 1, 0, none⟩) 2 2) [5, 7] ∧
    ∃ cv, W.heap[w.heap.size + 1]? = some (.cells #[.int .i64 3, cv, .slice none 0 0] 28 (0, 0)) ∧ W.ownsRow W1.heap.size 3 1 cv k (((dealC [5, 7]).take k).map (Value.int .i64)) ∧ W1.heap.size ≤ W.heap.size) (fun _ _ _ i _ => 2 - (intOf i).toNat)
  case atStart => exact ⟨0, Nat.zero_le _, rfl, HB.out, Q0.out, HL.out, _, Q1.out, h01, Nat.le_refl _⟩
  case round =>
    clear h01
    obtain ⟨k, hkl, rfl, hb, q0, hl, cv, q1, ho, hsz⟩ := hrel
    obtain ⟨a9, n9, k9, rfl⟩ := own_sl ho
    have Q0 := Lib.hid q0
    have Q1 := Lib.hid q1
    have HL := Lib.hid hl
    have HB := Lib.hid hb
    by_cases hlt : k < 2
    · have HO := Lib.hid ho
      obtain ⟨lb, lo, e9, l0⟩ := ints_at hl (k := k) hlt
      simp only [Option.some.injEq, Addr.mk.injEq, and_true] at e9
      obtain ⟨rfl, rfl⟩ := e9
      rw [c36_at hlt, Nat.zero_add] at l0
      have i1 : (k : Int) < 2 := by omega
      have HP := Lib.hid (fun W => pow_yes 4 (c36 k) W el_four (c36_r k))
      have HT : Hid ((dealC [5, 7]).take (k + 1) = (dealC [5, 7]).take k ++ [powE 4 (c36 k)]) := Lib.hid (by
        rw [List.take_succ_eq_append_getElem (by simpa [dealC] using hlt)]
        congr 2
        show ([5, 7].map (powE 4))[k]'(by simpa using hlt) = _
        rw [List.getElem_map, c36_at])
      have HEL := Lib.hid (el_powE el_four (c36 k)).r64
      generalize c36 k = n at *
      obtain ⟨z, hz⟩ : ∃ z, z = powE 4 n := ⟨_, rfl⟩
      rw [← hz] at HP HT HEL
      clear hz hb q0 q1 hl ho
      go_wp2_with fail
      with_reducible refine (HP.out _).mono ?_
      rintro e w2 ⟨rfl, hb2⟩
      have b1 := row_cell ((hb2.block _ (row_lt Q1.out)).trans Q1.out) (k := 1) (v := .slice a9 n9 k9) rfl
      have hb3 := hb2.alloc hb2.size (.cells #[.int .i64 z] 3)
      have HOX := Lib.hid (own_keep HO.out hb3)
      have HQ := Lib.hid (row_cell (World.alloc_heap_new w2 (.cells #[.int .i64 z] 3)) (k := 0) (v := .int .i64 z) rfl)
      have HBS : W1.heap.size ≤ (w2.alloc (.cells #[.int .i64 z] 3)).heap.size := Nat.le_trans hsz hb3.size
      have HB3 := Lib.hid hb3
      clear hb2 hb3
      go_wp2_with (refine app_int rfl _ _ rfl W1.heap.size k (.slice a9 n9 k9) _ rfl HOX.out w2.heap.size 1 z rfl HQ.out (by omega) HBS ?_; intro v9 w9 h9 o9; obtain ⟨a10, n10, k10, rfl⟩ := own_sl h9; have hb9 := own_below HOX.out o9 HBS; have x1 : w9.heap[w.heap.size + 1]? = some (.cells #[.int .i64 3, .slice a9 n9 k9, .slice none 0 0] 28 (0, 0)) := (hb9.block _ (by have := HS1.out; omega)).trans ((HB3.out.block _ (row_lt Q1.out)).trans Q1.out); have x2 := row_cell x1 (k := 1) (v := .slice a9 n9 k9) rfl; have x3 := row_free x1 1; have H9 := Lib.hid h9; have X1 := Lib.hid x1; have B9 := Lib.hid hb9; clear h9 o9 x1 hb9)
      go_roundw
      case rel =>
        have h1 := HS1.out
        have hbw := (HB.out.trans (HB3.out.mono HB.out.size)).trans (B9.out.mono (show w.heap.size ≤ W1.heap.size by omega))
        refine ⟨k + 1, by omega, by go_num, hbw.setCell (by show w.heap.size ≤ w.heap.size + 1; omega) _, ?_, ?_, .slice a10 n10 k10, ?_, ?_, ?_⟩
        · refine (Below.heap_setCell _ _ _ _ (by show w.heap.size ≠ w.heap.size + 1; omega)).trans ((B9.out.block _ (by omega)).trans ((HB3.out.block _ (row_lt Q0.out)).trans Q0.out))
        · refine ints_set ?_ (by omega) _
          exact ints_keep (HL.out.below HB3.out) B9.out (by omega)
        · exact row_set X1.out 1 _
        · rw [HT.out, List.map_append]; exact own_keep_set H9.out (by have := HS1.out; omega) _
        · have := B9.out.size; simp [World.setCell]; omega
      case measure => simp [intOf]; omega
    · have hk2 : (k : Int) = 2 := by omega
      rw [hk2]
      obtain rfl : k = 2 := by omega
      clear hk2
      rw [List.take_of_length_le (by simp [dealC])] at ho
      have hci : Ints wr (.slice a9 n9 k9) (dealC [5, 7]) := Ints.own ho (by intro z hz; simp [dealC] at hz; rcases hz with rfl | rfl <;> exact (el_powE el_four _).r64) (by simp [dealC])
      obtain ⟨g, cap, e9, -⟩ := own_some (x := .int .i64 (powE 4 5)) (xs := [.int .i64 (powE 4 7)]) ho
      simp only [Value.slice.injEq] at e9
      obtain ⟨rfl, rfl, rfl⟩ := e9
      obtain ⟨hg1, hg2⟩ := own_ge ho
      have hs1' := HS1.out
      obtain ⟨W2, hW2⟩ : ∃ W, W = wr.alloc (.cells #[.int .i64 11, .int .i64 13] 3) := ⟨_, rfl⟩
      have hb2 : Below wr.heap.size wr W2 := by rw [hW2]; exact below_new _ _ _
      have hs2 : W2.heap.size = wr.heap.size + 1 := by rw [hW2]; simp
      have HL2 := Lib.hid (show Ints W2 (.slice (some ⟨wr.heap.size, 0, none⟩) 2 2) [11, 13] by rw [hW2]; exact ints_lit2 _ _ _ _ (R64.mk (by omega) (by omega)) (R64.mk (by omega) (by omega)))
      have HC2 := Lib.hid (hci.below hb2)
      replace Q0 := Lib.hid ((hb2.block _ (row_lt Q0.out)).trans Q0.out)
      replace Q1 := Lib.hid ((hb2.block _ (row_lt Q1.out)).trans Q1.out)
      replace HB := Lib.hid (HB.out.trans (hb2.mono HB.out.size))
      have HW2 := Lib.hid hW2
      obtain ⟨L2, hL2⟩ : ∃ L2, L2 = wr.heap.size := ⟨_, rfl⟩
      have HN := Lib.hid (show w.heap.size + 1 < g ∧ g < L2 ∧ W2.heap.size = L2 + 1 by omega)
      rw [← hL2] at HL2
      have HL2E := Lib.hid hL2
      have h02 : W2.ownsRow W2.heap.size 49 3 (.slice none 0 0) 0 (((D36 row by').ps.take 0).flatMap parC) := World.ownsRow_nil _ _ _ _
      clear hb hl ho q0 q1 hci hg1 hg2 hb2 hs2 hW2 hL2 HL hsz hkl hlt hs1 hs1'
      go_wp2_with (rw [← HW2.out])
      rw [← HL2E.out]
      clear HW2 HL2E
      go_loopw [10, 11, 12, 13, 14, 15, 16, 38] (fun _ _ _ _ _ _ _ i W => ∃ k : Nat, k ≤ 2 ∧ i = .int .i64 k ∧ Below w.heap.size w W ∧ W.heap[w.heap.size]? = some (.cells #[.int .i64 0, .slice none 0 0, .slice none 0 0] 28 (0, 0)) ∧ Ints W (.slice (some ⟨L2, 0, none⟩) 2 2) [11, 13] ∧ Ints W (.slice (some ⟨g, 0, none⟩) 2 k9) (dealC [5, 7]) ∧
        ∃ pv, W.heap[w.heap.size + 1]? = some (.cells #[.int .i64 3, .slice (some ⟨g, 0, none⟩) 2 k9, pv] 28 (0, 0)) ∧ W.ownsRow W2.heap.size 49 3 pv k (((D36 row by').ps.take k).flatMap parC) ∧ W2.heap.size ≤ W.heap.size) (fun _ _ _ _ _ _ _ i _ => 2 - (intOf i).toNat)
      case atStart => exact ⟨0, Nat.zero_le _, rfl, HB.out, Q0.out, HL2.out, HC2.out, _, Q1.out, h02, Nat.le_refl _⟩
      case round =>
        clear h02
        obtain ⟨k, hkl, rfl, hb, q0, hl, hc, pv, q1, ho, hsz⟩ := hrel
        obtain ⟨a9, n9, k8, rfl⟩ := own_sl ho
        have Q0 := Lib.hid q0
        have Q1 := Lib.hid q1
        have HL := Lib.hid hl
        have HC := Lib.hid hc
        have HB := Lib.hid hb
        by_cases hlt : k < 2
        · have HO := Lib.hid ho
          obtain ⟨lb, lo, e9, l0⟩ := ints_at hl (k := k) hlt
          simp only [Option.some.injEq, Addr.mk.injEq, and_true] at e9
          obtain ⟨rfl, rfl⟩ := e9
          rw [ss36_at hlt, Nat.zero_add] at l0
          have i1 : (k : Int) < 2 := by omega
          have HSE := Lib.hid (show Sealed (17 + (k : Int)) (powE 4 (ss36 k)) 3 (k : Int) (vs36 row by' k) from
            ⟨by omega, el_powE el_four _, by omega, by omega, HSD.out.hv k (by show k < 2; omega)⟩)
          have HT : Hid ((D36 row by').ps.take (k + 1) = (D36 row by').ps.take k ++ [((k : Int), powE 4 (17 + (k : Int)), cipV (17 + (k : Int)) (powE 4 (ss36 k)) 3 (k : Int) (vs36 row by' k))]) := Lib.hid (by
            have hk : k < (D36 row by').ps.length := by unfold D36; rw [sealD_len]; exact hlt
            rw [List.take_succ_eq_append_getElem hk]
            congr 2
            exact (sealD_at (rows := R36) (x := 5) (rnd := [7]) (dealer := 3) (ss := ss36) (us := us36) (vs := vs36 row by') (i := k) hk).trans rfl)
          have HP := Lib.hid (fun W => pow_yes 4 (ss36 k) W el_four (ss36_r k))
          have HVS : Hid (vs36 row by' k = (5 + 7 * ((k : Int) + 1)) + if (k : Int) = row then by' else 0) := Lib.hid rfl
          generalize ss36 k = n at *
          obtain ⟨key, hkey⟩ : ∃ z, z = powE 4 n := ⟨_, rfl⟩
          rw [← hkey] at HP HT HSE
          generalize hvs : vs36 row by' k = v at *
          have w1 : IntKind.i64.wrap ((k : Int) + 1) = (k : Int) + 1 := IntWalk.i64_in _ (by omega)
          have w2 : IntKind.i64.wrap (7 * ((k : Int) + 1)) = 7 * ((k : Int) + 1) := IntWalk.i64_in _ (by omega)
          have w3 : IntKind.i64.wrap (5 + 7 * ((k : Int) + 1)) = 5 + 7 * ((k : Int) + 1) := IntWalk.i64_in _ (by omega)
          have w4 : IntKind.i64.wrap (17 + (k : Int)) = 17 + (k : Int) := IntWalk.i64_in _ (by omega)
          clear hkey hvs hb q0 q1 hl ho hc
          by_cases hkr : (k : Int) = row
          · have HV := Lib.hid (HVS.out.trans (by rw [if_pos hkr]))
            have w5 : IntKind.i64.wrap (5 + 7 * ((k : Int) + 1) + by') = v := by rw [HV.out]; exact IntWalk.i64_in _ (by have := HBY.out.1; omega)
            have d0 : ((k : Int) == row) = true := beq_iff_eq.2 hkr
            clear hkr
            go_wp2_with fail
            with_reducible refine (HP.out _).mono ?_
            rintro e w2 ⟨rfl, hb2⟩
            replace HB := Lib.hid (HB.out.trans (hb2.mono HB.out.size))
            replace Q0 := Lib.hid ((hb2.block _ (row_lt Q0.out)).trans Q0.out)
            replace Q1 := Lib.hid ((hb2.block _ (row_lt Q1.out)).trans Q1.out)
            replace HL := Lib.hid (HL.out.below hb2)
            replace HC := Lib.hid (HC.out.below hb2)
            replace HO := Lib.hid (own_keep HO.out hb2)
            have hsz2 := Nat.le_trans hsz hb2.size
            clear hb2 hsz
            go_wp2_with fail
            with_reducible refine (seal_yes (17 + (k : Int)) key 3 (k : Int) v _ HSE.out (HG.out _ HB.out)).mono ?_
            rintro e w3 ⟨rfl, hb3⟩
            obtain ⟨pt, hpt⟩ : ∃ z, z = powE 4 (17 + (k : Int)) := ⟨_, rfl⟩
            obtain ⟨ci, hci⟩ : ∃ z, z = cipV (17 + (k : Int)) key 3 (k : Int) v := ⟨_, rfl⟩
            rw [← hpt, ← hci] at HT ⊢
            clear hpt hci
            obtain ⟨W4, hW4, hb4, hr4, hs4⟩ := box36 w3 (.int .i64 (k : Int)) (.int .i64 pt) (.int .i64 ci) 49
            have hr5 := World.alloc_heap_new W4 (.cells #[.int .i64 (k : Int), .int .i64 pt, .int .i64 ci] 49)
            have hb5 := below_new W4 #[.int .i64 (k : Int), .int .i64 pt, .int .i64 ci] 49
            have z0 := row_cell hr4 (k := 0) (v := .int .i64 (k : Int)) rfl
            have z1 := row_cell hr4 (k := 1) (v := .int .i64 pt) rfl
            have z2 := row_cell hr4 (k := 2) (v := .int .i64 ci) rfl
            have y0 := Lib.hid (row_cell hr5 (k := 0) (v := .int .i64 (k : Int)) rfl)
            have y1 := Lib.hid (row_cell hr5 (k := 1) (v := .int .i64 pt) rfl)
            have y2 := Lib.hid (row_cell hr5 (k := 2) (v := .int .i64 ci) rfl)
            have hb6 := hb3.trans ((hb4.trans (hb5.mono hb4.size)).mono hb3.size)
            have hb34 := hb3.trans (hb4.mono hb3.size)
            have b1 := row_cell ((hb34.block _ (row_lt Q1.out)).trans Q1.out) (k := 2) (v := .slice a9 n9 k8) rfl
            have HOX := Lib.hid (own_keep HO.out hb6)
            have HB6 := Lib.hid hb6
            have HBS : W2.heap.size ≤ (W4.alloc (.cells #[.int .i64 (k : Int), .int .i64 pt, .int .i64 ci] 49)).heap.size := Nat.le_trans hsz2 hb6.size
            have HW4 := Lib.hid hW4
            clear hW4 hb4 hb5 hr4 hr5 hb3 hb6 hb34 hs4
            go_wp2_with (first | rw [← HW4.out] | (refine app_parcel rfl _ _ rfl W2.heap.size (.slice a9 n9 k8) _ k rfl HOX.out W4.heap.size 0 1 ((k : Int), pt, ci) rfl y0.out y1.out y2.out (by omega) HBS ?_; intro g9 c9 w9 h9 o9; have hb9 := own_below HOX.out o9.1 HBS; have x1 : w9.heap[w.heap.size + 1]? = some (.cells #[.int .i64 3, .slice (some ⟨g, 0, none⟩) 2 k9, .slice a9 n9 k8] 28 (0, 0)) := (hb9.block _ (by have := HN.out; omega)).trans ((HB6.out.block _ (row_lt Q1.out)).trans Q1.out); have x2 := row_cell x1 (k := 2) (v := .slice a9 n9 k8) rfl; have x3 := row_free x1 2; have H9 := Lib.hid h9; have X1 := Lib.hid x1; have B9 := Lib.hid hb9; clear h9 o9 x1 hb9))
            go_roundw
            case rel =>
              obtain ⟨n1, n2, n3⟩ := HN.out
              have hbw := (HB.out.trans (HB6.out.mono HB.out.size)).trans (B9.out.mono (show w.heap.size ≤ W2.heap.size by omega))
              refine ⟨k + 1, by omega, by go_num, hbw.setCell (by show w.heap.size ≤ w.heap.size + 1; omega) _, ?_, ?_, ?_, .slice (some ⟨g9, 0, none⟩) (k + 1) c9, ?_, ?_, ?_⟩
              · refine (Below.heap_setCell _ _ _ _ (by show w.heap.size ≠ w.heap.size + 1; omega)).trans ((B9.out.block _ (by omega)).trans ((HB6.out.block _ (row_lt Q0.out)).trans Q0.out))
              · refine ints_set ?_ (by omega) _
                exact ints_keep (HL.out.below HB6.out) B9.out (by omega)
              · refine ints_set ?_ (by omega) _
                exact ints_keep (HC.out.below HB6.out) B9.out (by omega)
              · exact row_set X1.out 2 _
              · rw [HT.out]; exact own_keep_set H9.out (by omega) _
              · have := B9.out.size; simp [World.setCell]; omega
            case measure => simp [intOf]; omega
          · have HV := Lib.hid (HVS.out.trans (by rw [if_neg hkr, Int.add_zero]))
            have d0 : ((k : Int) == row) = false := beq_eq_false_iff_ne.2 hkr
            clear hkr
            have hv := HV.out
            subst hv
            clear HV
            go_wp2_with fail
            with_reducible refine (HP.out _).mono ?_
            rintro e w2 ⟨rfl, hb2⟩
            replace HB := Lib.hid (HB.out.trans (hb2.mono HB.out.size))
            replace Q0 := Lib.hid ((hb2.block _ (row_lt Q0.out)).trans Q0.out)
            replace Q1 := Lib.hid ((hb2.block _ (row_lt Q1.out)).trans Q1.out)
            replace HL := Lib.hid (HL.out.below hb2)
            replace HC := Lib.hid (HC.out.below hb2)
            replace HO := Lib.hid (own_keep HO.out hb2)
            have hsz2 := Nat.le_trans hsz hb2.size
            clear hb2 hsz
            go_wp2_with fail
            with_reducible refine (seal_yes (17 + (k : Int)) key 3 (k : Int) (5 + 7 * ((k : Int) + 1)) _ HSE.out (HG.out _ HB.out)).mono ?_
            rintro e w3 ⟨rfl, hb3⟩
            obtain ⟨pt, hpt⟩ : ∃ z, z = powE 4 (17 + (k : Int)) := ⟨_, rfl⟩
            obtain ⟨ci, hci⟩ : ∃ z, z = cipV (17 + (k : Int)) key 3 (k : Int) (5 + 7 * ((k : Int) + 1)) := ⟨_, rfl⟩
            rw [← hpt, ← hci] at HT ⊢
            clear hpt hci
            obtain ⟨W4, hW4, hb4, hr4, hs4⟩ := box36 w3 (.int .i64 (k : Int)) (.int .i64 pt) (.int .i64 ci) 49
            have hr5 := World.alloc_heap_new W4 (.cells #[.int .i64 (k : Int), .int .i64 pt, .int .i64 ci] 49)
            have hb5 := below_new W4 #[.int .i64 (k : Int), .int .i64 pt, .int .i64 ci] 49
            have z0 := row_cell hr4 (k := 0) (v := .int .i64 (k : Int)) rfl
            have z1 := row_cell hr4 (k := 1) (v := .int .i64 pt) rfl
            have z2 := row_cell hr4 (k := 2) (v := .int .i64 ci) rfl
            have y0 := Lib.hid (row_cell hr5 (k := 0) (v := .int .i64 (k : Int)) rfl)
            have y1 := Lib.hid (row_cell hr5 (k := 1) (v := .int .i64 pt) rfl)
            have y2 := Lib.hid (row_cell hr5 (k := 2) (v := .int .i64 ci) rfl)
            have hb6 := hb3.trans ((hb4.trans (hb5.mono hb4.size)).mono hb3.size)
            have hb34 := hb3.trans (hb4.mono hb3.size)
            have b1 := row_cell ((hb34.block _ (row_lt Q1.out)).trans Q1.out) (k := 2) (v := .slice a9 n9 k8) rfl
            have HOX := Lib.hid (own_keep HO.out hb6)
            have HB6 := Lib.hid hb6
            have HBS : W2.heap.size ≤ (W4.alloc (.cells #[.int .i64 (k : Int), .int .i64 pt, .int .i64 ci] 49)).heap.size := Nat.le_trans hsz2 hb6.size
            have HW4 := Lib.hid hW4
            clear hW4 hb4 hb5 hr4 hr5 hb3 hb6 hb34 hs4
            go_wp2_with (first | rw [← HW4.out] | (refine app_parcel rfl _ _ rfl W2.heap.size (.slice a9 n9 k8) _ k rfl HOX.out W4.heap.size 0 1 ((k : Int), pt, ci) rfl y0.out y1.out y2.out (by omega) HBS ?_; intro g9 c9 w9 h9 o9; have hb9 := own_below HOX.out o9.1 HBS; have x1 : w9.heap[w.heap.size + 1]? = some (.cells #[.int .i64 3, .slice (some ⟨g, 0, none⟩) 2 k9, .slice a9 n9 k8] 28 (0, 0)) := (hb9.block _ (by have := HN.out; omega)).trans ((HB6.out.block _ (row_lt Q1.out)).trans Q1.out); have x2 := row_cell x1 (k := 2) (v := .slice a9 n9 k8) rfl; have x3 := row_free x1 2; have H9 := Lib.hid h9; have X1 := Lib.hid x1; have B9 := Lib.hid hb9; clear h9 o9 x1 hb9))
            go_roundw
            case rel =>
              obtain ⟨n1, n2, n3⟩ := HN.out
              have hbw := (HB.out.trans (HB6.out.mono HB.out.size)).trans (B9.out.mono (show w.heap.size ≤ W2.heap.size by omega))
              refine ⟨k + 1, by omega, by go_num, hbw.setCell (by show w.heap.size ≤ w.heap.size + 1; omega) _, ?_, ?_, ?_, .slice (some ⟨g9, 0, none⟩) (k + 1) c9, ?_, ?_, ?_⟩
              · refine (Below.heap_setCell _ _ _ _ (by show w.heap.size ≠ w.heap.size + 1; omega)).trans ((B9.out.block _ (by omega)).trans ((HB6.out.block _ (row_lt Q0.out)).trans Q0.out))
              · refine ints_set ?_ (by omega) _
                exact ints_keep (HL.out.below HB6.out) B9.out (by omega)
              · refine ints_set ?_ (by omega) _
                exact ints_keep (HC.out.below HB6.out) B9.out (by omega)
              · exact row_set X1.out 2 _
              · rw [HT.out]; exact own_keep_set H9.out (by omega) _
              · have := B9.out.size; simp [World.setCell]; omega
            case measure => simp [intOf]; omega
        · obtain rfl : k = 2 := by omega
          rw [List.take_of_length_le (by unfold D36; rw [sealD_len]; decide)] at ho
          have hps : Parcels wr (.slice a9 n9 k8) (D36 row by').ps := Parcels.own ho (by
            intro p hp
            unfold D36 at hp
            obtain ⟨i, hi, rfl⟩ := List.getElem_of_mem hp
            rw [sealD_at]
            have hi2 : i < 2 := by rw [sealD_len] at hi; exact hi
            refine ⟨R64.mk (by show (-4611686018427387904 : Int) ≤ (i : Int); omega) (by show (i : Int) ≤ 4611686018427387904; omega), (el_powE el_four _).r64, num_r64 (cipV_num _ _ _ _ _)⟩) (by unfold D36; rw [sealD_len]; decide)
          have HPS := Lib.hid hps
          have b0 := row_cell Q1.out (k := 0) (v := .int .i64 3) rfl
          have b1 := row_cell Q1.out (k := 1) (v := .slice (some ⟨g, 0, none⟩) 2 k9) rfl
          have b2 := row_cell Q1.out (k := 2) (v := .slice a9 n9 k8) rfl
          have x0 := row_cell Q0.out (k := 0) (v := .int .i64 0) rfl
          have x1 := row_cell Q0.out (k := 1) (v := .slice none 0 0) rfl
          have x2 := row_cell Q0.out (k := 2) (v := .slice none 0 0) rfl
          have f0 := row_free Q0.out 0
          have f1 := row_free Q0.out 1
          have f2 := row_free Q0.out 2
          have hpb : ∀ b o2, a9 = some ⟨b, o2, none⟩ → b ≠ w.heap.size := fun b o2 e => by
            rcases ho.2 with ⟨h0, -⟩ | ⟨g', cap', cur, e1, hg, -⟩
            · simp only [Value.slice.injEq] at h0; rw [e] at h0; cases h0.1
            · simp only [Value.slice.injEq] at e1; rw [e] at e1; simp only [Option.some.injEq, Addr.mk.injEq] at e1; have := HN.out; omega
          have hgb : g ≠ w.heap.size := by have := HN.out; omega
          have HX := Lib.hid (And.intro hpb hgb)
          clear hb q0 hl hc q1 ho hps hpb hgb
          have q := row_set (row_set (row_set Q0.out 0 (.int .i64 3)) 1 (.slice (some ⟨g, 0, none⟩) 2 k9)) 2 (.slice a9 n9 k8)
          have hbf := ((HB.out.setCell (p := ⟨w.heap.size, 0, none⟩) (Nat.le_refl _) (.int .i64 3)).setCell (p := ⟨w.heap.size, 1, none⟩) (Nat.le_refl _) (.slice (some ⟨g, 0, none⟩) 2 k9)).setCell (p := ⟨w.heap.size, 2, none⟩) (Nat.le_refl _) (.slice a9 n9 k8)
          have hcf := ints_set (o := 2) (ints_set (o := 1) (ints_set (o := 0) HC.out HX.out.2 (.int .i64 3)) HX.out.2 (.slice (some ⟨g, 0, none⟩) 2 k9)) HX.out.2 (.slice a9 n9 k8)
          have hpf := ((HPS.out.set (o := 0) HX.out.1 (.int .i64 3)).set (o := 1) HX.out.1 (.slice (some ⟨g, 0, none⟩) 2 k9)).set (o := 2) HX.out.1 (.slice a9 n9 k8)
          generalize hWf : ((wr.setCell ⟨w.heap.size, 0, none⟩ (.int .i64 3)).setCell ⟨w.heap.size, 1, none⟩ (.slice (some ⟨g, 0, none⟩) 2 k9)).setCell ⟨w.heap.size, 2, none⟩ (.slice a9 n9 k8) = Wf at *
          have y0 := row_cell q (k := 0) (v := .int .i64 3) rfl
          have y1 := row_cell q (k := 1) (v := .slice (some ⟨g, 0, none⟩) 2 k9) rfl
          have y2 := row_cell q (k := 2) (v := .slice a9 n9 k8) rfl
          have HWf := Lib.hid hWf
          clear hWf
          go_wp2_with fail
          rw [HWf.out]
          refine bodyPost_ret (v := .agg #[.int .i64 3, .slice (some ⟨g, 0, none⟩) 2 k9, .slice a9 n9 k8]) (by simp [results, Tryz.results50, go_sem, y0, y1, y2]) rfl ?_
          exact ⟨_, rfl, ⟨_, _, rfl, R64.mk (by show (-4611686018427387904 : Int) ≤ 3; omega) (by show (3 : Int) ≤ 4611686018427387904; omega), hcf, hpf⟩, hbf⟩

end Go.Proofs.YtggnipkfliompaaGreatDoor

namespace Go.Proofs.YtggnipkfliompaaGreatDoor
open Go.RowKit FP

end Go.Proofs.YtggnipkfliompaaGreatDoor

namespace Go.Proofs.YtggnipkfliompaaGreatDoor
open Go.RowKit

section
variable {P : Program} {d : Option Tmp} {t : TypeId} {p : String} {af : Array Edge} {g : Option (Nat × Bool)}
end

end Go.Proofs.YtggnipkfliompaaGreatDoor

namespace Go.Proofs.YtggnipkfliompaaGreatDoor
open Go.RowKit

section
variable {P : Program} {ops : Array Oper} {Q : Exit → Act → World → Prop} {md : Region.Mode} {S : World → Prop} {T : List Nat}

/-- Whatever order is picked from here on; S holds behind every operation that is carried out ahead of those of T. -/
def wpAnyL (P : Program) (md : Region.Mode) (ops : Array Oper) (Q : Exit → Act → World → Prop) (S : World → Prop) (T : List Nat) : Nat → Array Bool → Act → World → Prop
  | 0, listed, a, w => Region.ready md ops listed = [] ∧ Q .normal a w
  | fuel + 1, listed, a, w =>
    (Region.ready md ops listed = [] → Q .normal a w) ∧
    ∀ i ∈ Region.ready md ops listed, wpOp P ops Q i (fun a' w' => (i ∉ T → (∀ t ∈ T, listed.getD t true = false) → S w') ∧ wpAnyL P md ops Q S T fuel (listed.setIfInBounds i true) a' w') a w

/-- Does each of U wait for i, or for another one of U? -/
def waits (md : Region.Mode) (ops : Array Oper) (U : List Nat) (i : Nat) : Bool := U.all fun u => match ops[u]? with
  | some o => o.after.any fun e => Region.binds md e && (e.on == i || U.contains e.on)
  | none => false
/-- Each of the operations 'rs' comes up next. -/
def AllReadyL (P : Program) (md : Region.Mode) (ops : Array Oper) (Q : Exit → Act → World → Prop) (S : World → Prop) (T : List Nat) (fuel : Nat) (listed : Array Bool) (a : Act) (w : World) (rs : List Nat) : Prop :=
  ∀ i ∈ rs, wpOp P ops Q i (fun a' w' => (i ∉ T → (∀ t ∈ T, listed.getD t true = false) → S w') ∧ wpAnyL P md ops Q S T fuel (listed.setIfInBounds i true) a' w') a w
theorem AllReadyL.nil {fuel : Nat} {listed : Array Bool} {a : Act} {w : World} : AllReadyL P md ops Q S T fuel listed a w [] := fun _ h => by cases h
theorem AllReadyL.cons {fuel : Nat} {listed : Array Bool} {a : Act} {w : World} {i : Nat} {o : Oper} {rs : List Nat} (ho : ops[i]? = some o) (hT : T.contains i = false)
    (h : ∀ K' : Act → World → Prop, Shut (∀ a w, S w → wpAnyL P md ops Q S T fuel (listed.setIfInBounds i true) a w → K' a w) → if Region.wanted o (yielded ops a.tmps) = true then Oper.wp P o a w K' Q else K' (a.put o.dst undef) w)
    (hs : AllReadyL P md ops Q S T fuel listed a w rs) : AllReadyL P md ops Q S T fuel listed a w (i :: rs) := fun j hj => by
  rcases List.mem_cons.1 hj with rfl | hj
  · exact wpOp_step ho (fun K' hK => h K' (fun a w hS hW => hK a w ⟨fun _ _ => hS, hW⟩))
  · exact hs j hj
end

end Go.Proofs.YtggnipkfliompaaGreatDoor
