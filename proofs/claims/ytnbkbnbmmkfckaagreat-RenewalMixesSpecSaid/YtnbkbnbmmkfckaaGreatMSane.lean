/- The laws' examples: sane returns true. What the calls give, with their values known: for the laws. The rank, row by row; and that of the columns. What LinearSums and LinearChanged say, without a program: combinations of sums; rows that are changed. -/
import Derived.Test.YtnbkbnbmmkfckaaGreatMLaF
import Derived.Test.YtnbkbnbmmkfckaaGreatMLinU
namespace Go.Proofs.YtnbkbnbmmkfckaaGreat
open Go.RowKit

theorem ints_lit (w : World) (zs : List Int) (cs : Array Value) (t : TypeId) (hc : cs = (zs.map (Value.int .i64)).toArray) (hr : ∀ z ∈ zs, R64 z) (hn : zs.length ≤ 1000) : Ints (w.alloc (.cells cs t)) (.slice (some ⟨w.heap.size, 0, none⟩) zs.length zs.length) zs := by
  refine ⟨_, _, rfl, Nat.le_refl _, by omega, hr, fun k hk => ⟨_, 0, rfl, ?_⟩⟩
  rw [World.cell?_alloc_at _ _ _ _ rfl, hc, Nat.zero_add]
  simp [hk]
theorem rows_lit (w : World) (rows : List (List Int)) (hs : List Value) (cs : Array Value) (t : TypeId) (hc : cs = hs.toArray) (hl : hs.length = rows.length) (hn : rows.length ≤ 1000) (hi : ∀ k (h1 : k < hs.length) (h2 : k < rows.length), Ints w hs[k] rows[k]) :
    Rows2 (w.alloc (.cells cs t)) (.slice (some ⟨w.heap.size, 0, none⟩) rows.length rows.length) rows := by
  refine ⟨_, _, rfl, Nat.le_refl _, by omega, fun k hk => ⟨_, 0, hs[k]'(by omega), rfl, ?_, (hi k (by omega) hk).below ((Below.refl _ _).alloc (Nat.le_refl _) _)⟩⟩
  rw [World.cell?_alloc_at _ _ _ _ rfl, hc, Nat.zero_add]
  simp [show k < hs.length by omega]

abbrev sl (b n : Nat) : Value := .slice (some ⟨b, 0, none⟩) n n
theorem below_a (w : World) (o : Obj) : Below w.heap.size w (w.alloc o) := (Below.refl _ _).alloc (Nat.le_refl _) o

theorem r2 (z : Int) (h : decide (-9223372036854775808 ≤ z ∧ z ≤ 9223372036854775807) = true) : R64 z := by unfold R64; simpa using h
theorem rall (zs : List Int) (h : (zs.all fun z => decide (-9223372036854775808 ≤ z ∧ z ≤ 9223372036854775807)) = true) : ∀ z ∈ zs, R64 z := fun z hz => r2 z (List.all_eq_true.1 h z hz)

/-- One row of literals. -/
theorem rows_1 (w : World) (a : List Int) (ca : Array Value) (t u : TypeId) (h1 : ca = (a.map (Value.int .i64)).toArray) (r1 : (a.all fun z => decide (-9223372036854775808 ≤ z ∧ z ≤ 9223372036854775807)) = true) (n1 : a.length ≤ 1000) :
    Rows2 ((w.alloc (.cells ca t)).alloc (.cells #[sl w.heap.size a.length] u)) (sl (w.heap.size + 1) 1) [a] := by
  have := rows_lit (w.alloc (.cells ca t)) [a] [sl w.heap.size a.length] #[sl w.heap.size a.length] u rfl rfl (by simp) (fun k k1 k2 => by
    obtain rfl : k = 0 := by simp at k1; omega
    exact ints_lit w a ca t h1 (rall a r1) n1)
  simpa using this
theorem rows_2 (w : World) (a b : List Int) (ca cb : Array Value) (t u : TypeId) (h1 : ca = (a.map (Value.int .i64)).toArray) (h2 : cb = (b.map (Value.int .i64)).toArray) (r1 : (a.all fun z => decide (-9223372036854775808 ≤ z ∧ z ≤ 9223372036854775807)) = true) (r2 : (b.all fun z => decide (-9223372036854775808 ≤ z ∧ z ≤ 9223372036854775807)) = true) (n1 : a.length ≤ 1000) (n2 : b.length ≤ 1000) :
    Rows2 (((w.alloc (.cells ca t)).alloc (.cells cb t)).alloc (.cells #[sl w.heap.size a.length, sl (w.heap.size + 1) b.length] u)) (sl (w.heap.size + 1 + 1) 2) [a, b] := by
  have ib := ints_lit (w.alloc (.cells ca t)) b cb t h2 (rall b r2) n2
  have ia := (ints_lit w a ca t h1 (rall a r1) n1).below (below_a _ (.cells cb t))
  have := rows_lit ((w.alloc (.cells ca t)).alloc (.cells cb t)) [a, b] [sl w.heap.size a.length, sl (w.heap.size + 1) b.length] _ u rfl rfl (by simp) (fun k k1 k2 => by
    have : k = 0 ∨ k = 1 := by simp at k1; omega
    rcases this with rfl | rfl
    · exact ia
    · simpa using ib)
  simpa using this
theorem rows_3 (w : World) (a b c : List Int) (ca cb cc : Array Value) (t u : TypeId) (h1 : ca = (a.map (Value.int .i64)).toArray) (h2 : cb = (b.map (Value.int .i64)).toArray) (h3 : cc = (c.map (Value.int .i64)).toArray) (r1 : (a.all fun z => decide (-9223372036854775808 ≤ z ∧ z ≤ 9223372036854775807)) = true) (r2 : (b.all fun z => decide (-9223372036854775808 ≤ z ∧ z ≤ 9223372036854775807)) = true) (r3 : (c.all fun z => decide (-9223372036854775808 ≤ z ∧ z ≤ 9223372036854775807)) = true) (n1 : a.length ≤ 1000) (n2 : b.length ≤ 1000) (n3 : c.length ≤ 1000) :
    Rows2 ((((w.alloc (.cells ca t)).alloc (.cells cb t)).alloc (.cells cc t)).alloc (.cells #[sl w.heap.size a.length, sl (w.heap.size + 1) b.length, sl (w.heap.size + 1 + 1) c.length] u)) (sl (w.heap.size + 1 + 1 + 1) 3) [a, b, c] := by
  have ic := ints_lit ((w.alloc (.cells ca t)).alloc (.cells cb t)) c cc t h3 (rall c r3) n3
  have ib := (ints_lit (w.alloc (.cells ca t)) b cb t h2 (rall b r2) n2).below (below_a _ (.cells cc t))
  have ia := ((ints_lit w a ca t h1 (rall a r1) n1).below (below_a _ (.cells cb t))).below (below_a _ (.cells cc t))
  have := rows_lit (((w.alloc (.cells ca t)).alloc (.cells cb t)).alloc (.cells cc t)) [a, b, c] [sl w.heap.size a.length, sl (w.heap.size + 1) b.length, sl (w.heap.size + 1 + 1) c.length] _ u rfl rfl (by simp) (fun k k1 k2 => by
    have : k = 0 ∨ k = 1 ∨ k = 2 := by simp at k1; omega
    rcases this with rfl | rfl | rfl
    · exact ia
    · simpa using ib
    · simpa using ic)
  simpa using this

set_option maxRecDepth 100000 in
/-- Combine and Separate at rows whose result is known. -/
theorem Combine_is (v u : Value) (rows : List (List Int)) (t y : List Int) (ok : Bool) (e : Int) (w : World) (hI : Rows2 w v rows) (hU : Ints w u t) (he : examErr rows t = e) (hok : (decide (e = 0) && combOk rows t) = ok) (hy : (if e = 0 ∧ combOk rows t = true then combY rows t else []) = y) :
    Calls Tryz.prog 74 #[v, u] w fun r w' => ∃ yv, r = .returned (.tuple #[yv, .bool ok, .int .i64 e]) ∧ Ints w' yv y ∧ Below w.heap.size w w' :=
  (Combine_any v u rows t w hI hU).mono fun r w' ⟨yv, h1, h2, h3⟩ => ⟨yv, by rw [h1, he, hok], by rw [he, hy] at h2; exact h2, h3⟩
/-! The calls, one by one. -/
set_option maxRecDepth 100000 in
theorem s3 (w : World) : Calls Tryz.prog 74 #[sl (w.heap.size + 1 + 1) 2, sl (w.heap.size + 1 + 1 + 1) 2]
    ((((w.alloc (.cells #[.int .i64 1, .int .i64 1] 3)).alloc (.cells #[.int .i64 0, .int .i64 1] 3)).alloc (.cells #[sl w.heap.size 2, sl (w.heap.size + 1) 2] 23)).alloc (.cells #[.int .i64 1, .int .i64 0] 3))
    fun r w' => ∃ yv, r = .returned (.tuple #[yv, .bool true, .int .i64 0]) ∧ Ints w' yv [1, 1073741788] ∧ Below w.heap.size w w' := by
  have hT := ints_lit (((w.alloc (.cells #[.int .i64 1, .int .i64 1] 3)).alloc (.cells #[.int .i64 0, .int .i64 1] 3)).alloc (.cells #[sl w.heap.size 2, sl (w.heap.size + 1) 2] 23)) [1, 0] #[.int .i64 1, .int .i64 0] 3 rfl (rall _ (by decide)) (by decide)
  simp only [World.size_alloc] at hT
  exact (Combine_is _ _ [[1, 1], [0, 1]] [1, 0] [1, 1073741788] true 0 _ ((rows_2 w [1, 1] [0, 1] _ _ 3 23 rfl rfl (by decide) (by decide) (by decide) (by decide)).below (below_a _ _)) hT (by decide) (by rw [ex_comb1.1]; rfl) (by rw [ex_comb1.1, ex_comb1.2]; rfl)).mono
    fun r w' ⟨yv, h1, h2, h3⟩ => ⟨yv, h1, h2, ((below_three w _ _ _).alloc (by simp; omega) _).trans (h3.mono (by simp; omega))⟩

set_option maxRecDepth 100000 in
theorem s5 (w : World) : Calls Tryz.prog 74 #[sl (w.heap.size + 1) 1, sl (w.heap.size + 1 + 1) 2]
    (((w.alloc (.cells #[.int .i64 1, .int .i64 1] 3)).alloc (.cells #[sl w.heap.size 2] 23)).alloc (.cells #[.int .i64 1, .int .i64 0] 3))
    fun r w' => ∃ yv, r = .returned (.tuple #[yv, .bool false, .int .i64 0]) ∧ Ints w' yv [] ∧ Below w.heap.size w w' := by
  have hT := ints_lit ((w.alloc (.cells #[.int .i64 1, .int .i64 1] 3)).alloc (.cells #[sl w.heap.size 2] 23)) [1, 0] #[.int .i64 1, .int .i64 0] 3 rfl (rall _ (by decide)) (by decide)
  simp only [World.size_alloc] at hT
  exact (Combine_is _ _ [[1, 1]] [1, 0] [] false 0 _ ((rows_1 w [1, 1] _ 3 23 rfl (by decide) (by decide)).below (below_a _ _)) hT (by decide) (by rw [ex_comb2]; rfl) (by rw [ex_comb2]; rfl)).mono
    fun r w' ⟨yv, h1, h2, h3⟩ => ⟨yv, h1, h2, (below_three w _ _ _).trans (h3.mono (by simp; try omega))⟩
set_option maxRecDepth 100000 in
theorem s7 (w : World) : Calls Tryz.prog 74 #[.slice none 0 0, sl w.heap.size 2]
    (w.alloc (.cells #[.int .i64 0, .int .i64 0] 3))
    fun r w' => ∃ yv, r = .returned (.tuple #[yv, .bool true, .int .i64 0]) ∧ Ints w' yv [] ∧ Below w.heap.size w w' := by
  have hT := ints_lit w [0, 0] #[.int .i64 0, .int .i64 0] 3 rfl (rall _ (by decide)) (by decide)
  exact (Combine_is _ _ [] [0, 0] [] true 0 _ (Rows2.nil _ _ _) hT (by decide) (by rw [ex_comb3.1]; rfl) (by rw [ex_comb3.1, ex_comb3.2]; rfl)).mono
    fun r w' ⟨yv, h1, h2, h3⟩ => ⟨yv, h1, h2, (below_a w _).trans (h3.mono (by simp; try omega))⟩
set_option maxRecDepth 100000 in
theorem s9 (w : World) : Calls Tryz.prog 74 #[sl (w.heap.size + 1 + 1 + 1) 3, sl (w.heap.size + 1 + 1 + 1 + 1) 2]
    (((((w.alloc (.cells #[.int .i64 1, .int .i64 1] 3)).alloc (.cells #[.int .i64 2, .int .i64 2] 3)).alloc (.cells #[.int .i64 0, .int .i64 1] 3)).alloc (.cells #[sl w.heap.size 2, sl (w.heap.size + 1) 2, sl (w.heap.size + 1 + 1) 2] 23)).alloc (.cells #[.int .i64 2, .int .i64 3] 3))
    fun r w' => ∃ yv, r = .returned (.tuple #[yv, .bool true, .int .i64 0]) ∧ Ints w' yv [2, 0, 1] ∧ Below w.heap.size w w' := by
  have hT := ints_lit ((((w.alloc (.cells #[.int .i64 1, .int .i64 1] 3)).alloc (.cells #[.int .i64 2, .int .i64 2] 3)).alloc (.cells #[.int .i64 0, .int .i64 1] 3)).alloc (.cells #[sl w.heap.size 2, sl (w.heap.size + 1) 2, sl (w.heap.size + 1 + 1) 2] 23)) [2, 3] #[.int .i64 2, .int .i64 3] 3 rfl (rall _ (by decide)) (by decide)
  simp only [World.size_alloc] at hT
  exact (Combine_is _ _ [[1, 1], [2, 2], [0, 1]] [2, 3] [2, 0, 1] true 0 _ ((rows_3 w [1, 1] [2, 2] [0, 1] _ _ _ 3 23 rfl rfl rfl (by decide) (by decide) (by decide) (by decide) (by decide) (by decide)).below (below_a _ _)) hT (by decide) (by rw [ex_comb4.1]; rfl) (by rw [ex_comb4.1, ex_comb4.2]; rfl)).mono
    fun r w' ⟨yv, h1, h2, h3⟩ => ⟨yv, h1, h2, (((below_three w _ _ _).alloc (by simp; omega) _).alloc (by simp; omega) _).trans (h3.mono (by simp; try omega))⟩
end Go.Proofs.YtnbkbnbmmkfckaaGreat

namespace Go.Proofs.YtnbkbnbmmkfckaaGreat
open Go.RowKit

set_option maxRecDepth 100000 in
theorem Comb_yes (v u : Value) (rows : List (List Int)) (t : List Int) (w : World) (hI : Rows2 w v rows) (hU : Ints w u t) (h0 : examErr rows t = 0) (hok : rcombOk rows t = true) :
    Calls Tryz.prog 74 #[v, u] w fun r w' => ∃ yv, r = .returned (.tuple #[yv, .bool true, .int .i64 0]) ∧ Ints w' yv (rcombY rows t) ∧ Below w.heap.size w w' := by
  refine Combine_is v u rows t _ _ _ w hI hU h0 ?_ ?_
  · have := (comb_err (rows := rows) (t := t)).1
    rw [h0, hok] at this; exact this
  · have := (comb_err (rows := rows) (t := t)).2
    rw [h0] at this
    rw [this, if_pos ⟨rfl, hok⟩]
set_option maxRecDepth 100000 in
theorem Comb_no (v u : Value) (rows : List (List Int)) (t : List Int) (w : World) (hI : Rows2 w v rows) (hU : Ints w u t) (h0 : examErr rows t = 0) (hok : rcombOk rows t = false) :
    Calls Tryz.prog 74 #[v, u] w fun r w' => ∃ yv, r = .returned (.tuple #[yv, .bool false, .int .i64 0]) ∧ Ints w' yv [] ∧ Below w.heap.size w w' := by
  refine Combine_is v u rows t _ _ _ w hI hU h0 ?_ ?_
  · have := (comb_err (rows := rows) (t := t)).1
    rw [h0, hok] at this; exact this
  · have := (comb_err (rows := rows) (t := t)).2
    rw [h0] at this
    rw [this, if_neg (by rw [hok]; simp)]
theorem rcombY_len (rows : List (List Int)) (t : List Int) : (rcombY rows t).length = rows.length := by simp [rcombY]

end Go.Proofs.YtnbkbnbmmkfckaaGreat

namespace Go.Proofs.YtnbkbnbmmkfckaaGreat

theorem right_wide {rows : List (List Int)} {m : Nat} (h : Right rows m) (hn : rows ≠ []) : wide rows = m := by
  cases rows with
  | nil => exact absurd rfl hn
  | cons r l => exact h.len r (by simp)
theorem right_check {rows : List (List Int)} {m : Nat} (h : Right rows m) : checkErr rows = 0 := by
  rw [checkErr_few h.few]
  by_cases hn : rows = []
  · subst hn; rfl
  · have hm : m ≤ 64 := by
      rcases h.narrow with h1 | h1
      · exact h1
      · exact absurd h1 hn
    refine kindErr_ok rows (fun r hr => by rw [h.len r hr]; exact hm) (fun r hr => ?_)
    unfold rowOk
    rw [right_wide h hn, decide_eq_true (h.len r hr), any_no (fun z hz => by
      have := h.num r hr z hz
      simp [oddQ]; omega)]; rfl

/-! Prefixes. -/
end Go.Proofs.YtnbkbnbmmkfckaaGreat

namespace Go.Proofs.YtnbkbnbmmkfckaaGreat

end Go.Proofs.YtnbkbnbmmkfckaaGreat
