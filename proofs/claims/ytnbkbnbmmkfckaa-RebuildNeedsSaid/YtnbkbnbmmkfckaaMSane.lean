/- The laws' examples: sane returns true. What the calls give, with their values known: for the laws. The rank, row by row; and that of the columns. What LinearSums and LinearChanged say, without a program: combinations of sums; rows that are changed. -/
import Derived.Test.YtnbkbnbmmkfckaaMLaF
import Derived.Test.YtnbkbnbmmkfckaaMLinU
namespace Go.Proofs.Ytnbkbnbmmkfckaa
open Go.RowKit

theorem ints_lit (w : World) (zs : List Int) (cs : Array Value) (t : TypeId) (hc : cs = (zs.map (Value.int .i64)).toArray) (hr : ∀ z ∈ zs, R64 z) (hn : zs.length ≤ 1000) : Ints (w.alloc (.cells cs t)) (.slice (some ⟨w.heap.size, 0, none⟩) zs.length zs.length) zs := by
  refine ⟨_, _, rfl, Nat.le_refl _, by omega, hr, fun k hk => ⟨_, 0, rfl, ?_⟩⟩
  rw [World.cell?_alloc_at _ _ _ _ rfl, hc, Nat.zero_add]
  simp [hk]
theorem rows_lit (w : World) (rows : List (List Int)) (hs : List Value) (cs : Array Value) (t : TypeId) (hc : cs = hs.toArray) (hl : hs.length = rows.length) (hn : rows.length ≤ 1000) (hi : ∀ k (h1 : k < hs.length) (h2 : k < rows.length), Ints w hs[k] rows[k]) :
    Rows2 (w.alloc (.cells cs t)) (.slice (some ⟨w.heap.size, 0, none⟩) rows.length rows.length) rows := by
  refine ⟨_, _, rfl, Nat.le_refl _, by omega, fun k hk => ⟨_, 0, hs[k]'(by omega), rfl, ?_, (hi k (by omega) hk).below ((Below.refl _ _).alloc (Nat.le_refl _) _)⟩⟩
  rw [World.cell?_alloc_at _ _ _ _ rfl, hc, Nat.zero_add]
  simp [show k < hs.length by omega]

abbrev sl (b n : Nat) : Value := .slice (some ⟨b, 0, none⟩) n n
theorem below_a (w : World) (o : Obj) : Below w.heap.size w (w.alloc o) := (Below.refl _ _).alloc (Nat.le_refl _) o

theorem r2 (z : Int) (h : decide (-9223372036854775808 ≤ z ∧ z ≤ 9223372036854775807) = true) : R64 z := by unfold R64; simpa using h
theorem rall (zs : List Int) (h : (zs.all fun z => decide (-9223372036854775808 ≤ z ∧ z ≤ 9223372036854775807)) = true) : ∀ z ∈ zs, R64 z := fun z hz => r2 z (List.all_eq_true.1 h z hz)

/-- One row of literals. -/
theorem rows_1 (w : World) (a : List Int) (ca : Array Value) (t u : TypeId) (h1 : ca = (a.map (Value.int .i64)).toArray) (r1 : (a.all fun z => decide (-9223372036854775808 ≤ z ∧ z ≤ 9223372036854775807)) = true) (n1 : a.length ≤ 1000) :
    Rows2 ((w.alloc (.cells ca t)).alloc (.cells #[sl w.heap.size a.length] u)) (sl (w.heap.size + 1) 1) [a] := by
  have := rows_lit (w.alloc (.cells ca t)) [a] [sl w.heap.size a.length] #[sl w.heap.size a.length] u rfl rfl (by simp) (fun k k1 k2 => by
    obtain rfl : k = 0 := by simp at k1; omega
    exact ints_lit w a ca t h1 (rall a r1) n1)
  simpa using this
theorem rows_2 (w : World) (a b : List Int) (ca cb : Array Value) (t u : TypeId) (h1 : ca = (a.map (Value.int .i64)).toArray) (h2 : cb = (b.map (Value.int .i64)).toArray) (r1 : (a.all fun z => decide (-9223372036854775808 ≤ z ∧ z ≤ 9223372036854775807)) = true) (r2 : (b.all fun z => decide (-9223372036854775808 ≤ z ∧ z ≤ 9223372036854775807)) = true) (n1 : a.length ≤ 1000) (n2 : b.length ≤ 1000) :
    Rows2 (((w.alloc (.cells ca t)).alloc (.cells cb t)).alloc (.cells #[sl w.heap.size a.length, sl (w.heap.size + 1) b.length] u)) (sl (w.heap.size + 1 + 1) 2) [a, b] := by
  have ib := ints_lit (w.alloc (.cells ca t)) b cb t h2 (rall b r2) n2
  have ia := (ints_lit w a ca t h1 (rall a r1) n1).below (below_a _ (.cells cb t))
  have := rows_lit ((w.alloc (.cells ca t)).alloc (.cells cb t)) [a, b] [sl w.heap.size a.length, sl (w.heap.size + 1) b.length] _ u rfl rfl (by simp) (fun k k1 k2 => by
    have : k = 0 ∨ k = 1 := by simp at k1; omega
    rcases this with rfl | rfl
    · exact ia
    · simpa using ib)
  simpa using this
theorem rows_3 (w : World) (a b c : List Int) (ca cb cc : Array Value) (t u : TypeId) (h1 : ca = (a.map (Value.int .i64)).toArray) (h2 : cb = (b.map (Value.int .i64)).toArray) (h3 : cc = (c.map (Value.int .i64)).toArray) (r1 : (a.all fun z => decide (-9223372036854775808 ≤ z ∧ z ≤ 9223372036854775807)) = true) (r2 : (b.all fun z => decide (-9223372036854775808 ≤ z ∧ z ≤ 9223372036854775807)) = true) (r3 : (c.all fun z => decide (-9223372036854775808 ≤ z ∧ z ≤ 9223372036854775807)) = true) (n1 : a.length ≤ 1000) (n2 : b.length ≤ 1000) (n3 : c.length ≤ 1000) :
    Rows2 ((((w.alloc (.cells ca t)).alloc (.cells cb t)).alloc (.cells cc t)).alloc (.cells #[sl w.heap.size a.length, sl (w.heap.size + 1) b.length, sl (w.heap.size + 1 + 1) c.length] u)) (sl (w.heap.size + 1 + 1 + 1) 3) [a, b, c] := by
  have ic := ints_lit ((w.alloc (.cells ca t)).alloc (.cells cb t)) c cc t h3 (rall c r3) n3
  have ib := (ints_lit (w.alloc (.cells ca t)) b cb t h2 (rall b r2) n2).below (below_a _ (.cells cc t))
  have ia := ((ints_lit w a ca t h1 (rall a r1) n1).below (below_a _ (.cells cb t))).below (below_a _ (.cells cc t))
  have := rows_lit (((w.alloc (.cells ca t)).alloc (.cells cb t)).alloc (.cells cc t)) [a, b, c] [sl w.heap.size a.length, sl (w.heap.size + 1) b.length, sl (w.heap.size + 1 + 1) c.length] _ u rfl rfl (by simp) (fun k k1 k2 => by
    have : k = 0 ∨ k = 1 ∨ k = 2 := by simp at k1; omega
    rcases this with rfl | rfl | rfl
    · exact ia
    · simpa using ib
    · simpa using ic)
  simpa using this

set_option maxRecDepth 100000 in
/-- Combine and Separate at rows whose result is known. -/
theorem Combine_is (v u : Value) (rows : List (List Int)) (t y : List Int) (ok : Bool) (e : Int) (w : World) (hI : Rows2 w v rows) (hU : Ints w u t) (he : examErr rows t = e) (hok : (decide (e = 0) && combOk rows t) = ok) (hy : (if e = 0 ∧ combOk rows t = true then combY rows t else []) = y) :
    Calls Try.prog 54 #[v, u] w fun r w' => ∃ yv, r = .returned (.tuple #[yv, .bool ok, .int .i64 e]) ∧ Ints w' yv y ∧ Below w.heap.size w w' :=
  (Combine_any v u rows t w hI hU).mono fun r w' ⟨yv, h1, h2, h3⟩ => ⟨yv, by rw [h1, he, hok], by rw [he, hy] at h2; exact h2, h3⟩
set_option maxRecDepth 100000 in
theorem Separate_is (v u : Value) (rows : List (List Int)) (t y : List Int) (ok : Bool) (e : Int) (w : World) (hI : Rows2 w v rows) (hU : Ints w u t) (he : examErr rows t = e) (hok : (decide (e = 0) && (sepQ rows t).isSome) = ok) (hy : (if e = 0 then (sepQ rows t).getD [] else []) = y) :
    Calls Try.prog 28 #[v, u] w fun r w' => ∃ yv, r = .returned (.tuple #[yv, .bool ok, .int .i64 e]) ∧ Ints w' yv y ∧ Below w.heap.size w w' :=
  (Separate_any v u rows t w hI hU).mono fun r w' ⟨yv, h1, h2, h3⟩ => ⟨yv, by rw [h1, he, hok], by rw [he, hy] at h2; exact h2, h3⟩
/-! The calls, one by one. -/
set_option maxRecDepth 100000 in
theorem s3 (w : World) : Calls Try.prog 54 #[sl (w.heap.size + 1 + 1) 2, sl (w.heap.size + 1 + 1 + 1) 2]
    ((((w.alloc (.cells #[.int .i64 1, .int .i64 1] 3)).alloc (.cells #[.int .i64 0, .int .i64 1] 3)).alloc (.cells #[sl w.heap.size 2, sl (w.heap.size + 1) 2] 23)).alloc (.cells #[.int .i64 1, .int .i64 0] 3))
    fun r w' => ∃ yv, r = .returned (.tuple #[yv, .bool true, .int .i64 0]) ∧ Ints w' yv [1, 1073741788] ∧ Below w.heap.size w w' := by
  have hT := ints_lit (((w.alloc (.cells #[.int .i64 1, .int .i64 1] 3)).alloc (.cells #[.int .i64 0, .int .i64 1] 3)).alloc (.cells #[sl w.heap.size 2, sl (w.heap.size + 1) 2] 23)) [1, 0] #[.int .i64 1, .int .i64 0] 3 rfl (rall _ (by decide)) (by decide)
  simp only [World.size_alloc] at hT
  exact (Combine_is _ _ [[1, 1], [0, 1]] [1, 0] [1, 1073741788] true 0 _ ((rows_2 w [1, 1] [0, 1] _ _ 3 23 rfl rfl (by decide) (by decide) (by decide) (by decide)).below (below_a _ _)) hT (by decide) (by rw [ex_comb1.1]; rfl) (by rw [ex_comb1.1, ex_comb1.2]; rfl)).mono
    fun r w' ⟨yv, h1, h2, h3⟩ => ⟨yv, h1, h2, ((below_three w _ _ _).alloc (by simp; omega) _).trans (h3.mono (by simp; omega))⟩

set_option maxRecDepth 100000 in
theorem s4 (w : World) : Calls Try.prog 28 #[sl (w.heap.size + 1) 1, sl (w.heap.size + 1 + 1) 2]
    (((w.alloc (.cells #[.int .i64 1, .int .i64 1] 3)).alloc (.cells #[sl w.heap.size 2] 23)).alloc (.cells #[.int .i64 1, .int .i64 0] 3))
    fun r w' => ∃ yv, r = .returned (.tuple #[yv, .bool true, .int .i64 0]) ∧ Ints w' yv [1, 1073741788] ∧ Below w.heap.size w w' := by
  have hT := ints_lit ((w.alloc (.cells #[.int .i64 1, .int .i64 1] 3)).alloc (.cells #[sl w.heap.size 2] 23)) [1, 0] #[.int .i64 1, .int .i64 0] 3 rfl (rall _ (by decide)) (by decide)
  simp only [World.size_alloc] at hT
  exact (Separate_is _ _ [[1, 1]] [1, 0] [1, 1073741788] true 0 _ ((rows_1 w [1, 1] _ 3 23 rfl (by decide) (by decide)).below (below_a _ _)) hT (by decide) (by rw [ex_sep1]; rfl) (by rw [ex_sep1]; rfl)).mono
    fun r w' ⟨yv, h1, h2, h3⟩ => ⟨yv, h1, h2, (below_three w _ _ _).trans (h3.mono (by simp; try omega))⟩
set_option maxRecDepth 100000 in
theorem s5 (w : World) : Calls Try.prog 54 #[sl (w.heap.size + 1) 1, sl (w.heap.size + 1 + 1) 2]
    (((w.alloc (.cells #[.int .i64 1, .int .i64 1] 3)).alloc (.cells #[sl w.heap.size 2] 23)).alloc (.cells #[.int .i64 1, .int .i64 0] 3))
    fun r w' => ∃ yv, r = .returned (.tuple #[yv, .bool false, .int .i64 0]) ∧ Ints w' yv [] ∧ Below w.heap.size w w' := by
  have hT := ints_lit ((w.alloc (.cells #[.int .i64 1, .int .i64 1] 3)).alloc (.cells #[sl w.heap.size 2] 23)) [1, 0] #[.int .i64 1, .int .i64 0] 3 rfl (rall _ (by decide)) (by decide)
  simp only [World.size_alloc] at hT
  exact (Combine_is _ _ [[1, 1]] [1, 0] [] false 0 _ ((rows_1 w [1, 1] _ 3 23 rfl (by decide) (by decide)).below (below_a _ _)) hT (by decide) (by rw [ex_comb2]; rfl) (by rw [ex_comb2]; rfl)).mono
    fun r w' ⟨yv, h1, h2, h3⟩ => ⟨yv, h1, h2, (below_three w _ _ _).trans (h3.mono (by simp; try omega))⟩
set_option maxRecDepth 100000 in
theorem s6 (w : World) : Calls Try.prog 28 #[sl (w.heap.size + 1 + 1) 2, sl (w.heap.size + 1 + 1 + 1) 2]
    ((((w.alloc (.cells #[.int .i64 1, .int .i64 1] 3)).alloc (.cells #[.int .i64 0, .int .i64 1] 3)).alloc (.cells #[sl w.heap.size 2, sl (w.heap.size + 1) 2] 23)).alloc (.cells #[.int .i64 1, .int .i64 0] 3))
    fun r w' => ∃ yv, r = .returned (.tuple #[yv, .bool false, .int .i64 0]) ∧ Ints w' yv [] ∧ Below w.heap.size w w' := by
  have hT := ints_lit (((w.alloc (.cells #[.int .i64 1, .int .i64 1] 3)).alloc (.cells #[.int .i64 0, .int .i64 1] 3)).alloc (.cells #[sl w.heap.size 2, sl (w.heap.size + 1) 2] 23)) [1, 0] #[.int .i64 1, .int .i64 0] 3 rfl (rall _ (by decide)) (by decide)
  simp only [World.size_alloc] at hT
  exact (Separate_is _ _ [[1, 1], [0, 1]] [1, 0] [] false 0 _ ((rows_2 w [1, 1] [0, 1] _ _ 3 23 rfl rfl (by decide) (by decide) (by decide) (by decide)).below (below_a _ _)) hT (by decide) (by rw [ex_sep2]; rfl) (by rw [ex_sep2]; rfl)).mono
    fun r w' ⟨yv, h1, h2, h3⟩ => ⟨yv, h1, h2, ((below_three w _ _ _).alloc (by simp; omega) _).trans (h3.mono (by simp; try omega))⟩
set_option maxRecDepth 100000 in
theorem s7 (w : World) : Calls Try.prog 54 #[.slice none 0 0, sl w.heap.size 2]
    (w.alloc (.cells #[.int .i64 0, .int .i64 0] 3))
    fun r w' => ∃ yv, r = .returned (.tuple #[yv, .bool true, .int .i64 0]) ∧ Ints w' yv [] ∧ Below w.heap.size w w' := by
  have hT := ints_lit w [0, 0] #[.int .i64 0, .int .i64 0] 3 rfl (rall _ (by decide)) (by decide)
  exact (Combine_is _ _ [] [0, 0] [] true 0 _ (Rows2.nil _ _ _) hT (by decide) (by rw [ex_comb3.1]; rfl) (by rw [ex_comb3.1, ex_comb3.2]; rfl)).mono
    fun r w' ⟨yv, h1, h2, h3⟩ => ⟨yv, h1, h2, (below_a w _).trans (h3.mono (by simp; try omega))⟩
set_option maxRecDepth 100000 in
theorem s8 (w : World) : Calls Try.prog 28 #[.slice none 0 0, sl w.heap.size 2]
    (w.alloc (.cells #[.int .i64 0, .int .i64 2] 3))
    fun r w' => ∃ yv, r = .returned (.tuple #[yv, .bool true, .int .i64 0]) ∧ Ints w' yv [0, 536870895] ∧ Below w.heap.size w w' := by
  have hT := ints_lit w [0, 2] #[.int .i64 0, .int .i64 2] 3 rfl (rall _ (by decide)) (by decide)
  exact (Separate_is _ _ [] [0, 2] [0, 536870895] true 0 _ (Rows2.nil _ _ _) hT (by decide) (by rw [ex_sep3]; rfl) (by rw [ex_sep3]; rfl)).mono
    fun r w' ⟨yv, h1, h2, h3⟩ => ⟨yv, h1, h2, (below_a w _).trans (h3.mono (by simp; try omega))⟩
set_option maxRecDepth 100000 in
theorem s9 (w : World) : Calls Try.prog 54 #[sl (w.heap.size + 1 + 1 + 1) 3, sl (w.heap.size + 1 + 1 + 1 + 1) 2]
    (((((w.alloc (.cells #[.int .i64 1, .int .i64 1] 3)).alloc (.cells #[.int .i64 2, .int .i64 2] 3)).alloc (.cells #[.int .i64 0, .int .i64 1] 3)).alloc (.cells #[sl w.heap.size 2, sl (w.heap.size + 1) 2, sl (w.heap.size + 1 + 1) 2] 23)).alloc (.cells #[.int .i64 2, .int .i64 3] 3))
    fun r w' => ∃ yv, r = .returned (.tuple #[yv, .bool true, .int .i64 0]) ∧ Ints w' yv [2, 0, 1] ∧ Below w.heap.size w w' := by
  have hT := ints_lit ((((w.alloc (.cells #[.int .i64 1, .int .i64 1] 3)).alloc (.cells #[.int .i64 2, .int .i64 2] 3)).alloc (.cells #[.int .i64 0, .int .i64 1] 3)).alloc (.cells #[sl w.heap.size 2, sl (w.heap.size + 1) 2, sl (w.heap.size + 1 + 1) 2] 23)) [2, 3] #[.int .i64 2, .int .i64 3] 3 rfl (rall _ (by decide)) (by decide)
  simp only [World.size_alloc] at hT
  exact (Combine_is _ _ [[1, 1], [2, 2], [0, 1]] [2, 3] [2, 0, 1] true 0 _ ((rows_3 w [1, 1] [2, 2] [0, 1] _ _ _ 3 23 rfl rfl rfl (by decide) (by decide) (by decide) (by decide) (by decide) (by decide)).below (below_a _ _)) hT (by decide) (by rw [ex_comb4.1]; rfl) (by rw [ex_comb4.1, ex_comb4.2]; rfl)).mono
    fun r w' ⟨yv, h1, h2, h3⟩ => ⟨yv, h1, h2, (((below_three w _ _ _).alloc (by simp; omega) _).alloc (by simp; omega) _).trans (h3.mono (by simp; try omega))⟩
set_option maxRecDepth 100000 in
theorem s10 (w : World) : Calls Try.prog 54 #[sl (w.heap.size + 1) 1, sl (w.heap.size + 1 + 1) 1]
    (((w.alloc (.cells #[.int .i64 1, .int .i64 1] 3)).alloc (.cells #[sl w.heap.size 2] 23)).alloc (.cells #[.int .i64 1] 3))
    fun r w' => ∃ yv, r = .returned (.tuple #[yv, .bool false, .int .i64 130]) ∧ Ints w' yv [] ∧ Below w.heap.size w w' := by
  have hT := ints_lit ((w.alloc (.cells #[.int .i64 1, .int .i64 1] 3)).alloc (.cells #[sl w.heap.size 2] 23)) [1] #[.int .i64 1] 3 rfl (rall _ (by decide)) (by decide)
  simp only [World.size_alloc] at hT
  exact (Combine_is _ _ [[1, 1]] [1] [] false 130 _ ((rows_1 w [1, 1] _ 3 23 rfl (by decide) (by decide)).below (below_a _ _)) hT (by decide) (by rfl) (by rfl)).mono
    fun r w' ⟨yv, h1, h2, h3⟩ => ⟨yv, h1, h2, (below_three w _ _ _).trans (h3.mono (by simp; try omega))⟩
set_option maxRecDepth 100000 in
theorem s11 (w : World) : Calls Try.prog 28 #[.slice none 0 0, sl w.heap.size 1]
    (w.alloc (.cells #[.int .i64 1073741789] 3))
    fun r w' => ∃ yv, r = .returned (.tuple #[yv, .bool false, .int .i64 130]) ∧ Ints w' yv [] ∧ Below w.heap.size w w' := by
  have hT := ints_lit w [1073741789] #[.int .i64 1073741789] 3 rfl (rall _ (by decide)) (by decide)
  exact (Separate_is _ _ [] [1073741789] [] false 130 _ (Rows2.nil _ _ _) hT (by decide) (by rfl) (by rfl)).mono
    fun r w' ⟨yv, h1, h2, h3⟩ => ⟨yv, h1, h2, (below_a w _).trans (h3.mono (by simp; try omega))⟩

theorem made_nils (w : World) (n : Nat) (hn : n ≤ 1000) : Rows2 (w.alloc (.cells (madeCells #[.slice none 0 0] n) 23)) (sl w.heap.size n) (List.replicate n []) := by
  refine ⟨some ⟨w.heap.size, 0, none⟩, n, by simp, by simp, by simp; omega, fun k hk => ⟨w.heap.size, 0, .slice none 0 0, rfl, ?_, ?_⟩⟩
  · simp at hk
    rw [World.cell?_alloc_at _ _ _ _ rfl, Nat.zero_add]; simp [madeCells, hk, Nat.mod_one]
  · simp only [List.getElem_replicate]; exact Ints.nil _ _ _
end Go.Proofs.Ytnbkbnbmmkfckaa

namespace Go.Proofs.Ytnbkbnbmmkfckaa
open Go.RowKit

theorem rightQ_ok {rows : List (List Int)} {t : List Int} (h : rightQ rows t = true) : examErr rows t = 0 ∧ Right rows t.length ∧ (∀ z ∈ t, 0 ≤ z ∧ z < 1073741789) ∧ t.length ≤ 16 ∧ rows.length ≤ 16 := by
  unfold rightQ at h
  simp only [Bool.and_eq_true, decide_eq_true_eq] at h
  obtain ⟨h1, h2, h3⟩ := h
  obtain ⟨h4, h5, h6⟩ := examErr_ok_iff h3
  refine ⟨h3, h4, h5, h2, ?_⟩
  unfold fewQ at h1
  simp only [Bool.and_eq_true, Bool.or_eq_true, decide_eq_true_eq] at h1
  have := h4.few
  omega

set_option maxRecDepth 100000 in
theorem Comb_yes (v u : Value) (rows : List (List Int)) (t : List Int) (w : World) (hI : Rows2 w v rows) (hU : Ints w u t) (h0 : examErr rows t = 0) (hok : rcombOk rows t = true) :
    Calls Try.prog 54 #[v, u] w fun r w' => ∃ yv, r = .returned (.tuple #[yv, .bool true, .int .i64 0]) ∧ Ints w' yv (rcombY rows t) ∧ Below w.heap.size w w' := by
  refine Combine_is v u rows t _ _ _ w hI hU h0 ?_ ?_
  · have := (comb_err (rows := rows) (t := t)).1
    rw [h0, hok] at this; exact this
  · have := (comb_err (rows := rows) (t := t)).2
    rw [h0] at this
    rw [this, if_pos ⟨rfl, hok⟩]
set_option maxRecDepth 100000 in
theorem Comb_no (v u : Value) (rows : List (List Int)) (t : List Int) (w : World) (hI : Rows2 w v rows) (hU : Ints w u t) (h0 : examErr rows t = 0) (hok : rcombOk rows t = false) :
    Calls Try.prog 54 #[v, u] w fun r w' => ∃ yv, r = .returned (.tuple #[yv, .bool false, .int .i64 0]) ∧ Ints w' yv [] ∧ Below w.heap.size w w' := by
  refine Combine_is v u rows t _ _ _ w hI hU h0 ?_ ?_
  · have := (comb_err (rows := rows) (t := t)).1
    rw [h0, hok] at this; exact this
  · have := (comb_err (rows := rows) (t := t)).2
    rw [h0] at this
    rw [this, if_neg (by rw [hok]; simp)]
set_option maxRecDepth 100000 in
theorem Sep_yes (v u : Value) (rows : List (List Int)) (t l : List Int) (w : World) (hI : Rows2 w v rows) (hU : Ints w u t) (h0 : examErr rows t = 0) (hl : rsepQ rows t = some l) :
    Calls Try.prog 28 #[v, u] w fun r w' => ∃ yv, r = .returned (.tuple #[yv, .bool true, .int .i64 0]) ∧ Ints w' yv l ∧ Below w.heap.size w w' := by
  refine Separate_is v u rows t _ _ _ w hI hU h0 ?_ ?_
  · have := (sep_err (rows := rows) (t := t)).1
    rw [h0, hl] at this; exact this
  · have := (sep_err (rows := rows) (t := t)).2
    rw [h0, hl] at this; exact this
set_option maxRecDepth 100000 in
theorem Sep_no (v u : Value) (rows : List (List Int)) (t : List Int) (w : World) (hI : Rows2 w v rows) (hU : Ints w u t) (h0 : examErr rows t = 0) (hl : rsepQ rows t = none) :
    Calls Try.prog 28 #[v, u] w fun r w' => ∃ yv, r = .returned (.tuple #[yv, .bool false, .int .i64 0]) ∧ Ints w' yv [] ∧ Below w.heap.size w w' := by
  refine Separate_is v u rows t _ _ _ w hI hU h0 ?_ ?_
  · have := (sep_err (rows := rows) (t := t)).1
    rw [h0, hl] at this; exact this
  · have := (sep_err (rows := rows) (t := t)).2
    rw [h0, hl] at this; exact this

theorem madeOk_right {rows : List (List Int)} {y : List Int} {m : Nat} (h : Right rows m) (hy : y.length = rows.length) : madeOk rows y m = true := by
  unfold madeOk
  rw [decide_eq_true hy, Bool.true_and, List.all_eq_true]
  exact fun r hr => decide_eq_true (h.len r hr)
theorem rcombY_len (rows : List (List Int)) (t : List Int) : (rcombY rows t).length = rows.length := by simp [rcombY]

end Go.Proofs.Ytnbkbnbmmkfckaa

namespace Go.Proofs.Ytnbkbnbmmkfckaa

theorem right_wide {rows : List (List Int)} {m : Nat} (h : Right rows m) (hn : rows ≠ []) : wide rows = m := by
  cases rows with
  | nil => exact absurd rfl hn
  | cons r l => exact h.len r (by simp)
theorem right_check {rows : List (List Int)} {m : Nat} (h : Right rows m) : checkErr rows = 0 := by
  rw [checkErr_few h.few]
  by_cases hn : rows = []
  · subst hn; rfl
  · have hm : m ≤ 64 := by
      rcases h.narrow with h1 | h1
      · exact h1
      · exact absurd h1 hn
    refine kindErr_ok rows (fun r hr => by rw [h.len r hr]; exact hm) (fun r hr => ?_)
    unfold rowOk
    rw [right_wide h hn, decide_eq_true (h.len r hr), any_no (fun z hz => by
      have := h.num r hr z hz
      simp [oddQ]; omega)]; rfl

theorem ker_congr {n m : Nat} {X Y : FMat} (h : ∀ i, i < n → ∀ j, j < m → X i j = Y i j) (v : Nat → Fq) : Ker n m X v ↔ Ker n m Y v :=
  ⟨fun hv i hi => by rw [← hv i hi]; exact dt_congr (fun j hj => (h i hi j hj).symm) (fun _ _ => rfl), fun hv i hi => by rw [← hv i hi]; exact dt_congr (fun j hj => h i hi j hj) (fun _ _ => rfl)⟩
theorem span_rows {n m : Nat} {X Y : FMat} {t u : Nat → Fq} (h : ∀ i, i < n → ∀ j, j < m → X i j = Y i j) (ht : ∀ j, j < m → u j = t j) (hs : Span n m X t) : Span n m Y u :=
  let ⟨y, hy⟩ := hs
  ⟨y, fun j hj => by rw [ht j hj, hy j hj]; exact sm_congr fun i hi => by rw [h i hi j hj]⟩
theorem lead_congr {m : Nat} {V W : (Nat → Fq) → Prop} (h : ∀ v, V v ↔ W v) (c : Nat) : Lead m V c ↔ Lead m W c :=
  ⟨fun ⟨v, h1, h2⟩ => ⟨v, (h v).1 h1, h2⟩, fun ⟨v, h1, h2⟩ => ⟨v, (h v).2 h1, h2⟩⟩

/-- The rank counts the columns that lead no vector of the kernel. -/
theorem rank_cnt {rows : List (List Int)} {m : Nat} (h : Right rows m) {b : Nat → Bool} (hb : Tells b (fun c => ¬ Lead m (Ker rows.length m (fm rows)) c)) : rrankQ rows = cntB b m := by
  unfold rrankQ
  rw [if_pos (right_check h)]
  by_cases hn : rows = []
  · subst hn
    have h1 : cntB b m = 0 := by
      have : ∀ c, b c = false := fun c => by
        rw [Bool.eq_false_iff]
        intro hc
        exact (hb c).1 hc ⟨fun j => if j = c then 1 else 0, fun i hi => absurd hi (Nat.not_lt_zero _), if_pos rfl, fun j h1 _ => if_neg (by omega)⟩
      have h2 : ∀ k, cntB b k = 0 := fun k => by
        induction k with
        | zero => rfl
        | succ k ih => rw [cntB, ih, this k]; rfl
      exact h2 m
    have := redR_len 0 (matOf []) (wide [])
    rw [h1]; show (redR 0 _ _).2.length = 0; omega
  · rw [right_wide h hn]
    exact (redR_count (right_num h) hb m (Nat.le_refl _)).1

theorem rank_ker {rows rows' : List (List Int)} {m : Nat} (h : Right rows m) (h' : Right rows' m) (hk : ∀ v, Ker rows.length m (fm rows) v ↔ Ker rows'.length m (fm rows') v) : rrankQ rows = rrankQ rows' := by
  obtain ⟨b, hb⟩ := tells_ex (fun c => ¬ Lead m (Ker rows.length m (fm rows)) c)
  obtain ⟨b', hb'⟩ := tells_ex (fun c => ¬ Lead m (Ker rows'.length m (fm rows')) c)
  rw [rank_cnt h hb, rank_cnt h' hb']
  exact hb.congr hb' fun c _ => not_congr (lead_congr hk c)

theorem right_app {rows : List (List Int)} {t : List Int} (h : Right rows t.length) (ht : ∀ z ∈ t, 0 ≤ z ∧ z < 1073741789) (hn : rows.length < 64) (hm : t.length ≤ 64) : Right (rows ++ [t]) t.length :=
  ⟨by simp; omega, .inl hm, fun r hr => by
    rcases List.mem_append.1 hr with h1 | h1
    · exact h.len r h1
    · rw [List.mem_singleton.1 h1], fun r hr => by
    rcases List.mem_append.1 hr with h1 | h1
    · exact h.num r h1
    · rw [List.mem_singleton.1 h1]; exact ht⟩
theorem fm_app_lt (rows : List (List Int)) (t : List Int) {i : Nat} (hi : i < rows.length) (j : Nat) : fm (rows ++ [t]) i j = fm rows i j := by
  show cq (((rows ++ [t])[i]?.getD [])[j]?.getD 0) = cq ((rows[i]?.getD [])[j]?.getD 0)
  rw [List.getElem?_append_left hi]
theorem fm_app_at (rows : List (List Int)) (t : List Int) (j : Nat) : fm (rows ++ [t]) rows.length j = cv t j := by
  show cq (((rows ++ [t])[rows.length]?.getD [])[j]?.getD 0) = cq (t[j]?.getD 0)
  rw [List.getElem?_append_right (Nat.le_refl _)]; simp
theorem ker_app (rows : List (List Int)) (t : List Int) (m : Nat) (v : Nat → Fq) : Ker (rows ++ [t]).length m (fm (rows ++ [t])) v ↔ (Ker rows.length m (fm rows) v ∧ dt m (cv t) v = 0) := by
  rw [List.length_append, List.length_singleton]
  constructor
  · intro h
    refine ⟨fun i hi => ?_, ?_⟩
    · rw [← h i (by omega)]; exact dt_congr (fun j _ => (fm_app_lt rows t hi j).symm) (fun _ _ => rfl)
    · rw [← h rows.length (by omega)]; exact dt_congr (fun j _ => (fm_app_at rows t j).symm) (fun _ _ => rfl)
  · rintro ⟨h1, h2⟩ i hi
    by_cases e : i = rows.length
    · rw [e, ← h2]; exact dt_congr (fun j _ => fm_app_at rows t j) (fun _ _ => rfl)
    · rw [← h1 i (by omega)]; exact dt_congr (fun j _ => fm_app_lt rows t (by omega) j) (fun _ _ => rfl)

/-- A further row. -/
theorem rank_step {rows : List (List Int)} {t : List Int} (h : Right rows t.length) (ht : ∀ z ∈ t, 0 ≤ z ∧ z < 1073741789) (hn : rows.length < 64) (hm : t.length ≤ 64) :
    (Made rows t → rrankQ (rows ++ [t]) = rrankQ rows) ∧ (¬ Made rows t → rrankQ (rows ++ [t]) = rrankQ rows + 1) := by
  have h' := right_app h ht hn hm
  constructor
  · intro hmade
    refine rank_ker h' h fun v => (ker_app rows t t.length v).trans ⟨fun h1 => h1.1, fun h1 => ⟨h1, span_ker hmade h1⟩⟩
  · intro hno
    obtain ⟨l, hl⟩ := Option.isSome_iff_exists.1 ((sep_made h).2 hno)
    obtain ⟨_, hk, h1⟩ := (proves_iff h).1 (sep_some h hl)
    obtain ⟨c0, hc0, hl0, hall⟩ := hyper (sub_ker rows.length t.length (fm rows)) (cv t) ⟨cv l, hk, by rw [h1]; decide⟩
    obtain ⟨b, hb⟩ := tells_ex (fun c => ¬ Lead t.length (Ker rows.length t.length (fm rows)) c)
    obtain ⟨b', hb'⟩ := tells_ex (fun c => ¬ Lead t.length (Ker (rows ++ [t]).length t.length (fm (rows ++ [t]))) c)
    rw [rank_cnt h hb, rank_cnt h' hb']
    have hiff : ∀ c, c < t.length → (Lead t.length (Ker (rows ++ [t]).length t.length (fm (rows ++ [t]))) c ↔ Lead t.length (Ker rows.length t.length (fm rows)) c ∧ c ≠ c0) := fun c hc =>
      (lead_congr (ker_app rows t t.length) c).trans (hall c hc)
    refine cntB_one hc0 ?_ ?_ ?_
    · rw [Bool.eq_false_iff]; intro h2; exact (hb c0).1 h2 hl0
    · exact (hb' c0).2 fun h2 => ((hiff c0 hc0).1 h2).2 rfl
    · intro c hc hne
      rw [Bool.eq_iff_iff, hb c, hb' c]
      exact not_congr ((hiff c hc).trans ⟨fun h2 => h2.1, fun h2 => ⟨h2, hne⟩⟩)

/-! Prefixes. -/
theorem right_take {rows : List (List Int)} {m : Nat} (h : Right rows m) (i : Nat) : Right (rows.take i) m :=
  ⟨by have := h.few; rw [List.length_take]; omega, h.narrow.elim .inl (fun e => .inr (by rw [e]; simp)), fun r hr => h.len r (List.mem_of_mem_take hr), fun r hr => h.num r (List.mem_of_mem_take hr)⟩
theorem fm_take (rows : List (List Int)) {i k : Nat} (hk : k < i) (j : Nat) : fm (rows.take i) k j = fm rows k j := by
  show cq (((rows.take i)[k]?.getD [])[j]?.getD 0) = cq ((rows[k]?.getD [])[j]?.getD 0)
  rw [List.getElem?_take, if_pos hk]
theorem made_take {rows : List (List Int)} {m i : Nat} (h : Right rows m) (hi : i < rows.length) : Made (rows.take i) rows[i] ↔ Span i m (fm rows) (fm rows i) := by
  unfold Made
  have hl := h.len _ (List.getElem_mem hi)
  have ht : (rows.take i).length = i := by rw [List.length_take]; omega
  rw [hl, ht]
  exact ⟨fun hs => span_rows (fun k hk j _ => fm_take rows hk j) (fun j _ => fm_row rows hi j) hs, fun hs => span_rows (fun k hk j _ => (fm_take rows hk j).symm) (fun j _ => (fm_row rows hi j).symm) hs⟩
theorem rank_take {rows : List (List Int)} {m i : Nat} (h : Right rows m) (hi : i < rows.length) :
    (Span i m (fm rows) (fm rows i) → rrankQ (rows.take (i + 1)) = rrankQ (rows.take i)) ∧ (¬ Span i m (fm rows) (fm rows i) → rrankQ (rows.take (i + 1)) = rrankQ (rows.take i) + 1) := by
  have hl := h.len _ (List.getElem_mem hi)
  have hne : rows ≠ [] := fun e => by rw [e] at hi; exact absurd hi (Nat.not_lt_zero _)
  have hm : m ≤ 64 := h.narrow.resolve_right hne
  have h1 := rank_step (rows := rows.take i) (t := rows[i]) (by rw [hl]; exact right_take h i) (h.num _ (List.getElem_mem hi)) (by have := h.few; rw [List.length_take]; omega) (by omega)
  rw [List.take_succ_eq_append_getElem hi]
  rw [made_take h hi] at h1
  exact h1

/-- The rank counts the rows that do not depend on earlier ones. -/
theorem rank_rows {rows : List (List Int)} {m : Nat} (h : Right rows m) {b : Nat → Bool} (hb : Tells b (fun i => ¬ Span i m (fm rows) (fm rows i))) : ∀ i, i ≤ rows.length → rrankQ (rows.take i) = cntB b i
  | 0, _ => by
    have h1 := redR_len 0 (matOf []) (wide [])
    rw [List.take_zero]
    unfold rrankQ cntB
    rw [if_pos (show checkErr [] = 0 by rfl)]
    show (redR 0 (matOf []) (wide [])).2.length = 0
    omega
  | i + 1, hi => by
    obtain ⟨h1, h2⟩ := rank_take h (i := i) hi
    rw [cntB, ← rank_rows h hb i (by omega)]
    by_cases hs : Span i m (fm rows) (fm rows i)
    · rw [h1 hs, if_neg (fun e => (hb i).1 e hs)]; rfl
    · rw [h2 hs, if_pos ((hb i).2 hs)]

/-- A column depends on earlier ones exactly if, as a row, it is made of them. -/
theorem lead_span {n m : Nat} {X Y : FMat} (h : ∀ i k, i < n → k < m → Y k i = X i k) {i : Nat} (hi : i < n) : Lead n (Ker m n Y) i ↔ Span i m X (X i) := by
  constructor
  · rintro ⟨v, hv, h1, h0⟩
    refine ⟨fun j => - v j, fun k hk => ?_⟩
    have h2 : sm n (fun j => X j k * v j) = 0 := by
      rw [← hv k hk]; exact sm_congr fun j hj => by rw [h j k hj hk]
    have h3 : sm n (fun j => X j k * v j) = sm n (fun j => if j < i then X j k * v j else 0) + sm n (fun j => if j = i then X i k else 0) := by
      rw [← sm_add]
      refine sm_congr fun j hj => ?_
      by_cases e : j = i
      · rw [if_pos e, if_neg (by omega), e, h1]; grind
      · rw [if_neg e]
        by_cases e2 : j < i
        · rw [if_pos e2]; grind
        · rw [if_neg e2, h0 j (by omega) hj]; grind
    rw [h3, sm_cut (by omega), sm_one (k := i) hi (fun j _ e => by show (if j = i then X i k else 0) = 0; rw [if_neg e])] at h2
    have h4 : (if i = i then X i k else (0 : Fq)) = X i k := if_pos rfl
    have h5 : sm i (fun j => - v j * X j k) = - sm i (fun j => X j k * v j) := by
      rw [← sm_neg]; exact sm_congr fun j _ => by grind
    rw [h5]
    have h6 : sm i (fun j => X j k * v j) + (if i = i then X i k else 0) = 0 := h2
    rw [h4] at h6
    grind
  · rintro ⟨y, hy⟩
    refine ⟨fun j => if j = i then 1 else if j < i then - y j else 0, fun k hk => ?_, if_pos rfl, fun j h1 h2 => by show (if j = i then (1 : Fq) else if j < i then - y j else 0) = 0; rw [if_neg (by omega), if_neg (by omega)]⟩
    unfold dt
    have e1 : sm n (fun j => Y k j * (if j = i then (1 : Fq) else if j < i then - y j else 0)) = sm n (fun j => if j = i then X i k else 0) + sm n (fun j => if j < i then - (y j * X j k) else 0) := by
      rw [← sm_add]
      refine sm_congr fun j hj => ?_
      rw [h j k hj hk]
      by_cases e : j = i
      · rw [if_pos e, if_pos e, if_neg (by omega), e]; grind
      · rw [if_neg e, if_neg e]
        by_cases e2 : j < i
        · rw [if_pos e2, if_pos e2]; grind
        · rw [if_neg e2, if_neg e2]; grind
    rw [e1, sm_one (k := i) hi (fun j _ e => by show (if j = i then X i k else 0) = 0; rw [if_neg e])]
    show (if i = i then X i k else 0) + _ = 0
    rw [if_pos rfl, hy k hk, sm_cut (by omega), sm_neg]
    grind

/-- The columns, as rows. -/
def colsOf (rows : List (List Int)) (m : Nat) : List (List Int) := (List.range m).map (colOf rows)
theorem cols_right {rows : List (List Int)} {m : Nat} (h : Right rows m) (hm : m ≤ 64) : Right (colsOf rows m) rows.length :=
  ⟨by simp [colsOf]; exact hm, .inl h.few, fun r hr => by
    obtain ⟨k, _, rfl⟩ := List.mem_map.1 hr
    simp [colOf], fun r hr z hz => by
    obtain ⟨k, hk, rfl⟩ := List.mem_map.1 hr
    obtain ⟨r', hr', rfl⟩ := List.mem_map.1 hz
    rw [nth_at (by rw [h.len r' hr']; exact List.mem_range.1 hk)]
    exact h.num r' hr' _ (List.getElem_mem _)⟩
theorem fm_cols (rows : List (List Int)) (m : Nat) {i k : Nat} (hi : i < rows.length) (hk : k < m) : fm (colsOf rows m) k i = fm rows i k := by
  have h1 : (colsOf rows m)[k]? = some (colOf rows k) := by unfold colsOf; simp [hk]
  show cq (((colsOf rows m)[k]?.getD [])[i]?.getD 0) = _
  rw [h1, fm_row rows hi]
  unfold colOf
  simp [hi]; rfl

/-- The rank of rows is that of their columns. -/
theorem rank_cols {rows : List (List Int)} {m : Nat} (h : Right rows m) (hm : m ≤ 64) : rrankQ (colsOf rows m) = rrankQ rows := by
  obtain ⟨b, hb⟩ := tells_ex (fun i => ¬ Span i m (fm rows) (fm rows i))
  obtain ⟨b', hb'⟩ := tells_ex (fun c => ¬ Lead rows.length (Ker (colsOf rows m).length rows.length (fm (colsOf rows m))) c)
  have h1 := rank_rows h hb rows.length (Nat.le_refl _)
  rw [List.take_length] at h1
  rw [h1, rank_cnt (cols_right h hm) hb']
  refine hb'.congr hb fun i hi => not_congr ?_
  have hl : (colsOf rows m).length = m := by simp [colsOf]
  rw [hl]
  exact lead_span (fun i k hi hk => fm_cols rows m hi hk) hi
theorem rank_le {rows : List (List Int)} {m : Nat} (h : Right rows m) : rrankQ rows ≤ rows.length ∧ rrankQ rows ≤ m := by
  constructor
  · unfold rrankQ; rw [if_pos (right_check h)]; exact redR_len _ _ _
  · obtain ⟨b, hb⟩ := tells_ex (fun c => ¬ Lead m (Ker rows.length m (fm rows)) c)
    rw [rank_cnt h hb]; exact cntB_le _ _

end Go.Proofs.Ytnbkbnbmmkfckaa

namespace Go.Proofs.Ytnbkbnbmmkfckaa

/-- What makes 0, and is 0 at each row that the earlier ones make, is 0. -/
theorem comb_unique {n m : Nat} {X : FMat} {d : Nat → Fq} (hk : ∀ k, k < m → sm n (fun i => d i * X i k) = 0) (h0 : ∀ i, i < n → Span i m X (X i) → d i = 0) : ∀ i, i < n → d i = 0 := by
  intro i hi
  refine Classical.byContradiction fun hne => ?_
  have hker : Ker m n (fun k i => X i k) d := fun k hk' => by
    rw [← hk k hk']; exact sm_congr fun i _ => Fin.mul_comm _ _
  obtain ⟨c, s, hc, hs, e, hz⟩ := lead_of (sub_ker m n (fun k i => X i k)) n d hker ⟨i, hi, hne⟩
  obtain ⟨u, hu⟩ := linv_ex hs
  have hl : Lead n (Ker m n (fun k i => X i k)) c := ⟨fun j => u * d j, ker_mul u hker, by show u * d c = 1; rw [e]; exact hu, fun j h1 h2 => by show u * d j = 0; rw [hz j h1 h2]; grind⟩
  have := h0 c hc ((lead_span (X := X) (fun _ _ _ _ => rfl) hc).1 hl)
  rw [e] at this
  exact hs this

theorem rcombY_num {rows : List (List Int)} {t : List Int} (h : Right rows t.length) (ht : ∀ z ∈ t, 0 ≤ z ∧ z < 1073741789) {k : Nat} (hk : k < rows.length) : 0 ≤ nth (rcombY rows t) k ∧ nth (rcombY rows t) k < 1073741789 := by
  have hn : NumM t.length (rows.length + 1) (rcombM rows t).1 := redR_num (eq_num h ht) _
  have hR := comb_red h ht
  unfold rcombY
  rw [nth_map _ _ hk]
  exact combF_num (m := (rcombM rows t).2.length) (fun k hk => hn k rows.length (Nat.lt_of_lt_of_le hk hR.rn) (by omega)) _ (Nat.le_refl _) _

/-- The combination of a sum. -/
theorem sums_law {rows : List (List Int)} {a b s : List Int} {n : Int} (h : Right rows a.length) (hbl : b.length = a.length) (hsl : s.length = a.length) (ha : ∀ z ∈ a, 0 ≤ z ∧ z < 1073741789) (hb : ∀ z ∈ b, 0 ≤ z ∧ z < 1073741789) (hs : ∀ z ∈ s, 0 ≤ z ∧ z < 1073741789)
    (hv : ∀ j, j < a.length → cv s j = cv a j + cq n * cv b j) (oa : rcombOk rows a = true) (ob : rcombOk rows b = true) :
    rcombOk rows s = true ∧ ∀ k, k < rows.length → nth (rcombY rows s) k = (nth (rcombY rows a) k + n * nth (rcombY rows b) k % 1073741789) % 1073741789 := by
  have h2 : Right rows b.length := by rw [hbl]; exact h
  have h3 : Right rows s.length := by rw [hsl]; exact h
  have hma := (comb_span h ha).1 oa
  have hmb := (comb_span h2 hb).1 ob
  have hms : Made rows s := by
    have h4 : Span rows.length a.length (fm rows) (cv b) := by unfold Made at hmb; rw [hbl] at hmb; exact hmb
    unfold Made
    rw [hsl]
    exact span_congr (span_add hma (span_mul (cq n) h4)) hv
  have os := (comb_span h3 hs).2 hms
  refine ⟨os, fun k hk => ?_⟩
  have ea := comb_makes h ha oa
  have eb := comb_makes h2 hb ob
  have es := comb_makes h3 hs os
  rw [hbl] at eb
  rw [hsl] at es
  have hz := comb_unique (n := rows.length) (m := a.length) (X := fm rows) (d := fun i => cv (rcombY rows s) i + (-1) * (cv (rcombY rows a) i + cq n * cv (rcombY rows b) i)) (fun k hk => by
      rw [show (fun i => (cv (rcombY rows s) i + (-1) * (cv (rcombY rows a) i + cq n * cv (rcombY rows b) i)) * fm rows i k) = fun i => cv (rcombY rows s) i * fm rows i k + (-1) * (cv (rcombY rows a) i * fm rows i k + cq n * (cv (rcombY rows b) i * fm rows i k)) from funext fun i => by grind,
        sm_add, sm_mul, sm_add, sm_mul, ← es k hk, ← ea k hk, ← eb k hk, hv k hk]
      grind) (fun i hi hd => by
      have z1 := comb_zero h ha hi hd
      have z2 := comb_zero h2 hb hi (by rw [hbl]; exact hd)
      have z3 := comb_zero h3 hs hi (by rw [hsl]; exact hd)
      show cq _ + (-1) * (cq _ + cq n * cq _) = 0
      rw [z1, z2, z3, cq_0]; grind) k hk
  refine cq_inj (rcombY_num h3 hs hk) (mod_num _) ?_
  rw [cq_mod, cq_add, cq_mod, cq_mul]
  have e1 : cq (nth (rcombY rows s) k) + (-1) * (cq (nth (rcombY rows a) k) + cq n * cq (nth (rcombY rows b) k)) = 0 := hz
  grind

/-- A target is made exactly if it is 0 wherever the rows are. -/
theorem made_ker {rows : List (List Int)} {t : List Int} (h : Right rows t.length) : Made rows t ↔ ∀ v, Ker rows.length t.length (fm rows) v → dt t.length (cv t) v = 0 := by
  constructor
  · intro hm v hv; exact span_ker hm hv
  · intro hv
    cases hq : rsepQ rows t with
    | none => exact sep_none h hq
    | some l =>
      obtain ⟨_, h1, h2⟩ := (proves_iff h).1 (sep_some h hq)
      rw [hv _ h1] at h2
      exact absurd h2 (by decide)

theorem fm_set (rows : List (List Int)) (r : List Int) {i k : Nat} (hi : i < rows.length) (j : Nat) : fm (rows.set i r) k j = if k = i then cv r j else fm rows k j := by
  show cq (((rows.set i r)[k]?.getD [])[j]?.getD 0) = _
  rw [List.getElem?_set]
  by_cases e : i = k
  · subst e; rw [if_pos rfl, if_pos rfl, if_pos hi]; rfl
  · rw [if_neg e, if_neg (fun x => e x.symm)]; rfl

/-- Rows of which one is changed so that it can be changed back: as they were. -/
theorem changed_ker {rows : List (List Int)} {r : List Int} {m i k : Nat} {n : Fq} (hi : i < rows.length) (hk : k < rows.length)
    (h : (i ≠ k ∧ ∀ j, j < m → cv r j = fm rows i j + n * fm rows k j) ∨ (n ≠ 0 ∧ ∀ j, j < m → cv r j = n * fm rows i j) ∨ (∀ j, j < m → cv r j = fm rows i j)) (v : Nat → Fq) :
    Ker rows.length m (fm rows) v ↔ Ker (rows.set i r).length m (fm (rows.set i r)) v := by
  rw [List.length_set]
  have hq : ∀ q, q < rows.length → q ≠ i → dt m (fm (rows.set i r) q) v = dt m (fm rows q) v := fun q _ hne => dt_congr (fun j _ => by rw [fm_set rows r hi, if_neg hne]) (fun _ _ => rfl)
  have hat : dt m (fm (rows.set i r) i) v = dt m (cv r) v := dt_congr (fun j _ => by rw [fm_set rows r hi, if_pos rfl]) (fun _ _ => rfl)
  have key : (∀ q, q < rows.length → q ≠ i → dt m (fm rows q) v = 0) → (dt m (fm rows i) v = 0 ↔ dt m (cv r) v = 0) := fun ho => by
    rcases h with ⟨hne, h⟩ | ⟨hn, h⟩ | h
    · have e : dt m (cv r) v = dt m (fm rows i) v + n * dt m (fm rows k) v := by
        rw [dt_congr h (fun _ _ => rfl), dt_add_l, dt_mul_l]
      rw [e, ho k hk (fun x => hne x.symm)]
      constructor
      · intro h; rw [h]; grind
      · intro h; grind
    · have e : dt m (cv r) v = n * dt m (fm rows i) v := by rw [dt_congr h (fun _ _ => rfl), dt_mul_l]
      rw [e]
      obtain ⟨u, hu⟩ := linv_ex hn
      constructor
      · intro h; rw [h]; grind
      · intro h
        have : u * (n * dt m (fm rows i) v) = 0 := by rw [h]; grind
        grind
    · rw [dt_congr h (fun _ _ => rfl)]
  constructor
  · intro hv q hq1
    by_cases e : q = i
    · subst e
      rw [hat]; exact (key (fun q h1 _ => hv q h1)).1 (hv q hq1)
    · rw [hq q hq1 e]; exact hv q hq1
  · intro hv q hq1
    have ho : ∀ q, q < rows.length → q ≠ i → dt m (fm rows q) v = 0 := fun q h1 h2 => by rw [← hq q h1 h2]; exact hv q h1
    by_cases e : q = i
    · subst e
      exact (key ho).2 (by rw [← hat]; exact hv q hq1)
    · exact ho q hq1 e

end Go.Proofs.Ytnbkbnbmmkfckaa
