/- The laws' examples: sane returns true. -/
import Derived.Test.YtjjdgphjkoppgaaLaF
import Derived.Test.YtjjdgphjkoppgaaLinX
namespace Go.Proofs.Ytjjdgphjkoppgaa
open Go.RowKit

theorem ints_lit (w : World) (zs : List Int) (cs : Array Value) (t : TypeId) (hc : cs = (zs.map (Value.int .i64)).toArray) (hr : ∀ z ∈ zs, R64 z) (hn : zs.length ≤ 1000) : Ints (w.alloc (.cells cs t)) (.slice (some ⟨w.heap.size, 0, none⟩) zs.length zs.length) zs := by
  refine ⟨_, _, rfl, Nat.le_refl _, by omega, hr, fun k hk => ⟨_, 0, rfl, ?_⟩⟩
  rw [World.cell?_alloc_at _ _ _ _ rfl, hc, Nat.zero_add]
  simp [hk]
theorem rows_lit (w : World) (rows : List (List Int)) (hs : List Value) (cs : Array Value) (t : TypeId) (hc : cs = hs.toArray) (hl : hs.length = rows.length) (hn : rows.length ≤ 1000) (hi : ∀ k (h1 : k < hs.length) (h2 : k < rows.length), Ints w hs[k] rows[k]) :
    Rows2 (w.alloc (.cells cs t)) (.slice (some ⟨w.heap.size, 0, none⟩) rows.length rows.length) rows := by
  refine ⟨_, _, rfl, Nat.le_refl _, by omega, fun k hk => ⟨_, 0, hs[k]'(by omega), rfl, ?_, (hi k (by omega) hk).below ((Below.refl _ _).alloc (Nat.le_refl _) _)⟩⟩
  rw [World.cell?_alloc_at _ _ _ _ rfl, hc, Nat.zero_add]
  simp [show k < hs.length by omega]

abbrev sl (b n : Nat) : Value := .slice (some ⟨b, 0, none⟩) n n
theorem below_a (w : World) (o : Obj) : Below w.heap.size w (w.alloc o) := (Below.refl _ _).alloc (Nat.le_refl _) o

theorem r2 (z : Int) (h : decide (-9223372036854775808 ≤ z ∧ z ≤ 9223372036854775807) = true) : R64 z := by unfold R64; simpa using h
theorem rall (zs : List Int) (h : (zs.all fun z => decide (-9223372036854775808 ≤ z ∧ z ≤ 9223372036854775807)) = true) : ∀ z ∈ zs, R64 z := fun z hz => r2 z (List.all_eq_true.1 h z hz)

/-- One row of literals. -/
theorem rows_1 (w : World) (a : List Int) (ca : Array Value) (t u : TypeId) (h1 : ca = (a.map (Value.int .i64)).toArray) (r1 : (a.all fun z => decide (-9223372036854775808 ≤ z ∧ z ≤ 9223372036854775807)) = true) (n1 : a.length ≤ 1000) :
    Rows2 ((w.alloc (.cells ca t)).alloc (.cells #[sl w.heap.size a.length] u)) (sl (w.heap.size + 1) 1) [a] := by
  have := rows_lit (w.alloc (.cells ca t)) [a] [sl w.heap.size a.length] #[sl w.heap.size a.length] u rfl rfl (by simp) (fun k k1 k2 => by
    obtain rfl : k = 0 := by simp at k1; omega
    exact ints_lit w a ca t h1 (rall a r1) n1)
  simpa using this
theorem rows_2 (w : World) (a b : List Int) (ca cb : Array Value) (t u : TypeId) (h1 : ca = (a.map (Value.int .i64)).toArray) (h2 : cb = (b.map (Value.int .i64)).toArray) (r1 : (a.all fun z => decide (-9223372036854775808 ≤ z ∧ z ≤ 9223372036854775807)) = true) (r2 : (b.all fun z => decide (-9223372036854775808 ≤ z ∧ z ≤ 9223372036854775807)) = true) (n1 : a.length ≤ 1000) (n2 : b.length ≤ 1000) :
    Rows2 (((w.alloc (.cells ca t)).alloc (.cells cb t)).alloc (.cells #[sl w.heap.size a.length, sl (w.heap.size + 1) b.length] u)) (sl (w.heap.size + 1 + 1) 2) [a, b] := by
  have ib := ints_lit (w.alloc (.cells ca t)) b cb t h2 (rall b r2) n2
  have ia := (ints_lit w a ca t h1 (rall a r1) n1).below (below_a _ (.cells cb t))
  have := rows_lit ((w.alloc (.cells ca t)).alloc (.cells cb t)) [a, b] [sl w.heap.size a.length, sl (w.heap.size + 1) b.length] _ u rfl rfl (by simp) (fun k k1 k2 => by
    have : k = 0 ∨ k = 1 := by simp at k1; omega
    rcases this with rfl | rfl
    · exact ia
    · simpa using ib)
  simpa using this
theorem rows_3 (w : World) (a b c : List Int) (ca cb cc : Array Value) (t u : TypeId) (h1 : ca = (a.map (Value.int .i64)).toArray) (h2 : cb = (b.map (Value.int .i64)).toArray) (h3 : cc = (c.map (Value.int .i64)).toArray) (r1 : (a.all fun z => decide (-9223372036854775808 ≤ z ∧ z ≤ 9223372036854775807)) = true) (r2 : (b.all fun z => decide (-9223372036854775808 ≤ z ∧ z ≤ 9223372036854775807)) = true) (r3 : (c.all fun z => decide (-9223372036854775808 ≤ z ∧ z ≤ 9223372036854775807)) = true) (n1 : a.length ≤ 1000) (n2 : b.length ≤ 1000) (n3 : c.length ≤ 1000) :
    Rows2 ((((w.alloc (.cells ca t)).alloc (.cells cb t)).alloc (.cells cc t)).alloc (.cells #[sl w.heap.size a.length, sl (w.heap.size + 1) b.length, sl (w.heap.size + 1 + 1) c.length] u)) (sl (w.heap.size + 1 + 1 + 1) 3) [a, b, c] := by
  have ic := ints_lit ((w.alloc (.cells ca t)).alloc (.cells cb t)) c cc t h3 (rall c r3) n3
  have ib := (ints_lit (w.alloc (.cells ca t)) b cb t h2 (rall b r2) n2).below (below_a _ (.cells cc t))
  have ia := ((ints_lit w a ca t h1 (rall a r1) n1).below (below_a _ (.cells cb t))).below (below_a _ (.cells cc t))
  have := rows_lit (((w.alloc (.cells ca t)).alloc (.cells cb t)).alloc (.cells cc t)) [a, b, c] [sl w.heap.size a.length, sl (w.heap.size + 1) b.length, sl (w.heap.size + 1 + 1) c.length] _ u rfl rfl (by simp) (fun k k1 k2 => by
    have : k = 0 ∨ k = 1 ∨ k = 2 := by simp at k1; omega
    rcases this with rfl | rfl | rfl
    · exact ia
    · simpa using ib
    · simpa using ic)
  simpa using this

/-- Combine and Separate at rows whose result is known. -/
theorem Combine_is (v u : Value) (rows : List (List Int)) (t y : List Int) (ok : Bool) (e : Int) (w : World) (hI : Rows2 w v rows) (hU : Ints w u t) (he : examErr rows t = e) (hok : (decide (e = 0) && combOk rows t) = ok) (hy : (if e = 0 ∧ combOk rows t = true then combY rows t else []) = y) :
    Calls Try.prog 16 #[v, u] w fun r w' => ∃ yv, r = .returned (.tuple #[yv, .bool ok, .int .i64 e]) ∧ Ints w' yv y ∧ Below w.heap.size w w' :=
  (Combine_any v u rows t w hI hU).mono fun r w' ⟨yv, h1, h2, h3⟩ => ⟨yv, by rw [h1, he, hok], by rw [he, hy] at h2; exact h2, h3⟩
theorem Separate_is (v u : Value) (rows : List (List Int)) (t y : List Int) (ok : Bool) (e : Int) (w : World) (hI : Rows2 w v rows) (hU : Ints w u t) (he : examErr rows t = e) (hok : (decide (e = 0) && (sepQ rows t).isSome) = ok) (hy : (if e = 0 then (sepQ rows t).getD [] else []) = y) :
    Calls Try.prog 18 #[v, u] w fun r w' => ∃ yv, r = .returned (.tuple #[yv, .bool ok, .int .i64 e]) ∧ Ints w' yv y ∧ Below w.heap.size w w' :=
  (Separate_any v u rows t w hI hU).mono fun r w' ⟨yv, h1, h2, h3⟩ => ⟨yv, by rw [h1, he, hok], by rw [he, hy] at h2; exact h2, h3⟩
theorem Rank_is (v : Value) (rows : List (List Int)) (n : Nat) (e : Int) (w : World) (hI : Rows2 w v rows) (he : checkErr rows = e) (hn : rankQ rows = n) :
    Calls Try.prog 12 #[v] w fun r w' => r = .returned (.tuple #[.int .i64 n, .int .i64 e]) ∧ Below w.heap.size w w' :=
  (Rank_any v rows w hI).mono fun r w' ⟨h1, h2⟩ => ⟨by rw [h1, he, hn], h2⟩
theorem Check_is (v : Value) (rows : List (List Int)) (e : Int) (w : World) (hI : Rows2 w v rows) (he : checkErr rows = e) :
    Calls Try.prog 14 #[v] w fun r w' => r = .returned (.int .i64 e) ∧ Below w.heap.size w w' :=
  (Check_any v rows w hI).mono fun r w' ⟨h1, h2⟩ => ⟨by rw [h1, he], h2⟩
theorem SameInts_is (v u : Value) (a b : List Int) (c : Bool) (w : World) (hI : Ints w v a) (hJ : Ints w u b) (hc : sameQ a b = c) :
    Calls Try.prog 20 #[v, u] w fun r w' => r = .returned (.bool c) ∧ Below w.heap.size w w' :=
  (SameInts_any v u a b w hI hJ).mono fun r w' ⟨h1, h2⟩ => ⟨by rw [h1, hc], h2⟩

/-! The calls, one by one. -/
theorem s1 (w : World) : Calls Try.prog 12 #[sl (w.heap.size + 1 + 1 + 1) 3]
    ((((w.alloc (.cells #[.int .i64 1, .int .i64 2] 3)).alloc (.cells #[.int .i64 2, .int .i64 4] 3)).alloc (.cells #[.int .i64 0, .int .i64 1] 3)).alloc (.cells #[sl w.heap.size 2, sl (w.heap.size + 1) 2, sl (w.heap.size + 1 + 1) 2] 29))
    fun r w' => r = .returned (.tuple #[.int .i64 2, .int .i64 0]) ∧ Below w.heap.size w w' :=
  (Rank_is _ [[1, 2], [2, 4], [0, 1]] 2 0 _ (rows_3 w [1, 2] [2, 4] [0, 1] _ _ _ 3 29 rfl rfl rfl (by decide) (by decide) (by decide) (by decide) (by decide) (by decide)) (by decide) ex_rank).mono
    fun r w' ⟨h1, h2⟩ => ⟨h1, ((below_three w _ _ _).alloc (by simp; omega) _).trans (h2.mono (by simp; omega))⟩
theorem s2 (w : World) : Calls Try.prog 12 #[.slice none 0 0] w fun r w' => r = .returned (.tuple #[.int .i64 0, .int .i64 0]) ∧ Below w.heap.size w w' :=
  Rank_is _ [] 0 0 _ (Rows2.nil _ _ _) (by decide) (by decide)
theorem s3 (w : World) : Calls Try.prog 16 #[sl (w.heap.size + 1 + 1) 2, sl (w.heap.size + 1 + 1 + 1) 2]
    ((((w.alloc (.cells #[.int .i64 1, .int .i64 1] 3)).alloc (.cells #[.int .i64 0, .int .i64 1] 3)).alloc (.cells #[sl w.heap.size 2, sl (w.heap.size + 1) 2] 29)).alloc (.cells #[.int .i64 1, .int .i64 0] 3))
    fun r w' => ∃ yv, r = .returned (.tuple #[yv, .bool true, .int .i64 0]) ∧ Ints w' yv [1, 1073741788] ∧ Below w.heap.size w w' := by
  have hT := ints_lit (((w.alloc (.cells #[.int .i64 1, .int .i64 1] 3)).alloc (.cells #[.int .i64 0, .int .i64 1] 3)).alloc (.cells #[sl w.heap.size 2, sl (w.heap.size + 1) 2] 29)) [1, 0] #[.int .i64 1, .int .i64 0] 3 rfl (rall _ (by decide)) (by decide)
  simp only [World.size_alloc] at hT
  exact (Combine_is _ _ [[1, 1], [0, 1]] [1, 0] [1, 1073741788] true 0 _ ((rows_2 w [1, 1] [0, 1] _ _ 3 29 rfl rfl (by decide) (by decide) (by decide) (by decide)).below (below_a _ _)) hT (by decide) (by rw [ex_comb1.1]; rfl) (by rw [ex_comb1.1, ex_comb1.2]; rfl)).mono
    fun r w' ⟨yv, h1, h2, h3⟩ => ⟨yv, h1, h2, ((below_three w _ _ _).alloc (by simp; omega) _).trans (h3.mono (by simp; omega))⟩

theorem s4 (w : World) : Calls Try.prog 18 #[sl (w.heap.size + 1) 1, sl (w.heap.size + 1 + 1) 2]
    (((w.alloc (.cells #[.int .i64 1, .int .i64 1] 3)).alloc (.cells #[sl w.heap.size 2] 29)).alloc (.cells #[.int .i64 1, .int .i64 0] 3))
    fun r w' => ∃ yv, r = .returned (.tuple #[yv, .bool true, .int .i64 0]) ∧ Ints w' yv [1, 1073741788] ∧ Below w.heap.size w w' := by
  have hT := ints_lit ((w.alloc (.cells #[.int .i64 1, .int .i64 1] 3)).alloc (.cells #[sl w.heap.size 2] 29)) [1, 0] #[.int .i64 1, .int .i64 0] 3 rfl (rall _ (by decide)) (by decide)
  simp only [World.size_alloc] at hT
  exact (Separate_is _ _ [[1, 1]] [1, 0] [1, 1073741788] true 0 _ ((rows_1 w [1, 1] _ 3 29 rfl (by decide) (by decide)).below (below_a _ _)) hT (by decide) (by rw [ex_sep1]; rfl) (by rw [ex_sep1]; rfl)).mono
    fun r w' ⟨yv, h1, h2, h3⟩ => ⟨yv, h1, h2, (below_three w _ _ _).trans (h3.mono (by simp; try omega))⟩
theorem s5 (w : World) : Calls Try.prog 16 #[sl (w.heap.size + 1) 1, sl (w.heap.size + 1 + 1) 2]
    (((w.alloc (.cells #[.int .i64 1, .int .i64 1] 3)).alloc (.cells #[sl w.heap.size 2] 29)).alloc (.cells #[.int .i64 1, .int .i64 0] 3))
    fun r w' => ∃ yv, r = .returned (.tuple #[yv, .bool false, .int .i64 0]) ∧ Ints w' yv [] ∧ Below w.heap.size w w' := by
  have hT := ints_lit ((w.alloc (.cells #[.int .i64 1, .int .i64 1] 3)).alloc (.cells #[sl w.heap.size 2] 29)) [1, 0] #[.int .i64 1, .int .i64 0] 3 rfl (rall _ (by decide)) (by decide)
  simp only [World.size_alloc] at hT
  exact (Combine_is _ _ [[1, 1]] [1, 0] [] false 0 _ ((rows_1 w [1, 1] _ 3 29 rfl (by decide) (by decide)).below (below_a _ _)) hT (by decide) (by rw [ex_comb2]; rfl) (by rw [ex_comb2]; rfl)).mono
    fun r w' ⟨yv, h1, h2, h3⟩ => ⟨yv, h1, h2, (below_three w _ _ _).trans (h3.mono (by simp; try omega))⟩
theorem s6 (w : World) : Calls Try.prog 18 #[sl (w.heap.size + 1 + 1) 2, sl (w.heap.size + 1 + 1 + 1) 2]
    ((((w.alloc (.cells #[.int .i64 1, .int .i64 1] 3)).alloc (.cells #[.int .i64 0, .int .i64 1] 3)).alloc (.cells #[sl w.heap.size 2, sl (w.heap.size + 1) 2] 29)).alloc (.cells #[.int .i64 1, .int .i64 0] 3))
    fun r w' => ∃ yv, r = .returned (.tuple #[yv, .bool false, .int .i64 0]) ∧ Ints w' yv [] ∧ Below w.heap.size w w' := by
  have hT := ints_lit (((w.alloc (.cells #[.int .i64 1, .int .i64 1] 3)).alloc (.cells #[.int .i64 0, .int .i64 1] 3)).alloc (.cells #[sl w.heap.size 2, sl (w.heap.size + 1) 2] 29)) [1, 0] #[.int .i64 1, .int .i64 0] 3 rfl (rall _ (by decide)) (by decide)
  simp only [World.size_alloc] at hT
  exact (Separate_is _ _ [[1, 1], [0, 1]] [1, 0] [] false 0 _ ((rows_2 w [1, 1] [0, 1] _ _ 3 29 rfl rfl (by decide) (by decide) (by decide) (by decide)).below (below_a _ _)) hT (by decide) (by rw [ex_sep2]; rfl) (by rw [ex_sep2]; rfl)).mono
    fun r w' ⟨yv, h1, h2, h3⟩ => ⟨yv, h1, h2, ((below_three w _ _ _).alloc (by simp; omega) _).trans (h3.mono (by simp; try omega))⟩
theorem s7 (w : World) : Calls Try.prog 16 #[.slice none 0 0, sl w.heap.size 2]
    (w.alloc (.cells #[.int .i64 0, .int .i64 0] 3))
    fun r w' => ∃ yv, r = .returned (.tuple #[yv, .bool true, .int .i64 0]) ∧ Ints w' yv [] ∧ Below w.heap.size w w' := by
  have hT := ints_lit w [0, 0] #[.int .i64 0, .int .i64 0] 3 rfl (rall _ (by decide)) (by decide)
  exact (Combine_is _ _ [] [0, 0] [] true 0 _ (Rows2.nil _ _ _) hT (by decide) (by rw [ex_comb3.1]; rfl) (by rw [ex_comb3.1, ex_comb3.2]; rfl)).mono
    fun r w' ⟨yv, h1, h2, h3⟩ => ⟨yv, h1, h2, (below_a w _).trans (h3.mono (by simp; try omega))⟩
theorem s8 (w : World) : Calls Try.prog 18 #[.slice none 0 0, sl w.heap.size 2]
    (w.alloc (.cells #[.int .i64 0, .int .i64 2] 3))
    fun r w' => ∃ yv, r = .returned (.tuple #[yv, .bool true, .int .i64 0]) ∧ Ints w' yv [0, 536870895] ∧ Below w.heap.size w w' := by
  have hT := ints_lit w [0, 2] #[.int .i64 0, .int .i64 2] 3 rfl (rall _ (by decide)) (by decide)
  exact (Separate_is _ _ [] [0, 2] [0, 536870895] true 0 _ (Rows2.nil _ _ _) hT (by decide) (by rw [ex_sep3]; rfl) (by rw [ex_sep3]; rfl)).mono
    fun r w' ⟨yv, h1, h2, h3⟩ => ⟨yv, h1, h2, (below_a w _).trans (h3.mono (by simp; try omega))⟩
theorem s9 (w : World) : Calls Try.prog 16 #[sl (w.heap.size + 1 + 1 + 1) 3, sl (w.heap.size + 1 + 1 + 1 + 1) 2]
    (((((w.alloc (.cells #[.int .i64 1, .int .i64 1] 3)).alloc (.cells #[.int .i64 2, .int .i64 2] 3)).alloc (.cells #[.int .i64 0, .int .i64 1] 3)).alloc (.cells #[sl w.heap.size 2, sl (w.heap.size + 1) 2, sl (w.heap.size + 1 + 1) 2] 29)).alloc (.cells #[.int .i64 2, .int .i64 3] 3))
    fun r w' => ∃ yv, r = .returned (.tuple #[yv, .bool true, .int .i64 0]) ∧ Ints w' yv [2, 0, 1] ∧ Below w.heap.size w w' := by
  have hT := ints_lit ((((w.alloc (.cells #[.int .i64 1, .int .i64 1] 3)).alloc (.cells #[.int .i64 2, .int .i64 2] 3)).alloc (.cells #[.int .i64 0, .int .i64 1] 3)).alloc (.cells #[sl w.heap.size 2, sl (w.heap.size + 1) 2, sl (w.heap.size + 1 + 1) 2] 29)) [2, 3] #[.int .i64 2, .int .i64 3] 3 rfl (rall _ (by decide)) (by decide)
  simp only [World.size_alloc] at hT
  exact (Combine_is _ _ [[1, 1], [2, 2], [0, 1]] [2, 3] [2, 0, 1] true 0 _ ((rows_3 w [1, 1] [2, 2] [0, 1] _ _ _ 3 29 rfl rfl rfl (by decide) (by decide) (by decide) (by decide) (by decide) (by decide)).below (below_a _ _)) hT (by decide) (by rw [ex_comb4.1]; rfl) (by rw [ex_comb4.1, ex_comb4.2]; rfl)).mono
    fun r w' ⟨yv, h1, h2, h3⟩ => ⟨yv, h1, h2, (((below_three w _ _ _).alloc (by simp; omega) _).alloc (by simp; omega) _).trans (h3.mono (by simp; try omega))⟩
theorem s10 (w : World) : Calls Try.prog 16 #[sl (w.heap.size + 1) 1, sl (w.heap.size + 1 + 1) 1]
    (((w.alloc (.cells #[.int .i64 1, .int .i64 1] 3)).alloc (.cells #[sl w.heap.size 2] 29)).alloc (.cells #[.int .i64 1] 3))
    fun r w' => ∃ yv, r = .returned (.tuple #[yv, .bool false, .int .i64 130]) ∧ Ints w' yv [] ∧ Below w.heap.size w w' := by
  have hT := ints_lit ((w.alloc (.cells #[.int .i64 1, .int .i64 1] 3)).alloc (.cells #[sl w.heap.size 2] 29)) [1] #[.int .i64 1] 3 rfl (rall _ (by decide)) (by decide)
  simp only [World.size_alloc] at hT
  exact (Combine_is _ _ [[1, 1]] [1] [] false 130 _ ((rows_1 w [1, 1] _ 3 29 rfl (by decide) (by decide)).below (below_a _ _)) hT (by decide) (by rfl) (by rfl)).mono
    fun r w' ⟨yv, h1, h2, h3⟩ => ⟨yv, h1, h2, (below_three w _ _ _).trans (h3.mono (by simp; try omega))⟩
theorem s11 (w : World) : Calls Try.prog 18 #[.slice none 0 0, sl w.heap.size 1]
    (w.alloc (.cells #[.int .i64 1073741789] 3))
    fun r w' => ∃ yv, r = .returned (.tuple #[yv, .bool false, .int .i64 130]) ∧ Ints w' yv [] ∧ Below w.heap.size w w' := by
  have hT := ints_lit w [1073741789] #[.int .i64 1073741789] 3 rfl (rall _ (by decide)) (by decide)
  exact (Separate_is _ _ [] [1073741789] [] false 130 _ (Rows2.nil _ _ _) hT (by decide) (by rfl) (by rfl)).mono
    fun r w' ⟨yv, h1, h2, h3⟩ => ⟨yv, h1, h2, (below_a w _).trans (h3.mono (by simp; try omega))⟩

theorem k1 (w : World) : Calls Try.prog 14 #[.slice none 0 0] w fun r w' => r = .returned (.int .i64 0) ∧ Below w.heap.size w w' :=
  Check_is _ [] 0 _ (Rows2.nil _ _ _) (by decide)
theorem k2 (w : World) : Calls Try.prog 14 #[sl (w.heap.size + 1 + 1) 2]
    (((w.alloc (.cells #[.int .i64 1, .int .i64 2] 3)).alloc (.cells #[.int .i64 3] 3)).alloc (.cells #[sl w.heap.size 2, sl (w.heap.size + 1) 1] 29))
    fun r w' => r = .returned (.int .i64 130) ∧ Below w.heap.size w w' :=
  (Check_is _ [[1, 2], [3]] 130 _ (rows_2 w [1, 2] [3] _ _ 3 29 rfl rfl (by decide) (by decide) (by decide) (by decide)) (by decide)).mono
    fun r w' ⟨h1, h2⟩ => ⟨h1, (below_three w _ _ _).trans (h2.mono (by simp; omega))⟩
theorem k3 (w : World) : Calls Try.prog 14 #[sl (w.heap.size + 1) 1]
    ((w.alloc (.cells #[.int .i64 (-1)] 3)).alloc (.cells #[sl w.heap.size 1] 29))
    fun r w' => r = .returned (.int .i64 130) ∧ Below w.heap.size w w' :=
  (Check_is _ [[-1]] 130 _ (rows_1 w [-1] _ 3 29 rfl (by decide) (by decide)) (by decide)).mono
    fun r w' ⟨h1, h2⟩ => ⟨h1, (below_two w _ _).trans (h2.mono (by simp; omega))⟩
theorem made_nils (w : World) (n : Nat) (hn : n ≤ 1000) : Rows2 (w.alloc (.cells (madeCells #[.slice none 0 0] n) 29)) (sl w.heap.size n) (List.replicate n []) := by
  refine ⟨some ⟨w.heap.size, 0, none⟩, n, by simp, by simp, by simp; omega, fun k hk => ⟨w.heap.size, 0, .slice none 0 0, rfl, ?_, ?_⟩⟩
  · simp at hk
    rw [World.cell?_alloc_at _ _ _ _ rfl, Nat.zero_add]; simp [madeCells, hk, Nat.mod_one]
  · simp only [List.getElem_replicate]; exact Ints.nil _ _ _
theorem k4 (w : World) : Calls Try.prog 14 #[sl w.heap.size 65] (w.alloc (.cells (madeCells #[.slice none 0 0] 65) 29))
    fun r w' => r = .returned (.int .i64 2) ∧ Below w.heap.size w w' :=
  (Check_is _ (List.replicate 65 []) 2 _ (made_nils w 65 (by decide)) (by decide)).mono fun r w' ⟨h1, h2⟩ => ⟨h1, (below_a w _).trans (h2.mono (by simp))⟩
theorem k5 (w : World) : Calls Try.prog 14 #[sl (w.heap.size + 1) 1] ((w.alloc (.cells (madeCells #[.int .i64 0] 65) 3)).alloc (.cells #[sl w.heap.size 65] 29))
    fun r w' => r = .returned (.int .i64 2) ∧ Below w.heap.size w w' := by
  have hi := (IBlk.made w 65 3).ints (c := 65) (Nat.le_refl _) (by decide) (fun _ _ => by unfold R64; omega)
  have hr := rows_lit (w.alloc (.cells (madeCells #[.int .i64 0] 65) 3)) [(List.range 65).map fun _ => (0 : Int)] [sl w.heap.size 65] #[sl w.heap.size 65] 29 rfl rfl (by decide) (fun k k1 k2 => by
    obtain rfl : k = 0 := by simp at k1; omega
    exact hi)
  simp only [World.size_alloc] at hr
  exact (Check_is _ [(List.range 65).map fun _ => (0 : Int)] 2 _ hr (by decide +kernel)).mono fun r w' ⟨h1, h2⟩ => ⟨h1, (below_two w _ _).trans (h2.mono (by simp; omega))⟩

theorem g2 (y : Value) (a b : Int) (w : World) (hI : Ints w y [a, b]) (hr : ([a, b].all fun z => decide (-9223372036854775808 ≤ z ∧ z ≤ 9223372036854775807)) = true) :
    Calls Try.prog 20 #[y, sl w.heap.size 2] (w.alloc (.cells #[.int .i64 a, .int .i64 b] 3)) fun r w' => r = .returned (.bool true) ∧ Below w.heap.size w w' :=
  (SameInts_is _ _ [a, b] [a, b] true _ (hI.below (below_a _ _)) (ints_lit w [a, b] _ _ rfl (rall _ hr) (by simp)) (by simp [sameQ])).mono fun r w' ⟨h1, h2⟩ => ⟨h1, (below_a w _).trans (h2.mono (by simp))⟩
theorem g3 (y : Value) (a b c : Int) (w : World) (hI : Ints w y [a, b, c]) (hr : ([a, b, c].all fun z => decide (-9223372036854775808 ≤ z ∧ z ≤ 9223372036854775807)) = true) :
    Calls Try.prog 20 #[y, sl w.heap.size 3] (w.alloc (.cells #[.int .i64 a, .int .i64 b, .int .i64 c] 3)) fun r w' => r = .returned (.bool true) ∧ Below w.heap.size w w' :=
  (SameInts_is _ _ [a, b, c] [a, b, c] true _ (hI.below (below_a _ _)) (ints_lit w [a, b, c] _ _ rfl (rall _ hr) (by simp)) (by simp [sameQ])).mono fun r w' ⟨h1, h2⟩ => ⟨h1, (below_a w _).trans (h2.mono (by simp))⟩

set_option maxRecDepth 100000 in
set_option maxHeartbeats 8000000 in
theorem sane_any (w : World) : Calls Try.prog 10 #[] w fun e w' => e = .returned (.bool true) ∧ Below w.heap.size w w' := by
  go_enter Try.func10, Try.ntmps10
  go_wp2_with fail
  with_reducible refine (s1 _).mono ?_
  rintro e w1 ⟨rfl, b1⟩
  go_wp2_with fail
  with_reducible refine (s2 _).mono ?_
  rintro e w2 ⟨rfl, b2⟩
  go_wp2_with fail
  with_reducible refine (s3 _).mono ?_
  rintro e w3 ⟨y3, rfl, i3, b3⟩
  go_wp2_with fail
  with_reducible refine (s4 _).mono ?_
  rintro e w4 ⟨y4, rfl, i4, b4⟩
  have hm22 : ∀ w : World, (Instr.makeSlice 22 (.int .i64 65) (.int .i64 65)).run Try.prog w = .ok (sl w.heap.size 65) (w.alloc (.cells (madeCells #[.slice none 0 0] 65) 29)) := fun w =>
    run_make_row' (P := Try.prog) 22 29 (.slice none 0 0) 24 Try.underlying22 infoRw rfl .i64 .i64 65 (by omega) (by omega) w
  have hm29 : ∀ w : World, (Instr.makeSlice 29 (.int .i64 65) (.int .i64 65)).run Try.prog w = .ok (sl w.heap.size 65) (w.alloc (.cells (madeCells #[.int .i64 0] 65) 3)) := run_ints 65 (by omega)
  go_wp2_with fail
  with_reducible refine (s5 _).mono ?_
  rintro e w5 ⟨y5, rfl, i5, b5⟩
  go_wp2_with fail
  with_reducible refine (s6 _).mono ?_
  rintro e w6 ⟨y6, rfl, i6, b6⟩
  go_wp2_with fail
  with_reducible refine (s7 _).mono ?_
  rintro e w7 ⟨y7, rfl, i7, b7⟩
  obtain ⟨a7, c7, rfl⟩ := i7.nil_of
  go_wp2_with fail
  with_reducible refine (s8 _).mono ?_
  rintro e w8 ⟨y8, rfl, i8, b8⟩
  go_wp2_with fail
  with_reducible refine (s9 _).mono ?_
  rintro e w9 ⟨y9, rfl, i9, b9⟩
  go_wp2_with fail
  with_reducible refine (s10 _).mono ?_
  rintro e w10 ⟨y10, rfl, i10, b10⟩
  go_wp2_with fail
  with_reducible refine (s11 _).mono ?_
  rintro e w11 ⟨y11, rfl, i11, b11⟩
  go_wp2_with fail
  have j3 := ((((((((i3.below b4).below b5).below b6).below b7).below b8).below b9).below b10).below b11)
  have j4 := (((((((i4.below b5).below b6).below b7).below b8).below b9).below b10).below b11)
  have j8 := (((i8.below b9).below b10).below b11)
  have j9 := ((i9.below b10).below b11)
  with_reducible refine (g2 _ _ _ _ j3 (by decide)).mono ?_
  rintro e w12 ⟨rfl, b12⟩
  go_wp2_with fail
  with_reducible refine (g2 _ _ _ _ (j4.below b12) (by decide)).mono ?_
  rintro e w13 ⟨rfl, b13⟩
  go_wp2_with fail
  with_reducible refine (g2 _ _ _ _ ((j8.below b12).below b13) (by decide)).mono ?_
  rintro e w14 ⟨rfl, b14⟩
  go_wp2_with fail
  with_reducible refine (g3 _ _ _ _ _ (((j9.below b12).below b13).below b14) (by decide)).mono ?_
  rintro e w15 ⟨rfl, b15⟩
  go_wp2_with fail
  with_reducible refine (k1 _).mono ?_
  rintro e w16 ⟨rfl, b16⟩
  go_wp2_with fail
  with_reducible refine (k2 _).mono ?_
  rintro e w17 ⟨rfl, b17⟩
  go_wp2_with fail
  with_reducible refine (k3 _).mono ?_
  rintro e w18 ⟨rfl, b18⟩
  go_wp2_with fail
  with_reducible refine (k4 _).mono ?_
  rintro e w19 ⟨rfl, b19⟩
  go_wp2_with fail
  with_reducible refine (k5 _).mono ?_
  rintro e w20 ⟨rfl, b20⟩
  go_wp2_with fail
  go_ret
  refine ⟨rfl, ?_⟩
  have t2 := b1.trans (b2.mono b1.size)
  have t3 := t2.trans (b3.mono t2.size)
  have t4 := t3.trans (b4.mono t3.size)
  have t5 := t4.trans (b5.mono t4.size)
  have t6 := t5.trans (b6.mono t5.size)
  have t7 := t6.trans (b7.mono t6.size)
  have t8 := t7.trans (b8.mono t7.size)
  have t9 := t8.trans (b9.mono t8.size)
  have t10 := t9.trans (b10.mono t9.size)
  have t11 := t10.trans (b11.mono t10.size)
  have t12 := t11.trans (b12.mono t11.size)
  have t13 := t12.trans (b13.mono t12.size)
  have t14 := t13.trans (b14.mono t13.size)
  have t15 := t14.trans (b15.mono t14.size)
  have t16 := t15.trans (b16.mono t15.size)
  have t17 := t16.trans (b17.mono t16.size)
  have t18 := t17.trans (b18.mono t17.size)
  have t19 := t18.trans (b19.mono t18.size)
  have t20 := t19.trans (b20.mono t19.size)
  exact t20

end Go.Proofs.Ytjjdgphjkoppgaa
