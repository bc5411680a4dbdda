/- The laws' examples: sane returns true. What the calls give, with their values known: for the laws. What LinearSums and LinearChanged say, without a program: combinations of sums; rows that are changed. -/
import Derived.Test.YtohebkpgjaaljaaMLaG
import Derived.Test.YtohebkpgjaaljaaMLinU
import Derived.Test.YtohebkpgjaaljaaMLaI
namespace Go.Proofs.Ytohebkpgjaaljaa
open Go.RowKit

theorem ints_lit (w : World) (zs : List Int) (cs : Array Value) (t : TypeId) (hc : cs = (zs.map (Value.int .i64)).toArray) (hr : ∀ z ∈ zs, R64 z) (hn : zs.length ≤ 1000) : Ints (w.alloc (.cells cs t)) (.slice (some ⟨w.heap.size, 0, none⟩) zs.length zs.length) zs := by
  refine ⟨_, _, rfl, Nat.le_refl _, by omega, hr, fun k hk => ⟨_, 0, rfl, ?_⟩⟩
  rw [World.cell?_alloc_at _ _ _ _ rfl, hc, Nat.zero_add]
  simp [hk]
theorem rows_lit (w : World) (rows : List (List Int)) (hs : List Value) (cs : Array Value) (t : TypeId) (hc : cs = hs.toArray) (hl : hs.length = rows.length) (hn : rows.length ≤ 1000) (hi : ∀ k (h1 : k < hs.length) (h2 : k < rows.length), Ints w hs[k] rows[k]) :
    Rows2 (w.alloc (.cells cs t)) (.slice (some ⟨w.heap.size, 0, none⟩) rows.length rows.length) rows := by
  refine ⟨_, _, rfl, Nat.le_refl _, by omega, fun k hk => ⟨_, 0, hs[k]'(by omega), rfl, ?_, (hi k (by omega) hk).below ((Below.refl _ _).alloc (Nat.le_refl _) _)⟩⟩
  rw [World.cell?_alloc_at _ _ _ _ rfl, hc, Nat.zero_add]
  simp [show k < hs.length by omega]

abbrev sl (b n : Nat) : Value := .slice (some ⟨b, 0, none⟩) n n
theorem below_a (w : World) (o : Obj) : Below w.heap.size w (w.alloc o) := (Below.refl _ _).alloc (Nat.le_refl _) o

theorem r2 (z : Int) (h : decide (-9223372036854775808 ≤ z ∧ z ≤ 9223372036854775807) = true) : R64 z := by unfold R64; simpa using h
theorem rall (zs : List Int) (h : (zs.all fun z => decide (-9223372036854775808 ≤ z ∧ z ≤ 9223372036854775807)) = true) : ∀ z ∈ zs, R64 z := fun z hz => r2 z (List.all_eq_true.1 h z hz)

/-- One row of literals. -/
theorem rows_1 (w : World) (a : List Int) (ca : Array Value) (t u : TypeId) (h1 : ca = (a.map (Value.int .i64)).toArray) (r1 : (a.all fun z => decide (-9223372036854775808 ≤ z ∧ z ≤ 9223372036854775807)) = true) (n1 : a.length ≤ 1000) :
    Rows2 ((w.alloc (.cells ca t)).alloc (.cells #[sl w.heap.size a.length] u)) (sl (w.heap.size + 1) 1) [a] := by
  have := rows_lit (w.alloc (.cells ca t)) [a] [sl w.heap.size a.length] #[sl w.heap.size a.length] u rfl rfl (by simp) (fun k k1 k2 => by
    obtain rfl : k = 0 := by simp at k1; omega
    exact ints_lit w a ca t h1 (rall a r1) n1)
  simpa using this
theorem rows_2 (w : World) (a b : List Int) (ca cb : Array Value) (t u : TypeId) (h1 : ca = (a.map (Value.int .i64)).toArray) (h2 : cb = (b.map (Value.int .i64)).toArray) (r1 : (a.all fun z => decide (-9223372036854775808 ≤ z ∧ z ≤ 9223372036854775807)) = true) (r2 : (b.all fun z => decide (-9223372036854775808 ≤ z ∧ z ≤ 9223372036854775807)) = true) (n1 : a.length ≤ 1000) (n2 : b.length ≤ 1000) :
    Rows2 (((w.alloc (.cells ca t)).alloc (.cells cb t)).alloc (.cells #[sl w.heap.size a.length, sl (w.heap.size + 1) b.length] u)) (sl (w.heap.size + 1 + 1) 2) [a, b] := by
  have ib := ints_lit (w.alloc (.cells ca t)) b cb t h2 (rall b r2) n2
  have ia := (ints_lit w a ca t h1 (rall a r1) n1).below (below_a _ (.cells cb t))
  have := rows_lit ((w.alloc (.cells ca t)).alloc (.cells cb t)) [a, b] [sl w.heap.size a.length, sl (w.heap.size + 1) b.length] _ u rfl rfl (by simp) (fun k k1 k2 => by
    have : k = 0 ∨ k = 1 := by simp at k1; omega
    rcases this with rfl | rfl
    · exact ia
    · simpa using ib)
  simpa using this
theorem rows_3 (w : World) (a b c : List Int) (ca cb cc : Array Value) (t u : TypeId) (h1 : ca = (a.map (Value.int .i64)).toArray) (h2 : cb = (b.map (Value.int .i64)).toArray) (h3 : cc = (c.map (Value.int .i64)).toArray) (r1 : (a.all fun z => decide (-9223372036854775808 ≤ z ∧ z ≤ 9223372036854775807)) = true) (r2 : (b.all fun z => decide (-9223372036854775808 ≤ z ∧ z ≤ 9223372036854775807)) = true) (r3 : (c.all fun z => decide (-9223372036854775808 ≤ z ∧ z ≤ 9223372036854775807)) = true) (n1 : a.length ≤ 1000) (n2 : b.length ≤ 1000) (n3 : c.length ≤ 1000) :
    Rows2 ((((w.alloc (.cells ca t)).alloc (.cells cb t)).alloc (.cells cc t)).alloc (.cells #[sl w.heap.size a.length, sl (w.heap.size + 1) b.length, sl (w.heap.size + 1 + 1) c.length] u)) (sl (w.heap.size + 1 + 1 + 1) 3) [a, b, c] := by
  have ic := ints_lit ((w.alloc (.cells ca t)).alloc (.cells cb t)) c cc t h3 (rall c r3) n3
  have ib := (ints_lit (w.alloc (.cells ca t)) b cb t h2 (rall b r2) n2).below (below_a _ (.cells cc t))
  have ia := ((ints_lit w a ca t h1 (rall a r1) n1).below (below_a _ (.cells cb t))).below (below_a _ (.cells cc t))
  have := rows_lit (((w.alloc (.cells ca t)).alloc (.cells cb t)).alloc (.cells cc t)) [a, b, c] [sl w.heap.size a.length, sl (w.heap.size + 1) b.length, sl (w.heap.size + 1 + 1) c.length] _ u rfl rfl (by simp) (fun k k1 k2 => by
    have : k = 0 ∨ k = 1 ∨ k = 2 := by simp at k1; omega
    rcases this with rfl | rfl | rfl
    · exact ia
    · simpa using ib
    · simpa using ic)
  simpa using this

set_option maxRecDepth 100000 in
/-- Combine and Separate at rows whose result is known. -/
theorem Combine_is (v u : Value) (rows : List (List Int)) (t y : List Int) (ok : Bool) (e : Int) (w : World) (hI : Rows2 w v rows) (hU : Ints w u t) (he : examErr rows t = e) (hok : (decide (e = 0) && combOk rows t) = ok) (hy : (if e = 0 ∧ combOk rows t = true then combY rows t else []) = y) :
    Calls Try.prog 59 #[v, u] w fun r w' => ∃ yv, r = .returned (.tuple #[yv, .bool ok, .int .i64 e]) ∧ Ints w' yv y ∧ Below w.heap.size w w' :=
  (Combine_any v u rows t w hI hU).mono fun r w' ⟨yv, h1, h2, h3⟩ => ⟨yv, by rw [h1, he, hok], by rw [he, hy] at h2; exact h2, h3⟩
set_option maxRecDepth 100000 in
theorem Separate_is (v u : Value) (rows : List (List Int)) (t y : List Int) (ok : Bool) (e : Int) (w : World) (hI : Rows2 w v rows) (hU : Ints w u t) (he : examErr rows t = e) (hok : (decide (e = 0) && (sepQ rows t).isSome) = ok) (hy : (if e = 0 then (sepQ rows t).getD [] else []) = y) :
    Calls Try.prog 63 #[v, u] w fun r w' => ∃ yv, r = .returned (.tuple #[yv, .bool ok, .int .i64 e]) ∧ Ints w' yv y ∧ Below w.heap.size w w' :=
  (Separate_any v u rows t w hI hU).mono fun r w' ⟨yv, h1, h2, h3⟩ => ⟨yv, by rw [h1, he, hok], by rw [he, hy] at h2; exact h2, h3⟩
set_option maxRecDepth 100000 in
theorem Rank_is (v : Value) (rows : List (List Int)) (n : Nat) (e : Int) (w : World) (hI : Rows2 w v rows) (he : checkErr rows = e) (hn : rankQ rows = n) :
    Calls Try.prog 31 #[v] w fun r w' => r = .returned (.tuple #[.int .i64 n, .int .i64 e]) ∧ Below w.heap.size w w' :=
  (Rank_any v rows w hI).mono fun r w' ⟨h1, h2⟩ => ⟨by rw [h1, he, hn], h2⟩
set_option maxRecDepth 100000 in
theorem Check_is (v : Value) (rows : List (List Int)) (e : Int) (w : World) (hI : Rows2 w v rows) (he : checkErr rows = e) :
    Calls Try.prog 67 #[v] w fun r w' => r = .returned (.int .i64 e) ∧ Below w.heap.size w w' :=
  (Check_any v rows w hI).mono fun r w' ⟨h1, h2⟩ => ⟨by rw [h1, he], h2⟩
/-! The calls, one by one. -/
set_option maxRecDepth 100000 in
theorem s1 (w : World) : Calls Try.prog 31 #[sl (w.heap.size + 1 + 1 + 1) 3]
    ((((w.alloc (.cells #[.int .i64 1, .int .i64 2] 3)).alloc (.cells #[.int .i64 2, .int .i64 4] 3)).alloc (.cells #[.int .i64 0, .int .i64 1] 3)).alloc (.cells #[sl w.heap.size 2, sl (w.heap.size + 1) 2, sl (w.heap.size + 1 + 1) 2] 23))
    fun r w' => r = .returned (.tuple #[.int .i64 2, .int .i64 0]) ∧ Below w.heap.size w w' :=
  (Rank_is _ [[1, 2], [2, 4], [0, 1]] 2 0 _ (rows_3 w [1, 2] [2, 4] [0, 1] _ _ _ 3 23 rfl rfl rfl (by decide) (by decide) (by decide) (by decide) (by decide) (by decide)) (by decide) ex_rank).mono
    fun r w' ⟨h1, h2⟩ => ⟨h1, ((below_three w _ _ _).alloc (by simp; omega) _).trans (h2.mono (by simp; omega))⟩
set_option maxRecDepth 100000 in
theorem s2 (w : World) : Calls Try.prog 31 #[.slice none 0 0] w fun r w' => r = .returned (.tuple #[.int .i64 0, .int .i64 0]) ∧ Below w.heap.size w w' :=
  Rank_is _ [] 0 0 _ (Rows2.nil _ _ _) (by decide) (by decide)
set_option maxRecDepth 100000 in
theorem s3 (w : World) : Calls Try.prog 59 #[sl (w.heap.size + 1 + 1) 2, sl (w.heap.size + 1 + 1 + 1) 2]
    ((((w.alloc (.cells #[.int .i64 1, .int .i64 1] 3)).alloc (.cells #[.int .i64 0, .int .i64 1] 3)).alloc (.cells #[sl w.heap.size 2, sl (w.heap.size + 1) 2] 23)).alloc (.cells #[.int .i64 1, .int .i64 0] 3))
    fun r w' => ∃ yv, r = .returned (.tuple #[yv, .bool true, .int .i64 0]) ∧ Ints w' yv [1, 1073741788] ∧ Below w.heap.size w w' := by
  have hT := ints_lit (((w.alloc (.cells #[.int .i64 1, .int .i64 1] 3)).alloc (.cells #[.int .i64 0, .int .i64 1] 3)).alloc (.cells #[sl w.heap.size 2, sl (w.heap.size + 1) 2] 23)) [1, 0] #[.int .i64 1, .int .i64 0] 3 rfl (rall _ (by decide)) (by decide)
  simp only [World.size_alloc] at hT
  exact (Combine_is _ _ [[1, 1], [0, 1]] [1, 0] [1, 1073741788] true 0 _ ((rows_2 w [1, 1] [0, 1] _ _ 3 23 rfl rfl (by decide) (by decide) (by decide) (by decide)).below (below_a _ _)) hT (by decide) (by rw [ex_comb1.1]; rfl) (by rw [ex_comb1.1, ex_comb1.2]; rfl)).mono
    fun r w' ⟨yv, h1, h2, h3⟩ => ⟨yv, h1, h2, ((below_three w _ _ _).alloc (by simp; omega) _).trans (h3.mono (by simp; omega))⟩

set_option maxRecDepth 100000 in
theorem s4 (w : World) : Calls Try.prog 63 #[sl (w.heap.size + 1) 1, sl (w.heap.size + 1 + 1) 2]
    (((w.alloc (.cells #[.int .i64 1, .int .i64 1] 3)).alloc (.cells #[sl w.heap.size 2] 23)).alloc (.cells #[.int .i64 1, .int .i64 0] 3))
    fun r w' => ∃ yv, r = .returned (.tuple #[yv, .bool true, .int .i64 0]) ∧ Ints w' yv [1, 1073741788] ∧ Below w.heap.size w w' := by
  have hT := ints_lit ((w.alloc (.cells #[.int .i64 1, .int .i64 1] 3)).alloc (.cells #[sl w.heap.size 2] 23)) [1, 0] #[.int .i64 1, .int .i64 0] 3 rfl (rall _ (by decide)) (by decide)
  simp only [World.size_alloc] at hT
  exact (Separate_is _ _ [[1, 1]] [1, 0] [1, 1073741788] true 0 _ ((rows_1 w [1, 1] _ 3 23 rfl (by decide) (by decide)).below (below_a _ _)) hT (by decide) (by rw [ex_sep1]; rfl) (by rw [ex_sep1]; rfl)).mono
    fun r w' ⟨yv, h1, h2, h3⟩ => ⟨yv, h1, h2, (below_three w _ _ _).trans (h3.mono (by simp; try omega))⟩
set_option maxRecDepth 100000 in
theorem s5 (w : World) : Calls Try.prog 59 #[sl (w.heap.size + 1) 1, sl (w.heap.size + 1 + 1) 2]
    (((w.alloc (.cells #[.int .i64 1, .int .i64 1] 3)).alloc (.cells #[sl w.heap.size 2] 23)).alloc (.cells #[.int .i64 1, .int .i64 0] 3))
    fun r w' => ∃ yv, r = .returned (.tuple #[yv, .bool false, .int .i64 0]) ∧ Ints w' yv [] ∧ Below w.heap.size w w' := by
  have hT := ints_lit ((w.alloc (.cells #[.int .i64 1, .int .i64 1] 3)).alloc (.cells #[sl w.heap.size 2] 23)) [1, 0] #[.int .i64 1, .int .i64 0] 3 rfl (rall _ (by decide)) (by decide)
  simp only [World.size_alloc] at hT
  exact (Combine_is _ _ [[1, 1]] [1, 0] [] false 0 _ ((rows_1 w [1, 1] _ 3 23 rfl (by decide) (by decide)).below (below_a _ _)) hT (by decide) (by rw [ex_comb2]; rfl) (by rw [ex_comb2]; rfl)).mono
    fun r w' ⟨yv, h1, h2, h3⟩ => ⟨yv, h1, h2, (below_three w _ _ _).trans (h3.mono (by simp; try omega))⟩
set_option maxRecDepth 100000 in
theorem s6 (w : World) : Calls Try.prog 63 #[sl (w.heap.size + 1 + 1) 2, sl (w.heap.size + 1 + 1 + 1) 2]
    ((((w.alloc (.cells #[.int .i64 1, .int .i64 1] 3)).alloc (.cells #[.int .i64 0, .int .i64 1] 3)).alloc (.cells #[sl w.heap.size 2, sl (w.heap.size + 1) 2] 23)).alloc (.cells #[.int .i64 1, .int .i64 0] 3))
    fun r w' => ∃ yv, r = .returned (.tuple #[yv, .bool false, .int .i64 0]) ∧ Ints w' yv [] ∧ Below w.heap.size w w' := by
  have hT := ints_lit (((w.alloc (.cells #[.int .i64 1, .int .i64 1] 3)).alloc (.cells #[.int .i64 0, .int .i64 1] 3)).alloc (.cells #[sl w.heap.size 2, sl (w.heap.size + 1) 2] 23)) [1, 0] #[.int .i64 1, .int .i64 0] 3 rfl (rall _ (by decide)) (by decide)
  simp only [World.size_alloc] at hT
  exact (Separate_is _ _ [[1, 1], [0, 1]] [1, 0] [] false 0 _ ((rows_2 w [1, 1] [0, 1] _ _ 3 23 rfl rfl (by decide) (by decide) (by decide) (by decide)).below (below_a _ _)) hT (by decide) (by rw [ex_sep2]; rfl) (by rw [ex_sep2]; rfl)).mono
    fun r w' ⟨yv, h1, h2, h3⟩ => ⟨yv, h1, h2, ((below_three w _ _ _).alloc (by simp; omega) _).trans (h3.mono (by simp; try omega))⟩
set_option maxRecDepth 100000 in
theorem s7 (w : World) : Calls Try.prog 59 #[.slice none 0 0, sl w.heap.size 2]
    (w.alloc (.cells #[.int .i64 0, .int .i64 0] 3))
    fun r w' => ∃ yv, r = .returned (.tuple #[yv, .bool true, .int .i64 0]) ∧ Ints w' yv [] ∧ Below w.heap.size w w' := by
  have hT := ints_lit w [0, 0] #[.int .i64 0, .int .i64 0] 3 rfl (rall _ (by decide)) (by decide)
  exact (Combine_is _ _ [] [0, 0] [] true 0 _ (Rows2.nil _ _ _) hT (by decide) (by rw [ex_comb3.1]; rfl) (by rw [ex_comb3.1, ex_comb3.2]; rfl)).mono
    fun r w' ⟨yv, h1, h2, h3⟩ => ⟨yv, h1, h2, (below_a w _).trans (h3.mono (by simp; try omega))⟩
set_option maxRecDepth 100000 in
theorem s8 (w : World) : Calls Try.prog 63 #[.slice none 0 0, sl w.heap.size 2]
    (w.alloc (.cells #[.int .i64 0, .int .i64 2] 3))
    fun r w' => ∃ yv, r = .returned (.tuple #[yv, .bool true, .int .i64 0]) ∧ Ints w' yv [0, 536870895] ∧ Below w.heap.size w w' := by
  have hT := ints_lit w [0, 2] #[.int .i64 0, .int .i64 2] 3 rfl (rall _ (by decide)) (by decide)
  exact (Separate_is _ _ [] [0, 2] [0, 536870895] true 0 _ (Rows2.nil _ _ _) hT (by decide) (by rw [ex_sep3]; rfl) (by rw [ex_sep3]; rfl)).mono
    fun r w' ⟨yv, h1, h2, h3⟩ => ⟨yv, h1, h2, (below_a w _).trans (h3.mono (by simp; try omega))⟩
set_option maxRecDepth 100000 in
theorem s9 (w : World) : Calls Try.prog 59 #[sl (w.heap.size + 1 + 1 + 1) 3, sl (w.heap.size + 1 + 1 + 1 + 1) 2]
    (((((w.alloc (.cells #[.int .i64 1, .int .i64 1] 3)).alloc (.cells #[.int .i64 2, .int .i64 2] 3)).alloc (.cells #[.int .i64 0, .int .i64 1] 3)).alloc (.cells #[sl w.heap.size 2, sl (w.heap.size + 1) 2, sl (w.heap.size + 1 + 1) 2] 23)).alloc (.cells #[.int .i64 2, .int .i64 3] 3))
    fun r w' => ∃ yv, r = .returned (.tuple #[yv, .bool true, .int .i64 0]) ∧ Ints w' yv [2, 0, 1] ∧ Below w.heap.size w w' := by
  have hT := ints_lit ((((w.alloc (.cells #[.int .i64 1, .int .i64 1] 3)).alloc (.cells #[.int .i64 2, .int .i64 2] 3)).alloc (.cells #[.int .i64 0, .int .i64 1] 3)).alloc (.cells #[sl w.heap.size 2, sl (w.heap.size + 1) 2, sl (w.heap.size + 1 + 1) 2] 23)) [2, 3] #[.int .i64 2, .int .i64 3] 3 rfl (rall _ (by decide)) (by decide)
  simp only [World.size_alloc] at hT
  exact (Combine_is _ _ [[1, 1], [2, 2], [0, 1]] [2, 3] [2, 0, 1] true 0 _ ((rows_3 w [1, 1] [2, 2] [0, 1] _ _ _ 3 23 rfl rfl rfl (by decide) (by decide) (by decide) (by decide) (by decide) (by decide)).below (below_a _ _)) hT (by decide) (by rw [ex_comb4.1]; rfl) (by rw [ex_comb4.1, ex_comb4.2]; rfl)).mono
    fun r w' ⟨yv, h1, h2, h3⟩ => ⟨yv, h1, h2, (((below_three w _ _ _).alloc (by simp; omega) _).alloc (by simp; omega) _).trans (h3.mono (by simp; try omega))⟩
set_option maxRecDepth 100000 in
theorem s10 (w : World) : Calls Try.prog 59 #[sl (w.heap.size + 1) 1, sl (w.heap.size + 1 + 1) 1]
    (((w.alloc (.cells #[.int .i64 1, .int .i64 1] 3)).alloc (.cells #[sl w.heap.size 2] 23)).alloc (.cells #[.int .i64 1] 3))
    fun r w' => ∃ yv, r = .returned (.tuple #[yv, .bool false, .int .i64 130]) ∧ Ints w' yv [] ∧ Below w.heap.size w w' := by
  have hT := ints_lit ((w.alloc (.cells #[.int .i64 1, .int .i64 1] 3)).alloc (.cells #[sl w.heap.size 2] 23)) [1] #[.int .i64 1] 3 rfl (rall _ (by decide)) (by decide)
  simp only [World.size_alloc] at hT
  exact (Combine_is _ _ [[1, 1]] [1] [] false 130 _ ((rows_1 w [1, 1] _ 3 23 rfl (by decide) (by decide)).below (below_a _ _)) hT (by decide) (by rfl) (by rfl)).mono
    fun r w' ⟨yv, h1, h2, h3⟩ => ⟨yv, h1, h2, (below_three w _ _ _).trans (h3.mono (by simp; try omega))⟩
set_option maxRecDepth 100000 in
theorem s11 (w : World) : Calls Try.prog 63 #[.slice none 0 0, sl w.heap.size 1]
    (w.alloc (.cells #[.int .i64 1073741789] 3))
    fun r w' => ∃ yv, r = .returned (.tuple #[yv, .bool false, .int .i64 130]) ∧ Ints w' yv [] ∧ Below w.heap.size w w' := by
  have hT := ints_lit w [1073741789] #[.int .i64 1073741789] 3 rfl (rall _ (by decide)) (by decide)
  exact (Separate_is _ _ [] [1073741789] [] false 130 _ (Rows2.nil _ _ _) hT (by decide) (by rfl) (by rfl)).mono
    fun r w' ⟨yv, h1, h2, h3⟩ => ⟨yv, h1, h2, (below_a w _).trans (h3.mono (by simp; try omega))⟩

set_option maxRecDepth 100000 in
theorem k1 (w : World) : Calls Try.prog 67 #[.slice none 0 0] w fun r w' => r = .returned (.int .i64 0) ∧ Below w.heap.size w w' :=
  Check_is _ [] 0 _ (Rows2.nil _ _ _) (by decide)
set_option maxRecDepth 100000 in
theorem k2 (w : World) : Calls Try.prog 67 #[sl (w.heap.size + 1 + 1) 2]
    (((w.alloc (.cells #[.int .i64 1, .int .i64 2] 3)).alloc (.cells #[.int .i64 3] 3)).alloc (.cells #[sl w.heap.size 2, sl (w.heap.size + 1) 1] 23))
    fun r w' => r = .returned (.int .i64 130) ∧ Below w.heap.size w w' :=
  (Check_is _ [[1, 2], [3]] 130 _ (rows_2 w [1, 2] [3] _ _ 3 23 rfl rfl (by decide) (by decide) (by decide) (by decide)) (by decide)).mono
    fun r w' ⟨h1, h2⟩ => ⟨h1, (below_three w _ _ _).trans (h2.mono (by simp; omega))⟩
set_option maxRecDepth 100000 in
theorem k3 (w : World) : Calls Try.prog 67 #[sl (w.heap.size + 1) 1]
    ((w.alloc (.cells #[.int .i64 (-1)] 3)).alloc (.cells #[sl w.heap.size 1] 23))
    fun r w' => r = .returned (.int .i64 130) ∧ Below w.heap.size w w' :=
  (Check_is _ [[-1]] 130 _ (rows_1 w [-1] _ 3 23 rfl (by decide) (by decide)) (by decide)).mono
    fun r w' ⟨h1, h2⟩ => ⟨h1, (below_two w _ _).trans (h2.mono (by simp; omega))⟩
theorem made_nils (w : World) (n : Nat) (hn : n ≤ 1000) : Rows2 (w.alloc (.cells (madeCells #[.slice none 0 0] n) 23)) (sl w.heap.size n) (List.replicate n []) := by
  refine ⟨some ⟨w.heap.size, 0, none⟩, n, by simp, by simp, by simp; omega, fun k hk => ⟨w.heap.size, 0, .slice none 0 0, rfl, ?_, ?_⟩⟩
  · simp at hk
    rw [World.cell?_alloc_at _ _ _ _ rfl, Nat.zero_add]; simp [madeCells, hk, Nat.mod_one]
  · simp only [List.getElem_replicate]; exact Ints.nil _ _ _
set_option maxRecDepth 100000 in
theorem k4 (w : World) : Calls Try.prog 67 #[sl w.heap.size 65] (w.alloc (.cells (madeCells #[.slice none 0 0] 65) 23))
    fun r w' => r = .returned (.int .i64 2) ∧ Below w.heap.size w w' :=
  (Check_is _ (List.replicate 65 []) 2 _ (made_nils w 65 (by decide)) (by decide)).mono fun r w' ⟨h1, h2⟩ => ⟨h1, (below_a w _).trans (h2.mono (by simp))⟩
set_option maxRecDepth 100000 in
theorem k5 (w : World) : Calls Try.prog 67 #[sl (w.heap.size + 1) 1] ((w.alloc (.cells (madeCells #[.int .i64 0] 65) 3)).alloc (.cells #[sl w.heap.size 65] 23))
    fun r w' => r = .returned (.int .i64 2) ∧ Below w.heap.size w w' := by
  have hi := (IBlk.made w 65 3).ints (c := 65) (Nat.le_refl _) (by decide) (fun _ _ => by unfold R64; omega)
  have hr := rows_lit (w.alloc (.cells (madeCells #[.int .i64 0] 65) 3)) [(List.range 65).map fun _ => (0 : Int)] [sl w.heap.size 65] #[sl w.heap.size 65] 23 rfl rfl (by decide) (fun k k1 k2 => by
    obtain rfl : k = 0 := by simp at k1; omega
    exact hi)
  simp only [World.size_alloc] at hr
  exact (Check_is _ [(List.range 65).map fun _ => (0 : Int)] 2 _ hr (by decide +kernel)).mono fun r w' ⟨h1, h2⟩ => ⟨h1, (below_two w _ _).trans (h2.mono (by simp; omega))⟩

end Go.Proofs.Ytohebkpgjaaljaa

namespace Go.Proofs.Ytohebkpgjaaljaa
open Go.RowKit

theorem rightQ_ok {rows : List (List Int)} {t : List Int} (h : rightQ rows t = true) : examErr rows t = 0 ∧ Right rows t.length ∧ (∀ z ∈ t, 0 ≤ z ∧ z < 1073741789) ∧ t.length ≤ 16 ∧ rows.length ≤ 16 := by
  unfold rightQ at h
  simp only [Bool.and_eq_true, decide_eq_true_eq] at h
  obtain ⟨h1, h2, h3⟩ := h
  obtain ⟨h4, h5, h6⟩ := examErr_ok_iff h3
  refine ⟨h3, h4, h5, h2, ?_⟩
  unfold fewQ at h1
  simp only [Bool.and_eq_true, Bool.or_eq_true, decide_eq_true_eq] at h1
  have := h4.few
  omega

set_option maxRecDepth 100000 in
theorem Comb_yes (v u : Value) (rows : List (List Int)) (t : List Int) (w : World) (hI : Rows2 w v rows) (hU : Ints w u t) (h0 : examErr rows t = 0) (hok : rcombOk rows t = true) :
    Calls Try.prog 59 #[v, u] w fun r w' => ∃ yv, r = .returned (.tuple #[yv, .bool true, .int .i64 0]) ∧ Ints w' yv (rcombY rows t) ∧ Below w.heap.size w w' := by
  refine Combine_is v u rows t _ _ _ w hI hU h0 ?_ ?_
  · have := (comb_err (rows := rows) (t := t)).1
    rw [h0, hok] at this; exact this
  · have := (comb_err (rows := rows) (t := t)).2
    rw [h0] at this
    rw [this, if_pos ⟨rfl, hok⟩]
set_option maxRecDepth 100000 in
theorem Comb_no (v u : Value) (rows : List (List Int)) (t : List Int) (w : World) (hI : Rows2 w v rows) (hU : Ints w u t) (h0 : examErr rows t = 0) (hok : rcombOk rows t = false) :
    Calls Try.prog 59 #[v, u] w fun r w' => ∃ yv, r = .returned (.tuple #[yv, .bool false, .int .i64 0]) ∧ Ints w' yv [] ∧ Below w.heap.size w w' := by
  refine Combine_is v u rows t _ _ _ w hI hU h0 ?_ ?_
  · have := (comb_err (rows := rows) (t := t)).1
    rw [h0, hok] at this; exact this
  · have := (comb_err (rows := rows) (t := t)).2
    rw [h0] at this
    rw [this, if_neg (by rw [hok]; simp)]
set_option maxRecDepth 100000 in
theorem Sep_yes (v u : Value) (rows : List (List Int)) (t l : List Int) (w : World) (hI : Rows2 w v rows) (hU : Ints w u t) (h0 : examErr rows t = 0) (hl : rsepQ rows t = some l) :
    Calls Try.prog 63 #[v, u] w fun r w' => ∃ yv, r = .returned (.tuple #[yv, .bool true, .int .i64 0]) ∧ Ints w' yv l ∧ Below w.heap.size w w' := by
  refine Separate_is v u rows t _ _ _ w hI hU h0 ?_ ?_
  · have := (sep_err (rows := rows) (t := t)).1
    rw [h0, hl] at this; exact this
  · have := (sep_err (rows := rows) (t := t)).2
    rw [h0, hl] at this; exact this
set_option maxRecDepth 100000 in
theorem Sep_no (v u : Value) (rows : List (List Int)) (t : List Int) (w : World) (hI : Rows2 w v rows) (hU : Ints w u t) (h0 : examErr rows t = 0) (hl : rsepQ rows t = none) :
    Calls Try.prog 63 #[v, u] w fun r w' => ∃ yv, r = .returned (.tuple #[yv, .bool false, .int .i64 0]) ∧ Ints w' yv [] ∧ Below w.heap.size w w' := by
  refine Separate_is v u rows t _ _ _ w hI hU h0 ?_ ?_
  · have := (sep_err (rows := rows) (t := t)).1
    rw [h0, hl] at this; exact this
  · have := (sep_err (rows := rows) (t := t)).2
    rw [h0, hl] at this; exact this

theorem madeOk_right {rows : List (List Int)} {y : List Int} {m : Nat} (h : Right rows m) (hy : y.length = rows.length) : madeOk rows y m = true := by
  unfold madeOk
  rw [decide_eq_true hy, Bool.true_and, List.all_eq_true]
  exact fun r hr => decide_eq_true (h.len r hr)
theorem rcombY_len (rows : List (List Int)) (t : List Int) : (rcombY rows t).length = rows.length := by simp [rcombY]

end Go.Proofs.Ytohebkpgjaaljaa

namespace Go.Proofs.Ytohebkpgjaaljaa

/-- What makes 0, and is 0 at each row that the earlier ones make, is 0. -/
theorem comb_unique {n m : Nat} {X : FMat} {d : Nat → Fq} (hk : ∀ k, k < m → sm n (fun i => d i * X i k) = 0) (h0 : ∀ i, i < n → Span i m X (X i) → d i = 0) : ∀ i, i < n → d i = 0 := by
  intro i hi
  refine Classical.byContradiction fun hne => ?_
  have hker : Ker m n (fun k i => X i k) d := fun k hk' => by
    rw [← hk k hk']; exact sm_congr fun i _ => Fin.mul_comm _ _
  obtain ⟨c, s, hc, hs, e, hz⟩ := lead_of (sub_ker m n (fun k i => X i k)) n d hker ⟨i, hi, hne⟩
  obtain ⟨u, hu⟩ := linv_ex hs
  have hl : Lead n (Ker m n (fun k i => X i k)) c := ⟨fun j => u * d j, ker_mul u hker, by show u * d c = 1; rw [e]; exact hu, fun j h1 h2 => by show u * d j = 0; rw [hz j h1 h2]; grind⟩
  have := h0 c hc ((lead_span (X := X) (fun _ _ _ _ => rfl) hc).1 hl)
  rw [e] at this
  exact hs this

theorem rcombY_num {rows : List (List Int)} {t : List Int} (h : Right rows t.length) (ht : ∀ z ∈ t, 0 ≤ z ∧ z < 1073741789) {k : Nat} (hk : k < rows.length) : 0 ≤ nth (rcombY rows t) k ∧ nth (rcombY rows t) k < 1073741789 := by
  have hn : NumM t.length (rows.length + 1) (rcombM rows t).1 := redR_num (eq_num h ht) _
  have hR := comb_red h ht
  unfold rcombY
  rw [nth_map _ _ hk]
  exact combF_num (m := (rcombM rows t).2.length) (fun k hk => hn k rows.length (Nat.lt_of_lt_of_le hk hR.rn) (by omega)) _ (Nat.le_refl _) _

/-- The combination of a sum. -/
theorem sums_law {rows : List (List Int)} {a b s : List Int} {n : Int} (h : Right rows a.length) (hbl : b.length = a.length) (hsl : s.length = a.length) (ha : ∀ z ∈ a, 0 ≤ z ∧ z < 1073741789) (hb : ∀ z ∈ b, 0 ≤ z ∧ z < 1073741789) (hs : ∀ z ∈ s, 0 ≤ z ∧ z < 1073741789)
    (hv : ∀ j, j < a.length → cv s j = cv a j + cq n * cv b j) (oa : rcombOk rows a = true) (ob : rcombOk rows b = true) :
    rcombOk rows s = true ∧ ∀ k, k < rows.length → nth (rcombY rows s) k = (nth (rcombY rows a) k + n * nth (rcombY rows b) k % 1073741789) % 1073741789 := by
  have h2 : Right rows b.length := by rw [hbl]; exact h
  have h3 : Right rows s.length := by rw [hsl]; exact h
  have hma := (comb_span h ha).1 oa
  have hmb := (comb_span h2 hb).1 ob
  have hms : Made rows s := by
    have h4 : Span rows.length a.length (fm rows) (cv b) := by unfold Made at hmb; rw [hbl] at hmb; exact hmb
    unfold Made
    rw [hsl]
    exact span_congr (span_add hma (span_mul (cq n) h4)) hv
  have os := (comb_span h3 hs).2 hms
  refine ⟨os, fun k hk => ?_⟩
  have ea := comb_makes h ha oa
  have eb := comb_makes h2 hb ob
  have es := comb_makes h3 hs os
  rw [hbl] at eb
  rw [hsl] at es
  have hz := comb_unique (n := rows.length) (m := a.length) (X := fm rows) (d := fun i => cv (rcombY rows s) i + (-1) * (cv (rcombY rows a) i + cq n * cv (rcombY rows b) i)) (fun k hk => by
      rw [show (fun i => (cv (rcombY rows s) i + (-1) * (cv (rcombY rows a) i + cq n * cv (rcombY rows b) i)) * fm rows i k) = fun i => cv (rcombY rows s) i * fm rows i k + (-1) * (cv (rcombY rows a) i * fm rows i k + cq n * (cv (rcombY rows b) i * fm rows i k)) from funext fun i => by grind,
        sm_add, sm_mul, sm_add, sm_mul, ← es k hk, ← ea k hk, ← eb k hk, hv k hk]
      grind) (fun i hi hd => by
      have z1 := comb_zero h ha hi hd
      have z2 := comb_zero h2 hb hi (by rw [hbl]; exact hd)
      have z3 := comb_zero h3 hs hi (by rw [hsl]; exact hd)
      show cq _ + (-1) * (cq _ + cq n * cq _) = 0
      rw [z1, z2, z3, cq_0]; grind) k hk
  refine cq_inj (rcombY_num h3 hs hk) (mod_num _) ?_
  rw [cq_mod, cq_add, cq_mod, cq_mul]
  have e1 : cq (nth (rcombY rows s) k) + (-1) * (cq (nth (rcombY rows a) k) + cq n * cq (nth (rcombY rows b) k)) = 0 := hz
  grind

/-- A target is made exactly if it is 0 wherever the rows are. -/
theorem made_ker {rows : List (List Int)} {t : List Int} (h : Right rows t.length) : Made rows t ↔ ∀ v, Ker rows.length t.length (fm rows) v → dt t.length (cv t) v = 0 := by
  constructor
  · intro hm v hv; exact span_ker hm hv
  · intro hv
    cases hq : rsepQ rows t with
    | none => exact sep_none h hq
    | some l =>
      obtain ⟨_, h1, h2⟩ := (proves_iff h).1 (sep_some h hq)
      rw [hv _ h1] at h2
      exact absurd h2 (by decide)

theorem fm_set (rows : List (List Int)) (r : List Int) {i k : Nat} (hi : i < rows.length) (j : Nat) : fm (rows.set i r) k j = if k = i then cv r j else fm rows k j := by
  show cq (((rows.set i r)[k]?.getD [])[j]?.getD 0) = _
  rw [List.getElem?_set]
  by_cases e : i = k
  · subst e; rw [if_pos rfl, if_pos rfl, if_pos hi]; rfl
  · rw [if_neg e, if_neg (fun x => e x.symm)]; rfl

/-- Rows of which one is changed so that it can be changed back: as they were. -/
theorem changed_ker {rows : List (List Int)} {r : List Int} {m i k : Nat} {n : Fq} (hi : i < rows.length) (hk : k < rows.length)
    (h : (i ≠ k ∧ ∀ j, j < m → cv r j = fm rows i j + n * fm rows k j) ∨ (n ≠ 0 ∧ ∀ j, j < m → cv r j = n * fm rows i j) ∨ (∀ j, j < m → cv r j = fm rows i j)) (v : Nat → Fq) :
    Ker rows.length m (fm rows) v ↔ Ker (rows.set i r).length m (fm (rows.set i r)) v := by
  rw [List.length_set]
  have hq : ∀ q, q < rows.length → q ≠ i → dt m (fm (rows.set i r) q) v = dt m (fm rows q) v := fun q _ hne => dt_congr (fun j _ => by rw [fm_set rows r hi, if_neg hne]) (fun _ _ => rfl)
  have hat : dt m (fm (rows.set i r) i) v = dt m (cv r) v := dt_congr (fun j _ => by rw [fm_set rows r hi, if_pos rfl]) (fun _ _ => rfl)
  have key : (∀ q, q < rows.length → q ≠ i → dt m (fm rows q) v = 0) → (dt m (fm rows i) v = 0 ↔ dt m (cv r) v = 0) := fun ho => by
    rcases h with ⟨hne, h⟩ | ⟨hn, h⟩ | h
    · have e : dt m (cv r) v = dt m (fm rows i) v + n * dt m (fm rows k) v := by
        rw [dt_congr h (fun _ _ => rfl), dt_add_l, dt_mul_l]
      rw [e, ho k hk (fun x => hne x.symm)]
      constructor
      · intro h; rw [h]; grind
      · intro h; grind
    · have e : dt m (cv r) v = n * dt m (fm rows i) v := by rw [dt_congr h (fun _ _ => rfl), dt_mul_l]
      rw [e]
      obtain ⟨u, hu⟩ := linv_ex hn
      constructor
      · intro h; rw [h]; grind
      · intro h
        have : u * (n * dt m (fm rows i) v) = 0 := by rw [h]; grind
        grind
    · rw [dt_congr h (fun _ _ => rfl)]
  constructor
  · intro hv q hq1
    by_cases e : q = i
    · subst e
      rw [hat]; exact (key (fun q h1 _ => hv q h1)).1 (hv q hq1)
    · rw [hq q hq1 e]; exact hv q hq1
  · intro hv q hq1
    have ho : ∀ q, q < rows.length → q ≠ i → dt m (fm rows q) v = 0 := fun q h1 h2 => by rw [← hq q h1 h2]; exact hv q h1
    by_cases e : q = i
    · subst e
      exact (key ho).2 (by rw [← hat]; exact hv q hq1)
    · exact ho q hq1 e

end Go.Proofs.Ytohebkpgjaaljaa
