/- What the calls give, with their values known: for the laws. -/
import Derived.Test.YtjjdgphjkoppgaaSane
import Derived.Test.YtjjdgphjkoppgaaLaH
namespace Go.Proofs.Ytjjdgphjkoppgaa
open Go.RowKit

theorem rightQ_ok {rows : List (List Int)} {t : List Int} (h : rightQ rows t = true) : examErr rows t = 0 ∧ Right rows t.length ∧ (∀ z ∈ t, 0 ≤ z ∧ z < 1073741789) ∧ t.length ≤ 16 ∧ rows.length ≤ 16 := by
  unfold rightQ at h
  simp only [Bool.and_eq_true, decide_eq_true_eq] at h
  obtain ⟨h1, h2, h3⟩ := h
  obtain ⟨h4, h5, h6⟩ := examErr_ok_iff h3
  refine ⟨h3, h4, h5, h2, ?_⟩
  unfold fewQ at h1
  simp only [Bool.and_eq_true, Bool.or_eq_true, decide_eq_true_eq] at h1
  have := h4.few
  omega

theorem right_is (v u : Value) (rows : List (List Int)) (t : List Int) (b : Bool) (w : World) (hI : Rows2 w v rows) (hU : Ints w u t) (hb : rightQ rows t = b) :
    Calls Try.prog 21 #[v, u] w fun e w' => e = .returned (.bool b) ∧ Below w.heap.size w w' := hb ▸ right_any v u rows t w hI hU
theorem proves_is (v u x : Value) (rows : List (List Int)) (t l : List Int) (b : Bool) (w : World) (hI : Rows2 w v rows) (hU : Ints w u t) (hW : Ints w x l) (hb : provesQ rows t l = b) :
    Calls Try.prog 23 #[v, u, x] w fun e w' => e = .returned (.bool b) ∧ Below w.heap.size w w' := hb ▸ proves_any v u x rows t l w hI hU hW
theorem made_is (v u : Value) (rows : List (List Int)) (y : List Int) (many : Nat) (b : Bool) (l : List Int) (w : World) (hI : Rows2 w v rows) (hU : Ints w u y) (hm : many ≤ 1000000) (hb : madeOk rows y many = b) (hl : (if madeOk rows y many = true then madeL rows y many else []) = l) :
    Calls Try.prog 22 #[v, u, .int .i64 many] w fun e w' => ∃ yv, e = .returned (.tuple #[yv, .bool b]) ∧ Ints w' yv l ∧ Below w.heap.size w w' := by
  have h := made_any v u rows y many w hI hU hm
  unfold MadePost at h
  rw [hb] at h
  rw [hb] at hl
  rw [hl] at h
  exact h

theorem Comb_yes (v u : Value) (rows : List (List Int)) (t : List Int) (w : World) (hI : Rows2 w v rows) (hU : Ints w u t) (h0 : examErr rows t = 0) (hok : rcombOk rows t = true) :
    Calls Try.prog 16 #[v, u] w fun r w' => ∃ yv, r = .returned (.tuple #[yv, .bool true, .int .i64 0]) ∧ Ints w' yv (rcombY rows t) ∧ Below w.heap.size w w' := by
  refine Combine_is v u rows t _ _ _ w hI hU h0 ?_ ?_
  · have := (comb_err (rows := rows) (t := t)).1
    rw [h0, hok] at this; exact this
  · have := (comb_err (rows := rows) (t := t)).2
    rw [h0] at this
    rw [this, if_pos ⟨rfl, hok⟩]
theorem Comb_no (v u : Value) (rows : List (List Int)) (t : List Int) (w : World) (hI : Rows2 w v rows) (hU : Ints w u t) (h0 : examErr rows t = 0) (hok : rcombOk rows t = false) :
    Calls Try.prog 16 #[v, u] w fun r w' => ∃ yv, r = .returned (.tuple #[yv, .bool false, .int .i64 0]) ∧ Ints w' yv [] ∧ Below w.heap.size w w' := by
  refine Combine_is v u rows t _ _ _ w hI hU h0 ?_ ?_
  · have := (comb_err (rows := rows) (t := t)).1
    rw [h0, hok] at this; exact this
  · have := (comb_err (rows := rows) (t := t)).2
    rw [h0] at this
    rw [this, if_neg (by rw [hok]; simp)]
theorem Sep_yes (v u : Value) (rows : List (List Int)) (t l : List Int) (w : World) (hI : Rows2 w v rows) (hU : Ints w u t) (h0 : examErr rows t = 0) (hl : rsepQ rows t = some l) :
    Calls Try.prog 18 #[v, u] w fun r w' => ∃ yv, r = .returned (.tuple #[yv, .bool true, .int .i64 0]) ∧ Ints w' yv l ∧ Below w.heap.size w w' := by
  refine Separate_is v u rows t _ _ _ w hI hU h0 ?_ ?_
  · have := (sep_err (rows := rows) (t := t)).1
    rw [h0, hl] at this; exact this
  · have := (sep_err (rows := rows) (t := t)).2
    rw [h0, hl] at this; exact this
theorem Sep_no (v u : Value) (rows : List (List Int)) (t : List Int) (w : World) (hI : Rows2 w v rows) (hU : Ints w u t) (h0 : examErr rows t = 0) (hl : rsepQ rows t = none) :
    Calls Try.prog 18 #[v, u] w fun r w' => ∃ yv, r = .returned (.tuple #[yv, .bool false, .int .i64 0]) ∧ Ints w' yv [] ∧ Below w.heap.size w w' := by
  refine Separate_is v u rows t _ _ _ w hI hU h0 ?_ ?_
  · have := (sep_err (rows := rows) (t := t)).1
    rw [h0, hl] at this; exact this
  · have := (sep_err (rows := rows) (t := t)).2
    rw [h0, hl] at this; exact this

theorem madeOk_right {rows : List (List Int)} {y : List Int} {m : Nat} (h : Right rows m) (hy : y.length = rows.length) : madeOk rows y m = true := by
  unfold madeOk
  rw [decide_eq_true hy, Bool.true_and, List.all_eq_true]
  exact fun r hr => decide_eq_true (h.len r hr)
theorem rcombY_len (rows : List (List Int)) (t : List Int) : (rcombY rows t).length = rows.length := by simp [rcombY]

end Go.Proofs.Ytjjdgphjkoppgaa
