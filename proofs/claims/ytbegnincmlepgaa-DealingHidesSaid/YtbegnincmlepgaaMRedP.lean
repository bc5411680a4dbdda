/- The reduction of a table, as a function on matrices. -/
import Derived.Test.YtbegnincmlepgaaMBase
namespace Go.Proofs.Ytbegnincmlepgaa

abbrev Mat := Nat → Nat → Int

def findF (x : Mat) (c : Nat) : Nat → Nat → Nat
  | 0, k => k
  | f + 1, k => if x k c = 0 then findF x c f (k + 1) else k
/-- The first row from r on whose element in column c is not 0, or n. -/
def findP (x : Mat) (n c r : Nat) : Nat := findF x c (n - r) r
def swapM (x : Mat) (r k : Nat) : Mat := fun i j => if i = r then x k j else if i = k then x r j else x i j
def scaleM (x : Mat) (r c : Nat) (v : Int) : Mat := fun i j => if i = r ∧ c ≤ j then x r j * v % 1073741789 else x i j
def clearA (x : Mat) (r c u : Nat) : Mat := fun i j => if i ≠ r ∧ i < u ∧ c ≤ j then (x i j + -(x i c * x r j % 1073741789)) % 1073741789 else x i j
def pivM (x : Mat) (n r c k : Nat) : Mat := clearA (scaleM (swapM x r k) r c (invQ (x k c))) r c n
def stepM (n : Nat) (s : Mat × List Nat) (c : Nat) : Mat × List Nat :=
  if findP s.1 n c s.2.length < n then (pivM s.1 n s.2.length c (findP s.1 n c s.2.length), s.2 ++ [c]) else s
def redM (n : Nat) (x : Mat) (many : Nat) : Mat × List Nat := (List.range many).foldl (stepM n) (x, [])

theorem redM_succ (n : Nat) (x : Mat) (many : Nat) : redM n x (many + 1) = stepM n (redM n x many) many := by
  unfold redM; rw [List.range_succ, List.foldl_append]; rfl

theorem findF_lt (x : Mat) (c : Nat) : ∀ f k, findF x c f k ≤ k + f ∧ k ≤ findF x c f k
  | 0, k => ⟨by simp [findF], by simp [findF]⟩
  | f + 1, k => by
    unfold findF
    split
    · have := findF_lt x c f (k + 1); omega
    · omega
theorem findF_ne (x : Mat) (c : Nat) : ∀ f k, findF x c f k < k + f → x (findF x c f k) c ≠ 0
  | 0, k => fun h => by simp [findF] at h
  | f + 1, k => by
    unfold findF
    split
    · intro h; exact findF_ne x c f (k + 1) (by omega)
    · rename_i h; intro _; exact h
theorem findF_zero (x : Mat) (c : Nat) : ∀ f k j, k ≤ j → j < findF x c f k → x j c = 0
  | 0, k => fun j h1 h2 => by simp [findF] at h2; omega
  | f + 1, k => by
    unfold findF
    split
    · rename_i h0
      intro j h1 h2
      by_cases e : j = k
      · rw [e]; exact h0
      · exact findF_zero x c f (k + 1) j (by omega) h2
    · intro j h1 h2; omega

theorem findP_step {x : Mat} {n c r k : Nat} (h : findP x n c r = findF x c (n - k) k) (hk : k < n) (h0 : x k c = 0) : findP x n c r = findF x c (n - (k + 1)) (k + 1) := by
  rw [h]
  obtain ⟨f, hf⟩ : ∃ f, n - k = f + 1 := ⟨n - k - 1, by omega⟩
  rw [hf, show n - (k + 1) = f by omega]
  conv => lhs; unfold findF
  rw [if_pos h0]
theorem findP_here {x : Mat} {n c r k : Nat} (h : findP x n c r = findF x c (n - k) k) (hk : k < n) (h0 : x k c ≠ 0) : findP x n c r = k := by
  rw [h]
  obtain ⟨f, hf⟩ : ∃ f, n - k = f + 1 := ⟨n - k - 1, by omega⟩
  rw [hf]
  conv => lhs; unfold findF
  rw [if_neg h0]
theorem findP_end {x : Mat} {n c r k : Nat} (h : findP x n c r = findF x c (n - k) k) (hk : ¬ k < n) (hkn : k ≤ n) : findP x n c r = n := by
  rw [h, show n - k = 0 by omega]; show k = n; omega

theorem stepM_none {n : Nat} {x : Mat} {piv : List Nat} {c : Nat} (h : findP x n c piv.length = n) : stepM n (x, piv) c = (x, piv) := by
  unfold stepM; rw [if_neg]; show ¬ findP x n c piv.length < n; omega
theorem stepM_some {n : Nat} {x : Mat} {piv : List Nat} {c k : Nat} (h : findP x n c piv.length = k) (hk : k < n) : stepM n (x, piv) c = (pivM x n piv.length c k, piv ++ [c]) := by
  unfold stepM
  have h' : findP (x, piv).1 n c (x, piv).2.length = k := h
  rw [h', if_pos hk]

theorem findP_ge (x : Mat) (n c r : Nat) : r ≤ findP x n c r := (findF_lt x c (n - r) r).2
theorem redM_len (n : Nat) (x : Mat) : ∀ c, (redM n x c).2.length ≤ n
  | 0 => by simp [redM]
  | c + 1 => by
    rw [redM_succ]
    have ih := redM_len n x c
    generalize redM n x c = s at ih
    unfold stepM
    split
    · rename_i h
      have := findP_ge s.1 n c s.2.length
      simp; omega
    · exact ih

end Go.Proofs.Ytbegnincmlepgaa
