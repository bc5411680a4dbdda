/- The examples of the chapter, reckoned. What Combine and Separate say: a target is made of rows exactly if no list proves that it is not. Separate's proofs; and the rank, row by row. -/
import Derived.Test.YtnbkbnbmmkfckaaGreatMLaC
import Derived.Test.YtnbkbnbmmkfckaaGreatMLinU
namespace Go.Proofs.YtnbkbnbmmkfckaaGreat

def pivMi (inv : Int → Int) (x : Mat) (n r c k : Nat) : Mat := clearA (scaleM (swapM x r k) r c (inv (x k c))) r c n
def stepMi (inv : Int → Int) (n : Nat) (s : Mat × List Nat) (c : Nat) : Mat × List Nat :=
  if findP s.1 n c s.2.length < n then (pivMi inv s.1 n s.2.length c (findP s.1 n c s.2.length), s.2 ++ [c]) else s
def redMi (inv : Int → Int) (n : Nat) (x : Mat) (many : Nat) : Mat × List Nat := (List.range many).foldl (stepMi inv n) (x, [])
theorem redMi_eq : redM = redMi invQ := rfl

/-- The power by squaring, with fuel. -/
def lpowE : Nat → Int → Nat → Int
  | 0, _, _ => 1
  | f + 1, a, n => if n = 0 then 1 else if n % 2 = 1 then lpowE f (a * a % 1073741789) (n / 2) * a % 1073741789 else lpowE f (a * a % 1073741789) (n / 2)
theorem powE_eq : ∀ (f : Nat) (a : Int) (n : Nat), n < 2 ^ f → lpowE f a n = a ^ n % 1073741789
  | 0, a, n, h => by
    obtain rfl : n = 0 := by simp at h; omega
    rw [Int.pow_zero]; rfl
  | f + 1, a, n, h => by
    unfold lpowE
    by_cases h0 : n = 0
    · subst h0; rw [if_pos rfl, Int.pow_zero]; rfl
    · rw [if_neg h0]
      have hlt : n / 2 < 2 ^ f := by rw [Nat.pow_succ] at h; omega
      have ih := powE_eq f (a * a % 1073741789) (n / 2) hlt
      rw [ih, powmod]
      by_cases h1 : n % 2 = 1
      · rw [if_pos h1, mulmod_l, pow_half a n, h1, Int.pow_succ, Int.pow_zero, Int.one_mul]
      · rw [if_neg h1, pow_half a n, show n % 2 = 0 by omega, Int.pow_zero, Int.mul_one]
def invE (n : Int) : Int := lpowE 30 n 1073741787
theorem invE_eq : invQ = invE := by
  funext n; unfold invQ powQ invE; rw [powE_eq 30 n 1073741787 (by decide)]
theorem redM_E : redM = redMi invE := by rw [redMi_eq, invE_eq]

theorem ex_comb1 : combOk [[1, 1], [0, 1]] [1, 0] = true ∧ combY [[1, 1], [0, 1]] [1, 0] = [1, 1073741788] := by
  unfold combOk combY combM; rw [redM_E]; decide +kernel
theorem ex_comb2 : combOk [[1, 1]] [1, 0] = false := by
  unfold combOk combM; rw [redM_E]; decide +kernel
theorem ex_comb3 : combOk [] [0, 0] = true ∧ combY [] [0, 0] = [] := by
  unfold combOk combY combM; rw [redM_E]; decide +kernel
theorem ex_comb4 : combOk [[1, 1], [2, 2], [0, 1]] [2, 3] = true ∧ combY [[1, 1], [2, 2], [0, 1]] [2, 3] = [2, 0, 1] := by
  unfold combOk combY combM; rw [redM_E]; decide +kernel
end Go.Proofs.YtnbkbnbmmkfckaaGreat

namespace Go.Proofs.YtnbkbnbmmkfckaaGreat

/-- A vector, followed by -1. -/
def ext (n : Nat) (y : Nat → Fq) : Nat → Fq := fun j => if j = n then -1 else y j
end Go.Proofs.YtnbkbnbmmkfckaaGreat

namespace Go.Proofs.YtnbkbnbmmkfckaaGreat

end Go.Proofs.YtnbkbnbmmkfckaaGreat
