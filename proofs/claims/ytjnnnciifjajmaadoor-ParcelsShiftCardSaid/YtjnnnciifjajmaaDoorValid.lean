/- The steps of group.Valid, in plain Lean. -/
import Derived.Test.YtjnnnciifjajmaaDoorGauss
namespace Go.Proofs.YtjnnnciifjajmaaDoor

def vJ (x n : Nat) : Bool := decide (cntJ (n / 2) x % 2 = 0)
theorem vJ_one (n : Nat) : vJ 1 n = true := by unfold vJ; rw [cntJ_one]; rfl
theorem half_odd {n : Nat} (hn : n % 2 = 1) : 2 * (n / 2) + 1 = n := by omega
theorem par_add {a b c : Nat} (h : c % 2 = (a + b) % 2) : decide (c % 2 = 0) = (decide (a % 2 = 0) == decide (b % 2 = 0)) := by
  by_cases ha : a % 2 = 0 <;> by_cases hb : b % 2 = 0
  · rw [decide_eq_true ha, decide_eq_true hb, decide_eq_true (by omega)]; rfl
  · rw [decide_eq_true ha, decide_eq_false hb, decide_eq_false (by omega)]; rfl
  · rw [decide_eq_false ha, decide_eq_true hb, decide_eq_false (by omega)]; rfl
  · rw [decide_eq_false ha, decide_eq_false hb, decide_eq_true (by omega)]; rfl
theorem vJ_two {y n : Nat} (hn : n % 2 = 1) (c : Nat.Coprime (2 * y) n) : vJ (2 * y) n = (vJ y n == !(decide (n % 8 = 3) || decide (n % 8 = 5))) := by
  have c2 : Nat.Coprime 2 n := Nat.Coprime.coprime_mul_right c
  have cy : Nat.Coprime y n := Nat.Coprime.coprime_mul_left c
  have e := cntJ_mul (h := n / 2) (a := y) (b := 2) (by rw [half_odd hn]; exact cy) (by rw [half_odd hn]; exact c2)
  rw [Nat.mul_comm] at e
  unfold vJ
  rw [par_add e, cntJ_two]
  congr 1
  by_cases h3 : n % 8 = 3
  · rw [decide_eq_true h3, decide_eq_false (by omega)]; rfl
  · by_cases h5 : n % 8 = 5
    · rw [decide_eq_false h3, decide_eq_true h5, decide_eq_false (by omega)]; rfl
    · rw [decide_eq_false h3, decide_eq_false h5, decide_eq_true (by omega)]; rfl
theorem vJ_swap {x n : Nat} (hx : x % 2 = 1) (hn : n % 2 = 1) (c : Nat.Coprime x n) : vJ (n % x) x = (vJ x n == !(decide (x % 4 = 3) && decide (n % 4 = 3))) := by
  have e := cntJ_recip (h := n / 2) (g := x / 2) (by rw [half_odd hx, half_odd hn]; exact c)
  rw [half_odd hx, half_odd hn] at e
  have e1 : cntJ (x / 2) (n % x) = cntJ (x / 2) n := by have := cntJ_mod (x / 2) n; rw [half_odd hx] at this; exact this
  unfold vJ
  rw [e1, par_add (a := cntJ (n / 2) x) (b := n / 2 * (x / 2)) (by omega)]
  congr 1
  have h4 : (n / 2 * (x / 2)) % 2 = ((n / 2) % 2) * ((x / 2) % 2) % 2 := Nat.mul_mod _ _ _
  by_cases h1 : x % 4 = 3
  · rw [decide_eq_true h1, Bool.true_and]
    have : x / 2 % 2 = 1 := by omega
    rw [this, Nat.mul_one] at h4
    by_cases h2 : n % 4 = 3
    · rw [decide_eq_true h2, decide_eq_false (by omega)]; rfl
    · rw [decide_eq_false h2, decide_eq_true (by omega)]; rfl
  · have : x / 2 % 2 = 0 := by omega
    rw [this, Nat.mul_zero] at h4
    rw [decide_eq_false h1, decide_eq_true (by omega)]; rfl

end Go.Proofs.YtjnnnciifjajmaaDoor
