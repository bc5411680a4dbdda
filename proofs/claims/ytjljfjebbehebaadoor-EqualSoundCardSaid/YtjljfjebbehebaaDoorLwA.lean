/- Plain facts for EqualSound: the power by squaring modulo Q, and the exponent that two answers give. -/
import Derived.Test.YtjljfjebbehebaaDoorEltB
namespace Go.Proofs.YtjljfjebbehebaaDoor
open FP

theorem mq_l (a b : Int) : (a % 1073741789 * b) % 1073741789 = (a * b) % 1073741789 := by rw [Int.mul_emod, Int.emod_emod, ← Int.mul_emod]
theorem mq_r (a b : Int) : (a * (b % 1073741789)) % 1073741789 = (a * b) % 1073741789 := by rw [Int.mul_emod, Int.emod_emod, ← Int.mul_emod]
theorem mq_pow (a : Int) (n : Nat) : (a % 1073741789) ^ n % 1073741789 = a ^ n % 1073741789 := by
  induction n with
  | zero => rw [Int.pow_zero, Int.pow_zero]
  | succ n ih => rw [Int.pow_succ, Int.pow_succ, mq_r, Int.mul_emod, ih, ← Int.mul_emod]
theorem mq_half (s : Int) (left : Nat) : s ^ left = (s * s) ^ (left / 2) * s ^ (left % 2) := by
  have : s * s = s ^ 2 := by rw [Int.pow_succ, Int.pow_succ, Int.pow_zero, Int.one_mul]
  rw [this, ← Int.pow_mul, ← Int.pow_add]; congr 1; omega
theorem mq_odd (x s : Int) (left : Nat) (h : left % 2 = 1) : ((x * s) % 1073741789 * ((s * s) % 1073741789) ^ (left / 2)) % 1073741789 = (x * s ^ left) % 1073741789 := by
  rw [mq_l, Int.mul_emod, mq_pow, ← Int.mul_emod, mq_half s left, h, Int.pow_succ, Int.pow_zero, Int.one_mul, Int.mul_assoc, Int.mul_comm s]
theorem mq_even (x s : Int) (left : Nat) (h : left % 2 = 0) : (x * ((s * s) % 1073741789) ^ (left / 2)) % 1073741789 = (x * s ^ left) % 1073741789 := by
  rw [Int.mul_emod, mq_pow, ← Int.mul_emod, mq_half s left, h, Int.pow_zero, Int.mul_one]
theorem mq_num (a : Int) : 0 ≤ a % 1073741789 ∧ a % 1073741789 < 1073741789 := by omega
/-- A product of two numbers below Q. -/
theorem mq_prod {a b : Int} (ha : 0 ≤ a ∧ a < 1073741789) (hb : 0 ≤ b ∧ b < 1073741789) : 0 ≤ a * b ∧ a * b ≤ 1152921427297436944 := by
  have h3 : 0 ≤ a * b := Int.mul_nonneg ha.1 hb.1
  have h4 : a * b ≤ 1073741788 * 1073741788 := Int.mul_le_mul (by omega) (by omega) hb.1 (by omega)
  omega
/-- The inverse modulo Q, as the law reckons it. -/
theorem inv_pow {z : Int} (h : z % 1073741789 ≠ 0) : (z ^ (1073741787 : Nat) % 1073741789 * z) % 1073741789 = 1 := inv_ex h

/-- Two answers to one commitment. -/
theorem two_answers {a d E S F T : Int} (ha : El a) (hd : El d) (h : sE a d E S = sE a d F T) : powE a (S - T) = powE d (E - F) := by
  refine el_ext (el_powE ha _) (el_powE hd _) ?_
  have c1 : cp (powE a S) * cp (powE d (-E)) = cp (powE a T) * cp (powE d (-F)) := by
    have := congrArg cp h
    unfold sE at this
    rwa [cp_mod, cp_mul, cp_mod, cp_mul] at this
  have c2 : cp (powE d E) * cp (powE d (-E)) = 1 := by rw [← cp_mul, ← cp_mod, powE_neg hd, cp_1]
  have c3 : cp (powE a T) * cp (powE a (-T)) = 1 := by rw [← cp_mul, ← cp_mod, powE_neg ha, cp_1]
  have c4 : cp (powE d F) * cp (powE d (-F)) = 1 := by rw [← cp_mul, ← cp_mod, powE_neg hd, cp_1]
  have c5 : cp (powE a (S - T)) = cp (powE a S) * cp (powE a (-T)) := by rw [Int.sub_eq_add_neg, powE_add ha, cp_mod, cp_mul]
  have c6 : cp (powE d (E - F)) = cp (powE d E) * cp (powE d (-F)) := by rw [Int.sub_eq_add_neg, powE_add hd, cp_mod, cp_mul]
  rw [c5, c6]
  generalize cp (powE a S) = s at *
  generalize cp (powE a T) = t at *
  generalize cp (powE a (-T)) = t' at *
  generalize cp (powE d E) = e at *
  generalize cp (powE d (-E)) = e' at *
  generalize cp (powE d (-F)) = f' at *
  calc s * t' = (s * e') * (t' * e) := by grind
    _ = e * f' := by rw [c1]; grind
/-- The exponent that they give. -/
theorem found {a d E S F T v x : Int} (ha : El a) (hd : El d) (h : sE a d E S = sE a d F T) (hv : (v * ((E - F) % 1073741789)) % 1073741789 = 1) (hx : x = (S - T) % 1073741789 * v % 1073741789) : powE a x = d := by
  have e1 : powE a x = powE a ((S - T) * v) := by
    rw [hx, powE_mod]
    exact powE_same (mq_l _ _)
  have e2 : ((E - F) * v) % 1073741789 = 1 % 1073741789 := by
    rw [mq_r, Int.mul_comm] at hv
    rw [hv]; rfl
  rw [e1, ← powE_mul ha, two_answers ha hd h, powE_mul hd, powE_same e2, powE_1 hd]
theorem diff_ne {E F : Int} (hE : 0 ≤ E ∧ E < 1073741789) (hF : 0 ≤ F ∧ F < 1073741789) (h : E ≠ F) : (E - F) % 1073741789 % 1073741789 ≠ 0 := by omega

end Go.Proofs.YtjljfjebbehebaaDoor
