/- The elements of the group, in plain Lean: products, powers, and that the generator has the order Q. The generator of the group, and what a proof of equality commits to. -/
import Derived.Test.YtbegnincmlepgaaMFp
import Derived.Test.YtbegnincmlepgaaMFq
namespace Go.Proofs.Ytbegnincmlepgaa
open FP

/-! Exponents of elements of the field of P numbers. -/
theorem fp_add (a : Fp) (m : Nat) : ∀ n : Nat, a ^ (m + n) = a ^ m * a ^ n
  | 0 => by rw [Nat.add_zero, FP.pow_0]; grind
  | n + 1 => by rw [← Nat.add_assoc, FP.pow_s, FP.pow_s, fp_add a m n]; grind
theorem fp_mul (a : Fp) (m : Nat) : ∀ n : Nat, a ^ (m * n) = (a ^ m) ^ n
  | 0 => by rw [Nat.mul_zero, FP.pow_0, FP.pow_0]
  | n + 1 => by rw [Nat.mul_succ, fp_add, FP.pow_s, fp_mul a m n]
theorem fp_prod (a b : Fp) : ∀ n : Nat, (a * b) ^ n = a ^ n * b ^ n
  | 0 => by rw [FP.pow_0, FP.pow_0, FP.pow_0]; grind
  | n + 1 => by rw [FP.pow_s, FP.pow_s, FP.pow_s, fp_prod a b n]; grind
theorem fp_one : ∀ n : Nat, (1 : Fp) ^ n = 1
  | 0 => FP.pow_0 1
  | n + 1 => by rw [FP.pow_s, fp_one n]; grind

/-- The order of the group. -/
def nQ : Nat := 1073741789
theorem nQ_eq : nQ = 1073741789 := rfl
theorem fp_mod {a : Fp} (h : a ^ nQ = 1) (m : Nat) : a ^ (m % nQ) = a ^ m := by
  have e : a ^ (nQ * (m / nQ) + m % nQ) = a ^ (m % nQ) := by
    rw [fp_add, fp_mul, h, fp_one]; grind
  rw [Nat.div_add_mod] at e; exact e.symm
theorem fp_same {a : Fp} (h : a ^ nQ = 1) {m n : Nat} (e : m % nQ = n % nQ) : a ^ m = a ^ n := by
  rw [← fp_mod h m, ← fp_mod h n, e]

/-- A power modulo P. -/
def powP (a : Int) (n : Nat) : Int := a ^ n % 2147483579
theorem powP_num (a : Int) (n : Nat) : 0 ≤ powP a n ∧ powP a n < 2147483579 := by unfold powP; omega
theorem cp_powP (a : Int) (n : Nat) : cp (powP a n) = cp a ^ n := by unfold powP; rw [cp_mod, cp_pow]

/-- Is a number an element? -/
def elB (x : Int) : Bool := decide (1 ≤ x) && (decide (x < 2147483579) && (powP x nQ == 1))
/-- An element. -/
structure El (x : Int) : Prop where
  lo : 1 ≤ x
  hi : x < 2147483579
  pw : cp x ^ nQ = 1
theorem El.num {x : Int} (h : El x) : 0 ≤ x ∧ x < 2147483579 := ⟨by have := h.lo; omega, h.hi⟩
theorem powP_one {x : Int} : powP x nQ = 1 ↔ cp x ^ nQ = 1 := by
  rw [← cp_powP]
  constructor
  · intro h; rw [h, cp_1]
  · intro h
    exact cp_inj (powP_num x nQ) (by omega) (h.trans cp_1.symm)
theorem elB_iff {x : Int} : elB x = true ↔ El x := by
  unfold elB
  rw [Bool.and_eq_true, Bool.and_eq_true, decide_eq_true_eq, decide_eq_true_eq, beq_iff_eq, powP_one]
  exact ⟨fun ⟨a, b, c⟩ => ⟨a, b, c⟩, fun ⟨a, b, c⟩ => ⟨a, b, c⟩⟩
theorem elB_false {x : Int} : elB x = false ↔ ¬ El x := by
  rw [← elB_iff]; cases elB x <;> simp
theorem el_cp_ne {x : Int} (h : cp x ^ nQ = 1) : cp x ≠ 0 := fun e => by
  rw [e] at h
  have h2 : (0 : Fp) ^ (nQ - 1 + 1) = 1 := h
  rw [FP.pow_s] at h2
  have : (0 : Fp) = 1 := by rw [← h2]; grind
  exact absurd this (by decide)
/-- A number below P whose power is 1 is an element. -/
theorem el_of {x : Int} (hx : 0 ≤ x ∧ x < 2147483579) (h : cp x ^ nQ = 1) : El x := by
  refine ⟨?_, hx.2, h⟩
  by_cases e : x = 0
  · exact absurd (by rw [e]; exact cp_0) (el_cp_ne h)
  · omega
theorem el_one : El 1 := ⟨by omega, by omega, by rw [cp_1, fp_one]⟩
theorem el_mul {a b : Int} (ha : El a) (hb : El b) : El (a * b % 2147483579) :=
  el_of (by omega) (by rw [cp_mod, cp_mul, fp_prod, ha.pw, hb.pw]; grind)
theorem el_powP {a : Int} (ha : El a) (n : Nat) : El (powP a n) :=
  el_of (powP_num a n) (by rw [cp_powP, ← fp_mul, Nat.mul_comm, fp_mul, ha.pw, fp_one])

/-- The exponent of an integer. -/
def ex (n : Int) : Nat := (n % 1073741789).toNat
theorem ex_lt (n : Int) : ex n < 1073741789 := by unfold ex; omega
theorem ex_cast (n : Int) : ((ex n : Nat) : Int) = n % 1073741789 := by unfold ex; omega
theorem ex_mod (n : Int) : ex (n % 1073741789) = ex n := by unfold ex; rw [Int.emod_emod]
theorem ex_same {m n : Int} (h : m % 1073741789 = n % 1073741789) : ex m = ex n := by unfold ex; rw [h]
theorem ex_of_lt {n : Int} (h0 : 0 ≤ n) (h : n < 1073741789) : ((ex n : Nat) : Int) = n := by rw [ex_cast]; omega
theorem ex_add (m n : Int) : ex (m + n) % nQ = (ex m + ex n) % nQ := by
  rw [nQ_eq]
  have h1 := ex_cast m; have h2 := ex_cast n; have h3 := ex_cast (m + n)
  omega
theorem ex_mul (m n : Int) : ex (m * n) % nQ = (ex m * ex n) % nQ := by
  rw [nQ_eq]
  have h1 := ex_cast m; have h2 := ex_cast n; have h3 := ex_cast (m * n)
  have h4 : ((ex m * ex n % 1073741789 : Nat) : Int) = m * n % 1073741789 := by
    rw [Int.natCast_emod, Int.natCast_mul, h1, h2]; exact (Int.mul_emod m n _).symm
  have h5 : ((ex (m * n) % 1073741789 : Nat) : Int) = m * n % 1073741789 := by
    rw [Int.natCast_emod, h3]; exact Int.emod_emod _ _
  exact Int.ofNat.inj (h5.trans h4.symm)
theorem ex_0 : ex 0 = 0 := rfl
theorem ex_1 : ex 1 = 1 := rfl

/-- The power of an element, as the program has it. -/
def powE (a n : Int) : Int := powP a (ex n)
theorem powE_num (a n : Int) : 0 ≤ powE a n ∧ powE a n < 2147483579 := powP_num _ _
theorem cp_powE (a n : Int) : cp (powE a n) = cp a ^ ex n := cp_powP _ _
theorem el_powE {a : Int} (ha : El a) (n : Int) : El (powE a n) := el_powP ha _
theorem powE_mod (a n : Int) : powE a (n % 1073741789) = powE a n := by unfold powE; rw [ex_mod]
theorem powE_same {a m n : Int} (h : m % 1073741789 = n % 1073741789) : powE a m = powE a n := by unfold powE; rw [ex_same h]
/-- Two numbers below P are one if they are one in the field. -/
theorem el_ext {a b : Int} (ha : El a) (hb : El b) (h : cp a = cp b) : a = b := cp_inj ha.num hb.num h
theorem powE_add {a : Int} (ha : El a) (m n : Int) : powE a (m + n) = powE a m * powE a n % 2147483579 := by
  refine el_ext (el_powE ha _) (el_mul (el_powE ha _) (el_powE ha _)) ?_
  rw [cp_mod, cp_mul, cp_powE, cp_powE, cp_powE, ← fp_add]; exact fp_same ha.pw (ex_add m n)
theorem powE_mul {a : Int} (ha : El a) (m n : Int) : powE (powE a m) n = powE a (m * n) := by
  refine el_ext (el_powE (el_powE ha _) _) (el_powE ha _) ?_
  rw [cp_powE, cp_powE, cp_powE, ← fp_mul]; exact (fp_same ha.pw (ex_mul m n)).symm
theorem powE_prod {a b : Int} (ha : El a) (hb : El b) (n : Int) : powE (a * b % 2147483579) n = powE a n * powE b n % 2147483579 := by
  refine el_ext (el_powE (el_mul ha hb) _) (el_mul (el_powE ha _) (el_powE hb _)) ?_
  rw [cp_mod, cp_mul, cp_powE, cp_powE, cp_powE, cp_mod, cp_mul, fp_prod]
theorem powE_0 (a : Int) : powE a 0 = 1 := by unfold powE powP; rw [ex_0, Int.pow_zero]; rfl
theorem powE_1 {a : Int} (ha : El a) : powE a 1 = a := by
  refine el_ext (el_powE ha _) ha ?_
  rw [cp_powE, ex_1, FP.pow_s, FP.pow_0]; grind
theorem powE_neg {a : Int} (ha : El a) (n : Int) : powE a n * powE a (-n) % 2147483579 = 1 := by
  rw [← powE_add ha, Int.add_right_neg, powE_0]
theorem powE_one (n : Int) : powE 1 n = 1 := by
  refine el_ext (el_powE el_one _) el_one ?_
  rw [cp_powE, cp_1, fp_one]
theorem el_comm (a b : Int) : a * b % 2147483579 = b * a % 2147483579 := by rw [Int.mul_comm]
theorem el_cancel {a b c : Int} (ha : El a) (hb : El b) (hc : El c) (h : a * c % 2147483579 = b * c % 2147483579) : a = b := by
  refine el_ext ha hb ?_
  have h1 : cp a * cp c = cp b * cp c := by rw [← cp_mul, ← cp_mul, ← cp_mod, h, cp_mod]
  have h2 : (cp a - cp b) * cp c = 0 := by grind
  rcases FP.fq_mul_zero h2 with h3 | h3
  · grind
  · exact absurd h3 (el_cp_ne hc.pw)

/-- Modulo Q a number that is not 0 has an inverse. -/
theorem inv_ex {z : Int} (h : z % 1073741789 ≠ 0) : (powR z 1073741787 * z) % 1073741789 = 1 := by
  have h1 : cq z ≠ 0 := fun e => h (cq_zero.1 e)
  have h2 := inv_z h1
  rw [← cq_mul] at h2
  have h3 := cq_val (powR z 1073741787 * z)
  rw [h2] at h3
  exact h3.symm
/-- An element other than 1 has the order Q. -/
theorem el_order {a : Int} (ha : El a) (h1 : a ≠ 1) {n : Int} (h : powE a n = 1) : n % 1073741789 = 0 := by
  by_cases hn : n % 1073741789 = 0
  · exact hn
  · have h2 := inv_ex hn
    have h3 : powE (powE a n) (powR n 1073741787) = 1 := by rw [h, powE_one]
    rw [powE_mul ha, Int.mul_comm, powE_same (n := 1) (by rw [h2]; rfl), powE_1 ha] at h3
    exact absurd h3 h1
theorem el_order2 {a : Int} (ha : El a) (h1 : a ≠ 1) {m n : Int} (h : powE a m = powE a n) : m % 1073741789 = n % 1073741789 := by
  have h2 : powE a (m - n) = 1 := by
    rw [Int.sub_eq_add_neg, powE_add ha, h, powE_neg ha]
  have := el_order ha h1 h2
  omega

end Go.Proofs.Ytbegnincmlepgaa

namespace Go.Proofs.Ytbegnincmlepgaa
open FP

theorem el_four : El 4 := by
  refine el_of (by omega) ?_
  have e : cp 4 = cp 2 * cp 2 := by rw [← cp_mul]; rfl
  have h2 : cp 2 ≠ 0 := fun h => by rw [cp_zero] at h; exact absurd h (by decide)
  obtain ⟨n, hn, hq⟩ : ∃ n : Nat, n + 1 + 1 = 2147483579 ∧ nQ + nQ = n + 1 := ⟨2147483577, rfl, rfl⟩
  rw [e, fp_prod, ← fp_add, hq, FP.pow_s]
  exact FP.fermat_n n hn h2
theorem four_ne : (4 : Int) ≠ 1 := by decide
theorem not_el_0 : ¬ El 0 := fun h => absurd h.lo (by decide)
theorem not_el_2 : ¬ El 2 := fun h => by
  have e := euler (a := 2) (h := nQ) rfl (by decide) (by decide)
  have c2 : FP.natq 2 = cp 2 := rfl
  have h2 : cntJ nQ 2 % 2 = 0 := e.1 h.pw
  rw [cntJ_two, nQ_eq] at h2
  omega
/-- What a proof commits to. -/
def rE (key E S : Int) : Int := powE 4 S * powE key (-E) % 2147483579
def sE (a d E S : Int) : Int := powE a S * powE d (-E) % 2147483579
theorem el_rE {key : Int} (h : El key) (E S : Int) : El (rE key E S) := el_mul (el_powE el_four _) (el_powE h _)
theorem el_sE {a d : Int} (ha : El a) (hd : El d) (E S : Int) : El (sE a d E S) := el_mul (el_powE ha _) (el_powE hd _)
/-- An honest proof commits to the powers with the nonce. -/
theorem sE_honest {a : Int} (ha : El a) (x k E : Int) : sE a (powE a x) E ((k + E * x) % 1073741789) = powE a k := by
  unfold sE
  rw [powE_mod, powE_mul ha, ← powE_add ha]
  congr 1
  grind
theorem rE_honest (x k E : Int) : rE (powE 4 x) E ((k + E * x) % 1073741789) = powE 4 k := sE_honest el_four x k E

end Go.Proofs.Ytbegnincmlepgaa
