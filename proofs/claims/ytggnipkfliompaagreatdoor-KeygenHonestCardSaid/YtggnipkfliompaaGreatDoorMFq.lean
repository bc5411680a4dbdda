/- The field of the numbers modulo the prime 1073741789: an element's inverse is its power. The elements of the group, in plain Lean: products, powers, and that the generator has the order Q. Layer 10, and its reference: what the functions on elements compute. -/
import Derived.Test.YtggnipkfliompaaGreatDoorMFp
import Derived.Test.YtggnipkfliompaaGreatDoorMBase
namespace Go.Proofs.YtggnipkfliompaaGreatDoor

abbrev Fq := Fin 1073741789

def cq (z : Int) : Fq := ⟨(z % 1073741789).toNat, by omega⟩

theorem cq_val (z : Int) : ((cq z).val : Int) = z % 1073741789 := by
  show (((z % 1073741789).toNat : Nat) : Int) = _; omega
theorem fq_ext {a b : Fq} (h : (a.val : Int) = b.val) : a = b := Fin.ext (by omega)
theorem fq_add_val (a b : Fq) : ((a + b).val : Int) = ((a.val : Int) + b.val) % 1073741789 := by
  rw [Fin.val_add]; omega
theorem fq_mul_val (a b : Fq) : ((a * b).val : Int) = ((a.val : Int) * b.val) % 1073741789 := by
  rw [Fin.val_mul]; simp
theorem cq_add (a b : Int) : cq (a + b) = cq a + cq b := by
  apply fq_ext; rw [fq_add_val, cq_val, cq_val, cq_val]; omega
theorem cq_mul (a b : Int) : cq (a * b) = cq a * cq b := by
  apply fq_ext; rw [fq_mul_val, cq_val, cq_val, cq_val]; exact Int.mul_emod a b _
theorem cq_mod (a : Int) : cq (a % 1073741789) = cq a := by
  apply fq_ext; rw [cq_val, cq_val]; omega
theorem cq_0 : cq 0 = 0 := by decide +kernel
theorem cq_1 : cq 1 = 1 := by decide +kernel
theorem cq_zero {a : Int} : cq a = 0 ↔ a % 1073741789 = 0 := by
  constructor
  · intro h
    have := cq_val a
    rw [h] at this; exact this.symm
  · intro h; apply fq_ext; rw [cq_val, h]; rfl
theorem cq_lift (a : Fq) : cq (a.val : Int) = a := by
  apply fq_ext; rw [cq_val]; have := a.isLt; omega

/-! The number is prime. -/
def chkQ : Nat → Nat → Bool
  | 0, d => 1073741789 % d != 0
  | k + 1, d => chkQ k d && chkQ k (d + 2 ^ k)
theorem chkQ_sound : ∀ (k d : Nat), chkQ k d = true → ∀ e, d ≤ e → e < d + 2 ^ k → 1073741789 % e ≠ 0
  | 0, d, h, e, h1, h2 => by
    obtain rfl : e = d := by simp at h2; omega
    simpa [chkQ] using h
  | k + 1, d, h, e, h1, h2 => by
    simp only [chkQ, Bool.and_eq_true] at h
    by_cases hlt : e < d + 2 ^ k
    · exact chkQ_sound k d h.1 e h1 hlt
    · exact chkQ_sound k (d + 2 ^ k) h.2 e (by omega) (by rw [Nat.pow_succ] at h2; omega)
theorem chkQ_all : chkQ 15 2 = true := by decide +kernel
theorem prime_small {d : Nat} (h : d ∣ 1073741789) (hd : d ≤ 32769) : d = 1 := by
  by_cases h1 : d = 1
  · exact h1
  · by_cases h0 : d = 0
    · subst h0; simp at h
    · exact absurd (Nat.mod_eq_zero_of_dvd h) (chkQ_sound 15 2 chkQ_all d (by omega) (by omega))
theorem prime_div {d : Nat} (h : d ∣ 1073741789) : d = 1 ∨ d = 1073741789 := by
  by_cases hd : d ≤ 32769
  · exact .inl (prime_small h hd)
  · obtain ⟨e, he⟩ := h
    have hle : e ≤ 32769 := by
      by_cases hc : e ≤ 32769
      · exact hc
      · have := Nat.mul_le_mul (show 32770 ≤ d by omega) (show 32770 ≤ e by omega); omega
    have := prime_small ⟨d, by rw [Nat.mul_comm]; exact he⟩ hle
    rw [this] at he; right; omega
theorem prime_cop {a : Nat} (h : ¬ 1073741789 ∣ a) : Nat.Coprime 1073741789 a := by
  rcases prime_div (Nat.gcd_dvd_left 1073741789 a) with h1 | h1
  · exact h1
  · exact absurd (h1 ▸ Nat.gcd_dvd_right 1073741789 a) h
theorem prime_euclid {a b : Nat} (h : 1073741789 ∣ a * b) (ha : ¬ 1073741789 ∣ a) : 1073741789 ∣ b :=
  (prime_cop ha).dvd_of_dvd_mul_left h
theorem fq_mul_zero {a b : Fq} (h : a * b = 0) : a = 0 ∨ b = 0 := by
  have h' : (a * b).val = 0 := by rw [h]; rfl
  rw [Fin.val_mul] at h'
  by_cases ha : 1073741789 ∣ a.val
  · left; apply Fin.ext; exact Nat.eq_zero_of_dvd_of_lt ha a.isLt
  · right; apply Fin.ext
    exact Nat.eq_zero_of_dvd_of_lt (prime_euclid (Nat.dvd_of_mod_eq_zero h') ha) b.isLt

/-! The power of a sum: (a + 1)^Q = a^Q + 1. -/
def chooseN : Nat → Nat → Nat
  | _, 0 => 1
  | 0, _ + 1 => 0
  | n + 1, k + 1 => chooseN n k + chooseN n (k + 1)
theorem choose_0 (n : Nat) : chooseN n 0 = 1 := by cases n <;> rfl
theorem choose_gt : ∀ (n k : Nat), n < k → chooseN n k = 0
  | 0, k + 1, _ => rfl
  | n + 1, k + 1, h => by rw [chooseN, choose_gt n k (by omega), choose_gt n (k + 1) (by omega)]
theorem choose_self : ∀ n, chooseN n n = 1
  | 0 => rfl
  | n + 1 => by rw [chooseN, choose_self n, choose_gt n (n + 1) (by omega)]
theorem choose_mul : ∀ (n k : Nat), (k + 1) * chooseN (n + 1) (k + 1) = (n + 1) * chooseN n k
  | 0, 0 => rfl
  | 0, k + 1 => by rw [choose_gt 1 (k + 2) (by omega), choose_gt 0 (k + 1) (by omega)]; simp
  | n + 1, 0 => by
    have := choose_mul n 0
    rw [show chooseN (n + 1 + 1) (0 + 1) = chooseN (n + 1) 0 + chooseN (n + 1) (0 + 1) from rfl, Nat.mul_add, this, choose_0, choose_0]; omega
  | n + 1, k + 1 => by
    have h1 := choose_mul n k
    have h2 := choose_mul n (k + 1)
    rw [show chooseN (n + 1 + 1) (k + 1 + 1) = chooseN (n + 1) (k + 1) + chooseN (n + 1) (k + 1 + 1) from rfl, Nat.mul_add, h2]
    have e : (k + 1 + 1) * chooseN (n + 1) (k + 1) = (n + 1) * chooseN n k + chooseN (n + 1) (k + 1) := by rw [← h1]; grind
    rw [e]
    have e3 : chooseN (n + 1) (k + 1) = chooseN n k + chooseN n (k + 1) := rfl
    rw [e3]; grind
theorem choose_div {k : Nat} (h0 : 0 < k) (h1 : k < 1073741789) : 1073741789 ∣ chooseN 1073741789 k := by
  obtain ⟨j, rfl⟩ : ∃ j, k = j + 1 := ⟨k - 1, by omega⟩
  have h := choose_mul 1073741788 j
  refine prime_euclid (a := j + 1) ⟨chooseN 1073741788 j, h⟩ (fun hd => ?_)
  have := Nat.le_of_dvd (by omega) hd; omega

def sm : Nat → (Nat → Fq) → Fq
  | 0, _ => 0
  | n + 1, f => sm n f + f n
theorem sm_congr {n : Nat} {f g : Nat → Fq} (h : ∀ i, i < n → f i = g i) : sm n f = sm n g := by
  induction n with
  | zero => rfl
  | succ n ih => rw [sm, sm, ih (fun i hi => h i (by omega)), h n (by omega)]
theorem sm_add (n : Nat) (f g : Nat → Fq) : sm n (fun i => f i + g i) = sm n f + sm n g := by
  induction n with
  | zero => rfl
  | succ n ih => rw [sm, sm, sm, ih]; grind
theorem sm_mul (n : Nat) (a : Fq) (f : Nat → Fq) : sm n (fun i => a * f i) = a * sm n f := by
  induction n with
  | zero => simp only [sm]; grind
  | succ n ih => rw [sm, sm, ih]; grind
theorem sm_mul_r (n : Nat) (a : Fq) (f : Nat → Fq) : sm n (fun i => f i * a) = sm n f * a := by
  rw [Fin.mul_comm, ← sm_mul]; exact sm_congr fun i _ => Fin.mul_comm _ _
theorem sm_zero {n : Nat} {f : Nat → Fq} (h : ∀ i, i < n → f i = 0) : sm n f = 0 := by
  induction n with
  | zero => rfl
  | succ n ih => rw [sm, ih (fun i hi => h i (by omega)), h n (by omega)]; rfl
theorem sm_shift (n : Nat) (f : Nat → Fq) : sm (n + 1) f = f 0 + sm n (fun i => f (i + 1)) := by
  induction n with
  | zero => simp [sm]
  | succ n ih => rw [sm, ih, sm]; grind

def natq (k : Nat) : Fq := cq k
theorem natq_add (a b : Nat) : natq (a + b) = natq a + natq b := by unfold natq; rw [← cq_add]; rfl
theorem natq_zero {k : Nat} (h : 1073741789 ∣ k) : natq k = 0 := by unfold natq; rw [cq_zero]; omega
theorem natq_1 : natq 1 = 1 := cq_1
theorem pow_0 (a : Fq) : a ^ 0 = 1 := by grind
theorem pow_s (a : Fq) (n : Nat) : a ^ (n + 1) = a ^ n * a := by grind
theorem pow_sum (a : Fq) : ∀ n, (a + 1) ^ n = sm (n + 1) (fun k => natq (chooseN n k) * a ^ k)
  | 0 => by show (a + 1) ^ 0 = 0 + natq (chooseN 0 0) * a ^ 0; rw [choose_0, natq_1, pow_0, pow_0]; rfl
  | n + 1 => by
    rw [pow_s, pow_sum a n, sm_shift (n + 1)]
    have e1 : sm (n + 1) (fun i => natq (chooseN (n + 1) (i + 1)) * a ^ (i + 1)) = sm (n + 1) (fun i => natq (chooseN n i) * a ^ i) * a + sm (n + 1) (fun i => natq (chooseN n (i + 1)) * a ^ (i + 1)) := by
      rw [← sm_mul_r, ← sm_add]
      refine sm_congr fun i _ => ?_
      rw [show chooseN (n + 1) (i + 1) = chooseN n i + chooseN n (i + 1) from rfl, natq_add, pow_s]; grind
    have e2 : sm (n + 1) (fun k => natq (chooseN n k) * a ^ k) = natq (chooseN n 0) * a ^ 0 + sm (n + 1) (fun i => natq (chooseN n (i + 1)) * a ^ (i + 1)) := by
      rw [sm_shift]
      congr 1
      show _ = sm n _ + natq (chooseN n (n + 1)) * a ^ (n + 1)
      rw [choose_gt n (n + 1) (by omega), natq_zero ⟨0, rfl⟩]; grind
    rw [e1, choose_0]
    rw [choose_0] at e2
    grind
theorem pow_mid (a : Fq) (n : Nat) (h : ∀ i, i < n → natq (chooseN (n + 1) (i + 1)) = 0) : (a + 1) ^ (n + 1) = a ^ (n + 1) + 1 := by
  rw [pow_sum a (n + 1)]
  show sm (n + 1) _ + natq (chooseN (n + 1) (n + 1)) * a ^ (n + 1) = _
  rw [choose_self, natq_1, sm_shift n, choose_0, natq_1, sm_zero]
  · rw [pow_0]; grind
  · intro i hi
    rw [h i hi]; grind
theorem pow_frob (a : Fq) (n : Nat) (hn : n + 1 = 1073741789) : (a + 1) ^ (n + 1) = a ^ (n + 1) + 1 :=
  pow_mid a n fun i hi => natq_zero (by rw [hn]; exact choose_div (by omega) (by omega))
theorem pow_nat (n : Nat) (hn : n + 1 = 1073741789) : ∀ k : Nat, natq k ^ (n + 1) = natq k
  | 0 => by rw [show natq 0 = 0 from cq_0, pow_s]; grind
  | k + 1 => by rw [natq_add, natq_1, pow_frob _ n hn, pow_nat n hn k]
theorem natq_val (a : Fq) : natq a.val = a := cq_lift a
theorem fermat_of {a b c : Fq} (h : a ≠ 0) (h1 : c * a = a) (h2 : c = b * a) : b * a = 1 := by
  have h3 : a * (b * a - 1) = 0 := by rw [← h2]; grind
  rcases fq_mul_zero h3 with h4 | h4
  · exact absurd h4 h
  · generalize b * a = u at *
    grind
theorem fermat_n {a : Fq} (n : Nat) (hn : n + 1 + 1 = 1073741789) (h : a ≠ 0) : a ^ n * a = 1 := by
  have h1 := pow_nat (n + 1) hn a.val
  rw [natq_val, pow_s] at h1
  exact fermat_of h h1 (pow_s a n)
theorem cq_pow (z : Int) : ∀ n : Nat, cq (z ^ n) = cq z ^ n
  | 0 => by rw [pow_0, Int.pow_zero, cq_1]
  | n + 1 => by rw [pow_s, Int.pow_succ, cq_mul, cq_pow z n]
def powR (a : Int) (n : Nat) : Int := a ^ n % 1073741789
theorem inv_n {z : Int} (n : Nat) (hn : n + 1 + 1 = 1073741789) (h : cq z ≠ 0) : cq (powR z n) * cq z = 1 := by
  unfold powR; rw [cq_mod, cq_pow]; exact fermat_n n hn h
theorem inv_z {z : Int} (h : cq z ≠ 0) : cq (powR z 1073741787) * cq z = 1 := inv_n 1073741787 rfl h
end Go.Proofs.YtggnipkfliompaaGreatDoor

namespace Go.Proofs.YtggnipkfliompaaGreatDoor
open FP

/-! Exponents of elements of the field of P numbers. -/
theorem fp_add (a : Fp) (m : Nat) : ∀ n : Nat, a ^ (m + n) = a ^ m * a ^ n
  | 0 => by rw [Nat.add_zero, FP.pow_0]; grind
  | n + 1 => by rw [← Nat.add_assoc, FP.pow_s, FP.pow_s, fp_add a m n]; grind
theorem fp_mul (a : Fp) (m : Nat) : ∀ n : Nat, a ^ (m * n) = (a ^ m) ^ n
  | 0 => by rw [Nat.mul_zero, FP.pow_0, FP.pow_0]
  | n + 1 => by rw [Nat.mul_succ, fp_add, FP.pow_s, fp_mul a m n]
theorem fp_prod (a b : Fp) : ∀ n : Nat, (a * b) ^ n = a ^ n * b ^ n
  | 0 => by rw [FP.pow_0, FP.pow_0, FP.pow_0]; grind
  | n + 1 => by rw [FP.pow_s, FP.pow_s, FP.pow_s, fp_prod a b n]; grind
theorem fp_one : ∀ n : Nat, (1 : Fp) ^ n = 1
  | 0 => FP.pow_0 1
  | n + 1 => by rw [FP.pow_s, fp_one n]; grind

/-- The order of the group. -/
def nQ : Nat := 1073741789
theorem nQ_eq : nQ = 1073741789 := rfl
theorem fp_mod {a : Fp} (h : a ^ nQ = 1) (m : Nat) : a ^ (m % nQ) = a ^ m := by
  have e : a ^ (nQ * (m / nQ) + m % nQ) = a ^ (m % nQ) := by
    rw [fp_add, fp_mul, h, fp_one]; grind
  rw [Nat.div_add_mod] at e; exact e.symm
theorem fp_same {a : Fp} (h : a ^ nQ = 1) {m n : Nat} (e : m % nQ = n % nQ) : a ^ m = a ^ n := by
  rw [← fp_mod h m, ← fp_mod h n, e]

/-- A power modulo P. -/
def powP (a : Int) (n : Nat) : Int := a ^ n % 2147483579
theorem powP_num (a : Int) (n : Nat) : 0 ≤ powP a n ∧ powP a n < 2147483579 := by unfold powP; omega
theorem cp_powP (a : Int) (n : Nat) : cp (powP a n) = cp a ^ n := by unfold powP; rw [cp_mod, cp_pow]

/-- Is a number an element? -/
def elB (x : Int) : Bool := decide (1 ≤ x) && (decide (x < 2147483579) && (powP x nQ == 1))
/-- An element. -/
structure El (x : Int) : Prop where
  lo : 1 ≤ x
  hi : x < 2147483579
  pw : cp x ^ nQ = 1
theorem El.num {x : Int} (h : El x) : 0 ≤ x ∧ x < 2147483579 := ⟨by have := h.lo; omega, h.hi⟩
theorem powP_one {x : Int} : powP x nQ = 1 ↔ cp x ^ nQ = 1 := by
  rw [← cp_powP]
  constructor
  · intro h; rw [h, cp_1]
  · intro h
    exact cp_inj (powP_num x nQ) (by omega) (h.trans cp_1.symm)
theorem elB_iff {x : Int} : elB x = true ↔ El x := by
  unfold elB
  rw [Bool.and_eq_true, Bool.and_eq_true, decide_eq_true_eq, decide_eq_true_eq, beq_iff_eq, powP_one]
  exact ⟨fun ⟨a, b, c⟩ => ⟨a, b, c⟩, fun ⟨a, b, c⟩ => ⟨a, b, c⟩⟩
theorem el_cp_ne {x : Int} (h : cp x ^ nQ = 1) : cp x ≠ 0 := fun e => by
  rw [e] at h
  have h2 : (0 : Fp) ^ (nQ - 1 + 1) = 1 := h
  rw [FP.pow_s] at h2
  have : (0 : Fp) = 1 := by rw [← h2]; grind
  exact absurd this (by decide)
/-- A number below P whose power is 1 is an element. -/
theorem el_of {x : Int} (hx : 0 ≤ x ∧ x < 2147483579) (h : cp x ^ nQ = 1) : El x := by
  refine ⟨?_, hx.2, h⟩
  by_cases e : x = 0
  · exact absurd (by rw [e]; exact cp_0) (el_cp_ne h)
  · omega
theorem el_one : El 1 := ⟨by omega, by omega, by rw [cp_1, fp_one]⟩
theorem el_mul {a b : Int} (ha : El a) (hb : El b) : El (a * b % 2147483579) :=
  el_of (by omega) (by rw [cp_mod, cp_mul, fp_prod, ha.pw, hb.pw]; grind)
theorem el_powP {a : Int} (ha : El a) (n : Nat) : El (powP a n) :=
  el_of (powP_num a n) (by rw [cp_powP, ← fp_mul, Nat.mul_comm, fp_mul, ha.pw, fp_one])

/-- The exponent of an integer. -/
def ex (n : Int) : Nat := (n % 1073741789).toNat
theorem ex_lt (n : Int) : ex n < 1073741789 := by unfold ex; omega
theorem ex_cast (n : Int) : ((ex n : Nat) : Int) = n % 1073741789 := by unfold ex; omega
theorem ex_mod (n : Int) : ex (n % 1073741789) = ex n := by unfold ex; rw [Int.emod_emod]
theorem ex_same {m n : Int} (h : m % 1073741789 = n % 1073741789) : ex m = ex n := by unfold ex; rw [h]
theorem ex_add (m n : Int) : ex (m + n) % nQ = (ex m + ex n) % nQ := by
  rw [nQ_eq]
  have h1 := ex_cast m; have h2 := ex_cast n; have h3 := ex_cast (m + n)
  omega
theorem ex_mul (m n : Int) : ex (m * n) % nQ = (ex m * ex n) % nQ := by
  rw [nQ_eq]
  have h1 := ex_cast m; have h2 := ex_cast n; have h3 := ex_cast (m * n)
  have h4 : ((ex m * ex n % 1073741789 : Nat) : Int) = m * n % 1073741789 := by
    rw [Int.natCast_emod, Int.natCast_mul, h1, h2]; exact (Int.mul_emod m n _).symm
  have h5 : ((ex (m * n) % 1073741789 : Nat) : Int) = m * n % 1073741789 := by
    rw [Int.natCast_emod, h3]; exact Int.emod_emod _ _
  exact Int.ofNat.inj (h5.trans h4.symm)
theorem ex_0 : ex 0 = 0 := rfl
theorem ex_1 : ex 1 = 1 := rfl

/-- The power of an element, as the program has it. -/
def powE (a n : Int) : Int := powP a (ex n)
theorem cp_powE (a n : Int) : cp (powE a n) = cp a ^ ex n := cp_powP _ _
theorem el_powE {a : Int} (ha : El a) (n : Int) : El (powE a n) := el_powP ha _
theorem powE_mod (a n : Int) : powE a (n % 1073741789) = powE a n := by unfold powE; rw [ex_mod]
theorem powE_same {a m n : Int} (h : m % 1073741789 = n % 1073741789) : powE a m = powE a n := by unfold powE; rw [ex_same h]
/-- Two numbers below P are one if they are one in the field. -/
theorem el_ext {a b : Int} (ha : El a) (hb : El b) (h : cp a = cp b) : a = b := cp_inj ha.num hb.num h
theorem powE_add {a : Int} (ha : El a) (m n : Int) : powE a (m + n) = powE a m * powE a n % 2147483579 := by
  refine el_ext (el_powE ha _) (el_mul (el_powE ha _) (el_powE ha _)) ?_
  rw [cp_mod, cp_mul, cp_powE, cp_powE, cp_powE, ← fp_add]; exact fp_same ha.pw (ex_add m n)
theorem powE_mul {a : Int} (ha : El a) (m n : Int) : powE (powE a m) n = powE a (m * n) := by
  refine el_ext (el_powE (el_powE ha _) _) (el_powE ha _) ?_
  rw [cp_powE, cp_powE, cp_powE, ← fp_mul]; exact (fp_same ha.pw (ex_mul m n)).symm
theorem powE_0 (a : Int) : powE a 0 = 1 := by unfold powE powP; rw [ex_0, Int.pow_zero]; rfl
theorem powE_1 {a : Int} (ha : El a) : powE a 1 = a := by
  refine el_ext (el_powE ha _) ha ?_
  rw [cp_powE, ex_1, FP.pow_s, FP.pow_0]; grind
theorem powE_neg {a : Int} (ha : El a) (n : Int) : powE a n * powE a (-n) % 2147483579 = 1 := by
  rw [← powE_add ha, Int.add_right_neg, powE_0]
theorem powE_one (n : Int) : powE 1 n = 1 := by
  refine el_ext (el_powE el_one _) el_one ?_
  rw [cp_powE, cp_1, fp_one]
/-- Modulo Q a number that is not 0 has an inverse. -/
theorem inv_ex {z : Int} (h : z % 1073741789 ≠ 0) : (powR z 1073741787 * z) % 1073741789 = 1 := by
  have h1 : cq z ≠ 0 := fun e => h (cq_zero.1 e)
  have h2 := inv_z h1
  rw [← cq_mul] at h2
  have h3 := cq_val (powR z 1073741787 * z)
  rw [h2] at h3
  exact h3.symm
/-- An element other than 1 has the order Q. -/
theorem el_order {a : Int} (ha : El a) (h1 : a ≠ 1) {n : Int} (h : powE a n = 1) : n % 1073741789 = 0 := by
  by_cases hn : n % 1073741789 = 0
  · exact hn
  · have h2 := inv_ex hn
    have h3 : powE (powE a n) (powR n 1073741787) = 1 := by rw [h, powE_one]
    rw [powE_mul ha, Int.mul_comm, powE_same (n := 1) (by rw [h2]; rfl), powE_1 ha] at h3
    exact absurd h3 h1
theorem el_order2 {a : Int} (ha : El a) (h1 : a ≠ 1) {m n : Int} (h : powE a m = powE a n) : m % 1073741789 = n % 1073741789 := by
  have h2 : powE a (m - n) = 1 := by
    rw [Int.sub_eq_add_neg, powE_add ha, h, powE_neg ha]
  have := el_order ha h1 h2
  omega

end Go.Proofs.YtggnipkfliompaaGreatDoor

namespace Go.Proofs.YtggnipkfliompaaGreatDoor
open Go.RowKit FP

/-! The power by squaring, modulo P. -/
theorem mp_l (a b : Int) : (a % 2147483579 * b) % 2147483579 = (a * b) % 2147483579 := by rw [Int.mul_emod, Int.emod_emod, ← Int.mul_emod]
theorem mp_r (a b : Int) : (a * (b % 2147483579)) % 2147483579 = (a * b) % 2147483579 := by rw [Int.mul_emod, Int.emod_emod, ← Int.mul_emod]
theorem mp_pow (a : Int) (n : Nat) : (a % 2147483579) ^ n % 2147483579 = a ^ n % 2147483579 := by
  induction n with
  | zero => rw [Int.pow_zero, Int.pow_zero]
  | succ n ih => rw [Int.pow_succ, Int.pow_succ, mp_r, Int.mul_emod, ih, ← Int.mul_emod]
theorem mp_half (s : Int) (left : Nat) : s ^ left = (s * s) ^ (left / 2) * s ^ (left % 2) := by
  have : s * s = s ^ 2 := by rw [Int.pow_succ, Int.pow_succ, Int.pow_zero, Int.one_mul]
  rw [this, ← Int.pow_mul, ← Int.pow_add]; congr 1; omega
theorem mp_odd (x s : Int) (left : Nat) (h : left % 2 = 1) : ((x * s) % 2147483579 * ((s * s) % 2147483579) ^ (left / 2)) % 2147483579 = (x * s ^ left) % 2147483579 := by
  rw [mp_l, Int.mul_emod, mp_pow, ← Int.mul_emod, mp_half s left, h, Int.pow_succ, Int.pow_zero, Int.one_mul, Int.mul_assoc, Int.mul_comm s]
theorem mp_even (x s : Int) (left : Nat) (h : left % 2 = 0) : (x * ((s * s) % 2147483579) ^ (left / 2)) % 2147483579 = (x * s ^ left) % 2147483579 := by
  rw [Int.mul_emod, mp_pow, ← Int.mul_emod, mp_half s left, h, Int.pow_zero, Int.mul_one]
theorem mp_num (a : Int) : 0 ≤ a % 2147483579 ∧ a % 2147483579 < 2147483579 := by omega
/-- A product of two numbers below P. -/
theorem mp_prod {a b : Int} (ha : 0 ≤ a ∧ a < 2147483579) (hb : 0 ≤ b ∧ b < 2147483579) : 0 ≤ a * b ∧ a * b ≤ 4611685721957729241 := by
  have h3 : 0 ≤ a * b := Int.mul_nonneg ha.1 hb.1
  have h4 : a * b ≤ 2147483578 * 2147483578 := Int.mul_le_mul (by omega) (by omega) hb.1 (by omega)
  omega

set_option maxRecDepth 100000 in
set_option maxHeartbeats 1000000 in
theorem rpower_any (a : Int) (n : Nat) (w : World) (ha : 0 ≤ a ∧ a < 2147483579) (hn : n < 2147483579) :
    Calls Tryz.prog 174 #[.int .i64 a, .int .i64 n] w fun e w' => e = .returned (.int .i64 (powP a n)) ∧ w = w' := by
  go_enter Tryz.func174, Tryz.ntmps174
  go_wp2
  go_loop [0, 1, 5] (fun s l c => ∃ (s' c' : Int) (k : Nat), s = .int .i64 s' ∧ l = .int .i64 k ∧ c = .int .i64 c' ∧ k ≤ n ∧ (0 ≤ s' ∧ s' < 2147483579) ∧ (0 ≤ c' ∧ c' < 2147483579) ∧ Hid ((c' * s' ^ k) % 2147483579 = powP a n)) (fun _ l _ => (intOf l).toNat)
  case atStart => exact ⟨a, 1, n, rfl, rfl, rfl, Nat.le_refl _, ha, by omega, Lib.hid (by rw [Int.one_mul]; rfl)⟩
  case round =>
    obtain ⟨s', c', k, rfl, rfl, rfl, hk, hs, hc, HP⟩ := hrel
    have hss := mp_prod hs hs
    have hcs := mp_prod hc hs
    have hsn := mp_num (s' * s')
    have hcn := mp_num (c' * s')
    have hs2 := hs
    have hc2 := hc
    obtain ⟨s1, s2⟩ := hs
    obtain ⟨c1, c2⟩ := hc
    obtain ⟨q1, q2⟩ := hss
    obtain ⟨q3, q4⟩ := hcs
    by_cases h0 : k = 0
    · subst h0
      go_wp2
      go_ret
      exact ⟨ret_int (by rw [← HP.out, Int.pow_zero, Int.mul_one, Int.emod_eq_of_lt c1 c2]), rfl⟩
    · have hk0 : decide ((k : Int) > 0) = true := by simp; omega
      rcases Nat.mod_two_eq_zero_or_one k with h2 | h2
      · have hk2 : ((k : Int) % 2 == 1) = false := by rw [beq_eq_false_iff_ne]; omega
        go_wp2
        go_round
        case rel => exact ⟨(s' * s') % 2147483579, c', k / 2, rfl, by go_num, rfl, by omega, hsn, hc2, Lib.hid (by rw [mp_even c' s' k h2]; exact HP.out)⟩
        case measure => simp [intOf]; omega
      · have hk2 : ((k : Int) % 2 == 1) = true := by rw [beq_iff_eq]; omega
        go_wp2
        go_round
        case rel => exact ⟨(s' * s') % 2147483579, (c' * s') % 2147483579, k / 2, rfl, by go_num, rfl, by omega, hsn, hcn, Lib.hid (by rw [mp_odd c' s' k h2]; exact HP.out)⟩
        case measure => simp [intOf]; omega

theorem powP_nQ (x : Int) : powP x ((1073741789 : Nat)) = powP x nQ := rfl
set_option maxRecDepth 100000 in
set_option maxHeartbeats 400000 in
theorem rvalid_any (x : Int) (w : World) (hx : R64 x) :
    Calls Tryz.prog 143 #[.int .i64 x] w fun e w' => e = .returned (.bool (elB x)) ∧ w = w' := by
  obtain ⟨x1, x2⟩ := hx
  have H := Lib.hid (show elB x = (decide (1 ≤ x) && (decide (x < 2147483579) && (powP x nQ == 1))) from rfl)
  by_cases h1 : 1 ≤ x
  · by_cases h2 : x < 2147483579
    · have hp := powP_num x nQ
      have K := Lib.hid (show elB x = (powP x nQ == 1) by rw [H.out, decide_eq_true h1, decide_eq_true h2]; rfl)
      clear H
      go_enter Tryz.func143, Tryz.ntmps143
      go_wp2_with fail
      refine (rpower_any x 1073741789 _ ⟨by omega, h2⟩ (by omega)).mono ?_; rintro e w' ⟨rfl, rfl⟩
      rw [powP_nQ]
      go_wp2_with fail
      go_ret
      exact ⟨ret_bool K.out.symm, rfl⟩
    · have K := Lib.hid (show elB x = false by rw [H.out, decide_eq_false h2, Bool.false_and, Bool.and_false])
      have h2' : decide (x < 2147483579) = false := decide_eq_false h2
      clear H h2
      go_enter Tryz.func143, Tryz.ntmps143
      go_wp2_with fail
      go_ret
      exact ⟨ret_bool K.out.symm, rfl⟩
  · have K := Lib.hid (show elB x = false by rw [H.out, decide_eq_false h1, Bool.false_and])
    clear H
    go_enter Tryz.func143, Tryz.ntmps143
    go_wp2_with fail
    go_ret
    exact ⟨ret_bool K.out.symm, rfl⟩

/-! group.Valid: the law of quadratic reciprocity. -/
theorem elB_vJ {k : Nat} (h0 : 0 < k) (h1 : k < 2147483579) : elB k = vJ k 2147483579 := by
  have e := euler (a := k) (h := nQ) rfl h0 h1
  have n0 : FP.natq k = cp (k : Int) := rfl
  rw [n0, ← powP_one] at e
  unfold elB vJ
  rw [decide_eq_true (by omega), decide_eq_true (by omega), Bool.true_and, Bool.true_and]
  rw [Bool.eq_iff_iff, beq_iff_eq, decide_eq_true_eq]; exact e
theorem cop_P {k : Nat} (h0 : 0 < k) (h1 : k < 2147483579) : Nat.Coprime k 2147483579 :=
  (FP.prime_cop (fun hd => by have := Nat.le_of_dvd h0 hd; omega)).symm
set_option maxRecDepth 100000 in
set_option maxHeartbeats 2000000 in
theorem valid_any (x : Int) (w : World) (hx : R64 x) :
    Calls Tryz.prog 71 #[.int .i64 x] w fun e w' => e = .returned (.bool (elB x)) ∧ w = w' := by
  by_cases h1 : x < 1
  · have K := Lib.hid (show elB x = false by unfold elB; rw [decide_eq_false (by omega), Bool.false_and])
    obtain ⟨x1, x2⟩ := hx
    go_enter Tryz.func71, Tryz.ntmps71
    go_wp2_with fail
    go_step3
    go_wp2_with fail
    try rw [Exit.noGoto_ret]
    go_ret
    exact ⟨ret_bool K.out.symm, rfl⟩
  by_cases h2 : 2147483579 ≤ x
  · have K := Lib.hid (show elB x = false by unfold elB; rw [decide_eq_false (p := x < 2147483579) (by omega), Bool.false_and, Bool.and_false])
    obtain ⟨x1, x2⟩ := hx
    go_enter Tryz.func71, Tryz.ntmps71
    go_wp2_with fail
    go_step3
    go_wp2_with fail
    try rw [Exit.noGoto_ret]
    go_ret
    exact ⟨ret_bool K.out.symm, rfl⟩
  obtain ⟨k, rfl⟩ := Int.eq_ofNat_of_zero_le (show 0 ≤ x by omega)
  have hT := Lib.hid (elB_vJ (k := k) (by omega) (by omega))
  have hC := cop_P (k := k) (by omega) (by omega)
  generalize elB (k : Int) = T at *
  have g1 : 1 ≤ k := by omega
  have g2 : k < 2147483579 := by omega
  clear h1 h2 hx
  go_enter Tryz.func71, Tryz.ntmps71
  go_wp2_with fail
  go_step3
  go_wp2_with fail
  go_step3
  go_wp2_with fail
  go_loop [0, 3, 4] (fun x n s => ∃ (y m : Nat) (b : Bool), x = .int .i64 y ∧ n = .int .i64 m ∧ s = .bool b ∧ 1 ≤ y ∧ y < 2147483579 ∧ 1 ≤ m ∧ m ≤ 2147483579 ∧ m % 2 = 1 ∧ Nat.Coprime y m ∧ Hid ((vJ y m == b) = T)) (fun x _ _ => (intOf x).toNat)
  case atStart => exact ⟨k, 2147483579, true, rfl, rfl, rfl, g1, g2, by omega, by omega, by omega, hC, Lib.hid (by rw [hT.out]; cases vJ k 2147483579 <;> rfl)⟩
  case round =>
    obtain ⟨y, m, b, rfl, rfl, rfl, hy1, hy2, hm1, hm2, hm3, hc, HT⟩ := hrel
    by_cases e1 : y = 1
    · subst e1
      have HT2 := Lib.hid (show b = T by rw [← HT.out, vJ_one]; cases b <;> rfl)
      go_wp2
      try rw [Exit.noGoto_ret]
      go_ret
      exact ⟨ret_bool HT2.out, rfl⟩
    · have e2 : decide ((y : Int) > 1) = true := by simp; omega
      go_wp2_with fail
      go_loop [0, 4] (fun x s => ∃ (z : Nat) (c : Bool), x = .int .i64 z ∧ s = .bool c ∧ 1 ≤ z ∧ z ≤ y ∧ Nat.Coprime z m ∧ Hid ((vJ z m == c) = T)) (fun x _ => (intOf x).toNat)
      case atStart => exact ⟨y, b, rfl, rfl, hy1, Nat.le_refl _, hc, HT⟩
      case round =>
        obtain ⟨z, c, rfl, rfl, hz1, hz2, hcz, HZ⟩ := hrel
        rcases Nat.mod_two_eq_zero_or_one z with h2 | h2
        · obtain ⟨u, rfl⟩ : ∃ u, z = 2 * u := ⟨z / 2, by omega⟩
          have f2 : (((2 * u : Nat) : Int) % 2 == 0) = true := by rw [beq_iff_eq]; omega
          have hJ := Lib.hid (vJ_two hm3 hcz)
          have hcu : Nat.Coprime u m := Nat.Coprime.coprime_mul_left hcz
          by_cases h3 : m % 8 = 3
          · have f3 : ((m : Int) % 8 == 3) = true := by rw [beq_iff_eq]; omega
            have HN := Lib.hid (show (vJ u m == !c) = T by
              rw [← HZ.out, hJ.out, decide_eq_true h3]; cases vJ u m <;> cases c <;> rfl)
            clear h3
            go_wp2
            go_round
            case rel => exact ⟨u, !c, by go_num, rfl, by omega, by omega, hcu, HN⟩
            case measure => simp [intOf]; omega
          · have f3 : ((m : Int) % 8 == 3) = false := by rw [beq_eq_false_iff_ne]; omega
            by_cases h5 : m % 8 = 5
            · have f5 : ((m : Int) % 8 == 5) = true := by rw [beq_iff_eq]; omega
              have HN := Lib.hid (show (vJ u m == !c) = T by
                rw [← HZ.out, hJ.out, decide_eq_true h5, Bool.or_true]; cases vJ u m <;> cases c <;> rfl)
              clear h3 h5
              go_wp2
              go_round
              case rel => exact ⟨u, !c, by go_num, rfl, by omega, by omega, hcu, HN⟩
              case measure => simp [intOf]; omega
            · have f5 : ((m : Int) % 8 == 5) = false := by rw [beq_eq_false_iff_ne]; omega
              have HN := Lib.hid (show (vJ u m == c) = T by
                rw [← HZ.out, hJ.out, decide_eq_false h3, decide_eq_false h5]; cases vJ u m <;> cases c <;> rfl)
              clear h3 h5
              go_wp2
              go_round
              case rel => exact ⟨u, c, by go_num, rfl, by omega, by omega, hcu, HN⟩
              case measure => simp [intOf]; omega
        · have f2 : ((z : Int) % 2 == 0) = false := by rw [beq_eq_false_iff_ne]; omega
          by_cases e3 : z = 1
          · subst e3
            have HT2 := Lib.hid (show c = T by rw [← HZ.out, vJ_one]; cases c <;> rfl)
            go_wp2
            try rw [Exit.noGoto_ret]
            go_ret
            exact ⟨ret_bool HT2.out, rfl⟩
          · have f1 : ((z : Int) == 1) = false := by rw [beq_eq_false_iff_ne]; omega
            have hJ := Lib.hid (vJ_swap h2 hm3 hcz)
            have hcn : Nat.Coprime (m % z) z := by
              have := Nat.Coprime.symm hcz
              unfold Nat.Coprime at this ⊢
              rw [← this, ← Nat.gcd_rec, Nat.gcd_comm]
            have hpos : 1 ≤ m % z := by
              by_cases e : m % z = 0
              · rw [e] at hcn; simp at hcn; exact absurd hcn e3
              · omega
            have hlt : m % z < z := Nat.mod_lt _ (by omega)
            have hz0 : (z : Int) ≠ 0 := by omega
            by_cases h3 : z % 4 = 3
            · have f3 : ((z : Int) % 4 == 3) = true := by rw [beq_iff_eq]; omega
              by_cases h4 : m % 4 = 3
              · have f4 : ((m : Int) % 4 == 3) = true := by rw [beq_iff_eq]; omega
                have HN := Lib.hid (show (vJ (m % z) z == !c) = T by
                  rw [← HZ.out, hJ.out, decide_eq_true h3, decide_eq_true h4]; cases vJ z m <;> cases c <;> rfl)
                clear h3 h4
                go_wp2
                go_round
                case rel => exact ⟨m % z, z, !c, by go_num, rfl, rfl, hpos, by omega, by omega, by omega, h2, hcn, HN⟩
                case measure => simp [intOf]; omega
              · have f4 : ((m : Int) % 4 == 3) = false := by rw [beq_eq_false_iff_ne]; omega
                have HN := Lib.hid (show (vJ (m % z) z == c) = T by
                  rw [← HZ.out, hJ.out, decide_eq_true h3, decide_eq_false h4]; cases vJ z m <;> cases c <;> rfl)
                clear h3 h4
                go_wp2
                go_round
                case rel => exact ⟨m % z, z, c, by go_num, rfl, rfl, hpos, by omega, by omega, by omega, h2, hcn, HN⟩
                case measure => simp [intOf]; omega
            · have f3 : ((z : Int) % 4 == 3) = false := by rw [beq_eq_false_iff_ne]; omega
              have HN := Lib.hid (show (vJ (m % z) z == c) = T by
                rw [← HZ.out, hJ.out, decide_eq_false h3]; cases vJ z m <;> cases c <;> rfl)
              clear h3
              go_wp2
              go_round
              case rel => exact ⟨m % z, z, c, by go_num, rfl, rfl, hpos, by omega, by omega, by omega, h2, hcn, HN⟩
              case measure => simp [intOf]; omega

end Go.Proofs.YtggnipkfliompaaGreatDoor
