/- The field of the numbers modulo the prime 2147483579: an element's inverse is its power. -/
namespace Go.Proofs.YtjnnnciifjajmaaDoor.FP

abbrev Fp := Fin 2147483579

def cp (z : Int) : Fp := ⟨(z % 2147483579).toNat, by omega⟩

theorem cp_val (z : Int) : ((cp z).val : Int) = z % 2147483579 := by
  show (((z % 2147483579).toNat : Nat) : Int) = _; omega
theorem fq_ext {a b : Fp} (h : (a.val : Int) = b.val) : a = b := Fin.ext (by omega)
theorem fq_add_val (a b : Fp) : ((a + b).val : Int) = ((a.val : Int) + b.val) % 2147483579 := by
  rw [Fin.val_add]; omega
theorem fq_mul_val (a b : Fp) : ((a * b).val : Int) = ((a.val : Int) * b.val) % 2147483579 := by
  rw [Fin.val_mul]; simp
theorem fq_neg_val (a : Fp) : ((-a).val : Int) = (-(a.val : Int)) % 2147483579 := by
  have h := a.isLt
  rw [Fin.val_neg']; omega
theorem cp_add (a b : Int) : cp (a + b) = cp a + cp b := by
  apply fq_ext; rw [fq_add_val, cp_val, cp_val, cp_val]; omega
theorem cp_mul (a b : Int) : cp (a * b) = cp a * cp b := by
  apply fq_ext; rw [fq_mul_val, cp_val, cp_val, cp_val]; exact Int.mul_emod a b _
theorem cp_neg (a : Int) : cp (-a) = -cp a := by
  apply fq_ext; rw [fq_neg_val, cp_val, cp_val]; omega
theorem cp_mod (a : Int) : cp (a % 2147483579) = cp a := by
  apply fq_ext; rw [cp_val, cp_val]; omega
theorem cp_0 : cp 0 = 0 := by decide +kernel
theorem cp_1 : cp 1 = 1 := by decide +kernel
theorem cp_zero {a : Int} : cp a = 0 ↔ a % 2147483579 = 0 := by
  constructor
  · intro h
    have := cp_val a
    rw [h] at this; exact this.symm
  · intro h; apply fq_ext; rw [cp_val, h]; rfl
theorem cp_inj {a b : Int} (ha : 0 ≤ a ∧ a < 2147483579) (hb : 0 ≤ b ∧ b < 2147483579) (h : cp a = cp b) : a = b := by
  have h1 := cp_val a
  have h2 := cp_val b
  rw [h] at h1; omega
theorem cp_lift (a : Fp) : cp (a.val : Int) = a := by
  apply fq_ext; rw [cp_val]; have := a.isLt; omega

/-! The number is prime. -/
def chkQ : Nat → Nat → Bool
  | 0, d => 2147483579 % d != 0
  | k + 1, d => chkQ k d && chkQ k (d + 2 ^ k)
theorem chkQ_sound : ∀ (k d : Nat), chkQ k d = true → ∀ e, d ≤ e → e < d + 2 ^ k → 2147483579 % e ≠ 0
  | 0, d, h, e, h1, h2 => by
    obtain rfl : e = d := by simp at h2; omega
    simpa [chkQ] using h
  | k + 1, d, h, e, h1, h2 => by
    simp only [chkQ, Bool.and_eq_true] at h
    by_cases hlt : e < d + 2 ^ k
    · exact chkQ_sound k d h.1 e h1 hlt
    · exact chkQ_sound k (d + 2 ^ k) h.2 e (by omega) (by rw [Nat.pow_succ] at h2; omega)
theorem chkQ_all : chkQ 16 2 = true := by decide +kernel
theorem prime_small {d : Nat} (h : d ∣ 2147483579) (hd : d ≤ 65537) : d = 1 := by
  by_cases h1 : d = 1
  · exact h1
  · by_cases h0 : d = 0
    · subst h0; simp at h
    · exact absurd (Nat.mod_eq_zero_of_dvd h) (chkQ_sound 16 2 chkQ_all d (by omega) (by omega))
theorem prime_div {d : Nat} (h : d ∣ 2147483579) : d = 1 ∨ d = 2147483579 := by
  by_cases hd : d ≤ 65537
  · exact .inl (prime_small h hd)
  · obtain ⟨e, he⟩ := h
    have hle : e ≤ 65537 := by
      by_cases hc : e ≤ 65537
      · exact hc
      · have := Nat.mul_le_mul (show 65538 ≤ d by omega) (show 65538 ≤ e by omega); omega
    have := prime_small ⟨d, by rw [Nat.mul_comm]; exact he⟩ hle
    rw [this] at he; right; omega
theorem prime_cop {a : Nat} (h : ¬ 2147483579 ∣ a) : Nat.Coprime 2147483579 a := by
  rcases prime_div (Nat.gcd_dvd_left 2147483579 a) with h1 | h1
  · exact h1
  · exact absurd (h1 ▸ Nat.gcd_dvd_right 2147483579 a) h
theorem prime_euclid {a b : Nat} (h : 2147483579 ∣ a * b) (ha : ¬ 2147483579 ∣ a) : 2147483579 ∣ b :=
  (prime_cop ha).dvd_of_dvd_mul_left h
theorem fq_mul_zero {a b : Fp} (h : a * b = 0) : a = 0 ∨ b = 0 := by
  have h' : (a * b).val = 0 := by rw [h]; rfl
  rw [Fin.val_mul] at h'
  by_cases ha : 2147483579 ∣ a.val
  · left; apply Fin.ext; exact Nat.eq_zero_of_dvd_of_lt ha a.isLt
  · right; apply Fin.ext
    exact Nat.eq_zero_of_dvd_of_lt (prime_euclid (Nat.dvd_of_mod_eq_zero h') ha) b.isLt

/-! The power of a sum: (a + 1)^Q = a^Q + 1. -/
def chooseN : Nat → Nat → Nat
  | _, 0 => 1
  | 0, _ + 1 => 0
  | n + 1, k + 1 => chooseN n k + chooseN n (k + 1)
theorem choose_0 (n : Nat) : chooseN n 0 = 1 := by cases n <;> rfl
theorem choose_gt : ∀ (n k : Nat), n < k → chooseN n k = 0
  | 0, k + 1, _ => rfl
  | n + 1, k + 1, h => by rw [chooseN, choose_gt n k (by omega), choose_gt n (k + 1) (by omega)]
theorem choose_self : ∀ n, chooseN n n = 1
  | 0 => rfl
  | n + 1 => by rw [chooseN, choose_self n, choose_gt n (n + 1) (by omega)]
theorem choose_mul : ∀ (n k : Nat), (k + 1) * chooseN (n + 1) (k + 1) = (n + 1) * chooseN n k
  | 0, 0 => rfl
  | 0, k + 1 => by rw [choose_gt 1 (k + 2) (by omega), choose_gt 0 (k + 1) (by omega)]; simp
  | n + 1, 0 => by
    have := choose_mul n 0
    rw [show chooseN (n + 1 + 1) (0 + 1) = chooseN (n + 1) 0 + chooseN (n + 1) (0 + 1) from rfl, Nat.mul_add, this, choose_0, choose_0]; omega
  | n + 1, k + 1 => by
    have h1 := choose_mul n k
    have h2 := choose_mul n (k + 1)
    rw [show chooseN (n + 1 + 1) (k + 1 + 1) = chooseN (n + 1) (k + 1) + chooseN (n + 1) (k + 1 + 1) from rfl, Nat.mul_add, h2]
    have e : (k + 1 + 1) * chooseN (n + 1) (k + 1) = (n + 1) * chooseN n k + chooseN (n + 1) (k + 1) := by rw [← h1]; grind
    rw [e]
    have e3 : chooseN (n + 1) (k + 1) = chooseN n k + chooseN n (k + 1) := rfl
    rw [e3]; grind
theorem choose_div {k : Nat} (h0 : 0 < k) (h1 : k < 2147483579) : 2147483579 ∣ chooseN 2147483579 k := by
  obtain ⟨j, rfl⟩ : ∃ j, k = j + 1 := ⟨k - 1, by omega⟩
  have h := choose_mul 2147483578 j
  refine prime_euclid (a := j + 1) ⟨chooseN 2147483578 j, h⟩ (fun hd => ?_)
  have := Nat.le_of_dvd (by omega) hd; omega

def sm : Nat → (Nat → Fp) → Fp
  | 0, _ => 0
  | n + 1, f => sm n f + f n
theorem sm_congr {n : Nat} {f g : Nat → Fp} (h : ∀ i, i < n → f i = g i) : sm n f = sm n g := by
  induction n with
  | zero => rfl
  | succ n ih => rw [sm, sm, ih (fun i hi => h i (by omega)), h n (by omega)]
theorem sm_add (n : Nat) (f g : Nat → Fp) : sm n (fun i => f i + g i) = sm n f + sm n g := by
  induction n with
  | zero => rfl
  | succ n ih => rw [sm, sm, sm, ih]; grind
theorem sm_mul (n : Nat) (a : Fp) (f : Nat → Fp) : sm n (fun i => a * f i) = a * sm n f := by
  induction n with
  | zero => simp only [sm]; grind
  | succ n ih => rw [sm, sm, ih]; grind
theorem sm_mul_r (n : Nat) (a : Fp) (f : Nat → Fp) : sm n (fun i => f i * a) = sm n f * a := by
  rw [Fin.mul_comm, ← sm_mul]; exact sm_congr fun i _ => Fin.mul_comm _ _
theorem sm_zero {n : Nat} {f : Nat → Fp} (h : ∀ i, i < n → f i = 0) : sm n f = 0 := by
  induction n with
  | zero => rfl
  | succ n ih => rw [sm, ih (fun i hi => h i (by omega)), h n (by omega)]; rfl
theorem sm_one {n k : Nat} {f : Nat → Fp} (hk : k < n) (h : ∀ i, i < n → i ≠ k → f i = 0) : sm n f = f k := by
  induction n with
  | zero => omega
  | succ n ih =>
    rw [sm]
    by_cases e : k = n
    · subst e; rw [sm_zero (fun i hi => h i (by omega) (by omega))]; simp
    · rw [ih (by omega) (fun i hi => h i (by omega)), h n (by omega) (by omega)]; simp
theorem sm_swap (n m : Nat) (f : Nat → Nat → Fp) : sm n (fun i => sm m (fun j => f i j)) = sm m (fun j => sm n (fun i => f i j)) := by
  induction n with
  | zero => exact (sm_zero (fun _ _ => rfl)).symm
  | succ n ih => rw [sm, ih, ← sm_add]; exact sm_congr fun _ _ => rfl
theorem sm_shift (n : Nat) (f : Nat → Fp) : sm (n + 1) f = f 0 + sm n (fun i => f (i + 1)) := by
  induction n with
  | zero => simp [sm]
  | succ n ih => rw [sm, ih, sm]; grind

def natq (k : Nat) : Fp := cp k
theorem natq_add (a b : Nat) : natq (a + b) = natq a + natq b := by unfold natq; rw [← cp_add]; rfl
theorem natq_zero {k : Nat} (h : 2147483579 ∣ k) : natq k = 0 := by unfold natq; rw [cp_zero]; omega
theorem natq_1 : natq 1 = 1 := cp_1
theorem pow_0 (a : Fp) : a ^ 0 = 1 := by grind
theorem pow_s (a : Fp) (n : Nat) : a ^ (n + 1) = a ^ n * a := by grind
theorem pow_sum (a : Fp) : ∀ n, (a + 1) ^ n = sm (n + 1) (fun k => natq (chooseN n k) * a ^ k)
  | 0 => by show (a + 1) ^ 0 = 0 + natq (chooseN 0 0) * a ^ 0; rw [choose_0, natq_1, pow_0, pow_0]; rfl
  | n + 1 => by
    rw [pow_s, pow_sum a n, sm_shift (n + 1)]
    have e1 : sm (n + 1) (fun i => natq (chooseN (n + 1) (i + 1)) * a ^ (i + 1)) = sm (n + 1) (fun i => natq (chooseN n i) * a ^ i) * a + sm (n + 1) (fun i => natq (chooseN n (i + 1)) * a ^ (i + 1)) := by
      rw [← sm_mul_r, ← sm_add]
      refine sm_congr fun i _ => ?_
      rw [show chooseN (n + 1) (i + 1) = chooseN n i + chooseN n (i + 1) from rfl, natq_add, pow_s]; grind
    have e2 : sm (n + 1) (fun k => natq (chooseN n k) * a ^ k) = natq (chooseN n 0) * a ^ 0 + sm (n + 1) (fun i => natq (chooseN n (i + 1)) * a ^ (i + 1)) := by
      rw [sm_shift]
      congr 1
      show _ = sm n _ + natq (chooseN n (n + 1)) * a ^ (n + 1)
      rw [choose_gt n (n + 1) (by omega), natq_zero ⟨0, rfl⟩]; grind
    rw [e1, choose_0]
    rw [choose_0] at e2
    grind
theorem pow_mid (a : Fp) (n : Nat) (h : ∀ i, i < n → natq (chooseN (n + 1) (i + 1)) = 0) : (a + 1) ^ (n + 1) = a ^ (n + 1) + 1 := by
  rw [pow_sum a (n + 1)]
  show sm (n + 1) _ + natq (chooseN (n + 1) (n + 1)) * a ^ (n + 1) = _
  rw [choose_self, natq_1, sm_shift n, choose_0, natq_1, sm_zero]
  · rw [pow_0]; grind
  · intro i hi
    rw [h i hi]; grind
theorem pow_frob (a : Fp) (n : Nat) (hn : n + 1 = 2147483579) : (a + 1) ^ (n + 1) = a ^ (n + 1) + 1 :=
  pow_mid a n fun i hi => natq_zero (by rw [hn]; exact choose_div (by omega) (by omega))
theorem pow_nat (n : Nat) (hn : n + 1 = 2147483579) : ∀ k : Nat, natq k ^ (n + 1) = natq k
  | 0 => by rw [show natq 0 = 0 from cp_0, pow_s]; grind
  | k + 1 => by rw [natq_add, natq_1, pow_frob _ n hn, pow_nat n hn k]
theorem natq_val (a : Fp) : natq a.val = a := cp_lift a
theorem fermat_of {a b c : Fp} (h : a ≠ 0) (h1 : c * a = a) (h2 : c = b * a) : b * a = 1 := by
  have h3 : a * (b * a - 1) = 0 := by rw [← h2]; grind
  rcases fq_mul_zero h3 with h4 | h4
  · exact absurd h4 h
  · generalize b * a = u at *
    grind
theorem fermat_n {a : Fp} (n : Nat) (hn : n + 1 + 1 = 2147483579) (h : a ≠ 0) : a ^ n * a = 1 := by
  have h1 := pow_nat (n + 1) hn a.val
  rw [natq_val, pow_s] at h1
  exact fermat_of h h1 (pow_s a n)
theorem cp_pow (z : Int) : ∀ n : Nat, cp (z ^ n) = cp z ^ n
  | 0 => by rw [pow_0, Int.pow_zero, cp_1]
  | n + 1 => by rw [pow_s, Int.pow_succ, cp_mul, cp_pow z n]
def powR (a : Int) (n : Nat) : Int := a ^ n % 2147483579
theorem inv_n {z : Int} (n : Nat) (hn : n + 1 + 1 = 2147483579) (h : cp z ≠ 0) : cp (powR z n) * cp z = 1 := by
  unfold powR; rw [cp_mod, cp_pow]; exact fermat_n n hn h
theorem inv_z {z : Int} (h : cp z ≠ 0) : cp (powR z 2147483577) * cp z = 1 := inv_n 2147483577 rfl h
end Go.Proofs.YtjnnnciifjajmaaDoor.FP
