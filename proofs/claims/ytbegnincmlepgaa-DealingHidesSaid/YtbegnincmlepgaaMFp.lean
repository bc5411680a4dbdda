/- The field of the numbers modulo the prime 2147483579: an element's inverse is its power. Gauss's lemma at P = 2147483579: the symbol by counting is the power to (P - 1) / 2. The steps of group.Valid, in plain Lean. -/
import Derived.Test.YtbegnincmlepgaaMJac
namespace Go.Proofs.Ytbegnincmlepgaa.FP

abbrev Fp := Fin 2147483579

def cp (z : Int) : Fp := ⟨(z % 2147483579).toNat, by omega⟩

theorem cp_val (z : Int) : ((cp z).val : Int) = z % 2147483579 := by
  show (((z % 2147483579).toNat : Nat) : Int) = _; omega
theorem fq_ext {a b : Fp} (h : (a.val : Int) = b.val) : a = b := Fin.ext (by omega)
theorem fq_add_val (a b : Fp) : ((a + b).val : Int) = ((a.val : Int) + b.val) % 2147483579 := by
  rw [Fin.val_add]; omega
theorem fq_mul_val (a b : Fp) : ((a * b).val : Int) = ((a.val : Int) * b.val) % 2147483579 := by
  rw [Fin.val_mul]; simp
theorem fq_neg_val (a : Fp) : ((-a).val : Int) = (-(a.val : Int)) % 2147483579 := by
  have h := a.isLt
  rw [Fin.val_neg']; omega
theorem cp_add (a b : Int) : cp (a + b) = cp a + cp b := by
  apply fq_ext; rw [fq_add_val, cp_val, cp_val, cp_val]; omega
theorem cp_mul (a b : Int) : cp (a * b) = cp a * cp b := by
  apply fq_ext; rw [fq_mul_val, cp_val, cp_val, cp_val]; exact Int.mul_emod a b _
theorem cp_neg (a : Int) : cp (-a) = -cp a := by
  apply fq_ext; rw [fq_neg_val, cp_val, cp_val]; omega
theorem cp_mod (a : Int) : cp (a % 2147483579) = cp a := by
  apply fq_ext; rw [cp_val, cp_val]; omega
theorem cp_0 : cp 0 = 0 := by decide +kernel
theorem cp_1 : cp 1 = 1 := by decide +kernel
theorem cp_zero {a : Int} : cp a = 0 ↔ a % 2147483579 = 0 := by
  constructor
  · intro h
    have := cp_val a
    rw [h] at this; exact this.symm
  · intro h; apply fq_ext; rw [cp_val, h]; rfl
theorem cp_inj {a b : Int} (ha : 0 ≤ a ∧ a < 2147483579) (hb : 0 ≤ b ∧ b < 2147483579) (h : cp a = cp b) : a = b := by
  have h1 := cp_val a
  have h2 := cp_val b
  rw [h] at h1; omega
theorem cp_lift (a : Fp) : cp (a.val : Int) = a := by
  apply fq_ext; rw [cp_val]; have := a.isLt; omega

/-! The number is prime. -/
def chkQ : Nat → Nat → Bool
  | 0, d => 2147483579 % d != 0
  | k + 1, d => chkQ k d && chkQ k (d + 2 ^ k)
theorem chkQ_sound : ∀ (k d : Nat), chkQ k d = true → ∀ e, d ≤ e → e < d + 2 ^ k → 2147483579 % e ≠ 0
  | 0, d, h, e, h1, h2 => by
    obtain rfl : e = d := by simp at h2; omega
    simpa [chkQ] using h
  | k + 1, d, h, e, h1, h2 => by
    simp only [chkQ, Bool.and_eq_true] at h
    by_cases hlt : e < d + 2 ^ k
    · exact chkQ_sound k d h.1 e h1 hlt
    · exact chkQ_sound k (d + 2 ^ k) h.2 e (by omega) (by rw [Nat.pow_succ] at h2; omega)
theorem chkQ_all : chkQ 16 2 = true := by decide +kernel
theorem prime_small {d : Nat} (h : d ∣ 2147483579) (hd : d ≤ 65537) : d = 1 := by
  by_cases h1 : d = 1
  · exact h1
  · by_cases h0 : d = 0
    · subst h0; simp at h
    · exact absurd (Nat.mod_eq_zero_of_dvd h) (chkQ_sound 16 2 chkQ_all d (by omega) (by omega))
theorem prime_div {d : Nat} (h : d ∣ 2147483579) : d = 1 ∨ d = 2147483579 := by
  by_cases hd : d ≤ 65537
  · exact .inl (prime_small h hd)
  · obtain ⟨e, he⟩ := h
    have hle : e ≤ 65537 := by
      by_cases hc : e ≤ 65537
      · exact hc
      · have := Nat.mul_le_mul (show 65538 ≤ d by omega) (show 65538 ≤ e by omega); omega
    have := prime_small ⟨d, by rw [Nat.mul_comm]; exact he⟩ hle
    rw [this] at he; right; omega
theorem prime_cop {a : Nat} (h : ¬ 2147483579 ∣ a) : Nat.Coprime 2147483579 a := by
  rcases prime_div (Nat.gcd_dvd_left 2147483579 a) with h1 | h1
  · exact h1
  · exact absurd (h1 ▸ Nat.gcd_dvd_right 2147483579 a) h
theorem prime_euclid {a b : Nat} (h : 2147483579 ∣ a * b) (ha : ¬ 2147483579 ∣ a) : 2147483579 ∣ b :=
  (prime_cop ha).dvd_of_dvd_mul_left h
theorem fq_mul_zero {a b : Fp} (h : a * b = 0) : a = 0 ∨ b = 0 := by
  have h' : (a * b).val = 0 := by rw [h]; rfl
  rw [Fin.val_mul] at h'
  by_cases ha : 2147483579 ∣ a.val
  · left; apply Fin.ext; exact Nat.eq_zero_of_dvd_of_lt ha a.isLt
  · right; apply Fin.ext
    exact Nat.eq_zero_of_dvd_of_lt (prime_euclid (Nat.dvd_of_mod_eq_zero h') ha) b.isLt

/-! The power of a sum: (a + 1)^Q = a^Q + 1. -/
def chooseN : Nat → Nat → Nat
  | _, 0 => 1
  | 0, _ + 1 => 0
  | n + 1, k + 1 => chooseN n k + chooseN n (k + 1)
theorem choose_0 (n : Nat) : chooseN n 0 = 1 := by cases n <;> rfl
theorem choose_gt : ∀ (n k : Nat), n < k → chooseN n k = 0
  | 0, k + 1, _ => rfl
  | n + 1, k + 1, h => by rw [chooseN, choose_gt n k (by omega), choose_gt n (k + 1) (by omega)]
theorem choose_self : ∀ n, chooseN n n = 1
  | 0 => rfl
  | n + 1 => by rw [chooseN, choose_self n, choose_gt n (n + 1) (by omega)]
theorem choose_mul : ∀ (n k : Nat), (k + 1) * chooseN (n + 1) (k + 1) = (n + 1) * chooseN n k
  | 0, 0 => rfl
  | 0, k + 1 => by rw [choose_gt 1 (k + 2) (by omega), choose_gt 0 (k + 1) (by omega)]; simp
  | n + 1, 0 => by
    have := choose_mul n 0
    rw [show chooseN (n + 1 + 1) (0 + 1) = chooseN (n + 1) 0 + chooseN (n + 1) (0 + 1) from rfl, Nat.mul_add, this, choose_0, choose_0]; omega
  | n + 1, k + 1 => by
    have h1 := choose_mul n k
    have h2 := choose_mul n (k + 1)
    rw [show chooseN (n + 1 + 1) (k + 1 + 1) = chooseN (n + 1) (k + 1) + chooseN (n + 1) (k + 1 + 1) from rfl, Nat.mul_add, h2]
    have e : (k + 1 + 1) * chooseN (n + 1) (k + 1) = (n + 1) * chooseN n k + chooseN (n + 1) (k + 1) := by rw [← h1]; grind
    rw [e]
    have e3 : chooseN (n + 1) (k + 1) = chooseN n k + chooseN n (k + 1) := rfl
    rw [e3]; grind
theorem choose_div {k : Nat} (h0 : 0 < k) (h1 : k < 2147483579) : 2147483579 ∣ chooseN 2147483579 k := by
  obtain ⟨j, rfl⟩ : ∃ j, k = j + 1 := ⟨k - 1, by omega⟩
  have h := choose_mul 2147483578 j
  refine prime_euclid (a := j + 1) ⟨chooseN 2147483578 j, h⟩ (fun hd => ?_)
  have := Nat.le_of_dvd (by omega) hd; omega

def sm : Nat → (Nat → Fp) → Fp
  | 0, _ => 0
  | n + 1, f => sm n f + f n
theorem sm_congr {n : Nat} {f g : Nat → Fp} (h : ∀ i, i < n → f i = g i) : sm n f = sm n g := by
  induction n with
  | zero => rfl
  | succ n ih => rw [sm, sm, ih (fun i hi => h i (by omega)), h n (by omega)]
theorem sm_add (n : Nat) (f g : Nat → Fp) : sm n (fun i => f i + g i) = sm n f + sm n g := by
  induction n with
  | zero => rfl
  | succ n ih => rw [sm, sm, sm, ih]; grind
theorem sm_mul (n : Nat) (a : Fp) (f : Nat → Fp) : sm n (fun i => a * f i) = a * sm n f := by
  induction n with
  | zero => simp only [sm]; grind
  | succ n ih => rw [sm, sm, ih]; grind
theorem sm_mul_r (n : Nat) (a : Fp) (f : Nat → Fp) : sm n (fun i => f i * a) = sm n f * a := by
  rw [Fin.mul_comm, ← sm_mul]; exact sm_congr fun i _ => Fin.mul_comm _ _
theorem sm_zero {n : Nat} {f : Nat → Fp} (h : ∀ i, i < n → f i = 0) : sm n f = 0 := by
  induction n with
  | zero => rfl
  | succ n ih => rw [sm, ih (fun i hi => h i (by omega)), h n (by omega)]; rfl
theorem sm_one {n k : Nat} {f : Nat → Fp} (hk : k < n) (h : ∀ i, i < n → i ≠ k → f i = 0) : sm n f = f k := by
  induction n with
  | zero => omega
  | succ n ih =>
    rw [sm]
    by_cases e : k = n
    · subst e; rw [sm_zero (fun i hi => h i (by omega) (by omega))]; simp
    · rw [ih (by omega) (fun i hi => h i (by omega)), h n (by omega) (by omega)]; simp
theorem sm_swap (n m : Nat) (f : Nat → Nat → Fp) : sm n (fun i => sm m (fun j => f i j)) = sm m (fun j => sm n (fun i => f i j)) := by
  induction n with
  | zero => exact (sm_zero (fun _ _ => rfl)).symm
  | succ n ih => rw [sm, ih, ← sm_add]; exact sm_congr fun _ _ => rfl
theorem sm_shift (n : Nat) (f : Nat → Fp) : sm (n + 1) f = f 0 + sm n (fun i => f (i + 1)) := by
  induction n with
  | zero => simp [sm]
  | succ n ih => rw [sm, ih, sm]; grind

def natq (k : Nat) : Fp := cp k
theorem natq_add (a b : Nat) : natq (a + b) = natq a + natq b := by unfold natq; rw [← cp_add]; rfl
theorem natq_zero {k : Nat} (h : 2147483579 ∣ k) : natq k = 0 := by unfold natq; rw [cp_zero]; omega
theorem natq_1 : natq 1 = 1 := cp_1
theorem pow_0 (a : Fp) : a ^ 0 = 1 := by grind
theorem pow_s (a : Fp) (n : Nat) : a ^ (n + 1) = a ^ n * a := by grind
theorem pow_sum (a : Fp) : ∀ n, (a + 1) ^ n = sm (n + 1) (fun k => natq (chooseN n k) * a ^ k)
  | 0 => by show (a + 1) ^ 0 = 0 + natq (chooseN 0 0) * a ^ 0; rw [choose_0, natq_1, pow_0, pow_0]; rfl
  | n + 1 => by
    rw [pow_s, pow_sum a n, sm_shift (n + 1)]
    have e1 : sm (n + 1) (fun i => natq (chooseN (n + 1) (i + 1)) * a ^ (i + 1)) = sm (n + 1) (fun i => natq (chooseN n i) * a ^ i) * a + sm (n + 1) (fun i => natq (chooseN n (i + 1)) * a ^ (i + 1)) := by
      rw [← sm_mul_r, ← sm_add]
      refine sm_congr fun i _ => ?_
      rw [show chooseN (n + 1) (i + 1) = chooseN n i + chooseN n (i + 1) from rfl, natq_add, pow_s]; grind
    have e2 : sm (n + 1) (fun k => natq (chooseN n k) * a ^ k) = natq (chooseN n 0) * a ^ 0 + sm (n + 1) (fun i => natq (chooseN n (i + 1)) * a ^ (i + 1)) := by
      rw [sm_shift]
      congr 1
      show _ = sm n _ + natq (chooseN n (n + 1)) * a ^ (n + 1)
      rw [choose_gt n (n + 1) (by omega), natq_zero ⟨0, rfl⟩]; grind
    rw [e1, choose_0]
    rw [choose_0] at e2
    grind
theorem pow_mid (a : Fp) (n : Nat) (h : ∀ i, i < n → natq (chooseN (n + 1) (i + 1)) = 0) : (a + 1) ^ (n + 1) = a ^ (n + 1) + 1 := by
  rw [pow_sum a (n + 1)]
  show sm (n + 1) _ + natq (chooseN (n + 1) (n + 1)) * a ^ (n + 1) = _
  rw [choose_self, natq_1, sm_shift n, choose_0, natq_1, sm_zero]
  · rw [pow_0]; grind
  · intro i hi
    rw [h i hi]; grind
theorem pow_frob (a : Fp) (n : Nat) (hn : n + 1 = 2147483579) : (a + 1) ^ (n + 1) = a ^ (n + 1) + 1 :=
  pow_mid a n fun i hi => natq_zero (by rw [hn]; exact choose_div (by omega) (by omega))
theorem pow_nat (n : Nat) (hn : n + 1 = 2147483579) : ∀ k : Nat, natq k ^ (n + 1) = natq k
  | 0 => by rw [show natq 0 = 0 from cp_0, pow_s]; grind
  | k + 1 => by rw [natq_add, natq_1, pow_frob _ n hn, pow_nat n hn k]
theorem natq_val (a : Fp) : natq a.val = a := cp_lift a
theorem fermat_of {a b c : Fp} (h : a ≠ 0) (h1 : c * a = a) (h2 : c = b * a) : b * a = 1 := by
  have h3 : a * (b * a - 1) = 0 := by rw [← h2]; grind
  rcases fq_mul_zero h3 with h4 | h4
  · exact absurd h4 h
  · generalize b * a = u at *
    grind
theorem fermat_n {a : Fp} (n : Nat) (hn : n + 1 + 1 = 2147483579) (h : a ≠ 0) : a ^ n * a = 1 := by
  have h1 := pow_nat (n + 1) hn a.val
  rw [natq_val, pow_s] at h1
  exact fermat_of h h1 (pow_s a n)
theorem cp_pow (z : Int) : ∀ n : Nat, cp (z ^ n) = cp z ^ n
  | 0 => by rw [pow_0, Int.pow_zero, cp_1]
  | n + 1 => by rw [pow_s, Int.pow_succ, cp_mul, cp_pow z n]
def powR (a : Int) (n : Nat) : Int := a ^ n % 2147483579
theorem inv_n {z : Int} (n : Nat) (hn : n + 1 + 1 = 2147483579) (h : cp z ≠ 0) : cp (powR z n) * cp z = 1 := by
  unfold powR; rw [cp_mod, cp_pow]; exact fermat_n n hn h
theorem inv_z {z : Int} (h : cp z ≠ 0) : cp (powR z 2147483577) * cp z = 1 := inv_n 2147483577 rfl h
end Go.Proofs.Ytbegnincmlepgaa.FP

namespace Go.Proofs.Ytbegnincmlepgaa.FP

def prodP (l : List Nat) (f : Nat → Fp) : Fp := l.foldr (fun k x => f k * x) 1
theorem prodP_perm {l l' : List Nat} (h : l.Perm l') (f : Nat → Fp) : prodP l f = prodP l' f := by
  induction h with
  | nil => rfl
  | cons x _ ih => show f x * prodP _ f = f x * prodP _ f; rw [ih]
  | swap x y l => show f y * (f x * prodP l f) = f x * (f y * prodP l f); generalize prodP l f = z; grind
  | trans _ _ h1 h2 => rw [h1, h2]
theorem prodP_map (l : List Nat) (s : Nat → Nat) (f : Nat → Fp) : prodP (l.map s) f = prodP l (fun k => f (s k)) := by
  induction l with
  | nil => rfl
  | cons x l ih => show f (s x) * prodP (l.map s) f = f (s x) * prodP l _; rw [ih]
theorem prodP_congr {l : List Nat} {f g : Nat → Fp} (h : ∀ k ∈ l, f k = g k) : prodP l f = prodP l g := by
  induction l with
  | nil => rfl
  | cons x l ih => show f x * prodP l f = g x * prodP l g; rw [h x (List.mem_cons_self), ih fun k hk => h k (List.mem_cons_of_mem _ hk)]
theorem prodP_mul (l : List Nat) (f g : Nat → Fp) : prodP l (fun k => f k * g k) = prodP l f * prodP l g := by
  induction l with
  | nil => show (1 : Fp) = 1 * 1; grind
  | cons x l ih =>
    show f x * g x * prodP l _ = f x * prodP l f * (g x * prodP l g)
    rw [ih]; generalize prodP l f = z; generalize prodP l g = y; grind
theorem prodP_ne {l : List Nat} {f : Nat → Fp} (h : ∀ k ∈ l, f k ≠ 0) : prodP l f ≠ 0 := by
  induction l with
  | nil => show (1 : Fp) ≠ 0; decide
  | cons x l ih =>
    intro e
    rcases fq_mul_zero (show f x * prodP l f = 0 from e) with h1 | h1
    · exact h x (List.mem_cons_self) h1
    · exact ih (fun k hk => h k (List.mem_cons_of_mem _ hk)) h1
theorem prodP_const (h : Nat) (a : Fp) : prodP (upto h) (fun _ => a) = a ^ h := by
  have : ∀ l : List Nat, prodP l (fun _ => a) = a ^ l.length := fun l => by
    induction l with
    | nil => exact (pow_0 a).symm
    | cons x l ih => show a * prodP l _ = _; rw [ih, List.length_cons, pow_s]; grind
  rw [this]; simp [upto]
theorem prodP_sign (h : Nat) (g : Nat → Nat) : prodP (upto h) (fun k => (-1 : Fp) ^ g k) = (-1 : Fp) ^ S1 h g := by
  induction h with
  | zero => exact (pow_0 _).symm
  | succ h ih =>
    have e : prodP (upto (h + 1)) (fun k => (-1 : Fp) ^ g k) = prodP (upto h) (fun k => (-1 : Fp) ^ g k) * (-1 : Fp) ^ g (h + 1) := by
      rw [upto_succ, prodP_perm (List.perm_append_comm)]
      show (-1 : Fp) ^ g (h + 1) * prodP (upto h) _ = _
      grind
    rw [e, ih, S1_succ]
    generalize S1 h g = x; generalize g (h + 1) = y; grind

theorem natq_mul (a b : Nat) : natq (a * b) = natq a * natq b := by unfold natq; rw [← cp_mul]; rfl
theorem natq_mod (a : Nat) : natq (a % 2147483579) = natq a := by unfold natq; rw [Int.natCast_emod]; exact cp_mod a
theorem natq_ne {k : Nat} (h0 : 0 < k) (h : k < 2147483579) : natq k ≠ 0 := fun e => by
  unfold natq at e; rw [cp_zero] at e; omega

/-- Gauss's lemma. -/
theorem gauss {a h : Nat} (hh : 2 * h + 1 = 2147483579) (c : Nat.Coprime a (2 * h + 1)) : natq a ^ h = (-1 : Fp) ^ cntJ h a := by
  have e1 : prodP (upto h) (fun k => natq (a * k)) = prodP (upto h) (fun k => (-1 : Fp) ^ over h a k * natq (sg h a k)) := by
    refine prodP_congr fun k _ => ?_
    have h1 := natq_mod (a * k)
    have h2 : a * k % (2 * h + 1) < 2 * h + 1 := Nat.mod_lt _ (by omega)
    rw [← hh] at h1
    unfold over sg
    generalize a * k % (2 * h + 1) = r at *
    rw [← h1]
    by_cases hr : h < r
    · rw [if_pos hr, if_pos hr]
      have e : natq (2 * h + 1 - r) + natq r = 0 := by
        rw [← natq_add, Nat.sub_add_cancel (by omega), hh]; exact natq_zero ⟨1, rfl⟩
      have e2 : (-1 : Fp) ^ 1 = -1 := by rw [pow_s, pow_0]; grind
      rw [e2]; generalize natq (2 * h + 1 - r) = x at *; generalize natq r = y at *; grind
    · rw [if_neg hr, if_neg hr, pow_0]; generalize natq r = y; grind
  have e2 : prodP (upto h) (fun k => natq (a * k)) = natq a ^ h * prodP (upto h) natq := by
    rw [show (fun k => natq (a * k)) = fun k => natq a * natq k from funext fun k => natq_mul a k, prodP_mul, prodP_const]
  have e3 : prodP (upto h) (fun k => natq (sg h a k)) = prodP (upto h) natq := by
    rw [← prodP_map, prodP_perm (sg_perm c).perm]
  rw [e2, prodP_mul, prodP_sign, e3] at e1
  have hne : prodP (upto h) natq ≠ 0 := prodP_ne fun k hk => by
    have := mem_upto.1 hk
    exact natq_ne (by omega) (by omega)
  generalize prodP (upto h) natq = z at *
  have e4 : (natq a ^ h - (-1 : Fp) ^ S1 h (over h a)) * z = 0 := by grind
  rcases fq_mul_zero e4 with h5 | h5
  · show natq a ^ h = (-1 : Fp) ^ S1 h (over h a)
    grind
  · exact absurd h5 hne

theorem sign_even (n : Nat) : (-1 : Fp) ^ n = if n % 2 = 0 then 1 else -1 := by
  induction n with
  | zero => exact pow_0 _
  | succ n ih =>
    rw [pow_s, ih]
    by_cases e : n % 2 = 0
    · rw [if_pos e, if_neg (by omega)]; grind
    · rw [if_neg e, if_pos (by omega)]; grind

/-- Euler's criterion, by counting. -/
theorem euler {a h : Nat} (hh : 2 * h + 1 = 2147483579) (h0 : 0 < a) (h1 : a < 2147483579) : natq a ^ h = 1 ↔ cntJ h a % 2 = 0 := by
  have c : Nat.Coprime a (2 * h + 1) := by
    rw [hh]
    exact (prime_cop (fun hd => by have := Nat.le_of_dvd h0 hd; omega)).symm
  rw [gauss hh c, sign_even]
  by_cases e : cntJ h a % 2 = 0
  · rw [if_pos e]; exact ⟨fun _ => e, fun _ => rfl⟩
  · rw [if_neg e]; exact ⟨fun x => absurd x (by decide), fun x => absurd x e⟩

end Go.Proofs.Ytbegnincmlepgaa.FP

namespace Go.Proofs.Ytbegnincmlepgaa

def vJ (x n : Nat) : Bool := decide (cntJ (n / 2) x % 2 = 0)
theorem vJ_one (n : Nat) : vJ 1 n = true := by unfold vJ; rw [cntJ_one]; rfl
theorem half_odd {n : Nat} (hn : n % 2 = 1) : 2 * (n / 2) + 1 = n := by omega
theorem par_add {a b c : Nat} (h : c % 2 = (a + b) % 2) : decide (c % 2 = 0) = (decide (a % 2 = 0) == decide (b % 2 = 0)) := by
  by_cases ha : a % 2 = 0 <;> by_cases hb : b % 2 = 0
  · rw [decide_eq_true ha, decide_eq_true hb, decide_eq_true (by omega)]; rfl
  · rw [decide_eq_true ha, decide_eq_false hb, decide_eq_false (by omega)]; rfl
  · rw [decide_eq_false ha, decide_eq_true hb, decide_eq_false (by omega)]; rfl
  · rw [decide_eq_false ha, decide_eq_false hb, decide_eq_true (by omega)]; rfl
theorem vJ_two {y n : Nat} (hn : n % 2 = 1) (c : Nat.Coprime (2 * y) n) : vJ (2 * y) n = (vJ y n == !(decide (n % 8 = 3) || decide (n % 8 = 5))) := by
  have c2 : Nat.Coprime 2 n := Nat.Coprime.coprime_mul_right c
  have cy : Nat.Coprime y n := Nat.Coprime.coprime_mul_left c
  have e := cntJ_mul (h := n / 2) (a := y) (b := 2) (by rw [half_odd hn]; exact cy) (by rw [half_odd hn]; exact c2)
  rw [Nat.mul_comm] at e
  unfold vJ
  rw [par_add e, cntJ_two]
  congr 1
  by_cases h3 : n % 8 = 3
  · rw [decide_eq_true h3, decide_eq_false (by omega)]; rfl
  · by_cases h5 : n % 8 = 5
    · rw [decide_eq_false h3, decide_eq_true h5, decide_eq_false (by omega)]; rfl
    · rw [decide_eq_false h3, decide_eq_false h5, decide_eq_true (by omega)]; rfl
theorem vJ_swap {x n : Nat} (hx : x % 2 = 1) (hn : n % 2 = 1) (c : Nat.Coprime x n) : vJ (n % x) x = (vJ x n == !(decide (x % 4 = 3) && decide (n % 4 = 3))) := by
  have e := cntJ_recip (h := n / 2) (g := x / 2) (by rw [half_odd hx, half_odd hn]; exact c)
  rw [half_odd hx, half_odd hn] at e
  have e1 : cntJ (x / 2) (n % x) = cntJ (x / 2) n := by have := cntJ_mod (x / 2) n; rw [half_odd hx] at this; exact this
  unfold vJ
  rw [e1, par_add (a := cntJ (n / 2) x) (b := n / 2 * (x / 2)) (by omega)]
  congr 1
  have h4 : (n / 2 * (x / 2)) % 2 = ((n / 2) % 2) * ((x / 2) % 2) % 2 := Nat.mul_mod _ _ _
  by_cases h1 : x % 4 = 3
  · rw [decide_eq_true h1, Bool.true_and]
    have : x / 2 % 2 = 1 := by omega
    rw [this, Nat.mul_one] at h4
    by_cases h2 : n % 4 = 3
    · rw [decide_eq_true h2, decide_eq_false (by omega)]; rfl
    · rw [decide_eq_false h2, decide_eq_true (by omega)]; rfl
  · have : x / 2 % 2 = 0 := by omega
    rw [this, Nat.mul_zero] at h4
    rw [decide_eq_false h1, decide_eq_true (by omega)]; rfl

end Go.Proofs.Ytbegnincmlepgaa
