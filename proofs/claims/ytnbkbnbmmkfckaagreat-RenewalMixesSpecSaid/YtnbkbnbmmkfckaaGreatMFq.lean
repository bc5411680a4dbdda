/- The field of the numbers modulo the prime 1073741789: an element's inverse is its power. Linear algebra over the field: kernels, spans, ranks. Ranks: how many columns do not lead a vector of a kernel. -/
namespace Go.Proofs.YtnbkbnbmmkfckaaGreat

abbrev Fq := Fin 1073741789

def cq (z : Int) : Fq := ⟨(z % 1073741789).toNat, by omega⟩

theorem cq_val (z : Int) : ((cq z).val : Int) = z % 1073741789 := by
  show (((z % 1073741789).toNat : Nat) : Int) = _; omega
theorem fq_ext {a b : Fq} (h : (a.val : Int) = b.val) : a = b := Fin.ext (by omega)
theorem fq_add_val (a b : Fq) : ((a + b).val : Int) = ((a.val : Int) + b.val) % 1073741789 := by
  rw [Fin.val_add]; omega
theorem fq_mul_val (a b : Fq) : ((a * b).val : Int) = ((a.val : Int) * b.val) % 1073741789 := by
  rw [Fin.val_mul]; simp
theorem fq_neg_val (a : Fq) : ((-a).val : Int) = (-(a.val : Int)) % 1073741789 := by
  have h := a.isLt
  rw [Fin.val_neg']; omega
theorem cq_add (a b : Int) : cq (a + b) = cq a + cq b := by
  apply fq_ext; rw [fq_add_val, cq_val, cq_val, cq_val]; omega
theorem cq_mul (a b : Int) : cq (a * b) = cq a * cq b := by
  apply fq_ext; rw [fq_mul_val, cq_val, cq_val, cq_val]; exact Int.mul_emod a b _
theorem cq_neg (a : Int) : cq (-a) = -cq a := by
  apply fq_ext; rw [fq_neg_val, cq_val, cq_val]; omega
theorem cq_mod (a : Int) : cq (a % 1073741789) = cq a := by
  apply fq_ext; rw [cq_val, cq_val]; omega
theorem cq_0 : cq 0 = 0 := by decide +kernel
theorem cq_1 : cq 1 = 1 := by decide +kernel
theorem cq_zero {a : Int} : cq a = 0 ↔ a % 1073741789 = 0 := by
  constructor
  · intro h
    have := cq_val a
    rw [h] at this; exact this.symm
  · intro h; apply fq_ext; rw [cq_val, h]; rfl
theorem cq_lift (a : Fq) : cq (a.val : Int) = a := by
  apply fq_ext; rw [cq_val]; have := a.isLt; omega

/-! The number is prime. -/
def chkQ : Nat → Nat → Bool
  | 0, d => 1073741789 % d != 0
  | k + 1, d => chkQ k d && chkQ k (d + 2 ^ k)
theorem chkQ_sound : ∀ (k d : Nat), chkQ k d = true → ∀ e, d ≤ e → e < d + 2 ^ k → 1073741789 % e ≠ 0
  | 0, d, h, e, h1, h2 => by
    obtain rfl : e = d := by simp at h2; omega
    simpa [chkQ] using h
  | k + 1, d, h, e, h1, h2 => by
    simp only [chkQ, Bool.and_eq_true] at h
    by_cases hlt : e < d + 2 ^ k
    · exact chkQ_sound k d h.1 e h1 hlt
    · exact chkQ_sound k (d + 2 ^ k) h.2 e (by omega) (by rw [Nat.pow_succ] at h2; omega)
theorem chkQ_all : chkQ 15 2 = true := by decide +kernel
theorem prime_small {d : Nat} (h : d ∣ 1073741789) (hd : d ≤ 32769) : d = 1 := by
  by_cases h1 : d = 1
  · exact h1
  · by_cases h0 : d = 0
    · subst h0; simp at h
    · exact absurd (Nat.mod_eq_zero_of_dvd h) (chkQ_sound 15 2 chkQ_all d (by omega) (by omega))
theorem prime_div {d : Nat} (h : d ∣ 1073741789) : d = 1 ∨ d = 1073741789 := by
  by_cases hd : d ≤ 32769
  · exact .inl (prime_small h hd)
  · obtain ⟨e, he⟩ := h
    have hle : e ≤ 32769 := by
      by_cases hc : e ≤ 32769
      · exact hc
      · have := Nat.mul_le_mul (show 32770 ≤ d by omega) (show 32770 ≤ e by omega); omega
    have := prime_small ⟨d, by rw [Nat.mul_comm]; exact he⟩ hle
    rw [this] at he; right; omega
theorem prime_cop {a : Nat} (h : ¬ 1073741789 ∣ a) : Nat.Coprime 1073741789 a := by
  rcases prime_div (Nat.gcd_dvd_left 1073741789 a) with h1 | h1
  · exact h1
  · exact absurd (h1 ▸ Nat.gcd_dvd_right 1073741789 a) h
theorem prime_euclid {a b : Nat} (h : 1073741789 ∣ a * b) (ha : ¬ 1073741789 ∣ a) : 1073741789 ∣ b :=
  (prime_cop ha).dvd_of_dvd_mul_left h
theorem fq_mul_zero {a b : Fq} (h : a * b = 0) : a = 0 ∨ b = 0 := by
  have h' : (a * b).val = 0 := by rw [h]; rfl
  rw [Fin.val_mul] at h'
  by_cases ha : 1073741789 ∣ a.val
  · left; apply Fin.ext; exact Nat.eq_zero_of_dvd_of_lt ha a.isLt
  · right; apply Fin.ext
    exact Nat.eq_zero_of_dvd_of_lt (prime_euclid (Nat.dvd_of_mod_eq_zero h') ha) b.isLt

/-! The power of a sum: (a + 1)^Q = a^Q + 1. -/
def chooseN : Nat → Nat → Nat
  | _, 0 => 1
  | 0, _ + 1 => 0
  | n + 1, k + 1 => chooseN n k + chooseN n (k + 1)
theorem choose_0 (n : Nat) : chooseN n 0 = 1 := by cases n <;> rfl
theorem choose_gt : ∀ (n k : Nat), n < k → chooseN n k = 0
  | 0, k + 1, _ => rfl
  | n + 1, k + 1, h => by rw [chooseN, choose_gt n k (by omega), choose_gt n (k + 1) (by omega)]
theorem choose_self : ∀ n, chooseN n n = 1
  | 0 => rfl
  | n + 1 => by rw [chooseN, choose_self n, choose_gt n (n + 1) (by omega)]
theorem choose_mul : ∀ (n k : Nat), (k + 1) * chooseN (n + 1) (k + 1) = (n + 1) * chooseN n k
  | 0, 0 => rfl
  | 0, k + 1 => by rw [choose_gt 1 (k + 2) (by omega), choose_gt 0 (k + 1) (by omega)]; simp
  | n + 1, 0 => by
    have := choose_mul n 0
    rw [show chooseN (n + 1 + 1) (0 + 1) = chooseN (n + 1) 0 + chooseN (n + 1) (0 + 1) from rfl, Nat.mul_add, this, choose_0, choose_0]; omega
  | n + 1, k + 1 => by
    have h1 := choose_mul n k
    have h2 := choose_mul n (k + 1)
    rw [show chooseN (n + 1 + 1) (k + 1 + 1) = chooseN (n + 1) (k + 1) + chooseN (n + 1) (k + 1 + 1) from rfl, Nat.mul_add, h2]
    have e : (k + 1 + 1) * chooseN (n + 1) (k + 1) = (n + 1) * chooseN n k + chooseN (n + 1) (k + 1) := by rw [← h1]; grind
    rw [e]
    have e3 : chooseN (n + 1) (k + 1) = chooseN n k + chooseN n (k + 1) := rfl
    rw [e3]; grind
theorem choose_div {k : Nat} (h0 : 0 < k) (h1 : k < 1073741789) : 1073741789 ∣ chooseN 1073741789 k := by
  obtain ⟨j, rfl⟩ : ∃ j, k = j + 1 := ⟨k - 1, by omega⟩
  have h := choose_mul 1073741788 j
  refine prime_euclid (a := j + 1) ⟨chooseN 1073741788 j, h⟩ (fun hd => ?_)
  have := Nat.le_of_dvd (by omega) hd; omega

def sm : Nat → (Nat → Fq) → Fq
  | 0, _ => 0
  | n + 1, f => sm n f + f n
theorem sm_congr {n : Nat} {f g : Nat → Fq} (h : ∀ i, i < n → f i = g i) : sm n f = sm n g := by
  induction n with
  | zero => rfl
  | succ n ih => rw [sm, sm, ih (fun i hi => h i (by omega)), h n (by omega)]
theorem sm_add (n : Nat) (f g : Nat → Fq) : sm n (fun i => f i + g i) = sm n f + sm n g := by
  induction n with
  | zero => rfl
  | succ n ih => rw [sm, sm, sm, ih]; grind
theorem sm_mul (n : Nat) (a : Fq) (f : Nat → Fq) : sm n (fun i => a * f i) = a * sm n f := by
  induction n with
  | zero => simp only [sm]; grind
  | succ n ih => rw [sm, sm, ih]; grind
theorem sm_mul_r (n : Nat) (a : Fq) (f : Nat → Fq) : sm n (fun i => f i * a) = sm n f * a := by
  rw [Fin.mul_comm, ← sm_mul]; exact sm_congr fun i _ => Fin.mul_comm _ _
theorem sm_zero {n : Nat} {f : Nat → Fq} (h : ∀ i, i < n → f i = 0) : sm n f = 0 := by
  induction n with
  | zero => rfl
  | succ n ih => rw [sm, ih (fun i hi => h i (by omega)), h n (by omega)]; rfl
theorem sm_one {n k : Nat} {f : Nat → Fq} (hk : k < n) (h : ∀ i, i < n → i ≠ k → f i = 0) : sm n f = f k := by
  induction n with
  | zero => omega
  | succ n ih =>
    rw [sm]
    by_cases e : k = n
    · subst e; rw [sm_zero (fun i hi => h i (by omega) (by omega))]; simp
    · rw [ih (by omega) (fun i hi => h i (by omega)), h n (by omega) (by omega)]; simp
theorem sm_shift (n : Nat) (f : Nat → Fq) : sm (n + 1) f = f 0 + sm n (fun i => f (i + 1)) := by
  induction n with
  | zero => simp [sm]
  | succ n ih => rw [sm, ih, sm]; grind

def natq (k : Nat) : Fq := cq k
theorem natq_add (a b : Nat) : natq (a + b) = natq a + natq b := by unfold natq; rw [← cq_add]; rfl
theorem natq_zero {k : Nat} (h : 1073741789 ∣ k) : natq k = 0 := by unfold natq; rw [cq_zero]; omega
theorem natq_1 : natq 1 = 1 := cq_1
theorem pow_0 (a : Fq) : a ^ 0 = 1 := by grind
theorem pow_s (a : Fq) (n : Nat) : a ^ (n + 1) = a ^ n * a := by grind
theorem pow_sum (a : Fq) : ∀ n, (a + 1) ^ n = sm (n + 1) (fun k => natq (chooseN n k) * a ^ k)
  | 0 => by show (a + 1) ^ 0 = 0 + natq (chooseN 0 0) * a ^ 0; rw [choose_0, natq_1, pow_0, pow_0]; rfl
  | n + 1 => by
    rw [pow_s, pow_sum a n, sm_shift (n + 1)]
    have e1 : sm (n + 1) (fun i => natq (chooseN (n + 1) (i + 1)) * a ^ (i + 1)) = sm (n + 1) (fun i => natq (chooseN n i) * a ^ i) * a + sm (n + 1) (fun i => natq (chooseN n (i + 1)) * a ^ (i + 1)) := by
      rw [← sm_mul_r, ← sm_add]
      refine sm_congr fun i _ => ?_
      rw [show chooseN (n + 1) (i + 1) = chooseN n i + chooseN n (i + 1) from rfl, natq_add, pow_s]; grind
    have e2 : sm (n + 1) (fun k => natq (chooseN n k) * a ^ k) = natq (chooseN n 0) * a ^ 0 + sm (n + 1) (fun i => natq (chooseN n (i + 1)) * a ^ (i + 1)) := by
      rw [sm_shift]
      congr 1
      show _ = sm n _ + natq (chooseN n (n + 1)) * a ^ (n + 1)
      rw [choose_gt n (n + 1) (by omega), natq_zero ⟨0, rfl⟩]; grind
    rw [e1, choose_0]
    rw [choose_0] at e2
    grind
theorem pow_mid (a : Fq) (n : Nat) (h : ∀ i, i < n → natq (chooseN (n + 1) (i + 1)) = 0) : (a + 1) ^ (n + 1) = a ^ (n + 1) + 1 := by
  rw [pow_sum a (n + 1)]
  show sm (n + 1) _ + natq (chooseN (n + 1) (n + 1)) * a ^ (n + 1) = _
  rw [choose_self, natq_1, sm_shift n, choose_0, natq_1, sm_zero]
  · rw [pow_0]; grind
  · intro i hi
    rw [h i hi]; grind
theorem pow_frob (a : Fq) (n : Nat) (hn : n + 1 = 1073741789) : (a + 1) ^ (n + 1) = a ^ (n + 1) + 1 :=
  pow_mid a n fun i hi => natq_zero (by rw [hn]; exact choose_div (by omega) (by omega))
theorem pow_nat (n : Nat) (hn : n + 1 = 1073741789) : ∀ k : Nat, natq k ^ (n + 1) = natq k
  | 0 => by rw [show natq 0 = 0 from cq_0, pow_s]; grind
  | k + 1 => by rw [natq_add, natq_1, pow_frob _ n hn, pow_nat n hn k]
theorem natq_val (a : Fq) : natq a.val = a := cq_lift a
theorem fermat_of {a b c : Fq} (h : a ≠ 0) (h1 : c * a = a) (h2 : c = b * a) : b * a = 1 := by
  have h3 : a * (b * a - 1) = 0 := by rw [← h2]; grind
  rcases fq_mul_zero h3 with h4 | h4
  · exact absurd h4 h
  · generalize b * a = u at *
    grind
theorem fermat_n {a : Fq} (n : Nat) (hn : n + 1 + 1 = 1073741789) (h : a ≠ 0) : a ^ n * a = 1 := by
  have h1 := pow_nat (n + 1) hn a.val
  rw [natq_val, pow_s] at h1
  exact fermat_of h h1 (pow_s a n)
theorem cq_pow (z : Int) : ∀ n : Nat, cq (z ^ n) = cq z ^ n
  | 0 => by rw [pow_0, Int.pow_zero, cq_1]
  | n + 1 => by rw [pow_s, Int.pow_succ, cq_mul, cq_pow z n]
def powR (a : Int) (n : Nat) : Int := a ^ n % 1073741789
theorem inv_n {z : Int} (n : Nat) (hn : n + 1 + 1 = 1073741789) (h : cq z ≠ 0) : cq (powR z n) * cq z = 1 := by
  unfold powR; rw [cq_mod, cq_pow]; exact fermat_n n hn h
theorem inv_z {z : Int} (h : cq z ≠ 0) : cq (powR z 1073741787) * cq z = 1 := inv_n 1073741787 rfl h
end Go.Proofs.YtnbkbnbmmkfckaaGreat

namespace Go.Proofs.YtnbkbnbmmkfckaaGreat

abbrev FMat := Nat → Nat → Fq

/-- The product of two lists. -/
def dt (m : Nat) (u v : Nat → Fq) : Fq := sm m (fun j => u j * v j)
def Ker (n m : Nat) (X : FMat) (v : Nat → Fq) : Prop := ∀ i, i < n → dt m (X i) v = 0
def Span (n m : Nat) (X : FMat) (t : Nat → Fq) : Prop := ∃ y : Nat → Fq, ∀ j, j < m → t j = sm n (fun i => y i * X i j)
theorem dt_congr {m : Nat} {u u' v v' : Nat → Fq} (h : ∀ j, j < m → u j = u' j) (h' : ∀ j, j < m → v j = v' j) : dt m u v = dt m u' v' :=
  sm_congr fun j hj => by rw [h j hj, h' j hj]
theorem dt_add (m : Nat) (u a b : Nat → Fq) : dt m u (fun j => a j + b j) = dt m u a + dt m u b := by
  unfold dt; rw [← sm_add]; exact sm_congr fun j _ => by grind
theorem dt_mul (m : Nat) (u a : Nat → Fq) (s : Fq) : dt m u (fun j => s * a j) = s * dt m u a := by
  unfold dt; rw [← sm_mul]; exact sm_congr fun j _ => by grind
theorem dt_comm (m : Nat) (u v : Nat → Fq) : dt m u v = dt m v u := sm_congr fun _ _ => Fin.mul_comm _ _
theorem dt_add_l (m : Nat) (u a b : Nat → Fq) : dt m (fun j => a j + b j) u = dt m a u + dt m b u := by
  rw [dt_comm, dt_add, dt_comm m u a, dt_comm m u b]
theorem dt_mul_l (m : Nat) (u a : Nat → Fq) (s : Fq) : dt m (fun j => s * a j) u = s * dt m a u := by
  rw [dt_comm, dt_mul, dt_comm]
theorem span_congr {n m : Nat} {X : FMat} {t t' : Nat → Fq} (h : Span n m X t) (e : ∀ j, j < m → t' j = t j) : Span n m X t' :=
  let ⟨y, hy⟩ := h; ⟨y, fun j hj => by rw [e j hj, hy j hj]⟩
theorem span_add {n m : Nat} {X : FMat} {t u : Nat → Fq} (h : Span n m X t) (k : Span n m X u) : Span n m X (fun j => t j + u j) :=
  let ⟨y, hy⟩ := h; let ⟨z, hz⟩ := k
  ⟨fun i => y i + z i, fun j hj => by
    show t j + u j = _
    rw [hy j hj, hz j hj, ← sm_add]; exact sm_congr fun i _ => by grind⟩
theorem span_mul {n m : Nat} {X : FMat} {t : Nat → Fq} (s : Fq) (h : Span n m X t) : Span n m X (fun j => s * t j) :=
  let ⟨y, hy⟩ := h
  ⟨fun i => s * y i, fun j hj => by
    show s * t j = _
    rw [hy j hj, ← sm_mul]; exact sm_congr fun i _ => by grind⟩
theorem span_row {n m : Nat} {X : FMat} {i : Nat} (hi : i < n) : Span n m X (X i) :=
  ⟨fun k => if k = i then 1 else 0, fun j _ => by
    rw [sm_one hi (fun k _ e => by show (if k = i then (1 : Fq) else 0) * X k j = 0; rw [if_neg e]; grind)]
    show _ = (if i = i then (1 : Fq) else 0) * X i j
    rw [if_pos rfl]; grind⟩
/-! One step of a reduction. -/

/-- The state of a reduction of X0 after the first c columns: the rows X, and the pivots' columns p below r. -/
structure Red (n m : Nat) (X0 X : FMat) (r : Nat) (p : Nat → Nat) (c : Nat) : Prop where
  rn : r ≤ n
  ker : ∀ v, Ker n m X v ↔ Ker n m X0 v
  span : ∀ i, i < n → Span n m X0 (X i)
  pc : ∀ k, k < r → p k < c
  mono : ∀ k l, k < l → l < r → p k < p l
  one : ∀ k, k < r → X k (p k) = 1
  zero : ∀ k i, k < r → i < n → i ≠ k → X i (p k) = 0
  low : ∀ i j, r ≤ i → i < n → j < c → X i j = 0
  left : ∀ k j, k < r → j < p k → X k j = 0

theorem red_start (n m : Nat) (X : FMat) (p : Nat → Nat) : Red n m X X 0 p 0 :=
  ⟨Nat.zero_le _, fun _ => Iff.rfl, fun _ hi => span_row hi, fun _ h => by omega, fun _ _ _ h => by omega, fun _ h => by omega, fun _ _ h => by omega, fun _ _ _ _ h => by omega, fun _ _ h => by omega⟩

theorem red_none {n m : Nat} {X0 X : FMat} {r : Nat} {p : Nat → Nat} {c : Nat} (h : Red n m X0 X r p c) (h0 : ∀ i, r ≤ i → i < n → X i c = 0) : Red n m X0 X r p (c + 1) :=
  { h with
    pc := fun k hk => Nat.lt_succ_of_lt (h.pc k hk)
    low := fun i j h1 h2 h3 => by
      by_cases e : j = c
      · rw [e]; exact h0 i h1 h2
      · exact h.low i j h1 h2 (by omega) }

/-- The rows behind a step at the row k, by s, the inverse of its element. -/
def stepF (X : FMat) (r c k : Nat) (s : Fq) : FMat := fun i j =>
  let X' : FMat := fun i j => if i = r then X k j else if i = k then X r j else X i j
  if i = r then X k j * s else X' i j - X' i c * (X k j * s)

theorem stepF_r (X : FMat) (r c k : Nat) (s : Fq) (j : Nat) : stepF X r c k s r j = X k j * s := by unfold stepF; rw [if_pos rfl]
theorem stepF_k (X : FMat) (r c k : Nat) (s : Fq) (j : Nat) (h : k ≠ r) : stepF X r c k s k j = X r j - X r c * (X k j * s) := by
  unfold stepF; simp only [if_neg h, if_true]
theorem stepF_o (X : FMat) (r c k : Nat) (s : Fq) (i j : Nat) (h : i ≠ r) (h' : i ≠ k) : stepF X r c k s i j = X i j - X i c * (X k j * s) := by
  unfold stepF; simp only [if_neg h, if_neg h']

theorem red_step {n m : Nat} {X0 X : FMat} {r : Nat} {p : Nat → Nat} {c k : Nat} {s : Fq} (h : Red n m X0 X r p c) (hrk : r ≤ k) (hk : k < n) (hs : s * X k c = 1) (hp : p r = c) :
    Red n m X0 (stepF X r c k s) (r + 1) p (c + 1) := by
  have hrn : r < n := by omega
  have hkc : X k c * s = 1 := by rw [Fin.mul_comm]; exact hs
  refine ⟨by omega, fun v => Iff.trans ?_ (h.ker v), ?_, ?_, ?_, ?_, ?_, ?_, ?_⟩
  · have row : dt m (stepF X r c k s r) v = s * dt m (X k) v := by
      rw [dt_congr (u' := fun j => s * X k j) (fun j _ => by rw [stepF_r]; exact Fin.mul_comm _ _) (fun _ _ => rfl), dt_mul_l]
    have rowk : k ≠ r → dt m (stepF X r c k s k) v = dt m (X r) v + (- X r c) * (s * dt m (X k) v) := fun hne => by
      rw [dt_congr (u' := fun j => X r j + (- X r c) * (s * X k j)) (fun j _ => by rw [stepF_k _ _ _ _ _ _ hne]; grind) (fun _ _ => rfl), dt_add_l, dt_mul_l, dt_mul_l]
    have rowo : ∀ i, i ≠ r → i ≠ k → dt m (stepF X r c k s i) v = dt m (X i) v + (- X i c) * (s * dt m (X k) v) := fun i h1 h2 => by
      rw [dt_congr (u' := fun j => X i j + (- X i c) * (s * X k j)) (fun j _ => by rw [stepF_o _ _ _ _ _ _ _ h1 h2]; grind) (fun _ _ => rfl), dt_add_l, dt_mul_l, dt_mul_l]
    constructor
    · intro hv
      have h1 := hv r hrn
      rw [row] at h1
      have hk0 : dt m (X k) v = 0 := by
        have : X k c * (s * dt m (X k) v) = 0 := by rw [h1]; grind
        grind
      intro i hi
      by_cases e1 : i = k
      · rw [e1]; exact hk0
      · by_cases e2 : i = r
        · rw [e2]
          have := hv k hk
          rw [rowk (fun e => e1 (by rw [e2, e])), hk0] at this; grind
        · have := hv i hi
          rw [rowo i e2 e1, hk0] at this; grind
    · intro hv i hi
      by_cases e2 : i = r
      · rw [e2, row, hv k hk]; grind
      · by_cases e1 : i = k
        · rw [e1, rowk (fun e => e2 (by rw [e1, e])), hv k hk, hv r hrn]; grind
        · rw [rowo i e2 e1, hv k hk, hv i hi]; grind
  · intro i hi
    have hkS : Span n m X0 (fun j => s * X k j) := span_mul s (h.span k hk)
    by_cases e2 : i = r
    · exact span_congr hkS fun j _ => by rw [e2, stepF_r]; exact Fin.mul_comm _ _
    · by_cases e1 : i = k
      · exact span_congr (span_add (h.span r hrn) (span_mul (- X r c) hkS)) fun j _ => by rw [e1, stepF_k _ _ _ _ _ _ (fun e => e2 (by rw [e1, e]))]; grind
      · exact span_congr (span_add (h.span i hi) (span_mul (- X i c) hkS)) fun j _ => by rw [stepF_o _ _ _ _ _ _ _ e2 e1]; grind
  · intro l hl
    by_cases e : l = r
    · rw [e, hp]; omega
    · have := h.pc l (by omega); omega
  · intro l l' h1 h2
    by_cases e : l' = r
    · rw [e, hp]; exact h.pc l (by omega)
    · exact h.mono l l' h1 (by omega)
  · intro l hl
    by_cases e : l = r
    · rw [e, hp, stepF_r]; exact hkc
    · have hpl := h.pc l (by omega)
      rw [stepF_o _ _ _ _ _ _ _ e (by omega), h.one l (by omega), h.low k _ hrk hk hpl]; grind
  · intro l i hl hi hne
    by_cases e : l = r
    · rw [e, hp]
      by_cases e1 : i = k
      · rw [e1, stepF_k _ _ _ _ _ _ (fun e' => hne (by rw [e1, e', e])), hkc]; grind
      · rw [stepF_o _ _ _ _ _ _ _ (fun e' => hne (by rw [e', e])) e1, hkc]; grind
    · have hpl := h.pc l (by omega)
      by_cases e2 : i = r
      · rw [e2, stepF_r, h.low k _ hrk hk hpl]; grind
      · by_cases e1 : i = k
        · rw [e1, stepF_k _ _ _ _ _ _ (fun e => e2 (by rw [e1, e])), h.low k _ hrk hk hpl, h.low r _ (Nat.le_refl _) hrn hpl]; grind
        · rw [stepF_o _ _ _ _ _ _ _ e2 e1, h.low k _ hrk hk hpl, h.zero l i (by omega) hi hne]; grind
  · intro i j h1 h2 h3
    have e2 : i ≠ r := by omega
    by_cases ej : j = c
    · rw [ej]
      by_cases e1 : i = k
      · rw [e1, stepF_k _ _ _ _ _ _ (by omega), hkc]; grind
      · rw [stepF_o _ _ _ _ _ _ _ e2 e1, hkc]; grind
    · have hj : j < c := by omega
      by_cases e1 : i = k
      · rw [e1, stepF_k _ _ _ _ _ _ (by omega), h.low k _ hrk hk hj, h.low r _ (Nat.le_refl _) hrn hj]; grind
      · rw [stepF_o _ _ _ _ _ _ _ e2 e1, h.low k _ hrk hk hj, h.low i _ (by omega) h2 hj]; grind
  · intro l j hl hj
    by_cases e : l = r
    · subst e
      rw [stepF_r, h.low k j hrk hk (by omega)]; grind
    · have hpl := h.pc l (by omega)
      rw [stepF_o _ _ _ _ _ _ _ e (by omega), h.left l j (by omega) hj, h.low k j hrk hk (by omega)]; grind

/-! What a reduction says. -/

end Go.Proofs.YtnbkbnbmmkfckaaGreat

namespace Go.Proofs.YtnbkbnbmmkfckaaGreat

/-- How many numbers below m meet a test. -/
def cntB (b : Nat → Bool) : Nat → Nat
  | 0 => 0
  | m + 1 => cntB b m + (if b m = true then 1 else 0)
theorem cntB_congr {b b' : Nat → Bool} {m : Nat} (h : ∀ c, c < m → b c = b' c) : cntB b m = cntB b' m := by
  induction m with
  | zero => rfl
  | succ m ih => rw [cntB, cntB, ih (fun c hc => h c (by omega)), h m (by omega)]
/-- A test that tells a property. -/
def Tells (b : Nat → Bool) (P : Nat → Prop) : Prop := ∀ c, b c = true ↔ P c
theorem Tells.congr {b b' : Nat → Bool} {P : Nat → Prop} {m : Nat} (h : Tells b P) {P' : Nat → Prop} (h' : Tells b' P') (e : ∀ c, c < m → (P c ↔ P' c)) : cntB b m = cntB b' m :=
  cntB_congr fun c hc => by
    rw [Bool.eq_iff_iff, h c, h' c]; exact e c hc

/-- A least number with a property. -/
theorem least {P : Nat → Prop} {c : Nat} (h : P c) : ∃ c0, P c0 ∧ ∀ k, k < c0 → ¬ P k := by
  induction c using Nat.strongRecOn with
  | _ c ih =>
    by_cases hk : ∃ k, k < c ∧ P k
    · obtain ⟨k, hk1, hk2⟩ := hk
      exact ih k hk1 hk2
    · exact ⟨c, h, fun k hk1 hk2 => hk ⟨k, hk1, hk2⟩⟩

end Go.Proofs.YtnbkbnbmmkfckaaGreat
