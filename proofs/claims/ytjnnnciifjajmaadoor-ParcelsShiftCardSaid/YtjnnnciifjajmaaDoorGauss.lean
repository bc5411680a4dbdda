/- Gauss's lemma at P = 2147483579: the symbol by counting is the power to (P - 1) / 2. -/
import Derived.Test.YtjnnnciifjajmaaDoorFp
import Derived.Test.YtjnnnciifjajmaaDoorJac
namespace Go.Proofs.YtjnnnciifjajmaaDoor.FP

def prodP (l : List Nat) (f : Nat → Fp) : Fp := l.foldr (fun k x => f k * x) 1
theorem prodP_perm {l l' : List Nat} (h : l.Perm l') (f : Nat → Fp) : prodP l f = prodP l' f := by
  induction h with
  | nil => rfl
  | cons x _ ih => show f x * prodP _ f = f x * prodP _ f; rw [ih]
  | swap x y l => show f y * (f x * prodP l f) = f x * (f y * prodP l f); generalize prodP l f = z; grind
  | trans _ _ h1 h2 => rw [h1, h2]
theorem prodP_map (l : List Nat) (s : Nat → Nat) (f : Nat → Fp) : prodP (l.map s) f = prodP l (fun k => f (s k)) := by
  induction l with
  | nil => rfl
  | cons x l ih => show f (s x) * prodP (l.map s) f = f (s x) * prodP l _; rw [ih]
theorem prodP_congr {l : List Nat} {f g : Nat → Fp} (h : ∀ k ∈ l, f k = g k) : prodP l f = prodP l g := by
  induction l with
  | nil => rfl
  | cons x l ih => show f x * prodP l f = g x * prodP l g; rw [h x (List.mem_cons_self), ih fun k hk => h k (List.mem_cons_of_mem _ hk)]
theorem prodP_mul (l : List Nat) (f g : Nat → Fp) : prodP l (fun k => f k * g k) = prodP l f * prodP l g := by
  induction l with
  | nil => show (1 : Fp) = 1 * 1; grind
  | cons x l ih =>
    show f x * g x * prodP l _ = f x * prodP l f * (g x * prodP l g)
    rw [ih]; generalize prodP l f = z; generalize prodP l g = y; grind
theorem prodP_ne {l : List Nat} {f : Nat → Fp} (h : ∀ k ∈ l, f k ≠ 0) : prodP l f ≠ 0 := by
  induction l with
  | nil => show (1 : Fp) ≠ 0; decide
  | cons x l ih =>
    intro e
    rcases fq_mul_zero (show f x * prodP l f = 0 from e) with h1 | h1
    · exact h x (List.mem_cons_self) h1
    · exact ih (fun k hk => h k (List.mem_cons_of_mem _ hk)) h1
theorem prodP_const (h : Nat) (a : Fp) : prodP (upto h) (fun _ => a) = a ^ h := by
  have : ∀ l : List Nat, prodP l (fun _ => a) = a ^ l.length := fun l => by
    induction l with
    | nil => exact (pow_0 a).symm
    | cons x l ih => show a * prodP l _ = _; rw [ih, List.length_cons, pow_s]; grind
  rw [this]; simp [upto]
theorem prodP_sign (h : Nat) (g : Nat → Nat) : prodP (upto h) (fun k => (-1 : Fp) ^ g k) = (-1 : Fp) ^ S1 h g := by
  induction h with
  | zero => exact (pow_0 _).symm
  | succ h ih =>
    have e : prodP (upto (h + 1)) (fun k => (-1 : Fp) ^ g k) = prodP (upto h) (fun k => (-1 : Fp) ^ g k) * (-1 : Fp) ^ g (h + 1) := by
      rw [upto_succ, prodP_perm (List.perm_append_comm)]
      show (-1 : Fp) ^ g (h + 1) * prodP (upto h) _ = _
      grind
    rw [e, ih, S1_succ]
    generalize S1 h g = x; generalize g (h + 1) = y; grind

theorem natq_mul (a b : Nat) : natq (a * b) = natq a * natq b := by unfold natq; rw [← cp_mul]; rfl
theorem natq_mod (a : Nat) : natq (a % 2147483579) = natq a := by unfold natq; rw [Int.natCast_emod]; exact cp_mod a
theorem natq_ne {k : Nat} (h0 : 0 < k) (h : k < 2147483579) : natq k ≠ 0 := fun e => by
  unfold natq at e; rw [cp_zero] at e; omega

/-- Gauss's lemma. -/
theorem gauss {a h : Nat} (hh : 2 * h + 1 = 2147483579) (c : Nat.Coprime a (2 * h + 1)) : natq a ^ h = (-1 : Fp) ^ cntJ h a := by
  have e1 : prodP (upto h) (fun k => natq (a * k)) = prodP (upto h) (fun k => (-1 : Fp) ^ over h a k * natq (sg h a k)) := by
    refine prodP_congr fun k _ => ?_
    have h1 := natq_mod (a * k)
    have h2 : a * k % (2 * h + 1) < 2 * h + 1 := Nat.mod_lt _ (by omega)
    rw [← hh] at h1
    unfold over sg
    generalize a * k % (2 * h + 1) = r at *
    rw [← h1]
    by_cases hr : h < r
    · rw [if_pos hr, if_pos hr]
      have e : natq (2 * h + 1 - r) + natq r = 0 := by
        rw [← natq_add, Nat.sub_add_cancel (by omega), hh]; exact natq_zero ⟨1, rfl⟩
      have e2 : (-1 : Fp) ^ 1 = -1 := by rw [pow_s, pow_0]; grind
      rw [e2]; generalize natq (2 * h + 1 - r) = x at *; generalize natq r = y at *; grind
    · rw [if_neg hr, if_neg hr, pow_0]; generalize natq r = y; grind
  have e2 : prodP (upto h) (fun k => natq (a * k)) = natq a ^ h * prodP (upto h) natq := by
    rw [show (fun k => natq (a * k)) = fun k => natq a * natq k from funext fun k => natq_mul a k, prodP_mul, prodP_const]
  have e3 : prodP (upto h) (fun k => natq (sg h a k)) = prodP (upto h) natq := by
    rw [← prodP_map, prodP_perm (sg_perm c).perm]
  rw [e2, prodP_mul, prodP_sign, e3] at e1
  have hne : prodP (upto h) natq ≠ 0 := prodP_ne fun k hk => by
    have := mem_upto.1 hk
    exact natq_ne (by omega) (by omega)
  generalize prodP (upto h) natq = z at *
  have e4 : (natq a ^ h - (-1 : Fp) ^ S1 h (over h a)) * z = 0 := by grind
  rcases fq_mul_zero e4 with h5 | h5
  · show natq a ^ h = (-1 : Fp) ^ S1 h (over h a)
    grind
  · exact absurd h5 hne

theorem sign_even (n : Nat) : (-1 : Fp) ^ n = if n % 2 = 0 then 1 else -1 := by
  induction n with
  | zero => exact pow_0 _
  | succ n ih =>
    rw [pow_s, ih]
    by_cases e : n % 2 = 0
    · rw [if_pos e, if_neg (by omega)]; grind
    · rw [if_neg e, if_pos (by omega)]; grind

/-- Euler's criterion, by counting. -/
theorem euler {a h : Nat} (hh : 2 * h + 1 = 2147483579) (h0 : 0 < a) (h1 : a < 2147483579) : natq a ^ h = 1 ↔ cntJ h a % 2 = 0 := by
  have c : Nat.Coprime a (2 * h + 1) := by
    rw [hh]
    exact (prime_cop (fun hd => by have := Nat.le_of_dvd h0 hd; omega)).symm
  rw [gauss hh c, sign_even]
  by_cases e : cntJ h a % 2 = 0
  · rw [if_pos e]; exact ⟨fun _ => e, fun _ => rfl⟩
  · rw [if_neg e]; exact ⟨fun x => absurd x (by decide), fun x => absurd x e⟩

end Go.Proofs.YtjnnnciifjajmaaDoor.FP
