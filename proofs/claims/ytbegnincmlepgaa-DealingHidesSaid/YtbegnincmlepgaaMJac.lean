/- Jacobi's symbol by counting (Schering): plain Lean. J(a, n), n = 2h + 1: the parity of the number of k from 1 to h with h < a k mod n. -/
namespace Go.Proofs.Ytbegnincmlepgaa

/-- The number of k < n for which f holds. -/
def cntK : Nat → (Nat → Bool) → Nat
  | 0, _ => 0
  | n + 1, f => cntK n f + (if f n = true then 1 else 0)
/-- Sums. -/
def sN : Nat → (Nat → Nat) → Nat
  | 0, _ => 0
  | n + 1, f => sN n f + f n
theorem sN_congr {n : Nat} {f g : Nat → Nat} (h : ∀ k, k < n → f k = g k) : sN n f = sN n g := by
  induction n with
  | zero => rfl
  | succ n ih => rw [sN, sN, ih fun k hk => h k (by omega), h n (by omega)]
theorem sN_add (n : Nat) (f g : Nat → Nat) : sN n (fun k => f k + g k) = sN n f + sN n g := by
  induction n with
  | zero => rfl
  | succ n ih => rw [sN, sN, sN, ih]; omega
theorem sN_mul (n c : Nat) (f : Nat → Nat) : sN n (fun k => c * f k) = c * sN n f := by
  induction n with
  | zero => rfl
  | succ n ih => rw [sN, sN, ih, Nat.mul_add]
theorem sN_const (n c : Nat) : sN n (fun _ => c) = n * c := by
  induction n with
  | zero => simp [sN]
  | succ n ih => rw [sN, ih, Nat.succ_mul]
theorem sN_swap (n m : Nat) (f : Nat → Nat → Nat) : sN n (fun i => sN m (fun j => f i j)) = sN m (fun j => sN n (fun i => f i j)) := by
  induction n with
  | zero => show 0 = sN m (fun _ => 0); rw [sN_const]; omega
  | succ n ih => rw [sN, ih, ← sN_add]; rfl
def one (b : Bool) : Nat := if b = true then 1 else 0

/-- Lists without doubles, of one length, one within the other: the same but for the order. -/
theorem perm_of_sub {l l' : List Nat} (hn : l.Nodup) (hs : ∀ x ∈ l, x ∈ l') (hl : l'.length ≤ l.length) : l.Perm l' := by
  induction l generalizing l' with
  | nil =>
    have : l' = [] := List.length_eq_zero_iff.1 (by simpa using hl)
    subst this; exact List.Perm.nil
  | cons a t ih =>
    rw [List.nodup_cons] at hn
    have ha := hs a (List.mem_cons_self)
    have hp := List.perm_cons_erase ha
    refine List.Perm.trans (List.Perm.cons a (ih (l' := l'.erase a) hn.2 (fun x hx => ?_) ?_)) hp.symm
    · have : x ≠ a := fun e => hn.1 (e ▸ hx)
      exact (List.mem_erase_of_ne this).2 (hs x (List.mem_cons_of_mem _ hx))
    · have := hp.length_eq
      simp at this hl; omega

/-- A map of 1 .. h into itself, one to one. -/
structure Perm1 (h : Nat) (s : Nat → Nat) : Prop where
  lo : ∀ k, 1 ≤ k → k ≤ h → 1 ≤ s k
  hi : ∀ k, 1 ≤ k → k ≤ h → s k ≤ h
  inj : ∀ k l, 1 ≤ k → k ≤ h → 1 ≤ l → l ≤ h → s k = s l → k = l

def upto (h : Nat) : List Nat := (List.range h).map (· + 1)
theorem mem_upto {h k : Nat} : k ∈ upto h ↔ 1 ≤ k ∧ k ≤ h := by
  unfold upto
  rw [List.mem_map]
  constructor
  · rintro ⟨j, hj, rfl⟩; have := List.mem_range.1 hj; omega
  · rintro ⟨h1, h2⟩; exact ⟨k - 1, List.mem_range.2 (by omega), by omega⟩

theorem upto_succ (h : Nat) : upto (h + 1) = upto h ++ [h + 1] := by unfold upto; rw [List.range_succ, List.map_append]; rfl
theorem upto_nodup (h : Nat) : (upto h).Nodup := by
  unfold upto List.Nodup
  rw [List.pairwise_map]
  exact List.Pairwise.imp (fun h => by omega) (List.nodup_range (n := h))
theorem Perm1.perm {h : Nat} {s : Nat → Nat} (p : Perm1 h s) : ((upto h).map s).Perm (upto h) := by
  refine perm_of_sub ?_ (fun x hx => ?_) (by simp)
  · unfold List.Nodup
    rw [List.pairwise_map]
    refine List.Pairwise.imp_of_mem (fun {a b} ha hb hne => ?_) (upto_nodup h)
    have ha := mem_upto.1 ha
    have hb := mem_upto.1 hb
    exact fun e => hne (p.inj a b ha.1 ha.2 hb.1 hb.2 e)
  · obtain ⟨k, hk, rfl⟩ := List.mem_map.1 hx
    have hk := mem_upto.1 hk
    exact mem_upto.2 ⟨p.lo k hk.1 hk.2, p.hi k hk.1 hk.2⟩

/-- Sums from 1 to h. -/
def S1 (h : Nat) (f : Nat → Nat) : Nat := sN h (fun k => f (k + 1))
theorem S1_succ (m : Nat) (f : Nat → Nat) : S1 (m + 1) f = S1 m f + f (m + 1) := rfl
theorem S1_list (h : Nat) (f : Nat → Nat) : S1 h f = ((upto h).map f).sum := by
  induction h with
  | zero => rfl
  | succ h ih =>
    rw [upto_succ, List.map_append, List.sum_append, ← ih]
    simp [S1, sN]
theorem S1_perm {h : Nat} {s : Nat → Nat} (p : Perm1 h s) (f : Nat → Nat) : S1 h (fun k => f (s k)) = S1 h f := by
  rw [S1_list, S1_list, show ((upto h).map fun k => f (s k)) = ((upto h).map s).map f by rw [List.map_map]; rfl]
  exact (p.perm.map f).sum_nat
theorem S1_congr {h : Nat} {f g : Nat → Nat} (e : ∀ k, 1 ≤ k → k ≤ h → f k = g k) : S1 h f = S1 h g := sN_congr fun k hk => e (k + 1) (by omega) (by omega)
theorem S1_add (h : Nat) (f g : Nat → Nat) : S1 h (fun k => f k + g k) = S1 h f + S1 h g := sN_add h _ _
theorem S1_mul (h c : Nat) (f : Nat → Nat) : S1 h (fun k => c * f k) = c * S1 h f := sN_mul h c _
theorem S1_const (h c : Nat) : S1 h (fun _ => c) = h * c := sN_const h c
theorem S1_swap (n m : Nat) (f : Nat → Nat → Nat) : S1 n (fun i => S1 m (fun j => f i j)) = S1 m (fun j => S1 n (fun i => f i j)) := sN_swap n m _
theorem S1_mod {h : Nat} {f g : Nat → Nat} (e : ∀ k, 1 ≤ k → k ≤ h → f k % 2 = g k % 2) : S1 h f % 2 = S1 h g % 2 := by
  unfold S1
  have e' : ∀ k, k < h → f (k + 1) % 2 = g (k + 1) % 2 := fun k hk => e (k + 1) (by omega) (by omega)
  clear e
  induction h with
  | zero => rfl
  | succ h ih =>
    have := ih fun k hk => e' k (by omega)
    have := e' h (by omega)
    simp only [sN]; omega

/-! The symbol. -/
def over (h a k : Nat) : Nat := if h < a * k % (2 * h + 1) then 1 else 0
def sg (h a k : Nat) : Nat := if h < a * k % (2 * h + 1) then 2 * h + 1 - a * k % (2 * h + 1) else a * k % (2 * h + 1)
def cntJ (h a : Nat) : Nat := S1 h (over h a)

theorem dvd_cop {a n k : Nat} (c : Nat.Coprime a n) (h : a * k % n = 0) : n ∣ k :=
  (Nat.Coprime.symm c).dvd_of_dvd_mul_left (Nat.dvd_of_mod_eq_zero h)
theorem same_cop {a n k l : Nat} (c : Nat.Coprime a n) (h : a * k % n = a * l % n) (hk : k < n) (hl : l < n) : k = l := by
  have key : ∀ k l, k < n → a * k % n = a * l % n → l ≤ k → k = l := fun k l hk h hle => by
    have h1 : (a * k - a * l) % n = 0 := Nat.sub_mod_eq_zero_of_mod_eq h
    rw [← Nat.mul_sub] at h1
    have h2 := dvd_cop c h1
    by_cases e : k - l = 0
    · omega
    · have := Nat.le_of_dvd (by omega) h2; omega
  by_cases hle : l ≤ k
  · exact key k l hk h hle
  · exact (key l k hl h.symm (by omega)).symm
theorem sg_perm {h a : Nat} (c : Nat.Coprime a (2 * h + 1)) : Perm1 h (sg h a) := by
  have hlt : ∀ k, a * k % (2 * h + 1) < 2 * h + 1 := fun k => Nat.mod_lt _ (by omega)
  have hne : ∀ k, 1 ≤ k → k ≤ h → a * k % (2 * h + 1) ≠ 0 := fun k h1 h2 e => by
    have := Nat.le_of_dvd (by omega) (dvd_cop c e); omega
  have hsum : ∀ k l, 1 ≤ k → k ≤ h → 1 ≤ l → l ≤ h → a * k % (2 * h + 1) + a * l % (2 * h + 1) ≠ 2 * h + 1 := fun k l h1 h2 h3 h4 e => by
    have e1 : a * (k + l) % (2 * h + 1) = 0 := by rw [Nat.mul_add, Nat.add_mod, e, Nat.mod_self]
    have := Nat.le_of_dvd (by omega) (dvd_cop c e1); omega
  refine ⟨fun k h1 h2 => ?_, fun k h1 h2 => ?_, fun k l h1 h2 h3 h4 e => ?_⟩
  · have := hlt k; have := hne k h1 h2; unfold sg; split <;> omega
  · have := hlt k; have := hne k h1 h2; unfold sg; split <;> omega
  · have := hlt k; have := hlt l; have := hsum k l h1 h2 h3 h4
    refine same_cop c ?_ (by omega) (by omega)
    unfold sg at e
    split at e <;> split at e <;> omega

theorem cntJ_one (h : Nat) : cntJ h 1 = 0 := by
  unfold cntJ
  rw [S1_congr (g := fun _ => 0) fun k h1 h2 => ?_, S1_const, Nat.mul_zero]
  unfold over
  rw [if_neg]; rw [Nat.one_mul, Nat.mod_eq_of_lt (by omega)]; omega
theorem cntJ_mod (h a : Nat) : cntJ h (a % (2 * h + 1)) = cntJ h a := by
  refine S1_congr fun k _ _ => ?_
  unfold over; rw [Nat.mod_mul_mod]
theorem cntJ_mul {h a b : Nat} (ca : Nat.Coprime a (2 * h + 1)) (cb : Nat.Coprime b (2 * h + 1)) : cntJ h (a * b) % 2 = (cntJ h a + cntJ h b) % 2 := by
  unfold cntJ
  rw [← S1_perm (sg_perm cb) (over h a), ← S1_add]
  refine S1_mod fun k h1 h2 => ?_
  have hb : b * k % (2 * h + 1) < 2 * h + 1 := Nat.mod_lt _ (by omega)
  have e1 : a * b * k % (2 * h + 1) = a * (b * k % (2 * h + 1)) % (2 * h + 1) := by rw [Nat.mul_assoc, Nat.mul_mod_mod]
  unfold over sg
  rw [e1]
  generalize b * k % (2 * h + 1) = r at *
  by_cases hr : h < r
  · rw [if_pos hr, if_pos hr]
    have e2 : (a * (2 * h + 1 - r) % (2 * h + 1) + a * r % (2 * h + 1)) % (2 * h + 1) = 0 := by
      rw [← Nat.add_mod, ← Nat.mul_add, Nat.sub_add_cancel (by omega), Nat.mul_mod_left]
    have h3 : a * (2 * h + 1 - r) % (2 * h + 1) < 2 * h + 1 := Nat.mod_lt _ (by omega)
    have h4 : a * r % (2 * h + 1) < 2 * h + 1 := Nat.mod_lt _ (by omega)
    have h5 : a * r % (2 * h + 1) ≠ 0 := fun e => by
      have := Nat.le_of_dvd (by omega) (dvd_cop ca e); omega
    have h6 : a * (2 * h + 1 - r) % (2 * h + 1) + a * r % (2 * h + 1) = 2 * h + 1 := by
      have h7 := Nat.dvd_of_mod_eq_zero e2
      obtain ⟨q, hq⟩ := h7
      have : q = 1 := by
        rcases Nat.lt_or_ge q 1 with h8 | h8
        · obtain rfl : q = 0 := by omega
          rw [Nat.mul_zero] at hq; omega
        · rcases Nat.lt_or_ge 1 q with h9 | h9
          · have := Nat.mul_le_mul_left (2 * h + 1) h9; omega
          · omega
      rw [this] at hq; omega
    generalize a * (2 * h + 1 - r) % (2 * h + 1) = x at *
    generalize a * r % (2 * h + 1) = y at *
    by_cases hx : h < x
    · rw [if_pos hx, if_neg (by omega)]
    · rw [if_neg hx, if_pos (by omega)]
  · rw [if_neg hr, if_neg hr]; omega

/-- The symbol of 2. -/
theorem cntJ_two (h : Nat) : cntJ h 2 = h - h / 2 := by
  have h1 : ∀ m, S1 m (fun k => if h < 2 * k then 1 else 0) = m - min m (h / 2) := fun m => by
    induction m with
    | zero => simp [S1, sN]
    | succ m ih =>
      rw [S1_succ, ih]
      by_cases e : h < 2 * (m + 1)
      · rw [if_pos e]; omega
      · rw [if_neg e]; omega
  unfold cntJ
  rw [S1_congr (g := fun k => if h < 2 * k then 1 else 0) fun k h2 h3 => ?_, h1]
  · omega
  · unfold over; rw [Nat.mod_eq_of_lt (by omega)]

/-- Gauss's second form: at an odd number, the sum of the quotients. -/
theorem cntJ_quot {h m : Nat} (c : Nat.Coprime m (2 * h + 1)) (hm : m % 2 = 1) : cntJ h m % 2 = S1 h (fun k => m * k / (2 * h + 1)) % 2 := by
  have e1 : S1 h (fun k => m * k) % 2 = (S1 h (fun k => m * k / (2 * h + 1)) + S1 h (sg h m) + cntJ h m) % 2 := by
    unfold cntJ
    rw [← S1_add, ← S1_add]
    refine S1_mod fun k _ _ => ?_
    have h1 := Nat.div_add_mod (m * k) (2 * h + 1)
    have h2 : m * k % (2 * h + 1) < 2 * h + 1 := Nat.mod_lt _ (by omega)
    have h3 : (2 * h + 1) * (m * k / (2 * h + 1)) = 2 * (h * (m * k / (2 * h + 1))) + m * k / (2 * h + 1) := by rw [Nat.add_mul, Nat.one_mul, Nat.mul_assoc]
    unfold sg over
    generalize m * k / (2 * h + 1) = q at *
    generalize m * k % (2 * h + 1) = r at *
    generalize m * k = z at *
    generalize h * q = y at *
    by_cases e : h < r
    · rw [if_pos e, if_pos e]; omega
    · rw [if_neg e, if_neg e]; omega
  have e2 : S1 h (sg h m) = S1 h (fun k => k) := S1_perm (sg_perm c) (fun k => k)
  have e3 : S1 h (fun k => m * k) % 2 = S1 h (fun k => k) % 2 := by
    rw [S1_mul, Nat.mul_mod, hm]; simp
  rw [e2] at e1
  omega

theorem quot_count {h g : Nat} {k : Nat} (hk : k ≤ h) : (2 * g + 1) * k / (2 * h + 1) = S1 g (fun l => if (2 * h + 1) * l ≤ (2 * g + 1) * k then 1 else 0) := by
  have hle : (2 * g + 1) * k / (2 * h + 1) ≤ g := by
    rw [Nat.div_le_iff_le_mul_add_pred (by omega)]
    have : (2 * g + 1) * k ≤ (2 * g + 1) * h := Nat.mul_le_mul_left _ hk
    have e1 : (2 * g + 1) * h = 2 * (g * h) + h := by rw [Nat.add_mul, Nat.one_mul, Nat.mul_assoc]
    have e2 : (2 * h + 1) * g = 2 * (g * h) + g := by rw [Nat.add_mul, Nat.one_mul, Nat.mul_assoc, Nat.mul_comm h g]
    omega
  have h1 : ∀ m, S1 m (fun l => if (2 * h + 1) * l ≤ (2 * g + 1) * k then 1 else 0) = min m ((2 * g + 1) * k / (2 * h + 1)) := fun m => by
    induction m with
    | zero => simp [S1, sN]
    | succ m ih =>
      rw [S1_succ, ih]
      have := Nat.le_div_iff_mul_le (x := m + 1) (y := (2 * g + 1) * k) (k := 2 * h + 1) (by omega)
      rw [Nat.mul_comm (m + 1)] at this
      by_cases e : (2 * h + 1) * (m + 1) ≤ (2 * g + 1) * k
      · rw [if_pos e]; have := this.2 e; omega
      · rw [if_neg e]; have : ¬ m + 1 ≤ (2 * g + 1) * k / (2 * h + 1) := fun x => e (this.1 x); omega
  rw [h1]; omega

/-- Quadratic reciprocity. -/
theorem cntJ_recip {h g : Nat} (c : Nat.Coprime (2 * g + 1) (2 * h + 1)) : (cntJ h (2 * g + 1) + cntJ g (2 * h + 1)) % 2 = h * g % 2 := by
  have e1 := cntJ_quot c (by omega)
  have e2 := cntJ_quot c.symm (by omega)
  have e3 : S1 h (fun k => (2 * g + 1) * k / (2 * h + 1)) + S1 g (fun l => (2 * h + 1) * l / (2 * g + 1)) = h * g := by
    rw [S1_congr (h := h) (fun k _ hk => quot_count hk), S1_congr (h := g) (fun l _ hl => quot_count hl), S1_swap g h, ← S1_add,
      S1_congr (g := fun _ => g) fun k hk1 hk2 => ?_, S1_const]
    rw [← S1_add, S1_congr (g := fun _ => 1) fun l hl1 hl2 => ?_, S1_const, Nat.mul_one]
    have hne : (2 * h + 1) * l ≠ (2 * g + 1) * k := fun e => by
      have : (2 * h + 1) ∣ k := c.symm.dvd_of_dvd_mul_left ⟨l, e.symm⟩
      have := Nat.le_of_dvd (by omega) this; omega
    generalize (2 * h + 1) * l = x at *
    generalize (2 * g + 1) * k = y at *
    by_cases e : x ≤ y
    · rw [if_pos e, if_neg (by omega)]
    · rw [if_neg e, if_pos (by omega)]
  omega

end Go.Proofs.Ytbegnincmlepgaa
