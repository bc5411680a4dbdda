/- Polynomials over the field, in plain Lean: too many roots; a polynomial with given roots. Formulas and their rows, in plain Lean: the rows of people make the target exactly if the formula holds. -/
import Derived.Test.YtohebkpgjaaljaaMLaG
namespace Go.Proofs.Ytohebkpgjaaljaa

/-- The value of a polynomial. -/
def pv (m : Nat) (a : Nat → Fq) (x : Fq) : Fq := sm m (fun j => a j * x ^ j)
theorem pv_s (m : Nat) (a : Nat → Fq) (x : Fq) : pv (m + 1) a x = pv m a x + a m * x ^ m := rfl
theorem pv_congr {m : Nat} {a b : Nat → Fq} (h : ∀ j, j < m → a j = b j) (x : Fq) : pv m a x = pv m b x := sm_congr fun j hj => by rw [h j hj]
theorem pv_zero (m : Nat) (a : Nat → Fq) : pv (m + 1) a 0 = a 0 := by
  unfold pv
  rw [sm_one (k := 0) (by omega) (fun i _ he => by
    obtain ⟨k, rfl⟩ : ∃ k, i = k + 1 := ⟨i - 1, by omega⟩
    rw [pow_s]; grind), pow_0]
  grind
theorem pow_diff (x0 : Fq) : ∀ m : Nat, ∃ c : Nat → Fq, ∀ x : Fq, x ^ (m + 1) - x0 ^ (m + 1) = (x - x0) * pv (m + 1) c x
  | 0 => ⟨fun _ => 1, fun x => by
    show x ^ (0 + 1) - x0 ^ (0 + 1) = (x - x0) * (0 + 1 * x ^ 0)
    rw [pow_s, pow_s, pow_0, pow_0]; grind⟩
  | m + 1 => by
    obtain ⟨c, hc⟩ := pow_diff x0 m
    refine ⟨fun j => if j = m + 1 then 1 else x0 * c j, fun x => ?_⟩
    rw [pv_s, if_pos rfl]
    have e : pv (m + 1) (fun j => if j = m + 1 then 1 else x0 * c j) x = x0 * pv (m + 1) c x := by
      rw [pv_congr (b := fun j => x0 * c j) (fun j hj => if_neg (by omega))]
      unfold pv
      rw [← sm_mul]
      exact sm_congr fun j _ => by grind
    rw [e]
    have h := hc x
    rw [pow_s x (m + 1), pow_s x0 (m + 1)]
    generalize x ^ (m + 1) = p at *
    generalize x0 ^ (m + 1) = q at *
    generalize pv (m + 1) c x = r at *
    grind
theorem pv_div (x0 : Fq) : ∀ (m : Nat) (a : Nat → Fq), ∃ b : Nat → Fq, ∀ x : Fq, pv (m + 1) a x - pv (m + 1) a x0 = (x - x0) * pv m b x
  | 0, a => ⟨fun _ => 0, fun x => by
    show (0 + a 0 * x ^ 0) - (0 + a 0 * x0 ^ 0) = (x - x0) * 0
    rw [pow_0, pow_0]; grind⟩
  | m + 1, a => by
    obtain ⟨b, hb⟩ := pv_div x0 m a
    obtain ⟨c, hc⟩ := pow_diff x0 m
    refine ⟨fun j => (if j < m then b j else 0) + a (m + 1) * c j, fun x => ?_⟩
    rw [pv_s (m + 1) a x, pv_s (m + 1) a x0]
    have e : pv (m + 1) (fun j => (if j < m then b j else 0) + a (m + 1) * c j) x = pv m b x + a (m + 1) * pv (m + 1) c x := by
      unfold pv
      rw [← sm_mul, show (fun j => ((if j < m then b j else 0) + a (m + 1) * c j) * x ^ j) = fun j => (if j < m then b j * x ^ j else 0) + a (m + 1) * (c j * x ^ j) from funext fun j => by
        by_cases hj : j < m
        · rw [if_pos hj, if_pos hj]; grind
        · rw [if_neg hj, if_neg hj]; grind, sm_add, sm_cut (n := m + 1) (i := m) (by omega)]
    rw [e]
    have h1 := hb x
    have h2 := hc x
    generalize x ^ (m + 1) = p at *
    generalize x0 ^ (m + 1) = q at *
    generalize pv (m + 1) c x = r at *
    generalize pv m b x = s at *
    generalize pv (m + 1) a x = t at *
    generalize pv (m + 1) a x0 = u at *
    grind

/-- A polynomial with as many roots as it has coefficients is 0 everywhere. -/
theorem pv_roots : ∀ (m : Nat) (a : Nat → Fq) (l : List Fq), l.Nodup → l.length = m → (∀ x ∈ l, pv m a x = 0) → ∀ x, pv m a x = 0
  | 0, _, _, _, _, _, _ => rfl
  | m + 1, a, [], _, hl, _, _ => by cases hl
  | m + 1, a, x0 :: l, hn, hl, h, x => by
    obtain ⟨b, hb⟩ := pv_div x0 m a
    obtain ⟨h1, h2⟩ := List.nodup_cons.1 hn
    have h0 := h x0 (by simp)
    have hz := pv_roots m b l h2 (by simpa using hl) (fun y hy => by
      have h3 := hb y
      rw [h y (by simp [hy]), h0] at h3
      have hne : y - x0 ≠ 0 := fun e => h1 (by
        have : y = x0 := by grind
        exact this ▸ hy)
      rcases fq_mul_zero (a := y - x0) (b := pv m b y) (by rw [← h3]; grind) with h4 | h4
      · exact absurd h4 hne
      · exact h4) x
    have h3 := hb x
    rw [h0, hz] at h3
    grind

/-- A polynomial with given roots, none of them 0, and a given value at 0. -/
theorem pv_make (e : Fq) : ∀ (l : List Fq), (∀ x ∈ l, x ≠ 0) → ∃ a : Nat → Fq, a 0 = e ∧ ∀ x ∈ l, pv (l.length + 1) a x = 0
  | [], _ => ⟨fun _ => e, rfl, fun x hx => by cases hx⟩
  | x0 :: l, h => by
    obtain ⟨a, h0, h1⟩ := pv_make e l (fun x hx => h x (by simp [hx]))
    obtain ⟨u, hu⟩ := linv_ex (h x0 (by simp))
    have key : ∀ x, pv (l.length + 1 + 1) (fun j => (if j < l.length + 1 then a j else 0) - (if j = 0 then 0 else u * a (j - 1))) x = pv (l.length + 1) a x * (1 - u * x) := fun x => by
      have e1 : pv (l.length + 1 + 1) (fun j => (if j < l.length + 1 then a j else 0) - (if j = 0 then 0 else u * a (j - 1))) x =
          sm (l.length + 1 + 1) (fun j => if j < l.length + 1 then a j * x ^ j else 0) + - sm (l.length + 1 + 1) (fun j => (if j = 0 then 0 else u * a (j - 1)) * x ^ j) := by
        unfold pv
        rw [← sm_neg, ← sm_add]
        refine sm_congr fun j _ => ?_
        dsimp only
        by_cases hj : j < l.length + 1
        · rw [if_pos hj, if_pos hj]; grind
        · rw [if_neg hj, if_neg hj]; grind
      have e2 : sm (l.length + 1 + 1) (fun j => (if j = 0 then 0 else u * a (j - 1)) * x ^ j) = u * x * pv (l.length + 1) a x := by
        rw [sm_shift]
        unfold pv
        rw [← sm_mul]
        have e3 : (if 0 = 0 then (0 : Fq) else u * a (0 - 1)) * x ^ 0 = 0 := by rw [if_pos rfl]; grind
        rw [e3, sm_congr (g := fun j => u * x * (a j * x ^ j)) (fun j _ => by
          rw [if_neg (by omega), Nat.add_sub_cancel, pow_s]; grind)]
        grind
      rw [e1, e2, sm_cut (n := l.length + 1 + 1) (i := l.length + 1) (by omega)]
      unfold pv
      grind
    refine ⟨fun j => (if j < l.length + 1 then a j else 0) - (if j = 0 then 0 else u * a (j - 1)), ?_, fun x hx => ?_⟩
    · show (if 0 < l.length + 1 then a 0 else 0) - (if 0 = 0 then (0 : Fq) else u * a (0 - 1)) = e
      rw [if_pos (by omega), if_pos rfl, h0]; grind
    · show pv (l.length + 1 + 1) _ x = 0
      rw [key x]
      rcases List.mem_cons.1 hx with rfl | hx
      · rw [show 1 - u * x = 0 by rw [hu]; grind]; grind
      · rw [h1 x hx]; grind
theorem pv_make_le (e : Fq) {l : List Fq} (h : ∀ x ∈ l, x ≠ 0) {m : Nat} (hm : l.length ≤ m) : ∃ a : Nat → Fq, a 0 = e ∧ ∀ x ∈ l, pv (m + 1) a x = 0 := by
  obtain ⟨a, h0, h1⟩ := pv_make e l h
  refine ⟨fun j => if j < l.length + 1 then a j else 0, by show (if 0 < l.length + 1 then a 0 else 0) = e; rw [if_pos (by omega), h0], fun x hx => ?_⟩
  have e1 : pv (m + 1) (fun j => if j < l.length + 1 then a j else 0) x = sm (m + 1) (fun j => if j < l.length + 1 then a j * x ^ j else 0) := sm_congr fun j _ => by
    dsimp only
    by_cases hj : j < l.length + 1
    · rw [if_pos hj, if_pos hj]
    · rw [if_neg hj, if_neg hj]; grind
  rw [e1, sm_cut (n := m + 1) (i := l.length + 1) (by omega)]
  exact h1 x hx

end Go.Proofs.Ytohebkpgjaaljaa

namespace Go.Proofs.Ytohebkpgjaaljaa

/-- A formula: a leaf (person, at least 0), or a gate. -/
inductive GT where
  | mk (p n : Int) (l : List GT)

mutual
/-- Does a formula hold for people? -/
def holdsG (who : List Int) : GT → Bool
  | .mk p n l => if 0 ≤ p then decide (p ∈ who) else decide (n ≤ (cntG who l : Int))
def cntG (who : List Int) : List GT → Nat
  | [] => 0
  | x :: t => (if holdsG who x = true then 1 else 0) + cntG who t
end
def powL (x m : Nat) : List Int := (List.range m).map fun j => (x : Int) ^ (j + 1) % 1073741789
mutual
/-- The rows of a formula that has got a vector, with their owners, and the columns then. -/
def genR : GT → List Int → Nat → List (List Int × Int) × Nat
  | .mk p n l, v, c => if 0 ≤ p then ([(v, p)], c) else genL l 0 (v ++ List.replicate (c - v.length) 0) (n - 1).toNat (c + (n - 1).toNat)
def genL : List GT → Nat → List Int → Nat → Nat → List (List Int × Int) × Nat
  | [], _, _, _, c => ([], c)
  | x :: t, i, b, m, c => ((genR x (b ++ powL (i + 1) m) c).1 ++ (genL t (i + 1) b m (genR x (b ++ powL (i + 1) m) c).2).1, (genL t (i + 1) b m (genR x (b ++ powL (i + 1) m) c).2).2)
end
mutual
/-- Each gate wants somebody, and has not too many elements. -/
def fitG : GT → Bool
  | .mk p n l => if 0 ≤ p then true else decide (1 ≤ n) && (decide (l.length ≤ 1000000) && fitL l)
def fitL : List GT → Bool
  | [] => true
  | x :: t => fitG x && fitL t
end
theorem powL_len (x m : Nat) : (powL x m).length = m := by simp [powL]

theorem nth_app_lt {a b : List Int} {j : Nat} (h : j < a.length) : nth (a ++ b) j = nth a j := by
  unfold nth; rw [List.getElem?_append_left h]
theorem nth_rep {a : List Int} {k j : Nat} : nth (a ++ List.replicate k 0) j = nth a j := by
  by_cases h : j < a.length
  · exact nth_app_lt h
  · rw [nth_out h]
    unfold nth
    rw [List.getElem?_append_right (by omega), List.getElem?_replicate]
    split <;> rfl

mutual
theorem gen_cols : ∀ (g : GT) (v : List Int) (c : Nat), c ≤ (genR g v c).2
  | .mk p n l, v, c => by
    unfold genR
    split
    · exact Nat.le_refl _
    · exact Nat.le_trans (by omega) (genL_cols l 0 _ _ _)
theorem genL_cols : ∀ (l : List GT) (i : Nat) (b : List Int) (m c : Nat), c ≤ (genL l i b m c).2
  | [], _, _, _, c => by unfold genL; exact Nat.le_refl _
  | x :: t, i, b, m, c => by
    unfold genL
    exact Nat.le_trans (gen_cols x _ c) (genL_cols t _ _ _ _)
end
mutual
/-- A row begins with the vector, and is not longer than there are columns. -/
theorem gen_row : ∀ (g : GT) (v : List Int) (c : Nat), v.length ≤ c → ∀ r ∈ (genR g v c).1, r.1.length ≤ (genR g v c).2 ∧ ∀ j, j < c → nth r.1 j = nth v j
  | .mk p n l, v, c, hv, r, hr => by
    unfold genR at hr ⊢
    split at hr
    · rename_i h0
      rw [if_pos h0]
      rw [List.mem_singleton.1 hr]
      exact ⟨hv, fun _ _ => rfl⟩
    · rename_i h0
      rw [if_neg h0]
      have hl : (v ++ List.replicate (c - v.length) 0).length = c := by simp; omega
      obtain ⟨h1, h2⟩ := genL_row l 0 _ _ _ c hl (by omega) r hr
      exact ⟨h1, fun j hj => by rw [h2 j hj, nth_rep]⟩
theorem genL_row : ∀ (l : List GT) (i : Nat) (b : List Int) (m c c0 : Nat), b.length = c0 → c0 + m ≤ c → ∀ r ∈ (genL l i b m c).1, r.1.length ≤ (genL l i b m c).2 ∧ ∀ j, j < c0 → nth r.1 j = nth b j
  | [], _, _, _, _, _, _, _, r, hr => by unfold genL at hr; cases hr
  | x :: t, i, b, m, c, c0, hb, hc, r, hr => by
    unfold genL at hr ⊢
    have hw : (b ++ powL (i + 1) m).length ≤ c := by rw [List.length_append, powL_len]; omega
    have hg := gen_cols x (b ++ powL (i + 1) m) c
    rcases List.mem_append.1 hr with hr | hr
    · obtain ⟨h1, h2⟩ := gen_row x _ c hw r hr
      exact ⟨Nat.le_trans h1 (genL_cols t _ _ _ _), fun j hj => by rw [h2 j (by omega), nth_app_lt (by omega)]⟩
    · exact genL_row t (i + 1) b m _ c0 hb (by omega) r hr
end

/-- The value of a functional. -/
def ev (M : Nat) (φ : Nat → Fq) (v : List Int) : Fq := sm M (fun j => φ j * cv v j)
theorem cv_out {v : List Int} {j : Nat} (h : v.length ≤ j) : cv v j = 0 := by
  unfold cv; rw [nth_out (by omega)]; exact cq_0
theorem ev_congr {M : Nat} {φ ψ : Nat → Fq} {v w : List Int} (h : ∀ j, j < M → φ j * cv v j = ψ j * cv w j) : ev M φ v = ev M ψ w := sm_congr h
theorem sm_split (a b : Nat) (f : Nat → Fq) : sm (a + b) f = sm a f + sm b (fun j => f (a + j)) := by
  induction b with
  | zero => simp only [sm, Nat.add_zero]; grind
  | succ b ih => rw [← Nat.add_assoc, sm, ih, sm]; grind
theorem ev_pow {M m c0 : Nat} {φ : Nat → Fq} {b : List Int} (x : Nat) (hb : b.length = c0) (hM : c0 + m ≤ M) : ev M φ (b ++ powL x m) = ev M φ b + sm m (fun j => φ (c0 + j) * natq x ^ (j + 1)) := by
  obtain ⟨k, rfl⟩ : ∃ k, M = c0 + m + k := ⟨M - (c0 + m), by omega⟩
  unfold ev
  rw [sm_split (c0 + m) k, sm_split c0 m, sm_split (c0 + m) k (fun j => φ j * cv b j), sm_split c0 m (fun j => φ j * cv b j)]
  have e1 : sm c0 (fun j => φ j * cv (b ++ powL x m) j) = sm c0 (fun j => φ j * cv b j) := sm_congr fun j hj => by
    unfold cv; rw [nth_app_lt (by omega)]
  have e2 : sm m (fun j => φ (c0 + j) * cv (b ++ powL x m) (c0 + j)) = sm m (fun j => φ (c0 + j) * natq x ^ (j + 1)) := sm_congr fun j hj => by
    have e : nth (b ++ powL x m) (c0 + j) = (x : Int) ^ (j + 1) % 1073741789 := by
      unfold nth
      rw [List.getElem?_append_right (by omega), hb, Nat.add_sub_cancel_left]
      unfold powL
      simp [hj]
    show φ (c0 + j) * cq (nth (b ++ powL x m) (c0 + j)) = _
    rw [e, cq_mod, cq_pow]; rfl
  have e3 : sm k (fun j => φ (c0 + m + j) * cv (b ++ powL x m) (c0 + m + j)) = 0 := sm_zero fun j _ => by
    rw [cv_out (by rw [List.length_append, powL_len]; omega)]; grind
  have e4 : sm m (fun j => φ (c0 + j) * cv b (c0 + j)) = 0 := sm_zero fun j _ => by rw [cv_out (by omega)]; grind
  have e5 : sm k (fun j => φ (c0 + m + j) * cv b (c0 + m + j)) = 0 := sm_zero fun j _ => by rw [cv_out (by omega)]; grind
  rw [e1, e2, e3, e4, e5]
  grind
theorem ev_rep {M : Nat} {φ : Nat → Fq} {v : List Int} {k : Nat} : ev M φ (v ++ List.replicate k 0) = ev M φ v := ev_congr fun j _ => by unfold cv; rw [nth_rep]
/-- The polynomial of a gate. -/
def gp (e : Fq) (φ : Nat → Fq) (c0 : Nat) : Nat → Fq := fun j => if j = 0 then e else φ (c0 + (j - 1))
theorem gp_val (e : Fq) (φ : Nat → Fq) (c0 m : Nat) (x : Fq) : pv (m + 1) (gp e φ c0) x = e + sm m (fun j => φ (c0 + j) * x ^ (j + 1)) := by
  unfold pv
  rw [sm_shift]
  have e0 : gp e φ c0 0 * x ^ 0 = e := by unfold gp; rw [if_pos rfl, pow_0]; grind
  rw [e0, sm_congr (g := fun j => φ (c0 + j) * x ^ (j + 1)) (fun j _ => by unfold gp; rw [if_neg (by omega), Nat.add_sub_cancel])]
theorem natq_inj {a b : Nat} (ha : a < 1073741789) (hb : b < 1073741789) (h : natq a = natq b) : a = b := by
  have := cq_inj (a := (a : Int)) (b := (b : Int)) (by omega) (by omega) h
  omega
theorem natq_ne {a : Nat} (h0 : 0 < a) (ha : a < 1073741789) : natq a ≠ 0 := fun h => by
  have := natq_inj ha (by omega) (h.trans (show (0 : Fq) = natq 0 from cq_0.symm))
  omega

/-- The points of the elements that hold. -/
def ptsG (who : List Int) : List GT → Nat → List Nat
  | [], _ => []
  | x :: t, i => (if holdsG who x = true then [i + 1] else []) ++ ptsG who t (i + 1)
theorem pts_len (who : List Int) : ∀ (l : List GT) (i : Nat), (ptsG who l i).length = cntG who l
  | [], _ => by unfold ptsG cntG; rfl
  | x :: t, i => by
    unfold ptsG cntG
    rw [List.length_append, pts_len who t (i + 1)]
    split <;> rfl
theorem pts_mem (who : List Int) : ∀ (l : List GT) (i q : Nat), q ∈ ptsG who l i → ∃ k, ∃ h : k < l.length, q = i + k + 1 ∧ holdsG who l[k] = true
  | [], _, _, h => by unfold ptsG at h; cases h
  | x :: t, i, q, h => by
    unfold ptsG at h
    rcases List.mem_append.1 h with h | h
    · split at h
      · rename_i hx
        exact ⟨0, by simp, by simpa using h, hx⟩
      · cases h
    · obtain ⟨k, hk, e, h2⟩ := pts_mem who t (i + 1) q h
      exact ⟨k + 1, by simpa using hk, by omega, by simpa using h2⟩
theorem pts_sorted (who : List Int) : ∀ (l : List GT) (i : Nat), (ptsG who l i).Pairwise (· < ·) ∧ ∀ q ∈ ptsG who l i, i < q
  | [], _ => by unfold ptsG; exact ⟨List.Pairwise.nil, by simp⟩
  | x :: t, i => by
    obtain ⟨h1, h2⟩ := pts_sorted who t (i + 1)
    unfold ptsG
    split
    · refine ⟨List.pairwise_cons.2 ⟨fun q hq => h2 q hq, h1⟩, fun q hq => ?_⟩
      rcases List.mem_append.1 hq with hq | hq
      · have : q = i + 1 := by simpa using hq
        omega
      · have := h2 q hq; omega
    · rw [List.nil_append]
      exact ⟨h1, fun q hq => by have := h2 q hq; omega⟩
theorem pts_nodup {l : List Nat} (h : l.Pairwise (· < ·)) (hb : ∀ q ∈ l, q < 1073741789) : (l.map natq).Nodup := by
  induction l with
  | nil => exact List.nodup_nil
  | cons a t ih =>
    obtain ⟨h1, h2⟩ := List.pairwise_cons.1 h
    rw [List.map_cons, List.nodup_cons]
    refine ⟨fun hm => ?_, ih h2 (fun q hq => hb q (by simp [hq]))⟩
    obtain ⟨q, hq, e⟩ := List.mem_map.1 hm
    have := natq_inj (hb q (by simp [hq])) (hb a (by simp)) e
    have := h1 q hq
    omega

mutual
/-- A functional that kills the rows of people kills the vector of a formula that holds for them. -/
theorem kill_holds (who : List Int) (M : Nat) (φ : Nat → Fq) : ∀ (g : GT) (v : List Int) (c : Nat), fitG g = true → v.length ≤ c → (genR g v c).2 ≤ M → holdsG who g = true → (∀ r ∈ (genR g v c).1, r.2 ∈ who → ev M φ r.1 = 0) → ev M φ v = 0
  | .mk p n l, v, c, hf, hv, hM, hh, hk => by
    unfold genR at hM hk
    unfold holdsG at hh
    unfold fitG at hf
    by_cases h0 : 0 ≤ p
    · rw [if_pos h0] at hk hh
      exact hk (v, p) (by simp) (by simpa using hh)
    · rw [if_neg h0] at hk hh hM hf
      simp only [Bool.and_eq_true, decide_eq_true_eq] at hf hh
      obtain ⟨hn, hl, hfl⟩ := hf
      have hb : (v ++ List.replicate (c - v.length) 0).length = c := by simp; omega
      have hcM : c + (n - 1).toNat ≤ M := Nat.le_trans (genL_cols l 0 _ _ _) hM
      have hp := kill_list who M φ l 0 _ (n - 1).toNat (c + (n - 1).toNat) c hfl hb (Nat.le_refl _) hM hk
      have hroot : ∀ x ∈ (ptsG who l 0).map natq, pv ((n - 1).toNat + 1) (gp (ev M φ v) φ c) x = 0 := fun x hx => by
        obtain ⟨q, hq, rfl⟩ := List.mem_map.1 hx
        obtain ⟨k, hkl, e, hk2⟩ := pts_mem who l 0 q hq
        have h1 := hp k hkl hk2
        rw [ev_pow _ hb hcM, ev_rep] at h1
        rw [gp_val, e]
        exact h1
      have hnd : ((ptsG who l 0).map natq).Nodup := pts_nodup (pts_sorted who l 0).1 (fun q hq => by
        obtain ⟨k, hkl, e, -⟩ := pts_mem who l 0 q hq
        omega)
      have hlen : (n - 1).toNat + 1 ≤ ((ptsG who l 0).map natq).length := by rw [List.length_map, pts_len]; omega
      have hz := pv_roots ((n - 1).toNat + 1) (gp (ev M φ v) φ c) (((ptsG who l 0).map natq).take ((n - 1).toNat + 1)) (hnd.sublist (List.take_sublist _ _)) (by rw [List.length_take]; omega) (fun x hx => hroot x (List.mem_of_mem_take hx)) 0
      rw [pv_zero] at hz
      exact hz
theorem kill_list (who : List Int) (M : Nat) (φ : Nat → Fq) : ∀ (l : List GT) (i : Nat) (b : List Int) (m c c0 : Nat), fitL l = true → b.length = c0 → c0 + m ≤ c → (genL l i b m c).2 ≤ M → (∀ r ∈ (genL l i b m c).1, r.2 ∈ who → ev M φ r.1 = 0) → ∀ k (h : k < l.length), holdsG who l[k] = true → ev M φ (b ++ powL (i + k + 1) m) = 0
  | [], _, _, _, _, _, _, _, _, _, _, k, h, _ => absurd h (Nat.not_lt_zero _)
  | x :: t, i, b, m, c, c0, hf, hb, hc, hM, hk, k, h, hh => by
    unfold genL at hM hk
    unfold fitL at hf
    simp only [Bool.and_eq_true] at hf
    have hw : (b ++ powL (i + 1) m).length ≤ c := by rw [List.length_append, powL_len]; omega
    have hg := gen_cols x (b ++ powL (i + 1) m) c
    cases k with
    | zero =>
      rw [Nat.add_zero]
      exact kill_holds who M φ x _ c hf.1 hw (Nat.le_trans (genL_cols t _ _ _ _) hM) (by simpa using hh) (fun r hr => hk r (List.mem_append.2 (.inl hr)))
    | succ k =>
      have := kill_list who M φ t (i + 1) b m _ c0 hf.2 hb (by omega) hM (fun r hr => hk r (List.mem_append.2 (.inr hr))) k (by simpa using h) (by simpa using hh)
      rw [show i + (k + 1) + 1 = i + 1 + k + 1 by omega]
      exact this
end

mutual
/-- If a formula does not hold for people, every functional on the columns that there are goes on to one that kills their rows. -/
theorem ext_not (who : List Int) (M : Nat) : ∀ (g : GT) (v : List Int) (c : Nat) (φ : Nat → Fq), fitG g = true → v.length ≤ c → (genR g v c).2 ≤ M → holdsG who g = false →
    ∃ ψ : Nat → Fq, (∀ j, j < c ∨ (genR g v c).2 ≤ j → ψ j = φ j) ∧ ∀ r ∈ (genR g v c).1, r.2 ∈ who → ev M ψ r.1 = 0
  | .mk p n l, v, c, φ, hf, hv, hM, hh => by
    unfold genR at hM ⊢
    unfold holdsG at hh
    unfold fitG at hf
    by_cases h0 : 0 ≤ p
    · rw [if_pos h0] at hh ⊢
      refine ⟨φ, fun _ _ => rfl, fun r hr hm => ?_⟩
      rw [List.mem_singleton.1 hr] at hm
      exact absurd hm (by simpa using hh)
    · rw [if_neg h0] at hh hM hf ⊢
      simp only [Bool.and_eq_true, decide_eq_true_eq] at hf
      have hh2 := of_decide_eq_false hh
      obtain ⟨hn, hl, hfl⟩ := hf
      have hb : (v ++ List.replicate (c - v.length) 0).length = c := by simp; omega
      have hcM : c + (n - 1).toNat ≤ M := Nat.le_trans (genL_cols l 0 _ _ _) hM
      obtain ⟨a, ha0, har⟩ := pv_make_le (ev M φ v) (l := (ptsG who l 0).map natq) (fun x hx => by
        obtain ⟨q, hq, rfl⟩ := List.mem_map.1 hx
        obtain ⟨k, hkl, e, -⟩ := pts_mem who l 0 q hq
        exact natq_ne (by omega) (by omega)) (m := (n - 1).toNat) (by rw [List.length_map, pts_len]; omega)
      obtain ⟨χ, hχ⟩ : ∃ χ : Nat → Fq, χ = fun j => if j < c then φ j else if j < c + (n - 1).toNat then a (j - c + 1) else φ j := ⟨_, rfl⟩
      have hev : ev M χ v = ev M φ v := ev_congr fun j _ => by
        by_cases hj : j < c
        · rw [hχ]; dsimp only; rw [if_pos hj]
        · rw [cv_out (by omega)]; grind
      have hpa : ∀ k (h : k < l.length), holdsG who l[k] = true → ev M χ ((v ++ List.replicate (c - v.length) 0) ++ powL (0 + k + 1) (n - 1).toNat) = 0 := fun k hk hkk => by
        rw [ev_pow _ hb hcM, ev_rep, hev]
        have hmem : 0 + k + 1 ∈ ptsG who l 0 := by
          clear hh hh2 hcM hM ha0 har hχ hev hb hfl hl
          have key : ∀ (l : List GT) (i k : Nat) (h : k < l.length), holdsG who l[k] = true → i + k + 1 ∈ ptsG who l i := by
            intro l
            induction l with
            | nil => intro i k h _; cases h
            | cons x t ih =>
              intro i k h hx
              unfold ptsG
              cases k with
              | zero => rw [if_pos (by simpa using hx)]; simp
              | succ k =>
                have := ih (i + 1) k (by simpa using h) (by simpa using hx)
                rw [show i + (k + 1) + 1 = i + 1 + k + 1 by omega]
                exact List.mem_append.2 (.inr this)
          exact key l 0 k hk hkk
        have h1 := har _ (List.mem_map.2 ⟨_, hmem, rfl⟩)
        rw [pv_congr (b := gp (ev M φ v) χ c) (fun j hj => by
          unfold gp
          by_cases e : j = 0
          · rw [if_pos e, e, ha0]
          · rw [if_neg e, hχ]
            dsimp only
            rw [if_neg (by omega), if_pos (by omega)]
            congr 1; omega), gp_val] at h1
        exact h1
      obtain ⟨ψ, h1, h2⟩ := ext_list who M l 0 _ (n - 1).toNat (c + (n - 1).toNat) c χ hfl hb (Nat.le_refl _) hM hpa
      refine ⟨ψ, fun j hj => ?_, h2⟩
      have hge := genL_cols l 0 (v ++ List.replicate (c - v.length) 0) (n - 1).toNat (c + (n - 1).toNat)
      rcases hj with hj | hj
      · rw [h1 j (.inl (by omega)), hχ]; dsimp only; rw [if_pos hj]
      · rw [h1 j (.inr hj), hχ]; dsimp only; rw [if_neg (by omega), if_neg (by omega)]
theorem ext_list (who : List Int) (M : Nat) : ∀ (l : List GT) (i : Nat) (b : List Int) (m c c0 : Nat) (φ : Nat → Fq), fitL l = true → b.length = c0 → c0 + m ≤ c → (genL l i b m c).2 ≤ M →
    (∀ k (h : k < l.length), holdsG who l[k] = true → ev M φ (b ++ powL (i + k + 1) m) = 0) →
    ∃ ψ : Nat → Fq, (∀ j, j < c ∨ (genL l i b m c).2 ≤ j → ψ j = φ j) ∧ ∀ r ∈ (genL l i b m c).1, r.2 ∈ who → ev M ψ r.1 = 0
  | [], i, b, m, c, c0, φ, _, _, _, _, _ => by
    unfold genL
    exact ⟨φ, fun _ _ => rfl, fun r hr => by cases hr⟩
  | x :: t, i, b, m, c, c0, φ, hf, hb, hc, hM, hk => by
    unfold genL at hM ⊢
    unfold fitL at hf
    simp only [Bool.and_eq_true] at hf
    dsimp only at hM ⊢
    have hw : (b ++ powL (i + 1) m).length ≤ c := by rw [List.length_append, powL_len]; omega
    have hg := gen_cols x (b ++ powL (i + 1) m) c
    have hgt := genL_cols t (i + 1) b m (genR x (b ++ powL (i + 1) m) c).2
    have step : ∃ χ : Nat → Fq, (∀ j, j < c ∨ (genR x (b ++ powL (i + 1) m) c).2 ≤ j → χ j = φ j) ∧ ∀ r ∈ (genR x (b ++ powL (i + 1) m) c).1, r.2 ∈ who → ev M χ r.1 = 0 := by
      cases hx : holdsG who x with
      | false => exact ext_not who M x _ c φ hf.1 hw (by omega) hx
      | true =>
        have h0 := hk 0 (by simp) (by simpa using hx)
        rw [Nat.add_zero] at h0
        refine ⟨fun j => if j < c ∨ (genR x (b ++ powL (i + 1) m) c).2 ≤ j then φ j else 0, fun j hj => if_pos hj, fun r hr _ => ?_⟩
        obtain ⟨h1, h2⟩ := gen_row x _ c hw r hr
        rw [← h0]
        refine ev_congr fun j _ => ?_
        by_cases hj : j < c
        · rw [if_pos (.inl hj)]
          unfold cv; rw [h2 j hj]
        · rw [cv_out (v := b ++ powL (i + 1) m) (by omega)]
          by_cases hj2 : (genR x (b ++ powL (i + 1) m) c).2 ≤ j
          · rw [cv_out (v := r.1) (by omega)]; grind
          · rw [if_neg (by omega)]; grind
    obtain ⟨χ, c1, c2⟩ := step
    have hsame : ∀ w : List Int, w.length ≤ c → ev M χ w = ev M φ w := fun w hwl => ev_congr fun j _ => by
      by_cases hj : j < c
      · rw [c1 j (.inl hj)]
      · rw [cv_out (by omega)]; grind
    obtain ⟨ψ, p1, p2⟩ := ext_list who M t (i + 1) b m _ c0 χ hf.2 hb (by omega) hM (fun k h hh => by
      rw [hsame _ (by rw [List.length_append, powL_len]; omega)]
      have := hk (k + 1) (by simpa using h) (by simpa using hh)
      rw [show i + (k + 1) + 1 = i + 1 + k + 1 by omega] at this
      exact this)
    refine ⟨ψ, fun j hj => ?_, fun r hr hm => ?_⟩
    · rcases hj with hj | hj
      · rw [p1 j (.inl (by omega)), c1 j (.inl hj)]
      · rw [p1 j (.inr hj), c1 j (.inr (by omega))]
    · rcases List.mem_append.1 hr with hr | hr
      · have h3 := (gen_row x _ c hw r hr).1
        rw [← c2 r hr hm]
        refine ev_congr fun j _ => ?_
        by_cases hj : j < (genR x (b ++ powL (i + 1) m) c).2
        · rw [p1 j (.inl hj)]
        · rw [cv_out (by omega)]; grind
      · exact p2 r hr hm
end

end Go.Proofs.Ytohebkpgjaaljaa
