/- The program and the reference compute the same. -/
import Derived.Test.YtjjdgphjkoppgaaLaC
import Derived.Test.YtjjdgphjkoppgaaLinV
namespace Go.Proofs.Ytjjdgphjkoppgaa

theorem right_num {rows : List (List Int)} {m : Nat} (h : Right rows m) : NumM rows.length m (matOf rows) := fun i j hi hj => by
  have hl := h.len _ (List.getElem_mem hi)
  rw [matOf_at hi (by omega)]; exact h.num _ (List.getElem_mem hi) _ (List.getElem_mem _)

theorem rank_same (rows : List (List Int)) : rankQ rows = rrankQ rows := by
  unfold rankQ rrankQ
  by_cases h0 : checkErr rows = 0
  · rw [if_pos h0, if_pos h0]
    unfold rankOf
    rw [(redM_redR (right_num (checkErr_ok h0)) (fun _ _ _ _ => rfl) _ (Nat.le_refl _)).1]
  · rw [if_neg h0, if_neg h0]

theorem turn_eq {rows : List (List Int)} {t : List Int} {i : Nat} (hi : i < t.length) (j : Nat) : turnMat rows t i j = matOf (eqRows rows t) i j := by
  have : (eqRows rows t)[i]? = some (colOf rows i ++ [nth t i]) := by unfold eqRows; simp [hi]
  unfold matOf
  rw [this]; rfl
theorem eq_num {rows : List (List Int)} {t : List Int} (h : Right rows t.length) (ht : ∀ z ∈ t, 0 ≤ z ∧ z < 1073741789) : NumM t.length (rows.length + 1) (matOf (eqRows rows t)) := fun i j hi hj => by
  have hi' : i < (eqRows rows t).length := by rw [eqRows_len]; exact hi
  have hl := eqRows_row _ (List.getElem_mem hi')
  rw [matOf_at hi' (by omega)]; exact eqRows_num h.len h.num ht _ (List.getElem_mem hi') _ (List.getElem_mem _)

theorem comb_same {rows : List (List Int)} {t : List Int} (h : Right rows t.length) (ht : ∀ z ∈ t, 0 ≤ z ∧ z < 1073741789) : combOk rows t = rcombOk rows t ∧ combY rows t = rcombY rows t := by
  obtain ⟨h1, h2⟩ := redM_redR (x := turnMat rows t) (eq_num h ht) (fun i j hi hj => turn_eq hi j) rows.length (by omega)
  have h1' : (combM rows t).2 = (rcombM rows t).2 := h1
  have h2' : ∀ i j, i < t.length → j < rows.length + 1 → (combM rows t).1 i j = (rcombM rows t).1 i j := h2
  have hle : (rcombM rows t).2.length ≤ t.length := redR_len _ _ _
  constructor
  · unfold combOk rcombOk okM
    rw [h1', Bool.eq_iff_iff, List.all_eq_true, List.all_eq_true]
    constructor
    · intro h3 j hj
      rw [List.mem_range] at hj
      rw [← h2' _ _ (by omega) (by omega)]; exact h3 j (List.mem_range.2 hj)
    · intro h3 j hj
      rw [List.mem_range] at hj
      rw [h2' _ _ (by omega) (by omega)]; exact h3 j (List.mem_range.2 hj)
  · unfold combY rcombY
    rw [h1']
    refine List.map_congr_left fun i _ => ?_
    have : ∀ K, K ≤ (rcombM rows t).2.length → combF (combM rows t).1 (rcombM rows t).2 rows.length K i = combF (rcombM rows t).1 (rcombM rows t).2 rows.length K i := fun K => by
      induction K with
      | zero => intro _; rfl
      | succ K ih =>
        intro hK
        unfold combF
        rw [ih (by omega), h2' K rows.length (by omega) (by omega)]
    exact this _ (Nat.le_refl _)

/-! Separate. -/
theorem sepW_at {x : Mat} {piv : List Nat} {c : Nat} (hs : ∀ k l, k < l → l < piv.length → pf piv k < pf piv l) : ∀ K, K ≤ piv.length → ∀ k, k < K → sepW x piv c K (pf piv k) = -(x k c) % 1073741789
  | 0, _, k, hk => absurd hk (Nat.not_lt_zero _)
  | K + 1, hK, k, hk => by
    show (if pf piv k = pf piv K then -(x K c) % 1073741789 else sepW x piv c K (pf piv k)) = _
    by_cases e : k = K
    · rw [if_pos (by rw [e]), e]
    · have := hs k K (by omega) (by omega)
      rw [if_neg (by omega)]; exact sepW_at hs K (by omega) k (by omega)
theorem sepW_ne {x : Mat} {piv : List Nat} {c : Nat} {j : Nat} : ∀ K, (∀ k, k < K → pf piv k ≠ j) → sepW x piv c K j = if j = c then 1 else 0
  | 0, _ => rfl
  | K + 1, h => by
    show (if j = pf piv K then -(x K c) % 1073741789 else sepW x piv c K j) = _
    rw [if_neg (fun e => h K (by omega) e.symm)]; exact sepW_ne K (fun k hk => h k (by omega))

/-- The list is the vector with 1 at a free column. -/
theorem sepW_free {x : Mat} {piv : List Nat} {c : Nat} (hs : ∀ k l, k < l → l < piv.length → pf piv k < pf piv l) (hc : ∀ k, k < piv.length → pf piv k ≠ c) (j : Nat) : cq (sepW x piv c piv.length j) = freeV (cm x) piv.length (pf piv) c j := by
  rcases pivot_dec piv.length (pf piv) j with ⟨k, hk, rfl⟩ | hno
  · rw [sepW_at hs _ (Nat.le_refl _) k hk, freeV_p hs hk (hc k hk), cq_mod, cq_neg]; rfl
  · rw [sepW_ne _ hno]
    by_cases e : j = c
    · rw [if_pos e, e, freeV_c]; exact cq_1
    · rw [if_neg e, freeV_o e hno]; exact cq_0

/-- A list, in the field. -/
def cv (l : List Int) : Nat → Fq := fun j => cq (nth l j)

theorem cq_prodF (a b : List Int) : ∀ K, cq (prodF a b K) = sm K (fun j => cv a j * cv b j)
  | 0 => cq_0
  | K + 1 => by
    show cq ((prodF a b K + nth a K * nth b K % 1073741789) % 1073741789) = sm K _ + cq (nth a K) * cq (nth b K)
    rw [cq_mod, cq_add, cq_mod, cq_mul, cq_prodF a b K]
theorem cq_prodQ (a b : List Int) : cq (prodQ a b) = dt a.length (cv a) (cv b) := cq_prodF a b a.length

theorem cq_sepP {x : Mat} {piv : List Nat} {t : List Int} {c : Nat} : ∀ K, cq (sepP x piv t c K) = cv t c + sm K (fun k => - cq (x k c) * cv t (pf piv k))
  | 0 => by
    show cq (t[c]?.getD 0) = cq (nth t c) + 0
    rw [show nth t c = t[c]?.getD 0 from rfl]; grind
  | K + 1 => by
    show cq ((sepP x piv t c K + (-(x K c) % 1073741789) * t[piv[K]?.getD 0]?.getD 0 % 1073741789) % 1073741789) = cv t c + (sm K (fun k => - cq (x k c) * cv t (pf piv k)) + - cq (x K c) * cv t (pf piv K))
    rw [cq_mod, cq_add, cq_mod, cq_mul, cq_mod, cq_neg, cq_sepP K]
    show _ + - cq (x K c) * cq (t[piv[K]?.getD 0]?.getD 0) = _
    rw [show cv t (pf piv K) = cq (t[piv[K]?.getD 0]?.getD 0) from rfl]
    grind

/-- The product of the vector with 1 at a free column. -/
theorem free_dt {X : FMat} {r m : Nat} {p : Nat → Nat} {c : Nat} (t : Nat → Fq) (hp : ∀ k, k < r → p k < m) (hmono : ∀ k l, k < l → l < r → p k < p l) (hc : c < m) (hf : ∀ k, k < r → p k ≠ c) :
    dt m (freeV X r p c) t = t c + sm r (fun k => - X k c * t (p k)) := by
  have e1 : dt m (freeV X r p c) t = sm m (fun j => if j = c then freeV X r p c j * t j else 0) + sm m (fun j => if j = c then 0 else freeV X r p c j * t j) := by
    unfold dt; rw [← sm_add]; refine sm_congr fun j _ => ?_
    by_cases e : j = c
    · rw [if_pos e, if_pos e]; grind
    · rw [if_neg e, if_neg e]; grind
  rw [e1, sm_one (k := c) hc (fun j _ e => by show (if j = c then freeV X r p c j * t j else 0) = 0; rw [if_neg e]),
    sm_pivots hp hmono (fun j hj hno => by
      show (if j = c then 0 else freeV X r p c j * t j) = 0
      by_cases e : j = c
      · rw [if_pos e]
      · rw [if_neg e, freeV_o e hno]; grind)]
  show (if c = c then freeV X r p c c * t c else 0) + sm r (fun k => if p k = c then 0 else freeV X r p c (p k) * t (p k)) = _
  rw [if_pos rfl, freeV_c]
  congr 1
  · grind
  · refine sm_congr fun k hk => ?_
    rw [if_neg (hf k hk), freeV_p hmono hk (hf k hk)]

theorem sepP_prod {x : Mat} {piv : List Nat} {t : List Int} {c : Nat} (hp : ∀ k, k < piv.length → pf piv k < t.length) (hs : ∀ k l, k < l → l < piv.length → pf piv k < pf piv l) (hc : c < t.length) (hf : ∀ k, k < piv.length → pf piv k ≠ c) (ht : ∀ z ∈ t, 0 ≤ z ∧ z < 1073741789) :
    sepP x piv t c piv.length = prodQ (sepWl x piv t.length c) t := by
  refine cq_inj (sepP_num ht _) (prodF_num _ _ _) ?_
  rw [cq_prodQ, cq_sepP]
  have hl : (sepWl x piv t.length c).length = t.length := rowM_len _ _
  rw [hl, dt_congr (u' := freeV (cm x) piv.length (pf piv) c) (v' := cv t) (fun j hj => by
    show cq (nth (rowM t.length (sepW x piv c piv.length)) j) = _
    rw [nth_rowM hj]; exact sepW_free hs hf j) (fun _ _ => rfl), free_dt (cv t) hp hs hc hf]
  rfl

end Go.Proofs.Ytjjdgphjkoppgaa
