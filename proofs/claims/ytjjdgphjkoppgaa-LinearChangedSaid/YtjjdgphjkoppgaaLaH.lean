/- Separate's proofs; and the rank, row by row. -/
import Derived.Test.YtjjdgphjkoppgaaLaG
namespace Go.Proofs.Ytjjdgphjkoppgaa

theorem sep_red {rows : List (List Int)} {t : List Int} (h : Right rows t.length) : Red rows.length t.length (fm rows) (cm (rsepM rows t).1) (rsepM rows t).2.length (pf (rsepM rows t).2) t.length :=
  redR_red (right_num h) t.length (Nat.le_refl _)

theorem cv_sepWl {x : Mat} {piv : List Nat} {m c : Nat} (hs : ∀ k l, k < l → l < piv.length → pf piv k < pf piv l) (hf : ∀ k, k < piv.length → pf piv k ≠ c) {j : Nat} (hj : j < m) : cv (sepWl x piv m c) j = freeV (cm x) piv.length (pf piv) c j := by
  unfold cv sepWl
  rw [nth_rowM hj]; exact sepW_free hs hf j

/-- What a list proves. -/
theorem proves_iff {rows : List (List Int)} {t l : List Int} (h : Right rows t.length) : provesQ rows t l = true ↔ l.length = t.length ∧ Ker rows.length t.length (fm rows) (cv l) ∧ dt t.length (cv t) (cv l) = 1 := by
  have hz : ∀ a : List Int, prodQ a l = 0 ↔ dt a.length (cv a) (cv l) = 0 := fun a => by
    rw [← cq_prodQ]
    have hn := prodF_num a l a.length
    constructor
    · intro h; rw [h]; exact cq_0
    · intro h
      rw [cq_zero] at h
      have : 0 ≤ prodQ a l ∧ prodQ a l < 1073741789 := hn
      omega
  have h1 : prodQ t l = 1 ↔ dt t.length (cv t) (cv l) = 1 := by
    rw [← cq_prodQ]
    have hn : 0 ≤ prodQ t l ∧ prodQ t l < 1073741789 := prodF_num t l t.length
    constructor
    · intro h; rw [h]; exact cq_1
    · intro h
      exact cq_inj hn (by decide) (h.trans cq_1.symm)
  unfold provesQ
  simp only [Bool.and_eq_true, decide_eq_true_eq, List.all_eq_true]
  constructor
  · rintro ⟨h2, h3, h4⟩
    refine ⟨h2, fun i hi => ?_, h1.1 h4⟩
    have h5 := (h3 _ (List.getElem_mem hi)).2
    have hl := h.len _ (List.getElem_mem hi)
    rw [hz, hl] at h5
    rw [← h5]; exact dt_congr (fun j _ => fm_row rows hi j) (fun _ _ => rfl)
  · rintro ⟨h2, h3, h4⟩
    refine ⟨h2, fun r hr => ?_, h1.2 h4⟩
    obtain ⟨i, hi, rfl⟩ := List.mem_iff_getElem.1 hr
    have hl := h.len _ (List.getElem_mem hi)
    refine ⟨by omega, ?_⟩
    rw [hz, hl, ← h3 i hi]; exact dt_congr (fun j _ => (fm_row rows hi j).symm) (fun _ _ => rfl)

/-- No column hits: the target is made. -/
theorem sep_none {rows : List (List Int)} {t : List Int} (h : Right rows t.length) (hq : rsepQ rows t = none) : Made rows t := by
  have hR := sep_red h
  have hlt : (∀ p ∈ (rsepM rows t).2, p < t.length) ∧ Sorted (rsepM rows t).2 := redR_lt _ _ _
  have hhit : ∀ c, c < t.length → rsepHit (rsepM rows t).1 (rsepM rows t).2 t c = false := fun c hc => by
    have h1 : rsepC rows t = none := by
      unfold rsepQ at hq
      cases h2 : rsepC rows t with
      | none => rfl
      | some c => rw [h2] at hq; cases hq
    have := List.find?_eq_none.1 h1 c (List.mem_range.2 hc)
    simpa using this
  have hfree : ∀ c, c < t.length → (∀ k, k < (rsepM rows t).2.length → pf (rsepM rows t).2 k ≠ c) → cv t c = sm (rsepM rows t).2.length (fun k => cv t (pf (rsepM rows t).2 k) * cm (rsepM rows t).1 k c) := fun c hc hf => by
    have h1 := hhit c hc
    have hno : c ∉ (rsepM rows t).2 := fun hm => by
      obtain ⟨k, hk, e⟩ := mem_pf hm
      exact hf k hk e
    have h2 : prodQ (sepWl (rsepM rows t).1 (rsepM rows t).2 t.length c) t = 0 := by simpa [rsepHit, hno] using h1
    have h3 := cq_prodQ (sepWl (rsepM rows t).1 (rsepM rows t).2 t.length c) t
    rw [h2, cq_0, show (sepWl (rsepM rows t).1 (rsepM rows t).2 t.length c).length = t.length from rowM_len _ _,
      dt_congr (fun j hj => cv_sepWl (pf_mono hlt.2) hf hj) (fun _ _ => rfl), free_dt (cv t) (fun k hk => hR.pc k hk) hR.mono hc hf] at h3
    have h4 : sm (rsepM rows t).2.length (fun k => - cm (rsepM rows t).1 k c * cv t (pf (rsepM rows t).2 k)) = - sm (rsepM rows t).2.length (fun k => cv t (pf (rsepM rows t).2 k) * cm (rsepM rows t).1 k c) := by
      rw [← sm_neg]; exact sm_congr fun k _ => by grind
    rw [h4] at h3
    grind
  have hspan : Span rows.length t.length (fm rows) (fun j => sm (rsepM rows t).2.length (fun k => cv t (pf (rsepM rows t).2 k) * cm (rsepM rows t).1 k j)) :=
    span_sm fun k hk => hR.span k (Nat.lt_of_lt_of_le hk hR.rn)
  refine span_congr hspan fun j hj => ?_
  rcases pivot_dec (rsepM rows t).2.length (pf (rsepM rows t).2) j with ⟨k, hk, rfl⟩ | hno
  · rw [sm_one (k := k) hk (fun l hl hne => by
      show cv t (pf (rsepM rows t).2 l) * cm (rsepM rows t).1 l (pf (rsepM rows t).2 k) = 0
      rw [hR.zero k l hk (Nat.lt_of_lt_of_le hl hR.rn) hne]; grind)]
    show _ = cv t (pf (rsepM rows t).2 k) * cm (rsepM rows t).1 k (pf (rsepM rows t).2 k)
    rw [hR.one k hk]; grind
  · exact hfree j hj hno

/-- A column hits: the list proves that the target is not made. -/
theorem sep_some {rows : List (List Int)} {t l : List Int} (h : Right rows t.length) (hq : rsepQ rows t = some l) : provesQ rows t l = true := by
  have hR := sep_red h
  have hlt : (∀ p ∈ (rsepM rows t).2, p < t.length) ∧ Sorted (rsepM rows t).2 := redR_lt _ _ _
  unfold rsepQ at hq
  cases hr : rsepC rows t with
  | none => rw [hr] at hq; cases hq
  | some c =>
    rw [hr] at hq
    have hl : rsepL (rsepM rows t).1 (rsepM rows t).2 t c = l := by injection hq
    have hc : c < t.length := List.mem_range.1 (List.mem_of_find?_eq_some hr)
    have hh := List.find?_some hr
    have hno : c ∉ (rsepM rows t).2 := fun hm => by simp [rsepHit, hm] at hh
    have hne : prodQ (sepWl (rsepM rows t).1 (rsepM rows t).2 t.length c) t ≠ 0 := by simpa [rsepHit, hno] using hh
    have hf : ∀ k, k < (rsepM rows t).2.length → pf (rsepM rows t).2 k ≠ c := fun k hk e => hno (e ▸ pf_mem hk)
    have hlen : l.length = t.length := by
      rw [← hl]; unfold rsepL timesQ; simp [sepWl, rowM_len]
    have hs : cq (prodQ (sepWl (rsepM rows t).1 (rsepM rows t).2 t.length c) t) ≠ 0 := cq_ne (prodF_num _ _ _) hne
    have hu := cq_inv hs
    generalize hv : cq (invQ (prodQ (sepWl (rsepM rows t).1 (rsepM rows t).2 t.length c) t)) = u at hu
    have hcv : ∀ j, j < t.length → cv l j = u * freeV (cm (rsepM rows t).1) (rsepM rows t).2.length (pf (rsepM rows t).2) c j := fun j hj => by
      rw [← hl, ← hv, ← cv_sepWl (pf_mono hlt.2) hf hj]
      unfold rsepL
      rw [show sepWl (rsepM rows t).1 (rsepM rows t).2 t.length c = rowM t.length (sepW (rsepM rows t).1 (rsepM rows t).2 c (rsepM rows t).2.length) from rfl, times_rowM]
      unfold cv
      rw [nth_rowM hj, nth_rowM hj, cq_mod, cq_mul]
    rw [proves_iff h]
    have hker := freeV_ker hR (Nat.le_refl _) hc hf (fun i h1 h2 => hR.low i c h1 h2 hc)
    refine ⟨hlen, fun i hi => ?_, ?_⟩
    · rw [dt_congr (fun _ _ => rfl) hcv, dt_mul, hker i hi]; grind
    · rw [dt_congr (fun _ _ => rfl) hcv, dt_mul, dt_comm]
      have h3 := cq_prodQ (sepWl (rsepM rows t).1 (rsepM rows t).2 t.length c) t
      rw [show (sepWl (rsepM rows t).1 (rsepM rows t).2 t.length c).length = t.length from rowM_len _ _,
        dt_congr (fun j hj => cv_sepWl (pf_mono hlt.2) hf hj) (fun _ _ => rfl)] at h3
      rw [← h3]; exact hu

/-- One or the other. -/
theorem proves_not {rows : List (List Int)} {t l : List Int} (h : Right rows t.length) (hp : provesQ rows t l = true) : ¬ Made rows t := fun hm => by
  obtain ⟨_, h1, h2⟩ := (proves_iff h).1 hp
  have := span_ker hm h1
  rw [h2] at this
  exact absurd this (by decide)
theorem sep_made {rows : List (List Int)} {t : List Int} (h : Right rows t.length) : (rsepQ rows t).isSome = true ↔ ¬ Made rows t := by
  cases hq : rsepQ rows t with
  | none => exact ⟨fun h3 => (by cases h3), fun h1 => absurd (sep_none h hq) h1⟩
  | some l => exact ⟨fun _ => proves_not h (sep_some h hq), fun _ => rfl⟩

/-- What a combination makes, as lists. -/
theorem made_iff {rows : List (List Int)} {t y : List Int} (ht : ∀ z ∈ t, 0 ≤ z ∧ z < 1073741789) : madeL rows y t.length = t ↔ ∀ k, k < t.length → cv t k = sm rows.length (fun i => cv y i * fm rows i k) := by
  have hm : ∀ k n, n ≤ rows.length → cq (madeF rows y n k) = sm n (fun i => cv y i * fm rows i k) := fun k n => by
    induction n with
    | zero => intro _; exact cq_0
    | succ n ih =>
      intro hn
      show cq ((madeF rows y n k + nth y n * nth (rows[n]?.getD []) k % 1073741789) % 1073741789) = sm n _ + _
      rw [cq_mod, cq_add, cq_mod, cq_mul, ih (by omega)]; rfl
  constructor
  · intro h k hk
    have h1 : nth (madeL rows y t.length) k = nth t k := by rw [h]
    unfold madeL at h1
    rw [nth_map _ _ hk] at h1
    rw [← hm k rows.length (Nat.le_refl _), h1]; rfl
  · intro h
    apply List.ext_getElem
    · simp [madeL]
    · intro k h1 h2
      have e : (madeL rows y t.length)[k] = madeF rows y rows.length k := by simp [madeL]
      rw [e]
      refine cq_inj (madeF_num _ _ _ _) (ht _ (List.getElem_mem h2)) ?_
      rw [hm k rows.length (Nat.le_refl _), ← h k h2]
      unfold cv; rw [nth_at h2]

end Go.Proofs.Ytjjdgphjkoppgaa
