/- The program's Separate and the reference's compute the same. -/
import Derived.Test.YtjjdgphjkoppgaaLaD
namespace Go.Proofs.Ytjjdgphjkoppgaa

theorem sepW_congr {x y : Mat} {piv : List Nat} {c : Nat} : ∀ K, (∀ k, k < K → x k c = y k c) → sepW x piv c K = sepW y piv c K
  | 0, _ => rfl
  | K + 1, h => by
    show (fun i => if i = piv[K]?.getD 0 then -(x K c) % 1073741789 else sepW x piv c K i) = fun i => if i = piv[K]?.getD 0 then -(y K c) % 1073741789 else sepW y piv c K i
    rw [h K (by omega), sepW_congr K (fun k hk => h k (by omega))]
theorem sepP_congr {x y : Mat} {piv : List Nat} {t : List Int} {c : Nat} : ∀ K, (∀ k, k < K → x k c = y k c) → sepP x piv t c K = sepP y piv t c K
  | 0, _ => rfl
  | K + 1, h => by
    show (sepP x piv t c K + (-(x K c) % 1073741789) * t[piv[K]?.getD 0]?.getD 0 % 1073741789) % 1073741789 = (sepP y piv t c K + (-(y K c) % 1073741789) * t[piv[K]?.getD 0]?.getD 0 % 1073741789) % 1073741789
    rw [h K (by omega), sepP_congr K (fun k hk => h k (by omega))]

theorem pf_mem {piv : List Nat} {k : Nat} (hk : k < piv.length) : pf piv k ∈ piv := by
  unfold pf; rw [List.getElem?_eq_getElem hk]; exact List.getElem_mem hk
theorem mem_pf {piv : List Nat} {c : Nat} (h : c ∈ piv) : ∃ k, k < piv.length ∧ pf piv k = c := by
  obtain ⟨k, hk, rfl⟩ := List.mem_iff_getElem.1 h
  exact ⟨k, hk, by unfold pf; rw [List.getElem?_eq_getElem hk]; rfl⟩
theorem pf_mono {piv : List Nat} (h : Sorted piv) : ∀ k l, k < l → l < piv.length → pf piv k < pf piv l := fun k l h1 h2 => by
  unfold pf; rw [List.getElem?_eq_getElem (by omega), List.getElem?_eq_getElem h2]; exact h k l (by omega) h2 h1

theorem find_congr {p q : Nat → Bool} : ∀ (l : List Nat), (∀ c ∈ l, p c = q c) → l.find? p = l.find? q
  | [], _ => rfl
  | c :: l, h => by
    simp only [List.find?]
    rw [h c (by simp), find_congr l (fun d hd => h d (by simp [hd]))]

theorem sep_same {rows : List (List Int)} {t : List Int} (h : Right rows t.length) (ht : ∀ z ∈ t, 0 ≤ z ∧ z < 1073741789) : sepQ rows t = rsepQ rows t := by
  obtain ⟨h1, h2⟩ := redM_redR (x := matOf rows) (right_num h) (fun i j hi hj => rfl) t.length (Nat.le_refl _)
  have h1' : (sepM rows t).2 = (rsepM rows t).2 := h1
  have h2' : ∀ i j, i < rows.length → j < t.length → (sepM rows t).1 i j = (rsepM rows t).1 i j := h2
  have hle : (rsepM rows t).2.length ≤ rows.length := redR_len _ _ _
  have hlt : (∀ p ∈ (rsepM rows t).2, p < t.length) ∧ Sorted (rsepM rows t).2 := redR_lt _ _ _
  have hP : ∀ c, c < t.length → sepP (sepM rows t).1 (rsepM rows t).2 t c (rsepM rows t).2.length = sepP (rsepM rows t).1 (rsepM rows t).2 t c (rsepM rows t).2.length := fun c hc =>
    sepP_congr _ fun k hk => h2' k c (by omega) hc
  have hW : ∀ c, c < t.length → sepW (sepM rows t).1 (rsepM rows t).2 c (rsepM rows t).2.length = sepW (rsepM rows t).1 (rsepM rows t).2 c (rsepM rows t).2.length := fun c hc =>
    sepW_congr _ fun k hk => h2' k c (by omega) hc
  have hPP : ∀ c, c < t.length → c ∉ (rsepM rows t).2 → sepP (rsepM rows t).1 (rsepM rows t).2 t c (rsepM rows t).2.length = prodQ (sepWl (rsepM rows t).1 (rsepM rows t).2 t.length c) t := fun c hc hno =>
    sepP_prod (fun k hk => hlt.1 _ (pf_mem hk)) (pf_mono hlt.2) hc (fun k hk e => hno (e ▸ pf_mem hk)) ht
  have hhit : ∀ c, c < t.length → sepHit (sepM rows t).1 (sepM rows t).2 t c = rsepHit (rsepM rows t).1 (rsepM rows t).2 t c := fun c hc => by
    unfold sepHit rsepHit
    rw [h1', hP c hc]
    by_cases hm : c ∈ (rsepM rows t).2
    · simp [hm]
    · rw [hPP c hc hm]
      have hn : 0 ≤ prodQ (sepWl (rsepM rows t).1 (rsepM rows t).2 t.length c) t ∧ prodQ (sepWl (rsepM rows t).1 (rsepM rows t).2 t.length c) t < 1073741789 := prodF_num _ _ _
      rw [Int.emod_eq_of_lt hn.1 hn.2]
  have hC : sepC rows t = rsepC rows t := find_congr _ fun c hc => hhit c (List.mem_range.1 hc)
  unfold sepQ rsepQ
  rw [hC]
  cases hr : rsepC rows t with
  | none => rfl
  | some c =>
    have hc : c < t.length := List.mem_range.1 (List.mem_of_find?_eq_some hr)
    have hno : c ∉ (rsepM rows t).2 := fun hm => by
      have := List.find?_some hr
      simp [rsepHit, hm] at this
    show some (sepL (sepM rows t).1 (sepM rows t).2 t c) = some (rsepL (rsepM rows t).1 (rsepM rows t).2 t c)
    congr 1
    unfold sepL rsepL
    rw [h1', hP c hc, hPP c hc hno, hW c hc]
    generalize invQ (prodQ (sepWl (rsepM rows t).1 (rsepM rows t).2 t.length c) t) = v
    unfold sepWl
    rw [times_rowM]
    unfold rowM
    exact List.map_congr_left fun i _ => by rw [Int.mul_comm]

/-- What the program's Combine and Separate return, in the reference's words. -/
theorem comb_err {rows : List (List Int)} {t : List Int} : (decide (examErr rows t = 0) && combOk rows t) = (decide (examErr rows t = 0) && rcombOk rows t) ∧ (if examErr rows t = 0 ∧ combOk rows t = true then combY rows t else []) = (if examErr rows t = 0 ∧ rcombOk rows t = true then rcombY rows t else []) := by
  by_cases h0 : examErr rows t = 0
  · obtain ⟨h1, h2, h3⟩ := examErr_ok_iff h0
    obtain ⟨h4, h5⟩ := comb_same h1 h2
    rw [h4, h5]; exact ⟨rfl, rfl⟩
  · rw [decide_eq_false h0, if_neg (fun h => h0 h.1), if_neg (fun h => h0 h.1)]; exact ⟨rfl, rfl⟩
theorem sep_err {rows : List (List Int)} {t : List Int} : (decide (examErr rows t = 0) && (sepQ rows t).isSome) = (decide (examErr rows t = 0) && (rsepQ rows t).isSome) ∧ (if examErr rows t = 0 then (sepQ rows t).getD [] else []) = (if examErr rows t = 0 then (rsepQ rows t).getD [] else []) := by
  by_cases h0 : examErr rows t = 0
  · obtain ⟨h1, h2, h3⟩ := examErr_ok_iff h0
    rw [sep_same h1 h2]; exact ⟨rfl, rfl⟩
  · rw [decide_eq_false h0, if_neg h0, if_neg h0]; exact ⟨rfl, rfl⟩

end Go.Proofs.Ytjjdgphjkoppgaa
