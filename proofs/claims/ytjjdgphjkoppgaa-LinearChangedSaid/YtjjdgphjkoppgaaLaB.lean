/- Ranks: how many columns do not lead a vector of a kernel. -/
import Derived.Test.YtjjdgphjkoppgaaLaA
namespace Go.Proofs.Ytjjdgphjkoppgaa

/-- How many numbers below m meet a test. -/
def cntB (b : Nat → Bool) : Nat → Nat
  | 0 => 0
  | m + 1 => cntB b m + (if b m = true then 1 else 0)
theorem cntB_congr {b b' : Nat → Bool} {m : Nat} (h : ∀ c, c < m → b c = b' c) : cntB b m = cntB b' m := by
  induction m with
  | zero => rfl
  | succ m ih => rw [cntB, cntB, ih (fun c hc => h c (by omega)), h m (by omega)]
theorem cntB_le (b : Nat → Bool) (m : Nat) : cntB b m ≤ m := by
  induction m with
  | zero => exact Nat.le_refl _
  | succ m ih => rw [cntB]; split <;> omega
theorem cntB_one {b b' : Nat → Bool} {m c0 : Nat} (hc : c0 < m) (h0 : b c0 = false) (h1 : b' c0 = true) (h : ∀ c, c < m → c ≠ c0 → b' c = b c) : cntB b' m = cntB b m + 1 := by
  induction m with
  | zero => omega
  | succ m ih =>
    rw [cntB, cntB]
    by_cases e : c0 = m
    · subst e
      rw [cntB_congr (fun c hc => h c (by omega) (by omega)), h0, h1]; simp
    · rw [ih (by omega) (fun c hc hne => h c (by omega) hne), h m (by omega) (by omega)]; omega

/-- A test that tells a property. -/
def Tells (b : Nat → Bool) (P : Nat → Prop) : Prop := ∀ c, b c = true ↔ P c
theorem tells_ex (P : Nat → Prop) : ∃ b, Tells b P := by
  classical
  exact ⟨fun c => decide (P c), fun c => by simp⟩
theorem Tells.congr {b b' : Nat → Bool} {P : Nat → Prop} {m : Nat} (h : Tells b P) {P' : Nat → Prop} (h' : Tells b' P') (e : ∀ c, c < m → (P c ↔ P' c)) : cntB b m = cntB b' m :=
  cntB_congr fun c hc => by
    rw [Bool.eq_iff_iff, h c, h' c]; exact e c hc

/-- A least number with a property. -/
theorem least {P : Nat → Prop} {c : Nat} (h : P c) : ∃ c0, P c0 ∧ ∀ k, k < c0 → ¬ P k := by
  induction c using Nat.strongRecOn with
  | _ c ih =>
    by_cases hk : ∃ k, k < c ∧ P k
    · obtain ⟨k, hk1, hk2⟩ := hk
      exact ih k hk1 hk2
    · exact ⟨c, h, fun k hk1 hk2 => hk ⟨k, hk1, hk2⟩⟩

/-- A set of vectors that is closed under sums and multiples. -/
structure Sub (V : (Nat → Fq) → Prop) : Prop where
  add : ∀ u v, V u → V v → V (fun j => u j + v j)
  mul : ∀ s u, V u → V (fun j => s * u j)
theorem sub_ker (n m : Nat) (X : FMat) : Sub (Ker n m X) := ⟨fun _ _ hu hv => ker_add hu hv, fun s _ hu => ker_mul s hu⟩

/-- Every vector that is not 0 below m has a leading column. -/
theorem lead_of {V : (Nat → Fq) → Prop} (hV : Sub V) : ∀ (m : Nat) (v : Nat → Fq), V v → (∃ j, j < m ∧ v j ≠ 0) → ∃ c s, c < m ∧ s ≠ 0 ∧ v c = s ∧ ∀ j, c < j → j < m → v j = 0
  | 0, v, _, ⟨j, hj, _⟩ => absurd hj (Nat.not_lt_zero _)
  | m + 1, v, hv, ⟨j, hj, hne⟩ => by
    by_cases hm : v m = 0
    · obtain ⟨c, s, h1, h2, h3, h4⟩ := lead_of hV m v hv ⟨j, by
        by_cases e : j = m
        · rw [e] at hne; exact absurd hm hne
        · omega, hne⟩
      refine ⟨c, s, by omega, h2, h3, fun k hk1 hk2 => ?_⟩
      by_cases e : k = m
      · rw [e]; exact hm
      · exact h4 k hk1 (by omega)
    · exact ⟨m, v m, by omega, hm, rfl, fun k h1 h2 => by omega⟩

theorem inv_ex {s : Fq} (h : s ≠ 0) : ∃ u, u * s = 1 := ⟨s ^ 1073741787, fermat_n 1073741787 rfl h⟩

theorem dt_ne {m : Nat} {t v : Nat → Fq} (h : dt m t v ≠ 0) : ∃ j, j < m ∧ v j ≠ 0 := by
  by_cases hj : ∃ j, j < m ∧ v j ≠ 0
  · exact hj
  · exact absurd (sm_zero fun j hjm => by
      have : v j = 0 := by
        by_cases e : v j = 0
        · exact e
        · exact absurd ⟨j, hjm, e⟩ hj
      rw [this]; grind) h

/-- One equation more, that not all vectors meet: exactly one column leads no longer. -/
theorem hyper {m : Nat} {V : (Nat → Fq) → Prop} (hV : Sub V) (t : Nat → Fq) (hw : ∃ w, V w ∧ dt m t w ≠ 0) :
    ∃ c0, c0 < m ∧ Lead m V c0 ∧ ∀ c, c < m → (Lead m (fun v => V v ∧ dt m t v = 0) c ↔ Lead m V c ∧ c ≠ c0) := by
  -- a leading column of a vector that the equation does not hold for
  have base : ∀ w, V w → dt m t w ≠ 0 → ∃ c v, c < m ∧ V v ∧ v c = 1 ∧ (∀ j, c < j → j < m → v j = 0) ∧ dt m t v ≠ 0 := fun w hw hne => by
    obtain ⟨c, s, h1, h2, h3, h4⟩ := lead_of hV m w hw (dt_ne hne)
    obtain ⟨u, hu⟩ := inv_ex h2
    refine ⟨c, fun j => u * w j, h1, hV.mul u w hw, by show u * w c = 1; rw [h3]; exact hu, fun j h5 h6 => by show u * w j = 0; rw [h4 j h5 h6]; grind, ?_⟩
    rw [dt_mul]
    intro h0
    rcases fq_mul_zero h0 with h7 | h7
    · rw [h7] at hu
      have : (0 : Fq) = 1 := by rw [← hu]; grind
      exact absurd this (by decide)
    · exact hne h7
  obtain ⟨w, hwV, hwt⟩ := hw
  obtain ⟨c1, v1, hc1, hv1, hv1c, hv1z, hv1t⟩ := base w hwV hwt
  obtain ⟨c0, ⟨hc0, v0, hv0, hv0c, hv0z, hv0t⟩, hmin⟩ := least (P := fun c => c < m ∧ ∃ v, V v ∧ v c = 1 ∧ (∀ j, c < j → j < m → v j = 0) ∧ dt m t v ≠ 0) ⟨hc1, v1, hv1, hv1c, hv1z, hv1t⟩
  refine ⟨c0, hc0, ⟨v0, hv0, hv0c, hv0z⟩, fun c hc => ⟨?_, ?_⟩⟩
  · rintro ⟨v, ⟨hv, hvt⟩, hvc, hvz⟩
    refine ⟨⟨v, hv, hvc, hvz⟩, fun e => ?_⟩
    subst e
    -- the difference leads earlier
    have hd : V (fun j => v0 j + (-1) * v j) := hV.add _ _ hv0 (hV.mul (-1) v hv)
    have hdt : dt m t (fun j => v0 j + (-1) * v j) ≠ 0 := by rw [dt_add, dt_mul, hvt]; intro h; apply hv0t; grind
    obtain ⟨c2, s, h1, h2, h3, h4⟩ := lead_of hV m _ hd (dt_ne hdt)
    have hlt : c2 < c := by
      by_cases h5 : c2 < c
      · exact h5
      · exfalso
        apply h2
        rw [← h3]
        show v0 c2 + (-1) * v c2 = 0
        by_cases h6 : c2 = c
        · rw [h6, hv0c, hvc]; decide
        · rw [hv0z c2 (by omega) h1, hvz c2 (by omega) h1]; decide
    obtain ⟨u, hu⟩ := inv_ex h2
    refine hmin c2 hlt ⟨h1, fun j => u * (v0 j + (-1) * v j), hV.mul u _ hd, by show u * (v0 c2 + (-1) * v c2) = 1; rw [show v0 c2 + (-1) * v c2 = s from h3]; exact hu, fun j h5 h6 => ?_, ?_⟩
    · show u * (v0 j + (-1) * v j) = 0
      rw [show v0 j + (-1) * v j = 0 from h4 j h5 h6]; grind
    · rw [dt_mul]
      intro h0
      rcases fq_mul_zero h0 with h7 | h7
      · rw [h7] at hu
        have : (0 : Fq) = 1 := by rw [← hu]; grind
        exact absurd this (by decide)
      · exact hdt h7
  · rintro ⟨⟨v, hv, hvc, hvz⟩, hne⟩
    by_cases hvt : dt m t v = 0
    · exact ⟨v, ⟨hv, hvt⟩, hvc, hvz⟩
    · have hgt : c0 < c := by
        by_cases h : c < c0
        · exact absurd ⟨hc, v, hv, hvc, hvz, hvt⟩ (hmin c h)
        · omega
      obtain ⟨u, hu⟩ := inv_ex hv0t
      refine ⟨fun j => v j + (-(dt m t v * u)) * v0 j, ⟨hV.add _ _ hv (hV.mul _ _ hv0), ?_⟩, ?_, fun j h1 h2 => ?_⟩
      · rw [dt_add, dt_mul]
        generalize dt m t v = a at *
        generalize dt m t v0 = b at *
        grind
      · show v c + (-(dt m t v * u)) * v0 c = 1
        rw [hvc, hv0z c hgt hc]; grind
      · show v j + (-(dt m t v * u)) * v0 j = 0
        rw [hvz j h1 h2, hv0z j (by omega) h2]; grind

end Go.Proofs.Ytjjdgphjkoppgaa
