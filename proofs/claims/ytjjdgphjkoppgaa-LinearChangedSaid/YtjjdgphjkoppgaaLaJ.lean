/- What LinearSums and LinearChanged say, without a program: combinations of sums; rows that are changed. -/
import Derived.Test.YtjjdgphjkoppgaaGive
import Derived.Test.YtjjdgphjkoppgaaLaI
namespace Go.Proofs.Ytjjdgphjkoppgaa

/-- What makes 0, and is 0 at each row that the earlier ones make, is 0. -/
theorem comb_unique {n m : Nat} {X : FMat} {d : Nat → Fq} (hk : ∀ k, k < m → sm n (fun i => d i * X i k) = 0) (h0 : ∀ i, i < n → Span i m X (X i) → d i = 0) : ∀ i, i < n → d i = 0 := by
  intro i hi
  refine Classical.byContradiction fun hne => ?_
  have hker : Ker m n (fun k i => X i k) d := fun k hk' => by
    rw [← hk k hk']; exact sm_congr fun i _ => Fin.mul_comm _ _
  obtain ⟨c, s, hc, hs, e, hz⟩ := lead_of (sub_ker m n (fun k i => X i k)) n d hker ⟨i, hi, hne⟩
  obtain ⟨u, hu⟩ := inv_ex hs
  have hl : Lead n (Ker m n (fun k i => X i k)) c := ⟨fun j => u * d j, ker_mul u hker, by show u * d c = 1; rw [e]; exact hu, fun j h1 h2 => by show u * d j = 0; rw [hz j h1 h2]; grind⟩
  have := h0 c hc ((lead_span (X := X) (fun _ _ _ _ => rfl) hc).1 hl)
  rw [e] at this
  exact hs this

theorem rcombY_num {rows : List (List Int)} {t : List Int} (h : Right rows t.length) (ht : ∀ z ∈ t, 0 ≤ z ∧ z < 1073741789) {k : Nat} (hk : k < rows.length) : 0 ≤ nth (rcombY rows t) k ∧ nth (rcombY rows t) k < 1073741789 := by
  have hn : NumM t.length (rows.length + 1) (rcombM rows t).1 := redR_num (eq_num h ht) _
  have hR := comb_red h ht
  unfold rcombY
  rw [nth_map _ _ hk]
  exact combF_num (m := (rcombM rows t).2.length) (fun k hk => hn k rows.length (Nat.lt_of_lt_of_le hk hR.rn) (by omega)) _ (Nat.le_refl _) _

/-- The combination of a sum. -/
theorem sums_law {rows : List (List Int)} {a b s : List Int} {n : Int} (h : Right rows a.length) (hbl : b.length = a.length) (hsl : s.length = a.length) (ha : ∀ z ∈ a, 0 ≤ z ∧ z < 1073741789) (hb : ∀ z ∈ b, 0 ≤ z ∧ z < 1073741789) (hs : ∀ z ∈ s, 0 ≤ z ∧ z < 1073741789)
    (hv : ∀ j, j < a.length → cv s j = cv a j + cq n * cv b j) (oa : rcombOk rows a = true) (ob : rcombOk rows b = true) :
    rcombOk rows s = true ∧ ∀ k, k < rows.length → nth (rcombY rows s) k = (nth (rcombY rows a) k + n * nth (rcombY rows b) k % 1073741789) % 1073741789 := by
  have h2 : Right rows b.length := by rw [hbl]; exact h
  have h3 : Right rows s.length := by rw [hsl]; exact h
  have hma := (comb_span h ha).1 oa
  have hmb := (comb_span h2 hb).1 ob
  have hms : Made rows s := by
    have h4 : Span rows.length a.length (fm rows) (cv b) := by unfold Made at hmb; rw [hbl] at hmb; exact hmb
    unfold Made
    rw [hsl]
    exact span_congr (span_add hma (span_mul (cq n) h4)) hv
  have os := (comb_span h3 hs).2 hms
  refine ⟨os, fun k hk => ?_⟩
  have ea := comb_makes h ha oa
  have eb := comb_makes h2 hb ob
  have es := comb_makes h3 hs os
  rw [hbl] at eb
  rw [hsl] at es
  have hz := comb_unique (n := rows.length) (m := a.length) (X := fm rows) (d := fun i => cv (rcombY rows s) i + (-1) * (cv (rcombY rows a) i + cq n * cv (rcombY rows b) i)) (fun k hk => by
      rw [show (fun i => (cv (rcombY rows s) i + (-1) * (cv (rcombY rows a) i + cq n * cv (rcombY rows b) i)) * fm rows i k) = fun i => cv (rcombY rows s) i * fm rows i k + (-1) * (cv (rcombY rows a) i * fm rows i k + cq n * (cv (rcombY rows b) i * fm rows i k)) from funext fun i => by grind,
        sm_add, sm_mul, sm_add, sm_mul, ← es k hk, ← ea k hk, ← eb k hk, hv k hk]
      grind) (fun i hi hd => by
      have z1 := comb_zero h ha hi hd
      have z2 := comb_zero h2 hb hi (by rw [hbl]; exact hd)
      have z3 := comb_zero h3 hs hi (by rw [hsl]; exact hd)
      show cq _ + (-1) * (cq _ + cq n * cq _) = 0
      rw [z1, z2, z3, cq_0]; grind) k hk
  refine cq_inj (rcombY_num h3 hs hk) (mod_num _) ?_
  rw [cq_mod, cq_add, cq_mod, cq_mul]
  have e1 : cq (nth (rcombY rows s) k) + (-1) * (cq (nth (rcombY rows a) k) + cq n * cq (nth (rcombY rows b) k)) = 0 := hz
  grind

/-- A target is made exactly if it is 0 wherever the rows are. -/
theorem made_ker {rows : List (List Int)} {t : List Int} (h : Right rows t.length) : Made rows t ↔ ∀ v, Ker rows.length t.length (fm rows) v → dt t.length (cv t) v = 0 := by
  constructor
  · intro hm v hv; exact span_ker hm hv
  · intro hv
    cases hq : rsepQ rows t with
    | none => exact sep_none h hq
    | some l =>
      obtain ⟨_, h1, h2⟩ := (proves_iff h).1 (sep_some h hq)
      rw [hv _ h1] at h2
      exact absurd h2 (by decide)

theorem fm_set (rows : List (List Int)) (r : List Int) {i k : Nat} (hi : i < rows.length) (j : Nat) : fm (rows.set i r) k j = if k = i then cv r j else fm rows k j := by
  show cq (((rows.set i r)[k]?.getD [])[j]?.getD 0) = _
  rw [List.getElem?_set]
  by_cases e : i = k
  · subst e; rw [if_pos rfl, if_pos rfl, if_pos hi]; rfl
  · rw [if_neg e, if_neg (fun x => e x.symm)]; rfl

/-- Rows of which one is changed so that it can be changed back: as they were. -/
theorem changed_ker {rows : List (List Int)} {r : List Int} {m i k : Nat} {n : Fq} (hi : i < rows.length) (hk : k < rows.length)
    (h : (i ≠ k ∧ ∀ j, j < m → cv r j = fm rows i j + n * fm rows k j) ∨ (n ≠ 0 ∧ ∀ j, j < m → cv r j = n * fm rows i j) ∨ (∀ j, j < m → cv r j = fm rows i j)) (v : Nat → Fq) :
    Ker rows.length m (fm rows) v ↔ Ker (rows.set i r).length m (fm (rows.set i r)) v := by
  rw [List.length_set]
  have hq : ∀ q, q < rows.length → q ≠ i → dt m (fm (rows.set i r) q) v = dt m (fm rows q) v := fun q _ hne => dt_congr (fun j _ => by rw [fm_set rows r hi, if_neg hne]) (fun _ _ => rfl)
  have hat : dt m (fm (rows.set i r) i) v = dt m (cv r) v := dt_congr (fun j _ => by rw [fm_set rows r hi, if_pos rfl]) (fun _ _ => rfl)
  have key : (∀ q, q < rows.length → q ≠ i → dt m (fm rows q) v = 0) → (dt m (fm rows i) v = 0 ↔ dt m (cv r) v = 0) := fun ho => by
    rcases h with ⟨hne, h⟩ | ⟨hn, h⟩ | h
    · have e : dt m (cv r) v = dt m (fm rows i) v + n * dt m (fm rows k) v := by
        rw [dt_congr h (fun _ _ => rfl), dt_add_l, dt_mul_l]
      rw [e, ho k hk (fun x => hne x.symm)]
      constructor
      · intro h; rw [h]; grind
      · intro h; grind
    · have e : dt m (cv r) v = n * dt m (fm rows i) v := by rw [dt_congr h (fun _ _ => rfl), dt_mul_l]
      rw [e]
      obtain ⟨u, hu⟩ := inv_ex hn
      constructor
      · intro h; rw [h]; grind
      · intro h
        have : u * (n * dt m (fm rows i) v) = 0 := by rw [h]; grind
        grind
    · rw [dt_congr h (fun _ _ => rfl)]
  constructor
  · intro hv q hq1
    by_cases e : q = i
    · subst e
      rw [hat]; exact (key (fun q h1 _ => hv q h1)).1 (hv q hq1)
    · rw [hq q hq1 e]; exact hv q hq1
  · intro hv q hq1
    have ho : ∀ q, q < rows.length → q ≠ i → dt m (fm rows q) v = 0 := fun q h1 h2 => by rw [← hq q h1 h2]; exact hv q h1
    by_cases e : q = i
    · subst e
      exact (key ho).2 (by rw [← hat]; exact hv q hq1)
    · exact ho q hq1 e

end Go.Proofs.Ytjjdgphjkoppgaa
