/- What Combine and Separate say: a target is made of rows exactly if no list proves that it is not. -/
import Derived.Test.YtjjdgphjkoppgaaLaE
import Derived.Test.YtjjdgphjkoppgaaLinX
namespace Go.Proofs.Ytjjdgphjkoppgaa

theorem sm_neg (n : Nat) (f : Nat → Fq) : sm n (fun j => - f j) = - sm n f := by
  induction n with
  | zero => simp only [sm]; grind
  | succ n ih => rw [sm, sm, ih]; grind
theorem sm_cut {n i : Nat} (h : i ≤ n) (f : Nat → Fq) : sm n (fun j => if j < i then f j else 0) = sm i f := by
  induction n with
  | zero => obtain rfl : i = 0 := by omega
            rfl
  | succ n ih =>
    by_cases e : i = n + 1
    · rw [e]; exact sm_congr fun j hj => if_pos hj
    · rw [sm, ih (by omega), if_neg (by omega)]; grind

/-- Rows, in the field. -/
def fm (rows : List (List Int)) : FMat := cm (matOf rows)
theorem fm_row (rows : List (List Int)) {i : Nat} (hi : i < rows.length) (j : Nat) : fm rows i j = cv rows[i] j := by
  show cq (((rows[i]?).getD [])[j]?.getD 0) = cq (rows[i][j]?.getD 0)
  rw [List.getElem?_eq_getElem hi]; rfl

theorem eq_left (rows : List (List Int)) (t : List Int) {k i : Nat} (hk : k < t.length) (hi : i < rows.length) : cm (matOf (eqRows rows t)) k i = fm rows i k := by
  show cq (matOf (eqRows rows t) k i) = _
  rw [← turn_eq hk]
  show cq ((colOf rows k ++ [nth t k])[i]?.getD 0) = _
  rw [List.getElem?_append_left (by simpa [colOf] using hi)]
  unfold colOf
  rw [List.getElem?_map, List.getElem?_eq_getElem hi, fm_row rows hi]; rfl
theorem eq_right (rows : List (List Int)) (t : List Int) {k : Nat} (hk : k < t.length) : cm (matOf (eqRows rows t)) k rows.length = cv t k := by
  show cq (matOf (eqRows rows t) k rows.length) = _
  rw [← turn_eq hk]
  show cq ((colOf rows k ++ [nth t k])[rows.length]?.getD 0) = _
  rw [List.getElem?_append_right (by simp [colOf])]
  simp [colOf]; rfl

/-- A vector, followed by -1. -/
def ext (n : Nat) (y : Nat → Fq) : Nat → Fq := fun j => if j = n then -1 else y j
theorem ext_lt {n j : Nat} (y : Nat → Fq) (h : j < n) : ext n y j = y j := if_neg (by omega)
theorem ext_at (n : Nat) (y : Nat → Fq) : ext n y n = -1 := if_pos rfl
theorem dt_ext (n : Nat) (u y : Nat → Fq) : dt (n + 1) u (ext n y) = sm n (fun j => u j * y j) + u n * (-1) := by
  show sm n (fun j => u j * ext n y j) + u n * ext n y n = _
  rw [ext_at, sm_congr (fun j hj => by rw [ext_lt y hj])]

/-- What a combination makes, as a vector of the kernel of the equations. -/
theorem ker_eq (rows : List (List Int)) (t : List Int) (y : Nat → Fq) : Ker t.length (rows.length + 1) (cm (matOf (eqRows rows t))) (ext rows.length y) ↔ ∀ k, k < t.length → cv t k = sm rows.length (fun i => y i * fm rows i k) := by
  have key : ∀ k, k < t.length → dt (rows.length + 1) (cm (matOf (eqRows rows t)) k) (ext rows.length y) = sm rows.length (fun i => y i * fm rows i k) - cv t k := fun k hk => by
    rw [dt_ext, eq_right rows t hk, sm_congr (g := fun i => y i * fm rows i k) (fun i hi => by rw [eq_left rows t hk hi]; exact Fin.mul_comm _ _)]
    grind
  constructor
  · intro h k hk
    have := h k hk
    rw [key k hk] at this
    grind
  · intro h k hk
    rw [key k hk, h k hk]; grind

theorem combF_at {x : Mat} {piv : List Nat} {n : Nat} (hs : ∀ k l, k < l → l < piv.length → pf piv k < pf piv l) : ∀ K, K ≤ piv.length → ∀ k, k < K → combF x piv n K (pf piv k) = x k n
  | 0, _, k, hk => absurd hk (Nat.not_lt_zero _)
  | K + 1, hK, k, hk => by
    show (if pf piv k = pf piv K then x K n else combF x piv n K (pf piv k)) = _
    by_cases e : k = K
    · rw [if_pos (by rw [e]), e]
    · have := hs k K (by omega) (by omega)
      rw [if_neg (by omega)]; exact combF_at hs K (by omega) k (by omega)
theorem combF_ne {x : Mat} {piv : List Nat} {n j : Nat} : ∀ K, (∀ k, k < K → pf piv k ≠ j) → combF x piv n K j = 0
  | 0, _ => rfl
  | K + 1, h => by
    show (if j = pf piv K then x K n else combF x piv n K j) = _
    rw [if_neg (fun e => h K (by omega) e.symm)]; exact combF_ne K (fun k hk => h k (by omega))

/-- A target is made of rows. -/
def Made (rows : List (List Int)) (t : List Int) : Prop := Span rows.length t.length (fm rows) (cv t)

theorem comb_red {rows : List (List Int)} {t : List Int} (h : Right rows t.length) (ht : ∀ z ∈ t, 0 ≤ z ∧ z < 1073741789) : Red t.length (rows.length + 1) (cm (matOf (eqRows rows t))) (cm (rcombM rows t).1) (rcombM rows t).2.length (pf (rcombM rows t).2) rows.length :=
  redR_red (eq_num h ht) rows.length (by omega)

theorem nth_map (n : Nat) (f : Nat → Int) {i : Nat} (hi : i < n) : nth ((List.range n).map f) i = f i := by unfold nth; simp [hi]

/-- The combination makes the target. -/
theorem comb_makes {rows : List (List Int)} {t : List Int} (h : Right rows t.length) (ht : ∀ z ∈ t, 0 ≤ z ∧ z < 1073741789) (hok : rcombOk rows t = true) : ∀ k, k < t.length → cv t k = sm rows.length (fun i => cv (rcombY rows t) i * fm rows i k) := by
  have hR := comb_red h ht
  have hlt : (∀ p ∈ (rcombM rows t).2, p < rows.length) ∧ Sorted (rcombM rows t).2 := redR_lt _ _ _
  have hy : ∀ i, i < rows.length → cv (rcombY rows t) i = cq (combF (rcombM rows t).1 (rcombM rows t).2 rows.length (rcombM rows t).2.length i) := fun i hi => by
    unfold cv rcombY; rw [nth_map _ _ hi]
  have hz : ∀ q, (rcombM rows t).2.length ≤ q → q < t.length → (rcombM rows t).1 q rows.length = 0 := fun q h1 h2 => by
    have := List.all_eq_true.1 hok (q - (rcombM rows t).2.length) (List.mem_range.2 (by omega))
    rw [show (rcombM rows t).2.length + (q - (rcombM rows t).2.length) = q by omega] at this
    simpa using this
  generalize hx : (rcombM rows t).1 = x at *
  generalize hp : (rcombM rows t).2 = piv at *
  rw [← ker_eq]
  refine (hR.ker _).1 fun q hq => ?_
  rw [dt_ext]
  by_cases hqr : q < piv.length
  · rw [sm_pivots (p := pf piv) (r := piv.length) (fun k hk => hR.pc k hk) hR.mono (fun j hj hno => by
      show cm x q j * cv (rcombY rows t) j = 0
      rw [hy j hj, combF_ne _ hno, cq_0]; grind), sm_one (k := q) hqr (fun k hk hne => by
      show cm x q (pf piv k) * cv (rcombY rows t) (pf piv k) = 0
      rw [hR.zero k q hk hq (fun e => hne e.symm)]; grind)]
    show cm x q (pf piv q) * cv (rcombY rows t) (pf piv q) + _ = 0
    rw [hR.one q hqr, hy _ (hR.pc q hqr), combF_at (pf_mono hlt.2) _ (Nat.le_refl _) q hqr]
    show 1 * cm x q rows.length + cm x q rows.length * (-1) = 0
    grind
  · rw [sm_zero (fun j hj => by
      show cm x q j * cv (rcombY rows t) j = 0
      rw [hR.low q j (by omega) hq hj]; grind)]
    show 0 + cq (x q rows.length) * (-1) = 0
    rw [hz q (by omega) hq, cq_0]; grind

theorem comb_span {rows : List (List Int)} {t : List Int} (h : Right rows t.length) (ht : ∀ z ∈ t, 0 ≤ z ∧ z < 1073741789) : rcombOk rows t = true ↔ Made rows t := by
  constructor
  · intro hok
    exact ⟨cv (rcombY rows t), comb_makes h ht hok⟩
  · rintro ⟨y, hy⟩
    have hR := comb_red h ht
    have hn : NumM t.length (rows.length + 1) (rcombM rows t).1 := redR_num (eq_num h ht) _
    have hk := (hR.ker _).2 ((ker_eq rows t y).2 hy)
    unfold rcombOk okM
    rw [List.all_eq_true]
    intro j hj
    rw [List.mem_range] at hj
    have h1 := hk ((rcombM rows t).2.length + j) (by omega)
    rw [dt_ext, sm_zero (fun i hi => by
      show cm (rcombM rows t).1 ((rcombM rows t).2.length + j) i * y i = 0
      rw [hR.low _ i (by omega) (by omega) hi]; grind)] at h1
    have h2 : cq ((rcombM rows t).1 ((rcombM rows t).2.length + j) rows.length) = 0 := by
      have h3 : 0 + cq ((rcombM rows t).1 ((rcombM rows t).2.length + j) rows.length) * (-1) = 0 := h1
      grind
    rw [cq_zero] at h2
    have h4 := hn ((rcombM rows t).2.length + j) rows.length (by omega) (by omega)
    simp
    omega

/-- A combination has 0 at rows that depend on earlier ones. -/
theorem comb_zero {rows : List (List Int)} {t : List Int} (h : Right rows t.length) (ht : ∀ z ∈ t, 0 ≤ z ∧ z < 1073741789) {i : Nat} (hi : i < rows.length) (hd : Span i t.length (fm rows) (fm rows i)) : nth (rcombY rows t) i = 0 := by
  obtain ⟨b, hb⟩ := tells_ex (fun c => ¬ Lead (rows.length + 1) (Ker t.length (rows.length + 1) (cm (matOf (eqRows rows t)))) c)
  have hc := (redR_count (eq_num h ht) hb rows.length (by omega)).2 i hi
  have hno : i ∉ (rcombM rows t).2 := fun hm => by
    refine (hb i).1 (hc.1 hm) ?_
    obtain ⟨y, hy⟩ := hd
    refine ⟨fun j => if j = i then 1 else if j < i then - y j else 0, fun k hk => ?_, if_pos rfl, fun j h1 h2 => by show (if j = i then (1 : Fq) else if j < i then - y j else 0) = 0; rw [if_neg (by omega), if_neg (by omega)]⟩
    unfold dt
    have e1 : sm (rows.length + 1) (fun j => cm (matOf (eqRows rows t)) k j * (if j = i then (1 : Fq) else if j < i then - y j else 0)) =
        sm (rows.length + 1) (fun j => if j = i then fm rows i k else 0) + sm (rows.length + 1) (fun j => if j < i then - (y j * fm rows j k) else 0) := by
      rw [← sm_add]
      refine sm_congr fun j hj => ?_
      by_cases e : j = i
      · rw [if_pos e, if_pos e, if_neg (by omega), e, eq_left rows t hk hi]; grind
      · rw [if_neg e, if_neg e]
        by_cases e2 : j < i
        · rw [if_pos e2, if_pos e2, eq_left rows t hk (by omega)]; grind
        · rw [if_neg e2, if_neg e2]; grind
    rw [e1, sm_one (k := i) (by omega) (fun j _ e => by show (if j = i then fm rows i k else 0) = 0; rw [if_neg e])]
    show (if i = i then fm rows i k else 0) + _ = 0
    rw [if_pos rfl, hy k hk, sm_cut (n := rows.length + 1) (i := i) (by omega), sm_neg]
    grind
  unfold rcombY
  rw [nth_map _ _ hi]
  exact combF_ne _ (fun k hk e => hno (e ▸ pf_mem hk))

end Go.Proofs.Ytjjdgphjkoppgaa
