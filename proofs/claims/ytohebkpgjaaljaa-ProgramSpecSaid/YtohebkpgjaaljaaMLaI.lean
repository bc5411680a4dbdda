/- The rank, row by row; and that of the columns. -/
import Derived.Test.YtohebkpgjaaljaaMLaG
namespace Go.Proofs.Ytohebkpgjaaljaa

theorem right_wide {rows : List (List Int)} {m : Nat} (h : Right rows m) (hn : rows ≠ []) : wide rows = m := by
  cases rows with
  | nil => exact absurd rfl hn
  | cons r l => exact h.len r (by simp)
theorem right_check {rows : List (List Int)} {m : Nat} (h : Right rows m) : checkErr rows = 0 := by
  rw [checkErr_few h.few]
  by_cases hn : rows = []
  · subst hn; rfl
  · have hm : m ≤ 64 := by
      rcases h.narrow with h1 | h1
      · exact h1
      · exact absurd h1 hn
    refine kindErr_ok rows (fun r hr => by rw [h.len r hr]; exact hm) (fun r hr => ?_)
    unfold rowOk
    rw [right_wide h hn, decide_eq_true (h.len r hr), any_no (fun z hz => by
      have := h.num r hr z hz
      simp [oddQ]; omega)]; rfl

theorem ker_congr {n m : Nat} {X Y : FMat} (h : ∀ i, i < n → ∀ j, j < m → X i j = Y i j) (v : Nat → Fq) : Ker n m X v ↔ Ker n m Y v :=
  ⟨fun hv i hi => by rw [← hv i hi]; exact dt_congr (fun j hj => (h i hi j hj).symm) (fun _ _ => rfl), fun hv i hi => by rw [← hv i hi]; exact dt_congr (fun j hj => h i hi j hj) (fun _ _ => rfl)⟩
theorem span_rows {n m : Nat} {X Y : FMat} {t u : Nat → Fq} (h : ∀ i, i < n → ∀ j, j < m → X i j = Y i j) (ht : ∀ j, j < m → u j = t j) (hs : Span n m X t) : Span n m Y u :=
  let ⟨y, hy⟩ := hs
  ⟨y, fun j hj => by rw [ht j hj, hy j hj]; exact sm_congr fun i hi => by rw [h i hi j hj]⟩
theorem lead_congr {m : Nat} {V W : (Nat → Fq) → Prop} (h : ∀ v, V v ↔ W v) (c : Nat) : Lead m V c ↔ Lead m W c :=
  ⟨fun ⟨v, h1, h2⟩ => ⟨v, (h v).1 h1, h2⟩, fun ⟨v, h1, h2⟩ => ⟨v, (h v).2 h1, h2⟩⟩

/-- The rank counts the columns that lead no vector of the kernel. -/
theorem rank_cnt {rows : List (List Int)} {m : Nat} (h : Right rows m) {b : Nat → Bool} (hb : Tells b (fun c => ¬ Lead m (Ker rows.length m (fm rows)) c)) : rrankQ rows = cntB b m := by
  unfold rrankQ
  rw [if_pos (right_check h)]
  by_cases hn : rows = []
  · subst hn
    have h1 : cntB b m = 0 := by
      have : ∀ c, b c = false := fun c => by
        rw [Bool.eq_false_iff]
        intro hc
        exact (hb c).1 hc ⟨fun j => if j = c then 1 else 0, fun i hi => absurd hi (Nat.not_lt_zero _), if_pos rfl, fun j h1 _ => if_neg (by omega)⟩
      have h2 : ∀ k, cntB b k = 0 := fun k => by
        induction k with
        | zero => rfl
        | succ k ih => rw [cntB, ih, this k]; rfl
      exact h2 m
    have := redR_len 0 (matOf []) (wide [])
    rw [h1]; show (redR 0 _ _).2.length = 0; omega
  · rw [right_wide h hn]
    exact (redR_count (right_num h) hb m (Nat.le_refl _)).1

theorem rank_ker {rows rows' : List (List Int)} {m : Nat} (h : Right rows m) (h' : Right rows' m) (hk : ∀ v, Ker rows.length m (fm rows) v ↔ Ker rows'.length m (fm rows') v) : rrankQ rows = rrankQ rows' := by
  obtain ⟨b, hb⟩ := tells_ex (fun c => ¬ Lead m (Ker rows.length m (fm rows)) c)
  obtain ⟨b', hb'⟩ := tells_ex (fun c => ¬ Lead m (Ker rows'.length m (fm rows')) c)
  rw [rank_cnt h hb, rank_cnt h' hb']
  exact hb.congr hb' fun c _ => not_congr (lead_congr hk c)

theorem right_app {rows : List (List Int)} {t : List Int} (h : Right rows t.length) (ht : ∀ z ∈ t, 0 ≤ z ∧ z < 1073741789) (hn : rows.length < 64) (hm : t.length ≤ 64) : Right (rows ++ [t]) t.length :=
  ⟨by simp; omega, .inl hm, fun r hr => by
    rcases List.mem_append.1 hr with h1 | h1
    · exact h.len r h1
    · rw [List.mem_singleton.1 h1], fun r hr => by
    rcases List.mem_append.1 hr with h1 | h1
    · exact h.num r h1
    · rw [List.mem_singleton.1 h1]; exact ht⟩
theorem fm_app_lt (rows : List (List Int)) (t : List Int) {i : Nat} (hi : i < rows.length) (j : Nat) : fm (rows ++ [t]) i j = fm rows i j := by
  show cq (((rows ++ [t])[i]?.getD [])[j]?.getD 0) = cq ((rows[i]?.getD [])[j]?.getD 0)
  rw [List.getElem?_append_left hi]
theorem fm_app_at (rows : List (List Int)) (t : List Int) (j : Nat) : fm (rows ++ [t]) rows.length j = cv t j := by
  show cq (((rows ++ [t])[rows.length]?.getD [])[j]?.getD 0) = cq (t[j]?.getD 0)
  rw [List.getElem?_append_right (Nat.le_refl _)]; simp
theorem ker_app (rows : List (List Int)) (t : List Int) (m : Nat) (v : Nat → Fq) : Ker (rows ++ [t]).length m (fm (rows ++ [t])) v ↔ (Ker rows.length m (fm rows) v ∧ dt m (cv t) v = 0) := by
  rw [List.length_append, List.length_singleton]
  constructor
  · intro h
    refine ⟨fun i hi => ?_, ?_⟩
    · rw [← h i (by omega)]; exact dt_congr (fun j _ => (fm_app_lt rows t hi j).symm) (fun _ _ => rfl)
    · rw [← h rows.length (by omega)]; exact dt_congr (fun j _ => (fm_app_at rows t j).symm) (fun _ _ => rfl)
  · rintro ⟨h1, h2⟩ i hi
    by_cases e : i = rows.length
    · rw [e, ← h2]; exact dt_congr (fun j _ => fm_app_at rows t j) (fun _ _ => rfl)
    · rw [← h1 i (by omega)]; exact dt_congr (fun j _ => fm_app_lt rows t (by omega) j) (fun _ _ => rfl)

/-- A further row. -/
theorem rank_step {rows : List (List Int)} {t : List Int} (h : Right rows t.length) (ht : ∀ z ∈ t, 0 ≤ z ∧ z < 1073741789) (hn : rows.length < 64) (hm : t.length ≤ 64) :
    (Made rows t → rrankQ (rows ++ [t]) = rrankQ rows) ∧ (¬ Made rows t → rrankQ (rows ++ [t]) = rrankQ rows + 1) := by
  have h' := right_app h ht hn hm
  constructor
  · intro hmade
    refine rank_ker h' h fun v => (ker_app rows t t.length v).trans ⟨fun h1 => h1.1, fun h1 => ⟨h1, span_ker hmade h1⟩⟩
  · intro hno
    obtain ⟨l, hl⟩ := Option.isSome_iff_exists.1 ((sep_made h).2 hno)
    obtain ⟨_, hk, h1⟩ := (proves_iff h).1 (sep_some h hl)
    obtain ⟨c0, hc0, hl0, hall⟩ := hyper (sub_ker rows.length t.length (fm rows)) (cv t) ⟨cv l, hk, by rw [h1]; decide⟩
    obtain ⟨b, hb⟩ := tells_ex (fun c => ¬ Lead t.length (Ker rows.length t.length (fm rows)) c)
    obtain ⟨b', hb'⟩ := tells_ex (fun c => ¬ Lead t.length (Ker (rows ++ [t]).length t.length (fm (rows ++ [t]))) c)
    rw [rank_cnt h hb, rank_cnt h' hb']
    have hiff : ∀ c, c < t.length → (Lead t.length (Ker (rows ++ [t]).length t.length (fm (rows ++ [t]))) c ↔ Lead t.length (Ker rows.length t.length (fm rows)) c ∧ c ≠ c0) := fun c hc =>
      (lead_congr (ker_app rows t t.length) c).trans (hall c hc)
    refine cntB_one hc0 ?_ ?_ ?_
    · rw [Bool.eq_false_iff]; intro h2; exact (hb c0).1 h2 hl0
    · exact (hb' c0).2 fun h2 => ((hiff c0 hc0).1 h2).2 rfl
    · intro c hc hne
      rw [Bool.eq_iff_iff, hb c, hb' c]
      exact not_congr ((hiff c hc).trans ⟨fun h2 => h2.1, fun h2 => ⟨h2, hne⟩⟩)

/-! Prefixes. -/
theorem right_take {rows : List (List Int)} {m : Nat} (h : Right rows m) (i : Nat) : Right (rows.take i) m :=
  ⟨by have := h.few; rw [List.length_take]; omega, h.narrow.elim .inl (fun e => .inr (by rw [e]; simp)), fun r hr => h.len r (List.mem_of_mem_take hr), fun r hr => h.num r (List.mem_of_mem_take hr)⟩
theorem fm_take (rows : List (List Int)) {i k : Nat} (hk : k < i) (j : Nat) : fm (rows.take i) k j = fm rows k j := by
  show cq (((rows.take i)[k]?.getD [])[j]?.getD 0) = cq ((rows[k]?.getD [])[j]?.getD 0)
  rw [List.getElem?_take, if_pos hk]
theorem made_take {rows : List (List Int)} {m i : Nat} (h : Right rows m) (hi : i < rows.length) : Made (rows.take i) rows[i] ↔ Span i m (fm rows) (fm rows i) := by
  unfold Made
  have hl := h.len _ (List.getElem_mem hi)
  have ht : (rows.take i).length = i := by rw [List.length_take]; omega
  rw [hl, ht]
  exact ⟨fun hs => span_rows (fun k hk j _ => fm_take rows hk j) (fun j _ => fm_row rows hi j) hs, fun hs => span_rows (fun k hk j _ => (fm_take rows hk j).symm) (fun j _ => (fm_row rows hi j).symm) hs⟩
theorem rank_take {rows : List (List Int)} {m i : Nat} (h : Right rows m) (hi : i < rows.length) :
    (Span i m (fm rows) (fm rows i) → rrankQ (rows.take (i + 1)) = rrankQ (rows.take i)) ∧ (¬ Span i m (fm rows) (fm rows i) → rrankQ (rows.take (i + 1)) = rrankQ (rows.take i) + 1) := by
  have hl := h.len _ (List.getElem_mem hi)
  have hne : rows ≠ [] := fun e => by rw [e] at hi; exact absurd hi (Nat.not_lt_zero _)
  have hm : m ≤ 64 := h.narrow.resolve_right hne
  have h1 := rank_step (rows := rows.take i) (t := rows[i]) (by rw [hl]; exact right_take h i) (h.num _ (List.getElem_mem hi)) (by have := h.few; rw [List.length_take]; omega) (by omega)
  rw [List.take_succ_eq_append_getElem hi]
  rw [made_take h hi] at h1
  exact h1

/-- The rank counts the rows that do not depend on earlier ones. -/
theorem rank_rows {rows : List (List Int)} {m : Nat} (h : Right rows m) {b : Nat → Bool} (hb : Tells b (fun i => ¬ Span i m (fm rows) (fm rows i))) : ∀ i, i ≤ rows.length → rrankQ (rows.take i) = cntB b i
  | 0, _ => by
    have h1 := redR_len 0 (matOf []) (wide [])
    rw [List.take_zero]
    unfold rrankQ cntB
    rw [if_pos (show checkErr [] = 0 by rfl)]
    show (redR 0 (matOf []) (wide [])).2.length = 0
    omega
  | i + 1, hi => by
    obtain ⟨h1, h2⟩ := rank_take h (i := i) hi
    rw [cntB, ← rank_rows h hb i (by omega)]
    by_cases hs : Span i m (fm rows) (fm rows i)
    · rw [h1 hs, if_neg (fun e => (hb i).1 e hs)]; rfl
    · rw [h2 hs, if_pos ((hb i).2 hs)]

/-- A column depends on earlier ones exactly if, as a row, it is made of them. -/
theorem lead_span {n m : Nat} {X Y : FMat} (h : ∀ i k, i < n → k < m → Y k i = X i k) {i : Nat} (hi : i < n) : Lead n (Ker m n Y) i ↔ Span i m X (X i) := by
  constructor
  · rintro ⟨v, hv, h1, h0⟩
    refine ⟨fun j => - v j, fun k hk => ?_⟩
    have h2 : sm n (fun j => X j k * v j) = 0 := by
      rw [← hv k hk]; exact sm_congr fun j hj => by rw [h j k hj hk]
    have h3 : sm n (fun j => X j k * v j) = sm n (fun j => if j < i then X j k * v j else 0) + sm n (fun j => if j = i then X i k else 0) := by
      rw [← sm_add]
      refine sm_congr fun j hj => ?_
      by_cases e : j = i
      · rw [if_pos e, if_neg (by omega), e, h1]; grind
      · rw [if_neg e]
        by_cases e2 : j < i
        · rw [if_pos e2]; grind
        · rw [if_neg e2, h0 j (by omega) hj]; grind
    rw [h3, sm_cut (by omega), sm_one (k := i) hi (fun j _ e => by show (if j = i then X i k else 0) = 0; rw [if_neg e])] at h2
    have h4 : (if i = i then X i k else (0 : Fq)) = X i k := if_pos rfl
    have h5 : sm i (fun j => - v j * X j k) = - sm i (fun j => X j k * v j) := by
      rw [← sm_neg]; exact sm_congr fun j _ => by grind
    rw [h5]
    have h6 : sm i (fun j => X j k * v j) + (if i = i then X i k else 0) = 0 := h2
    rw [h4] at h6
    grind
  · rintro ⟨y, hy⟩
    refine ⟨fun j => if j = i then 1 else if j < i then - y j else 0, fun k hk => ?_, if_pos rfl, fun j h1 h2 => by show (if j = i then (1 : Fq) else if j < i then - y j else 0) = 0; rw [if_neg (by omega), if_neg (by omega)]⟩
    unfold dt
    have e1 : sm n (fun j => Y k j * (if j = i then (1 : Fq) else if j < i then - y j else 0)) = sm n (fun j => if j = i then X i k else 0) + sm n (fun j => if j < i then - (y j * X j k) else 0) := by
      rw [← sm_add]
      refine sm_congr fun j hj => ?_
      rw [h j k hj hk]
      by_cases e : j = i
      · rw [if_pos e, if_pos e, if_neg (by omega), e]; grind
      · rw [if_neg e, if_neg e]
        by_cases e2 : j < i
        · rw [if_pos e2, if_pos e2]; grind
        · rw [if_neg e2, if_neg e2]; grind
    rw [e1, sm_one (k := i) hi (fun j _ e => by show (if j = i then X i k else 0) = 0; rw [if_neg e])]
    show (if i = i then X i k else 0) + _ = 0
    rw [if_pos rfl, hy k hk, sm_cut (by omega), sm_neg]
    grind

/-- The columns, as rows. -/
def colsOf (rows : List (List Int)) (m : Nat) : List (List Int) := (List.range m).map (colOf rows)
theorem cols_right {rows : List (List Int)} {m : Nat} (h : Right rows m) (hm : m ≤ 64) : Right (colsOf rows m) rows.length :=
  ⟨by simp [colsOf]; exact hm, .inl h.few, fun r hr => by
    obtain ⟨k, _, rfl⟩ := List.mem_map.1 hr
    simp [colOf], fun r hr z hz => by
    obtain ⟨k, hk, rfl⟩ := List.mem_map.1 hr
    obtain ⟨r', hr', rfl⟩ := List.mem_map.1 hz
    rw [nth_at (by rw [h.len r' hr']; exact List.mem_range.1 hk)]
    exact h.num r' hr' _ (List.getElem_mem _)⟩
theorem fm_cols (rows : List (List Int)) (m : Nat) {i k : Nat} (hi : i < rows.length) (hk : k < m) : fm (colsOf rows m) k i = fm rows i k := by
  have h1 : (colsOf rows m)[k]? = some (colOf rows k) := by unfold colsOf; simp [hk]
  show cq (((colsOf rows m)[k]?.getD [])[i]?.getD 0) = _
  rw [h1, fm_row rows hi]
  unfold colOf
  simp [hi]; rfl

/-- The rank of rows is that of their columns. -/
theorem rank_cols {rows : List (List Int)} {m : Nat} (h : Right rows m) (hm : m ≤ 64) : rrankQ (colsOf rows m) = rrankQ rows := by
  obtain ⟨b, hb⟩ := tells_ex (fun i => ¬ Span i m (fm rows) (fm rows i))
  obtain ⟨b', hb'⟩ := tells_ex (fun c => ¬ Lead rows.length (Ker (colsOf rows m).length rows.length (fm (colsOf rows m))) c)
  have h1 := rank_rows h hb rows.length (Nat.le_refl _)
  rw [List.take_length] at h1
  rw [h1, rank_cnt (cols_right h hm) hb']
  refine hb'.congr hb fun i hi => not_congr ?_
  have hl : (colsOf rows m).length = m := by simp [colsOf]
  rw [hl]
  exact lead_span (fun i k hi hk => fm_cols rows m hi hk) hi
theorem rank_le {rows : List (List Int)} {m : Nat} (h : Right rows m) : rrankQ rows ≤ rows.length ∧ rrankQ rows ≤ m := by
  constructor
  · unfold rrankQ; rw [if_pos (right_check h)]; exact redR_len _ _ _
  · obtain ⟨b, hb⟩ := tells_ex (fun c => ¬ Lead m (Ker rows.length m (fm rows)) c)
    rw [rank_cnt h hb]; exact cntB_le _ _

end Go.Proofs.Ytohebkpgjaaljaa
