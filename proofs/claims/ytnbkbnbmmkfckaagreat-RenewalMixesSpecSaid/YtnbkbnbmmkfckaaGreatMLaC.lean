/- The reductions of the program and of the reference, in the field. The program and the reference compute the same. The program's Separate and the reference's compute the same. -/
import Derived.Test.YtnbkbnbmmkfckaaGreatMFq
import Derived.Test.YtnbkbnbmmkfckaaGreatMLinR
import Derived.Test.YtnbkbnbmmkfckaaGreatMLinU
namespace Go.Proofs.YtnbkbnbmmkfckaaGreat

/-- A matrix of numbers, in the field. -/
def cm (X : Mat) : FMat := fun i j => cq (X i j)
def pf (l : List Nat) : Nat → Nat := fun k => l[k]?.getD 0

theorem Red.congr {n m : Nat} {X0 X Y : FMat} {r : Nat} {p q : Nat → Nat} {c : Nat} (h : Red n m X0 X r p c) (e : ∀ i, i < n → ∀ j, X i j = Y i j) (eq : ∀ k, k < r → p k = q k) : Red n m X0 Y r q c := by
  have er : ∀ i, i < n → X i = Y i := fun i hi => funext (e i hi)
  refine ⟨h.rn, fun v => Iff.trans ?_ (h.ker v), fun i hi => er i hi ▸ h.span i hi, fun k hk => eq k hk ▸ h.pc k hk, fun k l h1 h2 => eq k (by omega) ▸ eq l h2 ▸ h.mono k l h1 h2, fun k hk => ?_, fun k i hk hi hne => ?_, fun i j h1 h2 h3 => ?_, fun k j hk hj => ?_⟩
  · exact ⟨fun hv i hi => by rw [er i hi]; exact hv i hi, fun hv i hi => by rw [← er i hi]; exact hv i hi⟩
  · rw [← eq k hk, ← e k (Nat.lt_of_lt_of_le hk h.rn)]; exact h.one k hk
  · rw [← eq k hk, ← e i hi]; exact h.zero k i hk hi hne
  · rw [← e i h2]; exact h.low i j h1 h2 h3
  · rw [← e k (Nat.lt_of_lt_of_le hk h.rn)]; exact h.left k j hk (by rw [eq k hk]; exact hj)

theorem findP_zero {x : Mat} {n c r : Nat} {i : Nat} (h1 : r ≤ i) (h2 : i < findP x n c r) : x i c = 0 := findF_zero x c (n - r) r i h1 h2
theorem findP_le (x : Mat) (n c r : Nat) (h : r ≤ n) : findP x n c r ≤ n := by have := (findF_lt x c (n - r) r).1; unfold findP; omega
theorem findP_ne {x : Mat} {n c r : Nat} (h : findP x n c r < n) (hr : r ≤ n) : x (findP x n c r) c ≠ 0 := findF_ne x c (n - r) r (by unfold findP at h; omega)

theorem cq_ne {z : Int} (h : 0 ≤ z ∧ z < 1073741789) (hz : z ≠ 0) : cq z ≠ 0 := fun e => by
  rw [cq_zero] at e; omega
theorem cq_inv {z : Int} (h : cq z ≠ 0) : cq (invQ z) * cq z = 1 := inv_z h

theorem putM_at (X : Mat) (k : Nat) (f : Nat → Int) (j : Nat) : putM X k f k j = f j := if_pos rfl
theorem putM_ne (X : Mat) (k : Nat) (f : Nat → Int) (i j : Nat) (h : i ≠ k) : putM X k f i j = X i j := if_neg h

theorem pivR_field {X : Mat} {n r c k : Nat} (hr : r < n) (i j : Nat) (hi : i < n) : cm (pivR X n r c k) i j = stepF (cm X) r c k (cq (invQ (X k c))) i j := by
  show cq (putM (lessA (putM X k (X r)) (ownR X c k) c n) r (ownR X c k) i j) = _
  by_cases e : i = r
  · subst e
    rw [stepF_r]
    rw [putM_at]
    unfold ownR
    rw [cq_mod, cq_mul]
    show _ = cq (X k j) * _
    grind
  · rw [putM_ne _ _ _ _ _ e]
    unfold lessA
    rw [if_pos hi, cq_mod, cq_add, cq_neg, cq_mod, cq_mul]
    unfold ownR
    rw [cq_mod, cq_mul]
    by_cases e1 : i = k
    · subst e1
      rw [stepF_k _ _ _ _ _ _ e, putM_at, putM_at]
      show _ = cq (X r j) - cq (X r c) * (cq (X i j) * _)
      generalize cq (invQ (X i c)) = s at *
      grind
    · rw [stepF_o _ _ _ _ _ _ _ e e1, putM_ne _ _ _ _ _ e1, putM_ne _ _ _ _ _ e1]
      show _ = cq (X i j) - cq (X i c) * (cq (X k j) * _)
      generalize cq (invQ (X k c)) = s at *
      grind

theorem pf_app (l : List Nat) (c : Nat) : (∀ k, k < l.length → pf l k = pf (l ++ [c]) k) ∧ pf (l ++ [c]) l.length = c := by
  refine ⟨fun k hk => ?_, ?_⟩
  · unfold pf; rw [List.getElem?_append_left hk]
  · unfold pf; rw [List.getElem?_append_right (Nat.le_refl _)]; simp

/-- The reference's reduction is a reduction. -/
theorem redR_red {n m : Nat} {X : Mat} (hX : NumM n m X) : ∀ c, c ≤ m → Red n m (cm X) (cm (redR n X c).1) (redR n X c).2.length (pf (redR n X c).2) c
  | 0, _ => red_start n m (cm X) _
  | c + 1, hc => by
    have ih := redR_red hX c (by omega)
    have hn := redR_num hX c
    rw [redR_succ]
    generalize redR n X c = s at ih hn
    obtain ⟨y, piv⟩ := s
    simp only at ih hn
    have hle := findP_le y n c piv.length ih.rn
    by_cases hk : findP y n c piv.length < n
    · rw [stepR_some rfl hk]
      show Red n m (cm X) (cm (pivR y n piv.length c (findP y n c piv.length))) (piv ++ [c]).length (pf (piv ++ [c])) (c + 1)
      have hge := findP_ge y n c piv.length
      have hne := cq_ne (hn _ c hk (by omega)) (findP_ne hk ih.rn)
      rw [List.length_append, List.length_singleton]
      have h1 := pf_app piv c
      have ih' := ih.congr (fun _ _ _ => rfl) h1.1
      have hst := red_step ih' hge hk (cq_inv hne) h1.2
      exact hst.congr (fun i hi j => (pivR_field (X := y) (n := n) (r := piv.length) (c := c) (k := findP y n c piv.length) (by omega) i j hi).symm) (fun _ _ => rfl)
    · have hk' : findP y n c piv.length = n := by omega
      rw [stepR_none hk']
      refine red_none ih (fun i h1 h2 => ?_)
      show cq (y i c) = 0
      have h1' : piv.length ≤ i := h1
      rw [findP_zero (x := y) (n := n) (c := c) h1' (by omega)]; exact cq_0

/-! The program's reduction computes the same. -/
theorem findF_congr {x y : Mat} {c n : Nat} (h : ∀ i, i < n → x i c = y i c) : ∀ f k, k + f ≤ n → findF x c f k = findF y c f k
  | 0, _, _ => rfl
  | f + 1, k, hk => by
    unfold findF
    rw [h k (by omega), findF_congr h f (k + 1) (by omega)]

theorem pivM_pivR {x X : Mat} {n m r c k : Nat} (hX : NumM n m X) (e : ∀ i j, i < n → j < m → x i j = X i j) (hr : r < n) (hk : k < n) (hc : c < m) (h0 : ∀ j, j < c → X k j = 0) (i j : Nat) (hi : i < n) (hj : j < m) :
    pivM x n r c k i j = pivR X n r c k i j := by
  have hown0 : j < c → ownR X c k j = 0 := fun h => by unfold ownR; rw [h0 j h, Int.mul_zero]; rfl
  have hvr : x k j * invQ (x k c) % 1073741789 = ownR X c k j := by
    unfold ownR; rw [e k j hk hj, e k c hk hc, Int.mul_comm]
  have hX1 : swapM x r k i j = if i = r then X k j else putM X k (X r) i j := by
    unfold swapM putM
    by_cases e1 : i = r
    · rw [if_pos e1, if_pos e1, e k j hk hj]
    · rw [if_neg e1, if_neg e1]
      by_cases e2 : i = k
      · rw [if_pos e2, if_pos e2, e r j hr hj]
      · rw [if_neg e2, if_neg e2, e i j hi hj]
  have hX1c : i ≠ r → swapM x r k i c = putM X k (X r) i c := fun e1 => by
    unfold swapM putM
    rw [if_neg e1]
    by_cases e2 : i = k
    · rw [if_pos e2, if_pos e2, e r c hr hc]
    · rw [if_neg e2, if_neg e2, e i c hi hc]
  show clearA (scaleM (swapM x r k) r c (invQ (x k c))) r c n i j = putM (lessA (putM X k (X r)) (ownR X c k) c n) r (ownR X c k) i j
  by_cases e1 : i = r
  · subst e1
    unfold clearA
    rw [if_neg (by omega)]
    unfold putM
    rw [if_pos rfl]
    unfold scaleM
    by_cases hjc : c ≤ j
    · rw [if_pos ⟨rfl, hjc⟩]
      have : swapM x i k i j = x k j := by unfold swapM; rw [if_pos rfl]
      rw [this]; exact hvr
    · rw [if_neg (by omega), hX1, if_pos rfl, hown0 (by omega), h0 j (by omega)]
  · have hP : putM (lessA (putM X k (X r)) (ownR X c k) c n) r (ownR X c k) i j = (putM X k (X r) i j + -(putM X k (X r) i c * ownR X c k j % 1073741789)) % 1073741789 := by
      show (if i = r then _ else lessA (putM X k (X r)) (ownR X c k) c n i j) = _
      rw [if_neg e1]
      unfold lessA; rw [if_pos hi]
    rw [hP]
    have hz : ∀ jj, scaleM (swapM x r k) r c (invQ (x k c)) i jj = swapM x r k i jj := fun jj => by unfold scaleM; rw [if_neg (by omega)]
    unfold clearA
    by_cases hjc : c ≤ j
    · rw [if_pos ⟨e1, hi, hjc⟩, hz, hz, hX1, if_neg e1, hX1c e1]
      have : scaleM (swapM x r k) r c (invQ (x k c)) r j = ownR X c k j := by
        unfold scaleM
        rw [if_pos ⟨rfl, hjc⟩]
        have : swapM x r k r j = x k j := by unfold swapM; rw [if_pos rfl]
        rw [this]; exact hvr
      rw [this]
    · rw [if_neg (by omega), hz, hX1, if_neg e1, hown0 (by omega), Int.mul_zero]
      have hnum : 0 ≤ putM X k (X r) i j ∧ putM X k (X r) i j < 1073741789 := (hX.put (i := k) (fun j hj => hX r j hr hj)) i j hi hj
      omega

theorem redM_redR {n m : Nat} {x X : Mat} (hX : NumM n m X) (e : ∀ i j, i < n → j < m → x i j = X i j) : ∀ c, c ≤ m → (redM n x c).2 = (redR n X c).2 ∧ ∀ i j, i < n → j < m → (redM n x c).1 i j = (redR n X c).1 i j
  | 0, _ => ⟨rfl, e⟩
  | c + 1, hc => by
    obtain ⟨ih1, ih2⟩ := redM_redR hX e c (by omega)
    have hn := redR_num hX c
    have hR := redR_red hX c (by omega)
    rw [redM_succ, redR_succ]
    generalize redM n x c = s at ih1 ih2
    generalize redR n X c = u at ih1 ih2 hn hR
    obtain ⟨y, piv⟩ := s
    obtain ⟨Y, piv'⟩ := u
    simp only at ih1 ih2 hn hR
    subst ih1
    have hfind : findP y n c piv.length = findP Y n c piv.length := findF_congr (fun i hi => ih2 i c hi (by omega)) _ _ (by have := hR.rn; omega)
    have hle := findP_le Y n c piv.length hR.rn
    by_cases hk : findP Y n c piv.length < n
    · rw [stepM_some hfind hk, stepR_some rfl hk]
      refine ⟨rfl, fun i j hi hj => ?_⟩
      have hge := findP_ge Y n c piv.length
      refine pivM_pivR hn ih2 (by omega) hk (by omega) (fun jj hjj => ?_) i j hi hj
      have h1 := hR.low _ jj hge hk hjj
      have h2 := hn _ jj hk (by omega)
      rw [show cm Y (findP Y n c piv.length) jj = cq (Y (findP Y n c piv.length) jj) from rfl, cq_zero] at h1
      omega
    · have hk' : findP Y n c piv.length = n := by omega
      rw [stepM_none (hfind.trans hk'), stepR_none hk']
      exact ⟨rfl, ih2⟩

end Go.Proofs.YtnbkbnbmmkfckaaGreat

namespace Go.Proofs.YtnbkbnbmmkfckaaGreat

theorem turn_eq {rows : List (List Int)} {t : List Int} {i : Nat} (hi : i < t.length) (j : Nat) : turnMat rows t i j = matOf (eqRows rows t) i j := by
  have : (eqRows rows t)[i]? = some (colOf rows i ++ [nth t i]) := by unfold eqRows; simp [hi]
  unfold matOf
  rw [this]; rfl
theorem eq_num {rows : List (List Int)} {t : List Int} (h : Right rows t.length) (ht : ∀ z ∈ t, 0 ≤ z ∧ z < 1073741789) : NumM t.length (rows.length + 1) (matOf (eqRows rows t)) := fun i j hi hj => by
  have hi' : i < (eqRows rows t).length := by rw [eqRows_len]; exact hi
  have hl := eqRows_row _ (List.getElem_mem hi')
  rw [matOf_at hi' (by omega)]; exact eqRows_num h.len h.num ht _ (List.getElem_mem hi') _ (List.getElem_mem _)

theorem comb_same {rows : List (List Int)} {t : List Int} (h : Right rows t.length) (ht : ∀ z ∈ t, 0 ≤ z ∧ z < 1073741789) : combOk rows t = rcombOk rows t ∧ combY rows t = rcombY rows t := by
  obtain ⟨h1, h2⟩ := redM_redR (x := turnMat rows t) (eq_num h ht) (fun i j hi hj => turn_eq hi j) rows.length (by omega)
  have h1' : (combM rows t).2 = (rcombM rows t).2 := h1
  have h2' : ∀ i j, i < t.length → j < rows.length + 1 → (combM rows t).1 i j = (rcombM rows t).1 i j := h2
  have hle : (rcombM rows t).2.length ≤ t.length := redR_len _ _ _
  constructor
  · unfold combOk rcombOk okM
    rw [h1', Bool.eq_iff_iff, List.all_eq_true, List.all_eq_true]
    constructor
    · intro h3 j hj
      rw [List.mem_range] at hj
      rw [← h2' _ _ (by omega) (by omega)]; exact h3 j (List.mem_range.2 hj)
    · intro h3 j hj
      rw [List.mem_range] at hj
      rw [h2' _ _ (by omega) (by omega)]; exact h3 j (List.mem_range.2 hj)
  · unfold combY rcombY
    rw [h1']
    refine List.map_congr_left fun i _ => ?_
    have : ∀ K, K ≤ (rcombM rows t).2.length → combF (combM rows t).1 (rcombM rows t).2 rows.length K i = combF (rcombM rows t).1 (rcombM rows t).2 rows.length K i := fun K => by
      induction K with
      | zero => intro _; rfl
      | succ K ih =>
        intro hK
        unfold combF
        rw [ih (by omega), h2' K rows.length (by omega) (by omega)]
    exact this _ (Nat.le_refl _)

/-! Separate. -/
/-- A list, in the field. -/
def cv (l : List Int) : Nat → Fq := fun j => cq (nth l j)

end Go.Proofs.YtnbkbnbmmkfckaaGreat

namespace Go.Proofs.YtnbkbnbmmkfckaaGreat

/-- What the program's Combine and Separate return, in the reference's words. -/
theorem comb_err {rows : List (List Int)} {t : List Int} : (decide (examErr rows t = 0) && combOk rows t) = (decide (examErr rows t = 0) && rcombOk rows t) ∧ (if examErr rows t = 0 ∧ combOk rows t = true then combY rows t else []) = (if examErr rows t = 0 ∧ rcombOk rows t = true then rcombY rows t else []) := by
  by_cases h0 : examErr rows t = 0
  · obtain ⟨h1, h2, h3⟩ := examErr_ok_iff h0
    obtain ⟨h4, h5⟩ := comb_same h1 h2
    rw [h4, h5]; exact ⟨rfl, rfl⟩
  · rw [decide_eq_false h0, if_neg (fun h => h0 h.1), if_neg (fun h => h0 h.1)]; exact ⟨rfl, rfl⟩
end Go.Proofs.YtnbkbnbmmkfckaaGreat
