/- The reductions of the program and of the reference, in the field. The reference of package linear: Combine. The reference of package linear: Combine, where there are no columns. The program and the reference compute the same. The program's Separate and the reference's compute the same. The examples of the chapter, reckoned. The laws' own functions: right, made, proves. The laws' own functions: made. The laws' examples: sane returns true. What Combine and Separate say: a target is made of rows exactly if no list proves that it is not. Separate's proofs; and the rank, row by row. What the calls give, with their values known: for the laws. -/
import Derived.Test.YtjjoadmkpbmhpaaMRange4
import Derived.Deep.RegionLaw
import Derived.Deep.AppendLies
namespace Go.Proofs.Ytjjoadmkpbmhpaa

/-- A matrix of numbers, in the field. -/
def cm (X : Mat) : FMat := fun i j => cq (X i j)
def pf (l : List Nat) : Nat → Nat := fun k => l[k]?.getD 0

theorem Red.congr {n m : Nat} {X0 X Y : FMat} {r : Nat} {p q : Nat → Nat} {c : Nat} (h : Red n m X0 X r p c) (e : ∀ i, i < n → ∀ j, X i j = Y i j) (eq : ∀ k, k < r → p k = q k) : Red n m X0 Y r q c := by
  have er : ∀ i, i < n → X i = Y i := fun i hi => funext (e i hi)
  refine ⟨h.rn, fun v => Iff.trans ?_ (h.ker v), fun i hi => er i hi ▸ h.span i hi, fun k hk => eq k hk ▸ h.pc k hk, fun k l h1 h2 => eq k (by omega) ▸ eq l h2 ▸ h.mono k l h1 h2, fun k hk => ?_, fun k i hk hi hne => ?_, fun i j h1 h2 h3 => ?_, fun k j hk hj => ?_⟩
  · exact ⟨fun hv i hi => by rw [er i hi]; exact hv i hi, fun hv i hi => by rw [← er i hi]; exact hv i hi⟩
  · rw [← eq k hk, ← e k (Nat.lt_of_lt_of_le hk h.rn)]; exact h.one k hk
  · rw [← eq k hk, ← e i hi]; exact h.zero k i hk hi hne
  · rw [← e i h2]; exact h.low i j h1 h2 h3
  · rw [← e k (Nat.lt_of_lt_of_le hk h.rn)]; exact h.left k j hk (by rw [eq k hk]; exact hj)

theorem findP_zero {x : Mat} {n c r : Nat} {i : Nat} (h1 : r ≤ i) (h2 : i < findP x n c r) : x i c = 0 := findF_zero x c (n - r) r i h1 h2
theorem findP_le (x : Mat) (n c r : Nat) (h : r ≤ n) : findP x n c r ≤ n := by have := (findF_lt x c (n - r) r).1; unfold findP; omega
theorem findP_ne {x : Mat} {n c r : Nat} (h : findP x n c r < n) (hr : r ≤ n) : x (findP x n c r) c ≠ 0 := findF_ne x c (n - r) r (by unfold findP at h; omega)

theorem cq_ne {z : Int} (h : 0 ≤ z ∧ z < 1073741789) (hz : z ≠ 0) : cq z ≠ 0 := fun e => by
  rw [cq_zero] at e; omega
theorem cq_inv {z : Int} (h : cq z ≠ 0) : cq (invQ z) * cq z = 1 := inv_z h

theorem putM_at (X : Mat) (k : Nat) (f : Nat → Int) (j : Nat) : putM X k f k j = f j := if_pos rfl
theorem putM_ne (X : Mat) (k : Nat) (f : Nat → Int) (i j : Nat) (h : i ≠ k) : putM X k f i j = X i j := if_neg h

theorem pivR_field {X : Mat} {n r c k : Nat} (hr : r < n) (i j : Nat) (hi : i < n) : cm (pivR X n r c k) i j = stepF (cm X) r c k (cq (invQ (X k c))) i j := by
  show cq (putM (lessA (putM X k (X r)) (ownR X c k) c n) r (ownR X c k) i j) = _
  by_cases e : i = r
  · subst e
    rw [stepF_r]
    rw [putM_at]
    unfold ownR
    rw [cq_mod, cq_mul]
    show _ = cq (X k j) * _
    grind
  · rw [putM_ne _ _ _ _ _ e]
    unfold lessA
    rw [if_pos hi, cq_mod, cq_add, cq_neg, cq_mod, cq_mul]
    unfold ownR
    rw [cq_mod, cq_mul]
    by_cases e1 : i = k
    · subst e1
      rw [stepF_k _ _ _ _ _ _ e, putM_at, putM_at]
      show _ = cq (X r j) - cq (X r c) * (cq (X i j) * _)
      generalize cq (invQ (X i c)) = s at *
      grind
    · rw [stepF_o _ _ _ _ _ _ _ e e1, putM_ne _ _ _ _ _ e1, putM_ne _ _ _ _ _ e1]
      show _ = cq (X i j) - cq (X i c) * (cq (X k j) * _)
      generalize cq (invQ (X k c)) = s at *
      grind

theorem pf_app (l : List Nat) (c : Nat) : (∀ k, k < l.length → pf l k = pf (l ++ [c]) k) ∧ pf (l ++ [c]) l.length = c := by
  refine ⟨fun k hk => ?_, ?_⟩
  · unfold pf; rw [List.getElem?_append_left hk]
  · unfold pf; rw [List.getElem?_append_right (Nat.le_refl _)]; simp

/-- The reference's reduction is a reduction. -/
theorem redR_red {n m : Nat} {X : Mat} (hX : NumM n m X) : ∀ c, c ≤ m → Red n m (cm X) (cm (redR n X c).1) (redR n X c).2.length (pf (redR n X c).2) c
  | 0, _ => red_start n m (cm X) _
  | c + 1, hc => by
    have ih := redR_red hX c (by omega)
    have hn := redR_num hX c
    rw [redR_succ]
    generalize redR n X c = s at ih hn
    obtain ⟨y, piv⟩ := s
    simp only at ih hn
    have hle := findP_le y n c piv.length ih.rn
    by_cases hk : findP y n c piv.length < n
    · rw [stepR_some rfl hk]
      show Red n m (cm X) (cm (pivR y n piv.length c (findP y n c piv.length))) (piv ++ [c]).length (pf (piv ++ [c])) (c + 1)
      have hge := findP_ge y n c piv.length
      have hne := cq_ne (hn _ c hk (by omega)) (findP_ne hk ih.rn)
      rw [List.length_append, List.length_singleton]
      have h1 := pf_app piv c
      have ih' := ih.congr (fun _ _ _ => rfl) h1.1
      have hst := red_step ih' hge hk (cq_inv hne) h1.2
      exact hst.congr (fun i hi j => (pivR_field (X := y) (n := n) (r := piv.length) (c := c) (k := findP y n c piv.length) (by omega) i j hi).symm) (fun _ _ => rfl)
    · have hk' : findP y n c piv.length = n := by omega
      rw [stepR_none hk']
      refine red_none ih (fun i h1 h2 => ?_)
      show cq (y i c) = 0
      have h1' : piv.length ≤ i := h1
      rw [findP_zero (x := y) (n := n) (c := c) h1' (by omega)]; exact cq_0

/-! The program's reduction computes the same. -/
theorem findF_congr {x y : Mat} {c n : Nat} (h : ∀ i, i < n → x i c = y i c) : ∀ f k, k + f ≤ n → findF x c f k = findF y c f k
  | 0, _, _ => rfl
  | f + 1, k, hk => by
    unfold findF
    rw [h k (by omega), findF_congr h f (k + 1) (by omega)]

theorem pivM_pivR {x X : Mat} {n m r c k : Nat} (hX : NumM n m X) (e : ∀ i j, i < n → j < m → x i j = X i j) (hr : r < n) (hk : k < n) (hc : c < m) (h0 : ∀ j, j < c → X k j = 0) (i j : Nat) (hi : i < n) (hj : j < m) :
    pivM x n r c k i j = pivR X n r c k i j := by
  have hown0 : j < c → ownR X c k j = 0 := fun h => by unfold ownR; rw [h0 j h, Int.mul_zero]; rfl
  have hvr : x k j * invQ (x k c) % 1073741789 = ownR X c k j := by
    unfold ownR; rw [e k j hk hj, e k c hk hc, Int.mul_comm]
  have hX1 : swapM x r k i j = if i = r then X k j else putM X k (X r) i j := by
    unfold swapM putM
    by_cases e1 : i = r
    · rw [if_pos e1, if_pos e1, e k j hk hj]
    · rw [if_neg e1, if_neg e1]
      by_cases e2 : i = k
      · rw [if_pos e2, if_pos e2, e r j hr hj]
      · rw [if_neg e2, if_neg e2, e i j hi hj]
  have hX1c : i ≠ r → swapM x r k i c = putM X k (X r) i c := fun e1 => by
    unfold swapM putM
    rw [if_neg e1]
    by_cases e2 : i = k
    · rw [if_pos e2, if_pos e2, e r c hr hc]
    · rw [if_neg e2, if_neg e2, e i c hi hc]
  show clearA (scaleM (swapM x r k) r c (invQ (x k c))) r c n i j = putM (lessA (putM X k (X r)) (ownR X c k) c n) r (ownR X c k) i j
  by_cases e1 : i = r
  · subst e1
    unfold clearA
    rw [if_neg (by omega)]
    unfold putM
    rw [if_pos rfl]
    unfold scaleM
    by_cases hjc : c ≤ j
    · rw [if_pos ⟨rfl, hjc⟩]
      have : swapM x i k i j = x k j := by unfold swapM; rw [if_pos rfl]
      rw [this]; exact hvr
    · rw [if_neg (by omega), hX1, if_pos rfl, hown0 (by omega), h0 j (by omega)]
  · have hP : putM (lessA (putM X k (X r)) (ownR X c k) c n) r (ownR X c k) i j = (putM X k (X r) i j + -(putM X k (X r) i c * ownR X c k j % 1073741789)) % 1073741789 := by
      show (if i = r then _ else lessA (putM X k (X r)) (ownR X c k) c n i j) = _
      rw [if_neg e1]
      unfold lessA; rw [if_pos hi]
    rw [hP]
    have hz : ∀ jj, scaleM (swapM x r k) r c (invQ (x k c)) i jj = swapM x r k i jj := fun jj => by unfold scaleM; rw [if_neg (by omega)]
    unfold clearA
    by_cases hjc : c ≤ j
    · rw [if_pos ⟨e1, hi, hjc⟩, hz, hz, hX1, if_neg e1, hX1c e1]
      have : scaleM (swapM x r k) r c (invQ (x k c)) r j = ownR X c k j := by
        unfold scaleM
        rw [if_pos ⟨rfl, hjc⟩]
        have : swapM x r k r j = x k j := by unfold swapM; rw [if_pos rfl]
        rw [this]; exact hvr
      rw [this]
    · rw [if_neg (by omega), hz, hX1, if_neg e1, hown0 (by omega), Int.mul_zero]
      have hnum : 0 ≤ putM X k (X r) i j ∧ putM X k (X r) i j < 1073741789 := (hX.put (i := k) (fun j hj => hX r j hr hj)) i j hi hj
      omega

theorem redM_redR {n m : Nat} {x X : Mat} (hX : NumM n m X) (e : ∀ i j, i < n → j < m → x i j = X i j) : ∀ c, c ≤ m → (redM n x c).2 = (redR n X c).2 ∧ ∀ i j, i < n → j < m → (redM n x c).1 i j = (redR n X c).1 i j
  | 0, _ => ⟨rfl, e⟩
  | c + 1, hc => by
    obtain ⟨ih1, ih2⟩ := redM_redR hX e c (by omega)
    have hn := redR_num hX c
    have hR := redR_red hX c (by omega)
    rw [redM_succ, redR_succ]
    generalize redM n x c = s at ih1 ih2
    generalize redR n X c = u at ih1 ih2 hn hR
    obtain ⟨y, piv⟩ := s
    obtain ⟨Y, piv'⟩ := u
    simp only at ih1 ih2 hn hR
    subst ih1
    have hfind : findP y n c piv.length = findP Y n c piv.length := findF_congr (fun i hi => ih2 i c hi (by omega)) _ _ (by have := hR.rn; omega)
    have hle := findP_le Y n c piv.length hR.rn
    by_cases hk : findP Y n c piv.length < n
    · rw [stepM_some hfind hk, stepR_some rfl hk]
      refine ⟨rfl, fun i j hi hj => ?_⟩
      have hge := findP_ge Y n c piv.length
      refine pivM_pivR hn ih2 (by omega) hk (by omega) (fun jj hjj => ?_) i j hi hj
      have h1 := hR.low _ jj hge hk hjj
      have h2 := hn _ jj hk (by omega)
      rw [show cm Y (findP Y n c piv.length) jj = cq (Y (findP Y n c piv.length) jj) from rfl, cq_zero] at h1
      omega
    · have hk' : findP Y n c piv.length = n := by omega
      rw [stepM_none (hfind.trans hk'), stepR_none hk']
      exact ⟨rfl, ih2⟩

end Go.Proofs.Ytjjoadmkpbmhpaa

namespace Go.Proofs.Ytjjoadmkpbmhpaa
open Go.RowKit

/-- Rows of the call's own behind headers in a block. -/
structure RowsO (S g0 m : Nat) (hs : Nat → Value) (ls : Nat → List Int) (w W : World) : Prop where
  hdr : ∀ i, i < m → W.cell? ⟨g0, i, none⟩ = some (hs i) ∧ W.frozen? ⟨g0, i, none⟩ = false
  blk : S ≤ g0 ∧ g0 < W.heap.size
  row : ∀ i, i < m → W.ownsRow S 3 1 (hs i) (ls i).length ((ls i).map (Value.int .i64))
  sep : ∀ i j, i < m → j < m → i ≠ j → ∀ g, (hs i).ownBlock = some g → (hs j).ownBlock ≠ some g
  apart : ∀ i, i < m → ∀ g, (hs i).ownBlock = some g → g ≠ g0
  low : Below S w W

theorem TurnS.rows {S m : Nat} {hs : Nat → Value} {ls : Nat → List Int} {ov : Value} {w W : World} (h : TurnS S m hs ls ov w W) (hm : 0 < m) : ∃ g0 c, ov = .slice (some ⟨g0, 0, none⟩) m c ∧ m ≤ c ∧ RowsO S g0 m hs ls w W := by
  have h0 := h.out
  obtain ⟨hl, ⟨-, e⟩ | ⟨g, cap, cur, rfl, hB, hh, hcc, hrest⟩⟩ := h.out
  · omega
  · refine ⟨g, cap, rfl, hcc, fun i hi => ⟨?_, h0.frozenAt i⟩, ⟨hB, (Array.getElem?_eq_some_iff.1 hh).1⟩, h.row, h.sep, fun i hi g' e1 e2 => ?_, h.low⟩
    · rw [h0.cellAt i (by omega)]; simp [hi]
    · subst e2; exact owns_types (h.row i hi) h0 (by decide) _ e1 rfl

/-- A row grows, and its header is stored. -/
theorem RowsO.step {S g0 m q : Nat} {hs : Nat → Value} {ls : Nat → List Int} {w W W' : World} (h : RowsO S g0 m hs ls w W) (hq : q < m) {g n cap : Nat} {l : List Int}
    (ho : W'.ownsRow S 3 1 (.slice (some ⟨g, 0, none⟩) n cap) l.length (l.map (Value.int .i64))) (hg : W.grownBy W' (hs q).ownBlock) (hgb : (hs q).ownBlock = some g ∨ W.heap.size ≤ g) :
    RowsO S g0 m (fun i => if i = q then .slice (some ⟨g, 0, none⟩) n cap else hs i) (fun i => if i = q then l else ls i) w (W'.setCell ⟨g0, q, none⟩ (.slice (some ⟨g, 0, none⟩) n cap)) := by
  have hne : some g0 ≠ (hs q).ownBlock := fun e => h.apart q hq g0 e.symm rfl
  have hc : ∀ i, i < m → W'.cell? ⟨g0, i, none⟩ = some (hs i) := fun i hi => by
    rw [World.cell?_of_block (w := W) (w' := W') (a := ⟨g0, i, none⟩) (hg.block g0 h.blk.2 hne)]; exact (h.hdr i hi).1
  have hf : ∀ i, i < m → W'.frozen? ⟨g0, i, none⟩ = false := fun i hi => by
    rw [World.frozen?_of_block (w := W) (w' := W') (a := ⟨g0, i, none⟩) (hg.block g0 h.blk.2 hne)]; exact (h.hdr i hi).2
  have hg0 : g ≠ g0 := by
    rcases hgb with e | e
    · exact h.apart q hq g e
    · have := h.blk.2; omega
  have hother : ∀ i, i < m → i ≠ q → ∀ g', (hs i).ownBlock = some g' → g' ≠ g := fun i hi e g' e1 e2 => by
    subst e2
    rcases hgb with e3 | e3
    · exact h.sep i q hi hq e _ e1 e3
    · have := ((h.row i hi).lt g' e1).2; omega
  refine ⟨fun i hi => ?_, ⟨h.blk.1, ?_⟩, fun i hi => ?_, fun i j hi hj hij g' e1 e2 => ?_, fun i hi g' e1 => ?_, ?_⟩
  · refine ⟨?_, by rw [World.frozen?_setCell]; exact hf i hi⟩
    show _ = some (if i = q then Value.slice (some ⟨g, 0, none⟩) n cap else hs i)
    by_cases e : i = q
    · subst e; rw [if_pos rfl]; exact World.cell?_setCell_same' _ _ _ (by rw [hc i hi]; rfl)
    · rw [if_neg e, set_other (.inr (fun e' => e e'.symm))]; exact hc i hi
  · have := h.blk.2; have := hg.size; simp [World.setCell]; omega
  · show (W'.setCell _ _).ownsRow S 3 1 (if i = q then Value.slice (some ⟨g, 0, none⟩) n cap else hs i) (if i = q then l else ls i).length ((if i = q then l else ls i).map (Value.int .i64))
    by_cases e : i = q
    · rw [if_pos e, if_pos e]
      refine owns_setCell_other ho (fun g' e1 => ?_) _
      have e1' : some g = some g' := e1
      injection e1' with e2
      omega
    · rw [if_neg e, if_neg e]
      refine owns_setCell_other (owns_other (h.row i hi) hg (fun g' e1 e2 => h.sep i q hi hq e g' e1 e2)) (fun g' e1 e2 => h.apart i hi g' e1 e2.symm) _
  · have e1' : (if i = q then Value.slice (some ⟨g, 0, none⟩) n cap else hs i).ownBlock = some g' := e1
    have e2' : (if j = q then Value.slice (some ⟨g, 0, none⟩) n cap else hs j).ownBlock = some g' := e2
    by_cases ei : i = q
    · rw [if_pos ei] at e1'
      rw [if_neg (by omega)] at e2'
      have e3 : some g = some g' := e1'
      injection e3 with e4
      exact hother j hj (by omega) g' e2' e4.symm
    · rw [if_neg ei] at e1'
      by_cases ej : j = q
      · rw [if_pos ej] at e2'
        have e3 : some g = some g' := e2'
        injection e3 with e4
        exact hother i hi ei g' e1' e4.symm
      · rw [if_neg ej] at e2'
        exact h.sep i j hi hj hij g' e1' e2'
  · have e1' : (if i = q then Value.slice (some ⟨g, 0, none⟩) n cap else hs i).ownBlock = some g' := e1
    by_cases ei : i = q
    · rw [if_pos ei] at e1'
      have e3 : some g = some g' := e1'
      injection e3 with e4
      omega
    · rw [if_neg ei] at e1'
      exact h.apart i hi g' e1'
  · exact (h.low.grown hg (Nat.le_trans h.blk.1 (Nat.le_of_lt h.blk.2)) (fun g' e => ((h.row q hq).lt g' e).1)).setCell h.blk.1 _

theorem RowsO.below {S g0 m : Nat} {hs : Nat → Value} {ls : Nat → List Int} {w W W' : World} (h : RowsO S g0 m hs ls w W) (hb : Below W.heap.size W W') : RowsO S g0 m hs ls w W' :=
  ⟨fun i hi => ⟨below_cell hb (h.hdr i hi).1, by rw [hb.frozen (p := ⟨g0, i, none⟩) h.blk.2]; exact (h.hdr i hi).2⟩, ⟨h.blk.1, Nat.lt_of_lt_of_le h.blk.2 hb.size⟩, fun i hi => owns_below (h.row i hi) hb, h.sep, h.apart, h.low.trans (hb.mono (Nat.le_trans h.blk.1 (Nat.le_of_lt h.blk.2)))⟩

/-- Read as rows. -/
theorem owns_ints {W : World} {B : Nat} {v : Value} {l : List Int} (h : W.ownsRow B 3 1 v l.length (l.map (Value.int .i64))) (hl : l.length ≤ 1000000) (hr : ∀ z ∈ l, R64 z) : Ints W v l := by
  obtain ⟨p, c, rfl⟩ := owns_slice h
  refine ⟨p, c, rfl, owns_room h, by omega, hr, fun k hk => ?_⟩
  obtain ⟨g, c', e, _, _, h3⟩ := owns_cells h (by omega)
  injection e with e1
  subst e1
  exact ⟨g, 0, rfl, by rw [Nat.zero_add]; exact (h3 k hk).1⟩
theorem RowsO.rows2 {S g0 m c : Nat} {hs : Nat → Value} {ls : Nat → List Int} {w W : World} (h : RowsO S g0 m hs ls w W) (hm : m ≤ 1000000) (hc : m ≤ c) (hl : ∀ i, i < m → (ls i).length ≤ 1000000) (hr : ∀ i, i < m → ∀ z ∈ ls i, R64 z) : Rows2 W (.slice (some ⟨g0, 0, none⟩) m c) ((List.range m).map ls) := by
  refine ⟨_, c, by simp, by simpa using hc, by simp; omega, fun k hk => ⟨g0, 0, hs k, rfl, ?_, ?_⟩⟩
  · simp at hk; rw [Nat.zero_add]; exact (h.hdr k hk).1
  · simp at hk
    have := owns_ints (h.row k hk) (hl k hk) (hr k hk)
    simpa using this

set_option maxRecDepth 100000 in
/-- An append of one integer as a step of a region that draws. -/
theorem step_app_int {ops : Array Oper} {o : Oper} {a : Act} {K : Act → World → Prop} {Q : Exit → Act → World → Prop} {E : Prop} {W : World} (hgd : o.guard = none) (s x : Operand) (ho : o.op = .call { callee := .builtin .append, args := #[s, x], argTypes := #[23, 23] })
    (base n : Nat) (v : Value) (xs : List Value) (hs : a.eval s = v) (hown : W.ownsRow base 3 1 v n xs) (b c : Nat) (z : Int) (hx : a.eval x = .slice (some ⟨b, 0, none⟩) 1 c) (hcell : W.cell? ⟨b, 0, none⟩ = some (.int .i64 z)) (hn : n ≤ 1000000) (hbase : base ≤ W.heap.size) (H : Nat) (hH : W.heap.size = H)
    (h : ∀ g cap w', w'.ownsRow base 3 1 (.slice (some ⟨g, 0, none⟩) (n + 1) cap) (n + 1) (xs ++ [.int .i64 z]) → W.grownBy w' v.ownBlock → (v.ownBlock = some g ∨ g = H) → g < w'.heap.size → K (a.put o.dst (.slice (some ⟨g, 0, none⟩) (n + 1) cap)) w') :
    if Region.wanted o (yielded ops a.tmps) = true then Oper.wp Try.prog o a W K Q else E := by
  obtain ⟨i0, hi0, hz0, hz1, hz2⟩ := info_parts infoInt
  refine step_append_lies _ hgd s x 23 ho base 3 i0 (.int .i64 0) 1 8 Try.underlying23 hi0 hz0 hz1 hz2 rfl (by decide) v n xs hs hown ⟨b, 0, none⟩ 1 c [.int .i64 z] hx rfl ?_ ?_ (by decide) ?_ ?_ hbase H hH h
  · intro j u hu
    cases j with
    | zero => simp at hu; subst hu; simpa [Addr.add] using hcell
    | succ j => simp at hu
  · simp [Value.oneCell']
  · unfold maxLen; omega
  · omega

/-- The equations of a target: the columns, each followed by the target's element. -/
def eqRows (rows : List (List Int)) (t : List Int) : List (List Int) := (List.range t.length).map fun i => colOf rows i ++ [nth t i]
def rcombM (rows : List (List Int)) (t : List Int) : Mat × List Nat := redR t.length (matOf (eqRows rows t)) rows.length
def okM (x : Mat) (r n m : Nat) : Bool := (List.range (m - r)).all fun j => x (r + j) n == 0
def rcombOk (rows : List (List Int)) (t : List Int) : Bool := okM (rcombM rows t).1 (rcombM rows t).2.length rows.length t.length
def rcombY (rows : List (List Int)) (t : List Int) : List Int := (List.range rows.length).map (combF (rcombM rows t).1 (rcombM rows t).2 rows.length (rcombM rows t).2.length)
theorem eqRows_len (rows : List (List Int)) (t : List Int) : (eqRows rows t).length = t.length := by simp [eqRows]
theorem eqRows_row {rows : List (List Int)} {t : List Int} : ∀ r ∈ eqRows rows t, r.length = rows.length + 1 := fun r hr => by
  obtain ⟨i, hi, rfl⟩ := List.mem_map.1 hr
  simp [colOf]
theorem eqRows_num {rows : List (List Int)} {t : List Int} (hl : ∀ r ∈ rows, r.length = t.length) (hn : ∀ r ∈ rows, ∀ z ∈ r, 0 ≤ z ∧ z < 1073741789) (ht : ∀ z ∈ t, 0 ≤ z ∧ z < 1073741789) : ∀ r ∈ eqRows rows t, ∀ z ∈ r, 0 ≤ z ∧ z < 1073741789 := fun r hr z hz => by
  obtain ⟨i, hi, rfl⟩ := List.mem_map.1 hr
  rw [List.mem_range] at hi
  rcases List.mem_append.1 hz with h | h
  · obtain ⟨r', hr', rfl⟩ := List.mem_map.1 h
    rw [nth_at (by rw [hl r' hr']; exact hi)]
    exact hn r' hr' _ (List.getElem_mem _)
  · rw [List.mem_singleton.1 h, nth_at hi]
    exact ht _ (List.getElem_mem _)

end Go.Proofs.Ytjjoadmkpbmhpaa

namespace Go.Proofs.Ytjjoadmkpbmhpaa
open Go.RowKit

end Go.Proofs.Ytjjoadmkpbmhpaa

namespace Go.Proofs.Ytjjoadmkpbmhpaa

theorem turn_eq {rows : List (List Int)} {t : List Int} {i : Nat} (hi : i < t.length) (j : Nat) : turnMat rows t i j = matOf (eqRows rows t) i j := by
  have : (eqRows rows t)[i]? = some (colOf rows i ++ [nth t i]) := by unfold eqRows; simp [hi]
  unfold matOf
  rw [this]; rfl
theorem eq_num {rows : List (List Int)} {t : List Int} (h : Right rows t.length) (ht : ∀ z ∈ t, 0 ≤ z ∧ z < 1073741789) : NumM t.length (rows.length + 1) (matOf (eqRows rows t)) := fun i j hi hj => by
  have hi' : i < (eqRows rows t).length := by rw [eqRows_len]; exact hi
  have hl := eqRows_row _ (List.getElem_mem hi')
  rw [matOf_at hi' (by omega)]; exact eqRows_num h.len h.num ht _ (List.getElem_mem hi') _ (List.getElem_mem _)

theorem comb_same {rows : List (List Int)} {t : List Int} (h : Right rows t.length) (ht : ∀ z ∈ t, 0 ≤ z ∧ z < 1073741789) : combOk rows t = rcombOk rows t ∧ combY rows t = rcombY rows t := by
  obtain ⟨h1, h2⟩ := redM_redR (x := turnMat rows t) (eq_num h ht) (fun i j hi hj => turn_eq hi j) rows.length (by omega)
  have h1' : (combM rows t).2 = (rcombM rows t).2 := h1
  have h2' : ∀ i j, i < t.length → j < rows.length + 1 → (combM rows t).1 i j = (rcombM rows t).1 i j := h2
  have hle : (rcombM rows t).2.length ≤ t.length := redR_len _ _ _
  constructor
  · unfold combOk rcombOk okM
    rw [h1', Bool.eq_iff_iff, List.all_eq_true, List.all_eq_true]
    constructor
    · intro h3 j hj
      rw [List.mem_range] at hj
      rw [← h2' _ _ (by omega) (by omega)]; exact h3 j (List.mem_range.2 hj)
    · intro h3 j hj
      rw [List.mem_range] at hj
      rw [h2' _ _ (by omega) (by omega)]; exact h3 j (List.mem_range.2 hj)
  · unfold combY rcombY
    rw [h1']
    refine List.map_congr_left fun i _ => ?_
    have : ∀ K, K ≤ (rcombM rows t).2.length → combF (combM rows t).1 (rcombM rows t).2 rows.length K i = combF (rcombM rows t).1 (rcombM rows t).2 rows.length K i := fun K => by
      induction K with
      | zero => intro _; rfl
      | succ K ih =>
        intro hK
        unfold combF
        rw [ih (by omega), h2' K rows.length (by omega) (by omega)]
    exact this _ (Nat.le_refl _)

/-! Separate. -/
/-- A list, in the field. -/
def cv (l : List Int) : Nat → Fq := fun j => cq (nth l j)

theorem cq_prodF (a b : List Int) : ∀ K, cq (prodF a b K) = sm K (fun j => cv a j * cv b j)
  | 0 => cq_0
  | K + 1 => by
    show cq ((prodF a b K + nth a K * nth b K % 1073741789) % 1073741789) = sm K _ + cq (nth a K) * cq (nth b K)
    rw [cq_mod, cq_add, cq_mod, cq_mul, cq_prodF a b K]
theorem cq_prodQ (a b : List Int) : cq (prodQ a b) = dt a.length (cv a) (cv b) := cq_prodF a b a.length

end Go.Proofs.Ytjjoadmkpbmhpaa

namespace Go.Proofs.Ytjjoadmkpbmhpaa

theorem pf_mono {piv : List Nat} (h : Sorted piv) : ∀ k l, k < l → l < piv.length → pf piv k < pf piv l := fun k l h1 h2 => by
  unfold pf; rw [List.getElem?_eq_getElem (by omega), List.getElem?_eq_getElem h2]; exact h k l (by omega) h2 h1

/-- What the program's Combine and Separate return, in the reference's words. -/
theorem comb_err {rows : List (List Int)} {t : List Int} : (decide (examErr rows t = 0) && combOk rows t) = (decide (examErr rows t = 0) && rcombOk rows t) ∧ (if examErr rows t = 0 ∧ combOk rows t = true then combY rows t else []) = (if examErr rows t = 0 ∧ rcombOk rows t = true then rcombY rows t else []) := by
  by_cases h0 : examErr rows t = 0
  · obtain ⟨h1, h2, h3⟩ := examErr_ok_iff h0
    obtain ⟨h4, h5⟩ := comb_same h1 h2
    rw [h4, h5]; exact ⟨rfl, rfl⟩
  · rw [decide_eq_false h0, if_neg (fun h => h0 h.1), if_neg (fun h => h0 h.1)]; exact ⟨rfl, rfl⟩
end Go.Proofs.Ytjjoadmkpbmhpaa

namespace Go.Proofs.Ytjjoadmkpbmhpaa

def pivMi (inv : Int → Int) (x : Mat) (n r c k : Nat) : Mat := clearA (scaleM (swapM x r k) r c (inv (x k c))) r c n
def stepMi (inv : Int → Int) (n : Nat) (s : Mat × List Nat) (c : Nat) : Mat × List Nat :=
  if findP s.1 n c s.2.length < n then (pivMi inv s.1 n s.2.length c (findP s.1 n c s.2.length), s.2 ++ [c]) else s
def redMi (inv : Int → Int) (n : Nat) (x : Mat) (many : Nat) : Mat × List Nat := (List.range many).foldl (stepMi inv n) (x, [])
theorem redMi_eq : redM = redMi invQ := rfl

/-- The power by squaring, with fuel. -/
def lpowE : Nat → Int → Nat → Int
  | 0, _, _ => 1
  | f + 1, a, n => if n = 0 then 1 else if n % 2 = 1 then lpowE f (a * a % 1073741789) (n / 2) * a % 1073741789 else lpowE f (a * a % 1073741789) (n / 2)
theorem powE_eq : ∀ (f : Nat) (a : Int) (n : Nat), n < 2 ^ f → lpowE f a n = a ^ n % 1073741789
  | 0, a, n, h => by
    obtain rfl : n = 0 := by simp at h; omega
    rw [Int.pow_zero]; rfl
  | f + 1, a, n, h => by
    unfold lpowE
    by_cases h0 : n = 0
    · subst h0; rw [if_pos rfl, Int.pow_zero]; rfl
    · rw [if_neg h0]
      have hlt : n / 2 < 2 ^ f := by rw [Nat.pow_succ] at h; omega
      have ih := powE_eq f (a * a % 1073741789) (n / 2) hlt
      rw [ih, powmod]
      by_cases h1 : n % 2 = 1
      · rw [if_pos h1, mulmod_l, pow_half a n, h1, Int.pow_succ, Int.pow_zero, Int.one_mul]
      · rw [if_neg h1, pow_half a n, show n % 2 = 0 by omega, Int.pow_zero, Int.mul_one]
def invE (n : Int) : Int := lpowE 30 n 1073741787
theorem invE_eq : invQ = invE := by
  funext n; unfold invQ powQ invE; rw [powE_eq 30 n 1073741787 (by decide)]
theorem redM_E : redM = redMi invE := by rw [redMi_eq, invE_eq]

theorem ex_comb1 : combOk [[1, 1], [0, 1]] [1, 0] = true ∧ combY [[1, 1], [0, 1]] [1, 0] = [1, 1073741788] := by
  unfold combOk combY combM; rw [redM_E]; decide +kernel
end Go.Proofs.Ytjjoadmkpbmhpaa

namespace Go.Proofs.Ytjjoadmkpbmhpaa
open Go.RowKit

end Go.Proofs.Ytjjoadmkpbmhpaa

namespace Go.Proofs.Ytjjoadmkpbmhpaa
open Go.RowKit

end Go.Proofs.Ytjjoadmkpbmhpaa

namespace Go.Proofs.Ytjjoadmkpbmhpaa
open Go.RowKit

theorem ints_lit (w : World) (zs : List Int) (cs : Array Value) (t : TypeId) (hc : cs = (zs.map (Value.int .i64)).toArray) (hr : ∀ z ∈ zs, R64 z) (hn : zs.length ≤ 1000) : Ints (w.alloc (.cells cs t)) (.slice (some ⟨w.heap.size, 0, none⟩) zs.length zs.length) zs := by
  refine ⟨_, _, rfl, Nat.le_refl _, by omega, hr, fun k hk => ⟨_, 0, rfl, ?_⟩⟩
  rw [World.cell?_alloc_at _ _ _ _ rfl, hc, Nat.zero_add]
  simp [hk]
theorem rows_lit (w : World) (rows : List (List Int)) (hs : List Value) (cs : Array Value) (t : TypeId) (hc : cs = hs.toArray) (hl : hs.length = rows.length) (hn : rows.length ≤ 1000) (hi : ∀ k (h1 : k < hs.length) (h2 : k < rows.length), Ints w hs[k] rows[k]) :
    Rows2 (w.alloc (.cells cs t)) (.slice (some ⟨w.heap.size, 0, none⟩) rows.length rows.length) rows := by
  refine ⟨_, _, rfl, Nat.le_refl _, by omega, fun k hk => ⟨_, 0, hs[k]'(by omega), rfl, ?_, (hi k (by omega) hk).below ((Below.refl _ _).alloc (Nat.le_refl _) _)⟩⟩
  rw [World.cell?_alloc_at _ _ _ _ rfl, hc, Nat.zero_add]
  simp [show k < hs.length by omega]

abbrev sl (b n : Nat) : Value := .slice (some ⟨b, 0, none⟩) n n
theorem below_a (w : World) (o : Obj) : Below w.heap.size w (w.alloc o) := (Below.refl _ _).alloc (Nat.le_refl _) o

theorem r2 (z : Int) (h : decide (-9223372036854775808 ≤ z ∧ z ≤ 9223372036854775807) = true) : R64 z := by unfold R64; simpa using h
theorem rall (zs : List Int) (h : (zs.all fun z => decide (-9223372036854775808 ≤ z ∧ z ≤ 9223372036854775807)) = true) : ∀ z ∈ zs, R64 z := fun z hz => r2 z (List.all_eq_true.1 h z hz)

theorem rows_2 (w : World) (a b : List Int) (ca cb : Array Value) (t u : TypeId) (h1 : ca = (a.map (Value.int .i64)).toArray) (h2 : cb = (b.map (Value.int .i64)).toArray) (r1 : (a.all fun z => decide (-9223372036854775808 ≤ z ∧ z ≤ 9223372036854775807)) = true) (r2 : (b.all fun z => decide (-9223372036854775808 ≤ z ∧ z ≤ 9223372036854775807)) = true) (n1 : a.length ≤ 1000) (n2 : b.length ≤ 1000) :
    Rows2 (((w.alloc (.cells ca t)).alloc (.cells cb t)).alloc (.cells #[sl w.heap.size a.length, sl (w.heap.size + 1) b.length] u)) (sl (w.heap.size + 1 + 1) 2) [a, b] := by
  have ib := ints_lit (w.alloc (.cells ca t)) b cb t h2 (rall b r2) n2
  have ia := (ints_lit w a ca t h1 (rall a r1) n1).below (below_a _ (.cells cb t))
  have := rows_lit ((w.alloc (.cells ca t)).alloc (.cells cb t)) [a, b] [sl w.heap.size a.length, sl (w.heap.size + 1) b.length] _ u rfl rfl (by simp) (fun k k1 k2 => by
    have : k = 0 ∨ k = 1 := by simp at k1; omega
    rcases this with rfl | rfl
    · exact ia
    · simpa using ib)
  simpa using this
set_option maxRecDepth 100000 in
/-- Combine and Separate at rows whose result is known. -/
theorem Combine_is (v u : Value) (rows : List (List Int)) (t y : List Int) (ok : Bool) (e : Int) (w : World) (hI : Rows2 w v rows) (hU : Ints w u t) (he : examErr rows t = e) (hok : (decide (e = 0) && combOk rows t) = ok) (hy : (if e = 0 ∧ combOk rows t = true then combY rows t else []) = y) :
    Calls Try.prog 55 #[v, u] w fun r w' => ∃ yv, r = .returned (.tuple #[yv, .bool ok, .int .i64 e]) ∧ Ints w' yv y ∧ Below w.heap.size w w' :=
  (Combine_any v u rows t w hI hU).mono fun r w' ⟨yv, h1, h2, h3⟩ => ⟨yv, by rw [h1, he, hok], by rw [he, hy] at h2; exact h2, h3⟩
/-! The calls, one by one. -/
set_option maxRecDepth 100000 in
theorem s3 (w : World) : Calls Try.prog 55 #[sl (w.heap.size + 1 + 1) 2, sl (w.heap.size + 1 + 1 + 1) 2]
    ((((w.alloc (.cells #[.int .i64 1, .int .i64 1] 3)).alloc (.cells #[.int .i64 0, .int .i64 1] 3)).alloc (.cells #[sl w.heap.size 2, sl (w.heap.size + 1) 2] 23)).alloc (.cells #[.int .i64 1, .int .i64 0] 3))
    fun r w' => ∃ yv, r = .returned (.tuple #[yv, .bool true, .int .i64 0]) ∧ Ints w' yv [1, 1073741788] ∧ Below w.heap.size w w' := by
  have hT := ints_lit (((w.alloc (.cells #[.int .i64 1, .int .i64 1] 3)).alloc (.cells #[.int .i64 0, .int .i64 1] 3)).alloc (.cells #[sl w.heap.size 2, sl (w.heap.size + 1) 2] 23)) [1, 0] #[.int .i64 1, .int .i64 0] 3 rfl (rall _ (by decide)) (by decide)
  simp only [World.size_alloc] at hT
  exact (Combine_is _ _ [[1, 1], [0, 1]] [1, 0] [1, 1073741788] true 0 _ ((rows_2 w [1, 1] [0, 1] _ _ 3 23 rfl rfl (by decide) (by decide) (by decide) (by decide)).below (below_a _ _)) hT (by decide) (by rw [ex_comb1.1]; rfl) (by rw [ex_comb1.1, ex_comb1.2]; rfl)).mono
    fun r w' ⟨yv, h1, h2, h3⟩ => ⟨yv, h1, h2, ((below_three w _ _ _).alloc (by simp; omega) _).trans (h3.mono (by simp; omega))⟩

end Go.Proofs.Ytjjoadmkpbmhpaa

namespace Go.Proofs.Ytjjoadmkpbmhpaa

/-- Rows, in the field. -/
def fm (rows : List (List Int)) : FMat := cm (matOf rows)
theorem fm_row (rows : List (List Int)) {i : Nat} (hi : i < rows.length) (j : Nat) : fm rows i j = cv rows[i] j := by
  show cq (((rows[i]?).getD [])[j]?.getD 0) = cq (rows[i][j]?.getD 0)
  rw [List.getElem?_eq_getElem hi]; rfl

theorem eq_left (rows : List (List Int)) (t : List Int) {k i : Nat} (hk : k < t.length) (hi : i < rows.length) : cm (matOf (eqRows rows t)) k i = fm rows i k := by
  show cq (matOf (eqRows rows t) k i) = _
  rw [← turn_eq hk]
  show cq ((colOf rows k ++ [nth t k])[i]?.getD 0) = _
  rw [List.getElem?_append_left (by simpa [colOf] using hi)]
  unfold colOf
  rw [List.getElem?_map, List.getElem?_eq_getElem hi, fm_row rows hi]; rfl
theorem eq_right (rows : List (List Int)) (t : List Int) {k : Nat} (hk : k < t.length) : cm (matOf (eqRows rows t)) k rows.length = cv t k := by
  show cq (matOf (eqRows rows t) k rows.length) = _
  rw [← turn_eq hk]
  show cq ((colOf rows k ++ [nth t k])[rows.length]?.getD 0) = _
  rw [List.getElem?_append_right (by simp [colOf])]
  simp [colOf]; rfl

/-- A vector, followed by -1. -/
def ext (n : Nat) (y : Nat → Fq) : Nat → Fq := fun j => if j = n then -1 else y j
theorem ext_lt {n j : Nat} (y : Nat → Fq) (h : j < n) : ext n y j = y j := if_neg (by omega)
theorem ext_at (n : Nat) (y : Nat → Fq) : ext n y n = -1 := if_pos rfl
theorem dt_ext (n : Nat) (u y : Nat → Fq) : dt (n + 1) u (ext n y) = sm n (fun j => u j * y j) + u n * (-1) := by
  show sm n (fun j => u j * ext n y j) + u n * ext n y n = _
  rw [ext_at, sm_congr (fun j hj => by rw [ext_lt y hj])]

/-- What a combination makes, as a vector of the kernel of the equations. -/
theorem ker_eq (rows : List (List Int)) (t : List Int) (y : Nat → Fq) : Ker t.length (rows.length + 1) (cm (matOf (eqRows rows t))) (ext rows.length y) ↔ ∀ k, k < t.length → cv t k = sm rows.length (fun i => y i * fm rows i k) := by
  have key : ∀ k, k < t.length → dt (rows.length + 1) (cm (matOf (eqRows rows t)) k) (ext rows.length y) = sm rows.length (fun i => y i * fm rows i k) - cv t k := fun k hk => by
    rw [dt_ext, eq_right rows t hk, sm_congr (g := fun i => y i * fm rows i k) (fun i hi => by rw [eq_left rows t hk hi]; exact Fin.mul_comm _ _)]
    grind
  constructor
  · intro h k hk
    have := h k hk
    rw [key k hk] at this
    grind
  · intro h k hk
    rw [key k hk, h k hk]; grind

theorem combF_at {x : Mat} {piv : List Nat} {n : Nat} (hs : ∀ k l, k < l → l < piv.length → pf piv k < pf piv l) : ∀ K, K ≤ piv.length → ∀ k, k < K → combF x piv n K (pf piv k) = x k n
  | 0, _, k, hk => absurd hk (Nat.not_lt_zero _)
  | K + 1, hK, k, hk => by
    show (if pf piv k = pf piv K then x K n else combF x piv n K (pf piv k)) = _
    by_cases e : k = K
    · rw [if_pos (by rw [e]), e]
    · have := hs k K (by omega) (by omega)
      rw [if_neg (by omega)]; exact combF_at hs K (by omega) k (by omega)
theorem combF_ne {x : Mat} {piv : List Nat} {n j : Nat} : ∀ K, (∀ k, k < K → pf piv k ≠ j) → combF x piv n K j = 0
  | 0, _ => rfl
  | K + 1, h => by
    show (if j = pf piv K then x K n else combF x piv n K j) = _
    rw [if_neg (fun e => h K (by omega) e.symm)]; exact combF_ne K (fun k hk => h k (by omega))

theorem comb_red {rows : List (List Int)} {t : List Int} (h : Right rows t.length) (ht : ∀ z ∈ t, 0 ≤ z ∧ z < 1073741789) : Red t.length (rows.length + 1) (cm (matOf (eqRows rows t))) (cm (rcombM rows t).1) (rcombM rows t).2.length (pf (rcombM rows t).2) rows.length :=
  redR_red (eq_num h ht) rows.length (by omega)

theorem nth_map (n : Nat) (f : Nat → Int) {i : Nat} (hi : i < n) : nth ((List.range n).map f) i = f i := by unfold nth; simp [hi]

/-- The combination makes the target. -/
theorem comb_makes {rows : List (List Int)} {t : List Int} (h : Right rows t.length) (ht : ∀ z ∈ t, 0 ≤ z ∧ z < 1073741789) (hok : rcombOk rows t = true) : ∀ k, k < t.length → cv t k = sm rows.length (fun i => cv (rcombY rows t) i * fm rows i k) := by
  have hR := comb_red h ht
  have hlt : (∀ p ∈ (rcombM rows t).2, p < rows.length) ∧ Sorted (rcombM rows t).2 := redR_lt _ _ _
  have hy : ∀ i, i < rows.length → cv (rcombY rows t) i = cq (combF (rcombM rows t).1 (rcombM rows t).2 rows.length (rcombM rows t).2.length i) := fun i hi => by
    unfold cv rcombY; rw [nth_map _ _ hi]
  have hz : ∀ q, (rcombM rows t).2.length ≤ q → q < t.length → (rcombM rows t).1 q rows.length = 0 := fun q h1 h2 => by
    have := List.all_eq_true.1 hok (q - (rcombM rows t).2.length) (List.mem_range.2 (by omega))
    rw [show (rcombM rows t).2.length + (q - (rcombM rows t).2.length) = q by omega] at this
    simpa using this
  generalize hx : (rcombM rows t).1 = x at *
  generalize hp : (rcombM rows t).2 = piv at *
  rw [← ker_eq]
  refine (hR.ker _).1 fun q hq => ?_
  rw [dt_ext]
  by_cases hqr : q < piv.length
  · rw [sm_pivots (p := pf piv) (r := piv.length) (fun k hk => hR.pc k hk) hR.mono (fun j hj hno => by
      show cm x q j * cv (rcombY rows t) j = 0
      rw [hy j hj, combF_ne _ hno, cq_0]; grind), sm_one (k := q) hqr (fun k hk hne => by
      show cm x q (pf piv k) * cv (rcombY rows t) (pf piv k) = 0
      rw [hR.zero k q hk hq (fun e => hne e.symm)]; grind)]
    show cm x q (pf piv q) * cv (rcombY rows t) (pf piv q) + _ = 0
    rw [hR.one q hqr, hy _ (hR.pc q hqr), combF_at (pf_mono hlt.2) _ (Nat.le_refl _) q hqr]
    show 1 * cm x q rows.length + cm x q rows.length * (-1) = 0
    grind
  · rw [sm_zero (fun j hj => by
      show cm x q j * cv (rcombY rows t) j = 0
      rw [hR.low q j (by omega) hq hj]; grind)]
    show 0 + cq (x q rows.length) * (-1) = 0
    rw [hz q (by omega) hq, cq_0]; grind

end Go.Proofs.Ytjjoadmkpbmhpaa

namespace Go.Proofs.Ytjjoadmkpbmhpaa

end Go.Proofs.Ytjjoadmkpbmhpaa

namespace Go.Proofs.Ytjjoadmkpbmhpaa
open Go.RowKit

set_option maxRecDepth 100000 in
theorem Comb_yes (v u : Value) (rows : List (List Int)) (t : List Int) (w : World) (hI : Rows2 w v rows) (hU : Ints w u t) (h0 : examErr rows t = 0) (hok : rcombOk rows t = true) :
    Calls Try.prog 55 #[v, u] w fun r w' => ∃ yv, r = .returned (.tuple #[yv, .bool true, .int .i64 0]) ∧ Ints w' yv (rcombY rows t) ∧ Below w.heap.size w w' := by
  refine Combine_is v u rows t _ _ _ w hI hU h0 ?_ ?_
  · have := (comb_err (rows := rows) (t := t)).1
    rw [h0, hok] at this; exact this
  · have := (comb_err (rows := rows) (t := t)).2
    rw [h0] at this
    rw [this, if_pos ⟨rfl, hok⟩]
set_option maxRecDepth 100000 in
theorem Comb_no (v u : Value) (rows : List (List Int)) (t : List Int) (w : World) (hI : Rows2 w v rows) (hU : Ints w u t) (h0 : examErr rows t = 0) (hok : rcombOk rows t = false) :
    Calls Try.prog 55 #[v, u] w fun r w' => ∃ yv, r = .returned (.tuple #[yv, .bool false, .int .i64 0]) ∧ Ints w' yv [] ∧ Below w.heap.size w w' := by
  refine Combine_is v u rows t _ _ _ w hI hU h0 ?_ ?_
  · have := (comb_err (rows := rows) (t := t)).1
    rw [h0, hok] at this; exact this
  · have := (comb_err (rows := rows) (t := t)).2
    rw [h0] at this
    rw [this, if_neg (by rw [hok]; simp)]
theorem rcombY_len (rows : List (List Int)) (t : List Int) : (rcombY rows t).length = rows.length := by simp [rcombY]

end Go.Proofs.Ytjjoadmkpbmhpaa
