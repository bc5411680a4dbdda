/- The reference of package linear: Combine. The reference of package linear: Combine, where there are no columns. The laws' own functions: right, made, proves. The laws' own functions: made. -/
import Derived.Test.YtnbkbnbmmkfckaaGreatMLinR
import Derived.Deep.RegionLaw
import Derived.Deep.AppendLies
namespace Go.Proofs.YtnbkbnbmmkfckaaGreat
open Go.RowKit

/-- Rows of the call's own behind headers in a block. -/
structure RowsO (S g0 m : Nat) (hs : Nat → Value) (ls : Nat → List Int) (w W : World) : Prop where
  hdr : ∀ i, i < m → W.cell? ⟨g0, i, none⟩ = some (hs i) ∧ W.frozen? ⟨g0, i, none⟩ = false
  blk : S ≤ g0 ∧ g0 < W.heap.size
  row : ∀ i, i < m → W.ownsRow S 3 1 (hs i) (ls i).length ((ls i).map (Value.int .i64))
  sep : ∀ i j, i < m → j < m → i ≠ j → ∀ g, (hs i).ownBlock = some g → (hs j).ownBlock ≠ some g
  apart : ∀ i, i < m → ∀ g, (hs i).ownBlock = some g → g ≠ g0
  low : Below S w W

theorem TurnS.rows {S m : Nat} {hs : Nat → Value} {ls : Nat → List Int} {ov : Value} {w W : World} (h : TurnS S m hs ls ov w W) (hm : 0 < m) : ∃ g0 c, ov = .slice (some ⟨g0, 0, none⟩) m c ∧ m ≤ c ∧ RowsO S g0 m hs ls w W := by
  have h0 := h.out
  obtain ⟨hl, ⟨-, e⟩ | ⟨g, cap, cur, rfl, hB, hh, hcc, hrest⟩⟩ := h.out
  · omega
  · refine ⟨g, cap, rfl, hcc, fun i hi => ⟨?_, h0.frozenAt i⟩, ⟨hB, (Array.getElem?_eq_some_iff.1 hh).1⟩, h.row, h.sep, fun i hi g' e1 e2 => ?_, h.low⟩
    · rw [h0.cellAt i (by omega)]; simp [hi]
    · subst e2; exact owns_types (h.row i hi) h0 (by decide) _ e1 rfl

/-- A row grows, and its header is stored. -/
theorem RowsO.step {S g0 m q : Nat} {hs : Nat → Value} {ls : Nat → List Int} {w W W' : World} (h : RowsO S g0 m hs ls w W) (hq : q < m) {g n cap : Nat} {l : List Int}
    (ho : W'.ownsRow S 3 1 (.slice (some ⟨g, 0, none⟩) n cap) l.length (l.map (Value.int .i64))) (hg : W.grownBy W' (hs q).ownBlock) (hgb : (hs q).ownBlock = some g ∨ W.heap.size ≤ g) :
    RowsO S g0 m (fun i => if i = q then .slice (some ⟨g, 0, none⟩) n cap else hs i) (fun i => if i = q then l else ls i) w (W'.setCell ⟨g0, q, none⟩ (.slice (some ⟨g, 0, none⟩) n cap)) := by
  have hne : some g0 ≠ (hs q).ownBlock := fun e => h.apart q hq g0 e.symm rfl
  have hc : ∀ i, i < m → W'.cell? ⟨g0, i, none⟩ = some (hs i) := fun i hi => by
    rw [World.cell?_of_block (w := W) (w' := W') (a := ⟨g0, i, none⟩) (hg.block g0 h.blk.2 hne)]; exact (h.hdr i hi).1
  have hf : ∀ i, i < m → W'.frozen? ⟨g0, i, none⟩ = false := fun i hi => by
    rw [World.frozen?_of_block (w := W) (w' := W') (a := ⟨g0, i, none⟩) (hg.block g0 h.blk.2 hne)]; exact (h.hdr i hi).2
  have hg0 : g ≠ g0 := by
    rcases hgb with e | e
    · exact h.apart q hq g e
    · have := h.blk.2; omega
  have hother : ∀ i, i < m → i ≠ q → ∀ g', (hs i).ownBlock = some g' → g' ≠ g := fun i hi e g' e1 e2 => by
    subst e2
    rcases hgb with e3 | e3
    · exact h.sep i q hi hq e _ e1 e3
    · have := ((h.row i hi).lt g' e1).2; omega
  refine ⟨fun i hi => ?_, ⟨h.blk.1, ?_⟩, fun i hi => ?_, fun i j hi hj hij g' e1 e2 => ?_, fun i hi g' e1 => ?_, ?_⟩
  · refine ⟨?_, by rw [World.frozen?_setCell]; exact hf i hi⟩
    show _ = some (if i = q then Value.slice (some ⟨g, 0, none⟩) n cap else hs i)
    by_cases e : i = q
    · subst e; rw [if_pos rfl]; exact World.cell?_setCell_same' _ _ _ (by rw [hc i hi]; rfl)
    · rw [if_neg e, set_other (.inr (fun e' => e e'.symm))]; exact hc i hi
  · have := h.blk.2; have := hg.size; simp [World.setCell]; omega
  · show (W'.setCell _ _).ownsRow S 3 1 (if i = q then Value.slice (some ⟨g, 0, none⟩) n cap else hs i) (if i = q then l else ls i).length ((if i = q then l else ls i).map (Value.int .i64))
    by_cases e : i = q
    · rw [if_pos e, if_pos e]
      refine owns_setCell_other ho (fun g' e1 => ?_) _
      have e1' : some g = some g' := e1
      injection e1' with e2
      omega
    · rw [if_neg e, if_neg e]
      refine owns_setCell_other (owns_other (h.row i hi) hg (fun g' e1 e2 => h.sep i q hi hq e g' e1 e2)) (fun g' e1 e2 => h.apart i hi g' e1 e2.symm) _
  · have e1' : (if i = q then Value.slice (some ⟨g, 0, none⟩) n cap else hs i).ownBlock = some g' := e1
    have e2' : (if j = q then Value.slice (some ⟨g, 0, none⟩) n cap else hs j).ownBlock = some g' := e2
    by_cases ei : i = q
    · rw [if_pos ei] at e1'
      rw [if_neg (by omega)] at e2'
      have e3 : some g = some g' := e1'
      injection e3 with e4
      exact hother j hj (by omega) g' e2' e4.symm
    · rw [if_neg ei] at e1'
      by_cases ej : j = q
      · rw [if_pos ej] at e2'
        have e3 : some g = some g' := e2'
        injection e3 with e4
        exact hother i hi ei g' e1' e4.symm
      · rw [if_neg ej] at e2'
        exact h.sep i j hi hj hij g' e1' e2'
  · have e1' : (if i = q then Value.slice (some ⟨g, 0, none⟩) n cap else hs i).ownBlock = some g' := e1
    by_cases ei : i = q
    · rw [if_pos ei] at e1'
      have e3 : some g = some g' := e1'
      injection e3 with e4
      omega
    · rw [if_neg ei] at e1'
      exact h.apart i hi g' e1'
  · exact (h.low.grown hg (Nat.le_trans h.blk.1 (Nat.le_of_lt h.blk.2)) (fun g' e => ((h.row q hq).lt g' e).1)).setCell h.blk.1 _

theorem RowsO.below {S g0 m : Nat} {hs : Nat → Value} {ls : Nat → List Int} {w W W' : World} (h : RowsO S g0 m hs ls w W) (hb : Below W.heap.size W W') : RowsO S g0 m hs ls w W' :=
  ⟨fun i hi => ⟨below_cell hb (h.hdr i hi).1, by rw [hb.frozen (p := ⟨g0, i, none⟩) h.blk.2]; exact (h.hdr i hi).2⟩, ⟨h.blk.1, Nat.lt_of_lt_of_le h.blk.2 hb.size⟩, fun i hi => owns_below (h.row i hi) hb, h.sep, h.apart, h.low.trans (hb.mono (Nat.le_trans h.blk.1 (Nat.le_of_lt h.blk.2)))⟩

/-- Read as rows. -/
theorem owns_ints {W : World} {B : Nat} {v : Value} {l : List Int} (h : W.ownsRow B 3 1 v l.length (l.map (Value.int .i64))) (hl : l.length ≤ 1000000) (hr : ∀ z ∈ l, R64 z) : Ints W v l := by
  obtain ⟨p, c, rfl⟩ := owns_slice h
  refine ⟨p, c, rfl, owns_room h, by omega, hr, fun k hk => ?_⟩
  obtain ⟨g, c', e, _, _, h3⟩ := owns_cells h (by omega)
  injection e with e1
  subst e1
  exact ⟨g, 0, rfl, by rw [Nat.zero_add]; exact (h3 k hk).1⟩
theorem RowsO.rows2 {S g0 m c : Nat} {hs : Nat → Value} {ls : Nat → List Int} {w W : World} (h : RowsO S g0 m hs ls w W) (hm : m ≤ 1000000) (hc : m ≤ c) (hl : ∀ i, i < m → (ls i).length ≤ 1000000) (hr : ∀ i, i < m → ∀ z ∈ ls i, R64 z) : Rows2 W (.slice (some ⟨g0, 0, none⟩) m c) ((List.range m).map ls) := by
  refine ⟨_, c, by simp, by simpa using hc, by simp; omega, fun k hk => ⟨g0, 0, hs k, rfl, ?_, ?_⟩⟩
  · simp at hk; rw [Nat.zero_add]; exact (h.hdr k hk).1
  · simp at hk
    have := owns_ints (h.row k hk) (hl k hk) (hr k hk)
    simpa using this

/-- The equations of a target: the columns, each followed by the target's element. -/
def eqRows (rows : List (List Int)) (t : List Int) : List (List Int) := (List.range t.length).map fun i => colOf rows i ++ [nth t i]
def rcombM (rows : List (List Int)) (t : List Int) : Mat × List Nat := redR t.length (matOf (eqRows rows t)) rows.length
def okM (x : Mat) (r n m : Nat) : Bool := (List.range (m - r)).all fun j => x (r + j) n == 0
def rcombOk (rows : List (List Int)) (t : List Int) : Bool := okM (rcombM rows t).1 (rcombM rows t).2.length rows.length t.length
def rcombY (rows : List (List Int)) (t : List Int) : List Int := (List.range rows.length).map (combF (rcombM rows t).1 (rcombM rows t).2 rows.length (rcombM rows t).2.length)
theorem eqRows_len (rows : List (List Int)) (t : List Int) : (eqRows rows t).length = t.length := by simp [eqRows]
theorem eqRows_row {rows : List (List Int)} {t : List Int} : ∀ r ∈ eqRows rows t, r.length = rows.length + 1 := fun r hr => by
  obtain ⟨i, hi, rfl⟩ := List.mem_map.1 hr
  simp [colOf]
theorem eqRows_num {rows : List (List Int)} {t : List Int} (hl : ∀ r ∈ rows, r.length = t.length) (hn : ∀ r ∈ rows, ∀ z ∈ r, 0 ≤ z ∧ z < 1073741789) (ht : ∀ z ∈ t, 0 ≤ z ∧ z < 1073741789) : ∀ r ∈ eqRows rows t, ∀ z ∈ r, 0 ≤ z ∧ z < 1073741789 := fun r hr z hz => by
  obtain ⟨i, hi, rfl⟩ := List.mem_map.1 hr
  rw [List.mem_range] at hi
  rcases List.mem_append.1 hz with h | h
  · obtain ⟨r', hr', rfl⟩ := List.mem_map.1 h
    rw [nth_at (by rw [hl r' hr']; exact hi)]
    exact hn r' hr' _ (List.getElem_mem _)
  · rw [List.mem_singleton.1 h, nth_at hi]
    exact ht _ (List.getElem_mem _)

end Go.Proofs.YtnbkbnbmmkfckaaGreat

namespace Go.Proofs.YtnbkbnbmmkfckaaGreat
open Go.RowKit

end Go.Proofs.YtnbkbnbmmkfckaaGreat

namespace Go.Proofs.YtnbkbnbmmkfckaaGreat
open Go.RowKit

end Go.Proofs.YtnbkbnbmmkfckaaGreat

namespace Go.Proofs.YtnbkbnbmmkfckaaGreat
open Go.RowKit

end Go.Proofs.YtnbkbnbmmkfckaaGreat
