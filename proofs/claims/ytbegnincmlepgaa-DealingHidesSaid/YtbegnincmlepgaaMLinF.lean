/- Package linear: copies of rows. -/
import Derived.Test.YtbegnincmlepgaaMLinE
import Derived.WalkSpells
import Derived.Deep.OwnRows
namespace Go.Proofs.Ytbegnincmlepgaa
open Go.RowKit

set_option maxRecDepth 100000 in
set_option maxHeartbeats 1000000 in
theorem clone_any (v : Value) (zs : List Int) (w : World) (hI : Ints w v zs) (hnn : ∃ b off n c, v = .slice (some ⟨b, off, none⟩) n c) :
    Calls Try.prog 123 #[v] w fun e w' => ∃ v', e = .returned v' ∧ w'.ownsRow w.heap.size 3 1 v' zs.length (zs.map (Value.int .i64)) ∧ Below w.heap.size w w' := by
  obtain ⟨a, cap, rfl, hcap, hlen, hr, hk⟩ := hI
  obtain ⟨b, off, n, c, hnn⟩ := hnn
  obtain rfl : a = some ⟨b, off, none⟩ := by cases hnn; rfl
  clear hnn
  have hcell : ∀ j (h : j < zs.length), w.cell? ((⟨b, off, none⟩ : Addr).add j) = some (.int .i64 zs[j]) := by
    intro j h
    obtain ⟨b', off', e, hc⟩ := hk j h
    cases e
    unfold Addr.add
    split
    · rename_i e; subst e; simpa using hc
    · exact hc
  clear hk
  go_enter Try.func123, Try.ntmps123
  have hq : (binOp BinOp.eql 23 (.slice (some ⟨b, off, none⟩) zs.length cap) (.slice none 0 0)).run Try.prog w = .ok (.bool false) w := by kernel_rfl
  have hb1 : Below w.heap.size w (w.alloc (.cells #[] 3)) := (Below.refl _ _).alloc (Nat.le_refl _) _
  have hcell1 : ∀ j (h : j < zs.length), (w.alloc (.cells #[] 3)).cell? ((⟨b, off, none⟩ : Addr).add j) = some (.int .i64 zs[j]) := fun j h => by
    rw [hb1.cell (p := (⟨b, off, none⟩ : Addr).add j) (by
      obtain ⟨o, ho, -⟩ := cells_of_cell (hcell j h)
      exact (Array.getElem?_eq_some_iff.1 ho).1)]
    exact hcell j h
  have hown1 : (w.alloc (.cells #[] 3)).ownsRow w.heap.size 3 1 (.slice (some ⟨w.heap.size, 0, none⟩) 0 0) 0 [] := World.ownsRow_lit w #[] 0 (Nat.le_refl _) (by simp) rfl
  go_wp2_with (at_builtin; refine app_ints rfl _ _ rfl w.heap.size 0 _ [] rfl hown1 ⟨b, off, none⟩ cap zs rfl hcell1 (by omega) (by simp) ?_; intro v9 w9 hown9 hgrow9)
  go_ret
  refine ⟨v9, rfl, ?_, hb1.grown hgrow9 (by simp) (fun k e => by cases e; exact Nat.le_refl _)⟩
  rw [Nat.zero_add, List.nil_append] at hown9; exact hown9

/-- The rows as a matrix. -/
def matOf (rows : List (List Int)) : Mat := fun i k => ((rows[i]?).getD [])[k]?.getD 0
theorem matOf_at {rows : List (List Int)} {i k : Nat} (hi : i < rows.length) (hk : k < rows[i].length) : matOf rows i k = rows[i][k] := by
  unfold matOf; rw [List.getElem?_eq_getElem hi, Option.getD_some, List.getElem?_eq_getElem hk, Option.getD_some]

set_option maxRecDepth 100000 in
theorem infoRow : (Try.prog.info? 23).map (fun i => (i.zero, i.size, i.bytes)) = some (some (.slice none 0 0), 1, 24) := by kernel_rfl

theorem owns_cells {W : World} {B : Nat} {v : Value} {zs : List Int} (h : W.ownsRow B 3 1 v zs.length (zs.map (Value.int .i64))) (hm : 0 < zs.length) : ∃ g c, v = .slice (some ⟨g, 0, none⟩) zs.length c ∧ B ≤ g ∧ g < W.heap.size ∧ ∀ k (hk : k < zs.length), W.cell? ⟨g, k, none⟩ = some (.int .i64 zs[k]) ∧ W.frozen? ⟨g, k, none⟩ = false := by
  have h0 := h
  obtain ⟨-, ⟨-, e⟩ | ⟨g, cap, cur, rfl, hB, hh, -⟩⟩ := h
  · omega
  · refine ⟨g, cap, rfl, hB, (Array.getElem?_eq_some_iff.1 hh).1, fun k hk => ⟨?_, h0.frozenAt k⟩⟩
    rw [h0.cellAt k (by omega), List.getElem?_map, List.getElem?_eq_getElem hk]; rfl

/-- What holds while rows are copied. -/
structure CopyI (S n m : Nat) (x : Mat) (w : World) (k : Nat) (rb : Nat → Nat) (W : World) : Prop where
  low : Below S w W
  gt : ∀ i, i < k → S < rb i ∧ rb i < W.heap.size
  inj : ∀ i j, i < k → j < k → rb i = rb j → i = j
  row : ∀ i, i < k → ∃ rc, W.cell? ⟨S, i, none⟩ = some (.slice (some ⟨rb i, 0, none⟩) m rc)
  any : ∀ i, i < n → ∃ v, W.cell? ⟨S, i, none⟩ = some v
  fro : ∀ i, i < n → W.frozen? ⟨S, i, none⟩ = false
  elem : ∀ i j, i < k → j < m → W.cell? ⟨rb i, j, none⟩ = some (.int .i64 (x i j)) ∧ W.frozen? ⟨rb i, j, none⟩ = false

theorem copyI_step {S n m : Nat} {x : Mat} {w W W' : World} {k g c : Nat} {rb : Nat → Nat} (h : CopyI S n m x w k rb W) (hb : Below W.heap.size W W') (hS : S ≤ w.heap.size) (hSW : S < W.heap.size) (hk : k < n) (hg : W.heap.size ≤ g) (hgl : g < W'.heap.size)
    (he : ∀ j, j < m → W'.cell? ⟨g, j, none⟩ = some (.int .i64 (x k j)) ∧ W'.frozen? ⟨g, j, none⟩ = false) :
    CopyI S n m x w (k + 1) (fun i => if i = k then g else rb i) (W'.setCell ⟨S, k, none⟩ (.slice (some ⟨g, 0, none⟩) m c)) := by
  have hcell : ∀ {o : Nat} {v : Value}, W.cell? ⟨S, o, none⟩ = some v → W'.cell? ⟨S, o, none⟩ = some v := fun h => below_cell hb h
  refine ⟨(h.low.trans (hb.mono (Nat.le_trans hS h.low.size))).setCell (Nat.le_refl _) _, fun i hi => ?_, fun i j hi hj => ?_, fun i hi => ?_, fun i hi => ?_, fun i hi => ?_, fun i j hi hj => ?_⟩
  · show S < (if i = k then g else rb i) ∧ _
    have hsz : (W'.setCell ⟨S, k, none⟩ (.slice (some ⟨g, 0, none⟩) m c)).heap.size = W'.heap.size := by simp [World.setCell]
    rw [hsz]
    by_cases e : i = k
    · rw [if_pos e]; exact ⟨by omega, hgl⟩
    · rw [if_neg e]; have := h.gt i (by omega); have := hb.size; omega
  · show (if i = k then g else rb i) = (if j = k then g else rb j) → _
    by_cases e1 : i = k
    · rw [if_pos e1]
      by_cases e2 : j = k
      · intro _; omega
      · rw [if_neg e2]; intro e; have := (h.gt j (by omega)).2; omega
    · rw [if_neg e1]
      by_cases e2 : j = k
      · rw [if_pos e2]; intro e; have := (h.gt i (by omega)).2; omega
      · rw [if_neg e2]; exact h.inj i j (by omega) (by omega)
  · show ∃ rc, (W'.setCell ⟨S, k, none⟩ (.slice (some ⟨g, 0, none⟩) m c)).cell? ⟨S, i, none⟩ = some (Value.slice (some ⟨if i = k then g else rb i, 0, none⟩) m rc)
    by_cases e : i = k
    · subst e
      rw [if_pos rfl]
      obtain ⟨v, hv⟩ := h.any i hk
      exact ⟨c, World.cell?_setCell_same' _ _ _ (by rw [hcell hv]; rfl)⟩
    · rw [if_neg e, set_other (.inr (fun e2 => e e2.symm))]
      obtain ⟨rc, hc⟩ := h.row i (by omega)
      exact ⟨rc, hcell hc⟩
  · obtain ⟨v, hv⟩ := h.any i hi
    by_cases e : k = i
    · subst e; exact ⟨_, World.cell?_setCell_same' _ _ _ (by rw [hcell hv]; rfl)⟩
    · rw [set_other (.inr e)]; exact ⟨v, hcell hv⟩
  · rw [World.frozen?_setCell, hb.frozen (p := ⟨S, i, none⟩) hSW]; exact h.fro i hi
  · show _ ∧ (W'.setCell _ _).frozen? ⟨if i = k then g else rb i, j, none⟩ = false
    rw [World.frozen?_setCell]
    show (W'.setCell _ _).cell? ⟨if i = k then g else rb i, j, none⟩ = _ ∧ _
    by_cases e : i = k
    · subst e
      rw [if_pos rfl, set_other (.inl (by omega))]; exact he j hj
    · rw [if_neg e]
      have hgt := h.gt i (by omega)
      have := h.elem i j (by omega) hj
      rw [set_other (.inl (by omega)), hb.frozen (p := ⟨rb i, j, none⟩) hgt.2]
      exact ⟨below_cell hb this.1, this.2⟩

set_option maxRecDepth 100000 in
set_option maxHeartbeats 2000000 in
theorem copyOf_any (v : Value) (rows : List (List Int)) (m : Nat) (w : World) (hI : Rows2 w v rows) (hm0 : 0 < m) (hm : ∀ r ∈ rows, r.length = m) (hnum : ∀ r ∈ rows, ∀ z ∈ r, 0 ≤ z ∧ z < 1073741789) (hn : rows.length ≤ 1000000) :
    Calls Try.prog 84 #[v] w fun e w' => ∃ rb, e = .returned (.slice (some ⟨w.heap.size, 0, none⟩) rows.length rows.length) ∧ Tab w.heap.size w.heap.size rb rows.length m (matOf rows) w' ∧ w.heap.size < w'.heap.size ∧ Below w.heap.size w w' := by
  obtain ⟨a, cap, rfl, hcap, hlen, hk⟩ := hI
  have HM := Lib.hid hm
  clear hm
  obtain ⟨i0, hi0, hz0, hz1, hz2⟩ := info_parts infoRow
  have hmk := run_make_row (P := Try.prog) 105 23 i0 (.slice none 0 0) Try.underlying105 hi0 hz0 hz1 rfl .i64 .i64 rows.length (by rw [hz2]; omega) (by omega)
  go_enter Try.func84, Try.ntmps84
  go_wp2_with fail
  obtain ⟨W1, hW1⟩ : ∃ W1, w.alloc (.cells (madeCells #[.slice none 0 0] rows.length) 23) = W1 := ⟨_, rfl⟩
  have hc0 : ∀ i, i < rows.length → W1.cell? ⟨w.heap.size, i, none⟩ = some (.slice none 0 0) := fun i hi => by
    rw [← hW1, World.cell?_alloc_at _ _ _ _ rfl]; simp [madeCells, hi, Nat.mod_one]
  have hf0 : ∀ i, i < rows.length → W1.frozen? ⟨w.heap.size, i, none⟩ = false := fun i hi => by rw [← hW1]; exact World.frozen?_alloc_at _ _ _ _ rfl
  have hb1 : Below w.heap.size w W1 := by rw [← hW1]; exact (Below.refl _ _).alloc (Nat.le_refl _) _
  have hs1 : w.heap.size < W1.heap.size := by rw [← hW1]; simp
  rw [hW1]
  go_loopw [4, 5, 11] (fun _ _ i wr => ∃ (k : Nat) (rb : Nat → Nat), k ≤ rows.length ∧ i = .int .i64 k ∧ CopyI w.heap.size rows.length m (matOf rows) w k rb wr ∧ w.heap.size < wr.heap.size) (fun _ _ i _ => rows.length - (intOf i).toNat)
  case atStart => exact ⟨0, fun _ => 0, Nat.zero_le _, rfl, ⟨hb1, fun i h => by omega, fun i j h => by omega, fun i h => by omega, fun i h => ⟨_, hc0 i h⟩, hf0, fun i j h => by omega⟩, hs1⟩
  case round =>
    obtain ⟨k, rb, hkn, rfl, hC, hsz⟩ := hrel
    by_cases hlt : k < rows.length
    · obtain ⟨b, off, r, rfl, hc, hr⟩ := hk k hlt
      have hc' : wr.cell? ⟨b, off + k, none⟩ = some r := by rw [hC.low.cell (p := ⟨b, off + k, none⟩) (lt_of_cell hc)]; exact hc
      have HL := Lib.hid (HM.out _ (List.getElem_mem hlt))
      have hnumr := hnum _ (List.getElem_mem hlt)
      obtain ⟨a', cap', rfl, h1, h2, h3, h4⟩ := hr
      obtain ⟨b', off', rfl, hc0'⟩ := h4 0 (by rw [HL.out]; exact hm0)
      have hr' : Ints w (.slice (some ⟨b', off', none⟩) rows[k].length cap') rows[k] := ⟨_, _, rfl, h1, h2, h3, h4⟩
      have hrw : Ints wr (.slice (some ⟨b', off', none⟩) rows[k].length cap') rows[k] := by
        refine ⟨_, _, rfl, h1, h2, h3, fun j hj => ?_⟩
        obtain ⟨b2, off2, e2, hc2⟩ := h4 j hj
        exact ⟨b2, off2, e2, by rw [hC.low.cell (p := ⟨b2, off2 + j, none⟩) (lt_of_cell hc2)]; exact hc2⟩
      clear h4 hc hc0' hr' hk
      go_wp2_with fail
      with_reducible refine (clone_any _ rows[k] _ hrw ⟨_, _, _, _, rfl⟩).mono ?_
      rintro e w6 ⟨v6, rfl, hown6, hb6⟩
      obtain ⟨g, c, rfl, hg1, hg2, hg3⟩ := owns_cells hown6 (by rw [HL.out]; exact hm0)
      obtain ⟨vk, hvk⟩ := hC.any k hlt
      have hvk6 := below_cell hb6 hvk
      have hfk6 : w6.frozen? ⟨w.heap.size, k, none⟩ = false := by rw [hb6.frozen (p := ⟨w.heap.size, k, none⟩) hsz]; exact hC.fro k hlt
      have hstep := copyI_step (c := c) hC hb6 (Nat.le_refl _) hsz hlt hg1 hg2 (fun j hj => by have := hg3 j (by rw [HL.out]; exact hj); rw [matOf_at hlt (by rw [HL.out]; exact hj)]; exact this)
      have hszs : w.heap.size < (w6.setCell ⟨w.heap.size, k, none⟩ (.slice (some ⟨g, 0, none⟩) m c)).heap.size := by have := hb6.size; simp [World.setCell]; omega
      rw [HL.out]
      go_wp2_with fail
      go_roundw
      case rel => exact ⟨k + 1, _, by omega, by go_num, hstep, hszs⟩
      case measure => simp [intOf]; omega
    · obtain rfl : k = rows.length := by omega
      go_wp2_with fail
      go_ret
      exact ⟨rb, rfl, ⟨Nat.le_refl _, fun i hi => Nat.le_of_lt (hC.gt i hi).1, fun i hi e => by have := (hC.gt i hi).1; omega, hC.inj, hC.row, hC.fro, fun i j hi hj => (hC.elem i j hi hj).1, fun i j hi hj => (hC.elem i j hi hj).2, fun i j hi hj => by
        have hl := HM.out _ (List.getElem_mem hi)
        rw [matOf_at hi (by omega)]; exact hnum _ (List.getElem_mem hi) _ (List.getElem_mem _)⟩, hsz, hC.low⟩

end Go.Proofs.Ytbegnincmlepgaa
