/- Package linear: the rank. -/
import Derived.Test.YtjjdgphjkoppgaaLinB
import Derived.Test.YtjjdgphjkoppgaaLinG
import Derived.Test.YtjjdgphjkoppgaaCalm
import Derived.Deep.RegionHeld3
namespace Go.Proofs.Ytjjdgphjkoppgaa
open Go.RowKit

/-- The rank of rows of one width. -/
def rankOf (rows : List (List Int)) (m : Nat) : Nat := (redM rows.length (matOf rows) m).2.length

set_option maxRecDepth 100000 in
set_option maxHeartbeats 4000000 in
theorem Rank_wide (v : Value) (rows : List (List Int)) (m : Nat) (w : World) (hI : Rows2 w v rows) (h0 : checkErr rows = 0) (hm0 : 0 < m) (hm1 : m ≤ 64) (hn0 : 0 < rows.length) (hn1 : rows.length ≤ 64) (hm : ∀ r ∈ rows, r.length = m) (hnum : ∀ r ∈ rows, ∀ z ∈ r, 0 ≤ z ∧ z < 1073741789) :
    Calls Try.prog 12 #[v] w fun e w' => e = .returned (.tuple #[.int .i64 (rankOf rows m), .int .i64 0]) ∧ Below w.heap.size w w' := by
  have hI0 := hI
  obtain ⟨a, cap, rfl, hcap, hlen, hk⟩ := hI
  have HM := Lib.hid hm
  have HC := Lib.hid h0
  have HN := Lib.hid hnum
  obtain ⟨b0, off0, r0, rfl, hc0, hr0⟩ := hk 0 hn0
  obtain ⟨a', cap', rfl, k1, k2, k3, k4⟩ := hr0
  have hl0 : rows[0].length = m := hm _ (List.getElem_mem hn0)
  rw [hl0] at hc0 k1 k2
  have hnI : (0:Int) < (rows.length:Int) := by omega
  have h00 : ((rows.length:Int) == 0) = false := by rw [beq_eq_false_iff_ne]; omega
  clear hm h0 hnum hk k4 k3
  go_enter Try.func12, Try.ntmps12
  go_wp2_with fail
  with_reducible refine (Check_any _ rows _ hI0).mono ?_
  rintro e w1 ⟨rfl, hb⟩
  rw [HC.out]
  go_wp2_with fail
  have hc1 := below_cell hb hc0
  have hIw : Rows2 w1 (.slice (some ⟨b0, off0, none⟩) rows.length cap) rows := hI0.below hb
  have hId : Rows2 w1.drew (.slice (some ⟨b0, off0, none⟩) rows.length cap) rows := hI0.below hb.drew
  have hsz : rows.length ≤ 1000000 := by omega
  rw [Nat.add_zero] at hc1
  have hm6 : m ≤ 1000000 := by omega
  have hmm : m ≤ m := Nat.le_refl _
  have hD : w1.drew.heap.size ≤ w1.drew.heap.size := Nat.le_refl _
  have hcd : w1.drew.cell? ⟨b0, off0, none⟩ = some (.slice a' m cap') := hc1
  have hlt0 : b0 < w1.heap.size := lt_of_cell hc1
  have hCO : Calls Try.prog 27 #[.slice (some ⟨b0, off0, none⟩) rows.length cap] w1.drew fun e w' => ∃ rb, e = .returned (.slice (some ⟨w1.heap.size, 0, none⟩) rows.length rows.length) ∧ Tab w1.heap.size w1.heap.size rb rows.length m (matOf rows) w' ∧ w1.heap.size < w'.heap.size ∧ w'.cell? ⟨b0, off0, none⟩ = some (.slice a' m cap') ∧ Below w.heap.size w w' := (copyOf_any _ rows m _ hId hm0 HM.out HN.out hsz).mono fun e w2 ⟨rb, h1, hT, hs2, hb2⟩ => ⟨rb, h1, hT, hs2, below_cell hb2 hcd, hb.drew.trans (hb2.mono hb.size)⟩
  go_region_held3 (fun w' => w'.cell? ⟨b0, off0, none⟩ = some (.slice a' m cap')) (go_keep)
    (first
      | (go_at_call 27; with_reducible refine hCO.mono ?_; rintro e w2 ⟨rb, rfl, hT, hs2, hc2, hbw⟩)
      | (go_at_call 28; with_reducible refine (reduce_any w1.heap.size w1.heap.size rb rows.length m _ _ hT hs2 (Nat.le_of_lt hs2) _ m hmm hm0 hsz hm6).mono ?_; rintro e w3 ⟨pv, rb', rfl, hown3, hT3, hb3⟩; have hc3 := (hb3.cell (p := ⟨b0, off0, none⟩) hlt0).trans hc2; obtain ⟨pp, pc, rfl⟩ := owns_slice hown3))
  go_wp2_with fail
  go_ret2
  exact ⟨rfl, hbw.trans (hb3.mono hb.size)⟩

theorem Ints.nil_of {w : World} {v : Value} (h : Ints w v []) : ∃ a cap, v = .slice a 0 cap := by
  obtain ⟨a, cap, rfl, -⟩ := h; exact ⟨a, cap, rfl⟩

set_option maxHeartbeats 1000000 in
theorem clone_flat (a : Option Addr) (cap : Nat) (w : World) :
    Calls Try.prog 46 #[.slice a 0 cap] w fun e w' => (∃ a' c', e = .returned (.slice a' 0 c')) ∧ Below w.heap.size w w' := by
  go_enter Try.func46, Try.ntmps46
  cases a with
  | none =>
    have hq : (binOp BinOp.eql 29 (.slice none 0 cap) (.slice none 0 0)).run Try.prog w = .ok (.bool true) w := by kernel_rfl
    go_wp2_with fail
    go_ret
    exact ⟨⟨none, 0, rfl⟩, Below.refl _ _⟩
  | some p => 
    have hq : (binOp BinOp.eql 29 (.slice (some p) 0 cap) (.slice none 0 0)).run Try.prog w = .ok (.bool false) w := by kernel_rfl
    go_wp2_with fail
    go_ret
    exact ⟨⟨_, _, rfl⟩, (Below.refl _ _).alloc (Nat.le_refl _) _⟩

set_option maxHeartbeats 1000000 in
theorem reduce_flat (v : Value) (w : World) (hv : ∃ a n c, v = .slice a n c) :
    Calls Try.prog 28 #[v, .int .i64 0] w fun e w' => e = .returned (.slice none 0 0) ∧ Below w.heap.size w w' := by
  obtain ⟨a, n, c, rfl⟩ := hv
  refine calls_of_range Try.func28 rfl ?_
  simp only [Try.ntmps28, List.size_toArray, List.length_cons, List.length_nil, Nat.reduceAdd, Nat.reduceSub, Array.replicate_succ, Array.replicate_zero, List.push_toArray, List.append_toArray, List.nil_append, List.cons_append]
  go_wp2_with fail
  refine wp_loop_rounds 1 ?_
  rw [rounds_succ]
  go_wp2_with fail
  refine leaves_marks (B := w.heap.size) (v := .slice none 0 0) (fun w => results_tmp (t := 4) rfl _ _ _) ?_ [] _ trivial ⟨rfl, (Below.refl _ _).alloc (Nat.le_refl _) _⟩
  rintro w1 w2 ⟨h1, h2⟩ hs
  exact ⟨h1, below_sim h2 hs (Nat.le_refl _)⟩

/-- All rows are empty. -/
def Flat (rows : List (List Int)) : Prop := ∀ r ∈ rows, r = []

set_option maxHeartbeats 2000000 in
theorem copyOf_flat (v : Value) (rows : List (List Int)) (w : World) (hI : Rows2 w v rows) (hm : Flat rows) (hn : rows.length ≤ 1000000) :
    Calls Try.prog 27 #[v] w fun e w' => e = .returned (.slice (some ⟨w.heap.size, 0, none⟩) rows.length rows.length) ∧ Below w.heap.size w w' := by
  obtain ⟨a, cap, rfl, hcap, hlen, hk⟩ := hI
  have HM := Lib.hid hm
  clear hm
  obtain ⟨i0, hi0, hz0, hz1, hz2⟩ := info_parts infoRow
  have hmk := run_make_row (P := Try.prog) 42 29 i0 (.slice none 0 0) Try.underlying42 hi0 hz0 hz1 rfl .i64 .i64 rows.length (by rw [hz2]; omega) (by omega)
  go_enter Try.func27, Try.ntmps27
  go_wp2_with fail
  obtain ⟨W1, hW1⟩ : ∃ W1, w.alloc (.cells (madeCells #[.slice none 0 0] rows.length) 29) = W1 := ⟨_, rfl⟩
  have hc0 : ∀ i, i < rows.length → W1.cell? ⟨w.heap.size, i, none⟩ = some (.slice none 0 0) := fun i hi => by
    rw [← hW1, World.cell?_alloc_at _ _ _ _ rfl]; simp [madeCells, hi, Nat.mod_one]
  have hf0 : ∀ i, i < rows.length → W1.frozen? ⟨w.heap.size, i, none⟩ = false := fun i hi => by rw [← hW1]; exact World.frozen?_alloc_at _ _ _ _ rfl
  have hb1 : Below w.heap.size w W1 := by rw [← hW1]; exact (Below.refl _ _).alloc (Nat.le_refl _) _
  have hs1 : w.heap.size < W1.heap.size := by rw [← hW1]; simp
  rw [hW1]
  go_loopw [4, 5, 11] (fun _ _ i wr => ∃ (k : Nat), k ≤ rows.length ∧ i = .int .i64 k ∧ Below w.heap.size w wr ∧ w.heap.size < wr.heap.size ∧ Hid (∀ i, i < rows.length → (∃ u, wr.cell? ⟨w.heap.size, i, none⟩ = some u) ∧ wr.frozen? ⟨w.heap.size, i, none⟩ = false)) (fun _ _ i _ => rows.length - (intOf i).toNat)
  case atStart => exact ⟨0, Nat.zero_le _, rfl, hb1, hs1, Lib.hid fun i hi => ⟨⟨_, hc0 i hi⟩, hf0 i hi⟩⟩
  case round =>
    obtain ⟨k, hkn, rfl, hC, hsz, HF⟩ := hrel
    by_cases hlt : k < rows.length
    · obtain ⟨b, off, r, rfl, hc, hr⟩ := hk k hlt
      have hc' : wr.cell? ⟨b, off + k, none⟩ = some r := by rw [hC.cell (p := ⟨b, off + k, none⟩) (lt_of_cell hc)]; exact hc
      rw [HM.out _ (List.getElem_mem hlt)] at hr
      obtain ⟨a', cap', rfl⟩ := hr.nil_of
      clear hc hr hk hc0 hf0
      go_wp2_with fail
      with_reducible refine (clone_flat _ _ _).mono ?_
      rintro e w6 ⟨⟨a6, c6, rfl⟩, hb6⟩
      obtain ⟨⟨vk, hvk⟩, hfk⟩ := HF.out k hlt
      have hvk6 := below_cell hb6 hvk
      have hfk6 : w6.frozen? ⟨w.heap.size, k, none⟩ = false := by rw [hb6.frozen (p := ⟨w.heap.size, k, none⟩) hsz]; exact hfk
      have hszs : w.heap.size < (w6.setCell ⟨w.heap.size, k, none⟩ (.slice a6 0 c6)).heap.size := by have := hb6.size; simp [World.setCell]; omega
      have hlow := (hC.trans (hb6.mono (Nat.le_of_lt hsz))).setCell (p := ⟨w.heap.size, k, none⟩) (Nat.le_refl _) (.slice a6 0 c6)
      have HF' := Lib.hid (show ∀ i, i < rows.length → (∃ u, (w6.setCell ⟨w.heap.size, k, none⟩ (.slice a6 0 c6)).cell? ⟨w.heap.size, i, none⟩ = some u) ∧ (w6.setCell ⟨w.heap.size, k, none⟩ (.slice a6 0 c6)).frozen? ⟨w.heap.size, i, none⟩ = false from fun i hi => by
        obtain ⟨⟨u, hu⟩, hf⟩ := HF.out i hi
        refine ⟨?_, by rw [World.frozen?_setCell, hb6.frozen (p := ⟨w.heap.size, i, none⟩) hsz]; exact hf⟩
        by_cases e : k = i
        · subst e; exact ⟨_, World.cell?_setCell_same' _ _ _ (by rw [hvk6]; rfl)⟩
        · rw [set_other (.inr e)]; exact ⟨u, below_cell hb6 hu⟩)
      clear hvk hfk
      go_wp2_with fail
      go_roundw
      case rel => exact ⟨k + 1, by omega, by go_num, hlow, hszs, HF'⟩
      case measure => simp [intOf]; omega
    · obtain rfl : k = rows.length := by omega
      go_wp2_with fail
      go_ret
      exact ⟨rfl, hC⟩

end Go.Proofs.Ytjjdgphjkoppgaa
