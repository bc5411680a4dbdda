/- Package linear: the rank of any rows. -/
import Derived.Test.YtjjdgphjkoppgaaLinH
namespace Go.Proofs.Ytjjdgphjkoppgaa
open Go.RowKit

/-- What Rank returns. -/
def rankQ (rows : List (List Int)) : Nat := if checkErr rows = 0 then rankOf rows (wide rows) else 0

theorem kindErr_ok_iff {rows : List (List Int)} (h : kindErr rows = 0) : (∀ r ∈ rows, r.length ≤ 64) ∧ ∀ r ∈ rows, rowOk (wide rows) r = true := by
  unfold kindErr at h
  split at h
  · cases h
  · rename_i h1
    split at h
    · rename_i h2
      refine ⟨fun r hr => ?_, by simpa using h2⟩
      by_cases hl : r.length ≤ 64
      · exact hl
      · exact absurd (List.any_eq_true.2 ⟨r, hr, by simp; omega⟩) h1
    · cases h

theorem oddQ_num {z : Int} (h : oddQ z = false) : 0 ≤ z ∧ z < 1073741789 := by
  simp [oddQ] at h; omega

theorem rowOk_iff {m : Nat} {r : List Int} (h : rowOk m r = true) : r.length = m ∧ ∀ z ∈ r, 0 ≤ z ∧ z < 1073741789 := by
  simp [rowOk] at h
  exact ⟨h.1, fun z hz => oddQ_num (h.2 z hz)⟩

/-- Rows that are right: at most 64, of one width of at most 64, numbers. -/
structure Right (rows : List (List Int)) (m : Nat) : Prop where
  few : rows.length ≤ 64
  narrow : m ≤ 64 ∨ rows = []
  len : ∀ r ∈ rows, r.length = m
  num : ∀ r ∈ rows, ∀ z ∈ r, 0 ≤ z ∧ z < 1073741789

theorem checkErr_ok {rows : List (List Int)} (h : checkErr rows = 0) : Right rows (wide rows) := by
  unfold checkErr at h
  split at h
  · cases h
  · rename_i h1
    obtain ⟨h2, h3⟩ := kindErr_ok_iff h
    refine ⟨by omega, ?_, fun r hr => (rowOk_iff (h3 r hr)).1, fun r hr => (rowOk_iff (h3 r hr)).2⟩
    cases rows with
    | nil => exact .inr rfl
    | cons r l => exact .inl (by have := h2 r (by simp); simpa [wide] using this)

theorem wide_zero {rows : List (List Int)} (h : Right rows 0) : Flat rows := fun r hr => List.length_eq_zero_iff.1 (h.len r hr)

set_option maxRecDepth 100000 in
set_option maxHeartbeats 4000000 in
theorem Rank_err (v : Value) (rows : List (List Int)) (w : World) (hI : Rows2 w v rows) (h0 : checkErr rows ≠ 0) :
    Calls Try.prog 12 #[v] w fun e w' => e = .returned (.tuple #[.int .i64 0, .int .i64 (checkErr rows)]) ∧ Below w.heap.size w w' := by
  have hI0 := hI
  obtain ⟨a, cap, rfl, hcap, hlen, hk⟩ := hI
  have hC : (checkErr rows != 0) = true := by simpa using h0
  have HC := Lib.hid hC
  clear h0 hC
  go_enter Try.func12, Try.ntmps12
  go_wp2_with fail
  with_reducible refine (Check_any _ rows _ hI0).mono ?_
  rintro e w1 ⟨rfl, hb⟩
  have hC := HC.out
  go_wp2_with fail
  go_ret2
  exact ⟨rfl, hb⟩

set_option maxRecDepth 100000 in
set_option maxHeartbeats 4000000 in
theorem Rank_none (v : Value) (w : World) (hI : Rows2 w v []) :
    Calls Try.prog 12 #[v] w fun e w' => e = .returned (.tuple #[.int .i64 0, .int .i64 0]) ∧ Below w.heap.size w w' := by
  have hI0 := hI
  obtain ⟨a, cap, rfl, hcap, hlen, hk⟩ := hI
  have HC := Lib.hid (show checkErr [] = 0 by rfl)
  have hI1 : Rows2 w (.slice a 0 cap) [] := hI0
  go_enter Try.func12, Try.ntmps12
  go_wp2_with fail
  with_reducible refine (Check_any _ [] _ hI1).mono ?_
  rintro e w1 ⟨rfl, hb⟩
  rw [HC.out]
  go_wp2_with fail
  go_ret2
  exact ⟨rfl, hb⟩

set_option maxRecDepth 100000 in
set_option maxHeartbeats 4000000 in
theorem Rank_flat (v : Value) (rows : List (List Int)) (w : World) (hI : Rows2 w v rows) (h0 : checkErr rows = 0) (hn0 : 0 < rows.length) (hn1 : rows.length ≤ 64) (hm : Flat rows) :
    Calls Try.prog 12 #[v] w fun e w' => e = .returned (.tuple #[.int .i64 0, .int .i64 0]) ∧ Below w.heap.size w w' := by
  have hI0 := hI
  obtain ⟨a, cap, rfl, hcap, hlen, hk⟩ := hI
  have HM := Lib.hid hm
  have HC := Lib.hid h0
  obtain ⟨b0, off0, r0, rfl, hc0, hr0⟩ := hk 0 hn0
  obtain ⟨a', cap', rfl, k1, k2, k3, k4⟩ := hr0
  have hl0 : rows[0].length = 0 := by rw [hm _ (List.getElem_mem hn0)]; rfl
  rw [hl0] at hc0 k1 k2
  have hnI : (0:Int) < (rows.length:Int) := by omega
  have h00 : ((rows.length:Int) == 0) = false := by rw [beq_eq_false_iff_ne]; omega
  clear hm h0 hk k4 k3
  go_enter Try.func12, Try.ntmps12
  go_wp2_with fail
  with_reducible refine (Check_any _ rows _ hI0).mono ?_
  rintro e w1 ⟨rfl, hb⟩
  rw [HC.out]
  go_wp2_with fail
  have hc1 := below_cell hb hc0
  have hId : Rows2 w1.drew (.slice (some ⟨b0, off0, none⟩) rows.length cap) rows := hI0.below hb.drew
  have hsz : rows.length ≤ 1000000 := by omega
  rw [Nat.add_zero] at hc1
  have hcd : w1.drew.cell? ⟨b0, off0, none⟩ = some (.slice a' 0 cap') := hc1
  have hlt0 : b0 < w1.heap.size := lt_of_cell hc1
  have hCO : Calls Try.prog 27 #[.slice (some ⟨b0, off0, none⟩) rows.length cap] w1.drew fun e w' => e = .returned (.slice (some ⟨w1.heap.size, 0, none⟩) rows.length rows.length) ∧ w'.cell? ⟨b0, off0, none⟩ = some (.slice a' 0 cap') ∧ Below w.heap.size w w' := (copyOf_flat _ rows _ hId HM.out hsz).mono fun e w2 ⟨h1, hb2⟩ => ⟨h1, below_cell hb2 hcd, hb.drew.trans (hb2.mono hb.size)⟩
  go_region_held3 (fun w' => w'.cell? ⟨b0, off0, none⟩ = some (.slice a' 0 cap')) (go_keep)
    (first
      | (go_at_call 27; with_reducible refine hCO.mono ?_; rintro e w2 ⟨rfl, hc2, hbw⟩)
      | (go_at_call 28; with_reducible refine (reduce_flat _ _ ⟨_, _, _, rfl⟩).mono ?_; rintro e w3 ⟨rfl, hb3⟩; have hc3 := below_cell hb3 hc2))
  go_wp2_with fail
  go_ret2
  exact ⟨rfl, hbw.trans (hb3.mono hbw.size)⟩

theorem Rank_any (v : Value) (rows : List (List Int)) (w : World) (hI : Rows2 w v rows) :
    Calls Try.prog 12 #[v] w fun e w' => e = .returned (.tuple #[.int .i64 (rankQ rows), .int .i64 (checkErr rows)]) ∧ Below w.heap.size w w' := by
  by_cases h0 : checkErr rows = 0
  · have hR := checkErr_ok h0
    have hr : rankQ rows = rankOf rows (wide rows) := by rw [rankQ, if_pos h0]
    rw [hr, h0]
    by_cases hn : rows = []
    · subst hn
      exact Rank_none v w hI
    · have hn0 : 0 < rows.length := List.length_pos_iff.2 hn
      by_cases hm : wide rows = 0
      · rw [hm] at hR ⊢
        exact Rank_flat v rows w hI h0 hn0 hR.few (wide_zero hR)
      · exact Rank_wide v rows (wide rows) w hI h0 (by omega) (by rcases hR.narrow with h | h; exact h; exact absurd h hn) hn0 hR.few hR.len hR.num
  · have hr : rankQ rows = 0 := by rw [rankQ, if_neg h0]
    rw [hr]
    exact Rank_err v rows w hI h0

end Go.Proofs.Ytjjdgphjkoppgaa
