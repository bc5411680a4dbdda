/- The reference of package program: SameInts, Same, Has. The reference of package program: Has, People, Columns, Few; the laws' product. The reference of package program: Few; the laws' product. -/
import Derived.Test.YtggnipkfliompaaGreatDoorMRegF
namespace Go.Proofs.YtggnipkfliompaaGreatDoor
open Go.RowKit FP

theorem Ints.drew {w : World} {v : Value} {zs : List Int} (h : Ints w v zs) : Ints w.drew v zs := h.below (Below.refl _ _).drew
theorem Rows2.drew {w : World} {v : Value} {rows : List (List Int)} (h : Rows2 w v rows) : Rows2 w.drew v rows := h.below (Below.refl _ _).drew
end Go.Proofs.YtggnipkfliompaaGreatDoor

namespace Go.Proofs.YtggnipkfliompaaGreatDoor
open Go.RowKit FP

set_option maxRecDepth 100000 in
set_option maxHeartbeats 2000000 in
theorem rCols_any (rv ov : Value) (rows : List (List Int)) (w : World) (hR : Rows2 w rv rows) (ho : ∃ a n c, ov = .slice a n c) :
    Calls Tryz.prog 46 #[.agg #[rv, ov]] w fun e w' => e = .returned (.int .i64 (colsQ rows)) ∧ Below w.heap.size w w' := by
  obtain ⟨oa, on, oc, rfl⟩ := ho
  obtain ⟨W1, hW1, hb1, hr1, hz⟩ := box_prog w rv (.slice oa on oc) 25
  have HR := Lib.hid (hR.below hb1)
  obtain ⟨a, cap, rfl, -, hlen, -⟩ := id hR
  have c0 : W1.cell? ⟨w.heap.size, 0, none⟩ = some (.slice a rows.length cap) := row_cell hr1 rfl
  have HB := Lib.hid hb1
  have HW := Lib.hid hW1
  clear hR hr1 hb1 hW1 hz
  by_cases h0 : rows.length = 0
  · have hq : ((rows.length : Int) == 0) = true := by rw [h0]; rfl
    have HV : Hid ((1 : Int) = (colsQ rows : Int)) := Lib.hid (by obtain rfl : rows = [] := List.length_eq_zero_iff.1 h0; rfl)
    clear h0
    go_enter Tryz.func46, Tryz.ntmps46
    go_wp2_with (rw [← HW.out])
    go_ret
    exact ⟨ret_int HV.out, HB.out⟩
  · have hq : ((rows.length : Int) == 0) = false := beq_eq_false_iff_ne.2 (by omega)
    obtain ⟨a9, c9, e9, -, -, hk⟩ := HR.out
    obtain ⟨b, off, r, ea, hc, hr⟩ := hk 0 (by omega)
    simp only [Value.slice.injEq] at e9
    obtain ⟨rfl, -, -⟩ := e9
    subst ea
    obtain ⟨a8, c8, rfl, -⟩ := id hr
    have HV : Hid ((rows[0].length : Int) = (colsQ rows : Int)) := Lib.hid (by
      cases rows with
      | nil => exact absurd rfl h0
      | cons x t => rfl)
    rw [Nat.add_zero] at hc
    have i0 : (0 : Int) < (rows.length : Int) := by omega
    clear hk hr
    generalize rows[0].length = m at *
    go_enter Tryz.func46, Tryz.ntmps46
    go_wp2_with (rw [← HW.out])
    go_ret
    exact ⟨ret_int HV.out, HB.out⟩

end Go.Proofs.YtggnipkfliompaaGreatDoor

namespace Go.Proofs.YtggnipkfliompaaGreatDoor
open Go.RowKit FP

theorem few_cases (n : Nat) : n ≤ 20 ∨ (20 < n ∧ n ≤ 64) ∨ (64 < n ∧ n ≤ 100) ∨ 100 < n := by omega

set_option maxRecDepth 100000 in
set_option maxHeartbeats 8000000 in
theorem rFew23_any (rv ov : Value) (rows : List (List Int)) (owners : List Int) (w : World) (hR : Rows2 w rv rows) (hO : Ints w ov owners) :
    Calls Tryz.prog 52 #[.agg #[rv, ov]] w fun e w' => ∃ b, e = .returned (.bool b) ∧ Below w.heap.size w w' := by
  obtain ⟨W1, hW1, hb1, hr1, hz⟩ := box_prog w rv ov 25
  have HR1 := Lib.hid (hR.below hb1)
  obtain ⟨a, cap, rfl, -, hlen, -⟩ := id hR
  obtain ⟨a2, cap2, rfl, -, hlen2, -⟩ := id hO
  have c0 : W1.cell? ⟨w.heap.size, 0, none⟩ = some (.slice a rows.length cap) := row_cell hr1 rfl
  have c1 : W1.cell? ⟨w.heap.size, 1, none⟩ = some (.slice a2 owners.length cap2) := row_cell hr1 rfl
  have HW1 := Lib.hid hW1
  have HB1 := Lib.hid hb1
  clear hR hO hr1 hW1 hb1
  go_enter Tryz.func52, Tryz.ntmps52
  go_wp2_with (rw [← HW1.out])
  go_loopw [3] (fun i W => ∃ k : Nat, k ≤ rows.length ∧ k ≤ 80 ∧ i = .int .i64 k ∧ W = W1) (fun i _ => rows.length - (intOf i).toNat)
  case atStart => exact ⟨0, Nat.zero_le _, by omega, rfl, rfl⟩
  case round =>
    obtain ⟨k, hkl, hk80, rfl, rfl⟩ := hrel
    by_cases hlt : k < rows.length ∧ k < 80
    · obtain ⟨hlt, hlt80⟩ := hlt
      obtain ⟨aa, cc, e1, -, -, hk⟩ := HR1.out
      obtain ⟨b, off, r, ha, y1, hI⟩ := hk k hlt
      simp only [Value.slice.injEq] at e1
      obtain ⟨rfl, -, rfl⟩ := e1
      subst ha
      obtain ⟨ra, rc, rfl, -⟩ := id hI
      have j0 : 0 ≤ (k : Int) := by omega
      have i0 : (k : Int) < (rows.length : Int) := by omega
      have i1 : decide ((k : Int) < (rows.length : Int)) = true := decide_eq_true (by omega)
      have i2 : decide ((k : Int) < 80) = true := decide_eq_true (by omega)
      have i3 : decide (k < rows.length) = true := decide_eq_true hlt
      clear hk hI
      generalize rows[k] = r at *
      rcases few_cases r.length with hc | hc | hc | hc
      · have r1 : decide ((20 : Int) < (r.length : Int)) = false := decide_eq_false (by omega)
        have r2 : decide ((r.length : Int) ≤ 64) = true := decide_eq_true (by omega)
        have r3 : decide ((100 : Int) < (r.length : Int)) = false := decide_eq_false (by omega)
        go_wp2_with fail
        go_roundw
        case rel => exact ⟨k + 1, by omega, by omega, by go_num, by trivial⟩
        case measure => simp [intOf]; omega
      · have r1 : decide ((20 : Int) < (r.length : Int)) = true := decide_eq_true (by omega)
        have r2 : decide ((r.length : Int) ≤ 64) = true := decide_eq_true (by omega)
        have r3 : decide ((100 : Int) < (r.length : Int)) = false := decide_eq_false (by omega)
        go_wp2_with fail
        go_ret
        exact ⟨_, rfl, HB1.out⟩
      · have r1 : decide ((20 : Int) < (r.length : Int)) = true := decide_eq_true (by omega)
        have r2 : decide ((r.length : Int) ≤ 64) = false := decide_eq_false (by omega)
        have r3 : decide ((100 : Int) < (r.length : Int)) = false := decide_eq_false (by omega)
        go_wp2_with fail
        go_roundw
        case rel => exact ⟨k + 1, by omega, by omega, by go_num, by trivial⟩
        case measure => simp [intOf]; omega
      · have r1 : decide ((20 : Int) < (r.length : Int)) = true := decide_eq_true (by omega)
        have r2 : decide ((r.length : Int) ≤ 64) = false := decide_eq_false (by omega)
        have r3 : decide ((100 : Int) < (r.length : Int)) = true := decide_eq_true (by omega)
        go_wp2_with fail
        go_ret
        exact ⟨_, rfl, HB1.out⟩
    · have hstop : ∃ b1, decide ((k : Int) < (rows.length : Int)) = b1 ∧ decide (k < rows.length) = b1 ∧ (b1 = true → decide ((k : Int) < 80) = false) := by
        by_cases h : k < rows.length
        · exact ⟨true, decide_eq_true (by omega), decide_eq_true h, fun _ => decide_eq_false (by omega)⟩
        · exact ⟨false, decide_eq_false (by omega), decide_eq_false h, fun h => by cases h⟩
      obtain ⟨e1, p1, p2, p3⟩ := hstop
      obtain ⟨e2, q1⟩ : ∃ b, decide ((rows.length : Int) ≤ 20) = b := ⟨_, rfl⟩
      obtain ⟨e3, q2⟩ : ∃ b, decide ((64 : Int) < (rows.length : Int)) = b := ⟨_, rfl⟩
      obtain ⟨e4, q3⟩ : ∃ b, decide ((rows.length : Int) ≤ 80) = b := ⟨_, rfl⟩
      obtain ⟨e5, q4⟩ : ∃ b, decide ((owners.length : Int) ≤ 100) = b := ⟨_, rfl⟩
      clear hlt hkl hk80
      cases e1
      · clear p3
        cases e2
        · cases e3
          · go_wp2_with fail
            go_ret
            first | exact ⟨_, rfl, HB1.out⟩ | exact ⟨.inl rfl, HB1.out⟩ | exact ⟨.inr rfl, HB1.out⟩
          · cases e4 <;> cases e5
            all_goals
              go_wp2_with fail
              go_ret
              first | exact ⟨_, rfl, HB1.out⟩ | exact ⟨.inl rfl, HB1.out⟩ | exact ⟨.inr rfl, HB1.out⟩
        · cases e5
          all_goals
            go_wp2_with fail
            go_ret
            first | exact ⟨_, rfl, HB1.out⟩ | exact ⟨.inl rfl, HB1.out⟩ | exact ⟨.inr rfl, HB1.out⟩
      · have p3 := p3 rfl
        cases e2
        · cases e3
          · go_wp2_with fail
            go_ret
            first | exact ⟨_, rfl, HB1.out⟩ | exact ⟨.inl rfl, HB1.out⟩ | exact ⟨.inr rfl, HB1.out⟩
          · cases e4 <;> cases e5
            all_goals
              go_wp2_with fail
              go_ret
              first | exact ⟨_, rfl, HB1.out⟩ | exact ⟨.inl rfl, HB1.out⟩ | exact ⟨.inr rfl, HB1.out⟩
        · cases e5
          all_goals
            go_wp2_with fail
            go_ret
            first | exact ⟨_, rfl, HB1.out⟩ | exact ⟨.inl rfl, HB1.out⟩ | exact ⟨.inr rfl, HB1.out⟩

end Go.Proofs.YtggnipkfliompaaGreatDoor
