/- The laws of complaints, in plain Lean: a dealing with a wrong share. slices.BinarySearch of a list that rises. Package program: the rows of people. Package program: question, where it refuses. Two rows of a call's own, side by side, each in a variable. Package program: question, where it answers. What LinearSums and LinearChanged say, without a program: combinations of sums; rows that are changed. Package program: Accepts and Refuses. The reference of package program: SameInts, Same, Has. The reference of package program: Has, People, Columns, Few; the laws' product. The reference of package program: Few; the laws' product. The laws of complaints: small. The reference of dealing: Public, share, Fits, Few. The reference of dealing: Few. The reference of dealing: Numbers, Product, SameInts, Target. The reference of dealing: Shares. -/
import Derived.Test.YtggnipkfliompaaGreatDoorMCoI
import Derived.Test.YtggnipkfliompaaGreatDoorMDeaA
import Derived.Test.YtggnipkfliompaaGreatDoorMLinJ
import Derived.Test.YtggnipkfliompaaGreatDoorMCoK
import Derived.Test.YtggnipkfliompaaGreatDoorMDeaI
import Derived.Test.YtggnipkfliompaaGreatDoorMLinP
import Derived.Test.YtggnipkfliompaaGreatDoorMLinU
import Derived.Deep.RegionLaw
import Derived.Deep.AppendLies
import Derived.Deep.CutRange
import Derived.Deep.DeepCutAuto
namespace Go.Proofs.YtggnipkfliompaaGreatDoor
open Go.RowKit FP

/-- A program that is right and small, and the other arguments. -/
structure Sml (rows : List (List Int)) (owners numbers : List Int) (dealer : Int) (ss : List Int) : Prop where
  p0 : progE rows owners = 0
  r1 : 1 ≤ rows.length
  r6 : rows.length ≤ 6
  dl : 0 ≤ dealer ∧ dealer ≤ 63
  sl : ss.length = rows.length
  nl : numbers.length = colsQ rows
  n10 : numbers.length ≤ 10
  nn : ∀ z ∈ numbers, 0 ≤ z ∧ z < 1073741789
  sn : ∀ z ∈ ss, 1 ≤ z ∧ z < 1073741789
def ssF (l : List Int) (i : Nat) : Int := nth l i
def usF (l : List Int) (i : Nat) : Int := 1 + (nth l i + (i : Int)) % 1073741788
def vsF (rows : List (List Int)) (s : List Int) (row by' : Int) (i : Nat) : Int := if (i : Int) = row then (prodQ (rows.getD i []) s + by') % 1073741789 else prodQ (rows.getD i []) s
/-- The dealing. -/
def dF (rows : List (List Int)) (s : List Int) (dealer : Int) (ss : List Int) (row by' : Int) : Dlg := sealD rows s dealer (ssF ss) (usF ss) (vsF rows s row by')

theorem Sml.ss {rows : List (List Int)} {owners numbers ss : List Int} {dealer : Int} (h : Sml rows owners numbers dealer ss) {i : Nat} (hi : i < rows.length) : 1 ≤ ssF ss i ∧ ssF ss i ≤ 1073741788 := by
  unfold ssF
  rw [nth_at (by rw [h.sl]; exact hi)]
  have := h.sn _ (List.getElem_mem (by rw [h.sl]; exact hi : i < ss.length))
  omega
theorem usF_in (l : List Int) (i : Nat) : 1 ≤ usF l i ∧ usF l i ≤ 1073741788 := by unfold usF; omega
theorem vsF_in (rows : List (List Int)) (s : List Int) (row by' : Int) (i : Nat) : 0 ≤ vsF rows s row by' i ∧ vsF rows s row by' i ≤ 1073741788 := by
  unfold vsF
  have := prodQ_num (rows.getD i []) s
  split <;> omega
theorem Sml.deal {rows : List (List Int)} {owners ss : List Int} {x : Int} {rnd : List Int} {dealer : Int} (h : Sml rows owners (x :: rnd) dealer ss) : DealOK rows owners x rnd :=
  ⟨progE_ok h.p0, h.nn _ (by simp), fun z hz => h.nn _ (by simp [hz]), by have := h.nl; simpa using this⟩
theorem Sml.sd {rows : List (List Int)} {owners ss : List Int} {x : Int} {rnd : List Int} {dealer : Int} (h : Sml rows owners (x :: rnd) dealer ss) (row by' : Int) : SD rows owners x rnd dealer (ssF ss) (usF ss) (vsF rows (x :: rnd) row by') where
  ok := h.deal
  p0 := h.p0
  dl := h.dl
  hs _ hi := h.ss hi
  hu _ _ := usF_in _ _
  hv _ _ := vsF_in _ _ _ _ _
theorem vsF_wrong (rows : List (List Int)) (s : List Int) (row by' : Int) (i : Nat) (hb : 0 ≤ by' ∧ by' < 1073741789) : decide (vsF rows s row by' i = prodQ (rows.getD i []) s) = !(decide ((i : Int) = row) && decide (by' ≠ 0)) := by
  unfold vsF
  have := prodQ_num (rows.getD i []) s
  generalize prodQ (rows.getD i []) s = p at *
  by_cases h : (i : Int) = row
  · rw [if_pos h, decide_eq_true h, Bool.true_and]
    by_cases h0 : by' = 0
    · rw [h0, decide_eq_true (by omega)]; rfl
    · rw [decide_eq_true h0, decide_eq_false (by omega)]; rfl
  · rw [if_neg h, decide_eq_true rfl, decide_eq_false h]; rfl
theorem dF_len (rows : List (List Int)) (s : List Int) (dealer : Int) (ss : List Int) (row by' : Int) : (dF rows s dealer ss row by').ps.length = rows.length := by unfold dF sealD; simp
theorem dF_at (rows : List (List Int)) (s : List Int) (dealer : Int) (ss : List Int) (row by' : Int) {i : Nat} (h : i < (dF rows s dealer ss row by').ps.length) : (dF rows s dealer ss row by').ps[i] = ((i : Int), powE 4 (usF ss i), cipV (usF ss i) (powE 4 (ssF ss i)) dealer (i : Int) (vsF rows s row by' i)) := by
  unfold dF sealD at h ⊢
  show ((List.range rows.length).map _)[i]'(by simpa using h) = _
  rw [List.getElem_map, List.getElem_range]; rfl
end Go.Proofs.YtggnipkfliompaaGreatDoor

namespace Go.Proofs.YtggnipkfliompaaGreatDoor
open Go.RowKit

end Go.Proofs.YtggnipkfliompaaGreatDoor

namespace Go.Proofs.YtggnipkfliompaaGreatDoor
open Go.RowKit FP

attribute [local go_sem] Oper.semAt_some

end Go.Proofs.YtggnipkfliompaaGreatDoor

namespace Go.Proofs.YtggnipkfliompaaGreatDoor
open Go.RowKit FP

end Go.Proofs.YtggnipkfliompaaGreatDoor

namespace Go.Proofs.YtggnipkfliompaaGreatDoor
open Go.RowKit FP

theorem Ints.cells {w w' : World} {v : Value} {zs : List Int} (h : Ints w v zs) (hc : ∀ b o u, w.cell? ⟨b, o, none⟩ = some u → w'.cell? ⟨b, o, none⟩ = some u) : Ints w' v zs := by
  obtain ⟨a, cap, rfl, h1, h2, h3, h4⟩ := h
  exact ⟨a, cap, rfl, h1, h2, h3, fun k hk => by obtain ⟨b, off, h5, h6⟩ := h4 k hk; exact ⟨b, off, h5, hc _ _ _ h6⟩⟩
theorem Rows2.cells {w w' : World} {v : Value} {rows : List (List Int)} (h : Rows2 w v rows) (hc : ∀ b o u, w.cell? ⟨b, o, none⟩ = some u → w'.cell? ⟨b, o, none⟩ = some u) : Rows2 w' v rows := by
  obtain ⟨a, cap, rfl, h1, h2, h4⟩ := h
  exact ⟨a, cap, rfl, h1, h2, fun k hk => by obtain ⟨b, off, r, h5, h6, h7⟩ := h4 k hk; exact ⟨b, off, r, h5, hc _ _ _ h6, h7.cells hc⟩⟩
/-- A row of rows and a row of integers. -/
structure Two (base : Nat) (W : World) (n m : Nat) (L1 L2 : Value) (xs ys : List Value) : Prop where
  a : W.ownsRow base 23 1 L1 n xs
  b : W.ownsRow base 3 1 L2 m ys
  ap : ∀ q, L1.ownBlock = some q → L2.ownBlock ≠ some q
theorem Two.keep {base : Nat} {W W' : World} {n m : Nat} {L1 L2 : Value} {xs ys : List Value} (h : Two base W n m L1 L2 xs ys) (hb : Below W.heap.size W W') : Two base W' n m L1 L2 xs ys :=
  ⟨own_keep h.a hb, own_keep h.b hb, h.ap⟩
theorem Two.one {base : Nat} {W W' : World} {n m n' g k c : Nat} {L1 L2 : Value} {xs ys xs' : List Value} (h : Two base W n m L1 L2 xs ys) (ho : W'.ownsRow base 23 1 (.slice (some ⟨g, 0, none⟩) k c) n' xs') (hg : W.grownBy W' L1.ownBlock) (hat : L1.ownBlock = some g ∨ g = W.heap.size) : Two base W' n' m (.slice (some ⟨g, 0, none⟩) k c) L2 xs' ys := by
  refine ⟨ho, own_apart h.b hg (fun q h1 h2 => h.ap q h2 h1), fun q h1 h2 => ?_⟩
  have e : g = q := by injection h1
  subst e
  rcases hat with h3 | h3
  · exact h.ap g h3 h2
  · have := (own_lt h.b g h2).2; omega
theorem Two.two {base : Nat} {W W' : World} {n m m' g k c : Nat} {L1 L2 : Value} {xs ys ys' : List Value} (h : Two base W n m L1 L2 xs ys) (ho : W'.ownsRow base 3 1 (.slice (some ⟨g, 0, none⟩) k c) m' ys') (hg : W.grownBy W' L2.ownBlock) (hat : L2.ownBlock = some g ∨ g = W.heap.size) : Two base W' n m' L1 (.slice (some ⟨g, 0, none⟩) k c) xs ys' := by
  refine ⟨own_apart h.a hg h.ap, ho, fun q h1 h2 => ?_⟩
  have e : g = q := by injection h2
  subst e
  rcases hat with h3 | h3
  · exact h.ap g h1 h3
  · have := (own_lt h.a g h1).2; omega
end Go.Proofs.YtggnipkfliompaaGreatDoor

namespace Go.Proofs.YtggnipkfliompaaGreatDoor
open Go.RowKit FP

attribute [local go_sem] Oper.semAt_some

end Go.Proofs.YtggnipkfliompaaGreatDoor

namespace Go.Proofs.YtggnipkfliompaaGreatDoor

end Go.Proofs.YtggnipkfliompaaGreatDoor

namespace Go.Proofs.YtggnipkfliompaaGreatDoor
open Go.RowKit FP

end Go.Proofs.YtggnipkfliompaaGreatDoor

namespace Go.Proofs.YtggnipkfliompaaGreatDoor
open Go.RowKit FP

theorem Ints.drew {w : World} {v : Value} {zs : List Int} (h : Ints w v zs) : Ints w.drew v zs := h.below (Below.refl _ _).drew
theorem Rows2.drew {w : World} {v : Value} {rows : List (List Int)} (h : Rows2 w v rows) : Rows2 w.drew v rows := h.below (Below.refl _ _).drew
end Go.Proofs.YtggnipkfliompaaGreatDoor

namespace Go.Proofs.YtggnipkfliompaaGreatDoor
open Go.RowKit FP

set_option maxRecDepth 100000 in
set_option maxHeartbeats 2000000 in
theorem rCols_any (rv ov : Value) (rows : List (List Int)) (w : World) (hR : Rows2 w rv rows) (ho : ∃ a n c, ov = .slice a n c) :
    Calls Tryz.prog 46 #[.agg #[rv, ov]] w fun e w' => e = .returned (.int .i64 (colsQ rows)) ∧ Below w.heap.size w w' := by
  obtain ⟨oa, on, oc, rfl⟩ := ho
  obtain ⟨W1, hW1, hb1, hr1, hz⟩ := box_prog w rv (.slice oa on oc) 25
  have HR := Lib.hid (hR.below hb1)
  obtain ⟨a, cap, rfl, -, hlen, -⟩ := id hR
  have c0 : W1.cell? ⟨w.heap.size, 0, none⟩ = some (.slice a rows.length cap) := row_cell hr1 rfl
  have HB := Lib.hid hb1
  have HW := Lib.hid hW1
  clear hR hr1 hb1 hW1 hz
  by_cases h0 : rows.length = 0
  · have hq : ((rows.length : Int) == 0) = true := by rw [h0]; rfl
    have HV : Hid ((1 : Int) = (colsQ rows : Int)) := Lib.hid (by obtain rfl : rows = [] := List.length_eq_zero_iff.1 h0; rfl)
    clear h0
    go_enter Tryz.func46, Tryz.ntmps46
    go_wp2_with (rw [← HW.out])
    go_ret
    exact ⟨ret_int HV.out, HB.out⟩
  · have hq : ((rows.length : Int) == 0) = false := beq_eq_false_iff_ne.2 (by omega)
    obtain ⟨a9, c9, e9, -, -, hk⟩ := HR.out
    obtain ⟨b, off, r, ea, hc, hr⟩ := hk 0 (by omega)
    simp only [Value.slice.injEq] at e9
    obtain ⟨rfl, -, -⟩ := e9
    subst ea
    obtain ⟨a8, c8, rfl, -⟩ := id hr
    have HV : Hid ((rows[0].length : Int) = (colsQ rows : Int)) := Lib.hid (by
      cases rows with
      | nil => exact absurd rfl h0
      | cons x t => rfl)
    rw [Nat.add_zero] at hc
    have i0 : (0 : Int) < (rows.length : Int) := by omega
    clear hk hr
    generalize rows[0].length = m at *
    go_enter Tryz.func46, Tryz.ntmps46
    go_wp2_with (rw [← HW.out])
    go_ret
    exact ⟨ret_int HV.out, HB.out⟩

end Go.Proofs.YtggnipkfliompaaGreatDoor

namespace Go.Proofs.YtggnipkfliompaaGreatDoor
open Go.RowKit FP

theorem few_cases (n : Nat) : n ≤ 20 ∨ (20 < n ∧ n ≤ 64) ∨ (64 < n ∧ n ≤ 100) ∨ 100 < n := by omega

set_option maxRecDepth 100000 in
set_option maxHeartbeats 8000000 in
theorem rFew23_any (rv ov : Value) (rows : List (List Int)) (owners : List Int) (w : World) (hR : Rows2 w rv rows) (hO : Ints w ov owners) :
    Calls Tryz.prog 52 #[.agg #[rv, ov]] w fun e w' => ∃ b, e = .returned (.bool b) ∧ Below w.heap.size w w' := by
  obtain ⟨W1, hW1, hb1, hr1, hz⟩ := box_prog w rv ov 25
  have HR1 := Lib.hid (hR.below hb1)
  obtain ⟨a, cap, rfl, -, hlen, -⟩ := id hR
  obtain ⟨a2, cap2, rfl, -, hlen2, -⟩ := id hO
  have c0 : W1.cell? ⟨w.heap.size, 0, none⟩ = some (.slice a rows.length cap) := row_cell hr1 rfl
  have c1 : W1.cell? ⟨w.heap.size, 1, none⟩ = some (.slice a2 owners.length cap2) := row_cell hr1 rfl
  have HW1 := Lib.hid hW1
  have HB1 := Lib.hid hb1
  clear hR hO hr1 hW1 hb1
  go_enter Tryz.func52, Tryz.ntmps52
  go_wp2_with (rw [← HW1.out])
  go_loopw [3] (fun i W => ∃ k : Nat, k ≤ rows.length ∧ k ≤ 80 ∧ i = .int .i64 k ∧ W = W1) (fun i _ => rows.length - (intOf i).toNat)
  case atStart => exact ⟨0, Nat.zero_le _, by omega, rfl, rfl⟩
  case round =>
    obtain ⟨k, hkl, hk80, rfl, rfl⟩ := hrel
    by_cases hlt : k < rows.length ∧ k < 80
    · obtain ⟨hlt, hlt80⟩ := hlt
      obtain ⟨aa, cc, e1, -, -, hk⟩ := HR1.out
      obtain ⟨b, off, r, ha, y1, hI⟩ := hk k hlt
      simp only [Value.slice.injEq] at e1
      obtain ⟨rfl, -, rfl⟩ := e1
      subst ha
      obtain ⟨ra, rc, rfl, -⟩ := id hI
      have j0 : 0 ≤ (k : Int) := by omega
      have i0 : (k : Int) < (rows.length : Int) := by omega
      have i1 : decide ((k : Int) < (rows.length : Int)) = true := decide_eq_true (by omega)
      have i2 : decide ((k : Int) < 80) = true := decide_eq_true (by omega)
      have i3 : decide (k < rows.length) = true := decide_eq_true hlt
      clear hk hI
      generalize rows[k] = r at *
      rcases few_cases r.length with hc | hc | hc | hc
      · have r1 : decide ((20 : Int) < (r.length : Int)) = false := decide_eq_false (by omega)
        have r2 : decide ((r.length : Int) ≤ 64) = true := decide_eq_true (by omega)
        have r3 : decide ((100 : Int) < (r.length : Int)) = false := decide_eq_false (by omega)
        go_wp2_with fail
        go_roundw
        case rel => exact ⟨k + 1, by omega, by omega, by go_num, by trivial⟩
        case measure => simp [intOf]; omega
      · have r1 : decide ((20 : Int) < (r.length : Int)) = true := decide_eq_true (by omega)
        have r2 : decide ((r.length : Int) ≤ 64) = true := decide_eq_true (by omega)
        have r3 : decide ((100 : Int) < (r.length : Int)) = false := decide_eq_false (by omega)
        go_wp2_with fail
        go_ret
        exact ⟨_, rfl, HB1.out⟩
      · have r1 : decide ((20 : Int) < (r.length : Int)) = true := decide_eq_true (by omega)
        have r2 : decide ((r.length : Int) ≤ 64) = false := decide_eq_false (by omega)
        have r3 : decide ((100 : Int) < (r.length : Int)) = false := decide_eq_false (by omega)
        go_wp2_with fail
        go_roundw
        case rel => exact ⟨k + 1, by omega, by omega, by go_num, by trivial⟩
        case measure => simp [intOf]; omega
      · have r1 : decide ((20 : Int) < (r.length : Int)) = true := decide_eq_true (by omega)
        have r2 : decide ((r.length : Int) ≤ 64) = false := decide_eq_false (by omega)
        have r3 : decide ((100 : Int) < (r.length : Int)) = true := decide_eq_true (by omega)
        go_wp2_with fail
        go_ret
        exact ⟨_, rfl, HB1.out⟩
    · have hstop : ∃ b1, decide ((k : Int) < (rows.length : Int)) = b1 ∧ decide (k < rows.length) = b1 ∧ (b1 = true → decide ((k : Int) < 80) = false) := by
        by_cases h : k < rows.length
        · exact ⟨true, decide_eq_true (by omega), decide_eq_true h, fun _ => decide_eq_false (by omega)⟩
        · exact ⟨false, decide_eq_false (by omega), decide_eq_false h, fun h => by cases h⟩
      obtain ⟨e1, p1, p2, p3⟩ := hstop
      obtain ⟨e2, q1⟩ : ∃ b, decide ((rows.length : Int) ≤ 20) = b := ⟨_, rfl⟩
      obtain ⟨e3, q2⟩ : ∃ b, decide ((64 : Int) < (rows.length : Int)) = b := ⟨_, rfl⟩
      obtain ⟨e4, q3⟩ : ∃ b, decide ((rows.length : Int) ≤ 80) = b := ⟨_, rfl⟩
      obtain ⟨e5, q4⟩ : ∃ b, decide ((owners.length : Int) ≤ 100) = b := ⟨_, rfl⟩
      clear hlt hkl hk80
      cases e1
      · clear p3
        cases e2
        · cases e3
          · go_wp2_with fail
            go_ret
            first | exact ⟨_, rfl, HB1.out⟩ | exact ⟨.inl rfl, HB1.out⟩ | exact ⟨.inr rfl, HB1.out⟩
          · cases e4 <;> cases e5
            all_goals
              go_wp2_with fail
              go_ret
              first | exact ⟨_, rfl, HB1.out⟩ | exact ⟨.inl rfl, HB1.out⟩ | exact ⟨.inr rfl, HB1.out⟩
        · cases e5
          all_goals
            go_wp2_with fail
            go_ret
            first | exact ⟨_, rfl, HB1.out⟩ | exact ⟨.inl rfl, HB1.out⟩ | exact ⟨.inr rfl, HB1.out⟩
      · have p3 := p3 rfl
        cases e2
        · cases e3
          · go_wp2_with fail
            go_ret
            first | exact ⟨_, rfl, HB1.out⟩ | exact ⟨.inl rfl, HB1.out⟩ | exact ⟨.inr rfl, HB1.out⟩
          · cases e4 <;> cases e5
            all_goals
              go_wp2_with fail
              go_ret
              first | exact ⟨_, rfl, HB1.out⟩ | exact ⟨.inl rfl, HB1.out⟩ | exact ⟨.inr rfl, HB1.out⟩
        · cases e5
          all_goals
            go_wp2_with fail
            go_ret
            first | exact ⟨_, rfl, HB1.out⟩ | exact ⟨.inl rfl, HB1.out⟩ | exact ⟨.inr rfl, HB1.out⟩

end Go.Proofs.YtggnipkfliompaaGreatDoor

namespace Go.Proofs.YtggnipkfliompaaGreatDoor
open Go.RowKit FP

set_option maxRecDepth 100000 in
set_option maxHeartbeats 8000000 in
theorem small36_any (rv ov mv sv : Value) (rows : List (List Int)) (owners numbers : List Int) (dealer : Int) (ss : List Int) (row : Nat) (w : World) (hR : Rows2 w rv rows) (hO : Ints w ov owners) (hM : Ints w mv numbers) (hS : Ints w sv ss) (hrow : row < 256) :
    Calls Tryz.prog 19 #[.agg #[rv, ov], mv, .int .i64 dealer, sv, .int .u8 (row : Int)] w fun e w' => ∃ b, e = .returned (.bool b) ∧ (b = true → Sml rows owners numbers dealer ss ∧ row < rows.length) ∧ Below w.heap.size w w' := by
  obtain ⟨W1, hW1, hb1, hr1, hz⟩ := box_prog w rv ov 25
  have HR := Lib.hid (hR.below hb1)
  have HO := Lib.hid (hO.below hb1)
  have HM := Lib.hid (hM.below hb1)
  have HH := Lib.hid (hS.below hb1)
  obtain ⟨a1, k1, rfl, -, hl1, -⟩ := id hR
  obtain ⟨a2, k2, rfl, -, hl2, -⟩ := id hO
  obtain ⟨a3, k3, rfl, -, hl3, -⟩ := id hM
  obtain ⟨a4, k4, rfl, -, hl4, -⟩ := id hS
  have c0 : W1.cell? ⟨w.heap.size, 0, none⟩ = some (.slice a1 rows.length k1) := row_cell hr1 rfl
  have c1 : W1.cell? ⟨w.heap.size, 1, none⟩ = some (.slice a2 owners.length k2) := row_cell hr1 rfl
  have HW1 := Lib.hid hW1
  have HB := Lib.hid hb1
  clear hR hO hM hS hr1 hW1 hb1 hz
  have HF := Lib.hid (rFew23_any _ _ rows owners W1 HR.out HO.out)
  have HPC := Lib.hid (fun ww h1 h2 => rpCheck_any (.slice a1 rows.length k1) (.slice a2 owners.length k2) rows owners ww h1 h2)
  have HCO := Lib.hid (fun ww h => rCols_any (.slice a1 rows.length k1) (.slice a2 owners.length k2) rows ww h ⟨_, _, _, rfl⟩)
  have wrow : IntKind.i64.wrap (row : Int) = (row : Int) := IntWalk.i64_in _ (by omega)
  go_enter Tryz.func19, Tryz.ntmps19
  go_wp2_with (rw [← HW1.out])
  with_reducible refine (HF.out).mono ?_
  rintro e w2 ⟨b, rfl, hb2⟩
  replace c0 := below_cell hb2 c0
  replace c1 := below_cell hb2 c1
  replace HR := Lib.hid (HR.out.below hb2)
  replace HO := Lib.hid (HO.out.below hb2)
  replace HM := Lib.hid (HM.out.below hb2)
  replace HH := Lib.hid (HH.out.below hb2)
  replace HB := Lib.hid (HB.out.trans (hb2.mono HB.out.size))
  clear hb2
  clear HF
  cases b with
  | false =>
    go_wp2_with fail
    go_ret
    exact ⟨false, rfl, fun h => (by cases h), HB.out⟩
  | true =>
  by_cases h1 : rows.length < 1
  · have d1 : decide ((rows.length : Int) < 1) = true := decide_eq_true (by omega)
    clear h1
    go_wp2_with fail
    go_ret
    exact ⟨false, rfl, fun h => (by cases h), HB.out⟩
  have d1 : decide ((rows.length : Int) < 1) = false := decide_eq_false (by omega)
  by_cases h6 : 6 < rows.length
  · have d2 : decide (6 < (rows.length : Int)) = true := decide_eq_true (by omega)
    clear h1 h6
    go_wp2_with fail
    go_ret
    exact ⟨false, rfl, fun h => (by cases h), HB.out⟩
  have d2 : decide (6 < (rows.length : Int)) = false := decide_eq_false (by omega)
  have H16 := Lib.hid (And.intro h1 h6)
  clear h1 h6
  go_wp2_with fail
  with_reducible refine (HPC.out _ HR.out HO.out).mono ?_
  rintro e w3 ⟨rfl, hb3⟩
  replace c0 := below_cell hb3 c0
  replace c1 := below_cell hb3 c1
  replace HR := Lib.hid (HR.out.below hb3)
  replace HO := Lib.hid (HO.out.below hb3)
  replace HM := Lib.hid (HM.out.below hb3)
  replace HH := Lib.hid (HH.out.below hb3)
  replace HB := Lib.hid (HB.out.trans (hb3.mono HB.out.size))
  clear hb3
  by_cases hp : progE rows owners = 0
  rotate_left
  · have d0 : (progE rows owners != 0) = true := bne_iff_ne.2 hp
    generalize progE rows owners = q at *
    clear hp
    go_wp2_with fail
    go_ret
    exact ⟨false, rfl, fun h => (by cases h), HB.out⟩
  rw [hp]
  have HP0 := Lib.hid hp
  clear hp HPC
  by_cases h2 : dealer < 0
  · have d3 : decide (dealer < 0) = true := decide_eq_true h2
    clear h2
    go_wp2_with fail
    go_ret
    exact ⟨false, rfl, fun h => (by cases h), HB.out⟩
  have d3 : decide (dealer < 0) = false := decide_eq_false h2
  by_cases h3 : 64 ≤ dealer
  · have d4 : decide (64 ≤ dealer) = true := decide_eq_true h3
    clear h2 h3
    go_wp2_with fail
    go_ret
    exact ⟨false, rfl, fun h => (by cases h), HB.out⟩
  have d4 : decide (64 ≤ dealer) = false := decide_eq_false h3
  have H23 := Lib.hid (And.intro h2 h3)
  clear h2 h3
  by_cases h4 : ss.length = rows.length
  rotate_left
  · have d5 : ((ss.length : Int) != (rows.length : Int)) = true := bne_iff_ne.2 (by omega)
    clear h4
    go_wp2_with fail
    go_ret
    exact ⟨false, rfl, fun h => (by cases h), HB.out⟩
  have d5 : ((ss.length : Int) != (rows.length : Int)) = false := bne_eq_false_iff_eq.2 (by omega)
  have H4 := Lib.hid h4
  clear h4
  go_wp2_with fail
  with_reducible refine (HCO.out _ HR.out).mono ?_
  rintro e w4 ⟨rfl, hb4⟩
  replace c0 := below_cell hb4 c0
  replace c1 := below_cell hb4 c1
  replace HR := Lib.hid (HR.out.below hb4)
  replace HO := Lib.hid (HO.out.below hb4)
  replace HM := Lib.hid (HM.out.below hb4)
  replace HH := Lib.hid (HH.out.below hb4)
  replace HB := Lib.hid (HB.out.trans (hb4.mono HB.out.size))
  clear hb4
  clear HCO
  by_cases h5 : numbers.length = colsQ rows
  rotate_left
  · have d6 : ((numbers.length : Int) != ((colsQ rows : Nat) : Int)) = true := bne_iff_ne.2 (by omega)
    clear h5
    go_wp2_with fail
    go_ret
    exact ⟨false, rfl, fun h => (by cases h), HB.out⟩
  have d6 : ((numbers.length : Int) != ((colsQ rows : Nat) : Int)) = false := bne_eq_false_iff_eq.2 (by omega)
  have H5 := Lib.hid h5
  clear h5
  by_cases h7 : 10 < numbers.length
  · have d7 : decide (10 < (numbers.length : Int)) = true := decide_eq_true (by omega)
    clear h7
    go_wp2_with fail
    go_ret
    exact ⟨false, rfl, fun h => (by cases h), HB.out⟩
  have d7 : decide (10 < (numbers.length : Int)) = false := decide_eq_false (by omega)
  have H7 := Lib.hid h7
  clear h7
  go_wp2_with fail
  clear d1 d2 d3 d4 d5 d6 d7
  go_loopw [65] (fun i W => ∃ k : Nat, k ≤ numbers.length ∧ i = .int .i64 k ∧ W = w4 ∧ ∀ j (h : j < numbers.length), j < k → 0 ≤ numbers[j] ∧ numbers[j] < 1073741789) (fun i _ => numbers.length - (intOf i).toNat)
  case atStart => exact ⟨0, Nat.zero_le _, rfl, rfl, fun j _ h => absurd h (Nat.not_lt_zero _)⟩
  case round =>
    obtain ⟨k, hkl, rfl, rfl, hal⟩ := hrel
    by_cases hlt : k < numbers.length
    · obtain ⟨b, off, e9, y1⟩ := ints_at HM.out hlt
      subst e9
      have HA := Lib.hid hal
      have HE : Hid (∀ z, numbers[k] = z → 0 ≤ z ∧ z < 1073741789 → ∀ j (h : j < numbers.length), j < k + 1 → 0 ≤ numbers[j] ∧ numbers[j] < 1073741789) := Lib.hid (fun z e1 e2 j h h2 => by
        by_cases hj : j < k
        · exact hal j h hj
        · obtain rfl : j = k := by omega
          rw [e1]; exact e2)
      have j0 : 0 ≤ (k : Int) := by omega
      have j1 : (k : Int) < (numbers.length : Int) := by omega
      have j2 : decide ((k : Int) < (numbers.length : Int)) = true := decide_eq_true j1
      clear hal
      obtain ⟨z, hz⟩ : ∃ z, z = numbers[k] := ⟨_, rfl⟩
      rw [← hz] at y1
      have HZ := Lib.hid hz
      clear hz
      by_cases z0 : z < 0
      · have d1 : decide (z < 0) = true := decide_eq_true z0
        clear z0
        go_wp2_with fail
        go_ret
        exact ⟨false, rfl, fun h => (by cases h), HB.out⟩
      have d1 : decide (z < 0) = false := decide_eq_false z0
      by_cases z1 : 1073741789 ≤ z
      · have d2 : decide (1073741789 ≤ z) = true := decide_eq_true z1
        clear z0 z1
        go_wp2_with fail
        go_ret
        exact ⟨false, rfl, fun h => (by cases h), HB.out⟩
      have d2 : decide (1073741789 ≤ z) = false := decide_eq_false z1
      have H01 := Lib.hid (And.intro z0 z1)
      clear z0 z1
      go_wp2_with fail
      go_roundw
      case rel => exact ⟨k + 1, by omega, by go_num, by trivial, HE.out z HZ.out.symm ⟨by have := H01.out.1; omega, by have := H01.out.2; omega⟩⟩
      case measure => simp [intOf]; omega
    · have HNN : Hid (∀ z ∈ numbers, 0 ≤ z ∧ z < 1073741789) := Lib.hid (fun z hz => by
        obtain ⟨j, hj, rfl⟩ := List.getElem_of_mem hz
        exact hal j hj (by omega))
      have j2 : decide ((k : Int) < (numbers.length : Int)) = false := decide_eq_false (by omega)
      have j5 : decide (k < numbers.length) = false := decide_eq_false hlt
      clear hal hlt hkl
      go_wp2_with fail
      clear j2 j5
      go_loopw [78] (fun i W => ∃ k : Nat, k ≤ ss.length ∧ i = .int .i64 k ∧ W = wr ∧ ∀ j (h : j < ss.length), j < k → 1 ≤ ss[j] ∧ ss[j] < 1073741789) (fun i _ => ss.length - (intOf i).toNat)
      case atStart => exact ⟨0, Nat.zero_le _, rfl, rfl, fun j _ h => absurd h (Nat.not_lt_zero _)⟩
      case round =>
        obtain ⟨k, hkl, rfl, rfl, hal⟩ := hrel
        by_cases hlt : k < ss.length
        · obtain ⟨b, off, e9, y1⟩ := ints_at HH.out hlt
          subst e9
          have HA := Lib.hid hal
          have HE : Hid (∀ z, ss[k] = z → 1 ≤ z ∧ z < 1073741789 → ∀ j (h : j < ss.length), j < k + 1 → 1 ≤ ss[j] ∧ ss[j] < 1073741789) := Lib.hid (fun z e1 e2 j h h2 => by
            by_cases hj : j < k
            · exact hal j h hj
            · obtain rfl : j = k := by omega
              rw [e1]; exact e2)
          have j0 : 0 ≤ (k : Int) := by omega
          have j1 : (k : Int) < (ss.length : Int) := by omega
          have j2 : decide ((k : Int) < (ss.length : Int)) = true := decide_eq_true j1
          clear hal
          obtain ⟨z, hz⟩ : ∃ z, z = ss[k] := ⟨_, rfl⟩
          rw [← hz] at y1
          have HZ := Lib.hid hz
          clear hz
          by_cases z0 : z < 1
          · have d1 : decide (z < 1) = true := decide_eq_true z0
            clear z0
            go_wp2_with fail
            go_ret
            exact ⟨false, rfl, fun h => (by cases h), HB.out⟩
          have d1 : decide (z < 1) = false := decide_eq_false z0
          by_cases z1 : 1073741789 ≤ z
          · have d2 : decide (1073741789 ≤ z) = true := decide_eq_true z1
            clear z0 z1
            go_wp2_with fail
            go_ret
            exact ⟨false, rfl, fun h => (by cases h), HB.out⟩
          have d2 : decide (1073741789 ≤ z) = false := decide_eq_false z1
          have H01 := Lib.hid (And.intro z0 z1)
          clear z0 z1
          go_wp2_with fail
          go_roundw
          case rel => exact ⟨k + 1, by omega, by go_num, by trivial, HE.out z HZ.out.symm ⟨by have := H01.out.1; omega, by have := H01.out.2; omega⟩⟩
          case measure => simp [intOf]; omega
        · have HSS : Hid (∀ z ∈ ss, 1 ≤ z ∧ z < 1073741789) := Lib.hid (fun z hz => by
            obtain ⟨j, hj, rfl⟩ := List.getElem_of_mem hz
            exact hal j hj (by omega))
          have j2 : decide ((k : Int) < (ss.length : Int)) = false := decide_eq_false (by omega)
          have j5 : decide (k < ss.length) = false := decide_eq_false hlt
          clear hal hlt hkl
          go_wp2_with fail
          go_ret
          refine ⟨_, rfl, fun h => ⟨⟨HP0.out, by have := H16.out.1; omega, by have := H16.out.2; omega, ⟨by have := H23.out.1; omega, by have := H23.out.2; omega⟩, H4.out, H5.out, by have := H7.out; omega, HNN.out, HSS.out⟩, ?_⟩, HB.out⟩
          have := of_decide_eq_true h
          first | exact this | omega

end Go.Proofs.YtggnipkfliompaaGreatDoor

namespace Go.Proofs.YtggnipkfliompaaGreatDoor
open Go.RowKit FP

end Go.Proofs.YtggnipkfliompaaGreatDoor

namespace Go.Proofs.YtggnipkfliompaaGreatDoor
open Go.RowKit FP

end Go.Proofs.YtggnipkfliompaaGreatDoor

namespace Go.Proofs.YtggnipkfliompaaGreatDoor
open Go.RowKit FP

set_option maxRecDepth 100000 in
set_option maxHeartbeats 2000000 in
theorem rNumbers34_any (cv : Value) (cs : List Int) (w : World) (hC : Ints w cv cs) :
    Calls Tryz.prog 146 #[cv] w fun r w' => r = .returned (.bool (!cs.any oddQ)) ∧ w = w' := by
  have HC := Lib.hid (fun k (hk : k < cs.length) => hC.get hk)
  obtain ⟨a3, cap3, rfl, -, hlen3, hcr, -⟩ := id hC
  clear hC hcr
  go_enter Tryz.func146, Tryz.ntmps146
  go_wp2_with fail
  go_loopw [3] (fun i W => ∃ k : Nat, k ≤ cs.length ∧ i = .int .i64 k ∧ Hid (∀ z ∈ cs.take k, oddQ z = false) ∧ W = w) (fun i _ => cs.length - (intOf i).toNat)
  case atStart => exact ⟨0, Nat.zero_le _, rfl, Lib.hid (by simp), rfl⟩
  case round =>
    obtain ⟨k, hkl, rfl, HP, rfl⟩ := hrel
    by_cases hlt : k < cs.length
    · obtain ⟨hr64, b, off, n9, k9, e9, q9⟩ := HC.out k hlt
      simp only [Value.slice.injEq] at e9
      obtain ⟨rfl, -, -⟩ := e9
      have i0 : (k : Int) < (cs.length : Int) := by omega
      have hnt : nth cs k = cs[k] := nth_at hlt
      rw [hnt] at q9 hr64
      cases en : oddQ cs[k] with
      | true =>
        have HVV : Hid ((!cs.any oddQ) = false) := Lib.hid (by rw [any_here hlt en]; rfl)
        have he : (!oddQ cs[k]) = false := by rw [en]; rfl
        clear en hnt
        generalize cs[k] = z at *
        go_wp2_with fail
        with_reducible refine (rnumber34_any z _).mono ?_
        rintro e w3 ⟨rfl, rfl⟩
        rw [he]
        go_wp2_with fail
        go_ret
        exact ⟨ret_bool HVV.out.symm, rfl⟩
      | false =>
        have HN := Lib.hid (take_next hlt HP.out en)
        have he : (!oddQ cs[k]) = true := by rw [en]; rfl
        clear en hnt
        generalize cs[k] = z at *
        go_wp2_with fail
        with_reducible refine (rnumber34_any z _).mono ?_
        rintro e w3 ⟨rfl, rfl⟩
        rw [he]
        go_wp2_with fail
        go_roundw
        case rel => exact ⟨k + 1, by omega, by go_num, HN, by trivial⟩
        case measure => simp [intOf]; omega
    · have hdk : decide (k < cs.length) = false := decide_eq_false hlt
      have HL := Lib.hid (any_of_take hlt HP.out)
      go_wp2_with fail
      go_ret
      exact ⟨ret_bool (by rw [HL.out]; rfl), rfl⟩

set_option maxRecDepth 100000 in
set_option maxHeartbeats 4000000 in
theorem rProduct34_any (u v : Value) (a b : List Int) (w : World) (hA : Ints w u a) (hB : Ints w v b) (hl : a.length ≤ b.length) :
    Calls Tryz.prog 147 #[u, v] w fun r w' => r = .returned (.int .i64 (prodQ a b)) ∧ Below w.heap.size w w' := by
  have HA := Lib.hid (fun k (hk : k < a.length) => hA.get hk)
  have HB := Lib.hid (fun k (hk : k < b.length) => hB.get hk)
  obtain ⟨aa, ca, rfl, -, hla, -⟩ := id hA
  obtain ⟨ab, cb, rfl, -, hlb, -⟩ := id hB
  have HV : Hid (prodQ a b = prodF a b a.length) := Lib.hid rfl
  clear hA hB
  go_enter Tryz.func147, Tryz.ntmps147
  go_wp2_with fail
  go_loopw [5, 6] (fun s i W => ∃ k : Nat, k ≤ a.length ∧ i = .int .i64 k ∧ s = .int .i64 (prodF a b k) ∧ Below w.heap.size w W) (fun _ i _ => a.length - (intOf i).toNat)
  case atStart => exact ⟨0, Nat.zero_le _, rfl, rfl, Below.refl _ _⟩
  case round =>
    obtain ⟨k, hkl, rfl, rfl, hb⟩ := hrel
    have HBW := Lib.hid hb
    by_cases hlt : k < a.length
    · obtain ⟨hr1, b1, o1, n1, c1, e1, q1⟩ := HA.out k hlt
      obtain ⟨hr2, b2, o2, n2, c2, e2, q2⟩ := HB.out k (by omega)
      simp only [Value.slice.injEq] at e1 e2
      obtain ⟨rfl, -, -⟩ := e1
      obtain ⟨rfl, -, -⟩ := e2
      have y1 := below_cell hb q1
      have y2 := below_cell hb q2
      have hpn := prodF_num a b k
      have HM := Lib.hid (fun w => rmul_any (nth a k) (nth b k) w hr1 hr2)
      have HAD := Lib.hid (fun w => radd_any (prodF a b k) (nth a k * nth b k % 1073741789) w (num_r64 hpn) (mod_r64 _))
      have HNX := Lib.hid (show prodF a b (k + 1) = (prodF a b k + nth a k * nth b k % 1073741789) % 1073741789 from rfl)
      have i0 : 0 ≤ (k : Int) := by omega
      have i1 : (k : Int) < (a.length : Int) := by omega
      have i2 : (k : Int) < (b.length : Int) := by omega
      clear q1 q2 hb hpn
      generalize prodF a b k = pf at *
      generalize nth a k * nth b k % 1073741789 = m at *
      generalize nth a k = x at *
      generalize nth b k = y at *
      go_wp2_with fail
      go_region_held3 (fun w' => w'.cell? ⟨b1, o1 + k, none⟩ = some (.int .i64 x) ∧ w'.cell? ⟨b2, o2 + k, none⟩ = some (.int .i64 y)) (go_keep)
        (first
          | (go_at_call 195; (with_reducible refine (HM.out _).mono ?_); rintro e w2 ⟨rfl, rfl⟩)
          | (go_at_call 109; (with_reducible refine (HAD.out _).mono ?_); rintro e w2 ⟨rfl, rfl⟩))
      go_wp2_with fail
      go_roundw
      case rel => exact ⟨k + 1, by omega, by go_num, by rw [HNX.out], below_drewN HBW.out _⟩
      case measure => simp [intOf]; omega
    · obtain rfl : k = a.length := by omega
      have hdk : decide (a.length < a.length) = false := decide_eq_false (by omega)
      go_wp2_with fail
      go_ret
      exact ⟨ret_int HV.out.symm, HBW.out⟩

end Go.Proofs.YtggnipkfliompaaGreatDoor

namespace Go.Proofs.YtggnipkfliompaaGreatDoor
open Go.RowKit FP

section
variable {P : Program} {md : Region.Mode} {ops : Array Oper} {Q : Exit → Act → World → Prop} {S : World → Prop} {i : Nat} {oi : Oper} {fuel : Nat} {listed : Array Bool} {a : Act} {w : World}
end

end Go.Proofs.YtggnipkfliompaaGreatDoor
