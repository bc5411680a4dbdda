/- The reference of package program: Has, People, Columns, Few; the laws' product. The reference of package program: Few; the laws' product. -/
import Derived.Test.YtohebkpgjaaljaaMPmA
namespace Go.Proofs.Ytohebkpgjaaljaa
open Go.RowKit FP

set_option maxRecDepth 100000 in
set_option maxHeartbeats 2000000 in
theorem rHas_any (v : Value) (l : List Int) (n : Int) (w : World) (hI : Ints w v l) :
    Calls Try.prog 27 #[v, .int .i64 n] w fun e w' => e = .returned (.bool (decide (n ∈ l))) ∧ w = w' := by
  have HC := Lib.hid (fun k (hk : k < l.length) => hI.get hk)
  obtain ⟨a, cap, rfl, -, hlen, -⟩ := hI
  go_enter Try.func27, Try.ntmps27
  go_wp2_with fail
  go_loopw [5] (fun i W => ∃ k : Nat, k ≤ l.length ∧ i = .int .i64 k ∧ Hid (∀ z ∈ l.take k, decide (z = n) = false) ∧ W = w) (fun i _ => l.length - (intOf i).toNat)
  case atStart => exact ⟨0, Nat.zero_le _, rfl, Lib.hid (by simp), rfl⟩
  case round =>
    obtain ⟨k, hkl, rfl, HP, rfl⟩ := hrel
    by_cases hlt : k < l.length
    · obtain ⟨-, b, off, n9, k9, e9, q9⟩ := HC.out k hlt
      simp only [Value.slice.injEq] at e9
      obtain ⟨rfl, -, -⟩ := e9
      have i0 : 0 ≤ (k : Int) := by omega
      have i1 : (k : Int) < (l.length : Int) := by omega
      have hnt : nth l k = l[k] := nth_at hlt
      rw [hnt] at q9
      by_cases en : l[k] = n
      · have HVV : Hid (decide (n ∈ l) = true) := Lib.hid (decide_eq_true (by rw [← en]; exact List.getElem_mem hlt))
        have he : (l[k] == n) = true := beq_iff_eq.2 en
        clear en hnt
        generalize l[k] = z at *
        go_wp2_with fail
        go_ret
        exact ⟨ret_bool HVV.out.symm, rfl⟩
      · have HN := Lib.hid (take_next hlt HP.out (decide_eq_false en))
        have he : (l[k] == n) = false := beq_eq_false_iff_ne.2 en
        clear en hnt
        generalize l[k] = z at *
        go_wp2_with fail
        go_roundw
        case rel => exact ⟨k + 1, by omega, by go_num, HN, by trivial⟩
        case measure => simp [intOf]; omega
    · have HL := Lib.hid (any_of_take hlt HP.out)
      have HVV : Hid (decide (n ∈ l) = false) := Lib.hid (decide_eq_false (fun hm => by
        have := HL.out
        rw [List.any_eq_false] at this
        exact this n hm (by simp)))
      have hdk : decide (k < l.length) = false := decide_eq_false hlt
      go_wp2_with fail
      go_ret
      exact ⟨ret_bool HVV.out.symm, rfl⟩

set_option maxRecDepth 100000 in
set_option maxHeartbeats 2000000 in
theorem rCols_any (rv ov : Value) (rows : List (List Int)) (w : World) (hR : Rows2 w rv rows) (ho : ∃ a n c, ov = .slice a n c) :
    Calls Try.prog 26 #[.agg #[rv, ov]] w fun e w' => e = .returned (.int .i64 (colsQ rows)) ∧ Below w.heap.size w w' := by
  obtain ⟨oa, on, oc, rfl⟩ := ho
  obtain ⟨W1, hW1, hb1, hr1, hz⟩ := box_prog w rv (.slice oa on oc) 25
  have HR := Lib.hid (hR.below hb1)
  obtain ⟨a, cap, rfl, -, hlen, -⟩ := id hR
  have c0 : W1.cell? ⟨w.heap.size, 0, none⟩ = some (.slice a rows.length cap) := row_cell hr1 rfl
  have HB := Lib.hid hb1
  have HW := Lib.hid hW1
  clear hR hr1 hb1 hW1 hz
  by_cases h0 : rows.length = 0
  · have hq : ((rows.length : Int) == 0) = true := by rw [h0]; rfl
    have HV : Hid ((1 : Int) = (colsQ rows : Int)) := Lib.hid (by obtain rfl : rows = [] := List.length_eq_zero_iff.1 h0; rfl)
    clear h0
    go_enter Try.func26, Try.ntmps26
    go_wp2_with (rw [← HW.out])
    go_ret
    exact ⟨ret_int HV.out, HB.out⟩
  · have hq : ((rows.length : Int) == 0) = false := beq_eq_false_iff_ne.2 (by omega)
    obtain ⟨a9, c9, e9, -, -, hk⟩ := HR.out
    obtain ⟨b, off, r, ea, hc, hr⟩ := hk 0 (by omega)
    simp only [Value.slice.injEq] at e9
    obtain ⟨rfl, -, -⟩ := e9
    subst ea
    obtain ⟨a8, c8, rfl, -⟩ := id hr
    have HV : Hid ((rows[0].length : Int) = (colsQ rows : Int)) := Lib.hid (by
      cases rows with
      | nil => exact absurd rfl h0
      | cons x t => rfl)
    rw [Nat.add_zero] at hc
    have i0 : (0 : Int) < (rows.length : Int) := by omega
    clear hk hr
    generalize rows[0].length = m at *
    go_enter Try.func26, Try.ntmps26
    go_wp2_with (rw [← HW.out])
    go_ret
    exact ⟨ret_int HV.out, HB.out⟩

/-- The reference's People at a number. -/
def pplAt (l : List Int) (k : Nat) : Bool := inB (nth l k) 0 63 && (decide (k = 0) || decide (nth l (k - 1) < nth l k))
theorem peopleB_step {l : List Int} {k : Nat} (hk : k < l.length) (h : peopleB (-1) (l.take k) = true) : peopleB (-1) (l.take (k + 1)) = pplAt l k := by
  rw [peopleB_take hk, h, Bool.true_and]
  unfold pplAt
  rw [nth_at hk]
  cases e : inB l[k] 0 63 with
  | false => rfl
  | true =>
    rw [Bool.true_and, Bool.true_and]
    have h0 := inB_iff.1 e
    cases k with
    | zero =>
      rw [List.take_zero]
      show decide ((-1 : Int) < l[0]) = _
      rw [decide_eq_true (by omega)]; rfl
    | succ k =>
      rw [lastP_take (by omega), Nat.add_sub_cancel, nth_at (by omega)]
      simp

set_option maxRecDepth 100000 in
set_option maxHeartbeats 4000000 in
theorem rPeople_any (v : Value) (l : List Int) (w : World) (hI : Ints w v l) :
    Calls Try.prog 25 #[v] w fun e w' => e = .returned (.bool (peopleB (-1) l)) ∧ Below w.heap.size w w' := by
  have HC := Lib.hid (fun k (hk : k < l.length) => hI.get hk)
  obtain ⟨a, cap, rfl, -, hlen, -⟩ := hI
  go_enter Try.func25, Try.ntmps25
  go_wp2_with fail
  go_loopw [3] (fun i W => ∃ k : Nat, k ≤ l.length ∧ i = .int .i64 k ∧ Hid (peopleB (-1) (l.take k) = true) ∧ Below w.heap.size w W) (fun i _ => l.length - (intOf i).toNat)
  case atStart => exact ⟨0, Nat.zero_le _, rfl, Lib.hid rfl, Below.refl _ _⟩
  case round =>
    obtain ⟨k, hkl, rfl, HP, hb⟩ := hrel
    by_cases hlt : k < l.length
    · obtain ⟨hr9, b, off, n9, k9, e9, q9⟩ := HC.out k hlt
      simp only [Value.slice.injEq] at e9
      obtain ⟨rfl, -, -⟩ := e9
      have HST := Lib.hid (peopleB_step hlt HP.out)
      have HBD := Lib.hid (fun (h : pplAt l k = false) => peopleB_bad (l := l) (last := -1) (k := k) ((peopleB_step hlt HP.out).trans h))
      have y0 := below_cell hb q9
      have i0 : 0 ≤ (k : Int) := by omega
      have i1 : (k : Int) < (l.length : Int) := by omega
      obtain ⟨x, hx⟩ : ∃ x, x = nth l k := ⟨_, rfl⟩
      have HX := Lib.hid hx
      rw [← hx] at y0 hr9
      have HBW := Lib.hid hb
      clear hx q9 hb
      by_cases h0 : x < 0
      · have d0 : decide (x < 0) = true := decide_eq_true h0
        have HV := Lib.hid (HBD.out (by unfold pplAt; rw [← HX.out, show inB x 0 63 = false from by cases e : inB x 0 63 with | false => rfl | true => have := inB_iff.1 e; omega]; rfl))
        clear h0
        go_wp2_with fail
        go_quiet (fail)
        go_wp2_with fail
        go_ret
        exact ⟨ret_bool HV.out.symm, below_drewN HBW.out _⟩
      · have d0 : decide (x < 0) = false := decide_eq_false h0
        by_cases h64 : 64 ≤ x
        · have d1 : decide (64 ≤ x) = true := decide_eq_true h64
          have HV := Lib.hid (HBD.out (by unfold pplAt; rw [← HX.out, show inB x 0 63 = false from by cases e : inB x 0 63 with | false => rfl | true => have := inB_iff.1 e; omega]; rfl))
          clear h0 h64
          go_wp2_with fail
          go_quiet (fail)
          go_wp2_with fail
          go_ret
          exact ⟨ret_bool HV.out.symm, below_drewN HBW.out _⟩
        · have d1 : decide (64 ≤ x) = false := decide_eq_false h64
          have hin : inB x 0 63 = true := inB_iff.2 ⟨by omega, by omega⟩
          by_cases hk0 : k = 0
          · have d2 : decide (0 < k) = false := decide_eq_false (by omega)
            have HN := Lib.hid (HST.out.trans (by unfold pplAt; rw [← HX.out, hin, decide_eq_true hk0]))
            clear h0 h64 hin hk0
            go_wp2_with fail
            go_quiet (fail)
            go_wp2_with fail
            go_roundw
            case rel => exact ⟨k + 1, by omega, by go_num, HN, below_drewN HBW.out _⟩
            case measure => simp [intOf]; omega
          · have d2 : decide (0 < k) = true := decide_eq_true (by omega)
            obtain ⟨j, hj⟩ : ∃ j, j = k - 1 := ⟨_, rfl⟩
            have hw : IntKind.i64.wrap ((k : Int) - 1) = (j : Int) := by rw [IntKind.wrap_i64]; omega
            have HJ := Lib.hid hj
            obtain ⟨hr8, b2, off2, n8, k8, e8, q8⟩ := HC.out j (by omega)
            simp only [Value.slice.injEq, Option.some.injEq, Addr.mk.injEq] at e8
            obtain ⟨⟨rfl, rfl, -⟩, -, -⟩ := e8
            have j0 : 0 ≤ (j : Int) := by omega
            have j1 : (j : Int) < (l.length : Int) := by omega
            obtain ⟨y, hy⟩ : ∃ y, y = nth l j := ⟨_, rfl⟩
            have HY := Lib.hid hy
            rw [← hy] at q8 hr8
            have y1 := below_cell HBW.out q8
            have HK0 := Lib.hid hk0
            clear hy q8 hj
            by_cases hle : x ≤ y
            · have d3 : decide (x ≤ y) = true := decide_eq_true hle
              have HV := Lib.hid (HBD.out (by unfold pplAt; rw [← HX.out, hin, ← HJ.out, ← HY.out, decide_eq_false HK0.out, decide_eq_false (by omega)]; rfl))
              clear h0 h64 hin hk0 hle
              go_wp2_with fail
              go_quiet (fail)
              go_wp2_with fail
              go_ret
              exact ⟨ret_bool HV.out.symm, below_drewN HBW.out _⟩
            · have d3 : decide (x ≤ y) = false := decide_eq_false hle
              have HN := Lib.hid (HST.out.trans (by unfold pplAt; rw [← HX.out, hin, ← HJ.out, ← HY.out, decide_eq_true (show y < x by omega), Bool.or_true]))
              clear h0 h64 hin hk0 hle
              go_wp2_with fail
              go_quiet (fail)
              go_wp2_with fail
              go_roundw
              case rel => exact ⟨k + 1, by omega, by go_num, HN, below_drewN HBW.out _⟩
              case measure => simp [intOf]; omega
    · have HL : Hid (peopleB (-1) l = true) := Lib.hid (by have := HP.out; rwa [List.take_of_length_le (by omega)] at this)
      have hdk : decide (k < l.length) = false := decide_eq_false hlt
      have HBW := Lib.hid hb
      clear hb
      go_wp2_with fail
      go_ret
      exact ⟨ret_bool HL.out.symm, HBW.out⟩

end Go.Proofs.Ytohebkpgjaaljaa

namespace Go.Proofs.Ytohebkpgjaaljaa
open Go.RowKit FP

theorem few_cases (n : Nat) : n ≤ 20 ∨ (20 < n ∧ n ≤ 64) ∨ (64 < n ∧ n ≤ 100) ∨ 100 < n := by omega

set_option maxRecDepth 100000 in
set_option maxHeartbeats 8000000 in
theorem rFew23_any (rv ov : Value) (rows : List (List Int)) (owners : List Int) (w : World) (hR : Rows2 w rv rows) (hO : Ints w ov owners) :
    Calls Try.prog 13 #[.agg #[rv, ov]] w fun e w' => ∃ b, e = .returned (.bool b) ∧ Below w.heap.size w w' := by
  obtain ⟨W1, hW1, hb1, hr1, hz⟩ := box_prog w rv ov 25
  have HR1 := Lib.hid (hR.below hb1)
  obtain ⟨a, cap, rfl, -, hlen, -⟩ := id hR
  obtain ⟨a2, cap2, rfl, -, hlen2, -⟩ := id hO
  have c0 : W1.cell? ⟨w.heap.size, 0, none⟩ = some (.slice a rows.length cap) := row_cell hr1 rfl
  have c1 : W1.cell? ⟨w.heap.size, 1, none⟩ = some (.slice a2 owners.length cap2) := row_cell hr1 rfl
  have HW1 := Lib.hid hW1
  have HB1 := Lib.hid hb1
  clear hR hO hr1 hW1 hb1
  go_enter Try.func13, Try.ntmps13
  go_wp2_with (rw [← HW1.out])
  go_loopw [3] (fun i W => ∃ k : Nat, k ≤ rows.length ∧ k ≤ 80 ∧ i = .int .i64 k ∧ W = W1) (fun i _ => rows.length - (intOf i).toNat)
  case atStart => exact ⟨0, Nat.zero_le _, by omega, rfl, rfl⟩
  case round =>
    obtain ⟨k, hkl, hk80, rfl, rfl⟩ := hrel
    by_cases hlt : k < rows.length ∧ k < 80
    · obtain ⟨hlt, hlt80⟩ := hlt
      obtain ⟨aa, cc, e1, -, -, hk⟩ := HR1.out
      obtain ⟨b, off, r, ha, y1, hI⟩ := hk k hlt
      simp only [Value.slice.injEq] at e1
      obtain ⟨rfl, -, rfl⟩ := e1
      subst ha
      obtain ⟨ra, rc, rfl, -⟩ := id hI
      have j0 : 0 ≤ (k : Int) := by omega
      have i0 : (k : Int) < (rows.length : Int) := by omega
      have i1 : decide ((k : Int) < (rows.length : Int)) = true := decide_eq_true (by omega)
      have i2 : decide ((k : Int) < 80) = true := decide_eq_true (by omega)
      have i3 : decide (k < rows.length) = true := decide_eq_true hlt
      clear hk hI
      generalize rows[k] = r at *
      rcases few_cases r.length with hc | hc | hc | hc
      · have r1 : decide ((20 : Int) < (r.length : Int)) = false := decide_eq_false (by omega)
        have r2 : decide ((r.length : Int) ≤ 64) = true := decide_eq_true (by omega)
        have r3 : decide ((100 : Int) < (r.length : Int)) = false := decide_eq_false (by omega)
        go_wp2_with fail
        go_roundw
        case rel => exact ⟨k + 1, by omega, by omega, by go_num, by trivial⟩
        case measure => simp [intOf]; omega
      · have r1 : decide ((20 : Int) < (r.length : Int)) = true := decide_eq_true (by omega)
        have r2 : decide ((r.length : Int) ≤ 64) = true := decide_eq_true (by omega)
        have r3 : decide ((100 : Int) < (r.length : Int)) = false := decide_eq_false (by omega)
        go_wp2_with fail
        go_ret
        exact ⟨_, rfl, HB1.out⟩
      · have r1 : decide ((20 : Int) < (r.length : Int)) = true := decide_eq_true (by omega)
        have r2 : decide ((r.length : Int) ≤ 64) = false := decide_eq_false (by omega)
        have r3 : decide ((100 : Int) < (r.length : Int)) = false := decide_eq_false (by omega)
        go_wp2_with fail
        go_roundw
        case rel => exact ⟨k + 1, by omega, by omega, by go_num, by trivial⟩
        case measure => simp [intOf]; omega
      · have r1 : decide ((20 : Int) < (r.length : Int)) = true := decide_eq_true (by omega)
        have r2 : decide ((r.length : Int) ≤ 64) = false := decide_eq_false (by omega)
        have r3 : decide ((100 : Int) < (r.length : Int)) = true := decide_eq_true (by omega)
        go_wp2_with fail
        go_ret
        exact ⟨_, rfl, HB1.out⟩
    · have hstop : ∃ b1, decide ((k : Int) < (rows.length : Int)) = b1 ∧ decide (k < rows.length) = b1 ∧ (b1 = true → decide ((k : Int) < 80) = false) := by
        by_cases h : k < rows.length
        · exact ⟨true, decide_eq_true (by omega), decide_eq_true h, fun _ => decide_eq_false (by omega)⟩
        · exact ⟨false, decide_eq_false (by omega), decide_eq_false h, fun h => by cases h⟩
      obtain ⟨e1, p1, p2, p3⟩ := hstop
      obtain ⟨e2, q1⟩ : ∃ b, decide ((rows.length : Int) ≤ 20) = b := ⟨_, rfl⟩
      obtain ⟨e3, q2⟩ : ∃ b, decide ((64 : Int) < (rows.length : Int)) = b := ⟨_, rfl⟩
      obtain ⟨e4, q3⟩ : ∃ b, decide ((rows.length : Int) ≤ 80) = b := ⟨_, rfl⟩
      obtain ⟨e5, q4⟩ : ∃ b, decide ((owners.length : Int) ≤ 100) = b := ⟨_, rfl⟩
      clear hlt hkl hk80
      cases e1
      · clear p3
        cases e2
        · cases e3
          · go_wp2_with fail
            go_ret
            first | exact ⟨_, rfl, HB1.out⟩ | exact ⟨.inl rfl, HB1.out⟩ | exact ⟨.inr rfl, HB1.out⟩
          · cases e4 <;> cases e5
            all_goals
              go_wp2_with fail
              go_ret
              first | exact ⟨_, rfl, HB1.out⟩ | exact ⟨.inl rfl, HB1.out⟩ | exact ⟨.inr rfl, HB1.out⟩
        · cases e5
          all_goals
            go_wp2_with fail
            go_ret
            first | exact ⟨_, rfl, HB1.out⟩ | exact ⟨.inl rfl, HB1.out⟩ | exact ⟨.inr rfl, HB1.out⟩
      · have p3 := p3 rfl
        cases e2
        · cases e3
          · go_wp2_with fail
            go_ret
            first | exact ⟨_, rfl, HB1.out⟩ | exact ⟨.inl rfl, HB1.out⟩ | exact ⟨.inr rfl, HB1.out⟩
          · cases e4 <;> cases e5
            all_goals
              go_wp2_with fail
              go_ret
              first | exact ⟨_, rfl, HB1.out⟩ | exact ⟨.inl rfl, HB1.out⟩ | exact ⟨.inr rfl, HB1.out⟩
        · cases e5
          all_goals
            go_wp2_with fail
            go_ret
            first | exact ⟨_, rfl, HB1.out⟩ | exact ⟨.inl rfl, HB1.out⟩ | exact ⟨.inr rfl, HB1.out⟩

set_option maxRecDepth 100000 in
set_option maxHeartbeats 4000000 in
theorem rproduct23_any (u v : Value) (a b : List Int) (w : World) (hA : Ints w u a) (hB : Ints w v b) (hl : a.length ≤ b.length) (ha : ∀ z ∈ a, 0 ≤ z ∧ z < 1073741789) (hb : ∀ z ∈ b, 0 ≤ z ∧ z < 1073741789) :
    Calls Try.prog 28 #[u, v] w fun r w' => r = .returned (.int .i64 (prodQ a b)) ∧ Below w.heap.size w w' := by
  have HA := Lib.hid (fun k (hk : k < a.length) => hA.get hk)
  have HB := Lib.hid (fun k (hk : k < b.length) => hB.get hk)
  have HNA := Lib.hid ha
  have HNB := Lib.hid hb
  obtain ⟨pa, ca, rfl, ha1, ha2, -, -⟩ := hA
  obtain ⟨pb, cb, rfl, hb1, hb2, -, -⟩ := hB
  clear ha hb
  go_enter Try.func28, Try.ntmps28
  go_wp2_with fail
  go_loopw [5, 6, 9] (fun s _ i wr => ∃ k : Nat, k ≤ a.length ∧ i = .int .i64 k ∧ s = .int .i64 (prodF a b k) ∧ Below w.heap.size w wr) (fun _ _ i _ => a.length - (intOf i).toNat)
  case atStart => exact ⟨0, Nat.zero_le _, rfl, rfl, Below.refl _ _⟩
  case round =>
    obtain ⟨k, hkl, rfl, rfl, hb⟩ := hrel
    have HBW := Lib.hid hb
    by_cases hlt : k < a.length
    · obtain ⟨-, ba, oa, _, _, e1, hca⟩ := HA.out k hlt
      cases e1
      obtain ⟨-, bb, ob, _, _, e2, hcb⟩ := HB.out k (by omega)
      cases e2
      have hca := below_cell hb hca
      have hcb := below_cell hb hcb
      have hsn := prodF_num a b k
      have hxn := HNA.out (nth a k) (by rw [nth_at hlt]; exact List.getElem_mem hlt)
      have hyn := HNB.out (nth b k) (by rw [nth_at (show k < b.length by omega)]; exact List.getElem_mem _)
      have HF := Lib.hid (show prodF a b (k + 1) = (prodF a b k + nth a k * nth b k) % 1073741789 from by
        show (prodF a b k + nth a k * nth b k % 1073741789) % 1073741789 = _
        omega)
      obtain ⟨x, hx⟩ : ∃ x, x = nth a k := ⟨_, rfl⟩
      obtain ⟨y, hy⟩ : ∃ y, y = nth b k := ⟨_, rfl⟩
      obtain ⟨s, hs⟩ : ∃ s, s = prodF a b k := ⟨_, rfl⟩
      rw [← hx] at hca hxn HF
      rw [← hy] at hcb hyn HF
      rw [← hs] at hsn HF ⊢
      have hm0 : 0 ≤ x * y := Int.mul_nonneg hxn.1 hyn.1
      have hm1 : x * y ≤ 1073741788 * 1073741788 := Int.mul_le_mul (by omega) (by omega) hyn.1 (by omega)
      have w1 : IntKind.i64.wrap (x * y) = x * y := IntWalk.i64_in _ (by omega)
      have w2 : IntKind.i64.wrap (s + x * y) = s + x * y := IntWalk.i64_in _ (by omega)
      have w3 : (s + x * y).tmod 1073741789 = (s + x * y) % 1073741789 := Int.tmod_eq_emod_of_nonneg (by omega)
      have w4 : IntKind.i64.wrap ((s + x * y) % 1073741789) = (s + x * y) % 1073741789 := IntWalk.i64_in _ (by omega)
      have v1 : wrap64 (x * y) = x * y := by unfold wrap64; omega
      have v2 : wrap64 (s + x * y) = s + x * y := by unfold wrap64; omega
      have v4 : wrap64 ((s + x * y) % 1073741789) = (s + x * y) % 1073741789 := by unfold wrap64; omega
      have i1 : (0 : Int) ≤ (k : Int) := by omega
      have i2 : (k : Int) < (a.length : Int) := by omega
      have i3 : (k : Int) < (b.length : Int) := by omega
      clear hx hy hs hm0 hm1 hsn hxn hyn
      go_wp2_with fail
      go_quiet (fail)
      go_wp2_with fail
      go_roundw
      case rel => exact ⟨k + 1, by omega, by go_num, by rw [HF.out], below_drewN HBW.out _⟩
      case measure => simp [intOf]; omega
    · obtain rfl : k = a.length := by omega
      have HN := Lib.hid (show prodQ a b = prodF a b a.length from rfl)
      go_wp2_with fail
      go_ret
      exact ⟨ret_int HN.out.symm, HBW.out⟩

end Go.Proofs.Ytohebkpgjaaljaa
