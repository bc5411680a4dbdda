/- The reference of dealing: comparing; the laws' program of one row. The laws of dealing: the program of one row. The laws of dealing: the examples. -/
import Derived.Test.YtnbkbnbmmkfckaaGreatMDeaN
import Derived.BigQuiet
namespace Go.Proofs.YtnbkbnbmmkfckaaGreat
open Go.RowKit FP

def sameS (a b : List (Int × Int)) : Bool := decide (a = b)
theorem take_eq_next {α : Type} {a b : List α} {k : Nat} (ha : k < a.length) (hb : k < b.length) (h : a.take k = b.take k) (he : a[k] = b[k]) : a.take (k + 1) = b.take (k + 1) := by
  rw [List.take_succ_eq_append_getElem ha, List.take_succ_eq_append_getElem hb, h, he]

set_option maxRecDepth 100000 in
set_option maxHeartbeats 4000000 in
theorem rsame_any (u v : Value) (a b : List (Int × Int)) (w : World) (hA : Shares w u a) (hB : Shares w v b) :
    Calls Tryz.prog 11 #[u, v] w fun r w' => r = .returned (.bool (sameS a b)) ∧ Below w.heap.size w w' := by
  obtain ⟨aa, ca, rfl, -, hla, -, hka⟩ := hA
  obtain ⟨ab, cb, rfl, -, hlb, -, hkb⟩ := hB
  have HA := Lib.hid hka
  have HB := Lib.hid hkb
  clear hka hkb
  by_cases hl : a.length = b.length
  · have hlI : ((a.length : Int) != (b.length : Int)) = false := by rw [hl]; exact bne_self_eq_false _
    have HLN := Lib.hid hl
    clear hl
    go_enter Tryz.func11, Tryz.ntmps11
    go_wp2_with fail
    go_loopw [5] (fun i W => ∃ k : Nat, k ≤ a.length ∧ i = .int .i64 k ∧ Hid (a.take k = b.take k) ∧ Below w.heap.size w W) (fun i _ => a.length - (intOf i).toNat)
    case atStart => exact ⟨0, Nat.zero_le _, rfl, Lib.hid rfl, Below.refl _ _⟩
    case round =>
      obtain ⟨k, hkl, rfl, HT, hb⟩ := hrel
      by_cases hlt : k < a.length
      · have hltb : k < b.length := by have := HLN.out; omega
        obtain ⟨b1, o1, e1, p0, p1⟩ := HA.out k hlt
        obtain ⟨b2, o2, e2, q0, q1⟩ := HB.out k hltb
        subst e1 e2
        have y0 := below_cell hb p0
        have y1 := below_cell hb p1
        have z0 := below_cell hb q0
        have z1 := below_cell hb q1
        have i0 : 0 ≤ (k : Int) := by omega
        have i1 : (k : Int) < (a.length : Int) := by omega
        have i2 : (k : Int) < (b.length : Int) := by omega
        have HBW := Lib.hid hb
        clear p0 p1 q0 q1 hb
        by_cases he : a[k] = b[k]
        · have HN := Lib.hid (take_eq_next hlt hltb HT.out he)
          have f1 : b[k].1 = a[k].1 := by rw [he]
          have f2 : b[k].2 = a[k].2 := by rw [he]
          rw [f1] at z0
          rw [f2] at z1
          clear he f1 f2
          generalize a[k].1 = x1 at *
          generalize a[k].2 = x2 at *
          go_wp2_with fail
          go_quiet (fail)
          go_wp2_with fail
          go_roundw
          case rel => exact ⟨k + 1, by omega, by go_num, HN, below_drewN HBW.out _⟩
          case measure => simp [intOf]; omega
        · have HV := Lib.hid (show sameS a b = false by
            unfold sameS; refine decide_eq_false (fun e => he ?_)
            subst e; rfl)
          by_cases h1 : a[k].1 = b[k].1
          · have n1 : (a[k].1 == b[k].1) = true := beq_iff_eq.2 h1
            have n2 : (a[k].2 == b[k].2) = false := beq_eq_false_iff_ne.2 (fun h2 => he (Prod.ext h1 h2))
            clear he h1
            generalize a[k].1 = x1 at *
            generalize a[k].2 = x2 at *
            generalize b[k].1 = x3 at *
            generalize b[k].2 = x4 at *
            go_wp2_with fail
            go_quiet (fail)
            go_wp2_with fail
            go_ret
            exact ⟨ret_bool HV.out.symm, below_drewN HBW.out _⟩
          · have n1 : (a[k].1 == b[k].1) = false := beq_eq_false_iff_ne.2 h1
            clear he h1
            generalize a[k].1 = x1 at *
            generalize a[k].2 = x2 at *
            generalize b[k].1 = x3 at *
            generalize b[k].2 = x4 at *
            go_wp2_with fail
            go_quiet (fail)
            go_wp2_with fail
            go_ret
            exact ⟨ret_bool HV.out.symm, below_drewN HBW.out _⟩
      · have HV := Lib.hid (show sameS a b = true by
          unfold sameS; refine decide_eq_true ?_
          have := HT.out
          rwa [List.take_of_length_le (by omega), List.take_of_length_le (by have := HLN.out; omega)] at this)
        have hdk : decide (k < a.length) = false := decide_eq_false hlt
        go_wp2_with fail
        go_ret
        exact ⟨ret_bool HV.out.symm, hb⟩
  · have hlI : ((a.length : Int) != (b.length : Int)) = true := bne_iff_ne.2 (by omega)
    have HV := Lib.hid (show sameS a b = false by unfold sameS; exact decide_eq_false (fun e => hl (by rw [e])))
    go_enter Tryz.func11, Tryz.ntmps11
    go_wp2_with fail
    go_ret
    exact ⟨ret_bool HV.out.symm, Below.refl _ _⟩

end Go.Proofs.YtnbkbnbmmkfckaaGreat

namespace Go.Proofs.YtnbkbnbmmkfckaaGreat
open Go.RowKit FP

theorem ints_of2 {w : World} {b c : Nat} {x y : Int} (h : w.cell? ⟨b, 0, none⟩ = some (.int .i64 x)) (h2 : w.cell? ⟨b, 1, none⟩ = some (.int .i64 y)) (hx : R64 x) (hy : R64 y) (hc : 2 ≤ c) : Ints w (.slice (some ⟨b, 0, none⟩) 2 c) [x, y] :=
  ⟨_, c, rfl, hc, by simp, by simp [hx, hy], fun k hk => ⟨b, 0, rfl, by
    match k, hk with
    | 0, _ => exact h
    | 1, _ => exact h2⟩⟩
end Go.Proofs.YtnbkbnbmmkfckaaGreat

namespace Go.Proofs.YtnbkbnbmmkfckaaGreat
open Go.RowKit FP

end Go.Proofs.YtnbkbnbmmkfckaaGreat
