/- The reference of keygen: SameDealing and SameKey of equal ones; Small, Few. -/
import Derived.Test.YtggnipkfliompaaGreatDoorMKgA
import Derived.Test.YtggnipkfliompaaGreatDoorMPmA
namespace Go.Proofs.YtggnipkfliompaaGreatDoor
open Go.RowKit FP

theorem sameP_self (r : List (List Int)) (o : List Int) : sameP r r o o = true := by unfold sameP sameQ; rw [decide_eq_true rfl, decide_eq_true rfl]; rfl
theorem sameQ_self (o : List Int) : sameQ o o = true := by unfold sameQ; exact decide_eq_true rfl

set_option maxRecDepth 100000 in
set_option maxHeartbeats 4000000 in
theorem rSameDealing37_any (cv pv cv2 pv2 : Value) (d : Dlg) (w : World) (hC : Ints w cv d.cs) (hP : Parcels w pv d.ps) (hC2 : Ints w cv2 d.cs) (hP2 : Parcels w pv2 d.ps) :
    Calls Tryz.prog 30 #[.agg #[.int .i64 d.dealer, cv, pv], .agg #[.int .i64 d.dealer, cv2, pv2]] w fun e w' => e = .returned (.bool true) ∧ Below w.heap.size w w' := by
  obtain ⟨dl, cs, ps⟩ := d
  simp only at hC hP hC2 hP2 ⊢
  obtain ⟨W0, hW0, hb0, hr0, hs0⟩ := box36 w (.int .i64 dl) cv pv 28
  obtain ⟨W1, hW1, hb1, hr1, -⟩ := box36 W0 (.int .i64 dl) cv2 pv2 28
  have hb := hb0.trans (hb1.mono hb0.size)
  rw [hs0] at hr1
  have Q0 := Lib.hid ((hb1.block _ (row_lt hr0)).trans hr0)
  have Q1 := Lib.hid hr1
  have HC := Lib.hid (hC.below hb)
  have HP := Lib.hid (hP.below hb)
  have HC2 := Lib.hid (hC2.below hb)
  have HP2 := Lib.hid (hP2.below hb)
  obtain ⟨a1, k1, rfl, -⟩ := id hC
  obtain ⟨a2, k2, rfl, -, hl2, -⟩ := id hP
  obtain ⟨a3, k3, rfl, -⟩ := id hC2
  obtain ⟨a4, k4, rfl, -⟩ := id hP2
  rw [hW0] at hW1
  have HW := Lib.hid hW1
  have HB := Lib.hid hb
  clear hC hP hC2 hP2 hb hb0 hb1 hr0 hr1 hW0 hW1 hs0
  have c0 := row_cell Q0.out (k := 0) (v := .int .i64 dl) rfl
  have c1 := row_cell Q0.out (k := 1) (v := .slice a1 cs.length k1) rfl
  have c2 := row_cell Q0.out (k := 2) (v := .slice a2 ps.length k2) rfl
  have e0 := row_cell Q1.out (k := 0) (v := .int .i64 dl) rfl
  have e1 := row_cell Q1.out (k := 1) (v := .slice a3 cs.length k3) rfl
  have e2 := row_cell Q1.out (k := 2) (v := .slice a4 ps.length k4) rfl
  have HSQ := Lib.hid (sameQ_self cs)
  go_enter Tryz.func30, Tryz.ntmps30
  have z1 : (dl != dl) = false := by simp
  have z2 : ((ps.length : Int) != (ps.length : Int)) = false := by simp
  go_wp2_with (rw [← HW.out])
  clear HW
  with_reducible refine (rSameInts34_any _ _ cs cs _ HC.out HC2.out).mono ?_
  rintro e w2 ⟨rfl, hb2⟩
  replace c0 := below_cell hb2 c0
  replace c1 := below_cell hb2 c1
  replace c2 := below_cell hb2 c2
  replace e0 := below_cell hb2 e0
  replace e1 := below_cell hb2 e1
  replace e2 := below_cell hb2 e2
  replace HP := Lib.hid (HP.out.below hb2)
  replace HP2 := Lib.hid (HP2.out.below hb2)
  replace HB := Lib.hid (HB.out.trans (hb2.mono HB.out.size))
  clear hb2
  rw [HSQ.out]
  go_wp2_with fail
  go_loopw [5] (fun i W => ∃ k : Nat, k ≤ ps.length ∧ i = .int .i64 k ∧ Below w2.heap.size w2 W) (fun i _ => ps.length - (intOf i).toNat)
  case atStart => exact ⟨0, Nat.zero_le _, rfl, Below.refl _ _⟩
  case round =>
    obtain ⟨k, hkl, rfl, hb⟩ := hrel
    replace c2 := below_cell hb c2
    replace e2 := below_cell hb e2
    by_cases hlt : k < ps.length
    · obtain ⟨xb, xo, hx, y0, y1, y2, -⟩ := (HP.out.below hb).at hlt
      obtain ⟨xb2, xo2, hx2, y3, y4, y5, -⟩ := (HP2.out.below hb).at hlt
      subst hx
      subst hx2
      obtain ⟨p0, hp0⟩ : ∃ x, x = ps[k].1 := ⟨_, rfl⟩
      obtain ⟨p1, hp1⟩ : ∃ x, x = ps[k].2.1 := ⟨_, rfl⟩
      obtain ⟨p2, hp2⟩ : ∃ x, x = ps[k].2.2 := ⟨_, rfl⟩
      rw [← hp0] at y0 y3
      rw [← hp1] at y1 y4
      rw [← hp2] at y2 y5
      clear hp0 hp1 hp2
      have HBW := Lib.hid hb
      have i0 : (0 : Int) ≤ (k : Int) := by omega
      have i1 : (k : Int) < (ps.length : Int) := by omega
      clear hb
      go_wp2_with fail
      go_quiet (fail)
      go_wp2_with fail
      go_roundw
      case rel => exact ⟨k + 1, by omega, by go_num, below_drewN HBW.out _⟩
      case measure => simp [intOf]; omega
    · obtain rfl : k = ps.length := by omega
      have hdk : decide ((ps.length : Int) < (ps.length : Int)) = false := decide_eq_false (by omega)
      have hdk2 : decide (ps.length < ps.length) = false := decide_eq_false (by omega)
      go_wp2_with fail
      go_ret
      exact ⟨rfl, HB.out.trans (hb.mono HB.out.size)⟩

set_option maxRecDepth 100000 in
set_option maxHeartbeats 4000000 in
theorem rSameKey37_any (ep : Int) (rv ov cv rv2 ov2 cv2 : Value) (rows : List (List Int)) (owners cs : List Int) (w : World) (hR : Rows2 w rv rows) (hO : Ints w ov owners) (hC : Ints w cv cs) (hR2 : Rows2 w rv2 rows) (hO2 : Ints w ov2 owners) (hC2 : Ints w cv2 cs) :
    Calls Tryz.prog 36 #[.agg #[.int .i64 ep, rv, ov, cv], .agg #[.int .i64 ep, rv2, ov2, cv2]] w fun e w' => e = .returned (.bool true) ∧ Below w.heap.size w w' := by
  obtain ⟨W0, hW0, hb0, hr0, hs0⟩ : ∃ W, W = w.alloc (.cells #[.int .i64 ep, rv, ov, cv] 64) ∧ Below w.heap.size w W ∧ W.heap[w.heap.size]? = some (.cells #[.int .i64 ep, rv, ov, cv] 64 (0, 0)) ∧ W.heap.size = w.heap.size + 1 := ⟨_, rfl, below_new _ _ _, World.alloc_heap_new _ _, by simp⟩
  obtain ⟨W1, hW1, hb1, hr1⟩ : ∃ W, W = W0.alloc (.cells #[.int .i64 ep, rv2, ov2, cv2] 64) ∧ Below W0.heap.size W0 W ∧ W.heap[W0.heap.size]? = some (.cells #[.int .i64 ep, rv2, ov2, cv2] 64 (0, 0)) := ⟨_, rfl, below_new _ _ _, World.alloc_heap_new _ _⟩
  have hb := hb0.trans (hb1.mono hb0.size)
  rw [hs0] at hr1
  have Q0 := Lib.hid ((hb1.block _ (row_lt hr0)).trans hr0)
  have Q1 := Lib.hid hr1
  have HR := Lib.hid (hR.below hb)
  have HO := Lib.hid (hO.below hb)
  have HC := Lib.hid (hC.below hb)
  have HR2 := Lib.hid (hR2.below hb)
  have HO2 := Lib.hid (hO2.below hb)
  have HC2 := Lib.hid (hC2.below hb)
  obtain ⟨a1, k1, rfl, -⟩ := id hR
  obtain ⟨a2, k2, rfl, -⟩ := id hO
  obtain ⟨a3, k3, rfl, -⟩ := id hC
  obtain ⟨a4, k4, rfl, -⟩ := id hR2
  obtain ⟨a5, k5, rfl, -⟩ := id hO2
  obtain ⟨a6, k6, rfl, -⟩ := id hC2
  rw [hW0] at hW1
  have HW := Lib.hid hW1
  have HB := Lib.hid hb
  clear hR hO hC hR2 hO2 hC2 hb hb0 hb1 hr0 hr1 hW0 hW1 hs0
  have c0 := row_cell Q0.out (k := 0) (v := .int .i64 ep) rfl
  have c1 := row_cell Q0.out (k := 1) (v := .slice a1 rows.length k1) rfl
  have c2 := row_cell Q0.out (k := 2) (v := .slice a2 owners.length k2) rfl
  have c3 := row_cell Q0.out (k := 3) (v := .slice a3 cs.length k3) rfl
  have e0 := row_cell Q1.out (k := 0) (v := .int .i64 ep) rfl
  have e1 := row_cell Q1.out (k := 1) (v := .slice a4 rows.length k4) rfl
  have e2 := row_cell Q1.out (k := 2) (v := .slice a5 owners.length k5) rfl
  have e3 := row_cell Q1.out (k := 3) (v := .slice a6 cs.length k6) rfl
  have HSP := Lib.hid (sameP_self rows owners)
  have HSQ := Lib.hid (sameQ_self cs)
  have z1 : (ep == ep) = true := by simp
  go_enter Tryz.func36, Tryz.ntmps36
  go_wp2_with (rw [← HW.out])
  clear HW
  with_reducible refine (rSameP_any _ _ _ _ rows rows owners owners _ HR.out HO.out HR2.out HO2.out).mono ?_
  rintro e w2 ⟨rfl, hb2⟩
  replace c0 := below_cell hb2 c0
  replace c1 := below_cell hb2 c1
  replace c2 := below_cell hb2 c2
  replace c3 := below_cell hb2 c3
  replace e0 := below_cell hb2 e0
  replace e1 := below_cell hb2 e1
  replace e2 := below_cell hb2 e2
  replace e3 := below_cell hb2 e3
  replace HR := Lib.hid (HR.out.below hb2)
  replace HO := Lib.hid (HO.out.below hb2)
  replace HC := Lib.hid (HC.out.below hb2)
  replace HR2 := Lib.hid (HR2.out.below hb2)
  replace HO2 := Lib.hid (HO2.out.below hb2)
  replace HC2 := Lib.hid (HC2.out.below hb2)
  replace HB := Lib.hid (HB.out.trans (hb2.mono HB.out.size))
  clear hb2
  rw [HSP.out]
  go_wp2_with fail
  with_reducible refine (rSameInts34_any _ _ cs cs _ HC.out HC2.out).mono ?_
  rintro e w3 ⟨rfl, hb3⟩
  replace c0 := below_cell hb3 c0
  replace c1 := below_cell hb3 c1
  replace c2 := below_cell hb3 c2
  replace c3 := below_cell hb3 c3
  replace e0 := below_cell hb3 e0
  replace e1 := below_cell hb3 e1
  replace e2 := below_cell hb3 e2
  replace e3 := below_cell hb3 e3
  replace HR := Lib.hid (HR.out.below hb3)
  replace HO := Lib.hid (HO.out.below hb3)
  replace HC := Lib.hid (HC.out.below hb3)
  replace HR2 := Lib.hid (HR2.out.below hb3)
  replace HO2 := Lib.hid (HO2.out.below hb3)
  replace HC2 := Lib.hid (HC2.out.below hb3)
  replace HB := Lib.hid (HB.out.trans (hb3.mono HB.out.size))
  clear hb3
  rw [HSQ.out]
  go_wp2_with fail
  go_ret
  exact ⟨rfl, HB.out⟩

set_option maxRecDepth 100000 in
set_option maxHeartbeats 8000000 in
theorem rSmall37_any (rv ov : Value) (rows : List (List Int)) (owners : List Int) (w : World) (hR : Rows2 w rv rows) (hO : Ints w ov owners) :
    Calls Tryz.prog 84 #[.agg #[rv, ov]] w fun r w' => (∃ b, r = .returned (.bool b)) ∧ Below w.heap.size w w' := by
  obtain ⟨W1, hW1, hb1, hr1, hz⟩ := box_prog w rv ov 25
  have HR := Lib.hid (hR.below hb1)
  obtain ⟨a1, k1, rfl, -, hl1, -⟩ := id hR
  obtain ⟨a2, k2, rfl, -, hl2, -⟩ := id hO
  have c0 := row_cell hr1 (k := 0) (v := .slice a1 rows.length k1) rfl
  have c1 := row_cell hr1 (k := 1) (v := .slice a2 owners.length k2) rfl
  have HW1 := Lib.hid hW1
  have HB := Lib.hid hb1
  clear hR hO hb1 hr1 hW1 hz
  go_enter Tryz.func84, Tryz.ntmps84
  go_wp2_with (rw [← HW1.out])
  go_loopw [3] (fun i W => ∃ k : Nat, k ≤ rows.length ∧ i = .int .i64 k ∧ W = W1) (fun i _ => rows.length - (intOf i).toNat)
  case atStart => exact ⟨0, Nat.zero_le _, rfl, rfl⟩
  case round =>
    obtain ⟨k, hkl, rfl, rfl⟩ := hrel
    have i0 : (0 : Int) ≤ (k : Int) := by omega
    by_cases hin : k < rows.length ∧ k < 70
    · have i1 : (k : Int) < (rows.length : Int) := by omega
      have d1 : decide ((k : Int) < (rows.length : Int)) = true := decide_eq_true i1
      have d2 : decide ((k : Int) < 70) = true := decide_eq_true (by omega)
      obtain ⟨aa, cc, e1, -, -, hk⟩ := HR.out
      obtain ⟨b, off, r, ha, q1, hI⟩ := hk k hin.1
      simp only [Value.slice.injEq] at e1
      obtain ⟨rfl, -, rfl⟩ := e1
      subst ha
      obtain ⟨ra, rc, rfl, -⟩ := id hI
      have hkr := hin.1
      clear hk hI
      generalize rows[k].length = m at *
      clear hin
      by_cases h1 : 6 < m
      · have t1 : decide ((6 : Int) < (m : Int)) = true := decide_eq_true (by omega)
        by_cases h2 : m ≤ 64
        · have t2 : decide ((m : Int) ≤ 64) = true := decide_eq_true (by omega)
          go_wp2_with fail
          go_ret
          exact ⟨⟨_, rfl⟩, HB.out⟩
        · have t2 : decide ((m : Int) ≤ 64) = false := decide_eq_false (by omega)
          by_cases h3 : 70 < m
          · have t3 : decide ((70 : Int) < (m : Int)) = true := decide_eq_true (by omega)
            go_wp2_with fail
            go_ret
            exact ⟨⟨_, rfl⟩, HB.out⟩
          · have t3 : decide ((70 : Int) < (m : Int)) = false := decide_eq_false (by omega)
            go_wp2_with fail
            go_roundw
            case rel => exact ⟨k + 1, by omega, by go_num, by trivial⟩
            case measure => simp [intOf]; omega
      · have t1 : decide ((6 : Int) < (m : Int)) = false := decide_eq_false (by omega)
        have t3 : decide ((70 : Int) < (m : Int)) = false := decide_eq_false (by omega)
        go_wp2_with fail
        go_roundw
        case rel => exact ⟨k + 1, by omega, by go_num, by trivial⟩
        case measure => simp [intOf]; omega
    · by_cases hlt : k < rows.length
      · have d1 : decide ((k : Int) < (rows.length : Int)) = true := decide_eq_true (by omega)
        have d2 : decide ((k : Int) < 70) = false := decide_eq_false (by omega)
        clear hin
        by_cases g1 : rows.length ≤ 6
        · have v1 : decide ((rows.length : Int) ≤ 6) = true := decide_eq_true (by omega)
          by_cases g4 : owners.length ≤ 70
          · have v4 : decide ((owners.length : Int) ≤ 70) = true := decide_eq_true (by omega)
            go_wp2_with fail
            go_ret
            exact ⟨⟨_, rfl⟩, HB.out⟩
          · have v4 : decide ((owners.length : Int) ≤ 70) = false := decide_eq_false (by omega)
            go_wp2_with fail
            go_ret
            exact ⟨⟨_, rfl⟩, HB.out⟩
        · have v1 : decide ((rows.length : Int) ≤ 6) = false := decide_eq_false (by omega)
          by_cases g2 : 64 < rows.length
          · have v2 : decide ((64 : Int) < (rows.length : Int)) = true := decide_eq_true (by omega)
            by_cases g3 : rows.length ≤ 70
            · have v3 : decide ((rows.length : Int) ≤ 70) = true := decide_eq_true (by omega)
              by_cases g4 : owners.length ≤ 70
              · have v4 : decide ((owners.length : Int) ≤ 70) = true := decide_eq_true (by omega)
                go_wp2_with fail
                go_ret
                exact ⟨⟨_, rfl⟩, HB.out⟩
              · have v4 : decide ((owners.length : Int) ≤ 70) = false := decide_eq_false (by omega)
                go_wp2_with fail
                go_ret
                exact ⟨⟨_, rfl⟩, HB.out⟩
            · have v3 : decide ((rows.length : Int) ≤ 70) = false := decide_eq_false (by omega)
              go_wp2_with fail
              go_ret
              exact ⟨⟨_, rfl⟩, HB.out⟩
          · have v2 : decide ((64 : Int) < (rows.length : Int)) = false := decide_eq_false (by omega)
            go_wp2_with fail
            go_ret
            exact ⟨⟨_, rfl⟩, HB.out⟩
      · have d1 : decide ((k : Int) < (rows.length : Int)) = false := decide_eq_false (by omega)
        have d1' : decide (k < rows.length) = false := decide_eq_false hlt
        clear hin
        by_cases g1 : rows.length ≤ 6
        · have v1 : decide ((rows.length : Int) ≤ 6) = true := decide_eq_true (by omega)
          by_cases g4 : owners.length ≤ 70
          · have v4 : decide ((owners.length : Int) ≤ 70) = true := decide_eq_true (by omega)
            go_wp2_with fail
            go_ret
            exact ⟨⟨_, rfl⟩, HB.out⟩
          · have v4 : decide ((owners.length : Int) ≤ 70) = false := decide_eq_false (by omega)
            go_wp2_with fail
            go_ret
            exact ⟨⟨_, rfl⟩, HB.out⟩
        · have v1 : decide ((rows.length : Int) ≤ 6) = false := decide_eq_false (by omega)
          by_cases g2 : 64 < rows.length
          · have v2 : decide ((64 : Int) < (rows.length : Int)) = true := decide_eq_true (by omega)
            by_cases g3 : rows.length ≤ 70
            · have v3 : decide ((rows.length : Int) ≤ 70) = true := decide_eq_true (by omega)
              by_cases g4 : owners.length ≤ 70
              · have v4 : decide ((owners.length : Int) ≤ 70) = true := decide_eq_true (by omega)
                go_wp2_with fail
                go_ret
                exact ⟨⟨_, rfl⟩, HB.out⟩
              · have v4 : decide ((owners.length : Int) ≤ 70) = false := decide_eq_false (by omega)
                go_wp2_with fail
                go_ret
                exact ⟨⟨_, rfl⟩, HB.out⟩
            · have v3 : decide ((rows.length : Int) ≤ 70) = false := decide_eq_false (by omega)
              go_wp2_with fail
              go_ret
              exact ⟨⟨_, rfl⟩, HB.out⟩
          · have v2 : decide ((64 : Int) < (rows.length : Int)) = false := decide_eq_false (by omega)
            go_wp2_with fail
            go_ret
            exact ⟨⟨_, rfl⟩, HB.out⟩

set_option maxRecDepth 100000 in
set_option maxHeartbeats 8000000 in
theorem rFew37_any (rv ov kv lv : Value) (rows : List (List Int)) (owners keys : List Int) (l : List Dlg) (vs : DVals) (ca : Option Addr) (cn cc : Nat) (w : World) (hR : Rows2 w rv rows) (hO : Ints w ov owners) (hK : Ints w kv keys) (hL : Dlgs w lv l vs) (hcn : cn ≤ 17592186044416) :
    Calls Tryz.prog 25 #[.agg #[rv, ov], kv, lv, .slice ca cn cc] w fun r w' => (∃ b, r = .returned (.bool b)) ∧ Below w.heap.size w w' := by
  obtain ⟨W1, hW1, hb1, hr1, hz⟩ := box_prog w rv ov 25
  have HR := Lib.hid (hR.below hb1)
  have HO := Lib.hid (hO.below hb1)
  have HL := Lib.hid (hL.below hb1)
  obtain ⟨a1, k1, rfl, -, hl1, -⟩ := id hR
  obtain ⟨a2, k2, rfl, -, hl2, -⟩ := id hO
  obtain ⟨a3, k3, rfl, -, hl3, -⟩ := id hK
  obtain ⟨a4, k4, rfl, -, hl4, -⟩ := id hL
  have c0 := row_cell hr1 (k := 0) (v := .slice a1 rows.length k1) rfl
  have c1 := row_cell hr1 (k := 1) (v := .slice a2 owners.length k2) rfl
  have HW1 := Lib.hid hW1
  have HB := Lib.hid hb1
  have HSM := Lib.hid (rSmall37_any _ _ rows owners W1 HR.out HO.out)
  clear hR hO hK hL hb1 hr1 hW1 hz
  go_enter Tryz.func25, Tryz.ntmps25
  go_wp2_with (rw [← HW1.out])
  go_loopw [9] (fun i W => ∃ k : Nat, k ≤ l.length ∧ i = .int .i64 k ∧ W = W1) (fun i _ => l.length - (intOf i).toNat)
  case atStart => exact ⟨0, Nat.zero_le _, rfl, rfl⟩
  case round =>
    obtain ⟨k, hkl, rfl, rfl⟩ := hrel
    have i0 : (0 : Int) ≤ (k : Int) := by omega
    by_cases hin : k < l.length ∧ k < 70
    · have i1 : (k : Int) < (l.length : Int) := by omega
      have d1 : decide ((k : Int) < (l.length : Int)) = true := decide_eq_true i1
      have d2 : decide ((k : Int) < 70) = true := decide_eq_true (by omega)
      obtain ⟨b, off, ea, hD⟩ := HL.out.at hin.1
      subst ea
      have y1 := hD.c1
      have y2 := hD.c2
      obtain ⟨ac, kc, hac, -⟩ := id hD.cs
      obtain ⟨ap, kp, hap, -⟩ := id hD.ps
      rw [hac] at y1
      rw [hap] at y2
      have hkr := hin.1
      clear hD hac hap
      generalize l[k].cs.length = m at *
      generalize l[k].ps.length = p at *
      clear hin
      by_cases h1 : 70 < m
      · have t1 : decide ((70 : Int) < (m : Int)) = true := decide_eq_true (by omega)
        go_wp2_with fail
        go_ret
        exact ⟨⟨_, rfl⟩, HB.out⟩
      · have t1 : decide ((70 : Int) < (m : Int)) = false := decide_eq_false (by omega)
        by_cases h2 : 70 < p
        · have t2 : decide ((70 : Int) < (p : Int)) = true := decide_eq_true (by omega)
          go_wp2_with fail
          go_ret
          exact ⟨⟨_, rfl⟩, HB.out⟩
        · have t2 : decide ((70 : Int) < (p : Int)) = false := decide_eq_false (by omega)
          go_wp2_with fail
          go_roundw
          case rel => exact ⟨k + 1, by omega, by go_num, by trivial⟩
          case measure => simp [intOf]; omega
    · by_cases hlt : k < l.length
      · have d1 : decide ((k : Int) < (l.length : Int)) = true := decide_eq_true (by omega)
        have d2 : decide ((k : Int) < 70) = false := decide_eq_false (by omega)
        clear hin
        go_wp2_with fail
        with_reducible refine HSM.out.mono ?_
        rintro e w2 ⟨⟨b, rfl⟩, hb2⟩
        have HB2 := Lib.hid (HB.out.trans (hb2.mono HB.out.size))
        clear hb2
        cases b with
        | false =>
          go_wp2_with fail
          go_ret
          exact ⟨⟨_, rfl⟩, HB2.out⟩
        | true =>
        by_cases g2 : keys.length ≤ 70
        · have ug2 : decide ((keys.length : Int) ≤ 70) = true := decide_eq_true (by omega)
          by_cases g3 : l.length ≤ 5
          · have ug3 : decide ((l.length : Int) ≤ 5) = true := decide_eq_true (by omega)
            by_cases g6 : cn ≤ 8
            · have ug6 : decide ((cn : Int) ≤ 8) = true := decide_eq_true (by omega)
              go_wp2_with fail
              go_ret
              exact ⟨⟨_, rfl⟩, HB2.out⟩
            · have ug6 : decide ((cn : Int) ≤ 8) = false := decide_eq_false (by omega)
              by_cases g7 : 4096 < cn
              · have ug7 : decide ((4096 : Int) < (cn : Int)) = true := decide_eq_true (by omega)
                by_cases g8 : cn ≤ 4200
                · have ug8 : decide ((cn : Int) ≤ 4200) = true := decide_eq_true (by omega)
                  go_wp2_with fail
                  go_ret
                  exact ⟨⟨_, rfl⟩, HB2.out⟩
                · have ug8 : decide ((cn : Int) ≤ 4200) = false := decide_eq_false (by omega)
                  go_wp2_with fail
                  go_ret
                  exact ⟨⟨_, rfl⟩, HB2.out⟩
              · have ug7 : decide ((4096 : Int) < (cn : Int)) = false := decide_eq_false (by omega)
                go_wp2_with fail
                go_ret
                exact ⟨⟨_, rfl⟩, HB2.out⟩
          · have ug3 : decide ((l.length : Int) ≤ 5) = false := decide_eq_false (by omega)
            by_cases g4 : 64 < l.length
            · have ug4 : decide ((64 : Int) < (l.length : Int)) = true := decide_eq_true (by omega)
              by_cases g5 : l.length ≤ 70
              · have ug5 : decide ((l.length : Int) ≤ 70) = true := decide_eq_true (by omega)
                by_cases g6 : cn ≤ 8
                · have ug6 : decide ((cn : Int) ≤ 8) = true := decide_eq_true (by omega)
                  go_wp2_with fail
                  go_ret
                  exact ⟨⟨_, rfl⟩, HB2.out⟩
                · have ug6 : decide ((cn : Int) ≤ 8) = false := decide_eq_false (by omega)
                  by_cases g7 : 4096 < cn
                  · have ug7 : decide ((4096 : Int) < (cn : Int)) = true := decide_eq_true (by omega)
                    by_cases g8 : cn ≤ 4200
                    · have ug8 : decide ((cn : Int) ≤ 4200) = true := decide_eq_true (by omega)
                      go_wp2_with fail
                      go_ret
                      exact ⟨⟨_, rfl⟩, HB2.out⟩
                    · have ug8 : decide ((cn : Int) ≤ 4200) = false := decide_eq_false (by omega)
                      go_wp2_with fail
                      go_ret
                      exact ⟨⟨_, rfl⟩, HB2.out⟩
                  · have ug7 : decide ((4096 : Int) < (cn : Int)) = false := decide_eq_false (by omega)
                    go_wp2_with fail
                    go_ret
                    exact ⟨⟨_, rfl⟩, HB2.out⟩
              · have ug5 : decide ((l.length : Int) ≤ 70) = false := decide_eq_false (by omega)
                go_wp2_with fail
                go_ret
                exact ⟨⟨_, rfl⟩, HB2.out⟩
            · have ug4 : decide ((64 : Int) < (l.length : Int)) = false := decide_eq_false (by omega)
              go_wp2_with fail
              go_ret
              exact ⟨⟨_, rfl⟩, HB2.out⟩
        · have ug2 : decide ((keys.length : Int) ≤ 70) = false := decide_eq_false (by omega)
          go_wp2_with fail
          go_ret
          exact ⟨⟨_, rfl⟩, HB2.out⟩
      · have d1 : decide ((k : Int) < (l.length : Int)) = false := decide_eq_false (by omega)
        have d1' : decide (k < l.length) = false := decide_eq_false hlt
        clear hin
        go_wp2_with fail
        with_reducible refine HSM.out.mono ?_
        rintro e w2 ⟨⟨b, rfl⟩, hb2⟩
        have HB2 := Lib.hid (HB.out.trans (hb2.mono HB.out.size))
        clear hb2
        cases b with
        | false =>
          go_wp2_with fail
          go_ret
          exact ⟨⟨_, rfl⟩, HB2.out⟩
        | true =>
        by_cases g2 : keys.length ≤ 70
        · have ug2 : decide ((keys.length : Int) ≤ 70) = true := decide_eq_true (by omega)
          by_cases g3 : l.length ≤ 5
          · have ug3 : decide ((l.length : Int) ≤ 5) = true := decide_eq_true (by omega)
            by_cases g6 : cn ≤ 8
            · have ug6 : decide ((cn : Int) ≤ 8) = true := decide_eq_true (by omega)
              go_wp2_with fail
              go_ret
              exact ⟨⟨_, rfl⟩, HB2.out⟩
            · have ug6 : decide ((cn : Int) ≤ 8) = false := decide_eq_false (by omega)
              by_cases g7 : 4096 < cn
              · have ug7 : decide ((4096 : Int) < (cn : Int)) = true := decide_eq_true (by omega)
                by_cases g8 : cn ≤ 4200
                · have ug8 : decide ((cn : Int) ≤ 4200) = true := decide_eq_true (by omega)
                  go_wp2_with fail
                  go_ret
                  exact ⟨⟨_, rfl⟩, HB2.out⟩
                · have ug8 : decide ((cn : Int) ≤ 4200) = false := decide_eq_false (by omega)
                  go_wp2_with fail
                  go_ret
                  exact ⟨⟨_, rfl⟩, HB2.out⟩
              · have ug7 : decide ((4096 : Int) < (cn : Int)) = false := decide_eq_false (by omega)
                go_wp2_with fail
                go_ret
                exact ⟨⟨_, rfl⟩, HB2.out⟩
          · have ug3 : decide ((l.length : Int) ≤ 5) = false := decide_eq_false (by omega)
            by_cases g4 : 64 < l.length
            · have ug4 : decide ((64 : Int) < (l.length : Int)) = true := decide_eq_true (by omega)
              by_cases g5 : l.length ≤ 70
              · have ug5 : decide ((l.length : Int) ≤ 70) = true := decide_eq_true (by omega)
                by_cases g6 : cn ≤ 8
                · have ug6 : decide ((cn : Int) ≤ 8) = true := decide_eq_true (by omega)
                  go_wp2_with fail
                  go_ret
                  exact ⟨⟨_, rfl⟩, HB2.out⟩
                · have ug6 : decide ((cn : Int) ≤ 8) = false := decide_eq_false (by omega)
                  by_cases g7 : 4096 < cn
                  · have ug7 : decide ((4096 : Int) < (cn : Int)) = true := decide_eq_true (by omega)
                    by_cases g8 : cn ≤ 4200
                    · have ug8 : decide ((cn : Int) ≤ 4200) = true := decide_eq_true (by omega)
                      go_wp2_with fail
                      go_ret
                      exact ⟨⟨_, rfl⟩, HB2.out⟩
                    · have ug8 : decide ((cn : Int) ≤ 4200) = false := decide_eq_false (by omega)
                      go_wp2_with fail
                      go_ret
                      exact ⟨⟨_, rfl⟩, HB2.out⟩
                  · have ug7 : decide ((4096 : Int) < (cn : Int)) = false := decide_eq_false (by omega)
                    go_wp2_with fail
                    go_ret
                    exact ⟨⟨_, rfl⟩, HB2.out⟩
              · have ug5 : decide ((l.length : Int) ≤ 70) = false := decide_eq_false (by omega)
                go_wp2_with fail
                go_ret
                exact ⟨⟨_, rfl⟩, HB2.out⟩
            · have ug4 : decide ((64 : Int) < (l.length : Int)) = false := decide_eq_false (by omega)
              go_wp2_with fail
              go_ret
              exact ⟨⟨_, rfl⟩, HB2.out⟩
        · have ug2 : decide ((keys.length : Int) ≤ 70) = false := decide_eq_false (by omega)
          go_wp2_with fail
          go_ret
          exact ⟨⟨_, rfl⟩, HB2.out⟩

end Go.Proofs.YtggnipkfliompaaGreatDoor
