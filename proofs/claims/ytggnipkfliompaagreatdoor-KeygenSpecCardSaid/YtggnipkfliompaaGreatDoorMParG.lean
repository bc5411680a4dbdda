/- The reference of parcels: what is right; the examples. The reference of keygen: Keys, Fine, Right, Dealers. The reference of digest: ror, word. The reference of digest: numbers. -/
import Derived.Test.YtggnipkfliompaaGreatDoorMParF
import Derived.Test.YtggnipkfliompaaGreatDoorMKgA
import Derived.Test.YtggnipkfliompaaGreatDoorMDeaJ
import Derived.Test.YtggnipkfliompaaGreatDoorMDeaA
import Derived.Test.YtggnipkfliompaaGreatDoorMDigD
import Derived.Test.YtggnipkfliompaaGreatDoorMCodD
import Derived.BigQuiet
import Derived.Great.BuildSlice
namespace Go.Proofs.YtggnipkfliompaaGreatDoor
open Go.RowKit FP


set_option maxRecDepth 100000 in
theorem secret35_any (n : Int) (w : World) : Calls Tryz.prog 96 #[.int .i64 n] w fun r w' => r = .returned (.bool (inB n 1 1073741788)) ∧ w = w' := by
  by_cases h1 : 1 ≤ n
  · have H := Lib.hid (show inB n 1 1073741788 = decide (n < 1073741789) by unfold inB; rw [decide_eq_true h1, Bool.true_and, lt_le_dec])
    go_enter Tryz.func96, Tryz.ntmps96
    go_wp2_with fail
    go_ret
    exact ⟨ret_bool H.out.symm, rfl⟩
  · have H := Lib.hid (show inB n 1 1073741788 = false by unfold inB; rw [decide_eq_false h1, Bool.false_and])
    go_enter Tryz.func96, Tryz.ntmps96
    go_wp2_with fail
    go_ret
    exact ⟨ret_bool H.out.symm, rfl⟩
set_option maxRecDepth 100000 in
theorem number35_any (n : Int) (w : World) : Calls Tryz.prog 166 #[.int .i64 n] w fun r w' => r = .returned (.bool (inB n 0 1073741788)) ∧ w = w' := by
  by_cases h1 : 0 ≤ n
  · have H := Lib.hid (show inB n 0 1073741788 = decide (n < 1073741789) by unfold inB; rw [decide_eq_true h1, Bool.true_and, lt_le_dec])
    go_enter Tryz.func166, Tryz.ntmps166
    go_wp2_with fail
    go_ret
    exact ⟨ret_bool H.out.symm, rfl⟩
  · have H := Lib.hid (show inB n 0 1073741788 = false by unfold inB; rw [decide_eq_false h1, Bool.false_and])
    go_enter Tryz.func166, Tryz.ntmps166
    go_wp2_with fail
    go_ret
    exact ⟨ret_bool H.out.symm, rfl⟩
set_option maxRecDepth 100000 in
theorem person35_any (n : Int) (w : World) : Calls Tryz.prog 134 #[.int .i64 n] w fun r w' => r = .returned (.bool (inB n 0 63)) ∧ w = w' := by
  by_cases h1 : 0 ≤ n
  · have H := Lib.hid (show inB n 0 63 = decide (n < 64) by unfold inB; rw [decide_eq_true h1, Bool.true_and, lt_le_64])
    go_enter Tryz.func134, Tryz.ntmps134
    go_wp2_with fail
    go_ret
    exact ⟨ret_bool H.out.symm, rfl⟩
  · have H := Lib.hid (show inB n 0 63 = false by unfold inB; rw [decide_eq_false h1, Bool.false_and])
    go_enter Tryz.func134, Tryz.ntmps134
    go_wp2_with fail
    go_ret
    exact ⟨ret_bool H.out.symm, rfl⟩
set_option maxRecDepth 100000 in
theorem row35_any (n : Int) (w : World) : Calls Tryz.prog 165 #[.int .i64 n] w fun r w' => r = .returned (.bool (inB n 0 63)) ∧ w = w' := by
  by_cases h1 : 0 ≤ n
  · have H := Lib.hid (show inB n 0 63 = decide (n < 64) by unfold inB; rw [decide_eq_true h1, Bool.true_and, lt_le_64])
    go_enter Tryz.func165, Tryz.ntmps165
    go_wp2_with fail
    go_ret
    exact ⟨ret_bool H.out.symm, rfl⟩
  · have H := Lib.hid (show inB n 0 63 = false by unfold inB; rw [decide_eq_false h1, Bool.false_and])
    go_enter Tryz.func165, Tryz.ntmps165
    go_wp2_with fail
    go_ret
    exact ⟨ret_bool H.out.symm, rfl⟩

theorem cell_agg3 (w : World) (a b c : Int) (t : TypeId) : Below w.heap.size w (w.alloc (.cells #[.int .i64 a, .int .i64 b, .int .i64 c] t)) ∧ (w.alloc (.cells #[.int .i64 a, .int .i64 b, .int .i64 c] t)).cell? ⟨w.heap.size, 0, none⟩ = some (.int .i64 a) ∧ (w.alloc (.cells #[.int .i64 a, .int .i64 b, .int .i64 c] t)).cell? ⟨w.heap.size, 1, none⟩ = some (.int .i64 b) ∧ (w.alloc (.cells #[.int .i64 a, .int .i64 b, .int .i64 c] t)).cell? ⟨w.heap.size, 2, none⟩ = some (.int .i64 c) := by
  have h := World.alloc_heap_new w (.cells #[.int .i64 a, .int .i64 b, .int .i64 c] t)
  exact ⟨below_new _ _ _, row_cell h rfl, row_cell h rfl, row_cell h rfl⟩

set_option maxRecDepth 100000 in
set_option maxHeartbeats 1000000 in
theorem right35_any (row pt c : Int) (w : World) (hp : R64 pt) :
    Calls Tryz.prog 135 #[.agg #[.int .i64 row, .int .i64 pt, .int .i64 c]] w fun r w' => r = .returned (.bool (rightB row pt c)) ∧ Below w.heap.size w w' := by
  obtain ⟨hb, c0, c1, c2⟩ := cell_agg3 w row pt c 49
  have HB := Lib.hid hb
  clear hb
  go_enter Tryz.func135, Tryz.ntmps135
  go_wp2_with fail
  with_reducible refine (row35_any row _).mono ?_
  rintro r w1 ⟨rfl, rfl⟩
  cases e1 : inB row 0 63 with
  | false =>
    have E1 := Lib.hid e1
    clear e1
    go_wp2_with fail
    go_ret
    exact ⟨ret_bool (by unfold rightB; rw [E1.out]; rfl), HB.out⟩
  | true =>
    have E1 := Lib.hid e1
    clear e1
    go_wp2_with fail
    with_reducible refine (rvalid_any _ _ hp).mono ?_
    rintro r w1 ⟨rfl, rfl⟩
    cases e2 : elB pt with
    | false =>
      have E2 := Lib.hid e2
      clear e2
      go_wp2_with fail
      go_ret
      exact ⟨ret_bool (by unfold rightB; rw [E1.out, E2.out]; rfl), HB.out⟩
    | true =>
      have E2 := Lib.hid e2
      clear e2
      go_wp2_with fail
      with_reducible refine (number35_any c _).mono ?_
      rintro r w1 ⟨rfl, rfl⟩
      go_wp2_with fail
      go_ret
      exact ⟨ret_bool (by unfold rightB; rw [E1.out, E2.out, Bool.true_and, Bool.true_and]), HB.out⟩

/-! The examples. -/
end Go.Proofs.YtggnipkfliompaaGreatDoor

namespace Go.Proofs.YtggnipkfliompaaGreatDoor
open Go.RowKit FP

theorem keys_long {owners keys : List Int} (h : ¬ keys.length ≤ 64) : keysB owners keys = false := by unfold keysB; rw [decide_eq_false h]; rfl
theorem keys_odd {owners keys : List Int} {k : Nat} (h : k < keys.length) (ho : oddK keys[k] = true) : keysB owners keys = false := by
  unfold keysB; rw [List.any_eq_true.2 ⟨_, List.getElem_mem h, ho⟩]; simp
theorem keys_miss {owners keys : List Int} {k : Nat} (h : k < owners.length) (ho : missK keys owners[k] = true) : keysB owners keys = false := by
  unfold keysB; rw [List.any_eq_true.2 ⟨_, List.getElem_mem h, ho⟩]; simp
theorem keys_all {owners keys : List Int} (h1 : keys.length ≤ 64) (h2 : ∀ k (h : k < keys.length), oddK keys[k] = false) (h3 : ∀ k (h : k < owners.length), missK keys owners[k] = false) : keysB owners keys = true := by
  unfold keysB
  rw [decide_eq_true h1, Bool.true_and, Bool.and_eq_true, Bool.not_eq_true', Bool.not_eq_true']
  refine ⟨List.any_eq_false.2 fun x hx => ?_, List.any_eq_false.2 fun x hx => ?_⟩
  · obtain ⟨k, hk, rfl⟩ := List.getElem_of_mem hx; simp [h2 k hk]
  · obtain ⟨k, hk, rfl⟩ := List.getElem_of_mem hx; simp [h3 k hk]

set_option maxRecDepth 100000 in
set_option maxHeartbeats 4000000 in
theorem rKeys_any (rv ov kv : Value) (owners keys : List Int) (w : World) (hR : ∃ a n c, rv = .slice a n c) (hO : Ints w ov owners) (hK : Ints w kv keys) (h0 : ∀ o ∈ owners, 0 ≤ o) :
    Calls Tryz.prog 95 #[.agg #[rv, ov], kv] w fun r w' => r = .returned (.bool (keysB owners keys)) ∧ Below w.heap.size w w' := by
  obtain ⟨W1, hW1, hb1, hr1, hz⟩ := box_prog w rv ov 25
  have HO := Lib.hid (hO.below hb1)
  have HK := Lib.hid (hK.below hb1)
  obtain ⟨a1, n1, k1, rfl⟩ := hR
  obtain ⟨a2, k2, rfl, -, hl2, -⟩ := id hO
  obtain ⟨a3, k3, rfl, -, hl3, hr3, -⟩ := id hK
  have c1 := row_cell hr1 (k := 1) (v := .slice a2 owners.length k2) rfl
  have HW1 := Lib.hid hW1
  have HB := Lib.hid hb1
  have HR64 := Lib.hid hr3
  have H0 := Lib.hid h0
  have HKL := Lib.hid (fun h => keys_long (owners := owners) (keys := keys) h)
  have HKO := Lib.hid (fun k h ho => keys_odd (owners := owners) (keys := keys) (k := k) h ho)
  have HKM := Lib.hid (fun k h ho => keys_miss (owners := owners) (keys := keys) (k := k) h ho)
  have HKA := Lib.hid (fun h1 h2 h3 => keys_all (owners := owners) (keys := keys) h1 h2 h3)
  clear hO hK hb1 hr1 hW1 hz hr3 h0
  by_cases hl : keys.length ≤ 64
  rotate_left
  · have HV := Lib.hid (HKL.out hl)
    have d0 : decide ((64 : Int) < (keys.length : Int)) = true := decide_eq_true (by omega)
    clear hl
    go_enter Tryz.func95, Tryz.ntmps95
    go_wp2_with (rw [← HW1.out])
    go_ret
    exact ⟨ret_bool HV.out.symm, HB.out⟩
  have HL := Lib.hid hl
  have d0 : decide ((64 : Int) < (keys.length : Int)) = false := decide_eq_false (by omega)
  have d0' : decide (64 < keys.length) = false := decide_eq_false (by omega)
  clear hl
  go_enter Tryz.func95, Tryz.ntmps95
  go_wp2_with (rw [← HW1.out])
  go_loopw [5] (fun i W => ∃ k : Nat, k ≤ keys.length ∧ i = .int .i64 k ∧ Hid (∀ j (h : j < keys.length), j < k → oddK keys[j] = false) ∧ W = W1) (fun i _ => keys.length - (intOf i).toNat)
  case atStart => exact ⟨0, Nat.zero_le _, rfl, Lib.hid (fun j _ h => absurd h (Nat.not_lt_zero j)), rfl⟩
  case round =>
    obtain ⟨k, hkl, rfl, HP, rfl⟩ := hrel
    by_cases hlt : k < keys.length
    · obtain ⟨-, b1, o1, n2, cc1, e1, q1⟩ := HK.out.get hlt
      simp only [Value.slice.injEq] at e1
      obtain ⟨rfl, -, -⟩ := e1
      rw [nth_at hlt] at q1
      have hx64 : R64 keys[k] := HR64.out _ (List.getElem_mem hlt)
      have HVN := Lib.hid (fun h => HKO.out k hlt h)
      obtain ⟨x, hx⟩ : ∃ x, x = keys[k] := ⟨_, rfl⟩
      rw [← hx] at q1 hx64 HVN
      have HX := Lib.hid hx
      have i0 : (0 : Int) ≤ (k : Int) := by omega
      have i1 : (k : Int) < (keys.length : Int) := by omega
      clear hx
      by_cases hz : x = 0
      · have e0 : (x != 0) = false := by rw [hz]; rfl
        have HN := Lib.hid (show ∀ j (h : j < keys.length), j < k + 1 → oddK keys[j] = false from fun j h h1 => by
          by_cases e : j = k
          · subst e; rw [← HX.out, hz]; rfl
          · exact HP.out j h (by omega))
        clear hz hx64
        go_wp2_with fail
        go_roundw
        case rel => exact ⟨k + 1, by omega, by go_num, HN, by trivial⟩
        case measure => simp [intOf]; omega
      · have e0 : (x != 0) = true := bne_iff_ne.2 hz
        have HVA := Lib.hid (fun w => rvalid_any x w hx64)
        have HOX : Hid (oddK x = !elB x) := Lib.hid (by unfold oddK; rw [beq_eq_false_iff_ne.2 hz]; rfl)
        clear hz hx64
        go_wp2_with fail
        with_reducible refine (HVA.out _).mono ?_
        rintro r w2 ⟨rfl, rfl⟩
        cases he : elB x with
        | true =>
          have HN := Lib.hid (show ∀ j (h : j < keys.length), j < k + 1 → oddK keys[j] = false from fun j h h1 => by
            by_cases e : j = k
            · subst e; rw [← HX.out, HOX.out, he]; rfl
            · exact HP.out j h (by omega))
          clear he
          go_wp2_with fail
          go_roundw
          case rel => exact ⟨k + 1, by omega, by go_num, HN, by trivial⟩
          case measure => simp [intOf]; omega
        | false =>
          have HV := Lib.hid (HVN.out (by rw [HOX.out, he]; rfl))
          clear he
          go_wp2_with fail
          go_ret
          exact ⟨ret_bool HV.out.symm, HB.out⟩
    · have hdk : decide (k < keys.length) = false := decide_eq_false hlt
      have HPA := Lib.hid (show ∀ j (h : j < keys.length), oddK keys[j] = false from fun j h => HP.out j h (by omega))
      obtain rfl : k = keys.length := by omega
      clear hlt hkl HP
      go_wp2_with fail
      go_loopw [6] (fun i W => ∃ k : Nat, k ≤ owners.length ∧ i = .int .i64 k ∧ Hid (∀ j (h : j < owners.length), j < k → missK keys owners[j] = false) ∧ W = wr) (fun i _ => owners.length - (intOf i).toNat)
      case atStart => exact ⟨0, Nat.zero_le _, rfl, Lib.hid (fun j _ h => absurd h (Nat.not_lt_zero j)), rfl⟩
      case round =>
        obtain ⟨k, hkl, rfl, HQ, rfl⟩ := hrel
        by_cases hlt : k < owners.length
        · obtain ⟨-, b1, o1, n2, cc1, e1, q1⟩ := HO.out.get hlt
          simp only [Value.slice.injEq] at e1
          obtain ⟨rfl, -, -⟩ := e1
          rw [nth_at hlt] at q1
          have hx0 : 0 ≤ owners[k] := H0.out _ (List.getElem_mem hlt)
          have HVN := Lib.hid (fun h => HKM.out k hlt h)
          obtain ⟨x, hx⟩ : ∃ x, x = owners[k] := ⟨_, rfl⟩
          rw [← hx] at q1 hx0 HVN
          have HX := Lib.hid hx
          have i0 : (0 : Int) ≤ (k : Int) := by omega
          have i1 : (k : Int) < (owners.length : Int) := by omega
          clear hx
          by_cases hge : (keys.length : Int) ≤ x
          · have HV := Lib.hid (HVN.out (by unfold missK; rw [decide_eq_true hge]; rfl))
            have t0 : decide ((keys.length : Int) ≤ x) = true := decide_eq_true hge
            clear hge
            go_wp2_with fail
            go_ret
            exact ⟨ret_bool HV.out.symm, HB.out⟩
          have t0 : decide ((keys.length : Int) ≤ x) = false := decide_eq_false hge
          obtain ⟨m, rfl⟩ : ∃ m : Nat, x = (m : Int) := ⟨x.toNat, by omega⟩
          have hm : m < keys.length := by omega
          obtain ⟨-, b3, o3, n3, cc3, e3, q3⟩ := HK.out.get hm
          simp only [Value.slice.injEq] at e3
          obtain ⟨rfl, -, -⟩ := e3
          have t1 : decide (keys.length ≤ m) = false := decide_eq_false (by omega)
          have HMM : Hid (missK keys (m : Int) = (nth keys m == 0)) := Lib.hid (by unfold missK; rw [t0, Bool.false_or, Int.toNat_natCast])
          have i2 : (m : Int) < (keys.length : Int) := by omega
          clear hge
          obtain ⟨y, hy⟩ : ∃ y, y = nth keys m := ⟨_, rfl⟩
          rw [← hy] at q3 HMM
          clear hy
          by_cases hy0 : y = 0
          · have HV := Lib.hid (HVN.out (by rw [HMM.out, hy0]; rfl))
            have t2 : (y == 0) = true := beq_iff_eq.2 hy0
            clear hy0
            go_wp2_with fail
            go_ret
            exact ⟨ret_bool HV.out.symm, HB.out⟩
          · have t2 : (y == 0) = false := beq_eq_false_iff_ne.2 hy0
            have HN := Lib.hid (show ∀ j (h : j < owners.length), j < k + 1 → missK keys owners[j] = false from fun j h h1 => by
              by_cases e : j = k
              · subst e; rw [← HX.out, HMM.out, t2]
              · exact HQ.out j h (by omega))
            clear hy0
            go_wp2_with fail
            go_roundw
            case rel => exact ⟨k + 1, by omega, by go_num, HN, by trivial⟩
            case measure => simp [intOf]; omega
        · have HV := Lib.hid (HKA.out HL.out HPA.out (fun j h => HQ.out j h (by omega)))
          have hdk2 : decide (k < owners.length) = false := decide_eq_false hlt
          obtain rfl : k = owners.length := by omega
          clear hlt hkl
          go_wp2_with fail
          go_ret
          exact ⟨ret_bool HV.out.symm, HB.out⟩

theorem parOk_right {ps : List Pcl} {k : Nat} (hk : k < ps.length) (h64 : ps.length ≤ 64) : parOk ps k = (ps[k].1 == (k : Int) && rightB ps[k].1 ps[k].2.1 ps[k].2.2) := by
  unfold parOk rightB
  rw [getD_at hk]
  by_cases h : ps[k].1 = (k : Int)
  · have hi : inB (k : Int) 0 63 = true := inB_iff.2 (by omega)
    rw [beq_iff_eq.2 h, h, hi]; simp
  · rw [beq_eq_false_iff_ne.2 h]; simp

theorem fine_com {rows : List (List Int)} {d : Dlg} (h : comB rows d.cs = false) : fineB rows d = false := by unfold fineB; rw [h]; simp
theorem fine_dl2 {rows : List (List Int)} {d : Dlg} (h : inB d.dealer 0 63 = false) : fineB rows d = false := by unfold fineB; rw [h]; rfl
theorem fine_all2 {rows : List (List Int)} {d : Dlg} (h1 : inB d.dealer 0 63 = true) (h2 : comB rows d.cs = true) (h4 : d.ps.length = rows.length) (h5 : ∀ k, k < d.ps.length → parOk d.ps k = true) : fineB rows d = true := by
  unfold fineB; rw [h1, h2, decide_eq_true h4, parsB_all h5]; rfl

set_option maxRecDepth 100000 in
set_option maxHeartbeats 8000000 in
theorem rFine37_any (rv ov cv pv : Value) (rows : List (List Int)) (owners : List Int) (d : Dlg) (w : World) (hR : Rows2 w rv rows) (hO : Ints w ov owners) (hC : Ints w cv d.cs) (hP : Parcels w pv d.ps) (h64 : rows.length ≤ 64) (hcq : colsQ rows ≤ 64) :
    Calls Tryz.prog 99 #[.agg #[rv, ov], .agg #[.int .i64 d.dealer, cv, pv]] w fun e w' => e = .returned (.bool (fineB rows d)) ∧ Below w.heap.size w w' := by
  obtain ⟨W0, hW0, hb0, hr0, -⟩ := box_prog w rv ov 25
  have hs0 : W0.heap.size = w.heap.size + 1 := by rw [hW0]; simp
  obtain ⟨W1, hW1, hb1, hr1, -⟩ := box36 W0 (.int .i64 d.dealer) cv pv 28
  have hb := hb0.trans (hb1.mono hb0.size)
  have Q0 := Lib.hid ((hb1.block _ (row_lt hr0)).trans hr0)
  rw [hs0] at hr1
  have Q1 := Lib.hid hr1
  have HR := Lib.hid (hR.below hb)
  have HO := Lib.hid (hO.below hb)
  have HC := Lib.hid (hC.below hb)
  have HP := Lib.hid (hP.below hb)
  obtain ⟨a1, k1, rfl, -, hl1, -⟩ := id hR
  obtain ⟨a2, k2, rfl, -, hl2, -⟩ := id hO
  obtain ⟨a3, k3, rfl, -, hl3, hcr, -⟩ := id hC
  obtain ⟨a4, k4, rfl, -, hl4, -⟩ := id hP
  rw [hW0] at hW1
  have HW1 := Lib.hid hW1
  have HB := Lib.hid hb
  have c0 := row_cell Q0.out (k := 0) (v := .slice a1 rows.length k1) rfl
  have c1 := row_cell Q0.out (k := 1) (v := .slice a2 owners.length k2) rfl
  have d0 := row_cell Q1.out (k := 0) (v := .int .i64 d.dealer) rfl
  have d1 := row_cell Q1.out (k := 1) (v := .slice a3 d.cs.length k3) rfl
  have d2 := row_cell Q1.out (k := 2) (v := .slice a4 d.ps.length k4) rfl
  have HCM := Lib.hid (rcommits_any _ _ _ rows owners d.cs W1 HR.out HO.out HC.out hcq)
  have H64 := Lib.hid h64
  have HFD := Lib.hid (fun h => fine_dl2 (rows := rows) (d := d) h)
  have HFC := Lib.hid (fun h => fine_com (rows := rows) (d := d) h)
  have HFP := Lib.hid (fun h => fine_pl (rows := rows) (d := d) h)
  have HFK := Lib.hid (fun k hk h => fine_par (rows := rows) (d := d) (k := k) hk h)
  have HFA := Lib.hid (fun h1 h2 h4 h5 => fine_all2 (rows := rows) (d := d) h1 h2 h4 h5)
  clear hR hO hC hP hb hb0 hb1 hr0 hr1 hW0 hW1 hs0 hcr h64 hcq
  go_enter Tryz.func99, Tryz.ntmps99
  by_cases h1 : d.dealer < 0
  · have HV := Lib.hid (HFD.out (inB_false (by omega)))
    have x0 : decide (d.dealer < 0) = true := decide_eq_true h1
    clear h1
    go_wp2_with (rw [← HW1.out])
    go_ret
    exact ⟨ret_bool HV.out.symm, HB.out⟩
  have x0 : decide (d.dealer < 0) = false := decide_eq_false h1
  by_cases h2 : 64 ≤ d.dealer
  · have HV := Lib.hid (HFD.out (inB_false (by omega)))
    have x1 : decide (64 ≤ d.dealer) = true := decide_eq_true h2
    clear h1 h2
    go_wp2_with (rw [← HW1.out])
    go_ret
    exact ⟨ret_bool HV.out.symm, HB.out⟩
  have x1 : decide (64 ≤ d.dealer) = false := decide_eq_false h2
  have HDL : Hid (inB d.dealer 0 63 = true) := Lib.hid (inB_iff.2 (by omega))
  clear h1 h2
  go_wp2_with (rw [← HW1.out])
  with_reducible refine HCM.out.mono ?_
  rintro r w2 ⟨rfl, hb2⟩
  have HB2 := Lib.hid (HB.out.trans (hb2.mono HB.out.size))
  have HP2 := Lib.hid (HP.out.below hb2)
  replace c0 := below_cell hb2 c0
  replace c1 := below_cell hb2 c1
  replace d0 := below_cell hb2 d0
  replace d1 := below_cell hb2 d1
  replace d2 := below_cell hb2 d2
  clear hb2
  cases hc : comB rows d.cs with
  | false =>
    have HV := Lib.hid (HFC.out hc)
    clear hc
    go_wp2_with fail
    go_ret
    exact ⟨ret_bool HV.out.symm, HB2.out⟩
  | true =>
  have HCO := Lib.hid hc
  clear hc
  by_cases hpl : d.ps.length = rows.length
  rotate_left
  · have HV := Lib.hid (HFP.out hpl)
    have x2 : ((d.ps.length : Int) != (rows.length : Int)) = true := bne_iff_ne.2 (by omega)
    clear hpl
    go_wp2_with fail
    go_ret
    exact ⟨ret_bool HV.out.symm, HB2.out⟩
  have x2 : ((d.ps.length : Int) != (rows.length : Int)) = false := by rw [hpl]; simp
  have HPL := Lib.hid hpl
  clear hpl
  go_wp2_with fail
  go_loopw [5] (fun i W => ∃ k : Nat, k ≤ d.ps.length ∧ i = .int .i64 k ∧ Hid (∀ j, j < k → parOk d.ps j = true) ∧ Below w2.heap.size w2 W) (fun i _ => d.ps.length - (intOf i).toNat)
  case atStart => exact ⟨0, Nat.zero_le _, rfl, Lib.hid (fun j h => absurd h (Nat.not_lt_zero j)), Below.refl _ _⟩
  case round =>
    obtain ⟨k, hkl, rfl, HK, hb⟩ := hrel
    have z2 := below_cell hb d2
    by_cases hlt : k < d.ps.length
    · obtain ⟨xb, xo, hx, y0, y1, y2, hpt⟩ := (HP2.out.below hb).at hlt
      subst hx
      have HPK := Lib.hid (parOk_right hlt (by have := HPL.out; have := H64.out; omega))
      have HVN := Lib.hid (fun h => HFK.out k hlt h)
      obtain ⟨p0, hp0⟩ : ∃ x, x = d.ps[k].1 := ⟨_, rfl⟩
      obtain ⟨p1, hp1⟩ : ∃ x, x = d.ps[k].2.1 := ⟨_, rfl⟩
      obtain ⟨p2, hp2⟩ : ∃ x, x = d.ps[k].2.2 := ⟨_, rfl⟩
      rw [← hp0] at y0 HPK
      rw [← hp1] at y1 hpt HPK
      rw [← hp2] at y2 HPK
      clear hp0 hp1 hp2
      have HRI := Lib.hid (fun w => right35_any p0 p1 p2 w hpt)
      have HB3 := Lib.hid hb
      have HB4 := Lib.hid (HB2.out.trans (hb.mono HB2.out.size))
      have i0 : (0 : Int) ≤ (k : Int) := by omega
      have i1 : (k : Int) < (d.ps.length : Int) := by omega
      clear hb hpt
      by_cases e0 : p0 = (k : Int)
      rotate_left
      · have HV := Lib.hid (HVN.out (by rw [HPK.out, beq_eq_false_iff_ne.2 e0]; rfl))
        have t0 : (p0 != (k : Int)) = true := bne_iff_ne.2 e0
        clear e0
        go_wp2_with fail
        go_ret
        exact ⟨ret_bool HV.out.symm, HB4.out⟩
      have t0 : (p0 != (k : Int)) = false := by rw [e0]; simp
      replace HPK := Lib.hid (HPK.out.trans (show _ = rightB p0 p1 p2 by rw [beq_iff_eq.2 e0, Bool.true_and]))
      clear e0
      go_wp2_with fail
      with_reducible refine (HRI.out _).mono ?_
      rintro r w5 ⟨rfl, hb5⟩
      have HB5 := Lib.hid (HB3.out.trans (hb5.mono HB3.out.size))
      have HB6 := Lib.hid (HB4.out.trans (hb5.mono HB4.out.size))
      clear hb5
      cases he : rightB p0 p1 p2 with
      | false =>
        have HV := Lib.hid (HVN.out (by rw [HPK.out, he]))
        clear he
        go_wp2_with fail
        go_ret
        exact ⟨ret_bool HV.out.symm, HB6.out⟩
      | true =>
        have HN := Lib.hid (show ∀ j, j < k + 1 → parOk d.ps j = true from fun j h => by
          by_cases e : j = k
          · subst e; rw [HPK.out, he]
          · exact HK.out j (by omega))
        clear he
        go_wp2_with fail
        go_roundw
        case rel => exact ⟨k + 1, by omega, by go_num, HN, HB5.out⟩
        case measure => simp [intOf]; omega
    · have HV := Lib.hid (HFA.out HDL.out HCO.out HPL.out (fun j hj => HK.out j (by omega)))
      go_wp2_with fail
      go_ret
      exact ⟨ret_bool HV.out.symm, HB2.out.trans (hb.mono HB2.out.size)⟩

set_option maxRecDepth 100000 in
set_option maxHeartbeats 4000000 in
theorem rRight37_any (rv ov cv pv : Value) (rows : List (List Int)) (owners : List Int) (d : Dlg) (w : World) (hR : Rows2 w rv rows) (hO : Ints w ov owners) (hC : Ints w cv d.cs) (hP : Parcels w pv d.ps) :
    Calls Tryz.prog 29 #[.agg #[rv, ov], .agg #[.int .i64 d.dealer, cv, pv]] w fun e w' => e = .returned (.tuple #[.bool (kriB rows owners d), .int .i64 (progE rows owners)]) ∧ Below w.heap.size w w' := by
  obtain ⟨W0, hW0, hb0, hr0, -⟩ := box_prog w rv ov 25
  have hs0 : W0.heap.size = w.heap.size + 1 := by rw [hW0]; simp
  obtain ⟨W1, hW1, hb1, hr1, -⟩ := box36 W0 (.int .i64 d.dealer) cv pv 28
  have hb := hb0.trans (hb1.mono hb0.size)
  have Q0 := Lib.hid ((hb1.block _ (row_lt hr0)).trans hr0)
  rw [hs0] at hr1
  have Q1 := Lib.hid hr1
  have HR := Lib.hid (hR.below hb)
  have HO := Lib.hid (hO.below hb)
  have HC := Lib.hid (hC.below hb)
  have HP := Lib.hid (hP.below hb)
  obtain ⟨a1, k1, rfl, -, hl1, -⟩ := id hR
  obtain ⟨a2, k2, rfl, -, hl2, -⟩ := id hO
  obtain ⟨a3, k3, rfl, -, hl3, hcr, -⟩ := id hC
  obtain ⟨a4, k4, rfl, -, hl4, -⟩ := id hP
  rw [hW0] at hW1
  have HW1 := Lib.hid hW1
  have HB := Lib.hid hb
  have c0 := row_cell Q0.out (k := 0) (v := .slice a1 rows.length k1) rfl
  have c1 := row_cell Q0.out (k := 1) (v := .slice a2 owners.length k2) rfl
  have d0 := row_cell Q1.out (k := 0) (v := .int .i64 d.dealer) rfl
  have d1 := row_cell Q1.out (k := 1) (v := .slice a3 d.cs.length k3) rfl
  have d2 := row_cell Q1.out (k := 2) (v := .slice a4 d.ps.length k4) rfl
  clear hR hO hC hP hb hb0 hb1 hr0 hr1 hW0 hW1 hs0 hcr
  go_enter Tryz.func29, Tryz.ntmps29
  go_wp2_with (rw [← HW1.out])
  with_reducible refine (rpCheck_any _ _ rows owners _ HR.out HO.out).mono ?_
  rintro e w2 ⟨rfl, hb2⟩
  replace c0 := below_cell hb2 c0
  replace c1 := below_cell hb2 c1
  replace d0 := below_cell hb2 d0
  replace d1 := below_cell hb2 d1
  replace d2 := below_cell hb2 d2
  replace HR := Lib.hid (HR.out.below hb2)
  replace HO := Lib.hid (HO.out.below hb2)
  replace HC := Lib.hid (HC.out.below hb2)
  replace HP := Lib.hid (HP.out.below hb2)
  replace HB := Lib.hid (HB.out.trans (hb2.mono HB.out.size))
  clear hb2
  by_cases hp : progE rows owners = 0
  rotate_left
  · have d9 : (progE rows owners != 0) = true := bne_iff_ne.2 hp
    have HV : Hid (kriB rows owners d = false) := Lib.hid (by unfold kriB; rw [if_neg hp])
    clear hp
    obtain ⟨q, hq⟩ : ∃ q, q = progE rows owners := ⟨_, rfl⟩
    have HQ := Lib.hid hq
    rw [← hq] at d9 ⊢
    clear hq
    go_wp2_with fail
    go_ret2
    exact ⟨by rw [HV.out, HQ.out]; rfl, HB.out⟩
  · have HV : Hid (kriB rows owners d = fineB rows d) := Lib.hid (by unfold kriB; rw [if_pos hp])
    have HP0 := Lib.hid hp
    have HPK := Lib.hid (progE_ok hp)
    rw [hp]
    clear hp
    go_wp2_with fail
    with_reducible refine (rFine37_any _ _ _ _ rows owners d _ HR.out HO.out HC.out HP.out HPK.out.few HPK.out.cols_le).mono ?_
    rintro e w3 ⟨rfl, hb3⟩
    replace c0 := below_cell hb3 c0
    replace c1 := below_cell hb3 c1
    replace d0 := below_cell hb3 d0
    replace d1 := below_cell hb3 d1
    replace d2 := below_cell hb3 d2
    replace HR := Lib.hid (HR.out.below hb3)
    replace HO := Lib.hid (HO.out.below hb3)
    replace HC := Lib.hid (HC.out.below hb3)
    replace HP := Lib.hid (HP.out.below hb3)
    replace HB := Lib.hid (HB.out.trans (hb3.mono HB.out.size))
    clear hb3
    go_wp2_with fail
    go_ret2
    exact ⟨by rw [HV.out, HP0.out]; rfl, HB.out⟩

end Go.Proofs.YtggnipkfliompaaGreatDoor

namespace Go.Proofs.YtggnipkfliompaaGreatDoor
open Go.RowKit

set_option maxRecDepth 100000 in
set_option maxHeartbeats 1000000 in
theorem ror_any (x n : Nat) (w : World) (hx : x < 4294967296) (hn : n = 2 ∨ n = 6 ∨ n = 7 ∨ n = 11 ∨ n = 13 ∨ n = 17 ∨ n = 18 ∨ n = 19 ∨ n = 22 ∨ n = 25) :
    Calls Tryz.prog 241 #[.int .u32 x, .int .i64 n] w fun e w' => e = .returned (.int .u32 (rotr x n)) ∧ ∃ m, w' = w.drewN m := by
  obtain ⟨s, hs⟩ : ∃ s, n + s = 32 := ⟨32 - n, by omega⟩
  have s1 : 1 ≤ s := by omega
  have s2 : s < 32 := by omega
  have e1 : (32 : Int) - (n : Int) = s := by omega
  have n1 : (0 : Int) ≤ n := by omega
  have n2 : n < 32 := by omega
  have HO : Hid (bits .or .u32 ((x : Int) / 2 ^ n) ((x : Int) * 2 ^ s % 4294967296) = ((rotr x n : Nat) : Int)) := Lib.hid (by
    have h := rot_or x n s hx hs
    rw [show 32 - s = n by omega] at h
    rw [← h]
    have e1 : (x : Int) * 2 ^ s % 4294967296 = ((x * 2 ^ s % 4294967296 : Nat) : Int) := by rw [Int.natCast_emod, Int.natCast_mul, Int.natCast_pow]; rfl
    have e2 : (x : Int) / 2 ^ n = ((x / 2 ^ n : Nat) : Int) := by rw [Int.natCast_ediv, Int.natCast_pow]; rfl
    have h1 : x * 2 ^ s % 4294967296 < 4294967296 := Nat.mod_lt _ (by decide)
    have h2 : x / 2 ^ n < 4294967296 := Nat.lt_of_le_of_lt (Nat.div_le_self _ _) hx
    rw [e1, e2, u32_or_nat _ _ h2 h1, u32_or_nat _ _ h1 h2, Nat.or_comm])
  clear hn
  go_enter Tryz.func241, Tryz.ntmps241
  go_wp2_with fail
  go_quiet (fail)
  go_wp2_with fail
  go_ret
  exact ⟨ret_int HO.out, ⟨_, rfl⟩⟩

theorem word_or (g0 g1 g2 g3 : Nat) (h0 : g0 < 256) (h1 : g1 < 256) (h2 : g2 < 256) (h3 : g3 < 256) :
    bits .or .u32 (bits .or .u32 (bits .or .u32 ((g0 : Int) * 16777216) ((g1 : Int) * 65536)) ((g2 : Int) * 256)) (g3 : Int) = ((wd g0 g1 g2 g3 : Nat) : Int) := by
  have e0 : (g0 : Int) * 16777216 = ((g0 * 16777216 : Nat) : Int) := by omega
  have e1 : (g1 : Int) * 65536 = ((g1 * 65536 : Nat) : Int) := by omega
  have e2 : (g2 : Int) * 256 = ((g2 * 256 : Nat) : Int) := by omega
  rw [e0, e1, e2, u32_or_nat _ _ (by omega) (by omega), nat_join 24 (g0 * 16777216) (g1 * 65536) (by omega) (by omega),
    u32_or_nat _ _ (by omega) (by omega), nat_join 16 (g0 * 16777216 + g1 * 65536) (g2 * 256) (by omega) (by omega),
    u32_or_nat _ _ (by omega) (by omega), nat_join 8 (g0 * 16777216 + g1 * 65536 + g2 * 256) g3 (by omega) (by omega)]
  unfold wd
  omega

set_option maxRecDepth 100000 in
set_option maxHeartbeats 1000000 in
theorem rword_any (a : Addr) (b off n cap : Nat) (ha : a = ⟨b, off, none⟩) (hn : 4 ≤ n) (_hcap : n ≤ cap) (f : Nat → Nat) (hf : ∀ k, f k < 256) (w : World)
    (hc : ∀ k, k < 4 → w.cell? ⟨b, off + k, none⟩ = some (.int .u8 (f k : Nat))) :
    Calls Tryz.prog 240 #[.slice (some a) n cap] w fun e w' => e = .returned (.int .u32 (wd (f 0) (f 1) (f 2) (f 3) : Nat)) ∧ ∃ m, w' = w.drewN m := by
  subst ha
  have f0 := hf 0
  have f1 := hf 1
  have f2 := hf 2
  have f3 := hf 3
  have c0 := hc 0 (by omega)
  have c1 := hc 1 (by omega)
  have c2 := hc 2 (by omega)
  have c3 := hc 3 (by omega)
  clear hc hf
  rw [Nat.add_zero] at c0
  generalize f 0 = g0 at *
  generalize f 1 = g1 at *
  generalize f 2 = g2 at *
  generalize f 3 = g3 at *
  have HO := Lib.hid (word_or g0 g1 g2 g3 f0 f1 f2 f3)
  have k0 : IntKind.u32.wrap (g0 : Int) = g0 := by rw [IntKind.wrap_u32]; omega
  have k1 : IntKind.u32.wrap (g1 : Int) = g1 := by rw [IntKind.wrap_u32]; omega
  have k2 : IntKind.u32.wrap (g2 : Int) = g2 := by rw [IntKind.wrap_u32]; omega
  have k3 : IntKind.u32.wrap (g3 : Int) = g3 := by rw [IntKind.wrap_u32]; omega
  go_enter Tryz.func240, Tryz.ntmps240
  go_wp2_with fail
  go_quiet (fail)
  go_wp2_with fail
  go_ret
  exact ⟨ret_int HO.out, ⟨_, rfl⟩⟩

end Go.Proofs.YtggnipkfliompaaGreatDoor

namespace Go.Proofs.YtggnipkfliompaaGreatDoor
open Go.RowKit

def wordV (x : Nat) : Value := .int .u32 (x : Int)
set_option maxRecDepth 100000 in
theorem infoK : (Tryz.prog.info? 238).map (·.size) = some 64 := by kernel_rfl
set_option maxRecDepth 100000 in
theorem infoKz : ((Tryz.prog.info? 238).bind (·.zero)).map (·.cells.size) = some 64 := by kernel_rfl
set_option maxRecDepth 100000 in
theorem infoU1 : (Tryz.prog.info? 42).map (·.size) = some 1 := by kernel_rfl
def kInts : List Int := kNum.map fun (n : Nat) => (n : Int)
theorem kInts_map : kInts.map (Value.int .u32) = kNum.map wordV := by unfold kInts; rw [List.map_map]; rfl
theorem wordV_one (l : List Nat) : ((l.map wordV).toArray).all (·.oneCell') = true := all_oneCell_toArray (fun v hv => by obtain ⟨x, -, rfl⟩ := List.mem_map.1 hv; rfl)
def z64 : Array Value := #[.int .u32 0, .int .u32 0, .int .u32 0, .int .u32 0, .int .u32 0, .int .u32 0, .int .u32 0, .int .u32 0, .int .u32 0, .int .u32 0, .int .u32 0, .int .u32 0, .int .u32 0, .int .u32 0, .int .u32 0, .int .u32 0, .int .u32 0, .int .u32 0, .int .u32 0, .int .u32 0, .int .u32 0, .int .u32 0, .int .u32 0, .int .u32 0, .int .u32 0, .int .u32 0, .int .u32 0, .int .u32 0, .int .u32 0, .int .u32 0, .int .u32 0, .int .u32 0, .int .u32 0, .int .u32 0, .int .u32 0, .int .u32 0, .int .u32 0, .int .u32 0, .int .u32 0, .int .u32 0, .int .u32 0, .int .u32 0, .int .u32 0, .int .u32 0, .int .u32 0, .int .u32 0, .int .u32 0, .int .u32 0, .int .u32 0, .int .u32 0, .int .u32 0, .int .u32 0, .int .u32 0, .int .u32 0, .int .u32 0, .int .u32 0, .int .u32 0, .int .u32 0, .int .u32 0, .int .u32 0, .int .u32 0, .int .u32 0, .int .u32 0, .int .u32 0]

set_option maxRecDepth 100000 in
set_option maxHeartbeats 4000000 in
theorem rnumbers_any (w : World) :
    Calls Tryz.prog 242 #[] w fun e w' => e = .returned (.agg (kNum.map wordV).toArray) ∧ Below w.heap.size w w' := by
  obtain ⟨T, hT⟩ : ∃ T, T = kNum.map wordV := ⟨_, rfl⟩
  have hTl : T.length = 64 := by rw [hT]; rfl
  have H1 := Lib.hid (show T.toArray.all (·.oneCell') = true by rw [hT]; exact wordV_one _)
  have HI := Lib.hid (infoK.trans (congrArg some (show 64 = T.toArray.size by simpa using hTl.symm)))
  have HI2 := Lib.hid (infoK.trans (congrArg some hTl.symm))
  have HK : Hid (kInts.map (Value.int .u32) = T) := Lib.hid (by rw [hT]; exact kInts_map)
  have HTL := Lib.hid hTl
  rw [← hT]
  clear hT hTl
  have hb : Below w.heap.size w (w.alloc (.cells z64 238)) := (Below.refl _ _).alloc (Nat.le_refl _) _
  have hth : (w.alloc (.cells z64 238)).there w.heap.size 0 64 := there_new _ _ _ rfl
  have HB := Lib.hid hb
  have HTH := Lib.hid hth
  clear hb hth
  go_enter Tryz.func242, Tryz.ntmps242
  obtain ⟨W1, hW1⟩ : ∃ W, W = w.alloc (.cells z64 238) := ⟨_, rfl⟩
  rw [← hW1] at HB HTH
  simp only [z64] at hW1
  have HW1 := Lib.hid hW1
  clear hW1
  go_wp2_with (first
    | rw [← HW1.out]
    | (refine wpList_buildFlatArrTo rfl 238 42 64 _ rfl .u32 kInts _ rfl Tryz.underlying238 infoU1 infoKz (by kernel_rfl) ?_; rw [HK.out])
    | (refine wpList_store_mid rfl 238 (.tmp 0) (.tmp 1) rfl w.heap.size 0 T.toArray rfl rfl (by rw [show T.toArray.size = 64 by simpa using HTL.out]; exact HTH.out) HI.out H1.out ?_))
  have hr := World.rangeAt_setCells_same W1 w.heap.size 0 T (by rw [HTL.out]; exact HTH.out)
  have hld := run_loadVar_mid (P := Tryz.prog) _ w.heap.size 0 238 T _ hr Tryz.underlying238 rfl HI2.out
  refine bodyPost_ret (v := .agg T.toArray) ?_ rfl ⟨rfl, below_setCells (Nat.le_refl _) _ _ _ HB.out⟩
  exact results_cell1_of rfl rfl hld

end Go.Proofs.YtggnipkfliompaaGreatDoor
