/- The laws' helpers: the reference's Formed and Commits, the laws' power. -/
import Derived.Test.YtjnnnciifjajmaaDoorEqD
namespace Go.Proofs.YtjnnnciifjajmaaDoor
open Go.RowKit FP

/-- Is a proof's form right? -/
def formB (key a d E S : Int) : Bool := (elB key && (elB a && elB d)) && (nQB E && nQB S)
theorem chkB_form (key a d E S : Int) : chkB key a d E S = (formB key a d E S && (E == chal key a d (rE key E S) (sE a d E S))) := by
  unfold chkB formB; simp only [Bool.and_assoc]
structure Form (key a d E S : Int) : Prop where
  k : El key
  a : El a
  d : El d
  E : 0 ≤ E ∧ E < 1073741789
  S : 0 ≤ S ∧ S < 1073741789
theorem form_iff {key a d E S : Int} : formB key a d E S = true ↔ Form key a d E S := by
  unfold formB
  rw [Bool.and_eq_true, Bool.and_eq_true, Bool.and_eq_true, Bool.and_eq_true, elB_iff, elB_iff, elB_iff, nQB_iff, nQB_iff]
  exact ⟨fun ⟨⟨a, b, c⟩, d, e⟩ => ⟨a, b, c, d, e⟩, fun ⟨a, b, c, d, e⟩ => ⟨⟨a, b, c⟩, d, e⟩⟩
/-- An honest proof is right. -/
theorem chkB_honest {a : Int} (ha : El a) (x : Int) : chkB (powE 4 x) a (powE a x) (prE x a) (prS x a) = true := by
  rw [chkB_form, Bool.and_eq_true, form_iff]
  refine ⟨⟨el_powE el_four x, ha, el_powE ha x, prE_num x a, prS_num x a⟩, ?_⟩
  have h1 : rE (powE 4 x) (prE x a) (prS x a) = powE 4 (prN x a) := rE_honest _ _ _
  have h2 : sE a (powE a x) (prE x a) (prS x a) = powE a (prN x a) := sE_honest ha _ _ _
  rw [h1, h2]
  exact beq_self_eq_true _

theorem cell_agg2 (w : World) (E S : Int) (t : TypeId) : Below w.heap.size w (w.alloc (.cells #[.int .i64 E, .int .i64 S] t)) ∧ (w.alloc (.cells #[.int .i64 E, .int .i64 S] t)).cell? ⟨w.heap.size, 0, none⟩ = some (.int .i64 E) ∧ (w.alloc (.cells #[.int .i64 E, .int .i64 S] t)).cell? ⟨w.heap.size, 1, none⟩ = some (.int .i64 S) := by
  have h := World.alloc_heap_new w (.cells #[.int .i64 E, .int .i64 S] t)
  exact ⟨below_new _ _ _, row_cell h rfl, row_cell h rfl⟩

set_option maxRecDepth 100000 in
set_option maxHeartbeats 1000000 in
theorem formed12_any (key a d E S : Int) (w : World) (hk : R64 key) (ha : R64 a) (hd : R64 d) (hE : R64 E) (hS : R64 S) :
    Calls Tryd.prog 42 #[.int .i64 key, .int .i64 a, .int .i64 d, .agg #[.int .i64 E, .int .i64 S]] w fun e w' => e = .returned (.bool (formB key a d E S)) ∧ Below w.heap.size w w' := by
  obtain ⟨E1, E2⟩ := hE
  obtain ⟨S1, S2⟩ := hS
  obtain ⟨hb, c0, c1⟩ := cell_agg2 w E S 23
  have HB := Lib.hid hb
  clear hb
  go_enter Tryd.func42, Tryd.ntmps42
  go_wp2_with fail
  with_reducible refine (rvalid_any _ _ hk).mono ?_
  rintro e w1 ⟨rfl, rfl⟩
  cases e1 : elB key with
  | false =>
    have H1 := Lib.hid e1
    clear e1
    go_wp2_with fail
    go_ret
    exact ⟨ret_bool (by unfold formB; rw [H1.out]; rfl), HB.out⟩
  | true =>
    have H1 := Lib.hid e1
    clear e1
    go_wp2_with fail
    with_reducible refine (rvalid_any _ _ ha).mono ?_
    rintro e w1 ⟨rfl, rfl⟩
    cases e2 : elB a with
    | false =>
      have H2 := Lib.hid e2
      clear e2
      go_wp2_with fail
      go_ret
      exact ⟨ret_bool (by unfold formB; rw [H1.out, H2.out]; rfl), HB.out⟩
    | true =>
      have H2 := Lib.hid e2
      clear e2
      go_wp2_with fail
      with_reducible refine (rvalid_any _ _ hd).mono ?_
      rintro e w1 ⟨rfl, rfl⟩
      cases e3 : elB d with
      | false =>
        have H3 := Lib.hid e3
        clear e3
        go_wp2_with fail
        go_ret
        exact ⟨ret_bool (by unfold formB; rw [H1.out, H2.out, H3.out]; rfl), HB.out⟩
      | true =>
        have H3 := Lib.hid e3
        clear e3
        have HF := Lib.hid (show formB key a d E S = (decide (0 ≤ E) && decide (E < 1073741789) && (decide (0 ≤ S) && decide (S < 1073741789))) by unfold formB nQB; rw [H1.out, H2.out, H3.out, Bool.true_and, Bool.true_and, Bool.true_and])
        by_cases h1 : 0 ≤ E
        · by_cases h2 : E < 1073741789
          · by_cases h3 : 0 ≤ S
            · by_cases h4 : S < 1073741789
              · have HV := Lib.hid (show formB key a d E S = true by rw [HF.out, decide_eq_true h1, decide_eq_true h2, decide_eq_true h3, decide_eq_true h4]; rfl)
                go_wp2_with fail
                go_ret
                exact ⟨ret_bool HV.out.symm, HB.out⟩
              · have HV := Lib.hid (show formB key a d E S = false by rw [HF.out, decide_eq_false h4, Bool.and_false, Bool.and_false])
                go_wp2_with fail
                go_ret
                exact ⟨ret_bool (by rw [HV.out]; exact decide_eq_false (by omega)), HB.out⟩
            · have HV := Lib.hid (show formB key a d E S = false by rw [HF.out, decide_eq_false h3, Bool.false_and, Bool.and_false])
              go_wp2_with fail
              go_ret
              exact ⟨ret_bool HV.out.symm, HB.out⟩
          · have HV := Lib.hid (show formB key a d E S = false by rw [HF.out, decide_eq_false h2, Bool.and_false, Bool.false_and])
            go_wp2_with fail
            go_ret
            exact ⟨ret_bool HV.out.symm, HB.out⟩
        · have HV := Lib.hid (show formB key a d E S = false by rw [HF.out, decide_eq_false h1, Bool.false_and, Bool.false_and])
          go_wp2_with fail
          go_ret
          exact ⟨ret_bool HV.out.symm, HB.out⟩

set_option maxRecDepth 100000 in
set_option maxHeartbeats 1000000 in
theorem commits12_any (key a d E S : Int) (w : World) (hf : Form key a d E S) :
    Calls Tryd.prog 43 #[.int .i64 key, .int .i64 a, .int .i64 d, .agg #[.int .i64 E, .int .i64 S]] w fun e w' => e = .returned (.tuple #[.int .i64 (rE key E S), .int .i64 (sE a d E S)]) ∧ Below w.heap.size w w' := by
  obtain ⟨hk, ha, hd, ⟨E1, E2⟩, ⟨S1, S2⟩⟩ := hf
  have hE64 : R64 (-E) := ⟨by omega, by omega⟩
  have hS64 : R64 S := ⟨by omega, by omega⟩
  have hwE := IntWalk.i64_in (-E) (by omega)
  have e1 := el_powE el_four S
  have e2 := el_powE hk (-E)
  have e3 := el_powE ha S
  have e4 := el_powE hd (-E)
  have HR1 : Hid (powE 4 S * powE key (-E) % 2147483579 = rE key E S) := Lib.hid rfl
  have HR2 : Hid (powE a S * powE d (-E) % 2147483579 = sE a d E S) := Lib.hid rfl
  obtain ⟨hb, c0, c1⟩ := cell_agg2 w E S 23
  have HB := Lib.hid hb
  clear hb
  go_enter Tryd.func43, Tryd.ntmps43
  go_wp2_with fail
  with_reducible refine (rpow_yes 4 S _ el_four hS64).mono ?_
  rintro e w1 ⟨rfl, rfl⟩
  go_wp2_with fail
  with_reducible refine (rpow_yes key (-E) _ hk hE64).mono ?_
  rintro e w1 ⟨rfl, rfl⟩
  go_wp2_with fail
  with_reducible refine (rpow_yes a S _ ha hS64).mono ?_
  rintro e w1 ⟨rfl, rfl⟩
  go_wp2_with fail
  with_reducible refine (rpow_yes d (-E) _ hd hE64).mono ?_
  rintro e w1 ⟨rfl, rfl⟩
  go_wp2_with fail
  with_reducible refine (rmul_yes _ _ _ e1 e2).mono ?_
  rintro e w1 ⟨rfl, rfl⟩
  rw [HR1.out]
  go_wp2_with fail
  with_reducible refine (rmul_yes _ _ _ e3 e4).mono ?_
  rintro e w1 ⟨rfl, rfl⟩
  rw [HR2.out]
  go_wp2_with fail
  go_ret2
  exact ⟨rfl, HB.out⟩

end Go.Proofs.YtjnnnciifjajmaaDoor
