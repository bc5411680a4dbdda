/- Package complaints: Settle. The laws' helpers: the reference's Formed and Commits, the laws' power. Package complaints, in plain Lean: dealings that are sealed. -/
import Derived.Test.YtggnipkfliompaaGreatDoorMCoG
import Derived.Test.YtggnipkfliompaaGreatDoorMEqD
import Derived.Test.YtggnipkfliompaaGreatDoorMSane
namespace Go.Proofs.YtggnipkfliompaaGreatDoor
open Go.RowKit FP

set_option maxRecDepth 100000 in
set_option maxHeartbeats 8000000 in
theorem cSettle_any (rv ov cv pv : Value) (rows : List (List Int)) (owners : List Int) (d : Dlg) (c : Cmp) (key : Int) (w : World) (hG : Glob w) (hR : Rows2 w rv rows) (hO : Ints w ov owners) (hC : Ints w cv d.cs) (hP : Parcels w pv d.ps) (hkey : R64 key) (hc : CmpR c) :
    Calls Tryz.prog 17 #[.agg #[rv, ov], .int .i64 key, .agg #[.int .i64 d.dealer, cv, pv], cmpV c] w fun r w' =>
      r = .returned (.tuple #[.int .i64 (stG rows owners key d c), .int .i64 (stE rows owners key d c)]) ∧ Below w.heap.size w w' := by
  obtain ⟨W0, hW0⟩ : ∃ W, W = w.alloc (.cells #[rv, ov] 25) := ⟨_, rfl⟩
  have hs0 : W0.heap.size = w.heap.size + 1 := by rw [hW0]; simp
  have hb0 : Below w.heap.size w W0 := by rw [hW0]; exact (Below.refl _ _).alloc (Nat.le_refl _) _
  have hr0 := World.alloc_heap_new w (.cells #[rv, ov] 25)
  rw [← hW0] at hr0
  obtain ⟨W1, hW1⟩ : ∃ W, W = W0.alloc (.cells #[.int .i64 key] 3) := ⟨_, rfl⟩
  have hs1 : W1.heap.size = W0.heap.size + 1 := by rw [hW1]; simp
  have hb1 : Below W0.heap.size W0 W1 := by rw [hW1]; exact (Below.refl _ _).alloc (Nat.le_refl _) _
  have hr1 := World.alloc_heap_new W0 (.cells #[.int .i64 key] 3)
  rw [← hW1] at hr1
  obtain ⟨W2, hW2⟩ : ∃ W, W = W1.alloc (.cells #[.int .i64 d.dealer, cv, pv] 28) := ⟨_, rfl⟩
  have hs2 : W2.heap.size = W1.heap.size + 1 := by rw [hW2]; simp
  have hb2 : Below W1.heap.size W1 W2 := by rw [hW2]; exact (Below.refl _ _).alloc (Nat.le_refl _) _
  have hr2 := World.alloc_heap_new W1 (.cells #[.int .i64 d.dealer, cv, pv] 28)
  rw [← hW2] at hr2
  obtain ⟨W3, hW3⟩ : ∃ W, W = W2.alloc (.cells (cmpA c) 34) := ⟨_, rfl⟩
  have hs3 : W3.heap.size = W2.heap.size + 1 := by rw [hW3]; simp
  have hb3 : Below W2.heap.size W2 W3 := by rw [hW3]; exact (Below.refl _ _).alloc (Nat.le_refl _) _
  have hr3 := World.alloc_heap_new W2 (.cells (cmpA c) 34)
  rw [← hW3] at hr3
  obtain ⟨W4, hW4⟩ : ∃ W, W = W3.alloc (.cells #[.int .i64 0] 3) := ⟨_, rfl⟩
  have hs4 : W4.heap.size = W3.heap.size + 1 := by rw [hW4]; simp
  have hb4 : Below W3.heap.size W3 W4 := by rw [hW4]; exact (Below.refl _ _).alloc (Nat.le_refl _) _
  have hr4 := World.alloc_heap_new W3 (.cells #[.int .i64 0] 3)
  rw [← hW4] at hr4
  have t0 : Below w.heap.size w W0 := hb0
  have t1 : Below w.heap.size w W1 := t0.trans (hb1.mono t0.size)
  have t2 : Below w.heap.size w W2 := t1.trans (hb2.mono t1.size)
  have t3 : Below w.heap.size w W3 := t2.trans (hb3.mono t2.size)
  have t4 : Below w.heap.size w W4 := t3.trans (hb4.mono t3.size)
  have Q0 := Lib.hid ((hb4.block _ (row_lt ((hb3.block _ (row_lt ((hb2.block _ (row_lt ((hb1.block _ (row_lt hr0)).trans hr0))).trans ((hb1.block _ (row_lt hr0)).trans hr0)))).trans ((hb2.block _ (row_lt ((hb1.block _ (row_lt hr0)).trans hr0))).trans ((hb1.block _ (row_lt hr0)).trans hr0))))).trans ((hb3.block _ (row_lt ((hb2.block _ (row_lt ((hb1.block _ (row_lt hr0)).trans hr0))).trans ((hb1.block _ (row_lt hr0)).trans hr0)))).trans ((hb2.block _ (row_lt ((hb1.block _ (row_lt hr0)).trans hr0))).trans ((hb1.block _ (row_lt hr0)).trans hr0))))
  have Q1 := Lib.hid ((hb4.block _ (row_lt ((hb3.block _ (row_lt ((hb2.block _ (row_lt hr1)).trans hr1))).trans ((hb2.block _ (row_lt hr1)).trans hr1)))).trans ((hb3.block _ (row_lt ((hb2.block _ (row_lt hr1)).trans hr1))).trans ((hb2.block _ (row_lt hr1)).trans hr1)))
  have Q2 := Lib.hid ((hb4.block _ (row_lt ((hb3.block _ (row_lt hr2)).trans hr2))).trans ((hb3.block _ (row_lt hr2)).trans hr2))
  have Q3 := Lib.hid ((hb4.block _ (row_lt hr3)).trans hr3)
  have Q4 := Lib.hid hr4
  rw [hs0] at Q1
  rw [hs1, hs0] at Q2
  rw [hs2, hs1, hs0] at Q3
  rw [hs3, hs2, hs1, hs0] at Q4
  have HSZ : W4.heap.size = w.heap.size + 1 + 1 + 1 + 1 + 1 := by rw [hs4, hs3, hs2, hs1, hs0]
  have HB := Lib.hid t4
  rw [hW3, hW2, hW1, hW0] at hW4
  have HWB := Lib.hid hW4
  clear hW0 hb0 hr0 hs0 t0 hW1 hb1 hr1 hs1 t1 hW2 hb2 hr2 hs2 t2 hW3 hb3 hr3 hs3 t3 hW4 hb4 hr4 hs4 t4
  have hmf : ∀ (fn : Fn) (first cap : Array Value) (w : World), (Instr.makeFunc fn first cap).run Tryz.prog w = .ok (.func fn first cap) w := fun _ _ _ _ => rfl
  have HT := Lib.hid (attempt_any 64 #[.pointer (some ⟨w.heap.size, 0, none⟩), .pointer (some ⟨w.heap.size + 1 + 1, 0, none⟩), .pointer (some ⟨w.heap.size + 1 + 1 + 1, 0, none⟩), .pointer (some ⟨w.heap.size + 1 + 1 + 1 + 1, 0, none⟩), .pointer (some ⟨w.heap.size + 1, 0, none⟩)] W4 (StR w (w.heap.size + 1 + 1 + 1 + 1) rows owners key d c) goes_settle1 (by
    have hbe := below_new W4 #[.int .i64 0] 35
    have hb := HB.out.trans (hbe.mono HB.out.size)
    refine settle1_any w _ _ _ _ _ W4.heap.size rv ov cv pv rows owners d c key _ hb hG hR hO hC hP
      ((hbe.block _ (row_lt Q0.out)).trans Q0.out) ((hbe.block _ (row_lt Q2.out)).trans Q2.out) ((hbe.block _ (row_lt Q3.out)).trans Q3.out) ((hbe.block _ (row_lt Q4.out)).trans Q4.out) ((hbe.block _ (row_lt Q1.out)).trans Q1.out) (World.alloc_heap_new _ _)
      (by omega) (by omega) (by omega) (by omega) (by omega) (by omega) hkey hc))
  obtain ⟨a1, k1, rfl, -⟩ := id hR
  obtain ⟨a2, k2, rfl, -⟩ := id hO
  obtain ⟨a3, k3, rfl, -⟩ := id hC
  obtain ⟨a4, k4, rfl, -⟩ := id hP
  have HSG : Hid (stE rows owners key d c ≠ 0 → stG rows owners key d c = 0) := Lib.hid (fun h => by unfold stG; rw [if_pos h])
  clear hG hR hO hC hP hkey hc
  obtain ⟨c1, c2, c3, c4, c5⟩ := c
  unfold cmpV cmpA at *
  go_enter Tryz.func17, Tryz.ntmps17
  go_wp2_with (rw [← HWB.out])
  refine HT.out.mono ?_
  rintro r w2 ⟨e, w1, rfl, ⟨h1, h2, g, h3, h4⟩, hlt, hbb, hbl⟩
  have QG := Lib.hid ((hbl _ (by omega) (row_lt h3)).trans h3)
  have HB2 := Lib.hid (hbb _ _ HB.out.size h2)
  clear h2 h3 hbb hbl HT
  have t0 := row_cell QG.out (k := 0) (v := .int .i64 g) rfl
  have f0 := row_free QG.out 0
  by_cases he : e = 0
  · subst he
    have HV := Lib.hid (And.intro h1.symm (h4 rfl))
    clear h1 h4
    have q := row_set QG.out 0 (.int .i64 g)
    have hbf := HB2.out.setCell (p := ⟨w.heap.size + 1 + 1 + 1 + 1, 0, none⟩) (by show w.heap.size ≤ w.heap.size + 1 + 1 + 1 + 1; omega) (.int .i64 g)
    generalize hX : w2.setCell ⟨w.heap.size + 1 + 1 + 1 + 1, 0, none⟩ (.int .i64 g) = X at *
    have x0 := row_cell q (k := 0) (v := .int .i64 g) rfl
    go_wp2_with (rw [hX])
    refine bodyPost_ret (v := .tuple #[.int .i64 g, .int .i64 0]) (by simp [results, Tryz.results17, go_sem, x0]) rfl ⟨by rw [HV.out.1, HV.out.2], hbf⟩
  · have d0 : (e != 0) = true := bne_iff_ne.2 he
    have HV := Lib.hid (And.intro h1.symm (HSG.out (by rw [← h1]; exact he)))
    clear h1 h4
    have q := row_set QG.out 0 (.int .i64 0)
    have hbf := HB2.out.setCell (p := ⟨w.heap.size + 1 + 1 + 1 + 1, 0, none⟩) (by show w.heap.size ≤ w.heap.size + 1 + 1 + 1 + 1; omega) (.int .i64 0)
    generalize hX : w2.setCell ⟨w.heap.size + 1 + 1 + 1 + 1, 0, none⟩ (.int .i64 0) = X at *
    have x0 := row_cell q (k := 0) (v := .int .i64 0) rfl
    go_wp2_with (rw [hX])
    refine bodyPost_ret (v := .tuple #[.int .i64 0, .int .i64 e]) (by simp [results, Tryz.results17, go_sem, x0]) rfl ⟨by rw [HV.out.1, HV.out.2], hbf⟩

end Go.Proofs.YtggnipkfliompaaGreatDoor

namespace Go.Proofs.YtggnipkfliompaaGreatDoor
open Go.RowKit FP

/-- Is a proof's form right? -/
def formB (key a d E S : Int) : Bool := (elB key && (elB a && elB d)) && (nQB E && nQB S)
theorem chkB_form (key a d E S : Int) : chkB key a d E S = (formB key a d E S && (E == chal key a d (rE key E S) (sE a d E S))) := by
  unfold chkB formB; simp only [Bool.and_assoc]
structure Form (key a d E S : Int) : Prop where
  k : El key
  a : El a
  d : El d
  E : 0 ≤ E ∧ E < 1073741789
  S : 0 ≤ S ∧ S < 1073741789
theorem form_iff {key a d E S : Int} : formB key a d E S = true ↔ Form key a d E S := by
  unfold formB
  rw [Bool.and_eq_true, Bool.and_eq_true, Bool.and_eq_true, Bool.and_eq_true, elB_iff, elB_iff, elB_iff, nQB_iff, nQB_iff]
  exact ⟨fun ⟨⟨a, b, c⟩, d, e⟩ => ⟨a, b, c, d, e⟩, fun ⟨a, b, c, d, e⟩ => ⟨⟨a, b, c⟩, d, e⟩⟩
/-- An honest proof is right. -/
theorem chkB_honest {a : Int} (ha : El a) (x : Int) : chkB (powE 4 x) a (powE a x) (prE x a) (prS x a) = true := by
  rw [chkB_form, Bool.and_eq_true, form_iff]
  refine ⟨⟨el_powE el_four x, ha, el_powE ha x, prE_num x a, prS_num x a⟩, ?_⟩
  have h1 : rE (powE 4 x) (prE x a) (prS x a) = powE 4 (prN x a) := rE_honest _ _ _
  have h2 : sE a (powE a x) (prE x a) (prS x a) = powE a (prN x a) := sE_honest ha _ _ _
  rw [h1, h2]
  exact beq_self_eq_true _

theorem cell_agg2 (w : World) (E S : Int) (t : TypeId) : Below w.heap.size w (w.alloc (.cells #[.int .i64 E, .int .i64 S] t)) ∧ (w.alloc (.cells #[.int .i64 E, .int .i64 S] t)).cell? ⟨w.heap.size, 0, none⟩ = some (.int .i64 E) ∧ (w.alloc (.cells #[.int .i64 E, .int .i64 S] t)).cell? ⟨w.heap.size, 1, none⟩ = some (.int .i64 S) := by
  have h := World.alloc_heap_new w (.cells #[.int .i64 E, .int .i64 S] t)
  exact ⟨below_new _ _ _, row_cell h rfl, row_cell h rfl⟩

set_option maxRecDepth 100000 in
set_option maxHeartbeats 1000000 in
theorem formed12_any (key a d E S : Int) (w : World) (hk : R64 key) (ha : R64 a) (hd : R64 d) (hE : R64 E) (hS : R64 S) :
    Calls Tryz.prog 141 #[.int .i64 key, .int .i64 a, .int .i64 d, .agg #[.int .i64 E, .int .i64 S]] w fun e w' => e = .returned (.bool (formB key a d E S)) ∧ Below w.heap.size w w' := by
  obtain ⟨E1, E2⟩ := hE
  obtain ⟨S1, S2⟩ := hS
  obtain ⟨hb, c0, c1⟩ := cell_agg2 w E S 32
  have HB := Lib.hid hb
  clear hb
  go_enter Tryz.func141, Tryz.ntmps141
  go_wp2_with fail
  with_reducible refine (rvalid_any _ _ hk).mono ?_
  rintro e w1 ⟨rfl, rfl⟩
  cases e1 : elB key with
  | false =>
    have H1 := Lib.hid e1
    clear e1
    go_wp2_with fail
    go_ret
    exact ⟨ret_bool (by unfold formB; rw [H1.out]; rfl), HB.out⟩
  | true =>
    have H1 := Lib.hid e1
    clear e1
    go_wp2_with fail
    with_reducible refine (rvalid_any _ _ ha).mono ?_
    rintro e w1 ⟨rfl, rfl⟩
    cases e2 : elB a with
    | false =>
      have H2 := Lib.hid e2
      clear e2
      go_wp2_with fail
      go_ret
      exact ⟨ret_bool (by unfold formB; rw [H1.out, H2.out]; rfl), HB.out⟩
    | true =>
      have H2 := Lib.hid e2
      clear e2
      go_wp2_with fail
      with_reducible refine (rvalid_any _ _ hd).mono ?_
      rintro e w1 ⟨rfl, rfl⟩
      cases e3 : elB d with
      | false =>
        have H3 := Lib.hid e3
        clear e3
        go_wp2_with fail
        go_ret
        exact ⟨ret_bool (by unfold formB; rw [H1.out, H2.out, H3.out]; rfl), HB.out⟩
      | true =>
        have H3 := Lib.hid e3
        clear e3
        have HF := Lib.hid (show formB key a d E S = (decide (0 ≤ E) && decide (E < 1073741789) && (decide (0 ≤ S) && decide (S < 1073741789))) by unfold formB nQB; rw [H1.out, H2.out, H3.out, Bool.true_and, Bool.true_and, Bool.true_and])
        by_cases h1 : 0 ≤ E
        · by_cases h2 : E < 1073741789
          · by_cases h3 : 0 ≤ S
            · by_cases h4 : S < 1073741789
              · have HV := Lib.hid (show formB key a d E S = true by rw [HF.out, decide_eq_true h1, decide_eq_true h2, decide_eq_true h3, decide_eq_true h4]; rfl)
                go_wp2_with fail
                go_ret
                exact ⟨ret_bool HV.out.symm, HB.out⟩
              · have HV := Lib.hid (show formB key a d E S = false by rw [HF.out, decide_eq_false h4, Bool.and_false, Bool.and_false])
                go_wp2_with fail
                go_ret
                exact ⟨ret_bool (by rw [HV.out]; exact decide_eq_false (by omega)), HB.out⟩
            · have HV := Lib.hid (show formB key a d E S = false by rw [HF.out, decide_eq_false h3, Bool.false_and, Bool.and_false])
              go_wp2_with fail
              go_ret
              exact ⟨ret_bool HV.out.symm, HB.out⟩
          · have HV := Lib.hid (show formB key a d E S = false by rw [HF.out, decide_eq_false h2, Bool.and_false, Bool.false_and])
            go_wp2_with fail
            go_ret
            exact ⟨ret_bool HV.out.symm, HB.out⟩
        · have HV := Lib.hid (show formB key a d E S = false by rw [HF.out, decide_eq_false h1, Bool.false_and, Bool.false_and])
          go_wp2_with fail
          go_ret
          exact ⟨ret_bool HV.out.symm, HB.out⟩

set_option maxRecDepth 100000 in
set_option maxHeartbeats 1000000 in
theorem commits12_any (key a d E S : Int) (w : World) (hf : Form key a d E S) :
    Calls Tryz.prog 142 #[.int .i64 key, .int .i64 a, .int .i64 d, .agg #[.int .i64 E, .int .i64 S]] w fun e w' => e = .returned (.tuple #[.int .i64 (rE key E S), .int .i64 (sE a d E S)]) ∧ Below w.heap.size w w' := by
  obtain ⟨hk, ha, hd, ⟨E1, E2⟩, ⟨S1, S2⟩⟩ := hf
  have hE64 : R64 (-E) := ⟨by omega, by omega⟩
  have hS64 : R64 S := ⟨by omega, by omega⟩
  have hwE := IntWalk.i64_in (-E) (by omega)
  have e1 := el_powE el_four S
  have e2 := el_powE hk (-E)
  have e3 := el_powE ha S
  have e4 := el_powE hd (-E)
  have HR1 : Hid (powE 4 S * powE key (-E) % 2147483579 = rE key E S) := Lib.hid rfl
  have HR2 : Hid (powE a S * powE d (-E) % 2147483579 = sE a d E S) := Lib.hid rfl
  obtain ⟨hb, c0, c1⟩ := cell_agg2 w E S 32
  have HB := Lib.hid hb
  clear hb
  go_enter Tryz.func142, Tryz.ntmps142
  go_wp2_with fail
  with_reducible refine (rpow_yes 4 S _ el_four hS64).mono ?_
  rintro e w1 ⟨rfl, rfl⟩
  go_wp2_with fail
  with_reducible refine (rpow_yes key (-E) _ hk hE64).mono ?_
  rintro e w1 ⟨rfl, rfl⟩
  go_wp2_with fail
  with_reducible refine (rpow_yes a S _ ha hS64).mono ?_
  rintro e w1 ⟨rfl, rfl⟩
  go_wp2_with fail
  with_reducible refine (rpow_yes d (-E) _ hd hE64).mono ?_
  rintro e w1 ⟨rfl, rfl⟩
  go_wp2_with fail
  with_reducible refine (rmul_yes _ _ _ e1 e2).mono ?_
  rintro e w1 ⟨rfl, rfl⟩
  rw [HR1.out]
  go_wp2_with fail
  with_reducible refine (rmul_yes _ _ _ e3 e4).mono ?_
  rintro e w1 ⟨rfl, rfl⟩
  rw [HR2.out]
  go_wp2_with fail
  go_ret2
  exact ⟨rfl, HB.out⟩

end Go.Proofs.YtggnipkfliompaaGreatDoor

namespace Go.Proofs.YtggnipkfliompaaGreatDoor
open Go.RowKit FP

/-- A sealed parcel. -/
def sealP (dealer : Int) (ss us vs : Nat → Int) (i : Nat) : Pcl := ((i : Int), powE 4 (us i), cipV (us i) (powE 4 (ss i)) dealer (i : Int) (vs i))
def sealD (rows : List (List Int)) (s : List Int) (dealer : Int) (ss us vs : Nat → Int) : Dlg := ⟨dealer, dealC s, (List.range rows.length).map (sealP dealer ss us vs)⟩
/-- What a sealed dealing asks. -/
structure SD (rows : List (List Int)) (owners : List Int) (x : Int) (rnd : List Int) (dealer : Int) (ss us vs : Nat → Int) : Prop where
  ok : DealOK rows owners x rnd
  p0 : progE rows owners = 0
  dl : 0 ≤ dealer ∧ dealer ≤ 63
  hs : ∀ i, i < rows.length → 1 ≤ ss i ∧ ss i ≤ 1073741788
  hu : ∀ i, i < rows.length → 1 ≤ us i ∧ us i ≤ 1073741788
  hv : ∀ i, i < rows.length → 0 ≤ vs i ∧ vs i ≤ 1073741788

section
variable {rows : List (List Int)} {owners : List Int} {x : Int} {rnd : List Int} {dealer : Int} {ss us vs : Nat → Int}
theorem sealD_len : (sealD rows (x :: rnd) dealer ss us vs).ps.length = rows.length := by unfold sealD; simp
theorem sealD_at {i : Nat} (h : i < (sealD rows (x :: rnd) dealer ss us vs).ps.length) : (sealD rows (x :: rnd) dealer ss us vs).ps[i] = sealP dealer ss us vs i := by
  unfold sealD
  show ((List.range rows.length).map (sealP dealer ss us vs))[i]'(by rw [sealD_len] at h; simpa using h) = _
  rw [List.getElem_map, List.getElem_range]
theorem sealD_par {i : Nat} (h : i < rows.length) : parAt (sealD rows (x :: rnd) dealer ss us vs) (i : Int) = sealP dealer ss us vs i := by
  obtain ⟨h1, e⟩ := parAt_mem (d := sealD rows (x :: rnd) dealer ss us vs) (row := (i : Int)) ⟨by omega, by rw [sealD_len]; omega⟩
  rw [e, sealD_at]; rfl
theorem SD.com (h : SD rows owners x rnd dealer ss us vs) : Complete rows owners (sealD rows (x :: rnd) dealer ss us vs) :=
  ⟨h.ok.prog, h.p0, h.dl, sealD_len, com_deal h.ok h.p0, fun k hk => by rw [sealD_at]; rfl⟩
theorem SD.cE0 (h : SD rows owners x rnd dealer ss us vs) : cE rows owners (sealD rows (x :: rnd) dealer ss us vs) = 0 := cE_ok.2 h.com
theorem SD.right (h : SD rows owners x rnd dealer ss us vs) {i : Nat} (hi : i < rows.length) : RightP (i : Int) (powE 4 (us i)) (cipV (us i) (powE 4 (ss i)) dealer (i : Int) (vs i)) :=
  ⟨by have := h.ok.prog.few; omega, el_powE el_four _, by have := cipV_num (us i) (powE 4 (ss i)) dealer (i : Int) (vs i); omega⟩
theorem SD.fit (h : SD rows owners x rnd dealer ss us vs) {i : Nat} (hi : i < rows.length) {v : Int} (hv : 0 ≤ v ∧ v < 1073741789) :
    fitV rows (sealD rows (x :: rnd) dealer ss us vs) (i : Int) v = decide (v = prodQ (rows.getD i []) (x :: rnd)) := by
  rw [← fitB_com h.com ⟨by omega, by rw [sealD_len]; omega⟩ hv]
  exact (fit_deal h.ok h.p0 hi hv).2
theorem SD.open0 (h : SD rows owners x rnd dealer ss us vs) {i : Nat} (hi : i < rows.length) {s : Int} (hs : 1 ≤ s ∧ s ≤ 1073741788) :
    mkE rows owners s (sealD rows (x :: rnd) dealer ss us vs) (i : Int) = 0 := by
  unfold mkE
  rw [if_neg (by simp [h.cE0]), if_neg (by rw [inB_iff.2 hs]; decide), if_neg (by rw [sealD_len]; omega), sealD_par hi]
  exact openE_ok.2 ⟨hs, h.dl, h.right hi⟩
theorem SD.mkV (h : SD rows owners x rnd dealer ss us vs) {i : Nat} (hi : i < rows.length) : mkV (ss i) (sealD rows (x :: rnd) dealer ss us vs) (i : Int) = vs i := by
  unfold Proofs.YtggnipkfliompaaGreatDoor.mkV
  rw [sealD_par hi]
  show opnV (powE (powE 4 (us i)) (ss i)) dealer (i : Int) (cipV (us i) (powE 4 (ss i)) dealer (i : Int) (vs i)) = vs i
  rw [point_key, opnV_cipV (h.hv i hi)]
theorem SD.mkB (h : SD rows owners x rnd dealer ss us vs) {i : Nat} (hi : i < rows.length) : mkB rows owners (ss i) (sealD rows (x :: rnd) dealer ss us vs) (i : Int) = !decide (vs i = prodQ (rows.getD i []) (x :: rnd)) := by
  unfold Proofs.YtggnipkfliompaaGreatDoor.mkB
  rw [h.open0 hi (h.hs i hi), h.mkV hi, h.fit hi (by have := h.hv i hi; omega)]; rfl
/-- What the owner of a row hands over. -/
def ownD (us ss : Nat → Int) (i : Nat) : Int := powE (powE 4 (us i)) (ss i)
def ownC (dealer : Int) (us ss : Nat → Int) (i : Nat) : Cmp := ⟨dealer, (i : Int), ownD us ss i, prE (ss i) (powE 4 (us i)), prS (ss i) (powE 4 (us i))⟩
theorem SD.mkC (h : SD rows owners x rnd dealer ss us vs) {i : Nat} (hi : i < rows.length) (hw : vs i ≠ prodQ (rows.getD i []) (x :: rnd)) : mkC rows owners (ss i) (sealD rows (x :: rnd) dealer ss us vs) (i : Int) = ownC dealer us ss i := by
  unfold Proofs.YtggnipkfliompaaGreatDoor.mkC
  rw [h.mkB hi, decide_eq_false hw, if_pos (show (!false) = true from rfl), sealD_par hi]; rfl
theorem SD.stE0 (h : SD rows owners x rnd dealer ss us vs) {i : Nat} (hi : i < rows.length) (key : Int) (c : Cmp) (hd : c.dealer = dealer) (hr : c.row = (i : Int)) :
    stE rows owners key (sealD rows (x :: rnd) dealer ss us vs) c = 0 := by
  unfold stE
  rw [if_neg (by simp [h.cE0]), if_neg (by rw [sealD_len, hd, hr]; show ¬ (dealer ≠ dealer ∨ _); omega), hr, sealD_par hi]
  by_cases hc : chkB key (sealP dealer ss us vs i).2.1 c.D c.E c.S = false
  · rw [if_pos hc]
  · rw [if_neg hc]
    exact withE_ok.2 ⟨(chkB_el (by simpa using hc)).2.2, h.dl, h.right hi⟩
theorem SD.stG (h : SD rows owners x rnd dealer ss us vs) {i : Nat} (hi : i < rows.length) (key : Int) (c : Cmp) (hd : c.dealer = dealer) (hr : c.row = (i : Int)) :
    stG rows owners key (sealD rows (x :: rnd) dealer ss us vs) c = if chkB key (powE 4 (us i)) c.D c.E c.S = false then 2 else if decide (opnV c.D dealer (i : Int) (cipV (us i) (powE 4 (ss i)) dealer (i : Int) (vs i)) = prodQ (rows.getD i []) (x :: rnd)) = true then 2 else 1 := by
  unfold Proofs.YtggnipkfliompaaGreatDoor.stG
  rw [if_neg (by simp [h.stE0 hi key c hd hr]), hr, sealD_par hi]
  show (if chkB key (powE 4 (us i)) c.D c.E c.S = false then (2 : Int) else if fitV rows _ (i : Int) (opnV c.D dealer (i : Int) (cipV (us i) (powE 4 (ss i)) dealer (i : Int) (vs i))) = true then 2 else 1) = _
  rw [h.fit hi (opnV_num _ _ _ _)]
theorem own_chk (i : Nat) : chkB (powE 4 (ss i)) (powE 4 (us i)) (ownD us ss i) (prE (ss i) (powE 4 (us i))) (prS (ss i) (powE 4 (us i))) = true := chkB_honest (el_powE el_four _) _
/-- Who hands over the right element settles by the value. -/
theorem SD.own (h : SD rows owners x rnd dealer ss us vs) {i : Nat} (hi : i < rows.length) (key : Int) (c : Cmp) (hd : c.dealer = dealer) (hr : c.row = (i : Int)) (hD : c.D = ownD us ss i) :
    Proofs.YtggnipkfliompaaGreatDoor.stG rows owners key (sealD rows (x :: rnd) dealer ss us vs) c = if chkB key (powE 4 (us i)) c.D c.E c.S = false then 2 else if decide (vs i = prodQ (rows.getD i []) (x :: rnd)) = true then 2 else 1 := by
  rw [h.stG hi key c hd hr, hD]
  show (if _ = false then (2 : Int) else if decide (opnV (powE (powE 4 (us i)) (ss i)) dealer (i : Int) (cipV (us i) (powE 4 (ss i)) dealer (i : Int) (vs i)) = _) = true then 2 else 1) = _
  rw [point_key, opnV_cipV (h.hv i hi)]
end

/-- The examples. -/
def R36 : List (List Int) := [[1, 1], [1, 2]]
def O36 : List Int := [0, 1]
def ss36 (i : Nat) : Int := if i = 0 then 11 else 13
def us36 (i : Nat) : Int := 17 + (i : Int)
def vs36 (row by' : Int) (i : Nat) : Int := (5 + 7 * ((i : Int) + 1)) + if (i : Int) = row then by' else 0
def D36 (row by' : Int) : Dlg := sealD R36 [5, 7] 3 ss36 us36 (vs36 row by')
theorem sd36 (row by' : Int) (hb : 0 ≤ by' ∧ by' ≤ 1) : SD R36 O36 5 [7] 3 ss36 us36 (vs36 row by') where
  ok := ⟨progE_ok (by decide), by omega, by decide, by decide⟩
  p0 := by decide
  dl := by omega
  hs i _ := by unfold ss36; split <;> omega
  hu i hi := by have : i < 2 := hi; unfold us36; omega
  hv i hi := by have : i < 2 := hi; unfold vs36; split <;> omega

theorem ex_row (i : Nat) (h : i < 2) : prodQ (R36.getD i []) [5, 7] = 5 + 7 * ((i : Int) + 1) := by
  match i, h with
  | 0, _ => decide
  | 1, _ => decide
theorem ex_mk1 : mkE R36 O36 11 (D36 0 0) 0 = 0 ∧ mkB R36 O36 11 (D36 0 0) 0 = false := by
  have h := sd36 0 0 (by omega)
  exact ⟨h.open0 (i := 0) (by decide) (by omega), (h.mkB (i := 0) (by decide)).trans (by rw [ex_row 0 (by decide)]; decide)⟩
theorem ex_mk2 : mkE R36 O36 13 (D36 1 1) 1 = 0 ∧ mkB R36 O36 13 (D36 1 1) 1 = true ∧ mkC R36 O36 13 (D36 1 1) 1 = ownC 3 us36 ss36 1 := by
  have h := sd36 1 1 (by omega)
  have hne : vs36 1 1 1 ≠ prodQ (R36.getD 1 []) [5, 7] := by rw [ex_row 1 (by decide)]; decide
  exact ⟨h.open0 (i := 1) (by decide) (by omega), (h.mkB (i := 1) (by decide)).trans (by rw [decide_eq_false hne]; rfl), h.mkC (i := 1) (by decide) hne⟩
theorem ex_mk3 : mkE R36 O36 0 (D36 0 0) 0 = 110 := by
  unfold mkE
  rw [if_neg (by have := (sd36 0 0 (by omega)).cE0; simp [D36, this]), if_pos (by decide)]
theorem ex_mk4 : mkE R36 O36 1 (D36 0 0) 2 = 1 := by
  unfold mkE
  rw [if_neg (by have := (sd36 0 0 (by omega)).cE0; simp [D36, this]), if_neg (by decide), if_pos]
  unfold D36; rw [sealD_len]; decide
theorem ex_mk5 : mkE R36 O36 0 ⟨0, [], []⟩ 0 = 360 := by
  have h : cE R36 O36 ⟨0, [], []⟩ = 360 := by
    unfold cE
    rw [if_neg (by decide), if_neg]
    unfold comQ
    rw [show decide (([] : List Pcl).length = R36.length) = false from rfl]
    simp
  unfold mkE
  rw [h]; rfl
theorem ex_st1 : stE R36 O36 (powE 4 13) (D36 1 1) (ownC 3 us36 ss36 1) = 0 ∧ stG R36 O36 (powE 4 13) (D36 1 1) (ownC 3 us36 ss36 1) = 1 := by
  have h := sd36 1 1 (by omega)
  refine ⟨h.stE0 (i := 1) (by decide) _ _ rfl rfl, (h.own (i := 1) (by decide) (powE 4 13) (ownC 3 us36 ss36 1) rfl rfl rfl).trans ?_⟩
  rw [if_neg, if_neg]
  · rw [ex_row 1 (by decide)]; decide
  · have := own_chk (ss := ss36) (us := us36) 1
    rw [show (ss36 1) = 13 from rfl] at this
    show ¬ chkB (powE 4 13) (powE 4 (us36 1)) (ownD us36 ss36 1) (prE 13 (powE 4 (us36 1))) (prS 13 (powE 4 (us36 1))) = false
    rw [this]; decide
theorem ex_st2 : stE R36 O36 (powE 4 13) (D36 0 0) (ownC 3 us36 ss36 1) = 0 ∧ stG R36 O36 (powE 4 13) (D36 0 0) (ownC 3 us36 ss36 1) = 2 := by
  have h := sd36 0 0 (by omega)
  refine ⟨h.stE0 (i := 1) (by decide) _ _ rfl rfl, (h.own (i := 1) (by decide) (powE 4 13) (ownC 3 us36 ss36 1) rfl rfl rfl).trans ?_⟩
  rw [if_pos (show decide (vs36 0 0 1 = prodQ (R36.getD 1 []) [5, 7]) = true by rw [ex_row 1 (by decide)]; decide)]
  split <;> rfl
theorem ex_st3 : stE R36 O36 (powE 4 13) (D36 0 0) ⟨3, 2, 0, 0, 0⟩ = 360 := by
  unfold stE
  rw [if_neg (by have := (sd36 0 0 (by omega)).cE0; simp [D36, this]), if_pos]
  right; right; unfold D36; rw [sealD_len]; decide
theorem ex_st4 : stE R36 O36 (powE 4 13) (D36 0 0) ⟨4, 0, 0, 0, 0⟩ = 360 := by
  unfold stE
  rw [if_neg (by have := (sd36 0 0 (by omega)).cE0; simp [D36, this]), if_pos]
  left; show (4 : Int) ≠ 3; decide

end Go.Proofs.YtggnipkfliompaaGreatDoor
