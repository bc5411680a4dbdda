/- EqualProves: what Prove returns is right; with another d it commits to something else. -/
import Derived.Test.YtjljfjebbehebaaDoorSaneE
namespace Go.Proofs.YtjljfjebbehebaaDoor
open Go.RowKit FP

theorem powE_inj {a b n : Int} (ha : El a) (hb : El b) (hn : n % 1073741789 ≠ 0) (h : powE a n = powE b n) : a = b := by
  have h2 := inv_ex hn
  have h3 : powE (powE a n) (powR n 1073741787) = powE (powE b n) (powR n 1073741787) := by rw [h]
  rw [powE_mul ha, powE_mul hb, Int.mul_comm, powE_same (n := 1) (by rw [h2]; rfl), powE_1 ha, powE_same (a := b) (n := 1) (by rw [h2]; rfl), powE_1 hb] at h3
  exact h3
theorem sE_ne {a d o E : Int} (S : Int) (ha : El a) (hd : El d) (ho : El o) (hE : 0 ≤ E ∧ E < 1073741789) (h0 : E ≠ 0) (h : o ≠ d) : sE a d E S ≠ sE a o E S := by
  intro e
  unfold sE at e
  rw [el_comm, el_comm (powE a S)] at e
  have e2 := el_cancel (el_powE hd _) (el_powE ho _) (el_powE ha S) e
  exact h (powE_inj hd ho (by omega) e2).symm
theorem form_val (key a d E S : Int) (h : Form key a d E S) (w : World) :
    Calls Tryd.prog 13 #[.int .i64 key, .int .i64 a, .int .i64 d, .agg #[.int .i64 E, .int .i64 S]] w fun e w' => e = .returned (.bool true) ∧ Below w.heap.size w w' := by
  have := formed12_any key a d E S w h.k.r64 h.a.r64 h.d.r64 ⟨by have := h.E; omega, by have := h.E; omega⟩ ⟨by have := h.S; omega, by have := h.S; omega⟩
  rw [form_iff.2 h] at this
  exact this
theorem honest_form {a : Int} (ha : El a) (x : Int) : Form (powE 4 x) a (powE a x) (prE x a) (prS x a) := ⟨el_powE el_four x, ha, el_powE ha x, prE_num x a, prS_num x a⟩
theorem Form.r64E {key a d E S : Int} (h : Form key a d E S) : R64 E ∧ R64 S := ⟨⟨by have := h.E; omega, by have := h.E; omega⟩, ⟨by have := h.S; omega, by have := h.S; omega⟩⟩
theorem honest_check {a : Int} (ha : El a) (x : Int) (w : World) (hG : Glob w) :
    Calls Tryd.prog 11 #[.int .i64 (powE 4 x), .int .i64 a, .int .i64 (powE a x), .agg #[.int .i64 (prE x a), .int .i64 (prS x a)]] w fun e w' => e = .returned (.bool true) ∧ Below w.heap.size w w' :=
  check_val true _ _ _ _ _ (el_powE el_four x).r64 ha.r64 (el_powE ha x).r64 (honest_form ha x).r64E.1 (honest_form ha x).r64E.2 (chkB_honest ha x) w hG

set_option maxRecDepth 100000 in
set_option maxHeartbeats 2000000 in
theorem proves_any (x a o : Int) (w : World) (hx : R64 x) (ha : R64 a) (ho : R64 o) (hG : Glob w) :
    Calls Tryd.prog 5 #[.int .i64 x, .int .i64 a, .int .i64 o] w fun e w' => e = .returned (.bool true) ∧ Below w.heap.size w w' := by
  by_cases h1 : x < 1 ∨ 1073741789 ≤ x
  · go_enter Tryd.func5, Tryd.ntmps5
    go_wp2_with fail
    with_reducible refine (sane12_any _ hG).mono ?_
    rintro e w1 ⟨rfl, hb1⟩
    go_wp2_with fail
    with_reducible refine (prove_key x a _ h1 hx).mono ?_
    rintro e w2 ⟨rfl, hb2⟩
    have hB := hb1.trans (hb2.mono hb1.size)
    have hb3 := below_new w2 #[.int .i64 0, .int .i64 0] 23
    have HB := Lib.hid (hB.trans (hb3.mono hB.size))
    clear hb1 hb2 hB hb3
    rcases h1 with h1 | h1
    · go_wp2_with fail
      go_ret
      exact ⟨rfl, HB.out⟩
    · have h2 : ¬ x < 1 := by omega
      go_wp2_with fail
      go_ret
      exact ⟨rfl, HB.out⟩
  · have h2 : 1 ≤ x := by omega
    have h3 : x < 1073741789 := by omega
    clear h1
    by_cases hel : El a
    · have HF := Lib.hid (honest_form hel x)
      have HC := Lib.hid (honest_check hel x)
      have HP := Lib.hid (fun w => prove_yes x a w h2 h3 hel)
      have HP1 := Lib.hid (fun w => power12_any 4 x w el_four hx)
      have HP2 := Lib.hid (fun w => power12_any a x w hel hx)
      generalize powE 4 x = key at *
      generalize powE a x = d at *
      generalize prE x a = EE at *
      generalize prS x a = SS at *
      clear h2 h3
      go_enter Tryd.func5, Tryd.ntmps5
      go_wp2_with fail
      with_reducible refine (sane12_any _ hG).mono ?_
      rintro e w1 ⟨rfl, hb1⟩
      have hg1 := hG.below hb1
      have HB1 := Lib.hid hb1
      clear hb1
      go_wp2_with fail
      with_reducible refine (HP.out _ hg1).mono ?_
      rintro e w2 ⟨rfl, hb2⟩
      have hg2 := hg1.below hb2
      have HB2 := Lib.hid (HB1.out.trans (hb2.mono HB1.out.size))
      clear hb2 hg1
      obtain ⟨hb3, c0, c1⟩ := cell_agg2 w2 EE SS 23
      have hg3 := hg2.below hb3
      have HB3 := Lib.hid (HB2.out.trans (hb3.mono HB2.out.size))
      clear hb3 hg2
      go_wp2_with fail
      with_reducible refine (HP1.out _).mono ?_
      rintro e w4 ⟨rfl, hb4⟩
      have c2 := below_cell hb4 c0
      have c3 := below_cell hb4 c1
      have hg4 := hg3.below hb4
      have HB4 := Lib.hid (HB3.out.trans (hb4.mono HB3.out.size))
      clear c0 c1 hb4 hg3
      go_wp2_with fail
      with_reducible refine (HP2.out _).mono ?_
      rintro e w5 ⟨rfl, hb5⟩
      have c4 := below_cell hb5 c2
      have c5 := below_cell hb5 c3
      have hg5 := hg4.below hb5
      have HB5 := Lib.hid (HB4.out.trans (hb5.mono HB4.out.size))
      clear c2 c3 hb5 hg4
      go_wp2_with fail
      with_reducible refine (form_val key a d EE SS HF.out _).mono ?_
      rintro e w6 ⟨rfl, hb6⟩
      have c6 := below_cell hb6 c4
      have c7 := below_cell hb6 c5
      have hg6 := hg5.below hb6
      have HB6 := Lib.hid (HB5.out.trans (hb6.mono HB5.out.size))
      clear c4 c5 hb6 hg5
      go_wp2_with fail
      with_reducible refine (HC.out _ hg6).mono ?_
      rintro e w7 ⟨rfl, hb7⟩
      have c8 := below_cell hb7 c6
      have c9 := below_cell hb7 c7
      have HB7 := Lib.hid (HB6.out.trans (hb7.mono HB6.out.size))
      clear c6 c7 hb7 hg6
      go_wp2_with fail
      with_reducible refine (rvalid_any _ _ ho).mono ?_
      rintro e w8 ⟨rfl, rfl⟩
      cases e1 : elB o with
      | false =>
        clear e1
        go_wp2_with fail
        go_ret
        exact ⟨rfl, HB7.out⟩
      | true =>
        have HO := Lib.hid (elB_iff.1 e1)
        clear e1
        by_cases e2 : o = d
        · go_wp2_with fail
          go_ret
          exact ⟨rfl, HB7.out⟩
        · by_cases e3 : EE = 0
          · go_wp2_with fail
            go_ret
            exact ⟨rfl, HB7.out⟩
          · have HN := Lib.hid (sE_ne SS HF.out.a HF.out.d HO.out HF.out.E e3 e2)
            have HF2 := Lib.hid (show Form key a o EE SS from ⟨HF.out.k, HF.out.a, HO.out, HF.out.E, HF.out.S⟩)
            go_wp2_with fail
            · exfalso
              rename_i hh
              rcases hh with h | h
              · simp [e2] at h
              · simp [e3] at h
            with_reducible refine (commits12_any key a d EE SS _ HF.out).mono ?_
            rintro e w9 ⟨rfl, hb9⟩
            have d0 := below_cell hb9 c8
            have d1 := below_cell hb9 c9
            have HB9 := Lib.hid (HB7.out.trans (hb9.mono HB7.out.size))
            clear c8 c9 hb9
            go_wp2_with fail
            with_reducible refine (commits12_any key a o EE SS _ HF2.out).mono ?_
            rintro e w10 ⟨rfl, hb10⟩
            go_wp2_with fail
            go_ret
            exact ⟨ret_bool (bne_iff_ne.2 HN.out), HB9.out.trans (hb10.mono HB9.out.size)⟩
    · have he := Lib.hid (elB_false.2 hel)
      have HP := Lib.hid (fun w => prove_group x a w h2 h3 ha hel)
      have h4 : ¬ x < 1 := by omega
      have h5 : ¬ 1073741789 ≤ x := by omega
      clear hel h2 h3
      go_enter Tryd.func5, Tryd.ntmps5
      go_wp2_with fail
      with_reducible refine (sane12_any _ hG).mono ?_
      rintro e w1 ⟨rfl, hb1⟩
      go_wp2_with fail
      with_reducible refine (HP.out _).mono ?_
      rintro e w2 ⟨rfl, hb2⟩
      have hB := hb1.trans (hb2.mono hb1.size)
      have hb3 := below_new w2 #[.int .i64 0, .int .i64 0] 23
      have HB := Lib.hid (hB.trans (hb3.mono hB.size))
      clear hb1 hb2 hB hb3
      go_wp2_with fail
      with_reducible refine (rvalid_any _ _ ha).mono ?_
      rintro e w3 ⟨rfl, rfl⟩
      rw [he.out]
      go_wp2_with fail
      go_ret
      exact ⟨rfl, HB.out⟩

end Go.Proofs.YtjljfjebbehebaaDoor
