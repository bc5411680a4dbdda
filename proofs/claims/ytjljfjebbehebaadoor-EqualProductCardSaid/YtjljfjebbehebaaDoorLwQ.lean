/- EqualProduct: the power of a product is the product of the powers, and all three are proved. -/
import Derived.Test.YtjljfjebbehebaaDoorLwP
namespace Go.Proofs.YtjljfjebbehebaaDoor
open Go.RowKit FP

/-- Whatever it is asked, Prove answers. -/
theorem prove_some (x a : Int) (w : World) (hx : R64 x) (ha : R64 a) (hG : Glob w) :
    Calls Tryd.prog 9 #[.int .i64 x, .int .i64 a] w fun e w' => ∃ d E S err : Int, e = .returned (.tuple #[.int .i64 d, .agg #[.int .i64 E, .int .i64 S], .int .i64 err]) ∧ Below w.heap.size w w' := by
  by_cases h1 : x < 1 ∨ 1073741789 ≤ x
  · exact (prove_key x a w h1 hx).mono fun e w' h => ⟨_, _, _, _, h⟩
  · by_cases h2 : El a
    · exact (prove_yes x a w (by omega) (by omega) h2 hG).mono fun e w' h => ⟨_, _, _, _, h⟩
    · exact (prove_group x a w (by omega) (by omega) ha h2).mono fun e w' h => ⟨_, _, _, _, h⟩

set_option maxRecDepth 100000 in
set_option maxHeartbeats 2000000 in
theorem product_any (x a b : Int) (w : World) (hx : R64 x) (ha : R64 a) (hb : R64 b) (hG : Glob w) :
    Calls Tryd.prog 6 #[.int .i64 x, .int .i64 a, .int .i64 b] w fun e w' => e = .returned (.bool true) ∧ Below w.heap.size w w' := by
  by_cases hbad : (x < 1 ∨ 1073741789 ≤ x) ∨ ¬ El a
  · obtain ⟨er, her, HP⟩ : ∃ er : Int, (er == 0) = false ∧ Hid (∀ w, Calls Tryd.prog 9 #[.int .i64 x, .int .i64 a] w fun e w' => e = .returned (.tuple #[.int .i64 0, .agg #[.int .i64 0, .int .i64 0], .int .i64 er]) ∧ Below w.heap.size w w') := by
      by_cases h1 : x < 1 ∨ 1073741789 ≤ x
      · exact ⟨110, rfl, Lib.hid fun w => prove_key x a w h1 hx⟩
      · have h2 : ¬ El a := by rcases hbad with h | h; exact absurd h h1; exact h
        exact ⟨100, rfl, Lib.hid fun w => prove_group x a w (by omega) (by omega) ha h2⟩
    have hne : er ≠ 0 := by simpa using her
    clear hbad
    go_enter Tryd.func6, Tryd.ntmps6
    go_wp2_with fail
    with_reducible refine (sane12_any _ hG).mono ?_
    rintro e w1 ⟨rfl, hb1⟩
    have hg1 := hG.below hb1
    go_wp2_with fail
    with_reducible refine (HP.out _).mono ?_
    rintro e w2 ⟨rfl, hb2⟩
    have hb3 := hb1.trans (hb2.mono hb1.size)
    have hb4 := hb3.alloc hb3.size (.cells #[.int .i64 0, .int .i64 0] 23)
    have hg4 := hG.below hb4
    have HB4 := Lib.hid hb4
    clear hb1 hb2 hb3 hb4 hg1
    go_wp2_with fail
    with_reducible refine (prove_some x b _ hx hb hg4).mono ?_
    rintro e w5 ⟨d5, E5, S5, er5, rfl, hb5⟩
    have hb6 := HB4.out.trans (hb5.mono HB4.out.size)
    have hb7 := hb6.alloc hb6.size (.cells #[.int .i64 E5, .int .i64 S5] 23)
    have HB7 := Lib.hid hb7
    clear hb5 hb6 hb7
    go_wp2_with fail
    go_ret
    exact ⟨rfl, HB7.out⟩
  · have h2 : 1 ≤ x := by omega
    have h3 : x < 1073741789 := by omega
    have hel : El a := by by_cases h : El a; exact h; exact absurd (.inr h) hbad
    clear hbad
    have HP := Lib.hid (fun w => prove_yes x a w h2 h3 hel)
    by_cases heb : El b
    · have HP2 := Lib.hid (fun w => prove_yes x b w h2 h3 heb)
      have HP3 := Lib.hid (fun w => prove_yes x (a * b % 2147483579) w h2 h3 (el_mul hel heb))
      have HK := Lib.hid (fun w => power12_any 4 x w el_four hx)
      have HM := Lib.hid (fun w => mul_yes a b w hel heb)
      have HN := Lib.hid (fun w => mul_yes (powE a x) (powE b x) w (el_powE hel x) (el_powE heb x))
      have HC1 := Lib.hid (fun w => honest_check hel x w)
      have HC2 := Lib.hid (fun w => honest_check heb x w)
      have HC3 := Lib.hid (fun w => honest_check (el_mul hel heb) x w)
      rw [powE_prod hel heb] at HC3 HP3
      generalize a * b % 2147483579 = ab at *
      generalize powE a x * powE b x % 2147483579 = cd at *
      generalize powE 4 x = key at *
      generalize powE a x = c at *
      generalize powE b x = d at *
      generalize prE x a = E1 at *
      generalize prS x a = S1 at *
      generalize prE x b = E2 at *
      generalize prS x b = S2 at *
      generalize prE x ab = E3 at *
      generalize prS x ab = S3 at *
      clear h2 h3 hel heb
      go_enter Tryd.func6, Tryd.ntmps6
      go_wp2_with fail
      with_reducible refine (sane12_any _ hG).mono ?_
      rintro e w1 ⟨rfl, hb1⟩
      have hg1 := hG.below hb1
      have HB1 := Lib.hid hb1
      clear hb1
      go_wp2_with fail
      with_reducible refine (HP.out _ hg1).mono ?_
      rintro e w2 ⟨rfl, hb2⟩
      have HB2 := Lib.hid (HB1.out.trans (hb2.mono HB1.out.size))
      clear hb2 hg1
      obtain ⟨hb3, c0, c1⟩ := cell_agg2 w2 E1 S1 23
      have HB3 := Lib.hid (HB2.out.trans (hb3.mono HB2.out.size))
      have hg3 := hG.below HB3.out
      clear hb3
      go_wp2_with fail
      with_reducible refine (HP2.out _ hg3).mono ?_
      rintro e w4 ⟨rfl, hb4⟩
      have HB4 := Lib.hid (HB3.out.trans (hb4.mono HB3.out.size))
      have c2 := below_cell hb4 c0
      have c3 := below_cell hb4 c1
      clear hb4 hg3 c0 c1
      obtain ⟨hb5, d0, d1⟩ := cell_agg2 w4 E2 S2 23
      have HB5 := Lib.hid (HB4.out.trans (hb5.mono HB4.out.size))
      have c4 := below_cell hb5 c2
      have c5 := below_cell hb5 c3
      clear hb5 c2 c3
      go_wp2_with fail
      with_reducible refine (HK.out _).mono ?_
      rintro e w6 ⟨rfl, hb6⟩
      have HB6 := Lib.hid (HB5.out.trans (hb6.mono HB5.out.size))
      have c6 := below_cell hb6 c4
      have c7 := below_cell hb6 c5
      have d2 := below_cell hb6 d0
      have d3 := below_cell hb6 d1
      clear hb6 c4 c5 d0 d1
      go_wp2_with fail
      with_reducible refine (HM.out _).mono ?_
      rintro e w7 ⟨rfl, rfl⟩
      go_wp2_with fail
      with_reducible refine (HN.out _).mono ?_
      rintro e w7 ⟨rfl, rfl⟩
      have hg6 := hG.below HB6.out
      go_wp2_with fail
      with_reducible refine (HP3.out _ hg6).mono ?_
      rintro e w8 ⟨rfl, hb8⟩
      have HB8 := Lib.hid (HB6.out.trans (hb8.mono HB6.out.size))
      have c8 := below_cell hb8 c6
      have c9 := below_cell hb8 c7
      have d4 := below_cell hb8 d2
      have d5 := below_cell hb8 d3
      clear hb8 c6 c7 d2 d3 hg6
      obtain ⟨hb9, k0, k1⟩ := cell_agg2 w8 E3 S3 23
      have HB9 := Lib.hid (HB8.out.trans (hb9.mono HB8.out.size))
      have c10 := below_cell hb9 c8
      have c11 := below_cell hb9 c9
      have d6 := below_cell hb9 d4
      have d7 := below_cell hb9 d5
      have HG9 := Lib.hid (hG.below HB9.out)
      clear hb9
      go_wp2_with fail
      with_reducible refine (HC1.out _ HG9.out).mono ?_
      rintro e w10 ⟨rfl, hb10⟩
      have HB10 := Lib.hid (HB9.out.trans (hb10.mono HB9.out.size))
      have d8 := below_cell hb10 d6
      have d9 := below_cell hb10 d7
      have k2 := below_cell hb10 k0
      have k3 := below_cell hb10 k1
      have HG10 := Lib.hid (hG.below HB10.out)
      clear hb10 c8 c9 c10 c11 d4 d5 d6 d7 k0 k1
      go_wp2_with fail
      with_reducible refine (HC2.out _ HG10.out).mono ?_
      rintro e w11 ⟨rfl, hb11⟩
      have HB11 := Lib.hid (HB10.out.trans (hb11.mono HB10.out.size))
      have k4 := below_cell hb11 k2
      have k5 := below_cell hb11 k3
      have HG11 := Lib.hid (hG.below HB11.out)
      clear hb11 d8 d9 k2 k3
      go_wp2_with fail
      with_reducible refine (HC3.out _ HG11.out).mono ?_
      rintro e w12 ⟨rfl, hb12⟩
      have HB12 := Lib.hid (HB11.out.trans (hb12.mono HB11.out.size))
      go_wp2_with fail
      go_ret
      exact ⟨rfl, HB12.out⟩
    · have HP2 := Lib.hid (fun w => prove_group x b w h2 h3 hb heb)
      generalize powE a x = c at *
      generalize prE x a = E1 at *
      generalize prS x a = S1 at *
      have HE := Lib.hid hel
      clear hel h2 h3
      go_enter Tryd.func6, Tryd.ntmps6
      go_wp2_with fail
      with_reducible refine (sane12_any _ hG).mono ?_
      rintro e w1 ⟨rfl, hb1⟩
      have hg1 := hG.below hb1
      have HB1 := Lib.hid hb1
      clear hb1
      go_wp2_with fail
      with_reducible refine (HP.out _ hg1).mono ?_
      rintro e w2 ⟨rfl, hb2⟩
      have HB2 := Lib.hid (HB1.out.trans (hb2.mono HB1.out.size))
      have HB3 := Lib.hid (HB2.out.alloc HB2.out.size (.cells #[.int .i64 E1, .int .i64 S1] 23))
      clear hb2 hg1
      go_wp2_with fail
      with_reducible refine (HP2.out _).mono ?_
      rintro e w4 ⟨rfl, hb4⟩
      have HB4 := Lib.hid (HB3.out.trans (hb4.mono HB3.out.size))
      have HB5 := Lib.hid (HB4.out.alloc HB4.out.size (.cells #[.int .i64 0, .int .i64 0] 23))
      clear hb4
      go_wp2_with fail
      go_ret
      exact ⟨rfl, HB5.out⟩

end Go.Proofs.YtjljfjebbehebaaDoor
