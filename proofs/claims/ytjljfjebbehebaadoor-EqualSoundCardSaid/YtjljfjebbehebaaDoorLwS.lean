/- EqualSound: two answers to one commitment show the exponent. -/
import Derived.Test.YtjljfjebbehebaaDoorLwP
import Derived.Test.YtjljfjebbehebaaDoorLwA
namespace Go.Proofs.YtjljfjebbehebaaDoor
open Go.RowKit FP

set_option maxRecDepth 100000 in
set_option maxHeartbeats 4000000 in
theorem sound_any (key a d E S F T : Int) (w : World) (hk : R64 key) (ha : R64 a) (hd : R64 d) (hE : R64 E) (hS : R64 S) (hF : R64 F) (hT : R64 T) (hG : Glob w) :
    Calls Tryd.prog 4 #[.int .i64 key, .int .i64 a, .int .i64 d, .agg #[.int .i64 E, .int .i64 S], .agg #[.int .i64 F, .int .i64 T]] w fun e w' => e = .returned (.bool true) ∧ Below w.heap.size w w' := by
  obtain ⟨hb1, c0, c1⟩ := cell_agg2 w E S 23
  have HB1 := Lib.hid hb1
  obtain ⟨hb2, d0, d1⟩ := cell_agg2 (w.alloc (.cells #[.int .i64 E, .int .i64 S] 23)) F T 23
  have HB2 := Lib.hid (HB1.out.trans (hb2.mono HB1.out.size))
  have c2 := below_cell hb2 c0
  have c3 := below_cell hb2 c1
  have hG2 := hG.below HB2.out
  have hz : (w.alloc (.cells #[.int .i64 E, .int .i64 S] 23)).heap.size = w.heap.size + 1 := by simp [go_sem]
  rw [hz] at d0 d1
  clear hb1 hb2 c0 c1 hz
  go_enter Tryd.func4, Tryd.ntmps4
  go_wp2_with fail
  with_reducible refine (sane12_any _ hG2).mono ?_
  rintro e w3 ⟨rfl, hb3⟩
  have c4 := below_cell hb3 c2
  have c5 := below_cell hb3 c3
  have d2 := below_cell hb3 d0
  have d3 := below_cell hb3 d1
  have HB3 := Lib.hid (HB2.out.trans (hb3.mono HB2.out.size))
  clear c2 c3 d0 d1 hb3 hG2
  go_wp2_with fail
  with_reducible refine (formed12_any key a d E S _ hk ha hd hE hS).mono ?_
  rintro e w4 ⟨rfl, hb4⟩
  have c6 := below_cell hb4 c4
  have c7 := below_cell hb4 c5
  have d4 := below_cell hb4 d2
  have d5 := below_cell hb4 d3
  have HB4 := Lib.hid (HB3.out.trans (hb4.mono HB3.out.size))
  clear c4 c5 d2 d3 hb4
  cases e1 : formB key a d E S with
  | false =>
    clear e1
    go_wp2_with fail
    go_ret
    exact ⟨rfl, HB4.out⟩
  | true =>
  have HF1 := Lib.hid (form_iff.1 e1)
  clear e1
  go_wp2_with fail
  with_reducible refine (formed12_any key a d F T _ hk ha hd hF hT).mono ?_
  rintro e w5 ⟨rfl, hb5⟩
  have c8 := below_cell hb5 c6
  have c9 := below_cell hb5 c7
  have d6 := below_cell hb5 d4
  have d7 := below_cell hb5 d5
  have HB5 := Lib.hid (HB4.out.trans (hb5.mono HB4.out.size))
  clear c6 c7 d4 d5 hb5
  cases e1 : formB key a d F T with
  | false =>
    clear e1
    go_wp2_with fail
    go_ret
    exact ⟨rfl, HB5.out⟩
  | true =>
  have HF2 := Lib.hid (form_iff.1 e1)
  clear e1
  by_cases heq : E = F
  · subst heq
    go_wp2_with fail
    go_ret
    exact ⟨rfl, HB5.out⟩
  have hbe : (E == F) = false := by simpa using heq
  have HEQ := Lib.hid heq
  clear heq
  go_wp2_with fail
  obtain ⟨r, hr⟩ : ∃ r, r = rE key E S := ⟨_, rfl⟩
  obtain ⟨s, hs⟩ : ∃ s, s = sE a d E S := ⟨_, rfl⟩
  obtain ⟨u, hu⟩ : ∃ u, u = rE key F T := ⟨_, rfl⟩
  obtain ⟨v, hv⟩ : ∃ v, v = sE a d F T := ⟨_, rfl⟩
  have HC1 := Lib.hid (fun w => commits12_any key a d E S w HF1.out)
  have HC2 := Lib.hid (fun w => commits12_any key a d F T w HF2.out)
  rw [← hr, ← hs] at HC1
  rw [← hu, ← hv] at HC2
  have HR := Lib.hid hr
  have HS := Lib.hid hs
  have HU := Lib.hid hu
  have HV := Lib.hid hv
  clear hr hs hu hv
  with_reducible refine (HC1.out _).mono ?_
  rintro e w6 ⟨rfl, hb6⟩
  have c10 := below_cell hb6 c8
  have c11 := below_cell hb6 c9
  have d8 := below_cell hb6 d6
  have d9 := below_cell hb6 d7
  have HB6 := Lib.hid (HB5.out.trans (hb6.mono HB5.out.size))
  clear c8 c9 d6 d7 hb6
  go_wp2_with fail
  with_reducible refine (HC2.out _).mono ?_
  rintro e w7 ⟨rfl, hb7⟩
  have c12 := below_cell hb7 c10
  have c13 := below_cell hb7 c11
  have d10 := below_cell hb7 d8
  have d11 := below_cell hb7 d9
  have HB7 := Lib.hid (HB6.out.trans (hb7.mono HB6.out.size))
  clear c10 c11 d8 d9 hb7
  by_cases hru : r = u
  case neg =>
    have q1 : (r != u) = true := bne_iff_ne.2 hru
    go_wp2_with fail
    go_ret
    exact ⟨rfl, HB7.out⟩
  by_cases hsv : s = v
  case neg =>
    have q1 : (r != u) = false := by simpa using hru
    have q2 : (s != v) = true := bne_iff_ne.2 hsv
    go_wp2_with fail
    go_ret
    exact ⟨rfl, HB7.out⟩
  subst hru hsv
  have HRR := Lib.hid (HR.out.symm.trans HU.out)
  have HSS := Lib.hid (HS.out.symm.trans HV.out)
  clear HR HS HU HV
  obtain ⟨fE, fS⟩ := HF1.out.r64E
  have f1 := HF1.out.E
  have f2 := HF1.out.S
  have f3 := HF2.out.E
  have f4 := HF2.out.S
  obtain ⟨f5, f6⟩ := f1
  obtain ⟨f7, f8⟩ := f2
  obtain ⟨f9, f10⟩ := f3
  obtain ⟨f11, f12⟩ := f4
  have t1 := Int.tmod_eq_emod_of_nonneg (a := E - F + 1073741789) (b := 1073741789) (by omega)
  have t2 := Int.tmod_eq_emod_of_nonneg (a := S - T + 1073741789) (b := 1073741789) (by omega)
  go_wp2_with fail
  have HI := Lib.hid (inv_pow (diff_ne HF1.out.E HF2.out.E HEQ.out))
  obtain ⟨n, hn⟩ : ∃ n, n = (E - F) % 1073741789 := ⟨_, rfl⟩
  have hn1 : 0 ≤ n ∧ n < 1073741789 := by omega
  rw [← hn] at HI
  rw [← hn]
  have HNN := Lib.hid hn
  clear hn t1
  go_loop [16, 17, 18] (fun c l s => ∃ (s' c' : Int) (k : Nat), s = .int .i64 s' ∧ l = .int .i64 k ∧ c = .int .i64 c' ∧ k ≤ 1073741787 ∧ (0 ≤ s' ∧ s' < 1073741789) ∧ (0 ≤ c' ∧ c' < 1073741789) ∧ Hid ((c' * s' ^ k) % 1073741789 = n ^ (1073741787 : Nat) % 1073741789)) (fun _ l _ => (intOf l).toNat)
  case atStart => exact ⟨n, 1, 1073741787, rfl, rfl, rfl, Nat.le_refl _, hn1, by omega, Lib.hid (by rw [Int.one_mul])⟩
  case round =>
    obtain ⟨s', c', k, rfl, rfl, rfl, hk, hs, hc, HP⟩ := hrel
    have hss := mq_prod hs hs
    have hcs := mq_prod hc hs
    have hsn := mq_num (s' * s')
    have hcn := mq_num (c' * s')
    have hs2 := hs
    have hc2 := hc
    obtain ⟨s1, s2⟩ := hs
    obtain ⟨c1, c2⟩ := hc
    obtain ⟨q1, q2⟩ := hss
    obtain ⟨q3, q4⟩ := hcs
    by_cases h0 : k = 0
    · subst h0
      have hcv : c' = n ^ (1073741787 : Nat) % 1073741789 := by rw [← HP.out, Int.pow_zero, Int.mul_one, Int.emod_eq_of_lt c1 c2]
      rw [← hcv] at HI
      obtain ⟨p1, p2⟩ := mq_prod (mq_num (S - T)) hc2
      obtain ⟨x, hx⟩ : ∃ x, x = (S - T) % 1073741789 * c' % 1073741789 := ⟨_, rfl⟩
      rw [HNN.out] at HI
      have g1 : powE 4 x = key := found el_four HF1.out.k HRR.out HI.out hx
      have g2 : powE a x = d := found HF1.out.a HF1.out.d HSS.out HI.out hx
      have hx64 : R64 x := ⟨by omega, by omega⟩
      have HP1 := Lib.hid (fun w => power12_any 4 x w el_four hx64)
      have HP2 := Lib.hid (fun w => power12_any a x w HF1.out.a hx64)
      rw [g1] at HP1
      rw [g2] at HP2
      have HX := Lib.hid hx.symm
      clear g1 g2 hx hcv HI HP
      go_wp2_with fail
      rw [HX.out]
      with_reducible refine (HP1.out _).mono ?_
      rintro e w8 ⟨rfl, hb8⟩
      have HB8 := Lib.hid (HB7.out.trans (hb8.mono HB7.out.size))
      clear hb8
      go_wp2_with fail
      try rw [HX.out]
      with_reducible refine (HP2.out _).mono ?_
      rintro e w9 ⟨rfl, hb9⟩
      have HB9 := Lib.hid (HB8.out.trans (hb9.mono HB8.out.size))
      clear hb9
      go_wp2_with fail
      go_ret
      exact ⟨rfl, HB9.out⟩
    · have hk0 : decide ((k : Int) > 0) = true := by simp; omega
      rcases Nat.mod_two_eq_zero_or_one k with h2 | h2
      · have hk2 : ((k : Int) % 2 == 1) = false := by rw [beq_eq_false_iff_ne]; omega
        go_wp2
        go_round
        case rel => exact ⟨(s' * s') % 1073741789, c', k / 2, rfl, by go_num, rfl, by omega, hsn, hc2, Lib.hid (by rw [mq_even c' s' k h2]; exact HP.out)⟩
        case measure => simp [intOf]; omega
      · have hk2 : ((k : Int) % 2 == 1) = true := by rw [beq_iff_eq]; omega
        go_wp2
        go_round
        case rel => exact ⟨(s' * s') % 1073741789, (c' * s') % 1073741789, k / 2, rfl, by go_num, rfl, by omega, hsn, hcn, Lib.hid (by rw [mq_odd c' s' k h2]; exact HP.out)⟩
        case measure => simp [intOf]; omega

end Go.Proofs.YtjljfjebbehebaaDoor
