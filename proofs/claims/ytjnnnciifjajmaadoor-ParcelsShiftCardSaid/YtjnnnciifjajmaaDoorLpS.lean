/- ParcelsShift: one value for each Cipher. -/
import Derived.Test.YtjnnnciifjajmaaDoorLpR
namespace Go.Proofs.YtjnnnciifjajmaaDoor
open Go.RowKit FP

set_option maxRecDepth 100000 in
/-- What With leaves: a value, or 0 and an error; and the same error whatever the Cipher. -/
theorem with_some (d dealer row pt c : Int) (w : World) (hd : R64 d) (hR : RightP row pt c) (hG : Glob w) :
    Calls Tryd.prog 26 #[.int .i64 d, .int .i64 dealer, .agg #[.int .i64 row, .int .i64 pt, .int .i64 c]] w fun r w' => ∃ v e : Int, r = .returned (.tuple #[.int .i64 v, .int .i64 e]) ∧
      e = withE d dealer row pt c ∧ (e = 0 ∧ v = opnV d dealer row c ∨ e ≠ 0 ∧ v = 0) ∧ Below w.heap.size w w' := by
  by_cases h : withE d dealer row pt c = 0
  · obtain ⟨h1, h2, h3⟩ := withE_ok.1 h
    exact (with_yes d dealer row pt c w h1 h2 h3 hG).mono fun r w' ⟨h1, h2⟩ => ⟨_, _, h1, h.symm, .inl ⟨rfl, rfl⟩, h2⟩
  · exact (with_no d dealer row pt c w hd hR.pt.r64 h).mono fun r w' ⟨h1, h2⟩ => ⟨_, _, h1, rfl, .inr ⟨h, rfl⟩, h2⟩
theorem withE_any {d dealer row pt c c' : Int} (h : RightP row pt c) (h' : RightP row pt c') : withE d dealer row pt c = withE d dealer row pt c' := by
  unfold withE; rw [rightB_iff.2 h, rightB_iff.2 h']
theorem sealE_any {u key dealer row c c' : Int} (h : inB c 0 1073741788 = true) (h' : inB c' 0 1073741788 = true) : sealE u key dealer row c = sealE u key dealer row c' := by
  unfold sealE; rw [h, h']

set_option maxRecDepth 100000 in
set_option maxHeartbeats 4000000 in
theorem shift_any (u key d dealer row pt c b : Int) (w : World) (_hu : R64 u) (hk : R64 key) (hd : R64 d) (_hl : R64 dealer) (_hr : R64 row) (hp : R64 pt) (_hc : R64 c) (_hb : R64 b) (hG : Glob w) :
    Calls Tryd.prog 7 #[.int .i64 u, .int .i64 key, .int .i64 d, .int .i64 dealer, .agg #[.int .i64 row, .int .i64 pt, .int .i64 c], .int .i64 b] w fun r w' => r = .returned (.bool true) ∧ Below w.heap.size w w' := by
  obtain ⟨hb0, c0, c1, c2⟩ := cell_agg3 w row pt c 31
  have HB0 := Lib.hid hb0
  have HG0 := Lib.hid (hG.below hb0)
  clear hb0
  go_enter Tryd.func7, Tryd.ntmps7
  go_wp2_with fail
  with_reducible refine (sane35_any _ HG0.out).mono ?_
  rintro r w1 ⟨rfl, hb1⟩
  have x0 := below_cell hb1 c0
  have x1 := below_cell hb1 c1
  have x2 := below_cell hb1 c2
  have HB1 := Lib.hid (HB0.out.trans (hb1.mono HB0.out.size))
  have HG1 := Lib.hid (hG.below HB1.out)
  clear hb1 c0 c1 c2
  go_wp2_with fail
  with_reducible refine (right35_any row pt c _ hp).mono ?_
  rintro r w3 ⟨rfl, hb3⟩
  have y0 := below_cell hb3 x0
  have y1 := below_cell hb3 x1
  have y2 := below_cell hb3 x2
  have HB3 := Lib.hid (HB1.out.trans (hb3.mono HB1.out.size))
  have HG3 := Lib.hid (hG.below HB3.out)
  clear hb3 x0 x1 x2
  cases e3 : rightB row pt c with
  | false =>
    clear e3
    go_wp2_with fail
    go_ret
    exact ⟨rfl, HB3.out⟩
  | true =>
    have HR := Lib.hid (rightB_iff.1 e3)
    clear e3
    go_wp2_with fail
    with_reducible refine (number35_any b _).mono ?_
    rintro r w2 ⟨rfl, rfl⟩
    cases e2 : inB b 0 1073741788 with
    | false =>
      clear e2
      go_wp2_with fail
      go_ret
      exact ⟨rfl, HB3.out⟩
    | true =>
      obtain ⟨b1, b2⟩ := inB_iff.1 e2
      obtain ⟨k1, k2⟩ := HR.out.c
      obtain ⟨c', hc'⟩ : ∃ c', c' = (c + b) % 1073741789 := ⟨_, rfl⟩
      have hcr : 0 ≤ c' ∧ c' ≤ 1073741788 := by omega
      have HR2 : Hid (RightP row pt c') := Lib.hid ⟨HR.out.row, HR.out.pt, hcr⟩
      have HWE := Lib.hid (withE_any (d := d) (dealer := dealer) HR.out HR2.out)
      have HSE := Lib.hid (sealE_any (u := u) (key := key) (dealer := dealer) (row := row) (inB_iff.2 HR.out.c) (inB_iff.2 hcr))
      have HOV : Hid ((opnV d dealer row c + b) % 1073741789 = opnV d dealer row c') := Lib.hid (by unfold opnV; have := padV_num d dealer row; omega)
      have HCV : Hid ((cipV u key dealer row c + b) % 1073741789 = cipV u key dealer row c') := Lib.hid (by unfold cipV; have := padV_num (powE key u) dealer row; omega)
      have HC' := Lib.hid hc'
      obtain ⟨hb4, d0, d1, d2⟩ := cell_agg3 w3 row pt ((c + b) % 1073741789) 31
      have z0 := below_cell hb4 y0
      have z1 := below_cell hb4 y1
      have z2 := below_cell hb4 y2
      obtain ⟨hbo, o0, o1, o2⟩ := cell_agg3 w3 row pt c 31
      have p0 := below_cell hbo y0
      have p1 := below_cell hbo y1
      have p2 := below_cell hbo y2
      obtain ⟨W4, hW4⟩ : ∃ W, W = w3.alloc (.cells #[.int .i64 row, .int .i64 pt, .int .i64 ((c + b) % 1073741789)] 31) := ⟨_, rfl⟩
      have v0 := d0
      have v1 := d1
      have v2 := d2
      have q0 := z0
      have q1 := z1
      have q2 := z2
      have hb5 := hb4
      rw [← hW4] at hb5 z0 z1 z2 v0 v1 v2
      rw [← hc'] at v2
      have HB5 := Lib.hid (HB3.out.trans (hb5.mono HB3.out.size))
      have HG5 := Lib.hid (hG.below HB5.out)
      have HW4 := Lib.hid hW4.symm
      clear e2 hbo hb4 hW4 hb5 hc' hcr
      go_wp2_with fail
      rw [HW4.out]
      clear q0 q1 q2 d0 d1 d2 o0 o1 o2 p0 p1 p2 y0 y1 y2
      with_reducible refine (with_some d dealer row pt c _ hd HR.out HG5.out).mono ?_
      rintro r w6 ⟨v, e, rfl, he, hC, hb6⟩
      have y0 := below_cell hb6 z0
      have y1 := below_cell hb6 z1
      have y2 := below_cell hb6 z2
      have u0 := below_cell hb6 v0
      have u1 := below_cell hb6 v1
      have u2 := below_cell hb6 v2
      have HB6 := Lib.hid (HB5.out.trans (hb6.mono HB5.out.size))
      have HG6 := Lib.hid (hG.below HB6.out)
      have HE := Lib.hid he
      have HCC := Lib.hid hC
      clear hb6 z0 z1 z2 v0 v1 v2 he hC
      go_wp2_with fail
      with_reducible refine (with_some d dealer row pt c' _ hd HR2.out HG6.out).mono ?_
      rintro r w7 ⟨v', e', rfl, he', hC', hb7⟩
      obtain rfl : e = e' := by rw [HE.out, he', HWE.out]
      have z0 := below_cell hb7 y0
      have z1 := below_cell hb7 y1
      have z2 := below_cell hb7 y2
      have t0 := below_cell hb7 u0
      have t1 := below_cell hb7 u1
      have t2 := below_cell hb7 u2
      have HB7 := Lib.hid (HB6.out.trans (hb7.mono HB6.out.size))
      have HG7 := Lib.hid (hG.below HB7.out)
      clear hb7 y0 y1 y2 u0 u1 u2 he'
      -- the two ways of With
      have HX : Hid ((e = 0 ∧ v' = (v + b) % 1073741789 ∧ 0 ≤ v ∧ v < 1073741789) ∨ (e ≠ 0 ∧ v = 0 ∧ v' = 0)) := Lib.hid (by
        rcases HCC.out with ⟨h1, h2⟩ | ⟨h1, h2⟩
        · rcases hC' with ⟨h3, h4⟩ | ⟨h3, h4⟩
          · have := opnV_num d dealer row c
            exact .inl ⟨h1, by rw [h4, h2, HOV.out], by rw [h2]; exact this⟩
          · exact absurd h1 h3
        · rcases hC' with ⟨h3, h4⟩ | ⟨h3, h4⟩
          · exact absurd h3 h1
          · exact .inr ⟨h1, h2, h4⟩)
      clear hC' HCC HE HWE HOV
      rcases HX.out with ⟨rfl, hv, n1, n2⟩ | ⟨he, rfl, rfl⟩
      · have hvb : ((v' != (v + b) % 1073741789)) = false := by rw [hv]; exact bne_self_eq_false _
        clear HX
        have HVB := Lib.hid hv
        clear hv
        go_wp2_with fail
        with_reducible refine (seal_some u key dealer row c _ hk HG7.out).mono ?_
        rintro r w8 ⟨a, p1, s1, e1, rfl, hC, hb8⟩
        obtain ⟨hb9, d0, d1, d2⟩ := cell_agg3 w8 a p1 s1 31
        have y0 := below_cell hb9 (below_cell hb8 z0)
        have y1 := below_cell hb9 (below_cell hb8 z1)
        have y2 := below_cell hb9 (below_cell hb8 z2)
        have u0 := below_cell hb9 (below_cell hb8 t0)
        have u1 := below_cell hb9 (below_cell hb8 t1)
        have u2 := below_cell hb9 (below_cell hb8 t2)
        have HB8 := Lib.hid (HB7.out.trans (hb8.mono HB7.out.size))
        have HB9 := Lib.hid (HB8.out.trans (hb9.mono HB8.out.size))
        have HG9 := Lib.hid (hG.below HB9.out)
        have HCA := Lib.hid hC
        clear hb8 hb9 hC z0 z1 z2 t0 t1 t2
        go_wp2_with fail
        with_reducible refine (seal_some u key dealer row c' _ hk HG9.out).mono ?_
        rintro r w10 ⟨a', p2, s2, e2, rfl, hC2, hb10⟩
        obtain ⟨hb11, k0, k1, k2⟩ := cell_agg3 w10 a' p2 s2 31
        have z0 := below_cell hb11 (below_cell hb10 y0)
        have z1 := below_cell hb11 (below_cell hb10 y1)
        have z2 := below_cell hb11 (below_cell hb10 y2)
        have v0 := below_cell hb11 (below_cell hb10 d0)
        have v1 := below_cell hb11 (below_cell hb10 d1)
        have v2 := below_cell hb11 (below_cell hb10 d2)
        have HB10 := Lib.hid (HB9.out.trans (hb10.mono HB9.out.size))
        have HB11 := Lib.hid (HB10.out.trans (hb11.mono HB10.out.size))
        have HY : Hid ((e1 = 0 ∧ e2 = 0 ∧ a = row ∧ p2 = p1 ∧ s2 = (s1 + b) % 1073741789 ∧ 0 ≤ s1 ∧ s1 < 1073741789) ∨ (e1 ≠ 0 ∧ e1 = e2 ∧ a = 0 ∧ p1 = 0 ∧ s1 = 0 ∧ a' = 0 ∧ p2 = 0 ∧ s2 = 0)) := Lib.hid (by
          rcases HCA.out with ⟨h1, h2, h3, h4, h5⟩ | ⟨h1, h2, h3, h4, h5⟩
          · rcases hC2 with ⟨g1, g2, g3, g4, -⟩ | ⟨g1, -, -, -, g5⟩
            · have := cipV_num u key dealer row c
              exact .inl ⟨h1, g1, h2.symm, g3.symm.trans h3, by rw [← g4, ← h4, HCV.out], by rw [← h4]; exact this⟩
            · rw [← HSE.out] at g5
              exact absurd (g5.trans (sealE_ok.2 h5)) g1
          · rcases hC2 with ⟨g1, -, -, -, g5⟩ | ⟨g1, g2, g3, g4, g5⟩
            · exact absurd (h5.trans (HSE.out.trans (sealE_ok.2 g5))) h1
            · exact .inr ⟨h1, by rw [g5, h5, HSE.out], h2, h3, h4, g2, g3, g4⟩)
        clear hb10 hb11 hC2 HCA y0 y1 y2 u0 u1 u2 d0 d1 d2
        rcases HY.out with ⟨rfl, rfl, h3, rfl, rfl, n3, n4⟩ | ⟨h1, rfl, rfl, rfl, rfl, rfl, rfl, rfl⟩
        · subst h3
          clear HY
          go_wp2_with fail
          go_ret
          exact ⟨rfl, HB11.out⟩
        · have m1 : (e1 != 0) = true := bne_iff_ne.2 h1
          have m2 : (e1 == 0) = false := beq_eq_false_iff_ne.2 h1
          clear HY
          go_wp2_with fail
          go_ret
          exact ⟨rfl, HB11.out⟩
      · have hn : (e != 0) = true := bne_iff_ne.2 he
        have hn2 : (e == 0) = false := beq_eq_false_iff_ne.2 he
        clear HX
        go_wp2_with fail
        with_reducible refine (seal_some u key dealer row c _ hk HG7.out).mono ?_
        rintro r w8 ⟨a, p1, s1, e1, rfl, hC, hb8⟩
        obtain ⟨hb9, d0, d1, d2⟩ := cell_agg3 w8 a p1 s1 31
        have y0 := below_cell hb9 (below_cell hb8 z0)
        have y1 := below_cell hb9 (below_cell hb8 z1)
        have y2 := below_cell hb9 (below_cell hb8 z2)
        have u0 := below_cell hb9 (below_cell hb8 t0)
        have u1 := below_cell hb9 (below_cell hb8 t1)
        have u2 := below_cell hb9 (below_cell hb8 t2)
        have HB8 := Lib.hid (HB7.out.trans (hb8.mono HB7.out.size))
        have HB9 := Lib.hid (HB8.out.trans (hb9.mono HB8.out.size))
        have HG9 := Lib.hid (hG.below HB9.out)
        have HCA := Lib.hid hC
        clear hb8 hb9 hC z0 z1 z2 t0 t1 t2
        go_wp2_with fail
        with_reducible refine (seal_some u key dealer row c' _ hk HG9.out).mono ?_
        rintro r w10 ⟨a', p2, s2, e2, rfl, hC2, hb10⟩
        obtain ⟨hb11, k0, k1, k2⟩ := cell_agg3 w10 a' p2 s2 31
        have z0 := below_cell hb11 (below_cell hb10 y0)
        have z1 := below_cell hb11 (below_cell hb10 y1)
        have z2 := below_cell hb11 (below_cell hb10 y2)
        have v0 := below_cell hb11 (below_cell hb10 d0)
        have v1 := below_cell hb11 (below_cell hb10 d1)
        have v2 := below_cell hb11 (below_cell hb10 d2)
        have HB10 := Lib.hid (HB9.out.trans (hb10.mono HB9.out.size))
        have HB11 := Lib.hid (HB10.out.trans (hb11.mono HB10.out.size))
        have HY : Hid ((e1 = 0 ∧ e2 = 0 ∧ a = row ∧ p2 = p1 ∧ s2 = (s1 + b) % 1073741789 ∧ 0 ≤ s1 ∧ s1 < 1073741789) ∨ (e1 ≠ 0 ∧ e1 = e2 ∧ a = 0 ∧ p1 = 0 ∧ s1 = 0 ∧ a' = 0 ∧ p2 = 0 ∧ s2 = 0)) := Lib.hid (by
          rcases HCA.out with ⟨h1, h2, h3, h4, h5⟩ | ⟨h1, h2, h3, h4, h5⟩
          · rcases hC2 with ⟨g1, g2, g3, g4, -⟩ | ⟨g1, -, -, -, g5⟩
            · have := cipV_num u key dealer row c
              exact .inl ⟨h1, g1, h2.symm, g3.symm.trans h3, by rw [← g4, ← h4, HCV.out], by rw [← h4]; exact this⟩
            · rw [← HSE.out] at g5
              exact absurd (g5.trans (sealE_ok.2 h5)) g1
          · rcases hC2 with ⟨g1, -, -, -, g5⟩ | ⟨g1, g2, g3, g4, g5⟩
            · exact absurd (h5.trans (HSE.out.trans (sealE_ok.2 g5))) h1
            · exact .inr ⟨h1, by rw [g5, h5, HSE.out], h2, h3, h4, g2, g3, g4⟩)
        clear hb10 hb11 hC2 HCA y0 y1 y2 u0 u1 u2 d0 d1 d2
        rcases HY.out with ⟨rfl, rfl, h3, rfl, rfl, n3, n4⟩ | ⟨h1, rfl, rfl, rfl, rfl, rfl, rfl, rfl⟩
        · subst h3
          clear HY
          go_wp2_with fail
          go_ret
          exact ⟨rfl, HB11.out⟩
        · have m1 : (e1 != 0) = true := bne_iff_ne.2 h1
          have m2 : (e1 == 0) = false := beq_eq_false_iff_ne.2 h1
          clear HY
          go_wp2_with fail
          go_ret
          exact ⟨rfl, HB11.out⟩

end Go.Proofs.YtjnnnciifjajmaaDoor
