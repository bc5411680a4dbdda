/- ParcelsPoints: another number makes another Point; the number itself opens, in the place of the key. -/
import Derived.Test.YtjnnnciifjajmaaDoorLpB
namespace Go.Proofs.YtjnnnciifjajmaaDoor
open Go.RowKit FP

set_option maxRecDepth 100000 in
/-- What Seal leaves: a parcel, or nothing and an error. -/
theorem seal_some (u key dealer row value : Int) (w : World) (hk : R64 key) (hG : Glob w) :
    Calls Tryd.prog 16 #[.int .i64 u, .int .i64 key, .int .i64 dealer, .int .i64 row, .int .i64 value] w fun r w' => ∃ a b c e : Int, r = .returned (.tuple #[.agg #[.int .i64 a, .int .i64 b, .int .i64 c], .int .i64 e]) ∧
      (e = 0 ∧ row = a ∧ powE 4 u = b ∧ cipV u key dealer row value = c ∧ Sealed u key dealer row value ∨ e ≠ 0 ∧ a = 0 ∧ b = 0 ∧ c = 0 ∧ e = sealE u key dealer row value) ∧ Below w.heap.size w w' := by
  by_cases h : sealE u key dealer row value = 0
  · exact (seal_yes u key dealer row value w (sealE_ok.1 h) hG).mono fun r w' ⟨h1, h2⟩ => ⟨_, _, _, _, h1, .inl ⟨rfl, rfl, rfl, rfl, sealE_ok.1 h⟩, h2⟩
  · exact (seal_no u key dealer row value w hk h).mono fun r w' ⟨h1, h2⟩ => ⟨_, _, _, _, h1, .inr ⟨h, rfl, rfl, rfl, rfl⟩, h2⟩

theorem point_inj {u v : Int} (hu : 1 ≤ u ∧ u ≤ 1073741788) (hv : 1 ≤ v ∧ v ≤ 1073741788) : (powE 4 u == powE 4 v) = (u == v) := by
  by_cases h : u = v
  · subst h; rw [beq_self_eq_true, beq_self_eq_true]
  · rw [beq_eq_false_iff_ne.2 h, beq_eq_false_iff_ne.2]
    intro h2
    have := el_order2 el_four (by decide) h2
    omega

set_option maxRecDepth 100000 in
set_option maxHeartbeats 4000000 in
theorem points_any (u v key dealer row value : Int) (w : World) (hu : R64 u) (_hv : R64 v) (hk : R64 key) (_hd : R64 dealer) (_hr : R64 row) (_hv2 : R64 value) (hG : Glob w) :
    Calls Tryd.prog 8 #[.int .i64 u, .int .i64 v, .int .i64 key, .int .i64 dealer, .int .i64 row, .int .i64 value] w fun r w' => r = .returned (.bool true) ∧ Below w.heap.size w w' := by
  go_enter Tryd.func8, Tryd.ntmps8
  go_wp2_with fail
  with_reducible refine (sane35_any _ hG).mono ?_
  rintro r w1 ⟨rfl, hb1⟩
  have HB1 := Lib.hid hb1
  have HG1 := Lib.hid (hG.below hb1)
  clear hb1
  go_wp2_with fail
  with_reducible refine (seal_some u key dealer row value _ hk HG1.out).mono ?_
  rintro r w2 ⟨a, b, c, e, rfl, hC, hb2⟩
  obtain ⟨hb3, c0, c1, c2⟩ := cell_agg3 w2 a b c 31
  have HC := Lib.hid hC
  have HB2 := Lib.hid (HB1.out.trans (hb2.mono HB1.out.size))
  have HB3 := Lib.hid (HB2.out.trans (hb3.mono HB2.out.size))
  have HG3 := Lib.hid (hG.below HB3.out)
  clear hb2 hb3 hC
  go_wp2_with fail
  with_reducible refine (seal_some v key dealer row value _ hk HG3.out).mono ?_
  rintro r w4 ⟨a2, b2, k2, e2, rfl, hC2, hb4⟩
  obtain ⟨hb5, d0, d1, d2⟩ := cell_agg3 w4 a2 b2 k2 31
  have x0 := below_cell hb5 (below_cell hb4 c0)
  have x1 := below_cell hb5 (below_cell hb4 c1)
  have x2 := below_cell hb5 (below_cell hb4 c2)
  have HB4 := Lib.hid (HB3.out.trans (hb4.mono HB3.out.size))
  have HB5 := Lib.hid (HB4.out.trans (hb5.mono HB4.out.size))
  have HG5 := Lib.hid (hG.below HB5.out)
  clear hb4 hb5 c0 c1 c2
  rcases HC.out with ⟨rfl, rfl, rfl, rfl, hS⟩ | ⟨he, rfl, rfl, rfl, -⟩
  · rcases hC2 with ⟨rfl, rfl, rfl, rfl, hS2⟩ | ⟨he2, rfl, rfl, rfl, -⟩
    · have HPI := Lib.hid (point_inj hS.u hS2.u)
      have hcc := cipV_num u key dealer row value
      have HPW := Lib.hid (fun w => pow_yes key u w hS.key hu)
      have HWT := Lib.hid (fun w hG => with_yes (powE key u) dealer row (powE 4 u) (cipV u key dealer row value) w (el_powE hS.key u) hS.dealer (sealed_right hS) hG)
      have HV : Hid (opnV (powE key u) dealer row (cipV u key dealer row value) = value) := Lib.hid (opnV_cipV hS.value)
      rw [HV.out] at HWT
      generalize powE 4 u = p1 at *
      generalize powE 4 v = p2 at *
      generalize cipV u key dealer row value = c at *
      generalize powE key u = kd at *
      clear hcc hS hS2 HC HV
      by_cases hp : p1 = p2
      · have huv : (u == v) = true := by rw [← HPI.out, hp]; exact beq_self_eq_true _
        subst hp
        clear HPI
        go_wp2_with fail
        with_reducible refine (HPW.out _).mono ?_
        rintro r w6 ⟨rfl, hb6⟩
        have y0 := below_cell hb6 x0
        have y1 := below_cell hb6 x1
        have y2 := below_cell hb6 x2
        have HB6 := Lib.hid (HB5.out.trans (hb6.mono HB5.out.size))
        have HG6 := Lib.hid (hG.below HB6.out)
        clear hb6 x0 x1 x2 d0 d1 d2
        go_wp2_with fail
        with_reducible refine (HWT.out _ HG6.out).mono ?_
        rintro r w7 ⟨rfl, hb7⟩
        go_wp2_with fail
        go_ret
        exact ⟨rfl, HB6.out.trans (hb7.mono HB6.out.size)⟩
      · have hpf : (p1 == p2) = false := beq_eq_false_iff_ne.2 hp
        have huv : (u == v) = false := by rw [← HPI.out, hpf]
        clear HPI
        go_wp2_with fail
        with_reducible refine (HPW.out _).mono ?_
        rintro r w6 ⟨rfl, hb6⟩
        have y0 := below_cell hb6 x0
        have y1 := below_cell hb6 x1
        have y2 := below_cell hb6 x2
        have HB6 := Lib.hid (HB5.out.trans (hb6.mono HB5.out.size))
        have HG6 := Lib.hid (hG.below HB6.out)
        clear hb6 x0 x1 x2 d0 d1 d2
        go_wp2_with fail
        with_reducible refine (HWT.out _ HG6.out).mono ?_
        rintro r w7 ⟨rfl, hb7⟩
        go_wp2_with fail
        go_ret
        exact ⟨rfl, HB6.out.trans (hb7.mono HB6.out.size)⟩
    · have hn : (e2 != 0) = true := bne_iff_ne.2 he2
      have hn2 : (e2 == 0) = false := beq_eq_false_iff_ne.2 he2
      generalize cipV u key dealer row value = c at *
      generalize powE 4 u = p1 at *
      clear hS HC
      go_wp2_with fail
      go_ret
      exact ⟨rfl, HB5.out⟩
  · have hn : (e != 0) = true := bne_iff_ne.2 he
    have hn2 : (e == 0) = false := beq_eq_false_iff_ne.2 he
    rcases hC2 with ⟨rfl, rfl, rfl, rfl, hS2⟩ | ⟨he2, rfl, rfl, rfl, -⟩
    · generalize cipV v key dealer row value = c at *
      generalize powE 4 v = p1 at *
      clear hS2 HC
      go_wp2_with fail
      go_ret
      exact ⟨rfl, HB5.out⟩
    · have hn3 : (e2 != 0) = true := bne_iff_ne.2 he2
      have hn4 : (e2 == 0) = false := beq_eq_false_iff_ne.2 he2
      clear HC
      go_wp2_with fail
      go_ret
      exact ⟨rfl, HB5.out⟩

end Go.Proofs.YtjnnnciifjajmaaDoor
