/- The laws' examples: sane returns true. -/
import Derived.Test.YtjnnnciifjajmaaDoorEqE
namespace Go.Proofs.YtjnnnciifjajmaaDoor
open Go.RowKit FP

theorem pow_4_3 : powE 4 3 = 64 := by decide
set_option maxRecDepth 100000 in
theorem check_val (b : Bool) (key a d E S : Int) (hk : R64 key) (ha : R64 a) (hd : R64 d) (hE : R64 E) (hS : R64 S) (h : chkB key a d E S = b) (w : World) (hG : Glob w) :
    Calls Tryd.prog 13 #[.int .i64 key, .int .i64 a, .int .i64 d, .agg #[.int .i64 E, .int .i64 S]] w fun e w' => e = .returned (.bool b) ∧ Below w.heap.size w w' := by
  subst h; exact check_any key a d E S w hk ha hd hE hS hG

set_option maxRecDepth 100000 in
set_option maxHeartbeats 2000000 in
theorem sane12_any (w : World) (hG : Glob w) :
    Calls Tryd.prog 10 #[] w fun e w' => e = .returned (.bool true) ∧ Below w.heap.size w w' := by
  have HP := Lib.hid pow_4_3
  have hc := chkB_honest el_four 3
  rw [pow_4_3] at hc
  have E1 := prE_num 3 4
  have S1 := prS_num 3 4
  have hE : R64 (prE 3 4) := ⟨by omega, by omega⟩
  have hS : R64 (prS 3 4) := ⟨by omega, by omega⟩
  have r64 : ∀ z : Int, 0 ≤ z → z ≤ 100 → R64 z := fun z h1 h2 => ⟨by omega, by omega⟩
  have HR := Lib.hid r64
  have HC1 := Lib.hid (check_val true 64 4 64 (prE 3 4) (prS 3 4) (r64 _ (by omega) (by omega)) (r64 _ (by omega) (by omega)) (r64 _ (by omega) (by omega)) hE hS hc)
  have HC2 := Lib.hid (check_val false 0 1 1 (prE 3 4) (prS 3 4) (r64 _ (by omega) (by omega)) (r64 _ (by omega) (by omega)) (r64 _ (by omega) (by omega)) hE hS (by unfold chkB; rw [elB_false.2 not_el_0]; rfl))
  have HC3 := Lib.hid (check_val false 64 4 2 (prE 3 4) (prS 3 4) (r64 _ (by omega) (by omega)) (r64 _ (by omega) (by omega)) (r64 _ (by omega) (by omega)) hE hS (by unfold chkB; rw [elB_false.2 not_el_2, Bool.and_false, Bool.and_false]; rfl))
  clear hc
  clear E1 S1 r64
  go_enter Tryd.func10, Tryd.ntmps10
  go_wp2_with fail
  with_reducible refine (prove_yes 3 4 _ (by omega) (by omega) el_four hG).mono ?_
  rintro e w1 ⟨rfl, hb1⟩
  rw [HP.out]
  have hg1 := hG.below hb1
  go_wp2_with fail
  obtain ⟨hb2, c0, c1⟩ := cell_agg2 w1 (prE 3 4) (prS 3 4) 23
  generalize prE 3 4 = EE at *
  generalize prS 3 4 = SS at *
  generalize w1.alloc (.cells #[.int .i64 EE, .int .i64 SS] 23) = W1 at *
  have hb3 := hb1.trans (hb2.mono hb1.size)
  with_reducible refine (prove_key 0 4 _ (.inl (by omega)) (HR.out 0 (by omega) (by omega))).mono ?_
  rintro e w2 ⟨rfl, hb4⟩
  have c2 := below_cell hb4 c0
  have c3 := below_cell hb4 c1
  have hb5 := hb3.trans (hb4.mono hb3.size)
  clear c0 c1 hb4 hb3 hb2 hg1
  go_wp2_with fail
  obtain ⟨hb6, -, -⟩ := cell_agg2 w2 0 0 23
  generalize w2.alloc (.cells #[.int .i64 0, .int .i64 0] 23) = W2 at *
  have c4 := below_cell hb6 c2
  have c5 := below_cell hb6 c3
  have hb7 := hb5.trans (hb6.mono hb5.size)
  with_reducible refine (prove_group 1 2 _ (by omega) (by omega) (HR.out 2 (by omega) (by omega)) not_el_2).mono ?_
  rintro e w3 ⟨rfl, hb8⟩
  have c6 := below_cell hb8 c4
  have c7 := below_cell hb8 c5
  have hb9 := hb7.trans (hb8.mono hb7.size)
  clear c2 c3 c4 c5 hb8 hb7 hb6 hb5
  obtain ⟨hb10, -, -⟩ := cell_agg2 w3 0 0 23
  have c8 := below_cell hb10 c6
  have c9 := below_cell hb10 c7
  have hb11 := hb9.trans (hb10.mono hb9.size)
  have HG := Lib.hid (hG.below hb11)
  have HB := Lib.hid hb11
  clear hb10 hb9 hb11
  go_wp2_with fail
  with_reducible refine (HC1.out _ HG.out).mono ?_
  rintro e w4 ⟨rfl, hb4⟩
  have d0 := below_cell hb4 c8
  have d1 := below_cell hb4 c9
  have HG4 := Lib.hid (HG.out.below hb4)
  have HB4 := Lib.hid (HB.out.trans (hb4.mono HB.out.size))
  clear c6 c7 c8 c9 hb4
  go_wp2_with fail
  with_reducible refine (HC2.out _ HG4.out).mono ?_
  rintro e w5 ⟨rfl, hb5⟩
  have d2 := below_cell hb5 d0
  have d3 := below_cell hb5 d1
  have HG5 := Lib.hid (HG4.out.below hb5)
  have HB5 := Lib.hid (HB4.out.trans (hb5.mono HB4.out.size))
  clear d0 d1 hb5
  go_wp2_with fail
  with_reducible refine (HC3.out _ HG5.out).mono ?_
  rintro e w6 ⟨rfl, hb6⟩
  have HB6 := Lib.hid (HB5.out.trans (hb6.mono HB5.out.size))
  clear hb6
  go_wp2_with fail
  go_ret
  exact ⟨rfl, HB6.out⟩

end Go.Proofs.YtjnnnciifjajmaaDoor
