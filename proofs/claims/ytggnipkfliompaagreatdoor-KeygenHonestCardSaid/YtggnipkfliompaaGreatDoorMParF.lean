/- Package parcels: With, Open. -/
import Derived.Test.YtggnipkfliompaaGreatDoorMCoE
namespace Go.Proofs.YtggnipkfliompaaGreatDoor
open Go.RowKit FP

set_option maxRecDepth 100000 in
set_option maxHeartbeats 2000000 in
theorem with_no (d dealer row pt c : Int) (w : World) (hd : R64 d) (hp : R64 pt) (h : withE d dealer row pt c ≠ 0) :
    Calls Tryz.prog 65 #[.int .i64 d, .int .i64 dealer, .agg #[.int .i64 row, .int .i64 pt, .int .i64 c]] w fun r w' => r = .returned (.tuple #[.int .i64 0, .int .i64 (withE d dealer row pt c)]) ∧ Below w.heap.size w w' := by
  obtain ⟨W1, hW1, hb1, hr1, hz⟩ := cells3 w row pt c 49
  have HW1 := Lib.hid hW1
  have HB1 := Lib.hid hb1
  have x0 : W1.cell? ⟨w.heap.size, 0, none⟩ = some (.int .i64 row) := row_cell hr1 rfl
  have x1 : W1.cell? ⟨w.heap.size, 1, none⟩ = some (.int .i64 pt) := row_cell hr1 rfl
  have x2 : W1.cell? ⟨w.heap.size, 2, none⟩ = some (.int .i64 c) := row_cell hr1 rfl
  obtain ⟨E, hE⟩ : ∃ E, E = withE d dealer row pt c := ⟨_, rfl⟩
  rw [← hE] at h ⊢
  have HE : Hid (firstE [(elB d, 100), (inB dealer 0 63, 1), (rightB row pt c, 350)] = E) := Lib.hid hE.symm
  have h2 : (E != 0) = true := bne_iff_ne.2 h
  clear hW1 hE hr1 hb1 hz
  go_enter Tryz.func65, Tryz.ntmps65
  go_wp2_with fail
  rw [← HW1.out]
  go_region_held3 (fun w' => w'.cell? ⟨w.heap.size, 0, none⟩ = some (.int .i64 row) ∧ w'.cell? ⟨w.heap.size, 1, none⟩ = some (.int .i64 pt) ∧ w'.cell? ⟨w.heap.size, 2, none⟩ = some (.int .i64 c)) (go_keep)
    (first
      | (go_at_call 140; (with_reducible refine (element_any d 100 _ hd).mono ?_); rintro r w2 ⟨f1, cap1, rfl, hF1, hb2⟩; have s10 : w2.cell? ⟨w.heap.size, 0, none⟩ = some (.int .i64 row) := below_cell hb2 (by assumption); have s11 : w2.cell? ⟨w.heap.size, 1, none⟩ = some (.int .i64 pt) := below_cell hb2 (by assumption); have s12 : w2.cell? ⟨w.heap.size, 2, none⟩ = some (.int .i64 c) := below_cell hb2 (by assumption); have HF1 := Lib.hid hF1; clear hF1)
      | (go_at_call 130; (with_reducible refine (person_any dealer _).mono ?_); rintro r w3 ⟨f2, cap2, rfl, hF2, hb3⟩; have s20 : w3.cell? ⟨w.heap.size, 0, none⟩ = some (.int .i64 row) := below_cell hb3 (by assumption); have s21 : w3.cell? ⟨w.heap.size, 1, none⟩ = some (.int .i64 pt) := below_cell hb3 (by assumption); have s22 : w3.cell? ⟨w.heap.size, 2, none⟩ = some (.int .i64 c) := below_cell hb3 (by assumption); have HF2 := Lib.hid hF2; clear hF2)
      | (go_at_call 131; (with_reducible refine (right_any row pt c _ hp).mono ?_); rintro r w4 ⟨f3, cap3, rfl, hF3, hb4⟩; have s30 : w4.cell? ⟨w.heap.size, 0, none⟩ = some (.int .i64 row) := below_cell hb4 (by assumption); have s31 : w4.cell? ⟨w.heap.size, 1, none⟩ = some (.int .i64 pt) := below_cell hb4 (by assumption); have s32 : w4.cell? ⟨w.heap.size, 2, none⟩ = some (.int .i64 c) := below_cell hb4 (by assumption); have HF3 := Lib.hid hF3; clear hF3)
      | (go_at_call 128; (refine (pcheck_any _ _ _ (conds3 _ _ _ rfl 100 1 350 (HF1.out.keep (Keep.below (hb3.trans (hb4.mono hb3.size)))) (HF2.out.keep (Keep.below hb4)) HF3.out)).mono ?_); rintro r w5 ⟨rfl, hb5⟩; have s40 : w5.cell? ⟨w.heap.size, 0, none⟩ = some (.int .i64 row) := below_cell hb5 (below_cell (below_new _ _ _) s30); have s41 : w5.cell? ⟨w.heap.size, 1, none⟩ = some (.int .i64 pt) := below_cell hb5 (below_cell (below_new _ _ _) s31); have s42 : w5.cell? ⟨w.heap.size, 2, none⟩ = some (.int .i64 c) := below_cell hb5 (below_cell (below_new _ _ _) s32)))
  rw [HE.out]
  have h1 : Below W1.heap.size W1 w2 := (Below.refl _ _).drew.trans hb2
  have h3 := h1.trans (hb3.mono h1.size)
  have h4 := h3.trans (hb4.mono h3.size)
  have h5 := h4.alloc h4.size (.cells #[.func (.func f1) #[] cap1, .int .i64 100, .func (.func f2) #[] cap2, .int .i64 1, .func (.func f3) #[] cap3, .int .i64 350] 153)
  have HB := Lib.hid (HB1.out.trans ((h5.trans (hb5.mono h5.size)).mono HB1.out.size))
  clear h1 h3 h4 h5 hb2 hb3 hb4 hb5
  go_wp2_with fail
  go_ret2
  exact ⟨rfl, HB.out⟩

set_option maxRecDepth 100000 in
set_option maxHeartbeats 2000000 in
theorem with_yes (d dealer row pt c : Int) (w : World) (hd : El d) (hl : 0 ≤ dealer ∧ dealer ≤ 63) (hR : RightP row pt c) (hG : Glob w) :
    Calls Tryz.prog 65 #[.int .i64 d, .int .i64 dealer, .agg #[.int .i64 row, .int .i64 pt, .int .i64 c]] w fun r w' => r = .returned (.tuple #[.int .i64 (opnV d dealer row c), .int .i64 0]) ∧ Below w.heap.size w w' := by
  obtain ⟨W1, hW1, hb1, hr1, hz⟩ := cells3 w row pt c 49
  have HW1 := Lib.hid hW1
  have HB1 := Lib.hid hb1
  have x0 : W1.cell? ⟨w.heap.size, 0, none⟩ = some (.int .i64 row) := row_cell hr1 rfl
  have x1 : W1.cell? ⟨w.heap.size, 1, none⟩ = some (.int .i64 pt) := row_cell hr1 rfl
  have x2 : W1.cell? ⟨w.heap.size, 2, none⟩ = some (.int .i64 c) := row_cell hr1 rfl
  have HE : Hid (firstE [(elB d, 100), (inB dealer 0 63, 1), (rightB row pt c, 350)] = 0) := Lib.hid (withE_ok.2 ⟨hd, hl, hR⟩)
  obtain ⟨⟨r1, r2⟩, hpt, hc⟩ := hR
  have hp := hpt.r64
  have hd64 := hd.r64
  have hl64 : R64 dealer := ⟨by omega, by omega⟩
  have hr64 : R64 row := ⟨by omega, by omega⟩
  clear hW1 hr1 hb1 hz r1 r2 hpt hl
  go_enter Tryz.func65, Tryz.ntmps65
  go_wp2_with fail
  rw [← HW1.out]
  go_region_held3 (fun w' => w'.cell? ⟨w.heap.size, 0, none⟩ = some (.int .i64 row) ∧ w'.cell? ⟨w.heap.size, 1, none⟩ = some (.int .i64 pt) ∧ w'.cell? ⟨w.heap.size, 2, none⟩ = some (.int .i64 c)) (go_keep)
    (first
      | (go_at_call 140; (with_reducible refine (element_any d 100 _ hd64).mono ?_); rintro r w2 ⟨f1, cap1, rfl, hF1, hb2⟩; have s10 : w2.cell? ⟨w.heap.size, 0, none⟩ = some (.int .i64 row) := below_cell hb2 (by assumption); have s11 : w2.cell? ⟨w.heap.size, 1, none⟩ = some (.int .i64 pt) := below_cell hb2 (by assumption); have s12 : w2.cell? ⟨w.heap.size, 2, none⟩ = some (.int .i64 c) := below_cell hb2 (by assumption); have HF1 := Lib.hid hF1; clear hF1)
      | (go_at_call 130; (with_reducible refine (person_any dealer _).mono ?_); rintro r w3 ⟨f2, cap2, rfl, hF2, hb3⟩; have s20 : w3.cell? ⟨w.heap.size, 0, none⟩ = some (.int .i64 row) := below_cell hb3 (by assumption); have s21 : w3.cell? ⟨w.heap.size, 1, none⟩ = some (.int .i64 pt) := below_cell hb3 (by assumption); have s22 : w3.cell? ⟨w.heap.size, 2, none⟩ = some (.int .i64 c) := below_cell hb3 (by assumption); have HF2 := Lib.hid hF2; clear hF2)
      | (go_at_call 131; (with_reducible refine (right_any row pt c _ hp).mono ?_); rintro r w4 ⟨f3, cap3, rfl, hF3, hb4⟩; have s30 : w4.cell? ⟨w.heap.size, 0, none⟩ = some (.int .i64 row) := below_cell hb4 (by assumption); have s31 : w4.cell? ⟨w.heap.size, 1, none⟩ = some (.int .i64 pt) := below_cell hb4 (by assumption); have s32 : w4.cell? ⟨w.heap.size, 2, none⟩ = some (.int .i64 c) := below_cell hb4 (by assumption); have HF3 := Lib.hid hF3; clear hF3)
      | (go_at_call 128; (refine (pcheck_any _ _ _ (conds3 _ _ _ rfl 100 1 350 (HF1.out.keep (Keep.below (hb3.trans (hb4.mono hb3.size)))) (HF2.out.keep (Keep.below hb4)) HF3.out)).mono ?_); rintro r w5 ⟨rfl, hb5⟩; have s40 : w5.cell? ⟨w.heap.size, 0, none⟩ = some (.int .i64 row) := below_cell hb5 (below_cell (below_new _ _ _) s30); have s41 : w5.cell? ⟨w.heap.size, 1, none⟩ = some (.int .i64 pt) := below_cell hb5 (below_cell (below_new _ _ _) s31); have s42 : w5.cell? ⟨w.heap.size, 2, none⟩ = some (.int .i64 c) := below_cell hb5 (below_cell (below_new _ _ _) s32)))
  rw [HE.out]
  have h1 : Below W1.heap.size W1 w2 := (Below.refl _ _).drew.trans hb2
  have h3 := h1.trans (hb3.mono h1.size)
  have h4 := h3.trans (hb4.mono h3.size)
  have h5 := h4.alloc h4.size (.cells #[.func (.func f1) #[] cap1, .int .i64 100, .func (.func f2) #[] cap2, .int .i64 1, .func (.func f3) #[] cap3, .int .i64 350] 153)
  have HB := Lib.hid (HB1.out.trans ((h5.trans (hb5.mono h5.size)).mono HB1.out.size))
  have HG5 := Lib.hid (hG.below HB.out)
  clear h1 h3 h4 h5 hb2 hb3 hb4 hb5 hG
  go_wp2_with fail
  with_reducible refine (opened_any d dealer row pt c _ hd64 hl64 hr64 hc HG5.out).mono ?_
  rintro r w6 ⟨rfl, hb6⟩
  go_wp2_with fail
  go_ret2
  exact ⟨rfl, HB.out.trans (hb6.mono HB.out.size)⟩

set_option maxRecDepth 100000 in
set_option maxHeartbeats 2000000 in
theorem open_yes (s dealer row pt c : Int) (w : World) (hs : 1 ≤ s ∧ s ≤ 1073741788) (hl : 0 ≤ dealer ∧ dealer ≤ 63) (hR : RightP row pt c) (hG : Glob w) :
    Calls Tryz.prog 58 #[.int .i64 s, .int .i64 dealer, .agg #[.int .i64 row, .int .i64 pt, .int .i64 c]] w fun r w' => r = .returned (.tuple #[.int .i64 (opnV (powE pt s) dealer row c), .int .i64 0]) ∧ Below w.heap.size w w' := by
  obtain ⟨W1, hW1, hb1, hr1, hz⟩ := cells3 w row pt c 49
  have HW1 := Lib.hid hW1
  have HB1 := Lib.hid hb1
  have x0 : W1.cell? ⟨w.heap.size, 0, none⟩ = some (.int .i64 row) := row_cell hr1 rfl
  have x1 : W1.cell? ⟨w.heap.size, 1, none⟩ = some (.int .i64 pt) := row_cell hr1 rfl
  have x2 : W1.cell? ⟨w.heap.size, 2, none⟩ = some (.int .i64 c) := row_cell hr1 rfl
  have HE : Hid (firstE [(inB s 1 1073741788, 110), (inB dealer 0 63, 1), (rightB row pt c, 350)] = 0) := Lib.hid (openE_ok.2 ⟨hs, hl, hR⟩)
  obtain ⟨⟨r1, r2⟩, hpt, hc⟩ := hR
  have hp := hpt.r64
  have hs64 : R64 s := ⟨by omega, by omega⟩
  have hl64 : R64 dealer := ⟨by omega, by omega⟩
  have hr64 : R64 row := ⟨by omega, by omega⟩
  have hd64 := (el_powE hpt s).r64
  clear hW1 hr1 hb1 hz r1 r2 hl hs
  go_enter Tryz.func58, Tryz.ntmps58
  go_wp2_with fail
  rw [← HW1.out]
  go_region_held3 (fun w' => w'.cell? ⟨w.heap.size, 0, none⟩ = some (.int .i64 row) ∧ w'.cell? ⟨w.heap.size, 1, none⟩ = some (.int .i64 pt) ∧ w'.cell? ⟨w.heap.size, 2, none⟩ = some (.int .i64 c)) (go_keep)
    (first
      | (go_at_call 129; (with_reducible refine (secret_any s _).mono ?_); rintro r w2 ⟨f1, cap1, rfl, hF1, hb2⟩; have s10 : w2.cell? ⟨w.heap.size, 0, none⟩ = some (.int .i64 row) := below_cell hb2 (by assumption); have s11 : w2.cell? ⟨w.heap.size, 1, none⟩ = some (.int .i64 pt) := below_cell hb2 (by assumption); have s12 : w2.cell? ⟨w.heap.size, 2, none⟩ = some (.int .i64 c) := below_cell hb2 (by assumption); have HF1 := Lib.hid hF1; clear hF1)
      | (go_at_call 130; (with_reducible refine (person_any dealer _).mono ?_); rintro r w3 ⟨f2, cap2, rfl, hF2, hb3⟩; have s20 : w3.cell? ⟨w.heap.size, 0, none⟩ = some (.int .i64 row) := below_cell hb3 (by assumption); have s21 : w3.cell? ⟨w.heap.size, 1, none⟩ = some (.int .i64 pt) := below_cell hb3 (by assumption); have s22 : w3.cell? ⟨w.heap.size, 2, none⟩ = some (.int .i64 c) := below_cell hb3 (by assumption); have HF2 := Lib.hid hF2; clear hF2)
      | (go_at_call 131; (with_reducible refine (right_any row pt c _ hp).mono ?_); rintro r w4 ⟨f3, cap3, rfl, hF3, hb4⟩; have s30 : w4.cell? ⟨w.heap.size, 0, none⟩ = some (.int .i64 row) := below_cell hb4 (by assumption); have s31 : w4.cell? ⟨w.heap.size, 1, none⟩ = some (.int .i64 pt) := below_cell hb4 (by assumption); have s32 : w4.cell? ⟨w.heap.size, 2, none⟩ = some (.int .i64 c) := below_cell hb4 (by assumption); have HF3 := Lib.hid hF3; clear hF3)
      | (go_at_call 128; (refine (pcheck_any _ _ _ (conds3 _ _ _ rfl 110 1 350 (HF1.out.keep (Keep.below (hb3.trans (hb4.mono hb3.size)))) (HF2.out.keep (Keep.below hb4)) HF3.out)).mono ?_); rintro r w5 ⟨rfl, hb5⟩; have s40 : w5.cell? ⟨w.heap.size, 0, none⟩ = some (.int .i64 row) := below_cell hb5 (below_cell (below_new _ _ _) s30); have s41 : w5.cell? ⟨w.heap.size, 1, none⟩ = some (.int .i64 pt) := below_cell hb5 (below_cell (below_new _ _ _) s31); have s42 : w5.cell? ⟨w.heap.size, 2, none⟩ = some (.int .i64 c) := below_cell hb5 (below_cell (below_new _ _ _) s32)))
  rw [HE.out]
  have h1 : Below W1.heap.size W1 w2 := (Below.refl _ _).drew.trans hb2
  have h3 := h1.trans (hb3.mono h1.size)
  have h4 := h3.trans (hb4.mono h3.size)
  have h5 := h4.alloc h4.size (.cells #[.func (.func f1) #[] cap1, .int .i64 110, .func (.func f2) #[] cap2, .int .i64 1, .func (.func f3) #[] cap3, .int .i64 350] 153)
  have HB := Lib.hid (HB1.out.trans ((h5.trans (hb5.mono h5.size)).mono HB1.out.size))
  have hg5 := hG.below HB.out
  have e0 := s40
  have e1 := s41
  have e2 := s42
  clear h1 h3 h4 h5 hb2 hb3 hb4 hb5 hG HE HF1 HF2 HF3
  go_wp2_with fail
  with_reducible refine (pow_yes pt s _ hpt hs64).mono ?_
  rintro r w6 ⟨rfl, hb6⟩
  have HG6 := Lib.hid (hg5.below hb6)
  have HB6 := Lib.hid (HB.out.trans (hb6.mono HB.out.size))
  have g0 := below_cell hb6 e0
  have g1 := below_cell hb6 e1
  have g2 := below_cell hb6 e2
  clear hb6 hg5
  go_wp2_with fail
  with_reducible refine (opened_any (powE pt s) dealer row pt c _ hd64 hl64 hr64 hc HG6.out).mono ?_
  rintro r w7 ⟨rfl, hb7⟩
  go_wp2_with fail
  go_ret2
  exact ⟨rfl, HB6.out.trans (hb7.mono HB6.out.size)⟩

end Go.Proofs.YtggnipkfliompaaGreatDoor
