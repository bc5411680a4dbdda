/- Package parcels: With, Open. The reference of parcels: what is right; the examples. The reference of digest: ror, word. -/
import Derived.Test.YteodnbaogfdjbaaDoorMParD
import Derived.Test.YteodnbaogfdjbaaDoorMDigD
import Derived.BigQuiet
namespace Go.Proofs.YteodnbaogfdjbaaDoor
open Go.RowKit FP

set_option maxRecDepth 100000 in
set_option maxHeartbeats 2000000 in
theorem with_no (d dealer row pt c : Int) (w : World) (hd : R64 d) (hp : R64 pt) (h : withE d dealer row pt c ≠ 0) :
    Calls Tryd.prog 16 #[.int .i64 d, .int .i64 dealer, .agg #[.int .i64 row, .int .i64 pt, .int .i64 c]] w fun r w' => r = .returned (.tuple #[.int .i64 0, .int .i64 (withE d dealer row pt c)]) ∧ Below w.heap.size w w' := by
  obtain ⟨W1, hW1, hb1, hr1, hz⟩ := cells3 w row pt c 31
  have HW1 := Lib.hid hW1
  have HB1 := Lib.hid hb1
  have x0 : W1.cell? ⟨w.heap.size, 0, none⟩ = some (.int .i64 row) := row_cell hr1 rfl
  have x1 : W1.cell? ⟨w.heap.size, 1, none⟩ = some (.int .i64 pt) := row_cell hr1 rfl
  have x2 : W1.cell? ⟨w.heap.size, 2, none⟩ = some (.int .i64 c) := row_cell hr1 rfl
  obtain ⟨E, hE⟩ : ∃ E, E = withE d dealer row pt c := ⟨_, rfl⟩
  rw [← hE] at h ⊢
  have HE : Hid (firstE [(elB d, 100), (inB dealer 0 63, 1), (rightB row pt c, 350)] = E) := Lib.hid hE.symm
  have h2 : (E != 0) = true := bne_iff_ne.2 h
  clear hW1 hE hr1 hb1 hz
  go_enter Tryd.func16, Tryd.ntmps16
  go_wp2_with fail
  rw [← HW1.out]
  go_region_held3 (fun w' => w'.cell? ⟨w.heap.size, 0, none⟩ = some (.int .i64 row) ∧ w'.cell? ⟨w.heap.size, 1, none⟩ = some (.int .i64 pt) ∧ w'.cell? ⟨w.heap.size, 2, none⟩ = some (.int .i64 c)) (go_keep)
    (first
      | (go_at_call 37; (with_reducible refine (element_any d 100 _ hd).mono ?_); rintro r w2 ⟨f1, cap1, rfl, hF1, hb2⟩; have s10 : w2.cell? ⟨w.heap.size, 0, none⟩ = some (.int .i64 row) := below_cell hb2 (by assumption); have s11 : w2.cell? ⟨w.heap.size, 1, none⟩ = some (.int .i64 pt) := below_cell hb2 (by assumption); have s12 : w2.cell? ⟨w.heap.size, 2, none⟩ = some (.int .i64 c) := below_cell hb2 (by assumption); have HF1 := Lib.hid hF1; clear hF1)
      | (go_at_call 38; (with_reducible refine (person_any dealer _).mono ?_); rintro r w3 ⟨f2, cap2, rfl, hF2, hb3⟩; have s20 : w3.cell? ⟨w.heap.size, 0, none⟩ = some (.int .i64 row) := below_cell hb3 (by assumption); have s21 : w3.cell? ⟨w.heap.size, 1, none⟩ = some (.int .i64 pt) := below_cell hb3 (by assumption); have s22 : w3.cell? ⟨w.heap.size, 2, none⟩ = some (.int .i64 c) := below_cell hb3 (by assumption); have HF2 := Lib.hid hF2; clear hF2)
      | (go_at_call 47; (with_reducible refine (right_any row pt c _ hp).mono ?_); rintro r w4 ⟨f3, cap3, rfl, hF3, hb4⟩; have s30 : w4.cell? ⟨w.heap.size, 0, none⟩ = some (.int .i64 row) := below_cell hb4 (by assumption); have s31 : w4.cell? ⟨w.heap.size, 1, none⟩ = some (.int .i64 pt) := below_cell hb4 (by assumption); have s32 : w4.cell? ⟨w.heap.size, 2, none⟩ = some (.int .i64 c) := below_cell hb4 (by assumption); have HF3 := Lib.hid hF3; clear hF3)
      | (go_at_call 35; (refine (pcheck_any _ _ _ (conds3 _ _ _ rfl 100 1 350 (HF1.out.keep (Keep.below (hb3.trans (hb4.mono hb3.size)))) (HF2.out.keep (Keep.below hb4)) HF3.out)).mono ?_); rintro r w5 ⟨rfl, hb5⟩; have s40 : w5.cell? ⟨w.heap.size, 0, none⟩ = some (.int .i64 row) := below_cell hb5 (below_cell (below_new _ _ _) s30); have s41 : w5.cell? ⟨w.heap.size, 1, none⟩ = some (.int .i64 pt) := below_cell hb5 (below_cell (below_new _ _ _) s31); have s42 : w5.cell? ⟨w.heap.size, 2, none⟩ = some (.int .i64 c) := below_cell hb5 (below_cell (below_new _ _ _) s32)))
  rw [HE.out]
  have h1 : Below W1.heap.size W1 w2 := (Below.refl _ _).drew.trans hb2
  have h3 := h1.trans (hb3.mono h1.size)
  have h4 := h3.trans (hb4.mono h3.size)
  have h5 := h4.alloc h4.size (.cells #[.func (.func f1) #[] cap1, .int .i64 100, .func (.func f2) #[] cap2, .int .i64 1, .func (.func f3) #[] cap3, .int .i64 350] 52)
  have HB := Lib.hid (HB1.out.trans ((h5.trans (hb5.mono h5.size)).mono HB1.out.size))
  clear h1 h3 h4 h5 hb2 hb3 hb4 hb5
  go_wp2_with fail
  go_ret2
  exact ⟨rfl, HB.out⟩

set_option maxRecDepth 100000 in
set_option maxHeartbeats 2000000 in
theorem with_yes (d dealer row pt c : Int) (w : World) (hd : El d) (hl : 0 ≤ dealer ∧ dealer ≤ 63) (hR : RightP row pt c) (hG : Glob w) :
    Calls Tryd.prog 16 #[.int .i64 d, .int .i64 dealer, .agg #[.int .i64 row, .int .i64 pt, .int .i64 c]] w fun r w' => r = .returned (.tuple #[.int .i64 (opnV d dealer row c), .int .i64 0]) ∧ Below w.heap.size w w' := by
  obtain ⟨W1, hW1, hb1, hr1, hz⟩ := cells3 w row pt c 31
  have HW1 := Lib.hid hW1
  have HB1 := Lib.hid hb1
  have x0 : W1.cell? ⟨w.heap.size, 0, none⟩ = some (.int .i64 row) := row_cell hr1 rfl
  have x1 : W1.cell? ⟨w.heap.size, 1, none⟩ = some (.int .i64 pt) := row_cell hr1 rfl
  have x2 : W1.cell? ⟨w.heap.size, 2, none⟩ = some (.int .i64 c) := row_cell hr1 rfl
  have HE : Hid (firstE [(elB d, 100), (inB dealer 0 63, 1), (rightB row pt c, 350)] = 0) := Lib.hid (withE_ok.2 ⟨hd, hl, hR⟩)
  obtain ⟨⟨r1, r2⟩, hpt, hc⟩ := hR
  have hp := hpt.r64
  have hd64 := hd.r64
  have hl64 : R64 dealer := ⟨by omega, by omega⟩
  have hr64 : R64 row := ⟨by omega, by omega⟩
  clear hW1 hr1 hb1 hz r1 r2 hpt hl
  go_enter Tryd.func16, Tryd.ntmps16
  go_wp2_with fail
  rw [← HW1.out]
  go_region_held3 (fun w' => w'.cell? ⟨w.heap.size, 0, none⟩ = some (.int .i64 row) ∧ w'.cell? ⟨w.heap.size, 1, none⟩ = some (.int .i64 pt) ∧ w'.cell? ⟨w.heap.size, 2, none⟩ = some (.int .i64 c)) (go_keep)
    (first
      | (go_at_call 37; (with_reducible refine (element_any d 100 _ hd64).mono ?_); rintro r w2 ⟨f1, cap1, rfl, hF1, hb2⟩; have s10 : w2.cell? ⟨w.heap.size, 0, none⟩ = some (.int .i64 row) := below_cell hb2 (by assumption); have s11 : w2.cell? ⟨w.heap.size, 1, none⟩ = some (.int .i64 pt) := below_cell hb2 (by assumption); have s12 : w2.cell? ⟨w.heap.size, 2, none⟩ = some (.int .i64 c) := below_cell hb2 (by assumption); have HF1 := Lib.hid hF1; clear hF1)
      | (go_at_call 38; (with_reducible refine (person_any dealer _).mono ?_); rintro r w3 ⟨f2, cap2, rfl, hF2, hb3⟩; have s20 : w3.cell? ⟨w.heap.size, 0, none⟩ = some (.int .i64 row) := below_cell hb3 (by assumption); have s21 : w3.cell? ⟨w.heap.size, 1, none⟩ = some (.int .i64 pt) := below_cell hb3 (by assumption); have s22 : w3.cell? ⟨w.heap.size, 2, none⟩ = some (.int .i64 c) := below_cell hb3 (by assumption); have HF2 := Lib.hid hF2; clear hF2)
      | (go_at_call 47; (with_reducible refine (right_any row pt c _ hp).mono ?_); rintro r w4 ⟨f3, cap3, rfl, hF3, hb4⟩; have s30 : w4.cell? ⟨w.heap.size, 0, none⟩ = some (.int .i64 row) := below_cell hb4 (by assumption); have s31 : w4.cell? ⟨w.heap.size, 1, none⟩ = some (.int .i64 pt) := below_cell hb4 (by assumption); have s32 : w4.cell? ⟨w.heap.size, 2, none⟩ = some (.int .i64 c) := below_cell hb4 (by assumption); have HF3 := Lib.hid hF3; clear hF3)
      | (go_at_call 35; (refine (pcheck_any _ _ _ (conds3 _ _ _ rfl 100 1 350 (HF1.out.keep (Keep.below (hb3.trans (hb4.mono hb3.size)))) (HF2.out.keep (Keep.below hb4)) HF3.out)).mono ?_); rintro r w5 ⟨rfl, hb5⟩; have s40 : w5.cell? ⟨w.heap.size, 0, none⟩ = some (.int .i64 row) := below_cell hb5 (below_cell (below_new _ _ _) s30); have s41 : w5.cell? ⟨w.heap.size, 1, none⟩ = some (.int .i64 pt) := below_cell hb5 (below_cell (below_new _ _ _) s31); have s42 : w5.cell? ⟨w.heap.size, 2, none⟩ = some (.int .i64 c) := below_cell hb5 (below_cell (below_new _ _ _) s32)))
  rw [HE.out]
  have h1 : Below W1.heap.size W1 w2 := (Below.refl _ _).drew.trans hb2
  have h3 := h1.trans (hb3.mono h1.size)
  have h4 := h3.trans (hb4.mono h3.size)
  have h5 := h4.alloc h4.size (.cells #[.func (.func f1) #[] cap1, .int .i64 100, .func (.func f2) #[] cap2, .int .i64 1, .func (.func f3) #[] cap3, .int .i64 350] 52)
  have HB := Lib.hid (HB1.out.trans ((h5.trans (hb5.mono h5.size)).mono HB1.out.size))
  have HG5 := Lib.hid (hG.below HB.out)
  clear h1 h3 h4 h5 hb2 hb3 hb4 hb5 hG
  go_wp2_with fail
  with_reducible refine (opened_any d dealer row pt c _ hd64 hl64 hr64 hc HG5.out).mono ?_
  rintro r w6 ⟨rfl, hb6⟩
  go_wp2_with fail
  go_ret2
  exact ⟨rfl, HB.out.trans (hb6.mono HB.out.size)⟩

set_option maxRecDepth 100000 in
set_option maxHeartbeats 2000000 in
theorem open_no (s dealer row pt c : Int) (w : World) (hp : R64 pt) (h : openE s dealer row pt c ≠ 0) :
    Calls Tryd.prog 14 #[.int .i64 s, .int .i64 dealer, .agg #[.int .i64 row, .int .i64 pt, .int .i64 c]] w fun r w' => r = .returned (.tuple #[.int .i64 0, .int .i64 (openE s dealer row pt c)]) ∧ Below w.heap.size w w' := by
  obtain ⟨W1, hW1, hb1, hr1, hz⟩ := cells3 w row pt c 31
  have HW1 := Lib.hid hW1
  have HB1 := Lib.hid hb1
  have x0 : W1.cell? ⟨w.heap.size, 0, none⟩ = some (.int .i64 row) := row_cell hr1 rfl
  have x1 : W1.cell? ⟨w.heap.size, 1, none⟩ = some (.int .i64 pt) := row_cell hr1 rfl
  have x2 : W1.cell? ⟨w.heap.size, 2, none⟩ = some (.int .i64 c) := row_cell hr1 rfl
  obtain ⟨E, hE⟩ : ∃ E, E = openE s dealer row pt c := ⟨_, rfl⟩
  rw [← hE] at h ⊢
  have HE : Hid (firstE [(inB s 1 1073741788, 110), (inB dealer 0 63, 1), (rightB row pt c, 350)] = E) := Lib.hid hE.symm
  have h2 : (E != 0) = true := bne_iff_ne.2 h
  clear hW1 hE hr1 hb1 hz
  go_enter Tryd.func14, Tryd.ntmps14
  go_wp2_with fail
  rw [← HW1.out]
  go_region_held3 (fun w' => w'.cell? ⟨w.heap.size, 0, none⟩ = some (.int .i64 row) ∧ w'.cell? ⟨w.heap.size, 1, none⟩ = some (.int .i64 pt) ∧ w'.cell? ⟨w.heap.size, 2, none⟩ = some (.int .i64 c)) (go_keep)
    (first
      | (go_at_call 36; (with_reducible refine (secret_any s _).mono ?_); rintro r w2 ⟨f1, cap1, rfl, hF1, hb2⟩; have s10 : w2.cell? ⟨w.heap.size, 0, none⟩ = some (.int .i64 row) := below_cell hb2 (by assumption); have s11 : w2.cell? ⟨w.heap.size, 1, none⟩ = some (.int .i64 pt) := below_cell hb2 (by assumption); have s12 : w2.cell? ⟨w.heap.size, 2, none⟩ = some (.int .i64 c) := below_cell hb2 (by assumption); have HF1 := Lib.hid hF1; clear hF1)
      | (go_at_call 38; (with_reducible refine (person_any dealer _).mono ?_); rintro r w3 ⟨f2, cap2, rfl, hF2, hb3⟩; have s20 : w3.cell? ⟨w.heap.size, 0, none⟩ = some (.int .i64 row) := below_cell hb3 (by assumption); have s21 : w3.cell? ⟨w.heap.size, 1, none⟩ = some (.int .i64 pt) := below_cell hb3 (by assumption); have s22 : w3.cell? ⟨w.heap.size, 2, none⟩ = some (.int .i64 c) := below_cell hb3 (by assumption); have HF2 := Lib.hid hF2; clear hF2)
      | (go_at_call 47; (with_reducible refine (right_any row pt c _ hp).mono ?_); rintro r w4 ⟨f3, cap3, rfl, hF3, hb4⟩; have s30 : w4.cell? ⟨w.heap.size, 0, none⟩ = some (.int .i64 row) := below_cell hb4 (by assumption); have s31 : w4.cell? ⟨w.heap.size, 1, none⟩ = some (.int .i64 pt) := below_cell hb4 (by assumption); have s32 : w4.cell? ⟨w.heap.size, 2, none⟩ = some (.int .i64 c) := below_cell hb4 (by assumption); have HF3 := Lib.hid hF3; clear hF3)
      | (go_at_call 35; (refine (pcheck_any _ _ _ (conds3 _ _ _ rfl 110 1 350 (HF1.out.keep (Keep.below (hb3.trans (hb4.mono hb3.size)))) (HF2.out.keep (Keep.below hb4)) HF3.out)).mono ?_); rintro r w5 ⟨rfl, hb5⟩; have s40 : w5.cell? ⟨w.heap.size, 0, none⟩ = some (.int .i64 row) := below_cell hb5 (below_cell (below_new _ _ _) s30); have s41 : w5.cell? ⟨w.heap.size, 1, none⟩ = some (.int .i64 pt) := below_cell hb5 (below_cell (below_new _ _ _) s31); have s42 : w5.cell? ⟨w.heap.size, 2, none⟩ = some (.int .i64 c) := below_cell hb5 (below_cell (below_new _ _ _) s32)))
  rw [HE.out]
  have h1 : Below W1.heap.size W1 w2 := (Below.refl _ _).drew.trans hb2
  have h3 := h1.trans (hb3.mono h1.size)
  have h4 := h3.trans (hb4.mono h3.size)
  have h5 := h4.alloc h4.size (.cells #[.func (.func f1) #[] cap1, .int .i64 110, .func (.func f2) #[] cap2, .int .i64 1, .func (.func f3) #[] cap3, .int .i64 350] 52)
  have HB := Lib.hid (HB1.out.trans ((h5.trans (hb5.mono h5.size)).mono HB1.out.size))
  clear h1 h3 h4 h5 hb2 hb3 hb4 hb5
  go_wp2_with fail
  go_ret2
  exact ⟨rfl, HB.out⟩

set_option maxRecDepth 100000 in
set_option maxHeartbeats 2000000 in
theorem open_yes (s dealer row pt c : Int) (w : World) (hs : 1 ≤ s ∧ s ≤ 1073741788) (hl : 0 ≤ dealer ∧ dealer ≤ 63) (hR : RightP row pt c) (hG : Glob w) :
    Calls Tryd.prog 14 #[.int .i64 s, .int .i64 dealer, .agg #[.int .i64 row, .int .i64 pt, .int .i64 c]] w fun r w' => r = .returned (.tuple #[.int .i64 (opnV (powE pt s) dealer row c), .int .i64 0]) ∧ Below w.heap.size w w' := by
  obtain ⟨W1, hW1, hb1, hr1, hz⟩ := cells3 w row pt c 31
  have HW1 := Lib.hid hW1
  have HB1 := Lib.hid hb1
  have x0 : W1.cell? ⟨w.heap.size, 0, none⟩ = some (.int .i64 row) := row_cell hr1 rfl
  have x1 : W1.cell? ⟨w.heap.size, 1, none⟩ = some (.int .i64 pt) := row_cell hr1 rfl
  have x2 : W1.cell? ⟨w.heap.size, 2, none⟩ = some (.int .i64 c) := row_cell hr1 rfl
  have HE : Hid (firstE [(inB s 1 1073741788, 110), (inB dealer 0 63, 1), (rightB row pt c, 350)] = 0) := Lib.hid (openE_ok.2 ⟨hs, hl, hR⟩)
  obtain ⟨⟨r1, r2⟩, hpt, hc⟩ := hR
  have hp := hpt.r64
  have hs64 : R64 s := ⟨by omega, by omega⟩
  have hl64 : R64 dealer := ⟨by omega, by omega⟩
  have hr64 : R64 row := ⟨by omega, by omega⟩
  have hd64 := (el_powE hpt s).r64
  clear hW1 hr1 hb1 hz r1 r2 hl hs
  go_enter Tryd.func14, Tryd.ntmps14
  go_wp2_with fail
  rw [← HW1.out]
  go_region_held3 (fun w' => w'.cell? ⟨w.heap.size, 0, none⟩ = some (.int .i64 row) ∧ w'.cell? ⟨w.heap.size, 1, none⟩ = some (.int .i64 pt) ∧ w'.cell? ⟨w.heap.size, 2, none⟩ = some (.int .i64 c)) (go_keep)
    (first
      | (go_at_call 36; (with_reducible refine (secret_any s _).mono ?_); rintro r w2 ⟨f1, cap1, rfl, hF1, hb2⟩; have s10 : w2.cell? ⟨w.heap.size, 0, none⟩ = some (.int .i64 row) := below_cell hb2 (by assumption); have s11 : w2.cell? ⟨w.heap.size, 1, none⟩ = some (.int .i64 pt) := below_cell hb2 (by assumption); have s12 : w2.cell? ⟨w.heap.size, 2, none⟩ = some (.int .i64 c) := below_cell hb2 (by assumption); have HF1 := Lib.hid hF1; clear hF1)
      | (go_at_call 38; (with_reducible refine (person_any dealer _).mono ?_); rintro r w3 ⟨f2, cap2, rfl, hF2, hb3⟩; have s20 : w3.cell? ⟨w.heap.size, 0, none⟩ = some (.int .i64 row) := below_cell hb3 (by assumption); have s21 : w3.cell? ⟨w.heap.size, 1, none⟩ = some (.int .i64 pt) := below_cell hb3 (by assumption); have s22 : w3.cell? ⟨w.heap.size, 2, none⟩ = some (.int .i64 c) := below_cell hb3 (by assumption); have HF2 := Lib.hid hF2; clear hF2)
      | (go_at_call 47; (with_reducible refine (right_any row pt c _ hp).mono ?_); rintro r w4 ⟨f3, cap3, rfl, hF3, hb4⟩; have s30 : w4.cell? ⟨w.heap.size, 0, none⟩ = some (.int .i64 row) := below_cell hb4 (by assumption); have s31 : w4.cell? ⟨w.heap.size, 1, none⟩ = some (.int .i64 pt) := below_cell hb4 (by assumption); have s32 : w4.cell? ⟨w.heap.size, 2, none⟩ = some (.int .i64 c) := below_cell hb4 (by assumption); have HF3 := Lib.hid hF3; clear hF3)
      | (go_at_call 35; (refine (pcheck_any _ _ _ (conds3 _ _ _ rfl 110 1 350 (HF1.out.keep (Keep.below (hb3.trans (hb4.mono hb3.size)))) (HF2.out.keep (Keep.below hb4)) HF3.out)).mono ?_); rintro r w5 ⟨rfl, hb5⟩; have s40 : w5.cell? ⟨w.heap.size, 0, none⟩ = some (.int .i64 row) := below_cell hb5 (below_cell (below_new _ _ _) s30); have s41 : w5.cell? ⟨w.heap.size, 1, none⟩ = some (.int .i64 pt) := below_cell hb5 (below_cell (below_new _ _ _) s31); have s42 : w5.cell? ⟨w.heap.size, 2, none⟩ = some (.int .i64 c) := below_cell hb5 (below_cell (below_new _ _ _) s32)))
  rw [HE.out]
  have h1 : Below W1.heap.size W1 w2 := (Below.refl _ _).drew.trans hb2
  have h3 := h1.trans (hb3.mono h1.size)
  have h4 := h3.trans (hb4.mono h3.size)
  have h5 := h4.alloc h4.size (.cells #[.func (.func f1) #[] cap1, .int .i64 110, .func (.func f2) #[] cap2, .int .i64 1, .func (.func f3) #[] cap3, .int .i64 350] 52)
  have HB := Lib.hid (HB1.out.trans ((h5.trans (hb5.mono h5.size)).mono HB1.out.size))
  have hg5 := hG.below HB.out
  have e0 := s40
  have e1 := s41
  have e2 := s42
  clear h1 h3 h4 h5 hb2 hb3 hb4 hb5 hG HE HF1 HF2 HF3
  go_wp2_with fail
  with_reducible refine (pow_yes pt s _ hpt hs64).mono ?_
  rintro r w6 ⟨rfl, hb6⟩
  have HG6 := Lib.hid (hg5.below hb6)
  have HB6 := Lib.hid (HB.out.trans (hb6.mono HB.out.size))
  have g0 := below_cell hb6 e0
  have g1 := below_cell hb6 e1
  have g2 := below_cell hb6 e2
  clear hb6 hg5
  go_wp2_with fail
  with_reducible refine (opened_any (powE pt s) dealer row pt c _ hd64 hl64 hr64 hc HG6.out).mono ?_
  rintro r w7 ⟨rfl, hb7⟩
  go_wp2_with fail
  go_ret2
  exact ⟨rfl, HB6.out.trans (hb7.mono HB6.out.size)⟩

end Go.Proofs.YteodnbaogfdjbaaDoor

namespace Go.Proofs.YteodnbaogfdjbaaDoor
open Go.RowKit FP


set_option maxRecDepth 100000 in
theorem secret35_any (n : Int) (w : World) : Calls Tryd.prog 41 #[.int .i64 n] w fun r w' => r = .returned (.bool (inB n 1 1073741788)) ∧ w = w' := by
  by_cases h1 : 1 ≤ n
  · have H := Lib.hid (show inB n 1 1073741788 = decide (n < 1073741789) by unfold inB; rw [decide_eq_true h1, Bool.true_and, lt_le_dec])
    go_enter Tryd.func41, Tryd.ntmps41
    go_wp2_with fail
    go_ret
    exact ⟨ret_bool H.out.symm, rfl⟩
  · have H := Lib.hid (show inB n 1 1073741788 = false by unfold inB; rw [decide_eq_false h1, Bool.false_and])
    go_enter Tryd.func41, Tryd.ntmps41
    go_wp2_with fail
    go_ret
    exact ⟨ret_bool H.out.symm, rfl⟩
set_option maxRecDepth 100000 in
theorem number35_any (n : Int) (w : World) : Calls Tryd.prog 45 #[.int .i64 n] w fun r w' => r = .returned (.bool (inB n 0 1073741788)) ∧ w = w' := by
  by_cases h1 : 0 ≤ n
  · have H := Lib.hid (show inB n 0 1073741788 = decide (n < 1073741789) by unfold inB; rw [decide_eq_true h1, Bool.true_and, lt_le_dec])
    go_enter Tryd.func45, Tryd.ntmps45
    go_wp2_with fail
    go_ret
    exact ⟨ret_bool H.out.symm, rfl⟩
  · have H := Lib.hid (show inB n 0 1073741788 = false by unfold inB; rw [decide_eq_false h1, Bool.false_and])
    go_enter Tryd.func45, Tryd.ntmps45
    go_wp2_with fail
    go_ret
    exact ⟨ret_bool H.out.symm, rfl⟩
set_option maxRecDepth 100000 in
theorem person35_any (n : Int) (w : World) : Calls Tryd.prog 43 #[.int .i64 n] w fun r w' => r = .returned (.bool (inB n 0 63)) ∧ w = w' := by
  by_cases h1 : 0 ≤ n
  · have H := Lib.hid (show inB n 0 63 = decide (n < 64) by unfold inB; rw [decide_eq_true h1, Bool.true_and, lt_le_64])
    go_enter Tryd.func43, Tryd.ntmps43
    go_wp2_with fail
    go_ret
    exact ⟨ret_bool H.out.symm, rfl⟩
  · have H := Lib.hid (show inB n 0 63 = false by unfold inB; rw [decide_eq_false h1, Bool.false_and])
    go_enter Tryd.func43, Tryd.ntmps43
    go_wp2_with fail
    go_ret
    exact ⟨ret_bool H.out.symm, rfl⟩
set_option maxRecDepth 100000 in
theorem row35_any (n : Int) (w : World) : Calls Tryd.prog 44 #[.int .i64 n] w fun r w' => r = .returned (.bool (inB n 0 63)) ∧ w = w' := by
  by_cases h1 : 0 ≤ n
  · have H := Lib.hid (show inB n 0 63 = decide (n < 64) by unfold inB; rw [decide_eq_true h1, Bool.true_and, lt_le_64])
    go_enter Tryd.func44, Tryd.ntmps44
    go_wp2_with fail
    go_ret
    exact ⟨ret_bool H.out.symm, rfl⟩
  · have H := Lib.hid (show inB n 0 63 = false by unfold inB; rw [decide_eq_false h1, Bool.false_and])
    go_enter Tryd.func44, Tryd.ntmps44
    go_wp2_with fail
    go_ret
    exact ⟨ret_bool H.out.symm, rfl⟩

theorem cell_agg3 (w : World) (a b c : Int) (t : TypeId) : Below w.heap.size w (w.alloc (.cells #[.int .i64 a, .int .i64 b, .int .i64 c] t)) ∧ (w.alloc (.cells #[.int .i64 a, .int .i64 b, .int .i64 c] t)).cell? ⟨w.heap.size, 0, none⟩ = some (.int .i64 a) ∧ (w.alloc (.cells #[.int .i64 a, .int .i64 b, .int .i64 c] t)).cell? ⟨w.heap.size, 1, none⟩ = some (.int .i64 b) ∧ (w.alloc (.cells #[.int .i64 a, .int .i64 b, .int .i64 c] t)).cell? ⟨w.heap.size, 2, none⟩ = some (.int .i64 c) := by
  have h := World.alloc_heap_new w (.cells #[.int .i64 a, .int .i64 b, .int .i64 c] t)
  exact ⟨below_new _ _ _, row_cell h rfl, row_cell h rfl, row_cell h rfl⟩

set_option maxRecDepth 100000 in
set_option maxHeartbeats 1000000 in
theorem right35_any (row pt c : Int) (w : World) (hp : R64 pt) :
    Calls Tryd.prog 49 #[.agg #[.int .i64 row, .int .i64 pt, .int .i64 c]] w fun r w' => r = .returned (.bool (rightB row pt c)) ∧ Below w.heap.size w w' := by
  obtain ⟨hb, c0, c1, c2⟩ := cell_agg3 w row pt c 31
  have HB := Lib.hid hb
  clear hb
  go_enter Tryd.func49, Tryd.ntmps49
  go_wp2_with fail
  with_reducible refine (row35_any row _).mono ?_
  rintro r w1 ⟨rfl, rfl⟩
  cases e1 : inB row 0 63 with
  | false =>
    have E1 := Lib.hid e1
    clear e1
    go_wp2_with fail
    go_ret
    exact ⟨ret_bool (by unfold rightB; rw [E1.out]; rfl), HB.out⟩
  | true =>
    have E1 := Lib.hid e1
    clear e1
    go_wp2_with fail
    with_reducible refine (rvalid_any _ _ hp).mono ?_
    rintro r w1 ⟨rfl, rfl⟩
    cases e2 : elB pt with
    | false =>
      have E2 := Lib.hid e2
      clear e2
      go_wp2_with fail
      go_ret
      exact ⟨ret_bool (by unfold rightB; rw [E1.out, E2.out]; rfl), HB.out⟩
    | true =>
      have E2 := Lib.hid e2
      clear e2
      go_wp2_with fail
      with_reducible refine (number35_any c _).mono ?_
      rintro r w1 ⟨rfl, rfl⟩
      go_wp2_with fail
      go_ret
      exact ⟨ret_bool (by unfold rightB; rw [E1.out, E2.out, Bool.true_and, Bool.true_and]), HB.out⟩

/-! The examples. -/
theorem p4_5 : powE 4 5 = 1024 := by decide
theorem ex_e1 : sealE 0 4 0 0 0 = 110 := by unfold sealE; rw [firstE_cons, if_neg (by decide)]
theorem ex_e2 : sealE 1 2 0 0 0 = 100 := by unfold sealE; rw [firstE_cons, if_pos (by decide), firstE_cons, if_neg (by rw [elB_false.2 not_el_2]; decide)]
theorem ex_e3 : sealE 1 4 64 0 0 = 1 := by unfold sealE; rw [firstE_cons, if_pos (by decide), firstE_cons, if_pos (elB_iff.2 el_four), firstE_cons, if_neg (by decide)]
theorem ex_e4 : sealE 1 4 0 0 1073741789 = 350 := by unfold sealE; rw [firstE_cons, if_pos (by decide), firstE_cons, if_pos (elB_iff.2 el_four), firstE_cons, if_pos (by decide), firstE_cons, if_pos (by decide), firstE_cons, if_neg (by decide)]
theorem ex_e5 : openE 1 0 0 0 0 = 350 := by
  unfold openE
  rw [firstE_cons, if_pos (by decide), firstE_cons, if_pos (by decide), firstE_cons, if_neg (by unfold rightB; rw [elB_false.2 not_el_0]; decide)]

set_option maxRecDepth 100000 in
/-- Seal and Open at values that are known. -/
theorem seal_is (u key dealer row value e : Int) (w : World) (hk : R64 key) (he : sealE u key dealer row value = e) (h : e ≠ 0) :
    Calls Tryd.prog 12 #[.int .i64 u, .int .i64 key, .int .i64 dealer, .int .i64 row, .int .i64 value] w fun r w' => r = .returned (.tuple #[.agg #[.int .i64 0, .int .i64 0, .int .i64 0], .int .i64 e]) ∧ Below w.heap.size w w' := by
  subst he; exact seal_no u key dealer row value w hk h
set_option maxRecDepth 100000 in
theorem open_is (s dealer row pt c e : Int) (w : World) (hp : R64 pt) (he : openE s dealer row pt c = e) (h : e ≠ 0) :
    Calls Tryd.prog 14 #[.int .i64 s, .int .i64 dealer, .agg #[.int .i64 row, .int .i64 pt, .int .i64 c]] w fun r w' => r = .returned (.tuple #[.int .i64 0, .int .i64 e]) ∧ Below w.heap.size w w' := by
  subst he; exact open_no s dealer row pt c w hp h
set_option maxRecDepth 100000 in
theorem seal_val (u key dealer row value pt c : Int) (w : World) (hS : Sealed u key dealer row value) (hp : powE 4 u = pt) (hc : cipV u key dealer row value = c) (hG : Glob w) :
    Calls Tryd.prog 12 #[.int .i64 u, .int .i64 key, .int .i64 dealer, .int .i64 row, .int .i64 value] w fun r w' => r = .returned (.tuple #[.agg #[.int .i64 row, .int .i64 pt, .int .i64 c], .int .i64 0]) ∧ Below w.heap.size w w' := by
  subst hp hc; exact seal_yes u key dealer row value w hS hG
set_option maxRecDepth 100000 in
theorem open_val (s dealer row pt c v : Int) (w : World) (hs : 1 ≤ s ∧ s ≤ 1073741788) (hl : 0 ≤ dealer ∧ dealer ≤ 63) (hR : RightP row pt c) (hv : opnV (powE pt s) dealer row c = v) (hG : Glob w) :
    Calls Tryd.prog 14 #[.int .i64 s, .int .i64 dealer, .agg #[.int .i64 row, .int .i64 pt, .int .i64 c]] w fun r w' => r = .returned (.tuple #[.int .i64 v, .int .i64 0]) ∧ Below w.heap.size w w' := by
  subst hv; exact open_yes s dealer row pt c w hs hl hR hG

set_option maxRecDepth 100000 in
set_option maxHeartbeats 4000000 in
theorem sane35_any (w : World) (hG : Glob w) :
    Calls Tryd.prog 11 #[] w fun r w' => r = .returned (.bool true) ∧ Below w.heap.size w w' := by
  have hk := el_powE el_four 77
  obtain ⟨C1, hC1⟩ : ∃ c, cipV 5 (powE 4 77) 3 2 1000 = c := ⟨_, rfl⟩
  obtain ⟨C2, hC2⟩ : ∃ c, cipV 5 (powE 4 77) 3 2 1001 = c := ⟨_, rfl⟩
  have hS1 : Sealed 5 (powE 4 77) 3 2 1000 := ⟨by omega, hk, by omega, by omega, by omega⟩
  have hS2 : Sealed 5 (powE 4 77) 3 2 1001 := ⟨by omega, hk, by omega, by omega, by omega⟩
  have hn1 := cipV_num 5 (powE 4 77) 3 2 1000
  have hn2 := cipV_num 5 (powE 4 77) 3 2 1001
  have hd : (C2 - C1) % 1073741789 = 1 := by
    rw [← hC1, ← hC2]; unfold cipV
    have := padV_num (powE (powE 4 77) 5) 3 2
    omega
  rw [hC1] at hn1
  rw [hC2] at hn2
  have hR1 : RightP 2 1024 C1 := by have := sealed_right hS1; rw [hC1, p4_5] at this; exact this
  have hR2 : RightP 2 1024 C2 := by have := sealed_right hS2; rw [hC2, p4_5] at this; exact this
  have hpk : powE 1024 77 = powE (powE 4 77) 5 := by rw [← p4_5]; exact point_key 5 77
  have hv1 : opnV (powE 1024 77) 3 2 C1 = 1000 := by rw [hpk, ← hC1]; exact opnV_cipV (by omega)
  have hv2 : opnV (powE 1024 77) 3 2 C2 = 1001 := by rw [hpk, ← hC2]; exact opnV_cipV (by omega)
  have HP := Lib.hid (fun w => pow_yes 4 77 w el_four ⟨by omega, by omega⟩)
  have HS1 := Lib.hid (fun w hG => seal_val 5 (powE 4 77) 3 2 1000 1024 C1 w hS1 p4_5 hC1 hG)
  have HS2 := Lib.hid (fun w hG => seal_val 5 (powE 4 77) 3 2 1001 1024 C2 w hS2 p4_5 hC2 hG)
  have HO1 := Lib.hid (fun w hG => open_val 77 3 2 1024 C1 1000 w (by omega) (by omega) hR1 hv1 hG)
  have HO2 := Lib.hid (fun w hG => open_val 77 3 2 1024 C2 1001 w (by omega) (by omega) hR2 hv2 hG)
  have HD := Lib.hid hd
  generalize powE 4 77 = key at *
  obtain ⟨a1, a2⟩ := hn1
  obtain ⟨b1, b2⟩ := hn2
  clear hk hC1 hC2 hS1 hS2 hR1 hR2 hpk hv1 hv2 hd
  go_enter Tryd.func11, Tryd.ntmps11
  go_wp2_with fail
  with_reducible refine (HP.out _).mono ?_
  rintro r w1 ⟨rfl, hb1⟩
  have HG1 := Lib.hid (hG.below hb1)
  have HB1 := Lib.hid hb1
  clear hb1
  go_wp2_with fail
  with_reducible refine (HS1.out _ HG1.out).mono ?_
  rintro r w2 ⟨rfl, hb2⟩
  obtain ⟨hb3, c0, c1, c2⟩ := cell_agg3 w2 2 1024 C1 31
  have HB2 := Lib.hid (HB1.out.trans (hb2.mono HB1.out.size))
  have HB3 := Lib.hid (HB2.out.trans (hb3.mono HB2.out.size))
  have HG3 := Lib.hid (hG.below HB3.out)
  clear hb2 hb3
  go_wp2_with fail
  with_reducible refine (HS2.out _ HG3.out).mono ?_
  rintro r w4 ⟨rfl, hb4⟩
  have x0 := below_cell hb4 c0
  have x1 := below_cell hb4 c1
  have x2 := below_cell hb4 c2
  obtain ⟨hb5, d0, d1, d2⟩ := cell_agg3 w4 2 1024 C2 31
  have y0 := below_cell hb5 x0
  have y1 := below_cell hb5 x1
  have y2 := below_cell hb5 x2
  have HB4 := Lib.hid (HB3.out.trans (hb4.mono HB3.out.size))
  have HB5 := Lib.hid (HB4.out.trans (hb5.mono HB4.out.size))
  have HG5 := Lib.hid (hG.below HB5.out)
  clear hb4 hb5 c0 c1 c2 x0 x1 x2
  go_wp2_with fail
  with_reducible refine (HO1.out _ HG5.out).mono ?_
  rintro r w6 ⟨rfl, hb6⟩
  have x0 := below_cell hb6 y0
  have x1 := below_cell hb6 y1
  have x2 := below_cell hb6 y2
  have z0 := below_cell hb6 d0
  have z1 := below_cell hb6 d1
  have z2 := below_cell hb6 d2
  have HB6 := Lib.hid (HB5.out.trans (hb6.mono HB5.out.size))
  have HG6 := Lib.hid (hG.below HB6.out)
  clear hb6 y0 y1 y2 d0 d1 d2
  go_wp2_with fail
  with_reducible refine (HO2.out _ HG6.out).mono ?_
  rintro r w7 ⟨rfl, hb7⟩
  have y0 := below_cell hb7 x0
  have y1 := below_cell hb7 x1
  have y2 := below_cell hb7 x2
  have v0 := below_cell hb7 z0
  have v1 := below_cell hb7 z1
  have v2 := below_cell hb7 z2
  have HB7 := Lib.hid (HB6.out.trans (hb7.mono HB6.out.size))
  clear hb7 x0 x1 x2 z0 z1 z2
  go_wp2_with fail
  with_reducible refine (seal_is 0 4 0 0 0 110 _ (R64.mk (by omega) (by omega)) ex_e1 (by decide)).mono ?_
  rintro r w8 ⟨rfl, hb8⟩
  obtain ⟨hb9, -, -, -⟩ := cell_agg3 w8 0 0 0 31
  have hb10 := hb8.trans (hb9.mono hb8.size)
  have x0 := below_cell hb10 y0
  have x1 := below_cell hb10 y1
  have x2 := below_cell hb10 y2
  have z0 := below_cell hb10 v0
  have z1 := below_cell hb10 v1
  have z2 := below_cell hb10 v2
  have HB8 := Lib.hid (HB7.out.trans (hb10.mono HB7.out.size))
  clear hb8 hb9 hb10 y0 y1 y2 v0 v1 v2
  go_wp2_with fail
  with_reducible refine (seal_is 1 2 0 0 0 100 _ (R64.mk (by omega) (by omega)) ex_e2 (by decide)).mono ?_
  rintro r w9 ⟨rfl, hb8⟩
  obtain ⟨hb9, -, -, -⟩ := cell_agg3 w9 0 0 0 31
  have hb10 := hb8.trans (hb9.mono hb8.size)
  have y0 := below_cell hb10 x0
  have y1 := below_cell hb10 x1
  have y2 := below_cell hb10 x2
  have v0 := below_cell hb10 z0
  have v1 := below_cell hb10 z1
  have v2 := below_cell hb10 z2
  have HB9 := Lib.hid (HB8.out.trans (hb10.mono HB8.out.size))
  clear hb8 hb9 hb10 x0 x1 x2 z0 z1 z2
  go_wp2_with fail
  with_reducible refine (seal_is 1 4 64 0 0 1 _ (R64.mk (by omega) (by omega)) ex_e3 (by decide)).mono ?_
  rintro r w10 ⟨rfl, hb8⟩
  obtain ⟨hb9, -, -, -⟩ := cell_agg3 w10 0 0 0 31
  have hb10 := hb8.trans (hb9.mono hb8.size)
  have x0 := below_cell hb10 y0
  have x1 := below_cell hb10 y1
  have x2 := below_cell hb10 y2
  have z0 := below_cell hb10 v0
  have z1 := below_cell hb10 v1
  have z2 := below_cell hb10 v2
  have HB10 := Lib.hid (HB9.out.trans (hb10.mono HB9.out.size))
  clear hb8 hb9 hb10 y0 y1 y2 v0 v1 v2
  go_wp2_with fail
  with_reducible refine (seal_is 1 4 0 0 1073741789 350 _ (R64.mk (by omega) (by omega)) ex_e4 (by decide)).mono ?_
  rintro r w11 ⟨rfl, hb8⟩
  obtain ⟨hb9, -, -, -⟩ := cell_agg3 w11 0 0 0 31
  have hb10 := hb8.trans (hb9.mono hb8.size)
  have y0 := below_cell hb10 x0
  have y1 := below_cell hb10 x1
  have y2 := below_cell hb10 x2
  have v0 := below_cell hb10 z0
  have v1 := below_cell hb10 z1
  have v2 := below_cell hb10 z2
  have HB11 := Lib.hid (HB10.out.trans (hb10.mono HB10.out.size))
  clear hb8 hb9 hb10 x0 x1 x2 z0 z1 z2
  go_wp2_with fail
  with_reducible refine (open_is 1 0 0 0 0 350 _ (R64.mk (by omega) (by omega)) ex_e5 (by decide)).mono ?_
  rintro r w12 ⟨rfl, hb8⟩
  have x0 := below_cell hb8 y0
  have x1 := below_cell hb8 y1
  have x2 := below_cell hb8 y2
  have z0 := below_cell hb8 v0
  have z1 := below_cell hb8 v1
  have z2 := below_cell hb8 v2
  have HB12 := Lib.hid (HB11.out.trans (hb8.mono HB11.out.size))
  clear hb8 y0 y1 y2 v0 v1 v2
  go_wp2_with fail
  rw [HD.out]
  go_ret
  exact ⟨rfl, HB12.out⟩

end Go.Proofs.YteodnbaogfdjbaaDoor

namespace Go.Proofs.YteodnbaogfdjbaaDoor
open Go.RowKit

set_option maxRecDepth 100000 in
set_option maxHeartbeats 1000000 in
theorem ror_any (x n : Nat) (w : World) (hx : x < 4294967296) (hn : n = 2 ∨ n = 6 ∨ n = 7 ∨ n = 11 ∨ n = 13 ∨ n = 17 ∨ n = 18 ∨ n = 19 ∨ n = 22 ∨ n = 25) :
    Calls Tryd.prog 96 #[.int .u32 x, .int .i64 n] w fun e w' => e = .returned (.int .u32 (rotr x n)) ∧ ∃ m, w' = w.drewN m := by
  obtain ⟨s, hs⟩ : ∃ s, n + s = 32 := ⟨32 - n, by omega⟩
  have s1 : 1 ≤ s := by omega
  have s2 : s < 32 := by omega
  have e1 : (32 : Int) - (n : Int) = s := by omega
  have n1 : (0 : Int) ≤ n := by omega
  have n2 : n < 32 := by omega
  have HO : Hid (bits .or .u32 ((x : Int) / 2 ^ n) ((x : Int) * 2 ^ s % 4294967296) = ((rotr x n : Nat) : Int)) := Lib.hid (by
    have h := rot_or x n s hx hs
    rw [show 32 - s = n by omega] at h
    rw [← h]
    have e1 : (x : Int) * 2 ^ s % 4294967296 = ((x * 2 ^ s % 4294967296 : Nat) : Int) := by rw [Int.natCast_emod, Int.natCast_mul, Int.natCast_pow]; rfl
    have e2 : (x : Int) / 2 ^ n = ((x / 2 ^ n : Nat) : Int) := by rw [Int.natCast_ediv, Int.natCast_pow]; rfl
    have h1 : x * 2 ^ s % 4294967296 < 4294967296 := Nat.mod_lt _ (by decide)
    have h2 : x / 2 ^ n < 4294967296 := Nat.lt_of_le_of_lt (Nat.div_le_self _ _) hx
    rw [e1, e2, u32_or_nat _ _ h2 h1, u32_or_nat _ _ h1 h2, Nat.or_comm])
  clear hn
  go_enter Tryd.func96, Tryd.ntmps96
  go_wp2_with fail
  go_quiet (fail)
  go_wp2_with fail
  go_ret
  exact ⟨ret_int HO.out, ⟨_, rfl⟩⟩

theorem word_or (g0 g1 g2 g3 : Nat) (h0 : g0 < 256) (h1 : g1 < 256) (h2 : g2 < 256) (h3 : g3 < 256) :
    bits .or .u32 (bits .or .u32 (bits .or .u32 ((g0 : Int) * 16777216) ((g1 : Int) * 65536)) ((g2 : Int) * 256)) (g3 : Int) = ((wd g0 g1 g2 g3 : Nat) : Int) := by
  have e0 : (g0 : Int) * 16777216 = ((g0 * 16777216 : Nat) : Int) := by omega
  have e1 : (g1 : Int) * 65536 = ((g1 * 65536 : Nat) : Int) := by omega
  have e2 : (g2 : Int) * 256 = ((g2 * 256 : Nat) : Int) := by omega
  rw [e0, e1, e2, u32_or_nat _ _ (by omega) (by omega), nat_join 24 (g0 * 16777216) (g1 * 65536) (by omega) (by omega),
    u32_or_nat _ _ (by omega) (by omega), nat_join 16 (g0 * 16777216 + g1 * 65536) (g2 * 256) (by omega) (by omega),
    u32_or_nat _ _ (by omega) (by omega), nat_join 8 (g0 * 16777216 + g1 * 65536 + g2 * 256) g3 (by omega) (by omega)]
  unfold wd
  omega

set_option maxRecDepth 100000 in
set_option maxHeartbeats 1000000 in
theorem rword_any (a : Addr) (b off n cap : Nat) (ha : a = ⟨b, off, none⟩) (hn : 4 ≤ n) (_hcap : n ≤ cap) (f : Nat → Nat) (hf : ∀ k, f k < 256) (w : World)
    (hc : ∀ k, k < 4 → w.cell? ⟨b, off + k, none⟩ = some (.int .u8 (f k : Nat))) :
    Calls Tryd.prog 95 #[.slice (some a) n cap] w fun e w' => e = .returned (.int .u32 (wd (f 0) (f 1) (f 2) (f 3) : Nat)) ∧ ∃ m, w' = w.drewN m := by
  subst ha
  have f0 := hf 0
  have f1 := hf 1
  have f2 := hf 2
  have f3 := hf 3
  have c0 := hc 0 (by omega)
  have c1 := hc 1 (by omega)
  have c2 := hc 2 (by omega)
  have c3 := hc 3 (by omega)
  clear hc hf
  rw [Nat.add_zero] at c0
  generalize f 0 = g0 at *
  generalize f 1 = g1 at *
  generalize f 2 = g2 at *
  generalize f 3 = g3 at *
  have HO := Lib.hid (word_or g0 g1 g2 g3 f0 f1 f2 f3)
  have k0 : IntKind.u32.wrap (g0 : Int) = g0 := by rw [IntKind.wrap_u32]; omega
  have k1 : IntKind.u32.wrap (g1 : Int) = g1 := by rw [IntKind.wrap_u32]; omega
  have k2 : IntKind.u32.wrap (g2 : Int) = g2 := by rw [IntKind.wrap_u32]; omega
  have k3 : IntKind.u32.wrap (g3 : Int) = g3 := by rw [IntKind.wrap_u32]; omega
  go_enter Tryd.func95, Tryd.ntmps95
  go_wp2_with fail
  go_quiet (fail)
  go_wp2_with fail
  go_ret
  exact ⟨ret_int HO.out, ⟨_, rfl⟩⟩

end Go.Proofs.YteodnbaogfdjbaaDoor
