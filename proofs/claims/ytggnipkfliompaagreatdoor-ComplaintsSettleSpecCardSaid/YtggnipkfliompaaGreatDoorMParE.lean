/- Package parcels: right, opened, Seal. Package parcels: With, Open. -/
import Derived.Test.YtggnipkfliompaaGreatDoorMCoE
namespace Go.Proofs.YtggnipkfliompaaGreatDoor
open Go.RowKit FP

theorem cells3 (w : World) (a b c : Int) (t : TypeId) : ∃ W, W = w.alloc (.cells #[.int .i64 a, .int .i64 b, .int .i64 c] t) ∧ Below w.heap.size w W ∧ W.heap[w.heap.size]? = some (.cells #[.int .i64 a, .int .i64 b, .int .i64 c] t (0, 0)) ∧ w.heap.size < W.heap.size :=
  ⟨_, rfl, below_new _ _ _, World.alloc_heap_new _ _, by simp [go_sem]⟩

set_option maxRecDepth 100000 in
set_option maxHeartbeats 1000000 in
theorem right_any (row pt c : Int) (w : World) (hp : R64 pt) :
    Calls Tryz.prog 131 #[.agg #[.int .i64 row, .int .i64 pt, .int .i64 c]] w (CondR (rightB row pt c) 350 w) := by
  have hmf : ∀ (fn : Fn) (first cap : Array Value) (w : World), (Instr.makeFunc fn first cap).run Tryz.prog w = .ok (.func fn first cap) w := fun _ _ _ _ => rfl
  go_enter Tryz.func131, Tryz.ntmps131
  go_wp2_with fail
  refine bodyPost_ret (v := .agg #[.func (.func 186) #[] #[.pointer (some ⟨w.heap.size, 0, none⟩)], .int .i64 350]) (by simp [results, Tryz.results131, go_sem]) rfl ?_
  refine ⟨_, _, rfl, ⟨goes_right1, fun w' hb => ?_⟩, ?_⟩
  · exact right1_any _ row pt c w' hp (hb.cell (Nat.le_refl _) (by simp [go_sem])) (hb.cell (Nat.le_refl _) (by simp [go_sem])) (hb.cell (Nat.le_refl _) (by simp [go_sem]))
  · repeat (first | exact Below.refl _ _ | refine Below.setCell ?_ (by simp; try omega) _ | refine Below.alloc ?_ (by simp; try omega) _ | refine Below.drew ?_)

set_option maxRecDepth 100000 in
set_option maxHeartbeats 1000000 in
theorem opened_any (d dealer row pt c : Int) (w : World) (hd : R64 d) (hl : R64 dealer) (hr : R64 row) (hc : 0 ≤ c ∧ c ≤ 1073741788) (hG : Glob w) :
    Calls Tryz.prog 132 #[.int .i64 d, .int .i64 dealer, .agg #[.int .i64 row, .int .i64 pt, .int .i64 c]] w fun r w' => r = .returned (.int .i64 (opnV d dealer row c)) ∧ Below w.heap.size w w' := by
  obtain ⟨W1, hW1, hb1, hr1, hz⟩ := cells3 w row pt c 49
  have HW1 := Lib.hid hW1
  have HB1 := Lib.hid hb1
  have c0 : W1.cell? ⟨w.heap.size, 0, none⟩ = some (.int .i64 row) := row_cell hr1 rfl
  have c2 : W1.cell? ⟨w.heap.size, 2, none⟩ = some (.int .i64 c) := row_cell hr1 rfl
  have hg1 := hG.below hb1
  have HG1 : Hid (Glob W1.drew) := Lib.hid ⟨hg1.num, hg1.sta⟩
  have HR : Hid (∀ z ∈ [d, dealer, row], R64 z) := Lib.hid (by intro z hz; simp at hz; rcases hz with rfl | rfl | rfl; exact hd; exact hl; exact hr)
  obtain ⟨p1, p2⟩ := padV_num d dealer row
  obtain ⟨k1, k2⟩ := hc
  have HV : Hid ((IntKind.i64.wrap (IntKind.i64.wrap (c - padV d dealer row) + 1073741789)).tmod 1073741789 = opnV d dealer row c) := Lib.hid (by
    rw [IntWalk.i64_in (c - padV d dealer row) (by omega), IntWalk.i64_in (c - padV d dealer row + 1073741789) (by omega), Int.tmod_eq_emod_of_nonneg (by omega)]; rfl)
  clear hW1 hb1 hr1 hg1 hd hl hr hz hG
  go_enter Tryz.func132, Tryz.ntmps132
  go_wp2_with fail
  rw [← HW1.out]
  go_region_held3 (fun w' => w'.cell? ⟨w.heap.size, 0, none⟩ = some (.int .i64 row) ∧ w'.cell? ⟨w.heap.size, 2, none⟩ = some (.int .i64 c)) (go_keep)
    (first
      | (go_at_call 150; (with_reducible refine (pad_any d dealer row _ HR.out HG1.out).mono ?_); rintro r w2 ⟨rfl, hb2⟩; have s20 : w2.cell? ⟨w.heap.size, 0, none⟩ = some (.int .i64 row) := below_cell hb2 (by assumption); have s22 : w2.cell? ⟨w.heap.size, 2, none⟩ = some (.int .i64 c) := below_cell hb2 (by assumption)))
  rw [HV.out]
  clear p1 p2
  go_wp2_with fail
  go_ret
  exact ⟨rfl, HB1.out.trans (((Below.refl _ _).drew.trans hb2).mono HB1.out.size)⟩

set_option maxRecDepth 100000 in
set_option maxHeartbeats 2000000 in
theorem seal_yes (u key dealer row value : Int) (w : World) (hS : Sealed u key dealer row value) (hG : Glob w) :
    Calls Tryz.prog 70 #[.int .i64 u, .int .i64 key, .int .i64 dealer, .int .i64 row, .int .i64 value] w fun r w' => r = .returned (.tuple #[.agg #[.int .i64 row, .int .i64 (powE 4 u), .int .i64 (cipV u key dealer row value)], .int .i64 0]) ∧ Below w.heap.size w w' := by
  obtain ⟨W1, hW1, hb1, hr1, hz⟩ := cells3 w 0 0 0 49
  have HW1 := Lib.hid hW1
  have hst := fun (a : Addr) (fn : Fn) (x y : Array Value) (w : World) => run_store Tryz.prog w a (.func fn x y) .plain rfl
  have HE : Hid (firstE [(inB u 1 1073741788, 110), (elB key, 100), (inB dealer 0 63, 1), (inB row 0 63, 1), (inB value 0 1073741788, 350)] = 0) := Lib.hid (sealE_ok.2 hS)
  obtain ⟨⟨u1, u2⟩, hk, ⟨l1, l2⟩, ⟨r1, r2⟩, ⟨v1, v2⟩⟩ := hS
  have hu64 : R64 u := ⟨by omega, by omega⟩
  have hk64 := hk.r64
  have HPC : Hid (∀ z ∈ [powE key u, dealer, row], R64 z) := Lib.hid (by intro z hz; simp at hz; rcases hz with rfl | rfl | rfl; exact (el_powE hk u).r64; exact ⟨by omega, by omega⟩; exact ⟨by omega, by omega⟩)
  have HCV : Hid ((value + padV (powE key u) dealer row) % 1073741789 = cipV u key dealer row value) := Lib.hid rfl
  clear hW1
  go_enter Tryz.func70, Tryz.ntmps70
  go_wp2_with fail
  rw [← HW1.out]
  with_reducible refine (secret_any u _).mono ?_
  rintro r w2 ⟨f1, cap1, rfl, hF1, hb2⟩
  have HF1 := Lib.hid hF1
  clear hF1
  go_wp2_with fail
  with_reducible refine (element_any key 100 _ hk64).mono ?_
  rintro r w3 ⟨f2, cap2, rfl, hF2, hb3⟩
  have HF2 := Lib.hid hF2
  clear hF2
  go_wp2_with fail
  with_reducible refine (person_any dealer _).mono ?_
  rintro r w4 ⟨f3, cap3, rfl, hF3, hb4⟩
  have HF3 := Lib.hid hF3
  clear hF3
  go_wp2_with fail
  with_reducible refine (within_any row 0 63 1 _).mono ?_
  rintro r w5 ⟨f4, cap4, rfl, hF4, hb5⟩
  have HF4 := Lib.hid hF4
  clear hF4
  go_wp2_with fail
  with_reducible refine (within_any value 0 1073741788 350 _).mono ?_
  rintro r w6 ⟨f5, cap5, rfl, hF5, hb6⟩
  have k5 := hb6
  have k4 := hb5.trans (hb6.mono hb5.size)
  have k3 := hb4.trans (k4.mono hb4.size)
  have k2 := hb3.trans (k3.mono hb3.size)
  have k1 := hb2.trans (k2.mono hb2.size)
  have k7 := k1.alloc k1.size (.cells #[.func (.func f1) #[] cap1, .int .i64 110, .func (.func f2) #[] cap2, .int .i64 100, .func (.func f3) #[] cap3, .int .i64 1, .func (.func f4) #[] cap4, .int .i64 1, .func (.func f5) #[] cap5, .int .i64 350] 153)
  have HC := Lib.hid (pcheck_any _ _ _ (conds5 w6 153 _ rfl 110 100 1 1 350 (HF1.out.keep (Keep.below k2)) (HF2.out.keep (Keep.below k3)) (HF3.out.keep (Keep.below k4)) (HF4.out.keep (Keep.below k5)) hF5))
  rw [HE.out] at HC
  have K7 := Lib.hid k7
  clear HF1 HF2 HF3 HF4 hF5 hb2 hb3 hb4 hb5 hb6 k1 k2 k3 k4 k5 k7
  go_wp2_with fail
  refine HC.out.mono ?_
  rintro r w8 ⟨rfl, hb8⟩
  have K8 := Lib.hid (K7.out.trans (hb8.mono K7.out.size))
  clear hb8 HC K7
  go_wp2_with fail
  with_reducible refine (pow_yes 4 u _ el_four hu64).mono ?_
  rintro r w9 ⟨rfl, hb9⟩
  have K9 := Lib.hid (K8.out.trans (hb9.mono K8.out.size))
  clear hb9 K8
  go_wp2_with fail
  with_reducible refine (pow_yes key u _ hk hu64).mono ?_
  rintro r w10 ⟨rfl, hb10⟩
  have K10 := Lib.hid (K9.out.trans (hb10.mono K9.out.size))
  have HG10 := Lib.hid (hG.below (hb1.trans (K10.out.mono hb1.size)))
  obtain ⟨p1, p2⟩ := padV_num (powE key u) dealer row
  clear hb10 K9
  go_wp2_with fail
  with_reducible refine (pad_any _ dealer row _ HPC.out HG10.out).mono ?_
  rintro r w11 ⟨rfl, hb11⟩
  have k11 := K10.out.trans (hb11.mono K10.out.size)
  have hr9 := (k11.block _ hz).trans hr1
  have x0 : w11.cell? ⟨w.heap.size, 0, none⟩ = some (.int .i64 0) := row_cell hr9 rfl
  have x1 : w11.cell? ⟨w.heap.size, 1, none⟩ = some (.int .i64 0) := row_cell hr9 rfl
  have x2 : w11.cell? ⟨w.heap.size, 2, none⟩ = some (.int .i64 0) := row_cell hr9 rfl
  have f0 := row_free hr9 0
  have f1' := row_free hr9 1
  have f2' := row_free hr9 2
  have hr10 := row_set (row_set (row_set hr9 0 (.int .i64 row)) 1 (.int .i64 (powE 4 u))) 2 (.int .i64 (cipV u key dealer row value))
  have d0 := row_cell hr10 (k := 0) (v := .int .i64 row) rfl
  have d1 := row_cell hr10 (k := 1) (v := .int .i64 (powE 4 u)) rfl
  have d2 := row_cell hr10 (k := 2) (v := .int .i64 (cipV u key dealer row value)) rfl
  have HB := Lib.hid (hb1.trans (k11.mono hb1.size))
  rw [← HCV.out] at d0 d1 d2
  clear hr10 hr9 k11 hb11 hr1 hb1 hz K10
  go_wp2_with fail
  refine bodyPost_ret (v := .tuple #[.agg #[.int .i64 row, .int .i64 (powE 4 u), .int .i64 (cipV u key dealer row value)], .int .i64 0]) (by rw [← HCV.out]; simp [results, Tryz.results70, go_sem, d0, d1, d2]) rfl ⟨rfl, ?_⟩
  repeat (first | exact HB.out | refine Below.setCell ?_ (by simp) _)

end Go.Proofs.YtggnipkfliompaaGreatDoor

namespace Go.Proofs.YtggnipkfliompaaGreatDoor
open Go.RowKit FP

set_option maxRecDepth 100000 in
set_option maxHeartbeats 2000000 in
theorem with_no (d dealer row pt c : Int) (w : World) (hd : R64 d) (hp : R64 pt) (h : withE d dealer row pt c ≠ 0) :
    Calls Tryz.prog 65 #[.int .i64 d, .int .i64 dealer, .agg #[.int .i64 row, .int .i64 pt, .int .i64 c]] w fun r w' => r = .returned (.tuple #[.int .i64 0, .int .i64 (withE d dealer row pt c)]) ∧ Below w.heap.size w w' := by
  obtain ⟨W1, hW1, hb1, hr1, hz⟩ := cells3 w row pt c 49
  have HW1 := Lib.hid hW1
  have HB1 := Lib.hid hb1
  have x0 : W1.cell? ⟨w.heap.size, 0, none⟩ = some (.int .i64 row) := row_cell hr1 rfl
  have x1 : W1.cell? ⟨w.heap.size, 1, none⟩ = some (.int .i64 pt) := row_cell hr1 rfl
  have x2 : W1.cell? ⟨w.heap.size, 2, none⟩ = some (.int .i64 c) := row_cell hr1 rfl
  obtain ⟨E, hE⟩ : ∃ E, E = withE d dealer row pt c := ⟨_, rfl⟩
  rw [← hE] at h ⊢
  have HE : Hid (firstE [(elB d, 100), (inB dealer 0 63, 1), (rightB row pt c, 350)] = E) := Lib.hid hE.symm
  have h2 : (E != 0) = true := bne_iff_ne.2 h
  clear hW1 hE hr1 hb1 hz
  go_enter Tryz.func65, Tryz.ntmps65
  go_wp2_with fail
  rw [← HW1.out]
  go_region_held3 (fun w' => w'.cell? ⟨w.heap.size, 0, none⟩ = some (.int .i64 row) ∧ w'.cell? ⟨w.heap.size, 1, none⟩ = some (.int .i64 pt) ∧ w'.cell? ⟨w.heap.size, 2, none⟩ = some (.int .i64 c)) (go_keep)
    (first
      | (go_at_call 140; (with_reducible refine (element_any d 100 _ hd).mono ?_); rintro r w2 ⟨f1, cap1, rfl, hF1, hb2⟩; have s10 : w2.cell? ⟨w.heap.size, 0, none⟩ = some (.int .i64 row) := below_cell hb2 (by assumption); have s11 : w2.cell? ⟨w.heap.size, 1, none⟩ = some (.int .i64 pt) := below_cell hb2 (by assumption); have s12 : w2.cell? ⟨w.heap.size, 2, none⟩ = some (.int .i64 c) := below_cell hb2 (by assumption); have HF1 := Lib.hid hF1; clear hF1)
      | (go_at_call 130; (with_reducible refine (person_any dealer _).mono ?_); rintro r w3 ⟨f2, cap2, rfl, hF2, hb3⟩; have s20 : w3.cell? ⟨w.heap.size, 0, none⟩ = some (.int .i64 row) := below_cell hb3 (by assumption); have s21 : w3.cell? ⟨w.heap.size, 1, none⟩ = some (.int .i64 pt) := below_cell hb3 (by assumption); have s22 : w3.cell? ⟨w.heap.size, 2, none⟩ = some (.int .i64 c) := below_cell hb3 (by assumption); have HF2 := Lib.hid hF2; clear hF2)
      | (go_at_call 131; (with_reducible refine (right_any row pt c _ hp).mono ?_); rintro r w4 ⟨f3, cap3, rfl, hF3, hb4⟩; have s30 : w4.cell? ⟨w.heap.size, 0, none⟩ = some (.int .i64 row) := below_cell hb4 (by assumption); have s31 : w4.cell? ⟨w.heap.size, 1, none⟩ = some (.int .i64 pt) := below_cell hb4 (by assumption); have s32 : w4.cell? ⟨w.heap.size, 2, none⟩ = some (.int .i64 c) := below_cell hb4 (by assumption); have HF3 := Lib.hid hF3; clear hF3)
      | (go_at_call 128; (refine (pcheck_any _ _ _ (conds3 _ _ _ rfl 100 1 350 (HF1.out.keep (Keep.below (hb3.trans (hb4.mono hb3.size)))) (HF2.out.keep (Keep.below hb4)) HF3.out)).mono ?_); rintro r w5 ⟨rfl, hb5⟩; have s40 : w5.cell? ⟨w.heap.size, 0, none⟩ = some (.int .i64 row) := below_cell hb5 (below_cell (below_new _ _ _) s30); have s41 : w5.cell? ⟨w.heap.size, 1, none⟩ = some (.int .i64 pt) := below_cell hb5 (below_cell (below_new _ _ _) s31); have s42 : w5.cell? ⟨w.heap.size, 2, none⟩ = some (.int .i64 c) := below_cell hb5 (below_cell (below_new _ _ _) s32)))
  rw [HE.out]
  have h1 : Below W1.heap.size W1 w2 := (Below.refl _ _).drew.trans hb2
  have h3 := h1.trans (hb3.mono h1.size)
  have h4 := h3.trans (hb4.mono h3.size)
  have h5 := h4.alloc h4.size (.cells #[.func (.func f1) #[] cap1, .int .i64 100, .func (.func f2) #[] cap2, .int .i64 1, .func (.func f3) #[] cap3, .int .i64 350] 153)
  have HB := Lib.hid (HB1.out.trans ((h5.trans (hb5.mono h5.size)).mono HB1.out.size))
  clear h1 h3 h4 h5 hb2 hb3 hb4 hb5
  go_wp2_with fail
  go_ret2
  exact ⟨rfl, HB.out⟩

set_option maxRecDepth 100000 in
set_option maxHeartbeats 2000000 in
theorem with_yes (d dealer row pt c : Int) (w : World) (hd : El d) (hl : 0 ≤ dealer ∧ dealer ≤ 63) (hR : RightP row pt c) (hG : Glob w) :
    Calls Tryz.prog 65 #[.int .i64 d, .int .i64 dealer, .agg #[.int .i64 row, .int .i64 pt, .int .i64 c]] w fun r w' => r = .returned (.tuple #[.int .i64 (opnV d dealer row c), .int .i64 0]) ∧ Below w.heap.size w w' := by
  obtain ⟨W1, hW1, hb1, hr1, hz⟩ := cells3 w row pt c 49
  have HW1 := Lib.hid hW1
  have HB1 := Lib.hid hb1
  have x0 : W1.cell? ⟨w.heap.size, 0, none⟩ = some (.int .i64 row) := row_cell hr1 rfl
  have x1 : W1.cell? ⟨w.heap.size, 1, none⟩ = some (.int .i64 pt) := row_cell hr1 rfl
  have x2 : W1.cell? ⟨w.heap.size, 2, none⟩ = some (.int .i64 c) := row_cell hr1 rfl
  have HE : Hid (firstE [(elB d, 100), (inB dealer 0 63, 1), (rightB row pt c, 350)] = 0) := Lib.hid (withE_ok.2 ⟨hd, hl, hR⟩)
  obtain ⟨⟨r1, r2⟩, hpt, hc⟩ := hR
  have hp := hpt.r64
  have hd64 := hd.r64
  have hl64 : R64 dealer := ⟨by omega, by omega⟩
  have hr64 : R64 row := ⟨by omega, by omega⟩
  clear hW1 hr1 hb1 hz r1 r2 hpt hl
  go_enter Tryz.func65, Tryz.ntmps65
  go_wp2_with fail
  rw [← HW1.out]
  go_region_held3 (fun w' => w'.cell? ⟨w.heap.size, 0, none⟩ = some (.int .i64 row) ∧ w'.cell? ⟨w.heap.size, 1, none⟩ = some (.int .i64 pt) ∧ w'.cell? ⟨w.heap.size, 2, none⟩ = some (.int .i64 c)) (go_keep)
    (first
      | (go_at_call 140; (with_reducible refine (element_any d 100 _ hd64).mono ?_); rintro r w2 ⟨f1, cap1, rfl, hF1, hb2⟩; have s10 : w2.cell? ⟨w.heap.size, 0, none⟩ = some (.int .i64 row) := below_cell hb2 (by assumption); have s11 : w2.cell? ⟨w.heap.size, 1, none⟩ = some (.int .i64 pt) := below_cell hb2 (by assumption); have s12 : w2.cell? ⟨w.heap.size, 2, none⟩ = some (.int .i64 c) := below_cell hb2 (by assumption); have HF1 := Lib.hid hF1; clear hF1)
      | (go_at_call 130; (with_reducible refine (person_any dealer _).mono ?_); rintro r w3 ⟨f2, cap2, rfl, hF2, hb3⟩; have s20 : w3.cell? ⟨w.heap.size, 0, none⟩ = some (.int .i64 row) := below_cell hb3 (by assumption); have s21 : w3.cell? ⟨w.heap.size, 1, none⟩ = some (.int .i64 pt) := below_cell hb3 (by assumption); have s22 : w3.cell? ⟨w.heap.size, 2, none⟩ = some (.int .i64 c) := below_cell hb3 (by assumption); have HF2 := Lib.hid hF2; clear hF2)
      | (go_at_call 131; (with_reducible refine (right_any row pt c _ hp).mono ?_); rintro r w4 ⟨f3, cap3, rfl, hF3, hb4⟩; have s30 : w4.cell? ⟨w.heap.size, 0, none⟩ = some (.int .i64 row) := below_cell hb4 (by assumption); have s31 : w4.cell? ⟨w.heap.size, 1, none⟩ = some (.int .i64 pt) := below_cell hb4 (by assumption); have s32 : w4.cell? ⟨w.heap.size, 2, none⟩ = some (.int .i64 c) := below_cell hb4 (by assumption); have HF3 := Lib.hid hF3; clear hF3)
      | (go_at_call 128; (refine (pcheck_any _ _ _ (conds3 _ _ _ rfl 100 1 350 (HF1.out.keep (Keep.below (hb3.trans (hb4.mono hb3.size)))) (HF2.out.keep (Keep.below hb4)) HF3.out)).mono ?_); rintro r w5 ⟨rfl, hb5⟩; have s40 : w5.cell? ⟨w.heap.size, 0, none⟩ = some (.int .i64 row) := below_cell hb5 (below_cell (below_new _ _ _) s30); have s41 : w5.cell? ⟨w.heap.size, 1, none⟩ = some (.int .i64 pt) := below_cell hb5 (below_cell (below_new _ _ _) s31); have s42 : w5.cell? ⟨w.heap.size, 2, none⟩ = some (.int .i64 c) := below_cell hb5 (below_cell (below_new _ _ _) s32)))
  rw [HE.out]
  have h1 : Below W1.heap.size W1 w2 := (Below.refl _ _).drew.trans hb2
  have h3 := h1.trans (hb3.mono h1.size)
  have h4 := h3.trans (hb4.mono h3.size)
  have h5 := h4.alloc h4.size (.cells #[.func (.func f1) #[] cap1, .int .i64 100, .func (.func f2) #[] cap2, .int .i64 1, .func (.func f3) #[] cap3, .int .i64 350] 153)
  have HB := Lib.hid (HB1.out.trans ((h5.trans (hb5.mono h5.size)).mono HB1.out.size))
  have HG5 := Lib.hid (hG.below HB.out)
  clear h1 h3 h4 h5 hb2 hb3 hb4 hb5 hG
  go_wp2_with fail
  with_reducible refine (opened_any d dealer row pt c _ hd64 hl64 hr64 hc HG5.out).mono ?_
  rintro r w6 ⟨rfl, hb6⟩
  go_wp2_with fail
  go_ret2
  exact ⟨rfl, HB.out.trans (hb6.mono HB.out.size)⟩

set_option maxRecDepth 100000 in
set_option maxHeartbeats 2000000 in
theorem open_no (s dealer row pt c : Int) (w : World) (hp : R64 pt) (h : openE s dealer row pt c ≠ 0) :
    Calls Tryz.prog 58 #[.int .i64 s, .int .i64 dealer, .agg #[.int .i64 row, .int .i64 pt, .int .i64 c]] w fun r w' => r = .returned (.tuple #[.int .i64 0, .int .i64 (openE s dealer row pt c)]) ∧ Below w.heap.size w w' := by
  obtain ⟨W1, hW1, hb1, hr1, hz⟩ := cells3 w row pt c 49
  have HW1 := Lib.hid hW1
  have HB1 := Lib.hid hb1
  have x0 : W1.cell? ⟨w.heap.size, 0, none⟩ = some (.int .i64 row) := row_cell hr1 rfl
  have x1 : W1.cell? ⟨w.heap.size, 1, none⟩ = some (.int .i64 pt) := row_cell hr1 rfl
  have x2 : W1.cell? ⟨w.heap.size, 2, none⟩ = some (.int .i64 c) := row_cell hr1 rfl
  obtain ⟨E, hE⟩ : ∃ E, E = openE s dealer row pt c := ⟨_, rfl⟩
  rw [← hE] at h ⊢
  have HE : Hid (firstE [(inB s 1 1073741788, 110), (inB dealer 0 63, 1), (rightB row pt c, 350)] = E) := Lib.hid hE.symm
  have h2 : (E != 0) = true := bne_iff_ne.2 h
  clear hW1 hE hr1 hb1 hz
  go_enter Tryz.func58, Tryz.ntmps58
  go_wp2_with fail
  rw [← HW1.out]
  go_region_held3 (fun w' => w'.cell? ⟨w.heap.size, 0, none⟩ = some (.int .i64 row) ∧ w'.cell? ⟨w.heap.size, 1, none⟩ = some (.int .i64 pt) ∧ w'.cell? ⟨w.heap.size, 2, none⟩ = some (.int .i64 c)) (go_keep)
    (first
      | (go_at_call 129; (with_reducible refine (secret_any s _).mono ?_); rintro r w2 ⟨f1, cap1, rfl, hF1, hb2⟩; have s10 : w2.cell? ⟨w.heap.size, 0, none⟩ = some (.int .i64 row) := below_cell hb2 (by assumption); have s11 : w2.cell? ⟨w.heap.size, 1, none⟩ = some (.int .i64 pt) := below_cell hb2 (by assumption); have s12 : w2.cell? ⟨w.heap.size, 2, none⟩ = some (.int .i64 c) := below_cell hb2 (by assumption); have HF1 := Lib.hid hF1; clear hF1)
      | (go_at_call 130; (with_reducible refine (person_any dealer _).mono ?_); rintro r w3 ⟨f2, cap2, rfl, hF2, hb3⟩; have s20 : w3.cell? ⟨w.heap.size, 0, none⟩ = some (.int .i64 row) := below_cell hb3 (by assumption); have s21 : w3.cell? ⟨w.heap.size, 1, none⟩ = some (.int .i64 pt) := below_cell hb3 (by assumption); have s22 : w3.cell? ⟨w.heap.size, 2, none⟩ = some (.int .i64 c) := below_cell hb3 (by assumption); have HF2 := Lib.hid hF2; clear hF2)
      | (go_at_call 131; (with_reducible refine (right_any row pt c _ hp).mono ?_); rintro r w4 ⟨f3, cap3, rfl, hF3, hb4⟩; have s30 : w4.cell? ⟨w.heap.size, 0, none⟩ = some (.int .i64 row) := below_cell hb4 (by assumption); have s31 : w4.cell? ⟨w.heap.size, 1, none⟩ = some (.int .i64 pt) := below_cell hb4 (by assumption); have s32 : w4.cell? ⟨w.heap.size, 2, none⟩ = some (.int .i64 c) := below_cell hb4 (by assumption); have HF3 := Lib.hid hF3; clear hF3)
      | (go_at_call 128; (refine (pcheck_any _ _ _ (conds3 _ _ _ rfl 110 1 350 (HF1.out.keep (Keep.below (hb3.trans (hb4.mono hb3.size)))) (HF2.out.keep (Keep.below hb4)) HF3.out)).mono ?_); rintro r w5 ⟨rfl, hb5⟩; have s40 : w5.cell? ⟨w.heap.size, 0, none⟩ = some (.int .i64 row) := below_cell hb5 (below_cell (below_new _ _ _) s30); have s41 : w5.cell? ⟨w.heap.size, 1, none⟩ = some (.int .i64 pt) := below_cell hb5 (below_cell (below_new _ _ _) s31); have s42 : w5.cell? ⟨w.heap.size, 2, none⟩ = some (.int .i64 c) := below_cell hb5 (below_cell (below_new _ _ _) s32)))
  rw [HE.out]
  have h1 : Below W1.heap.size W1 w2 := (Below.refl _ _).drew.trans hb2
  have h3 := h1.trans (hb3.mono h1.size)
  have h4 := h3.trans (hb4.mono h3.size)
  have h5 := h4.alloc h4.size (.cells #[.func (.func f1) #[] cap1, .int .i64 110, .func (.func f2) #[] cap2, .int .i64 1, .func (.func f3) #[] cap3, .int .i64 350] 153)
  have HB := Lib.hid (HB1.out.trans ((h5.trans (hb5.mono h5.size)).mono HB1.out.size))
  clear h1 h3 h4 h5 hb2 hb3 hb4 hb5
  go_wp2_with fail
  go_ret2
  exact ⟨rfl, HB.out⟩

set_option maxRecDepth 100000 in
set_option maxHeartbeats 2000000 in
theorem open_yes (s dealer row pt c : Int) (w : World) (hs : 1 ≤ s ∧ s ≤ 1073741788) (hl : 0 ≤ dealer ∧ dealer ≤ 63) (hR : RightP row pt c) (hG : Glob w) :
    Calls Tryz.prog 58 #[.int .i64 s, .int .i64 dealer, .agg #[.int .i64 row, .int .i64 pt, .int .i64 c]] w fun r w' => r = .returned (.tuple #[.int .i64 (opnV (powE pt s) dealer row c), .int .i64 0]) ∧ Below w.heap.size w w' := by
  obtain ⟨W1, hW1, hb1, hr1, hz⟩ := cells3 w row pt c 49
  have HW1 := Lib.hid hW1
  have HB1 := Lib.hid hb1
  have x0 : W1.cell? ⟨w.heap.size, 0, none⟩ = some (.int .i64 row) := row_cell hr1 rfl
  have x1 : W1.cell? ⟨w.heap.size, 1, none⟩ = some (.int .i64 pt) := row_cell hr1 rfl
  have x2 : W1.cell? ⟨w.heap.size, 2, none⟩ = some (.int .i64 c) := row_cell hr1 rfl
  have HE : Hid (firstE [(inB s 1 1073741788, 110), (inB dealer 0 63, 1), (rightB row pt c, 350)] = 0) := Lib.hid (openE_ok.2 ⟨hs, hl, hR⟩)
  obtain ⟨⟨r1, r2⟩, hpt, hc⟩ := hR
  have hp := hpt.r64
  have hs64 : R64 s := ⟨by omega, by omega⟩
  have hl64 : R64 dealer := ⟨by omega, by omega⟩
  have hr64 : R64 row := ⟨by omega, by omega⟩
  have hd64 := (el_powE hpt s).r64
  clear hW1 hr1 hb1 hz r1 r2 hl hs
  go_enter Tryz.func58, Tryz.ntmps58
  go_wp2_with fail
  rw [← HW1.out]
  go_region_held3 (fun w' => w'.cell? ⟨w.heap.size, 0, none⟩ = some (.int .i64 row) ∧ w'.cell? ⟨w.heap.size, 1, none⟩ = some (.int .i64 pt) ∧ w'.cell? ⟨w.heap.size, 2, none⟩ = some (.int .i64 c)) (go_keep)
    (first
      | (go_at_call 129; (with_reducible refine (secret_any s _).mono ?_); rintro r w2 ⟨f1, cap1, rfl, hF1, hb2⟩; have s10 : w2.cell? ⟨w.heap.size, 0, none⟩ = some (.int .i64 row) := below_cell hb2 (by assumption); have s11 : w2.cell? ⟨w.heap.size, 1, none⟩ = some (.int .i64 pt) := below_cell hb2 (by assumption); have s12 : w2.cell? ⟨w.heap.size, 2, none⟩ = some (.int .i64 c) := below_cell hb2 (by assumption); have HF1 := Lib.hid hF1; clear hF1)
      | (go_at_call 130; (with_reducible refine (person_any dealer _).mono ?_); rintro r w3 ⟨f2, cap2, rfl, hF2, hb3⟩; have s20 : w3.cell? ⟨w.heap.size, 0, none⟩ = some (.int .i64 row) := below_cell hb3 (by assumption); have s21 : w3.cell? ⟨w.heap.size, 1, none⟩ = some (.int .i64 pt) := below_cell hb3 (by assumption); have s22 : w3.cell? ⟨w.heap.size, 2, none⟩ = some (.int .i64 c) := below_cell hb3 (by assumption); have HF2 := Lib.hid hF2; clear hF2)
      | (go_at_call 131; (with_reducible refine (right_any row pt c _ hp).mono ?_); rintro r w4 ⟨f3, cap3, rfl, hF3, hb4⟩; have s30 : w4.cell? ⟨w.heap.size, 0, none⟩ = some (.int .i64 row) := below_cell hb4 (by assumption); have s31 : w4.cell? ⟨w.heap.size, 1, none⟩ = some (.int .i64 pt) := below_cell hb4 (by assumption); have s32 : w4.cell? ⟨w.heap.size, 2, none⟩ = some (.int .i64 c) := below_cell hb4 (by assumption); have HF3 := Lib.hid hF3; clear hF3)
      | (go_at_call 128; (refine (pcheck_any _ _ _ (conds3 _ _ _ rfl 110 1 350 (HF1.out.keep (Keep.below (hb3.trans (hb4.mono hb3.size)))) (HF2.out.keep (Keep.below hb4)) HF3.out)).mono ?_); rintro r w5 ⟨rfl, hb5⟩; have s40 : w5.cell? ⟨w.heap.size, 0, none⟩ = some (.int .i64 row) := below_cell hb5 (below_cell (below_new _ _ _) s30); have s41 : w5.cell? ⟨w.heap.size, 1, none⟩ = some (.int .i64 pt) := below_cell hb5 (below_cell (below_new _ _ _) s31); have s42 : w5.cell? ⟨w.heap.size, 2, none⟩ = some (.int .i64 c) := below_cell hb5 (below_cell (below_new _ _ _) s32)))
  rw [HE.out]
  have h1 : Below W1.heap.size W1 w2 := (Below.refl _ _).drew.trans hb2
  have h3 := h1.trans (hb3.mono h1.size)
  have h4 := h3.trans (hb4.mono h3.size)
  have h5 := h4.alloc h4.size (.cells #[.func (.func f1) #[] cap1, .int .i64 110, .func (.func f2) #[] cap2, .int .i64 1, .func (.func f3) #[] cap3, .int .i64 350] 153)
  have HB := Lib.hid (HB1.out.trans ((h5.trans (hb5.mono h5.size)).mono HB1.out.size))
  have hg5 := hG.below HB.out
  have e0 := s40
  have e1 := s41
  have e2 := s42
  clear h1 h3 h4 h5 hb2 hb3 hb4 hb5 hG HE HF1 HF2 HF3
  go_wp2_with fail
  with_reducible refine (pow_yes pt s _ hpt hs64).mono ?_
  rintro r w6 ⟨rfl, hb6⟩
  have HG6 := Lib.hid (hg5.below hb6)
  have HB6 := Lib.hid (HB.out.trans (hb6.mono HB.out.size))
  have g0 := below_cell hb6 e0
  have g1 := below_cell hb6 e1
  have g2 := below_cell hb6 e2
  clear hb6 hg5
  go_wp2_with fail
  with_reducible refine (opened_any (powE pt s) dealer row pt c _ hd64 hl64 hr64 hc HG6.out).mono ?_
  rintro r w7 ⟨rfl, hb7⟩
  go_wp2_with fail
  go_ret2
  exact ⟨rfl, HB6.out.trans (hb7.mono HB6.out.size)⟩

end Go.Proofs.YtggnipkfliompaaGreatDoor
