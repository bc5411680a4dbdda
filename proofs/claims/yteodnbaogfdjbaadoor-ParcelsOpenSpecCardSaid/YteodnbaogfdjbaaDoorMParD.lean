/- Package parcels: Seal, Open, With. Package parcels: right, opened, Seal. -/
import Derived.Test.YteodnbaogfdjbaaDoorMEqD
import Derived.Deep.RegionWith
namespace Go.Proofs.YteodnbaogfdjbaaDoor
open Go.RowKit FP

set_option maxRecDepth 100000 in
set_option maxHeartbeats 1000000 in
theorem secret_any (n : Int) (w : World) :
    Calls Tryd.prog 36 #[.int .i64 n] w (CondR (inB n 1 1073741788) 110 w) := by
  have hb0 := below_new w #[.nilFunc, .int .i64 0] 52
  go_enter Tryd.func36, Tryd.ntmps36
  go_wp2_with fail
  refine (within_any n 1 1073741788 110 _).mono ?_
  rintro r w1 ⟨f, cap, rfl, hF, hb⟩
  have hr := (hb.block w.heap.size (by simp)).trans (World.alloc_heap_new w (.cells #[.nilFunc, .int .i64 0] 52))
  have x0 : w1.cell? ⟨w.heap.size, 0, none⟩ = some .nilFunc := row_cell hr rfl
  have x1 : w1.cell? ⟨w.heap.size, 1, none⟩ = some (.int .i64 0) := row_cell hr rfl
  have f0 := row_free hr 0
  have f1 := row_free hr 1
  have hb2 := hb0.trans (hb.mono hb0.size)
  have hr4 := row_set (row_set hr 0 (.func (.func f) #[] cap)) 1 (.int .i64 110)
  have d0 := row_cell hr4 (k := 0) (v := .func (.func f) #[] cap) rfl
  have d1 := row_cell hr4 (k := 1) (v := .int .i64 110) rfl
  have HF := Lib.hid hF
  clear hF hb hb0 hr4
  go_wp2_with fail
  refine bodyPost_ret (v := .agg #[.func (.func f) #[] cap, .int .i64 110]) (by simp [results, Tryd.results36, go_sem, d0, d1]) rfl ?_
  refine ⟨f, cap, rfl, ?_, ?_⟩
  · exact (HF.out.keep (((Keep.refl _ _).setCell (by simp) _).setCell (by simp) _)).low (by simp)
  · exact (hb2.setCell (Nat.le_refl _) _).setCell (Nat.le_refl _) _

set_option maxRecDepth 100000 in
set_option maxHeartbeats 1000000 in
theorem person_any (n : Int) (w : World) :
    Calls Tryd.prog 38 #[.int .i64 n] w (CondR (inB n 0 63) 1 w) := by
  have hb0 := below_new w #[.nilFunc, .int .i64 0] 52
  go_enter Tryd.func38, Tryd.ntmps38
  go_wp2_with fail
  refine (within_any n 0 63 1 _).mono ?_
  rintro r w1 ⟨f, cap, rfl, hF, hb⟩
  have hr := (hb.block w.heap.size (by simp)).trans (World.alloc_heap_new w (.cells #[.nilFunc, .int .i64 0] 52))
  have x0 : w1.cell? ⟨w.heap.size, 0, none⟩ = some .nilFunc := row_cell hr rfl
  have x1 : w1.cell? ⟨w.heap.size, 1, none⟩ = some (.int .i64 0) := row_cell hr rfl
  have f0 := row_free hr 0
  have f1 := row_free hr 1
  have hb2 := hb0.trans (hb.mono hb0.size)
  have hr4 := row_set (row_set hr 0 (.func (.func f) #[] cap)) 1 (.int .i64 1)
  have d0 := row_cell hr4 (k := 0) (v := .func (.func f) #[] cap) rfl
  have d1 := row_cell hr4 (k := 1) (v := .int .i64 1) rfl
  have HF := Lib.hid hF
  clear hF hb hb0 hr4
  go_wp2_with fail
  refine bodyPost_ret (v := .agg #[.func (.func f) #[] cap, .int .i64 1]) (by simp [results, Tryd.results38, go_sem, d0, d1]) rfl ?_
  refine ⟨f, cap, rfl, ?_, ?_⟩
  · exact (HF.out.keep (((Keep.refl _ _).setCell (by simp) _).setCell (by simp) _)).low (by simp)
  · exact (hb2.setCell (Nat.le_refl _) _).setCell (Nat.le_refl _) _

theorem conds3 (w : World) (t : TypeId) (B : Nat) (hB : w.heap.size = B) {lo1 lo2 lo3 : Nat} {f1 f2 f3 : FuncId} {cap1 cap2 cap3 : Array Value} {b1 b2 b3 : Bool} (e1 e2 e3 : Int) (h1 : CondF lo1 w f1 cap1 b1) (h2 : CondF lo2 w f2 cap2 b2) (h3 : CondF lo3 w f3 cap3 b3) :
    Conds (w.alloc (.cells #[.func (.func f1) #[] cap1, .int .i64 e1, .func (.func f2) #[] cap2, .int .i64 e2, .func (.func f3) #[] cap3, .int .i64 e3] t)) (.slice (some ⟨B, 0, none⟩) 3 3) [(b1, e1), (b2, e2), (b3, e3)] := by
  subst hB
  have hr := World.alloc_heap_new w (.cells #[.func (.func f1) #[] cap1, .int .i64 e1, .func (.func f2) #[] cap2, .int .i64 e2, .func (.func f3) #[] cap3, .int .i64 e3] t)
  have hk : ∀ lo, Keep lo w (w.alloc (.cells #[.func (.func f1) #[] cap1, .int .i64 e1, .func (.func f2) #[] cap2, .int .i64 e2, .func (.func f3) #[] cap3, .int .i64 e3] t)) := fun lo => Keep.below (below_new _ _ _)
  refine ⟨_, 0, 3, rfl, by simp, by simp, fun k hk' => ?_⟩
  match k, hk' with
  | 0, _ => exact ⟨lo1, f1, cap1, row_cell hr rfl, row_cell hr rfl, h1.keep (hk _)⟩
  | 1, _ => exact ⟨lo2, f2, cap2, row_cell hr rfl, row_cell hr rfl, h2.keep (hk _)⟩
  | 2, _ => exact ⟨lo3, f3, cap3, row_cell hr rfl, row_cell hr rfl, h3.keep (hk _)⟩
theorem conds5 (w : World) (t : TypeId) (B : Nat) (hB : w.heap.size = B) {lo1 lo2 lo3 lo4 lo5 : Nat} {f1 f2 f3 f4 f5 : FuncId} {cap1 cap2 cap3 cap4 cap5 : Array Value} {b1 b2 b3 b4 b5 : Bool} (e1 e2 e3 e4 e5 : Int) (h1 : CondF lo1 w f1 cap1 b1) (h2 : CondF lo2 w f2 cap2 b2) (h3 : CondF lo3 w f3 cap3 b3) (h4 : CondF lo4 w f4 cap4 b4) (h5 : CondF lo5 w f5 cap5 b5) :
    Conds (w.alloc (.cells #[.func (.func f1) #[] cap1, .int .i64 e1, .func (.func f2) #[] cap2, .int .i64 e2, .func (.func f3) #[] cap3, .int .i64 e3, .func (.func f4) #[] cap4, .int .i64 e4, .func (.func f5) #[] cap5, .int .i64 e5] t)) (.slice (some ⟨B, 0, none⟩) 5 5) [(b1, e1), (b2, e2), (b3, e3), (b4, e4), (b5, e5)] := by
  subst hB
  have hr := World.alloc_heap_new w (.cells #[.func (.func f1) #[] cap1, .int .i64 e1, .func (.func f2) #[] cap2, .int .i64 e2, .func (.func f3) #[] cap3, .int .i64 e3, .func (.func f4) #[] cap4, .int .i64 e4, .func (.func f5) #[] cap5, .int .i64 e5] t)
  have hk : ∀ lo, Keep lo w (w.alloc (.cells #[.func (.func f1) #[] cap1, .int .i64 e1, .func (.func f2) #[] cap2, .int .i64 e2, .func (.func f3) #[] cap3, .int .i64 e3, .func (.func f4) #[] cap4, .int .i64 e4, .func (.func f5) #[] cap5, .int .i64 e5] t)) := fun lo => Keep.below (below_new _ _ _)
  refine ⟨_, 0, 5, rfl, by simp, by simp, fun k hk' => ?_⟩
  match k, hk' with
  | 0, _ => exact ⟨lo1, f1, cap1, row_cell hr rfl, row_cell hr rfl, h1.keep (hk _)⟩
  | 1, _ => exact ⟨lo2, f2, cap2, row_cell hr rfl, row_cell hr rfl, h2.keep (hk _)⟩
  | 2, _ => exact ⟨lo3, f3, cap3, row_cell hr rfl, row_cell hr rfl, h3.keep (hk _)⟩
  | 3, _ => exact ⟨lo4, f4, cap4, row_cell hr rfl, row_cell hr rfl, h4.keep (hk _)⟩
  | 4, _ => exact ⟨lo5, f5, cap5, row_cell hr rfl, row_cell hr rfl, h5.keep (hk _)⟩

set_option maxRecDepth 100000 in
set_option maxHeartbeats 2000000 in
theorem right1_any (xb : Nat) (row pt c : Int) (w : World) (hp : R64 pt) (x0 : w.cell? ⟨xb, 0, none⟩ = some (.int .i64 row)) (x1 : w.cell? ⟨xb, 1, none⟩ = some (.int .i64 pt)) (x2 : w.cell? ⟨xb, 2, none⟩ = some (.int .i64 c)) :
    Calls Tryd.prog 68 #[.pointer (some ⟨xb, 0, none⟩)] w fun r w' => r = .returned (.bool (rightB row pt c)) ∧ Below w.heap.size w w' := by
  have HV := Lib.hid (rightB_first row pt c)
  have hst := fun (a : Addr) (fn : Fn) (x y : Array Value) (w : World) => run_store Tryd.prog w a (.func fn x y) .plain rfl
  go_enter Tryd.func68, Tryd.ntmps68
  go_wp2_with fail
  go_region_held3 (fun w' => w'.cell? ⟨xb, 0, none⟩ = some (.int .i64 row) ∧ w'.cell? ⟨xb, 1, none⟩ = some (.int .i64 pt) ∧ w'.cell? ⟨xb, 2, none⟩ = some (.int .i64 c)) (go_keep)
    (first
      | (go_at_call 39; (with_reducible refine (within_any row 0 63 350 _).mono ?_); rintro r w1 ⟨f1, cap1, rfl, hF1, hb1⟩; have s10 : w1.cell? ⟨xb, 0, none⟩ = some (.int .i64 row) := below_cell hb1 (by assumption); have s11 : w1.cell? ⟨xb, 1, none⟩ = some (.int .i64 pt) := below_cell hb1 (by assumption); have s12 : w1.cell? ⟨xb, 2, none⟩ = some (.int .i64 c) := below_cell hb1 (by assumption); have HF1 := Lib.hid hF1; clear hF1)
      | (go_at_call 37; (with_reducible refine (element_any pt 350 _ hp).mono ?_); rintro r w2 ⟨f2, cap2, rfl, hF2, hb2⟩; have s20 : w2.cell? ⟨xb, 0, none⟩ = some (.int .i64 row) := below_cell hb2 (by assumption); have s21 : w2.cell? ⟨xb, 1, none⟩ = some (.int .i64 pt) := below_cell hb2 (by assumption); have s22 : w2.cell? ⟨xb, 2, none⟩ = some (.int .i64 c) := below_cell hb2 (by assumption); have HF2 := Lib.hid hF2; clear hF2)
      | (go_at_call 39; (with_reducible refine (within_any c 0 1073741788 350 _).mono ?_); rintro r w3 ⟨f3, cap3, rfl, hF3, hb3⟩; have s30 : w3.cell? ⟨xb, 0, none⟩ = some (.int .i64 row) := below_cell hb3 (by assumption); have s31 : w3.cell? ⟨xb, 1, none⟩ = some (.int .i64 pt) := below_cell hb3 (by assumption); have s32 : w3.cell? ⟨xb, 2, none⟩ = some (.int .i64 c) := below_cell hb3 (by assumption); have HF3 := Lib.hid hF3; clear hF3)
      | (go_at_call 35; (refine (pcheck_any _ _ _ (conds3 _ _ _ rfl 350 350 350 (HF1.out.keep (Keep.below (hb2.trans (hb3.mono hb2.size)))) (HF2.out.keep (Keep.below hb3)) HF3.out)).mono ?_); rintro r w4 ⟨rfl, hb4⟩; have s40 : w4.cell? ⟨xb, 0, none⟩ = some (.int .i64 row) := below_cell hb4 (below_cell (below_new _ _ _) s30); have s41 : w4.cell? ⟨xb, 1, none⟩ = some (.int .i64 pt) := below_cell hb4 (below_cell (below_new _ _ _) s31); have s42 : w4.cell? ⟨xb, 2, none⟩ = some (.int .i64 c) := below_cell hb4 (below_cell (below_new _ _ _) s32)))
  go_wp2_with fail
  go_ret
  refine ⟨ret_bool HV.out, ?_⟩
  have h1 : Below w.heap.size w w1 := (Below.refl _ _).drew.trans hb1
  have h2 := h1.trans (hb2.mono h1.size)
  have h3 := h2.trans (hb3.mono h2.size)
  have h4 := h3.alloc h3.size (.cells #[.func (.func f1) #[] cap1, .int .i64 350, .func (.func f2) #[] cap2, .int .i64 350, .func (.func f3) #[] cap3, .int .i64 350] 52)
  exact h4.trans (hb4.mono h4.size)


end Go.Proofs.YteodnbaogfdjbaaDoor

namespace Go.Proofs.YteodnbaogfdjbaaDoor
open Go.RowKit FP

theorem cells3 (w : World) (a b c : Int) (t : TypeId) : ∃ W, W = w.alloc (.cells #[.int .i64 a, .int .i64 b, .int .i64 c] t) ∧ Below w.heap.size w W ∧ W.heap[w.heap.size]? = some (.cells #[.int .i64 a, .int .i64 b, .int .i64 c] t (0, 0)) ∧ w.heap.size < W.heap.size :=
  ⟨_, rfl, below_new _ _ _, World.alloc_heap_new _ _, by simp [go_sem]⟩

set_option maxRecDepth 100000 in
set_option maxHeartbeats 1000000 in
theorem right_any (row pt c : Int) (w : World) (hp : R64 pt) :
    Calls Tryd.prog 47 #[.agg #[.int .i64 row, .int .i64 pt, .int .i64 c]] w (CondR (rightB row pt c) 350 w) := by
  have hmf : ∀ (fn : Fn) (first cap : Array Value) (w : World), (Instr.makeFunc fn first cap).run Tryd.prog w = .ok (.func fn first cap) w := fun _ _ _ _ => rfl
  go_enter Tryd.func47, Tryd.ntmps47
  go_wp2_with fail
  refine bodyPost_ret (v := .agg #[.func (.func 68) #[] #[.pointer (some ⟨w.heap.size, 0, none⟩)], .int .i64 350]) (by simp [results, Tryd.results47, go_sem]) rfl ?_
  refine ⟨_, _, rfl, ⟨goes_right1, fun w' hb => ?_⟩, ?_⟩
  · exact right1_any _ row pt c w' hp (hb.cell (Nat.le_refl _) (by simp [go_sem])) (hb.cell (Nat.le_refl _) (by simp [go_sem])) (hb.cell (Nat.le_refl _) (by simp [go_sem]))
  · repeat (first | exact Below.refl _ _ | refine Below.setCell ?_ (by simp; try omega) _ | refine Below.alloc ?_ (by simp; try omega) _ | refine Below.drew ?_)

set_option maxRecDepth 100000 in
set_option maxHeartbeats 1000000 in
theorem opened_any (d dealer row pt c : Int) (w : World) (hd : R64 d) (hl : R64 dealer) (hr : R64 row) (hc : 0 ≤ c ∧ c ≤ 1073741788) (hG : Glob w) :
    Calls Tryd.prog 48 #[.int .i64 d, .int .i64 dealer, .agg #[.int .i64 row, .int .i64 pt, .int .i64 c]] w fun r w' => r = .returned (.int .i64 (opnV d dealer row c)) ∧ Below w.heap.size w w' := by
  obtain ⟨W1, hW1, hb1, hr1, hz⟩ := cells3 w row pt c 31
  have HW1 := Lib.hid hW1
  have HB1 := Lib.hid hb1
  have c0 : W1.cell? ⟨w.heap.size, 0, none⟩ = some (.int .i64 row) := row_cell hr1 rfl
  have c2 : W1.cell? ⟨w.heap.size, 2, none⟩ = some (.int .i64 c) := row_cell hr1 rfl
  have hg1 := hG.below hb1
  have HG1 : Hid (Glob W1.drew) := Lib.hid ⟨hg1.num, hg1.sta⟩
  have HR : Hid (∀ z ∈ [d, dealer, row], R64 z) := Lib.hid (by intro z hz; simp at hz; rcases hz with rfl | rfl | rfl; exact hd; exact hl; exact hr)
  obtain ⟨p1, p2⟩ := padV_num d dealer row
  obtain ⟨k1, k2⟩ := hc
  have HV : Hid ((IntKind.i64.wrap (IntKind.i64.wrap (c - padV d dealer row) + 1073741789)).tmod 1073741789 = opnV d dealer row c) := Lib.hid (by
    rw [IntWalk.i64_in (c - padV d dealer row) (by omega), IntWalk.i64_in (c - padV d dealer row + 1073741789) (by omega), Int.tmod_eq_emod_of_nonneg (by omega)]; rfl)
  clear hW1 hb1 hr1 hg1 hd hl hr hz hG
  go_enter Tryd.func48, Tryd.ntmps48
  go_wp2_with fail
  rw [← HW1.out]
  go_region_held3 (fun w' => w'.cell? ⟨w.heap.size, 0, none⟩ = some (.int .i64 row) ∧ w'.cell? ⟨w.heap.size, 2, none⟩ = some (.int .i64 c)) (go_keep)
    (first
      | (go_at_call 40; (with_reducible refine (pad_any d dealer row _ HR.out HG1.out).mono ?_); rintro r w2 ⟨rfl, hb2⟩; have s20 : w2.cell? ⟨w.heap.size, 0, none⟩ = some (.int .i64 row) := below_cell hb2 (by assumption); have s22 : w2.cell? ⟨w.heap.size, 2, none⟩ = some (.int .i64 c) := below_cell hb2 (by assumption)))
  rw [HV.out]
  clear p1 p2
  go_wp2_with fail
  go_ret
  exact ⟨rfl, HB1.out.trans (((Below.refl _ _).drew.trans hb2).mono HB1.out.size)⟩

set_option maxRecDepth 100000 in
set_option maxHeartbeats 2000000 in
theorem seal_no (u key dealer row value : Int) (w : World) (hk : R64 key) (h : sealE u key dealer row value ≠ 0) :
    Calls Tryd.prog 12 #[.int .i64 u, .int .i64 key, .int .i64 dealer, .int .i64 row, .int .i64 value] w fun r w' => r = .returned (.tuple #[.agg #[.int .i64 0, .int .i64 0, .int .i64 0], .int .i64 (sealE u key dealer row value)]) ∧ Below w.heap.size w w' := by
  obtain ⟨W1, hW1, hb1, hr1, hz⟩ := cells3 w 0 0 0 31
  have HW1 := Lib.hid hW1
  have hst := fun (a : Addr) (fn : Fn) (x y : Array Value) (w : World) => run_store Tryd.prog w a (.func fn x y) .plain rfl
  obtain ⟨E, hE⟩ : ∃ E, E = sealE u key dealer row value := ⟨_, rfl⟩
  rw [← hE] at h ⊢
  have HE : Hid (firstE [(inB u 1 1073741788, 110), (elB key, 100), (inB dealer 0 63, 1), (inB row 0 63, 1), (inB value 0 1073741788, 350)] = E) := Lib.hid hE.symm
  have h2 : (E != 0) = true := bne_iff_ne.2 h
  clear hW1 hE
  go_enter Tryd.func12, Tryd.ntmps12
  go_wp2_with fail
  rw [← HW1.out]
  with_reducible refine (secret_any u _).mono ?_
  rintro r w2 ⟨f1, cap1, rfl, hF1, hb2⟩
  have HF1 := Lib.hid hF1
  clear hF1
  go_wp2_with fail
  with_reducible refine (element_any key 100 _ hk).mono ?_
  rintro r w3 ⟨f2, cap2, rfl, hF2, hb3⟩
  have HF2 := Lib.hid hF2
  clear hF2
  go_wp2_with fail
  with_reducible refine (person_any dealer _).mono ?_
  rintro r w4 ⟨f3, cap3, rfl, hF3, hb4⟩
  have HF3 := Lib.hid hF3
  clear hF3
  go_wp2_with fail
  with_reducible refine (within_any row 0 63 1 _).mono ?_
  rintro r w5 ⟨f4, cap4, rfl, hF4, hb5⟩
  have HF4 := Lib.hid hF4
  clear hF4
  go_wp2_with fail
  with_reducible refine (within_any value 0 1073741788 350 _).mono ?_
  rintro r w6 ⟨f5, cap5, rfl, hF5, hb6⟩
  have k5 := hb6
  have k4 := hb5.trans (hb6.mono hb5.size)
  have k3 := hb4.trans (k4.mono hb4.size)
  have k2 := hb3.trans (k3.mono hb3.size)
  have k1 := hb2.trans (k2.mono hb2.size)
  have k7 := k1.alloc k1.size (.cells #[.func (.func f1) #[] cap1, .int .i64 110, .func (.func f2) #[] cap2, .int .i64 100, .func (.func f3) #[] cap3, .int .i64 1, .func (.func f4) #[] cap4, .int .i64 1, .func (.func f5) #[] cap5, .int .i64 350] 52)
  have HC := Lib.hid (pcheck_any _ _ _ (conds5 w6 52 _ rfl 110 100 1 1 350 (HF1.out.keep (Keep.below k2)) (HF2.out.keep (Keep.below k3)) (HF3.out.keep (Keep.below k4)) (HF4.out.keep (Keep.below k5)) hF5))
  rw [HE.out] at HC
  have K7 := Lib.hid k7
  clear HF1 HF2 HF3 HF4 hF5 hb2 hb3 hb4 hb5 hb6 k1 k2 k3 k4 k5 k7
  go_wp2_with fail
  refine HC.out.mono ?_
  rintro r w8 ⟨rfl, hb8⟩
  have hb9 := K7.out.trans (hb8.mono K7.out.size)
  have hr9 := (hb9.block _ hz).trans hr1
  have x0 : w8.cell? ⟨w.heap.size, 0, none⟩ = some (.int .i64 0) := row_cell hr9 rfl
  have x1 : w8.cell? ⟨w.heap.size, 1, none⟩ = some (.int .i64 0) := row_cell hr9 rfl
  have x2 : w8.cell? ⟨w.heap.size, 2, none⟩ = some (.int .i64 0) := row_cell hr9 rfl
  have f0 := row_free hr9 0
  have f1' := row_free hr9 1
  have f2' := row_free hr9 2
  have hr10 := row_set (row_set (row_set hr9 0 (.int .i64 0)) 1 (.int .i64 0)) 2 (.int .i64 0)
  have d0 := row_cell hr10 (k := 0) (v := .int .i64 0) rfl
  have d1 := row_cell hr10 (k := 1) (v := .int .i64 0) rfl
  have d2 := row_cell hr10 (k := 2) (v := .int .i64 0) rfl
  have HB := Lib.hid (hb1.trans (hb9.mono hb1.size))
  clear hr10 hr9 hb9 hb8 HC K7 hr1 hb1 hz
  go_wp2_with fail
  refine bodyPost_ret (v := .tuple #[.agg #[.int .i64 0, .int .i64 0, .int .i64 0], .int .i64 E]) (by simp [results, Tryd.results12, go_sem, d0, d1, d2]) rfl ⟨rfl, ?_⟩
  repeat (first | exact HB.out | refine Below.setCell ?_ (by simp) _)

set_option maxRecDepth 100000 in
set_option maxHeartbeats 2000000 in
theorem seal_yes (u key dealer row value : Int) (w : World) (hS : Sealed u key dealer row value) (hG : Glob w) :
    Calls Tryd.prog 12 #[.int .i64 u, .int .i64 key, .int .i64 dealer, .int .i64 row, .int .i64 value] w fun r w' => r = .returned (.tuple #[.agg #[.int .i64 row, .int .i64 (powE 4 u), .int .i64 (cipV u key dealer row value)], .int .i64 0]) ∧ Below w.heap.size w w' := by
  obtain ⟨W1, hW1, hb1, hr1, hz⟩ := cells3 w 0 0 0 31
  have HW1 := Lib.hid hW1
  have hst := fun (a : Addr) (fn : Fn) (x y : Array Value) (w : World) => run_store Tryd.prog w a (.func fn x y) .plain rfl
  have HE : Hid (firstE [(inB u 1 1073741788, 110), (elB key, 100), (inB dealer 0 63, 1), (inB row 0 63, 1), (inB value 0 1073741788, 350)] = 0) := Lib.hid (sealE_ok.2 hS)
  obtain ⟨⟨u1, u2⟩, hk, ⟨l1, l2⟩, ⟨r1, r2⟩, ⟨v1, v2⟩⟩ := hS
  have hu64 : R64 u := ⟨by omega, by omega⟩
  have hk64 := hk.r64
  have HPC : Hid (∀ z ∈ [powE key u, dealer, row], R64 z) := Lib.hid (by intro z hz; simp at hz; rcases hz with rfl | rfl | rfl; exact (el_powE hk u).r64; exact ⟨by omega, by omega⟩; exact ⟨by omega, by omega⟩)
  have HCV : Hid ((value + padV (powE key u) dealer row) % 1073741789 = cipV u key dealer row value) := Lib.hid rfl
  clear hW1
  go_enter Tryd.func12, Tryd.ntmps12
  go_wp2_with fail
  rw [← HW1.out]
  with_reducible refine (secret_any u _).mono ?_
  rintro r w2 ⟨f1, cap1, rfl, hF1, hb2⟩
  have HF1 := Lib.hid hF1
  clear hF1
  go_wp2_with fail
  with_reducible refine (element_any key 100 _ hk64).mono ?_
  rintro r w3 ⟨f2, cap2, rfl, hF2, hb3⟩
  have HF2 := Lib.hid hF2
  clear hF2
  go_wp2_with fail
  with_reducible refine (person_any dealer _).mono ?_
  rintro r w4 ⟨f3, cap3, rfl, hF3, hb4⟩
  have HF3 := Lib.hid hF3
  clear hF3
  go_wp2_with fail
  with_reducible refine (within_any row 0 63 1 _).mono ?_
  rintro r w5 ⟨f4, cap4, rfl, hF4, hb5⟩
  have HF4 := Lib.hid hF4
  clear hF4
  go_wp2_with fail
  with_reducible refine (within_any value 0 1073741788 350 _).mono ?_
  rintro r w6 ⟨f5, cap5, rfl, hF5, hb6⟩
  have k5 := hb6
  have k4 := hb5.trans (hb6.mono hb5.size)
  have k3 := hb4.trans (k4.mono hb4.size)
  have k2 := hb3.trans (k3.mono hb3.size)
  have k1 := hb2.trans (k2.mono hb2.size)
  have k7 := k1.alloc k1.size (.cells #[.func (.func f1) #[] cap1, .int .i64 110, .func (.func f2) #[] cap2, .int .i64 100, .func (.func f3) #[] cap3, .int .i64 1, .func (.func f4) #[] cap4, .int .i64 1, .func (.func f5) #[] cap5, .int .i64 350] 52)
  have HC := Lib.hid (pcheck_any _ _ _ (conds5 w6 52 _ rfl 110 100 1 1 350 (HF1.out.keep (Keep.below k2)) (HF2.out.keep (Keep.below k3)) (HF3.out.keep (Keep.below k4)) (HF4.out.keep (Keep.below k5)) hF5))
  rw [HE.out] at HC
  have K7 := Lib.hid k7
  clear HF1 HF2 HF3 HF4 hF5 hb2 hb3 hb4 hb5 hb6 k1 k2 k3 k4 k5 k7
  go_wp2_with fail
  refine HC.out.mono ?_
  rintro r w8 ⟨rfl, hb8⟩
  have K8 := Lib.hid (K7.out.trans (hb8.mono K7.out.size))
  clear hb8 HC K7
  go_wp2_with fail
  with_reducible refine (pow_yes 4 u _ el_four hu64).mono ?_
  rintro r w9 ⟨rfl, hb9⟩
  have K9 := Lib.hid (K8.out.trans (hb9.mono K8.out.size))
  clear hb9 K8
  go_wp2_with fail
  with_reducible refine (pow_yes key u _ hk hu64).mono ?_
  rintro r w10 ⟨rfl, hb10⟩
  have K10 := Lib.hid (K9.out.trans (hb10.mono K9.out.size))
  have HG10 := Lib.hid (hG.below (hb1.trans (K10.out.mono hb1.size)))
  obtain ⟨p1, p2⟩ := padV_num (powE key u) dealer row
  clear hb10 K9
  go_wp2_with fail
  with_reducible refine (pad_any _ dealer row _ HPC.out HG10.out).mono ?_
  rintro r w11 ⟨rfl, hb11⟩
  have k11 := K10.out.trans (hb11.mono K10.out.size)
  have hr9 := (k11.block _ hz).trans hr1
  have x0 : w11.cell? ⟨w.heap.size, 0, none⟩ = some (.int .i64 0) := row_cell hr9 rfl
  have x1 : w11.cell? ⟨w.heap.size, 1, none⟩ = some (.int .i64 0) := row_cell hr9 rfl
  have x2 : w11.cell? ⟨w.heap.size, 2, none⟩ = some (.int .i64 0) := row_cell hr9 rfl
  have f0 := row_free hr9 0
  have f1' := row_free hr9 1
  have f2' := row_free hr9 2
  have hr10 := row_set (row_set (row_set hr9 0 (.int .i64 row)) 1 (.int .i64 (powE 4 u))) 2 (.int .i64 (cipV u key dealer row value))
  have d0 := row_cell hr10 (k := 0) (v := .int .i64 row) rfl
  have d1 := row_cell hr10 (k := 1) (v := .int .i64 (powE 4 u)) rfl
  have d2 := row_cell hr10 (k := 2) (v := .int .i64 (cipV u key dealer row value)) rfl
  have HB := Lib.hid (hb1.trans (k11.mono hb1.size))
  rw [← HCV.out] at d0 d1 d2
  clear hr10 hr9 k11 hb11 hr1 hb1 hz K10
  go_wp2_with fail
  refine bodyPost_ret (v := .tuple #[.agg #[.int .i64 row, .int .i64 (powE 4 u), .int .i64 (cipV u key dealer row value)], .int .i64 0]) (by rw [← HCV.out]; simp [results, Tryd.results12, go_sem, d0, d1, d2]) rfl ⟨rfl, ?_⟩
  repeat (first | exact HB.out | refine Below.setCell ?_ (by simp) _)

end Go.Proofs.YteodnbaogfdjbaaDoor
