/- Package parcels: Seal, Open, With. -/
import Derived.Test.YtjnnnciifjajmaaDoorParC
import Derived.Deep.RegionWith
namespace Go.Proofs.YtjnnnciifjajmaaDoor
open Go.RowKit FP

set_option maxRecDepth 100000 in
set_option maxHeartbeats 1000000 in
theorem secret_any (n : Int) (w : World) :
    Calls Tryd.prog 45 #[.int .i64 n] w (CondR (inB n 1 1073741788) 110 w) := by
  have hb0 := below_new w #[.nilFunc, .int .i64 0] 55
  go_enter Tryd.func45, Tryd.ntmps45
  go_wp2_with fail
  refine (within_any n 1 1073741788 110 _).mono ?_
  rintro r w1 ⟨f, cap, rfl, hF, hb⟩
  have hr := (hb.block w.heap.size (by simp)).trans (World.alloc_heap_new w (.cells #[.nilFunc, .int .i64 0] 55))
  have x0 : w1.cell? ⟨w.heap.size, 0, none⟩ = some .nilFunc := row_cell hr rfl
  have x1 : w1.cell? ⟨w.heap.size, 1, none⟩ = some (.int .i64 0) := row_cell hr rfl
  have f0 := row_free hr 0
  have f1 := row_free hr 1
  have hb2 := hb0.trans (hb.mono hb0.size)
  have hr4 := row_set (row_set hr 0 (.func (.func f) #[] cap)) 1 (.int .i64 110)
  have d0 := row_cell hr4 (k := 0) (v := .func (.func f) #[] cap) rfl
  have d1 := row_cell hr4 (k := 1) (v := .int .i64 110) rfl
  have HF := Lib.hid hF
  clear hF hb hb0 hr4
  go_wp2_with fail
  refine bodyPost_ret (v := .agg #[.func (.func f) #[] cap, .int .i64 110]) (by simp [results, Tryd.results45, go_sem, d0, d1]) rfl ?_
  refine ⟨f, cap, rfl, ?_, ?_⟩
  · exact (HF.out.keep (((Keep.refl _ _).setCell (by simp) _).setCell (by simp) _)).low (by simp)
  · exact (hb2.setCell (Nat.le_refl _) _).setCell (Nat.le_refl _) _

set_option maxRecDepth 100000 in
set_option maxHeartbeats 1000000 in
theorem person_any (n : Int) (w : World) :
    Calls Tryd.prog 47 #[.int .i64 n] w (CondR (inB n 0 63) 1 w) := by
  have hb0 := below_new w #[.nilFunc, .int .i64 0] 55
  go_enter Tryd.func47, Tryd.ntmps47
  go_wp2_with fail
  refine (within_any n 0 63 1 _).mono ?_
  rintro r w1 ⟨f, cap, rfl, hF, hb⟩
  have hr := (hb.block w.heap.size (by simp)).trans (World.alloc_heap_new w (.cells #[.nilFunc, .int .i64 0] 55))
  have x0 : w1.cell? ⟨w.heap.size, 0, none⟩ = some .nilFunc := row_cell hr rfl
  have x1 : w1.cell? ⟨w.heap.size, 1, none⟩ = some (.int .i64 0) := row_cell hr rfl
  have f0 := row_free hr 0
  have f1 := row_free hr 1
  have hb2 := hb0.trans (hb.mono hb0.size)
  have hr4 := row_set (row_set hr 0 (.func (.func f) #[] cap)) 1 (.int .i64 1)
  have d0 := row_cell hr4 (k := 0) (v := .func (.func f) #[] cap) rfl
  have d1 := row_cell hr4 (k := 1) (v := .int .i64 1) rfl
  have HF := Lib.hid hF
  clear hF hb hb0 hr4
  go_wp2_with fail
  refine bodyPost_ret (v := .agg #[.func (.func f) #[] cap, .int .i64 1]) (by simp [results, Tryd.results47, go_sem, d0, d1]) rfl ?_
  refine ⟨f, cap, rfl, ?_, ?_⟩
  · exact (HF.out.keep (((Keep.refl _ _).setCell (by simp) _).setCell (by simp) _)).low (by simp)
  · exact (hb2.setCell (Nat.le_refl _) _).setCell (Nat.le_refl _) _

theorem conds3 (w : World) (t : TypeId) (B : Nat) (hB : w.heap.size = B) {lo1 lo2 lo3 : Nat} {f1 f2 f3 : FuncId} {cap1 cap2 cap3 : Array Value} {b1 b2 b3 : Bool} (e1 e2 e3 : Int) (h1 : CondF lo1 w f1 cap1 b1) (h2 : CondF lo2 w f2 cap2 b2) (h3 : CondF lo3 w f3 cap3 b3) :
    Conds (w.alloc (.cells #[.func (.func f1) #[] cap1, .int .i64 e1, .func (.func f2) #[] cap2, .int .i64 e2, .func (.func f3) #[] cap3, .int .i64 e3] t)) (.slice (some ⟨B, 0, none⟩) 3 3) [(b1, e1), (b2, e2), (b3, e3)] := by
  subst hB
  have hr := World.alloc_heap_new w (.cells #[.func (.func f1) #[] cap1, .int .i64 e1, .func (.func f2) #[] cap2, .int .i64 e2, .func (.func f3) #[] cap3, .int .i64 e3] t)
  have hk : ∀ lo, Keep lo w (w.alloc (.cells #[.func (.func f1) #[] cap1, .int .i64 e1, .func (.func f2) #[] cap2, .int .i64 e2, .func (.func f3) #[] cap3, .int .i64 e3] t)) := fun lo => Keep.below (below_new _ _ _)
  refine ⟨_, 0, 3, rfl, by simp, by simp, fun k hk' => ?_⟩
  match k, hk' with
  | 0, _ => exact ⟨lo1, f1, cap1, row_cell hr rfl, row_cell hr rfl, h1.keep (hk _)⟩
  | 1, _ => exact ⟨lo2, f2, cap2, row_cell hr rfl, row_cell hr rfl, h2.keep (hk _)⟩
  | 2, _ => exact ⟨lo3, f3, cap3, row_cell hr rfl, row_cell hr rfl, h3.keep (hk _)⟩
theorem conds5 (w : World) (t : TypeId) (B : Nat) (hB : w.heap.size = B) {lo1 lo2 lo3 lo4 lo5 : Nat} {f1 f2 f3 f4 f5 : FuncId} {cap1 cap2 cap3 cap4 cap5 : Array Value} {b1 b2 b3 b4 b5 : Bool} (e1 e2 e3 e4 e5 : Int) (h1 : CondF lo1 w f1 cap1 b1) (h2 : CondF lo2 w f2 cap2 b2) (h3 : CondF lo3 w f3 cap3 b3) (h4 : CondF lo4 w f4 cap4 b4) (h5 : CondF lo5 w f5 cap5 b5) :
    Conds (w.alloc (.cells #[.func (.func f1) #[] cap1, .int .i64 e1, .func (.func f2) #[] cap2, .int .i64 e2, .func (.func f3) #[] cap3, .int .i64 e3, .func (.func f4) #[] cap4, .int .i64 e4, .func (.func f5) #[] cap5, .int .i64 e5] t)) (.slice (some ⟨B, 0, none⟩) 5 5) [(b1, e1), (b2, e2), (b3, e3), (b4, e4), (b5, e5)] := by
  subst hB
  have hr := World.alloc_heap_new w (.cells #[.func (.func f1) #[] cap1, .int .i64 e1, .func (.func f2) #[] cap2, .int .i64 e2, .func (.func f3) #[] cap3, .int .i64 e3, .func (.func f4) #[] cap4, .int .i64 e4, .func (.func f5) #[] cap5, .int .i64 e5] t)
  have hk : ∀ lo, Keep lo w (w.alloc (.cells #[.func (.func f1) #[] cap1, .int .i64 e1, .func (.func f2) #[] cap2, .int .i64 e2, .func (.func f3) #[] cap3, .int .i64 e3, .func (.func f4) #[] cap4, .int .i64 e4, .func (.func f5) #[] cap5, .int .i64 e5] t)) := fun lo => Keep.below (below_new _ _ _)
  refine ⟨_, 0, 5, rfl, by simp, by simp, fun k hk' => ?_⟩
  match k, hk' with
  | 0, _ => exact ⟨lo1, f1, cap1, row_cell hr rfl, row_cell hr rfl, h1.keep (hk _)⟩
  | 1, _ => exact ⟨lo2, f2, cap2, row_cell hr rfl, row_cell hr rfl, h2.keep (hk _)⟩
  | 2, _ => exact ⟨lo3, f3, cap3, row_cell hr rfl, row_cell hr rfl, h3.keep (hk _)⟩
  | 3, _ => exact ⟨lo4, f4, cap4, row_cell hr rfl, row_cell hr rfl, h4.keep (hk _)⟩
  | 4, _ => exact ⟨lo5, f5, cap5, row_cell hr rfl, row_cell hr rfl, h5.keep (hk _)⟩

set_option maxRecDepth 100000 in
set_option maxHeartbeats 2000000 in
theorem right1_any (xb : Nat) (row pt c : Int) (w : World) (hp : R64 pt) (x0 : w.cell? ⟨xb, 0, none⟩ = some (.int .i64 row)) (x1 : w.cell? ⟨xb, 1, none⟩ = some (.int .i64 pt)) (x2 : w.cell? ⟨xb, 2, none⟩ = some (.int .i64 c)) :
    Calls Tryd.prog 72 #[.pointer (some ⟨xb, 0, none⟩)] w fun r w' => r = .returned (.bool (rightB row pt c)) ∧ Below w.heap.size w w' := by
  have HV := Lib.hid (rightB_first row pt c)
  have hst := fun (a : Addr) (fn : Fn) (x y : Array Value) (w : World) => run_store Tryd.prog w a (.func fn x y) .plain rfl
  go_enter Tryd.func72, Tryd.ntmps72
  go_wp2_with fail
  go_region_held3 (fun w' => w'.cell? ⟨xb, 0, none⟩ = some (.int .i64 row) ∧ w'.cell? ⟨xb, 1, none⟩ = some (.int .i64 pt) ∧ w'.cell? ⟨xb, 2, none⟩ = some (.int .i64 c)) (go_keep)
    (first
      | (go_at_call 48; (with_reducible refine (within_any row 0 63 350 _).mono ?_); rintro r w1 ⟨f1, cap1, rfl, hF1, hb1⟩; have s10 : w1.cell? ⟨xb, 0, none⟩ = some (.int .i64 row) := below_cell hb1 (by assumption); have s11 : w1.cell? ⟨xb, 1, none⟩ = some (.int .i64 pt) := below_cell hb1 (by assumption); have s12 : w1.cell? ⟨xb, 2, none⟩ = some (.int .i64 c) := below_cell hb1 (by assumption); have HF1 := Lib.hid hF1; clear hF1)
      | (go_at_call 46; (with_reducible refine (element_any pt 350 _ hp).mono ?_); rintro r w2 ⟨f2, cap2, rfl, hF2, hb2⟩; have s20 : w2.cell? ⟨xb, 0, none⟩ = some (.int .i64 row) := below_cell hb2 (by assumption); have s21 : w2.cell? ⟨xb, 1, none⟩ = some (.int .i64 pt) := below_cell hb2 (by assumption); have s22 : w2.cell? ⟨xb, 2, none⟩ = some (.int .i64 c) := below_cell hb2 (by assumption); have HF2 := Lib.hid hF2; clear hF2)
      | (go_at_call 48; (with_reducible refine (within_any c 0 1073741788 350 _).mono ?_); rintro r w3 ⟨f3, cap3, rfl, hF3, hb3⟩; have s30 : w3.cell? ⟨xb, 0, none⟩ = some (.int .i64 row) := below_cell hb3 (by assumption); have s31 : w3.cell? ⟨xb, 1, none⟩ = some (.int .i64 pt) := below_cell hb3 (by assumption); have s32 : w3.cell? ⟨xb, 2, none⟩ = some (.int .i64 c) := below_cell hb3 (by assumption); have HF3 := Lib.hid hF3; clear hF3)
      | (go_at_call 44; (refine (pcheck_any _ _ _ (conds3 _ _ _ rfl 350 350 350 (HF1.out.keep (Keep.below (hb2.trans (hb3.mono hb2.size)))) (HF2.out.keep (Keep.below hb3)) HF3.out)).mono ?_); rintro r w4 ⟨rfl, hb4⟩; have s40 : w4.cell? ⟨xb, 0, none⟩ = some (.int .i64 row) := below_cell hb4 (below_cell (below_new _ _ _) s30); have s41 : w4.cell? ⟨xb, 1, none⟩ = some (.int .i64 pt) := below_cell hb4 (below_cell (below_new _ _ _) s31); have s42 : w4.cell? ⟨xb, 2, none⟩ = some (.int .i64 c) := below_cell hb4 (below_cell (below_new _ _ _) s32)))
  go_wp2_with fail
  go_ret
  refine ⟨ret_bool HV.out, ?_⟩
  have h1 : Below w.heap.size w w1 := (Below.refl _ _).drew.trans hb1
  have h2 := h1.trans (hb2.mono h1.size)
  have h3 := h2.trans (hb3.mono h2.size)
  have h4 := h3.alloc h3.size (.cells #[.func (.func f1) #[] cap1, .int .i64 350, .func (.func f2) #[] cap2, .int .i64 350, .func (.func f3) #[] cap3, .int .i64 350] 55)
  exact h4.trans (hb4.mono h4.size)


end Go.Proofs.YtjnnnciifjajmaaDoor
