/- Package parcels: check. -/
import Derived.Test.YtjnnnciifjajmaaDoorParB
namespace Go.Proofs.YtjnnnciifjajmaaDoor
open Go.RowKit FP

/-- The slice v reads as conditions. -/
def Conds (w : World) (v : Value) (cs : List (Bool × Int)) : Prop :=
  ∃ b off c, v = .slice (some ⟨b, off, none⟩) cs.length c ∧ cs.length ≤ c ∧ cs.length ≤ 1000 ∧
    ∀ k (h : k < cs.length), ∃ lo f cap, w.cell? ⟨b, off + k * 2, none⟩ = some (.func (.func f) #[] cap) ∧ w.cell? ⟨b, off + k * 2 + 1, none⟩ = some (.int .i64 cs[k].2) ∧ CondF lo w f cap cs[k].1
theorem firstE_none {cs : List (Bool × Int)} (h : ∀ x ∈ cs, x.1 = true) : firstE cs = 0 := by
  induction cs with
  | nil => rfl
  | cons x l ih =>
    obtain ⟨b, e⟩ := x
    have : b = true := h (b, e) (by simp)
    subst this
    exact ih (fun y hy => h y (by simp [hy]))
theorem firstE_at {cs : List (Bool × Int)} {k : Nat} (hk : k < cs.length) (h : ∀ x ∈ cs.take k, x.1 = true) (hp : cs[k].1 = false) : firstE cs = cs[k].2 := by
  induction cs generalizing k with
  | nil => exact absurd hk (Nat.not_lt_zero _)
  | cons x l ih =>
    obtain ⟨b, e⟩ := x
    cases k with
    | zero =>
      have : b = false := hp
      subst this; rfl
    | succ k =>
      have : b = true := h (b, e) (by simp)
      subst this
      exact ih (by simpa using hk) (fun y hy => h y (by simp [hy])) hp

set_option maxRecDepth 100000 in
set_option maxHeartbeats 1000000 in
theorem unmet_any (f : FuncId) (cap : Array Value) (b : Bool) (e : Int) (lo : Nat) (w : World) (hF : CondF lo w f cap b) :
    Calls Tryd.prog 66 #[.agg #[.func (.func f) #[] cap, .int .i64 e]] w fun r w' => r = .returned (.bool (!b)) ∧ Below w.heap.size w w' := by
  have hE' : ∀ (args : Array Value) (w : World), (callFunc f args).run Tryd.prog w = .ok (.enter f args) w := hF.1
  have HB := Lib.hid (below_new w #[.func (.func f) #[] cap, .int .i64 e] 55)
  have HC := Lib.hid (hF.2 _ (Keep.below HB.out))
  clear hF
  go_enter Tryd.func66, Tryd.ntmps66
  go_wp2_with fail
  refine HC.out.mono ?_
  rintro r w1 ⟨rfl, hb1⟩
  go_wp2_with fail
  go_ret
  exact ⟨rfl, HB.out.trans (hb1.mono HB.out.size)⟩

/-- What first leaves. -/
def FirstR (cs : List (Bool × Int)) (w : World) (r : Ending) (w' : World) : Prop :=
  ((∃ f cap, r = .returned (.tuple #[.agg #[.func (.func f) #[] cap, .int .i64 (firstE cs)], .bool true])) ∨ (r = .returned (.tuple #[.agg #[.nilFunc, .int .i64 0], .bool false]) ∧ firstE cs = 0)) ∧ Below w.heap.size w w'

theorem cond_row (w : World) (t : TypeId) : ∃ W, W = w.alloc (.cells #[.nilFunc, .int .i64 0] t) ∧ Below w.heap.size w W ∧ W.heap[w.heap.size]? = some (.cells #[.nilFunc, .int .i64 0] t (0, 0)) :=
  ⟨_, rfl, below_new _ _ _, World.alloc_heap_new _ _⟩

set_option maxRecDepth 100000 in
set_option maxHeartbeats 2000000 in
theorem first_any (v : Value) (cs : List (Bool × Int)) (w : World) (hC : Conds w v cs) :
    Calls Tryd.prog 65 #[.func (.func 66) #[] #[], v] w (FirstR cs w) := by
  obtain ⟨b, off, c, rfl, hcap, hlen, hk⟩ := hC
  obtain ⟨W1, hW1, hb1, hr1⟩ := cond_row w 55
  have HK := Lib.hid hk
  have HW1 := Lib.hid hW1
  have HB1 := Lib.hid hb1
  have HR1 := Lib.hid hr1
  have hst := fun (a : Addr) (fn : Fn) (x y : Array Value) (w : World) => run_store Tryd.prog w a (.func fn x y) .plain rfl
  clear hk hW1 hb1 hr1
  go_enter Tryd.func65, Tryd.ntmps65
  go_wp2_with fail
  rw [← HW1.out]
  go_loopw [10] (fun i W => ∃ k : Nat, k ≤ cs.length ∧ i = .int .i64 k ∧ Hid (∀ x ∈ cs.take k, x.1 = true) ∧ Below W1.heap.size W1 W) (fun i _ => cs.length - (intOf i).toNat)
  case atStart => exact ⟨0, Nat.zero_le _, rfl, Lib.hid (by simp), Below.refl _ _⟩
  case round =>
    obtain ⟨k, hkl, rfl, HP, hb⟩ := hrel
    by_cases hlt : k < cs.length
    · obtain ⟨lo, f, cap, q1, q2, q3⟩ := HK.out k hlt
      have hb2 := HB1.out.trans (hb.mono HB1.out.size)
      have c1 := below_cell hb2 q1
      have c2 := below_cell hb2 q2
      have HF := Lib.hid (q3.keep (Keep.below hb2))
      obtain ⟨e, he⟩ : ∃ e, e = cs[k].2 := ⟨_, rfl⟩
      rw [← he] at c2
      have HE := Lib.hid he
      have hr2 := (hb.block _ (row_lt HR1.out)).trans HR1.out
      have HR2 := Lib.hid hr2
      have HB2 := Lib.hid hb
      have HB3 := Lib.hid (hb.alloc hb.size (.cells #[.func (.func f) #[] cap, .int .i64 e] 55))
      have HU := Lib.hid (unmet_any f cap cs[k].1 e lo _ (HF.out.keep (Keep.below (below_new wr #[.func (.func f) #[] cap, .int .i64 e] 55))))
      have y0 : (wr.alloc (.cells #[.func (.func f) #[] cap, .int .i64 e] 55)).cell? ⟨wr.heap.size, 0, none⟩ = some (.func (.func f) #[] cap) := by simp [go_sem]
      have y1 : (wr.alloc (.cells #[.func (.func f) #[] cap, .int .i64 e] 55)).cell? ⟨wr.heap.size, 1, none⟩ = some (.int .i64 e) := by simp [go_sem]
      have Y0 := Lib.hid y0
      have Y1 := Lib.hid y1
      clear q1 q2 q3 he hr2 hb hb2 y0 y1
      cases hp : cs[k].1 with
      | true =>
        have HN := Lib.hid (show ∀ x ∈ cs.take (k + 1), x.1 = true by
          rw [List.take_succ_eq_append_getElem hlt]
          intro z hz
          rcases List.mem_append.1 hz with h | h
          · exact HP.out z h
          · rw [List.mem_singleton.1 h]; exact hp)
        rw [hp] at HU
        clear hp
        go_wp2_with fail
        refine HU.out.mono ?_
        rintro r w1 ⟨rfl, hb1⟩
        go_wp2_with fail
        go_roundw
        case rel => exact ⟨k + 1, by omega, by go_num, HN, HB3.out.trans (hb1.mono HB3.out.size)⟩
        case measure => simp [intOf]; omega
      | false =>
        have HV := Lib.hid (show firstE cs = e by rw [HE.out]; exact firstE_at hlt HP.out hp)
        rw [hp] at HU
        clear hp
        go_wp2_with fail
        refine HU.out.mono ?_
        rintro r w1 ⟨rfl, hb1⟩
        have z0 := below_cell hb1 Y0.out
        have z1 := below_cell hb1 Y1.out
        have hr3 := (hb1.block _ (Nat.lt_of_lt_of_le (row_lt HR2.out) (by simp))).trans (((below_new wr #[.func (.func f) #[] cap, .int .i64 e] 55).block _ (row_lt HR2.out)).trans HR2.out)
        have x0 : w1.cell? ⟨w.heap.size, 0, none⟩ = some .nilFunc := row_cell hr3 rfl
        have x1 : w1.cell? ⟨w.heap.size, 1, none⟩ = some (.int .i64 0) := row_cell hr3 rfl
        have f0 := row_free hr3 0
        have f1 := row_free hr3 1
        have HR3 := Lib.hid hr3
        have HB4 := Lib.hid (HB1.out.trans ((HB3.out.trans (hb1.mono HB3.out.size)).mono HB1.out.size))
        clear hr3 hb1
        go_wp2_with fail
        have hr4 := row_set (row_set HR3.out 0 (.func (.func f) #[] cap)) 1 (.int .i64 e)
        have d0 := row_cell hr4 (k := 0) (v := .func (.func f) #[] cap) rfl
        have d1 := row_cell hr4 (k := 1) (v := .int .i64 e) rfl
        refine bodyPost_ret (v := .tuple #[.agg #[.func (.func f) #[] cap, .int .i64 e], .bool true]) (by simp [results, Tryd.results65, go_sem, d0, d1]) rfl ?_
        refine ⟨.inl ⟨f, cap, ?_⟩, ?_⟩
        · rw [HV.out]
        · repeat (first | exact HB4.out | refine Below.setCell ?_ (by simp) _)
    · have HV := Lib.hid (show firstE cs = 0 from firstE_none (by have := HP.out; rwa [List.take_of_length_le (by omega)] at this))
      have hr2 := (hb.block _ (row_lt HR1.out)).trans HR1.out
      have x0 : wr.cell? ⟨w.heap.size, 0, none⟩ = some .nilFunc := row_cell hr2 rfl
      have x1 : wr.cell? ⟨w.heap.size, 1, none⟩ = some (.int .i64 0) := row_cell hr2 rfl
      have f0 := row_free hr2 0
      have f1 := row_free hr2 1
      go_wp2_with fail
      have hr4 := row_set (row_set hr2 0 .nilFunc) 1 (.int .i64 0)
      have d0 := row_cell hr4 (k := 0) (v := .nilFunc) rfl
      have d1 := row_cell hr4 (k := 1) (v := .int .i64 0) rfl
      refine bodyPost_ret (v := .tuple #[.agg #[.nilFunc, .int .i64 0], .bool false]) (by simp [results, Tryd.results65, go_sem, d0, d1]) rfl ?_
      refine ⟨.inr ⟨rfl, HV.out⟩, ?_⟩
      have hb3 := HB1.out.trans (hb.mono HB1.out.size)
      repeat (first | exact hb3 | refine Below.setCell ?_ (by simp) _)

set_option maxRecDepth 100000 in
set_option maxHeartbeats 1000000 in
theorem pcheck_any (v : Value) (cs : List (Bool × Int)) (w : World) (hC : Conds w v cs) :
    Calls Tryd.prog 44 #[v] w fun r w' => r = .returned (.int .i64 (firstE cs)) ∧ Below w.heap.size w w' := by
  go_enter Tryd.func44, Tryd.ntmps44
  go_wp2_with fail
  refine (first_any v cs w hC).mono ?_
  clear hC
  rintro r w1 ⟨⟨f, cap, rfl⟩ | ⟨rfl, h0⟩, hb⟩
  · go_wp2_with fail
    go_ret
    exact ⟨rfl, by repeat (first | exact hb | refine Below.setCell ?_ (by simp) _ | refine Below.alloc ?_ hb.size _)⟩
  · have H0 := Lib.hid h0
    clear h0
    go_wp2_with fail
    go_ret
    exact ⟨ret_int H0.out.symm, by repeat (first | exact hb | refine Below.setCell ?_ (by simp) _ | refine Below.alloc ?_ hb.size _)⟩

end Go.Proofs.YtjnnnciifjajmaaDoor
