/- Package parcels: the encoding of some integers, pads. Package parcels: conditions, and the error of the first that does not hold. Package complaints: an error that ends the work, and is caught. Package complaints: the conditions of check. -/
import Derived.Test.YtggnipkfliompaaGreatDoorMCodD
import Derived.Test.YtggnipkfliompaaGreatDoorMEqA
import Derived.Test.YtggnipkfliompaaGreatDoorMBase
import Derived.Test.YtggnipkfliompaaGreatDoorMDeaJ
import Derived.Laws.EntriesVeiled
namespace Go.Proofs.YtggnipkfliompaaGreatDoor
open Go.RowKit FP

set_option maxRecDepth 100000 in
set_option maxHeartbeats 2000000 in
theorem integers_any (v : Value) (zs : List Int) (w : World) (hI : Ints w v zs) (hl : zs.length ≤ 1000) :
    Calls Tryz.prog 197 #[v] w fun e w' => ∃ v', e = .returned v' ∧ Byts w' v' (encL zs) ∧ Below w.heap.size w w' := by
  obtain ⟨a, cap, rfl, hcap, hlen, hr, hk⟩ := hI
  have HR := Lib.hid hr
  have HK := Lib.hid hk
  clear hr hk
  go_enter Tryz.func197, Tryz.ntmps197
  go_wp2_with fail
  have h00 : TextI w zs 0 (w.alloc (.cells #[.int .i64 3, .int .i64 0, .string ⟨#[]⟩, .slice none 0 0] 171)) := ⟨_, World.alloc_heap_new _ _, World.ownsRow_nil _ _ _ _, (Below.refl _ _).alloc (Nat.le_refl _) _⟩
  go_loopw [11] (fun i W => ∃ k : Nat, k ≤ zs.length ∧ i = .int .i64 k ∧ TextI w zs k W) (fun i _ => zs.length - (intOf i).toNat)
  case atStart => exact ⟨0, Nat.zero_le _, rfl, h00⟩
  case round =>
    clear h00
    obtain ⟨k, hkl, rfl, L, hrow, hown, hbe⟩ := hrel
    have hbx := row_lt hrow
    by_cases hlt : k < zs.length
    · obtain ⟨b, off, rfl, q1⟩ := HK.out k hlt
      have hz := HR.out _ (List.getElem_mem hlt)
      have c1 := below_cell hbe q1
      have HT := Lib.hid (show zs.take k ++ [zs[k]] = zs.take (k + 1) from (List.take_succ_eq_append_getElem hlt).symm)
      generalize zs[k] = z at *
      have x3 : wr.cell? ⟨w.heap.size, 3, none⟩ = some L := row_cell hrow rfl
      have x0 : wr.cell? ⟨w.heap.size, 0, none⟩ = some (.int .i64 3) := row_cell hrow rfl
      obtain ⟨W1, hW1, hb1, hr1⟩ := boxed4 wr (.int .i64 1) (.int .i64 z) (.string ⟨#[]⟩) (.slice none 0 0) 171
      have HOW := Lib.hid (own_keep hown hb1)
      have HCE : Hid (∀ j u, (valC z)[j]? = some u → W1.cell? ⟨wr.heap.size, j, none⟩ = some u) := Lib.hid (fun j u hj => row_cell hr1 (by
        match j with
        | 0 | 1 | 2 | 3 => exact hj
        | n + 4 => simp [valC] at hj))
      have HNE := Lib.hid (own_ne hown (b := w.heap.size) (.inr (by omega)))
      have HRW := Lib.hid ((hb1.block _ hbx).trans hrow)
      have HBX : Hid (w.heap.size < W1.heap.size) := Lib.hid (Nat.lt_of_lt_of_le hbx hb1.size)
      have HB1 := Lib.hid hb1
      have HW1 := Lib.hid hW1
      have hk1 : k ≤ 1000 := by omega
      have hbs : w.heap.size + 1 ≤ W1.heap.size := Nat.lt_of_lt_of_le hbx hb1.size
      have HBS := Lib.hid hbs
      clear q1 hown hrow hr1 hb1 hW1 hbs
      go_wp2_with (refine app_val rfl _ _ rfl (w.heap.size + 1) _ (zs.take k) _ rfl (HW1.out ▸ HOW.out) wr.heap.size 1 z rfl (HW1.out ▸ HCE.out) (by omega) (HW1.out ▸ HBS.out) ?_; rw [← HW1.out]; intro g8 cap8 w8 h8 o8; have hr8 := (o8.1.block _ HBX.out (fun e => HNE.out e.symm)).trans HRW.out; have y3 : w8.cell? ⟨w.heap.size, 3, none⟩ = some L := row_cell hr8 rfl; have f3 := row_free hr8 3; have HR8 := Lib.hid hr8; have H8 := Lib.hid h8; have O8 := Lib.hid o8; clear hr8 h8 o8)
      go_roundw
      case rel => exact ⟨k + 1, by omega, by go_num, _, row_set HR8.out 3 _, by
        have hb8 := own_below HOW.out O8.out.1 HBS.out
        refine own_keep_set ?_ (Nat.lt_succ_self _) _
        rw [← HT.out]; exact H8.out, ((hbe.trans (HB1.out.mono hbe.size)).trans (own_below HOW.out O8.out.1 HBS.out |>.mono (Nat.le_succ _))).setCell (Nat.le_refl _) _⟩
      case measure => simp [intOf]; omega
    · have hk2 : k = zs.length := by omega
      rw [hk2, List.take_length] at hown
      have hVl := Lib.hid (Vals.own hown HR.out (by omega))
      have x0 : wr.cell? ⟨w.heap.size, 0, none⟩ = some (.int .i64 3) := row_cell hrow rfl
      have x1 : wr.cell? ⟨w.heap.size, 1, none⟩ = some (.int .i64 0) := row_cell hrow rfl
      have x2 : wr.cell? ⟨w.heap.size, 2, none⟩ = some (.string ⟨#[]⟩) := row_cell hrow rfl
      have x3 : wr.cell? ⟨w.heap.size, 3, none⟩ = some L := row_cell hrow rfl
      have hdt : decide (k < zs.length) = false := decide_eq_false hlt
      obtain ⟨aL, cL, hLe, -⟩ := id hVl.out
      subst hLe
      clear hown hrow hk2
      go_wp2_with fail
      refine (encode_any _ zs _ hVl.out).mono ?_
      rintro e w9 ⟨v9, rfl, hv9, hb9⟩
      have HV9 := Lib.hid hv9
      clear hv9
      go_wp2_with fail
      go_ret
      exact ⟨_, rfl, HV9.out, hbe.trans (hb9.mono hbe.size)⟩

set_option maxRecDepth 100000 in
set_option maxHeartbeats 1000000 in
theorem pad_any (d dealer row : Int) (w : World) (h : ∀ z ∈ [d, dealer, row], R64 z) (hG : Glob w) :
    Calls Tryz.prog 150 #[.int .i64 d, .int .i64 dealer, .int .i64 row] w fun e w' => e = .returned (.int .i64 (padV d dealer row)) ∧ Below w.heap.size w w' := by
  have hI := Lib.hid (ints_made w [d, dealer, row] 3 w.heap.size rfl h (by simp))
  have hb0 := below_new w #[.int .i64 d, .int .i64 dealer, .int .i64 row] 3
  go_enter Tryz.func150, Tryz.ntmps150
  go_wp2_with fail
  refine (integers_any _ [d, dealer, row] _ hI.out (by simp)).mono ?_
  rintro e w1 ⟨v1, rfl, hv1, hb1⟩
  have hb01 := hb0.trans (hb1.mono hb0.size)
  have HV := Lib.hid hv1
  clear hv1
  go_wp2_with fail
  refine (hash_any tagP v1 (encL [d, dealer, row]) _ (by decide) HV.out (encL_pos _) (by have := encL_len h (by simp); simp at this; omega) (hG.below hb01)).mono ?_
  rintro e w2 ⟨rfl, hb2⟩
  go_wp2_with fail
  go_ret
  exact ⟨rfl, hb01.trans (hb2.mono hb01.size)⟩

end Go.Proofs.YtggnipkfliompaaGreatDoor

namespace Go.Proofs.YtggnipkfliompaaGreatDoor
open Go.RowKit FP

/-- The blocks from lo on are as they were. -/
structure Keep (lo : Nat) (w w' : World) : Prop where
  size : w.heap.size ≤ w'.heap.size
  block : ∀ k, lo ≤ k → k < w.heap.size → w'.heap[k]? = w.heap[k]?
theorem Keep.below {lo : Nat} {w w' : World} (h : Below w.heap.size w w') : Keep lo w w' := ⟨h.size, fun k _ hk => h.block k hk⟩
theorem Keep.trans {lo : Nat} {a b c : World} (h : Keep lo a b) (k : Keep lo b c) : Keep lo a c :=
  ⟨Nat.le_trans h.size k.size, fun x h1 h2 => (k.block x h1 (Nat.lt_of_lt_of_le h2 h.size)).trans (h.block x h1 h2)⟩
theorem Keep.low {lo lo' : Nat} {w w' : World} (h : Keep lo w w') (hl : lo ≤ lo') : Keep lo' w w' := ⟨h.size, fun k h1 h2 => h.block k (Nat.le_trans hl h1) h2⟩
theorem Keep.setCell {lo : Nat} {w w' : World} (h : Keep lo w w') {b o : Nat} (hb : b < lo) (v : Value) : Keep lo w (w'.setCell ⟨b, o, none⟩ v) :=
  ⟨by simpa [World.setCell] using h.size, fun k h1 h2 => (Below.heap_setCell _ _ _ _ (by show k ≠ b; omega)).trans (h.block k h1 h2)⟩
theorem Keep.refl (lo : Nat) (w : World) : Keep lo w w := ⟨Nat.le_refl _, fun _ _ _ => rfl⟩
theorem Keep.cell {lo : Nat} {w w' : World} (h : Keep lo w w') {b o : Nat} {v : Value} (hb : lo ≤ b) (hc : w.cell? ⟨b, o, none⟩ = some v) : w'.cell? ⟨b, o, none⟩ = some v := by
  have := h.block b hb (lt_of_cell hc)
  unfold World.cell? at hc ⊢
  rw [this]; exact hc
/-- The callee answers b, whatever has been laid behind, or written below lo. -/
def CondF (lo : Nat) (w : World) (f : FuncId) (cap : Array Value) (b : Bool) : Prop :=
  Goes Tryz.prog f ∧ ∀ w', Keep lo w w' → Calls Tryz.prog f cap w' fun e w'' => e = .returned (.bool b) ∧ Below w'.heap.size w' w''
theorem CondF.keep {lo : Nat} {w w' : World} {f : FuncId} {cap : Array Value} {b : Bool} (h : CondF lo w f cap b) (hb : Keep lo w w') : CondF lo w' f cap b :=
  ⟨h.1, fun w'' h2 => h.2 w'' (hb.trans h2)⟩
theorem CondF.low {lo lo' : Nat} {w : World} {f : FuncId} {cap : Array Value} {b : Bool} (h : CondF lo' w f cap b) (hl : lo ≤ lo') : CondF lo w f cap b :=
  ⟨h.1, fun w'' h2 => h.2 w'' (h2.low hl)⟩
/-- A call leaves a condition. -/
def CondR (b : Bool) (e : Int) (w : World) (r : Ending) (w' : World) : Prop :=
  ∃ f cap, r = .returned (.agg #[.func (.func f) #[] cap, .int .i64 e]) ∧ CondF w.heap.size w' f cap b ∧ Below w.heap.size w w'

set_option maxRecDepth 100000 in
theorem goes_within1 : Goes Tryz.prog 196 := goes_of Tryz.func196 (by kernel_rfl) rfl
set_option maxRecDepth 100000 in
theorem goes_element1 : Goes Tryz.prog 192 := goes_of Tryz.func192 (by kernel_rfl) rfl
set_option maxRecDepth 100000 in
theorem goes_right1 : Goes Tryz.prog 186 := goes_of Tryz.func186 (by kernel_rfl) rfl

set_option maxRecDepth 100000 in
set_option maxHeartbeats 400000 in
theorem within1_any (lb nb hb : Nat) (n lo hi : Int) (w : World) (c0 : w.cell? ⟨lb, 0, none⟩ = some (.int .i64 lo)) (c1 : w.cell? ⟨nb, 0, none⟩ = some (.int .i64 n)) (c2 : w.cell? ⟨hb, 0, none⟩ = some (.int .i64 hi)) :
    Calls Tryz.prog 196 #[.pointer (some ⟨lb, 0, none⟩), .pointer (some ⟨nb, 0, none⟩), .pointer (some ⟨hb, 0, none⟩)] w fun e w' => e = .returned (.bool (inB n lo hi)) ∧ Below w.heap.size w w' := by
  by_cases h1 : lo ≤ n
  · have H := Lib.hid (show inB n lo hi = decide (n ≤ hi) by unfold inB; rw [decide_eq_true h1, Bool.true_and])
    go_enter Tryz.func196, Tryz.ntmps196
    go_wp2_with fail
    go_ret
    exact ⟨ret_bool H.out.symm, Below.refl _ _⟩
  · have H := Lib.hid (show inB n lo hi = false by unfold inB; rw [decide_eq_false h1, Bool.false_and])
    go_enter Tryz.func196, Tryz.ntmps196
    go_wp2_with fail
    go_ret
    exact ⟨ret_bool H.out.symm, Below.refl _ _⟩

set_option maxRecDepth 100000 in
set_option maxHeartbeats 400000 in
theorem element1_any (nb : Nat) (n : Int) (w : World) (hn : R64 n) (c1 : w.cell? ⟨nb, 0, none⟩ = some (.int .i64 n)) :
    Calls Tryz.prog 192 #[.pointer (some ⟨nb, 0, none⟩)] w fun e w' => e = .returned (.bool (elB n)) ∧ Below w.heap.size w w' := by
  go_enter Tryz.func192, Tryz.ntmps192
  go_wp2_with fail
  with_reducible refine (valid_any _ _ hn).mono ?_
  rintro e w1 ⟨rfl, rfl⟩
  go_wp2_with fail
  go_ret
  exact ⟨rfl, Below.refl _ _⟩

set_option maxRecDepth 100000 in
set_option maxHeartbeats 1000000 in
theorem within_any (n lo hi e : Int) (w : World) :
    Calls Tryz.prog 149 #[.int .i64 n, .int .i64 lo, .int .i64 hi, .int .i64 e] w (CondR (inB n lo hi) e w) := by
  have hmf : ∀ (fn : Fn) (first cap : Array Value) (w : World), (Instr.makeFunc fn first cap).run Tryz.prog w = .ok (.func fn first cap) w := fun _ _ _ _ => rfl
  go_enter Tryz.func149, Tryz.ntmps149
  go_wp2_with fail
  refine bodyPost_ret (v := .agg #[.func (.func 196) #[] #[.pointer (some ⟨w.heap.size + 1, 0, none⟩), .pointer (some ⟨w.heap.size, 0, none⟩), .pointer (some ⟨w.heap.size + 1 + 1, 0, none⟩)], .int .i64 e]) (by simp [results, Tryz.results149, go_sem]) rfl ?_
  refine ⟨_, _, rfl, ⟨goes_within1, fun w' hb => ?_⟩, ?_⟩
  · exact within1_any _ _ _ n lo hi w' (hb.cell (by omega) (by simp [go_sem])) (hb.cell (by omega) (by simp [go_sem])) (hb.cell (by omega) (by simp [go_sem]))
  · repeat (first | exact Below.refl _ _ | refine Below.setCell ?_ (by simp; try omega) _ | refine Below.alloc ?_ (by simp; try omega) _ | refine Below.drew ?_)

set_option maxRecDepth 100000 in
set_option maxHeartbeats 1000000 in
theorem element_any (n e : Int) (w : World) (hn : R64 n) :
    Calls Tryz.prog 140 #[.int .i64 n, .int .i64 e] w (CondR (elB n) e w) := by
  have hmf : ∀ (fn : Fn) (first cap : Array Value) (w : World), (Instr.makeFunc fn first cap).run Tryz.prog w = .ok (.func fn first cap) w := fun _ _ _ _ => rfl
  go_enter Tryz.func140, Tryz.ntmps140
  go_wp2_with fail
  refine bodyPost_ret (v := .agg #[.func (.func 192) #[] #[.pointer (some ⟨w.heap.size, 0, none⟩)], .int .i64 e]) (by simp [results, Tryz.results140, go_sem]) rfl ?_
  refine ⟨_, _, rfl, ⟨goes_element1, fun w' hb => ?_⟩, ?_⟩
  · exact element1_any _ n w' hn (hb.cell (Nat.le_refl _) (by simp [go_sem]))
  · repeat (first | exact Below.refl _ _ | refine Below.setCell ?_ (by simp; try omega) _ | refine Below.alloc ?_ (by simp; try omega) _ | refine Below.drew ?_)

end Go.Proofs.YtggnipkfliompaaGreatDoor

namespace Go.Proofs.YtggnipkfliompaaGreatDoor
open Go.RowKit

/-- A stop on its way. -/
def stopC (e : Int) : Value := .iface 149 (.agg #[.int .i64 e])
def stopped36 (e : Int) : List PanicEntry := [{ v := stopC e, recovered := false }]

set_option maxRecDepth 100000 in
set_option maxHeartbeats 400000 in
theorem cmust_ok (e : Int) (w : World) :
    Calls Tryz.prog 56 #[.bool true, .int .i64 e] w fun r w' => r = .returned (.tuple #[]) ∧ w = w' := by
  go_enter Tryz.func56, Tryz.ntmps56
  go_wp2
  go_end0
  exact ⟨rfl, rfl⟩

set_option maxRecDepth 100000 in
set_option maxHeartbeats 400000 in
theorem cmust_bad (e : Int) (w : World) :
    Calls Tryz.prog 56 #[.bool false, .int .i64 e] w fun r w' => r = .panicked (stopped36 e) ∧ w = w' := by
  go_enter Tryz.func56, Tryz.ntmps56
  go_wp2
  exact ⟨rfl, rfl, rfl⟩

set_option maxRecDepth 100000 in
set_option maxHeartbeats 4000000 in
theorem caught36_panicking (b o : Nat) (x e : Int) (older : List PanicEntry) (w : World) (hc : w.cell? ⟨b, o, none⟩ = some (.int .i64 x)) (hz : w.frozen? ⟨b, o, none⟩ = false) (hp : b < w.heap.size) :
    CallsD Tryz.prog 123 #[.pointer (some ⟨b, o, none⟩)] (.panicking ({ v := stopC e, recovered := false } :: older)) w fun r u' w' =>
      r = .returned (.tuple #[]) ∧ u' = .panicking ({ v := stopC e, recovered := true } :: older) ∧ w' = (w.alloc (.cells #[.int .i64 e] 149)).setCell ⟨b, o, none⟩ (.int .i64 e) := by
  unfold stopC
  have hta : ∀ w, (Instr.typeAssert (.iface 149 (.agg #[.int .i64 e])) 20 149 true).run Tryz.prog w = .ok (.tuple #[.agg #[.int .i64 e], .bool true]) w := fun _ => by kernel_rfl
  have hbn : Below w.heap.size w (w.alloc (.cells #[.int .i64 e] 149)) := (Below.refl _ _).alloc (Nat.le_refl _) _
  have hc1 := below_cell hbn hc
  obtain ⟨W1, hW1⟩ : ∃ W1, W1 = w.alloc (.cells #[.int .i64 e] 149) := ⟨_, rfl⟩
  have hz1 : W1.frozen? ⟨b, o, none⟩ = false := by rw [hW1]; simpa [go_sem, hp] using hz
  have s0 : W1.cell? ⟨w.heap.size, 0, none⟩ = some (.int .i64 e) := by rw [hW1]; simp [go_sem]
  rw [← hW1] at hc1 ⊢
  have HW1 := Lib.hid hW1
  have hb1 : b ≠ w.heap.size := by omega
  clear hW1 hbn
  refine callsD_of_wpS Tryz.func123 rfl fun c₀ cs hu => ?_
  simp only [Tryz.ntmps123, List.size_toArray, List.length_cons, List.length_nil, Nat.reduceAdd, Nat.reduceSub, Array.replicate_succ, Array.replicate_zero, List.push_toArray, List.append_toArray, List.nil_append, List.cons_append]
  apply wpS_seq
  apply wpS_region
  simp [wpOpsS, go_sem, recoverD, hu, Exit.thenS]
  generalize hc0 : ({ fn := c₀.fn, tmps := c₀.tmps, todo := c₀.todo, defers := c₀.defers, mode := FrameMode.panicking ({ v := Value.iface 149 (Value.agg #[Value.int IntKind.i64 e]), recovered := true } :: older), kind := c₀.kind, roundOf := c₀.roundOf } : Frame) = c1
  have hm : c1.mode = FrameMode.panicking ({ v := Value.iface 149 (Value.agg #[Value.int IntKind.i64 e]), recovered := true } :: older) := by rw [← hc0]
  have HB := Lib.hid (show ∀ a' w', a'.defers = [] → w' = W1.setCell ⟨b, o, none⟩ (.int .i64 e) → bodyPostS Tryz.prog Tryz.f123 c₀ cs (fun r u' w' => r = Ending.returned (Value.tuple #[]) ∧ u' = FrameMode.panicking ({ v := Value.iface 149 (Value.agg #[Value.int IntKind.i64 e]), recovered := true } :: older) ∧ w' = W1.setCell ⟨b, o, none⟩ (.int .i64 e)) .normal a' (c1 :: cs) w' by
    intro a' w' h1 h2
    simp [bodyPostS, results, Tryz.results123, h1, h2, ← hc0])
  clear hc0 hu hm
  refine wpS_of_wp ?_
  refine wp_mono (Q := fun e' a' w' => e' = .normal ∧ a'.defers = [] ∧ w' = W1.setCell ⟨b, o, none⟩ (.int .i64 e)) ?_ ?_
  · go_wp2_with (rw [← HW1.out])
    all_goals first
      | exact ⟨rfl, rfl, rfl⟩
      | trace_state
  · rintro e' a' w' ⟨rfl, h1, h2⟩
    exact HB.out a' w' h1 h2

set_option maxRecDepth 100000 in
theorem caught36_idle (p : Addr) (w : World) :
    CallsD Tryz.prog 123 #[.pointer (some p)] .returning w fun r u' w' => r = .returned (.tuple #[]) ∧ u' = .returning ∧ w' = w := by
  refine callsD_of_wpS Tryz.func123 rfl fun c₀ cs hu => ?_
  apply wpS_seq
  apply wpS_region
  simp [wpOpsS, go_sem, recoverD, hu, Tryz.ntmps123, Exit.thenS]
  apply wpS_seq
  apply wpS_region
  simp [wpOpsS, go_sem, Exit.thenS]
  refine wpS_cond (t := false) (by simp [Act.eval, Array.replicate]) ?_
  simp only [Bool.false_eq_true, if_false]
  refine wpS_of_wp (wp_skip ?_)
  cases c₀
  simp_all [bodyPostS, results, Tryz.results123]

/-- How a call ends that stops with an error that is not 0. -/
def raised36 (c : Int) : Ending := if c = 0 then .returned (.tuple #[]) else .panicked (stopped36 c)
theorem raised36_zero {c : Int} (h : c = 0) : raised36 c = .returned (.tuple #[]) := by rw [raised36, if_pos h]
theorem raised36_not {c : Int} (h : c ≠ 0) : raised36 c = .panicked (stopped36 c) := by rw [raised36, if_neg h]

set_option maxRecDepth 100000 in
set_option maxHeartbeats 400000 in
theorem get_ok (x : Int) (w : World) :
    Calls Tryz.prog 57 #[.int .i64 x, .int .i64 0] w fun r w' => r = .returned (.int .i64 x) ∧ w = w' := by
  go_enter Tryz.func57, Tryz.ntmps57
  go_wp2_with fail
  go_ret
  exact ⟨rfl, rfl⟩
set_option maxRecDepth 100000 in
set_option maxHeartbeats 400000 in
theorem get_bad (x e : Int) (w : World) (he : e ≠ 0) :
    Calls Tryz.prog 57 #[.int .i64 x, .int .i64 e] w fun r w' => r = .panicked (stopped36 e) ∧ w = w' := by
  have h0 : (e != 0) = true := bne_iff_ne.2 he
  have h1 : (e == 0) = false := beq_eq_false_iff_ne.2 he
  go_enter Tryz.func57, Tryz.ntmps57
  go_wp2_with fail
  exact ⟨rfl, rfl, rfl⟩
set_option maxRecDepth 100000 in
set_option maxHeartbeats 400000 in
theorem getb_ok (x : Bool) (w : World) :
    Calls Tryz.prog 59 #[.bool x, .int .i64 0] w fun r w' => r = .returned (.bool x) ∧ w = w' := by
  go_enter Tryz.func59, Tryz.ntmps59
  go_wp2_with fail
  go_ret
  exact ⟨rfl, rfl⟩

/-- What a function leaves that attempt calls: the box of the error is as it was. -/
structure TryF (n : Nat) (R : Int → World → Prop) (r : Ending) (w' : World) : Prop where
  ex : ∃ e, r = raised36 e ∧ R e w'
  box : w'.heap[n]? = some (.cells #[.int .i64 0] 35 (0, 0))
/-- What attempt leaves. -/
structure TryW (n : Nat) (w1 w' : World) : Prop where
  lt : n < w1.heap.size
  below : ∀ n0 w0, n0 ≤ n → Below n0 w0 w1 → Below n0 w0 w'
  block : ∀ k, k ≠ n → k < w1.heap.size → w'.heap[k]? = w1.heap[k]?
def TryR (n : Nat) (R : Int → World → Prop) (r : Ending) (w' : World) : Prop :=
  ∃ e w1, r = .returned (.int .i64 e) ∧ R e w1 ∧ TryW n w1 w'
theorem try_zero {n : Nat} {w1 : World} (h : n < w1.heap.size) (v : Value) : TryW n w1 (w1.setCell ⟨n, 0, none⟩ v) :=
  ⟨h, fun _ _ h0 hb => hb.setCell h0 v, fun _ hk _ => Below.heap_setCell _ _ _ _ hk⟩
theorem try_not {n : Nat} {w1 : World} (h : n < w1.heap.size) (o : Obj) (v : Value) : TryW n w1 ((w1.alloc o).setCell ⟨n, 0, none⟩ v) :=
  ⟨h, fun _ _ h0 hb => (hb.alloc (Nat.le_trans h0 (Nat.le_of_lt h)) o).setCell h0 v, fun _ hk hl => (Below.heap_setCell _ _ _ _ hk).trans (Below.heap_alloc _ _ _ hl)⟩

set_option maxRecDepth 100000 in
set_option maxHeartbeats 2000000 in
theorem attempt_any (f : FuncId) (cap : Array Value) (w : World) (R : Int → World → Prop) (hgo : Goes Tryz.prog f)
    (hF : Calls Tryz.prog f cap (w.alloc (.cells #[.int .i64 0] 35)) (TryF w.heap.size R)) :
    Calls Tryz.prog 53 #[.func (.func f) #[] cap] w (TryR w.heap.size R) := by
  have hE' : ∀ (args : Array Value) (w : World), (callFunc f args).run Tryz.prog w = .ok (.enter f args) w := hgo
  have hmf : ∀ (fn : Fn) (first cap : Array Value) (w : World), (Instr.makeFunc fn first cap).run Tryz.prog w = .ok (.func fn first cap) w := fun _ _ _ _ => rfl
  have HF := Lib.hid hF
  clear hF hgo
  go_enter_defers Tryz.func53, Tryz.ntmps53
  go_wp2_with fail
  refine HF.out.mono ?_
  rintro r w1 ⟨⟨e, rfl, hR⟩, hbx⟩
  have hlt := row_lt hbx
  have x0 := row_cell hbx (k := 0) rfl
  have f0 := row_free hbx 0
  by_cases he : e = 0
  · subst he
    rw [raised36_zero rfl]
    go_wp2_with fail
    refine leaves_cons (f := 123) (args := #[.pointer (some ⟨w.heap.size, 0, none⟩)]) (by simp) (by simp [go_sem]) ?_
    refine (caught36_idle _ _).mono ?_
    rintro e u' w'' ⟨rfl, rfl, rfl⟩
    have hx := World.cell?_setCell_same' w1 ⟨w.heap.size, 0, none⟩ (.int .i64 0) (by rw [x0]; rfl)
    simp [Leaves, settle, results, Tryz.results53, go_sem, hx]
    exact ⟨0, w1, rfl, hR, try_zero hlt _⟩
  · rw [raised36_not he]
    refine leaves_cons (f := 123) (args := #[.pointer (some ⟨w.heap.size, 0, none⟩)]) (by simp) (by simp [go_sem]) ?_
    refine (caught36_panicking w.heap.size 0 0 e [] _ x0 f0 hlt).mono ?_
    rintro r u' w'' ⟨rfl, rfl, rfl⟩
    have hx : ((w1.alloc (.cells #[.int .i64 e] 149)).setCell ⟨w.heap.size, 0, none⟩ (.int .i64 e)).cell? ⟨w.heap.size, 0, none⟩ = some (.int .i64 e) :=
      World.cell?_setCell_same' _ _ _ (by rw [below_cell (below_new w1 _ _) x0]; rfl)
    simp [Leaves, settle, results, Tryz.results53, go_sem, hx]
    exact ⟨e, w1, rfl, hR, try_not hlt _ _⟩

end Go.Proofs.YtggnipkfliompaaGreatDoor

namespace Go.Proofs.YtggnipkfliompaaGreatDoor
open Go.RowKit FP

set_option maxRecDepth 100000 in
theorem goes_ck1 : Goes Tryz.prog 124 := goes_of Tryz.func124 (by kernel_rfl) rfl
set_option maxRecDepth 100000 in
theorem goes_ck2 : Goes Tryz.prog 125 := goes_of Tryz.func125 (by kernel_rfl) rfl
set_option maxRecDepth 100000 in
theorem goes_ck3 : Goes Tryz.prog 126 := goes_of Tryz.func126 (by kernel_rfl) rfl
set_option maxRecDepth 100000 in
theorem goes_ck4 : Goes Tryz.prog 127 := goes_of Tryz.func127 (by kernel_rfl) rfl

set_option maxRecDepth 100000 in
set_option maxHeartbeats 400000 in
theorem ck1_any (db : Nat) (n : Int) (w : World) (c0 : w.cell? ⟨db, 0, none⟩ = some (.int .i64 n)) :
    Calls Tryz.prog 124 #[.pointer (some ⟨db, 0, none⟩)] w fun e w' => e = .returned (.bool (inB n 0 63)) ∧ Below w.heap.size w w' := by
  by_cases h1 : 0 ≤ n
  · have H := Lib.hid (show inB n 0 63 = decide (n < 64) by unfold inB; rw [decide_eq_true h1, Bool.true_and]; exact decide_eq_decide.2 ⟨fun h => by omega, fun h => by omega⟩)
    go_enter Tryz.func124, Tryz.ntmps124
    go_wp2_with fail
    go_ret
    exact ⟨ret_bool H.out.symm, Below.refl _ _⟩
  · have H := Lib.hid (show inB n 0 63 = false by unfold inB; rw [decide_eq_false h1, Bool.false_and])
    go_enter Tryz.func124, Tryz.ntmps124
    go_wp2_with fail
    go_ret
    exact ⟨ret_bool H.out.symm, Below.refl _ _⟩

set_option maxRecDepth 100000 in
set_option maxHeartbeats 400000 in
theorem ck2_any (db pb : Nat) (a1 a2 : Option Addr) (n1 n2 k1 k2 : Nat) (w : World) (c0 : w.cell? ⟨db, 2, none⟩ = some (.slice a1 n1 k1)) (c1 : w.cell? ⟨pb, 0, none⟩ = some (.slice a2 n2 k2)) :
    Calls Tryz.prog 125 #[.pointer (some ⟨db, 0, none⟩), .pointer (some ⟨pb, 0, none⟩)] w fun e w' => e = .returned (.bool (decide (n1 = n2))) ∧ Below w.heap.size w w' := by
  have H := Lib.hid (show ((n1 : Int) == (n2 : Int)) = decide (n1 = n2) by
    by_cases h : n1 = n2
    · rw [h]; simp
    · rw [decide_eq_false h]; exact beq_eq_false_iff_ne.2 (by omega))
  have H2 := Lib.hid (show (n1 == n2) = decide (n1 = n2) by
    by_cases h : n1 = n2
    · rw [h]; simp
    · rw [decide_eq_false h]; exact beq_eq_false_iff_ne.2 h)
  go_enter Tryz.func125, Tryz.ntmps125
  go_wp2_with fail
  go_ret
  exact ⟨ret_bool (by first | exact H2.out | exact H.out), Below.refl _ _⟩

set_option maxRecDepth 100000 in
set_option maxHeartbeats 1000000 in
theorem ck3_any (db pb : Nat) (rv ov cv : Value) (rows : List (List Int)) (owners cs : List Int) (w : World) (hp : progE rows owners = 0) (c0 : w.cell? ⟨pb, 0, none⟩ = some rv) (c1 : w.cell? ⟨pb, 1, none⟩ = some ov) (c2 : w.cell? ⟨db, 1, none⟩ = some cv)
    (hR : Rows2 w rv rows) (hO : Ints w ov owners) (hC : Ints w cv cs) :
    Calls Tryz.prog 126 #[.pointer (some ⟨pb, 0, none⟩), .pointer (some ⟨db, 0, none⟩)] w fun e w' => e = .returned (.bool (comB rows cs)) ∧ Below w.heap.size w w' := by
  have HE : Hid ((pubE rows owners cs (-1) == 1) = comB rows cs) := Lib.hid (by
    unfold pubE
    rw [comB_E hp]
    cases comB rows cs <;> simp)
  have HP := Lib.hid (fun W h1 h2 h3 => public_any rv ov cv rows owners cs (-1) W h1 h2 h3 (R64.mk (by omega) (by omega)))
  have HR := Lib.hid hR
  have HO := Lib.hid hO
  have HC := Lib.hid hC
  obtain ⟨a1, k1, rfl, -⟩ := id hR
  obtain ⟨a2, k2, rfl, -⟩ := id hO
  obtain ⟨a3, k3, rfl, -⟩ := id hC
  generalize pubE rows owners cs (-1) = e at *
  generalize pubR rows owners cs (-1) = x at *
  clear hR hO hC hp
  go_enter Tryz.func126, Tryz.ntmps126
  go_wp2_with fail
  refine (HP.out _ HR.out HO.out HC.out).mono ?_
  rintro r w1 ⟨rfl, hb⟩
  go_wp2_with fail
  go_ret
  exact ⟨ret_bool HE.out, hb⟩

set_option maxRecDepth 100000 in
set_option maxHeartbeats 2000000 in
theorem ck4_any (db : Nat) (pv : Value) (ps : List Pcl) (w : World) (c0 : w.cell? ⟨db, 2, none⟩ = some pv) (hP : Parcels w pv ps) :
    Calls Tryz.prog 127 #[.pointer (some ⟨db, 0, none⟩)] w fun e w' => e = .returned (.bool (numB ps)) ∧ Below w.heap.size w w' := by
  obtain ⟨a, cap, rfl, hcap, hlen, hr, hk⟩ := hP
  have HK := Lib.hid hk
  clear hk hr
  go_enter Tryz.func127, Tryz.ntmps127
  go_wp2_with fail
  go_loopw [2, 3, 7] (fun _ _ i wr => ∃ k : Nat, k ≤ ps.length ∧ i = .int .i64 k ∧ Hid (∀ j (h : j < ps.length), j < k → ps[j].1 = (j : Int)) ∧ Below w.heap.size w wr) (fun _ _ i _ => ps.length - (intOf i).toNat)
  case atStart => exact ⟨0, Nat.zero_le _, rfl, Lib.hid (fun j _ h => absurd h (Nat.not_lt_zero j)), Below.refl _ _⟩
  case round =>
    obtain ⟨k, hkl, rfl, HP, hb⟩ := hrel
    by_cases hlt : k < ps.length
    · obtain ⟨b, off, rfl, q1, q2, q3⟩ := HK.out k hlt
      have y1 := below_cell hb q1
      have y2 := below_cell hb q2
      have y3 := below_cell hb q3
      have HB := Lib.hid hb
      have HL := Lib.hid hlt
      generalize hz2 : ps[k].2.1 = z2 at *
      generalize hz3 : ps[k].2.2 = z3 at *
      generalize hz1 : ps[k].1 = z1 at *
      have HZ := Lib.hid hz1.symm
      clear hz1 hz2 hz3 q1 q2 q3 hb
      by_cases he : z1 = (k : Int)
      · subst he
        go_wp2_with fail
        go_roundw
        case rel => exact ⟨k + 1, by omega, by go_num, Lib.hid (fun j hj h => by
          by_cases e : j = k
          · subst e; exact HZ.out.symm
          · exact HP.out j hj (by omega)), by repeat (first | exact HB.out | refine Below.setCell ?_ HB.out.size _ | refine Below.alloc ?_ HB.out.size _)⟩
        case measure => simp [intOf]; omega
      · have HN : Hid (numB ps = false) := Lib.hid (numB_bad HL.out (fun h => he (HZ.out.trans h)))
        have d0 : (z1 != (k : Int)) = true := bne_iff_ne.2 he
        have d1 : (z1 == (k : Int)) = false := beq_eq_false_iff_ne.2 he
        clear he
        go_wp2_with fail
        go_ret
        exact ⟨ret_bool HN.out.symm, by repeat (first | exact HB.out | refine Below.setCell ?_ HB.out.size _ | refine Below.alloc ?_ HB.out.size _)⟩
    · have HN : Hid (numB ps = true) := Lib.hid (numB_iff.2 (fun j hj => HP.out j hj (by omega)))
      go_wp2_with fail
      go_ret
      exact ⟨ret_bool HN.out.symm, hb⟩

end Go.Proofs.YtggnipkfliompaaGreatDoor
