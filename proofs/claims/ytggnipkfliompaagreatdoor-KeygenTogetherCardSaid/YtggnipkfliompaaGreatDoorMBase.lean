/- The words in which the contracts of this claim are stated: slices of integers that read as lists, worlds that only grew. The functions of package slices that are called at slices of integers. Package linear: the examination of rows, an error that ends the work by a panic, and that is caught. Package linear: Check and examine. -/
import Derived.Test.YtggnipkfliompaaGreatDoorProg
import Derived.WalkKit
import Derived.BigQuiet
import Derived.Lib.Hide
set_option maxHeartbeats 2000000
set_option maxRecDepth 100000
namespace Go.Proofs.YtggnipkfliompaaGreatDoor
open Go.RowKit
theorem ret_int {k : IntKind} {a b : Int} (h : a = b) : Ending.returned (.int k a) = .returned (.int k b) := by rw [h]
theorem ret_bool {a b : Bool} (h : a = b) : Ending.returned (.bool a) = .returned (.bool b) := by rw [h]
def Goes (P : Program) (f : FuncId) : Prop := ∀ (args : Array Value) (w : World), (callFunc f args).run P w = .ok (.enter f args) w
theorem goes_of {P : Program} {f : FuncId} {fn : Func} {c : Code} (hf : P.funcs[f]? = some fn) (hname : (fn.name == "runtime.NumGoroutine") = false) (hb : fn.body = some c) : Goes P f := by
 intro args w
 have h1 : fn.name ≠ "runtime.NumGoroutine" := by simpa using hname
 simp [callFunc, hf, h1, hb, mark]
def R64 (n : Int) : Prop := -9223372036854775808 ≤ n ∧ n ≤ 9223372036854775807
theorem R64.mk {n : Int} (h : -4611686018427387904 ≤ n) (h' : n ≤ 4611686018427387904) : R64 n := ⟨by omega, by omega⟩
theorem lt_of_cell {w : World} {b o : Nat} {v : Value} (h : w.cell? ⟨b, o, none⟩ = some v) : b < w.heap.size := by
 by_cases hb : b < w.heap.size
 ·exact hb
 ·simp [World.cell?, Array.getElem?_eq_none (Nat.le_of_not_lt hb)] at h
theorem below_cell {w w' : World} (h : Below w.heap.size w w') {b o : Nat} {v : Value} (hc : w.cell? ⟨b, o, none⟩ = some v) : w'.cell? ⟨b, o, none⟩ = some v := by
 rw [h.cell (p := ⟨b, o, none⟩) (lt_of_cell hc)]; exact hc
theorem below_later {w a b : World} {B : Nat} (h : Below B w a) (hB : B ≤ w.heap.size) (k : Below a.heap.size a b) : Below B w b :=
 h.trans (k.mono (Nat.le_trans hB h.size))
def Ints (w : World) (v : Value) (zs : List Int) : Prop :=
 ∃ a cap, v = .slice a zs.length cap ∧ zs.length ≤ cap ∧ zs.length ≤ 17592186044416 ∧ (∀ z ∈ zs, R64 z) ∧
  ∀ k (h : k < zs.length), ∃ b off, a = some ⟨b, off, none⟩ ∧ w.cell? ⟨b, off + k, none⟩ = some (.int .i64 zs[k])
theorem Ints.below {w w' : World} {v : Value} {zs : List Int} (h : Ints w v zs) (hb : Below w.heap.size w w') : Ints w' v zs := by
 obtain ⟨a, cap, rfl, hc, hl, hr, hk⟩ := h
 refine ⟨a, cap, rfl, hc, hl, hr, fun k hlt => ?_⟩
 obtain ⟨b, off, ha, hcell⟩ := hk k hlt
 exact ⟨b, off, ha, below_cell hb hcell⟩
theorem Ints.nil (w : World) (a : Option Addr) (cap : Nat) : Ints w (.slice a 0 cap) [] :=
 ⟨a, cap, rfl, Nat.zero_le _, by simp, by simp, fun k h => absurd h (Nat.not_lt_zero _)⟩
def Rows2 (w : World) (v : Value) (rows : List (List Int)) : Prop :=
 ∃ a cap, v = .slice a rows.length cap ∧ rows.length ≤ cap ∧ rows.length ≤ 17592186044416 ∧
  ∀ k (h : k < rows.length), ∃ b off r, a = some ⟨b, off, none⟩ ∧ w.cell? ⟨b, off + k, none⟩ = some r ∧ Ints w r rows[k]
theorem Rows2.below {w w' : World} {v : Value} {rows : List (List Int)} (h : Rows2 w v rows) (hb : Below w.heap.size w w') : Rows2 w' v rows := by
 obtain ⟨a, cap, rfl, hc, hl, hk⟩ := h
 refine ⟨a, cap, rfl, hc, hl, fun k hlt => ?_⟩
 obtain ⟨b, off, r, ha, hcell, hr⟩ := hk k hlt
 exact ⟨b, off, r, ha, below_cell hb hcell, hr.below hb⟩
theorem Rows2.nil (w : World) (a : Option Addr) (cap : Nat) : Rows2 w (.slice a 0 cap) [] :=
 ⟨a, cap, rfl, Nat.zero_le _, by simp, fun k h => absurd h (Nat.not_lt_zero _)⟩
end Go.Proofs.YtggnipkfliompaaGreatDoor
namespace Go.Proofs.YtggnipkfliompaaGreatDoor
open Go.RowKit
def indexI (p : Int → Bool) : List Int → Int
 | [] => -1
 | z :: l => if p z then 0 else if indexI p l < 0 then -1 else indexI p l + 1
theorem indexI_lo (p : Int → Bool) (l : List Int) : -1 ≤ indexI p l := by
 induction l with
 | nil => simp [indexI]
 | cons z l ih =>
  unfold indexI
  split
  ·omega
  ·split <;> omega
theorem indexI_none (p : Int → Bool) (l : List Int) (h : ∀ z ∈ l, p z = false) : indexI p l = -1 := by
 induction l with
 | nil => rfl
 | cons z l ih => unfold indexI; rw [if_neg (by simp [h z]), ih (fun y hy => h y (by simp [hy]))]; rfl
theorem indexI_at (p : Int → Bool) (l : List Int) (k : Nat) (hk : k < l.length) (h : ∀ z ∈ l.take k, p z = false) (hp : p l[k] = true) : indexI p l = k := by
 induction l generalizing k with
 | nil => simp at hk
 | cons z l ih =>
  unfold indexI
  cases k with
  | zero => simp at hp; simp [hp]
  | succ k =>
   simp at hp hk
   rw [if_neg (by rw [h z (by simp)]; simp), ih k hk (fun y hy => h y (by simp [hy])) hp, if_neg (by omega)]; rfl
theorem indexI_any (p : Int → Bool) (l : List Int) : decide (0 ≤ indexI p l) = l.any p := by
 by_cases h : l.any p = true
 ·rw [h]
  induction l with
  | nil => simp at h
  | cons z l ih =>
   unfold indexI
   by_cases hz : p z = true
   ·simp [hz]
   ·have h' : l.any p = true := by simpa [hz] using h
    have := ih h'
    simp at this
    simp [hz]; omega
 ·have h' : ∀ z ∈ l, p z = false := by
   intro z hz; simp at h; simpa using h z hz
  rw [indexI_none p l h']; simp at h ⊢; exact h
def Tests (f : FuncId) (cap : Array Value) (w : World) (p : Int → Bool) (zs : List Int) : Prop :=
 ∀ z ∈ zs, ∀ w', Below w.heap.size w w' → Calls Tryz.prog f (#[.int .i64 z] ++ cap) w' fun e w'' => e = .returned (.bool (p z)) ∧ Below w'.heap.size w' w''
theorem indexFunc_any (f : FuncId) (cap : Array Value) (p : Int → Bool) (v : Value) (zs : List Int) (w : World) (hI : Ints w v zs) (hE : Goes Tryz.prog f) (hT : Tests f cap w p zs) :
  Calls Tryz.prog 164 #[v, .func (.func f) #[] cap] w fun e w' => e = .returned (.int .i64 (indexI p zs)) ∧ Below w.heap.size w w' := by
 obtain ⟨a, cap', rfl, hcap, hlen, hr, hk⟩ := hI
 have HT := Lib.hid hT
 clear hT
 have hE' : ∀ (args : Array Value) (w : World), (callFunc f args).run Tryz.prog w = .ok (.enter f args) w := hE
 clear hE
 go_enter Tryz.func164, Tryz.ntmps164
 go_wp2
 go_loopw [5, 8] (fun _ i wr => ∃ k : Nat, k ≤ zs.length ∧ i = .int .i64 k ∧ Hid (∀ z ∈ zs.take k, p z = false) ∧ Below w.heap.size w wr) (fun _ i _ => zs.length - (intOf i).toNat)
 case atStart => exact ⟨0, Nat.zero_le _, rfl, Lib.hid (by simp), Below.refl _ _⟩
 case round =>
  obtain ⟨k, hkl, rfl, HP, hb⟩ := hrel
  by_cases hlt : k < zs.length
  ·obtain ⟨b, off, rfl, hc⟩ := hk k hlt
   have hc' : wr.cell? ⟨b, off + k, none⟩ = some (.int .i64 zs[k]) := below_cell hb hc
   clear hk hr hc
   cases hp : p zs[k]
   ·have HN := Lib.hid (show ∀ z ∈ zs.take (k + 1), p z = false by
     rw [List.take_succ_eq_append_getElem hlt]
     intro z hz
     rcases List.mem_append.1 hz with h | h
     ·exact HP.out z h
     ·rw [List.mem_singleton.1 h]; exact hp)
    have HQ := Lib.hid hp
    clear hp
    go_wp2_with fail
    refine (HT.out _ (List.getElem_mem hlt) _ hb).mono ?_
    rintro e w1 ⟨rfl, hb1⟩
    rw [HQ.out]
    go_wp2
    go_roundw
    case rel => exact ⟨k + 1, by omega, by go_num, HN, below_later hb (Nat.le_refl _) hb1⟩
    case measure => simp [intOf]; omega
   ·have HQ := Lib.hid hp
    clear hp
    have HR := Lib.hid (indexI_at p zs k hlt HP.out HQ.out)
    go_wp2_with fail
    refine (HT.out _ (List.getElem_mem hlt) _ hb).mono ?_
    rintro e w1 ⟨rfl, hb1⟩
    rw [HQ.out]
    go_wp2
    go_ret
    exact ⟨ret_int HR.out.symm, below_later hb (Nat.le_refl _) hb1⟩
  ·have HR := Lib.hid (indexI_none p zs (by have := HP.out; rwa [List.take_of_length_le (by omega)] at this))
   go_wp2
   go_ret
   exact ⟨ret_int HR.out.symm, hb⟩
theorem containsFunc_any (f : FuncId) (cap : Array Value) (p : Int → Bool) (v : Value) (zs : List Int) (w : World) (hI : Ints w v zs) (hE : Goes Tryz.prog f) (hT : Tests f cap w p zs) :
  Calls Tryz.prog 93 #[v, .func (.func f) #[] cap] w fun e w' => e = .returned (.bool (zs.any p)) ∧ Below w.heap.size w w' := by
 have H := Lib.hid (indexI_any p zs)
 have hlo := indexI_lo p zs
 go_enter Tryz.func93, Tryz.ntmps93
 go_wp2_with (go_at_call 164; refine (indexFunc_any f cap p v zs _ hI hE hT).mono ?_; rintro e w1 ⟨rfl, hb1⟩)
 go_ret
 exact ⟨ret_bool H.out, hb1⟩
end Go.Proofs.YtggnipkfliompaaGreatDoor
namespace Go.Proofs.YtggnipkfliompaaGreatDoor
open Go.RowKit
def thrown (e : Int) : List PanicEntry := [{ v := .iface 35 (.int .i64 e), recovered := false }]
theorem need_ok (e : Int) (w : World) :
  Calls Tryz.prog 209 #[.bool true, .int .i64 e] w fun r w' => r = .returned (.tuple #[]) ∧ w = w' := by
 go_enter Tryz.func209, Tryz.ntmps209
 go_wp2
 go_end0
 exact ⟨rfl, rfl⟩
theorem need_bad (e : Int) (w : World) :
  Calls Tryz.prog 209 #[.bool false, .int .i64 e] w fun r w' => r = .panicked (thrown e) ∧ w = w' := by
 go_enter Tryz.func209, Tryz.ntmps209
 go_wp2
 exact ⟨rfl, rfl, rfl⟩
theorem caught_panicking (p : Addr) (x e : Int) (older : List PanicEntry) (w : World) (hc : w.cell? p = some (.int .i64 x)) (hz : w.frozen? p = false) :
  CallsD Tryz.prog 178 #[.pointer (some p)] (.panicking ({ v := .iface 35 (.int .i64 e), recovered := false } :: older)) w fun r u' w' =>
   r = .returned (.tuple #[]) ∧ u' = .panicking ({ v := .iface 35 (.int .i64 e), recovered := true } :: older) ∧ w' = w.setCell p (.int .i64 e) := by
 have hta : ∀ w, (Instr.typeAssert (.iface 35 (.int .i64 e)) 20 35 true).run Tryz.prog w = .ok (.tuple #[.int .i64 e, .bool true]) w := fun _ => by kernel_rfl
 refine callsD_of_wpS Tryz.func178 rfl fun c₀ cs hu => ?_
 simp only [Tryz.ntmps178, List.size_toArray, List.length_cons, List.length_nil, Nat.reduceAdd, Nat.reduceSub, Array.replicate_succ, Array.replicate_zero, List.push_toArray, List.append_toArray, List.nil_append, List.cons_append]
 apply wpS_seq
 apply wpS_region
 simp [wpOpsS, go_sem, recoverD, hu, Exit.thenS]
 generalize hc0 : ({ fn := c₀.fn, tmps := c₀.tmps, todo := c₀.todo, defers := c₀.defers, mode := FrameMode.panicking ({ v := Value.iface 35 (Value.int IntKind.i64 e), recovered := true } :: older), kind := c₀.kind, roundOf := c₀.roundOf } : Frame) = c1
 have hm : c1.mode = FrameMode.panicking ({ v := Value.iface 35 (Value.int IntKind.i64 e), recovered := true } :: older) := by rw [← hc0]
 have HB := Lib.hid (show ∀ a' w', a'.defers = [] → w' = w.setCell p (.int .i64 e) → bodyPostS Tryz.prog Tryz.f178 c₀ cs (fun r u' w' => r = Ending.returned (Value.tuple #[]) ∧ u' = FrameMode.panicking ({ v := Value.iface 35 (Value.int IntKind.i64 e), recovered := true } :: older) ∧ w' = w.setCell p (Value.int IntKind.i64 e)) .normal a' (c1 :: cs) w' by
  intro a' w' h1 h2
  simp [bodyPostS, results, Tryz.results178, h1, h2, ← hc0])
 clear hc0 hu hm
 refine wpS_of_wp ?_
 refine wp_mono (Q := fun e' a' w' => e' = .normal ∧ a'.defers = [] ∧ w' = w.setCell p (.int .i64 e)) ?_ ?_
 ·go_wp2
 ·rintro e' a' w' ⟨rfl, h1, h2⟩
  exact HB.out a' w' h1 h2
theorem caught_idle (p : Addr) (w : World) :
  CallsD Tryz.prog 178 #[.pointer (some p)] .returning w fun r u' w' => r = .returned (.tuple #[]) ∧ u' = .returning ∧ w' = w := by
 refine callsD_of_wpS Tryz.func178 rfl fun c₀ cs hu => ?_
 apply wpS_seq
 apply wpS_region
 simp [wpOpsS, go_sem, recoverD, hu, Tryz.ntmps178, Exit.thenS]
 apply wpS_seq
 apply wpS_region
 simp [wpOpsS, go_sem, Exit.thenS]
 refine wpS_cond (t := false) (by simp [Act.eval, Array.replicate]) ?_
 simp only [Bool.false_eq_true, if_false]
 refine wpS_of_wp (wp_skip ?_)
 cases c₀
 simp_all [bodyPostS, results, Tryz.results178]
def oddQ (z : Int) : Bool := decide (z < 0) || decide (1073741789 ≤ z)
theorem odd_any (z : Int) (w : World) :
  Calls Tryz.prog 228 #[.int .i64 z] w fun e w' => e = .returned (.bool (oddQ z)) ∧ w = w' := by
 by_cases h1 : z < 0
 ·have H := Lib.hid (show oddQ z = true by simp [oddQ, h1])
  go_enter Tryz.func228, Tryz.ntmps228
  go_wp2
  go_ret
  exact ⟨ret_bool H.out.symm, rfl⟩
 ·by_cases h2 : 1073741789 ≤ z
  ·have H := Lib.hid (show oddQ z = true by simp [oddQ, h2])
   go_enter Tryz.func228, Tryz.ntmps228
   go_wp2
   go_ret
   exact ⟨ret_bool H.out.symm, rfl⟩
  ·have H := Lib.hid (show oddQ z = false by simp [oddQ]; omega)
   go_enter Tryz.func228, Tryz.ntmps228
   go_wp2
   go_ret
   exact ⟨ret_bool H.out.symm, rfl⟩
theorem odd_tests (w : World) (zs : List Int) : Tests 228 #[] w oddQ zs :=
 fun z _ w' _ => (odd_any z w').mono fun _ _ ⟨h, e⟩ => ⟨h, e ▸ Below.refl _ _⟩
def rowOk (n : Nat) (row : List Int) : Bool := decide (row.length = n) && !row.any oddQ
def wide (rows : List (List Int)) : Nat := (rows.head?.map List.length).getD 0
def kindErr (rows : List (List Int)) : Int :=
 if rows.any (fun r => decide (64 < r.length)) then 2 else if rows.all (rowOk (wide rows)) then 0 else 130
def raised (c : Int) : Ending := if c = 0 then .returned (.tuple #[]) else .panicked (thrown c)
theorem raised_zero {c : Int} (h : c = 0) : raised c = .returned (.tuple #[]) := by rw [raised, if_pos h]
theorem raised_not {c : Int} (h : c ≠ 0) : raised c = .panicked (thrown c) := by rw [raised, if_neg h]
theorem wide_at (rows : List (List Int)) (h : 0 < rows.length) : rows[0].length = wide rows := by
 cases rows with
 | nil => simp at h
 | cons r l => rfl
theorem kindErr_long (rows : List (List Int)) (k : Nat) (h : k < rows.length) (hl : 64 < rows[k].length) : kindErr rows = 2 := by
 rw [kindErr, if_pos]; rw [List.any_eq_true]; exact ⟨_, List.getElem_mem h, by simpa using hl⟩
theorem kindErr_bad (rows : List (List Int)) (hs : ∀ r ∈ rows, r.length ≤ 64) (k : Nat) (h : k < rows.length) (hl : rowOk (wide rows) rows[k] = false) : kindErr rows = 130 := by
 rw [kindErr, if_neg, if_neg]
 ·intro ha; rw [List.all_eq_true] at ha; rw [ha _ (List.getElem_mem h)] at hl; cases hl
 ·intro ha; rw [List.any_eq_true] at ha; obtain ⟨r, hr, hd⟩ := ha; have := hs r hr; simp at hd; omega
theorem kindErr_ok (rows : List (List Int)) (hs : ∀ r ∈ rows, r.length ≤ 64) (h : ∀ r ∈ rows, rowOk (wide rows) r = true) : kindErr rows = 0 := by
 rw [kindErr, if_neg, if_pos]
 ·rw [List.all_eq_true]; exact h
 ·intro ha; rw [List.any_eq_true] at ha; obtain ⟨r, hr, hd⟩ := ha; have := hs r hr; simp at hd; omega
theorem take_all {α : Type} {P : α → Prop} {l : List α} {k : Nat} (h : k < l.length) (h1 : ∀ x ∈ l.take k, P x) (h2 : P l[k]) : ∀ x ∈ l.take (k + 1), P x := by
 rw [List.take_succ_eq_append_getElem h]
 intro x hx
 rcases List.mem_append.1 hx with hx | hx
 ·exact h1 x hx
 ·rw [List.mem_singleton.1 hx]; exact h2
theorem take_whole {α : Type} {P : α → Prop} {l : List α} {k : Nat} (h : ¬ k < l.length) (h1 : ∀ x ∈ l.take k, P x) : ∀ x ∈ l, P x := by
 rwa [List.take_of_length_le (by omega)] at h1
theorem lcheck_any (v : Value) (rows : List (List Int)) (w : World) (hI : Rows2 w v rows) :
  Calls Tryz.prog 210 #[v] w fun r w' => r = raised (kindErr rows) ∧ Below w.heap.size w w' := by
 obtain ⟨a, cap, rfl, hcap, hlen, hk⟩ := hI
 go_enter Tryz.func210, Tryz.ntmps210
 go_wp2_with fail
 go_loopw [3, 9] (fun _ i wr => ∃ k : Nat, k ≤ rows.length ∧ i = .int .i64 k ∧ Hid (∀ r ∈ rows.take k, r.length ≤ 64) ∧ Below w.heap.size w wr) (fun _ i _ => rows.length - (intOf i).toNat)
 case atStart => exact ⟨0, Nat.zero_le _, rfl, Lib.hid (by simp), Below.refl _ _⟩
 case round =>
  obtain ⟨k, hkl, rfl, HP, hb⟩ := hrel
  by_cases hlt : k < rows.length
  ·obtain ⟨b, off, r, rfl, hc, a', cap', rfl, hcap', hlen', hr', hk'⟩ := hk k hlt
   have hc' := below_cell hb hc
   clear hk hc
   by_cases hs : rows[k].length ≤ 64
   ·have hd : decide ((rows[k].length : Int) ≤ 64) = true := decide_eq_true (by omega)
    go_wp2_with fail
    with_reducible refine (need_ok _ _).mono ?_
    rintro e w1 ⟨rfl, rfl⟩
    go_wp2_with fail
    go_roundw
    case rel => exact ⟨k + 1, by omega, by go_num, Lib.hid (take_all hlt HP.out hs), hb⟩
    case measure => simp [intOf]; omega
   ·have HE := Lib.hid ((raised_not (c := kindErr rows) (by rw [kindErr_long rows k hlt (by omega)]; decide)).trans (by rw [kindErr_long rows k hlt (by omega)]))
    have hd : decide ((rows[k].length : Int) ≤ 64) = false := decide_eq_false (by omega)
    clear hs
    go_wp2_with fail
    with_reducible refine (need_bad _ _).mono ?_
    rintro e w1 ⟨rfl, rfl⟩
    exact ⟨rfl, HE.out.symm, hb⟩
  ·have HS := Lib.hid (take_whole hlt HP.out)
   go_wp2_with fail
   obtain ⟨w0, rfl⟩ : ∃ w0 : World, w0 = wr := ⟨_, rfl⟩
   go_loopw [6, 20] (fun _ i wr => ∃ k : Nat, k ≤ rows.length ∧ i = .int .i64 k ∧ Hid (∀ r ∈ rows.take k, rowOk (wide rows) r = true) ∧ Below w.heap.size w wr) (fun _ i _ => rows.length - (intOf i).toNat)
   case atStart => exact ⟨0, Nat.zero_le _, rfl, Lib.hid (by simp), hb⟩
   case round =>
    obtain ⟨j, hjl, rfl, HJ, hb2⟩ := hrel
    by_cases hlt2 : j < rows.length
    ·obtain ⟨b, off, r, rfl, hc, hi⟩ := hk j hlt2
     have hi2 := hi.below (hb2.mono (Nat.le_refl _))
     obtain ⟨a', cap', rfl, hcap', hlen', hr', hk'⟩ := hi
     obtain ⟨b0, off0, r0, e0, hc0, a0, cap0, rfl, -⟩ := hk 0 (by omega)
     cases e0
     have hc' := below_cell hb2 hc
     have hc0' := below_cell hb2 hc0
     rw [Nat.add_zero] at hc0'
     have hw := Lib.hid (wide_at rows (by omega))
     clear hk hc hc0
     by_cases hl : rows[j].length = rows[0].length
     ·have hd : ((rows[j].length : Int) == (rows[0].length : Int)) = true := by rw [beq_iff_eq]; omega
      cases ho : rows[j].any oddQ
      ·have HO := Lib.hid ho
       have HK := Lib.hid (show rowOk (wide rows) rows[j] = true by simp [rowOk, ho, ← hw.out, hl])
       clear ho hl
       go_wp2_with fail
       with_reducible refine (containsFunc_any 228 #[] oddQ _ rows[j] _ hi2 (goes_of Tryz.func228 (by kernel_rfl) rfl) (odd_tests _ _)).mono ?_
       rintro e w1 ⟨rfl, hb1⟩
       rw [HO.out]
       go_wp2_with fail
       with_reducible refine (need_ok _ _).mono ?_
       rintro e w2 ⟨rfl, rfl⟩
       go_wp2_with fail
       go_roundw
       case rel => exact ⟨j + 1, by omega, by go_num, Lib.hid (take_all hlt2 HJ.out HK.out), hb2.trans (hb1.mono hb2.size)⟩
       case measure => simp [intOf]; omega
      ·have HO := Lib.hid ho
       have HE := Lib.hid ((raised_not (c := kindErr rows) (by rw [kindErr_bad rows HS.out j hlt2 (by simp [rowOk, ho])]; decide)).trans (by rw [kindErr_bad rows HS.out j hlt2 (by simp [rowOk, ho])]))
       clear ho hl
       go_wp2_with fail
       with_reducible refine (containsFunc_any 228 #[] oddQ _ rows[j] _ hi2 (goes_of Tryz.func228 (by kernel_rfl) rfl) (odd_tests _ _)).mono ?_
       rintro e w1 ⟨rfl, hb1⟩
       rw [HO.out]
       go_wp2_with fail
       with_reducible refine (need_bad _ _).mono ?_
       rintro e w2 ⟨rfl, rfl⟩
       exact ⟨rfl, HE.out.symm, hb2.trans (hb1.mono hb2.size)⟩
     ·have hd : ((rows[j].length : Int) == (rows[0].length : Int)) = false := by rw [beq_eq_false_iff_ne]; omega
      have HE := Lib.hid ((raised_not (c := kindErr rows) (by rw [kindErr_bad rows HS.out j hlt2 (by simp [rowOk]; intro h; exact absurd (h.trans hw.out.symm) hl)]; decide)).trans (by rw [kindErr_bad rows HS.out j hlt2 (by simp [rowOk]; intro h; exact absurd (h.trans hw.out.symm) hl)]))
      clear hl
      go_wp2_with fail
      with_reducible refine (need_bad _ _).mono ?_
      rintro e w1 ⟨rfl, rfl⟩
      exact ⟨rfl, HE.out.symm, hb2⟩
    ·have HE := Lib.hid (raised_zero (kindErr_ok rows HS.out (take_whole hlt2 HJ.out)))
     go_wp2_with fail
     go_end0
     exact ⟨HE.out.symm, hb2⟩
end Go.Proofs.YtggnipkfliompaaGreatDoor
namespace Go.Proofs.YtggnipkfliompaaGreatDoor
open Go.RowKit
def checkErr (rows : List (List Int)) : Int := if 64 < rows.length then 2 else kindErr rows
def examErr (rows : List (List Int)) (t : List Int) : Int :=
 if checkErr rows = 0 then
  if kindErr [t] = 0 then (if rows.length = 0 ∨ wide rows = t.length then 0 else 130) else kindErr [t]
 else checkErr rows
theorem checkErr_many {rows : List (List Int)} (h : 64 < rows.length) : checkErr rows = 2 := by rw [checkErr, if_pos h]
theorem checkErr_few {rows : List (List Int)} (h : rows.length ≤ 64) : checkErr rows = kindErr rows := by rw [checkErr, if_neg (by omega)]
theorem Rows2.one {w : World} {v : Value} {t : List Int} (h : Ints w v t) (T : TypeId) : Rows2 (w.alloc (.cells #[v] T)) (.slice (some ⟨w.heap.size, 0, none⟩) 1 1) [t] := by
 refine ⟨_, 1, rfl, by simp, by simp, fun k hk => ⟨_, _, v, rfl, ?_, ?_⟩⟩
 ·rw [World.cell?_alloc_at _ _ _ _ rfl]
  have : k = 0 := by simp at hk; omega
  subst this; rfl
 ·have : k = 0 := by simp at hk; omega
  subst this
  exact h.below ((Below.refl _ _).alloc (Nat.le_refl _) _)
theorem mono_ending {P : Program} {f : FuncId} {args : Array Value} {w : World} {e e' : Ending} {R : World → Prop} (h : Calls P f args w fun r w' => r = e ∧ R w') (he : e = e') : Calls P f args w fun r w' => r = e' ∧ R w' := he ▸ h
theorem box_later {w w1 : World} {x : Value} {T : TypeId} (hb : Below (w.alloc (.cells #[x] T)).heap.size (w.alloc (.cells #[x] T)) w1) :
  w1.cell? ⟨w.heap.size, 0, none⟩ = some x ∧ w1.frozen? ⟨w.heap.size, 0, none⟩ = false := by
 have hs : w.heap.size < (w.alloc (.cells #[x] T)).heap.size := by simp
 rw [hb.cell (p := ⟨w.heap.size, 0, none⟩) hs, hb.frozen (p := ⟨w.heap.size, 0, none⟩) hs, World.cell?_alloc_at _ _ _ _ rfl, World.frozen?_alloc_at _ _ _ _ rfl]
 exact ⟨rfl, rfl⟩
theorem below_box {w w1 : World} {x : Value} {T : TypeId} (hb : Below (w.alloc (.cells #[x] T)).heap.size (w.alloc (.cells #[x] T)) w1) (u : Value) :
  Below w.heap.size w (w1.setCell ⟨w.heap.size, 0, none⟩ u) :=
 (((Below.refl _ _).alloc (Nat.le_refl _) _).trans (hb.mono (by simp))).setCell (Nat.le_refl _) _
theorem lbelow_new {w w1 : World} {o : Obj} (hb : Below (w.alloc o).heap.size (w.alloc o) w1) : Below w.heap.size w w1 :=
 ((Below.refl _ _).alloc (Nat.le_refl _) _).trans (hb.mono (by simp))
theorem examErr_check {rows : List (List Int)} {t : List Int} (h : checkErr rows ≠ 0) : examErr rows t = checkErr rows := by rw [examErr, if_neg h]
theorem examErr_kind {rows : List (List Int)} {t : List Int} (h : checkErr rows = 0) (h' : kindErr [t] ≠ 0) : examErr rows t = kindErr [t] := by rw [examErr, if_pos h, if_neg h']
theorem examErr_bad {rows : List (List Int)} {t : List Int} (h : checkErr rows = 0) (h' : kindErr [t] = 0) (hn : ¬ (rows.length = 0 ∨ wide rows = t.length)) : examErr rows t = 130 := by
 rw [examErr, if_pos h, if_pos h', if_neg hn]
theorem examErr_ok {rows : List (List Int)} {t : List Int} (h : checkErr rows = 0) (h' : kindErr [t] = 0) (hn : rows.length = 0 ∨ wide rows = t.length) : examErr rows t = 0 := by
 rw [examErr, if_pos h, if_pos h', if_pos hn]
theorem examine_any (v u : Value) (rows : List (List Int)) (t : List Int) (w : World) (hI : Rows2 w v rows) (hT : Ints w u t) :
  Calls Tryz.prog 179 #[v, u] w fun r w' => r = raised (examErr rows t) ∧ Below w.heap.size w w' := by
 have hI0 := hI
 obtain ⟨a, cap, rfl, hcap, hlen, hk⟩ := hI
 obtain ⟨a2, cap2, rfl, hcap2, hlen2, hr2, hk2⟩ := hT
 have hT2 : Ints w (.slice a2 t.length cap2) t := ⟨a2, cap2, rfl, hcap2, hlen2, hr2, hk2⟩
 clear hk2
 by_cases hm : rows.length ≤ 64
 case neg =>
  have hd : decide ((rows.length : Int) ≤ 64) = false := decide_eq_false (by omega)
  have HC := Lib.hid (show raised (examErr rows t) = .panicked (thrown 2) by
   have := checkErr_many (rows := rows) (by omega)
   rw [examErr_check (by rw [this]; decide), this]; rfl)
  clear hm
  go_enter Tryz.func179, Tryz.ntmps179
  go_wp2_with fail
  with_reducible refine (need_bad _ _).mono ?_
  rintro e w1 ⟨rfl, rfl⟩
  exact ⟨rfl, HC.out.symm, Below.refl _ _⟩
 have hd : decide ((rows.length : Int) ≤ 64) = true := decide_eq_true (by omega)
 by_cases h0 : kindErr rows = 0
 case neg =>
  have HC := Lib.hid (show raised (examErr rows t) = .panicked (thrown (kindErr rows)) by
   have := checkErr_few hm
   rw [examErr_check (by rw [this]; exact h0), this]; exact raised_not h0)
  have H0 := Lib.hid h0
  clear h0 hm
  go_enter Tryz.func179, Tryz.ntmps179
  go_wp2_with fail
  with_reducible refine (need_ok _ _).mono ?_
  rintro e w1 ⟨rfl, rfl⟩
  go_wp2_with fail
  with_reducible refine (mono_ending (lcheck_any _ rows _ hI0) (raised_not H0.out)).mono ?_
  rintro e w1 ⟨rfl, hb⟩
  exact ⟨rfl, HC.out.symm, hb⟩
 have HE := Lib.hid ((checkErr_few hm).trans h0)
 have H0 := Lib.hid h0
 have HM := Lib.hid hm
 clear h0 hm
 by_cases h1 : kindErr [t] = 0
 case neg =>
  have HC := Lib.hid (show raised (examErr rows t) = .panicked (thrown (kindErr [t])) by rw [examErr_kind HE.out h1]; exact raised_not h1)
  have H1 := Lib.hid h1
  clear h1
  go_enter Tryz.func179, Tryz.ntmps179
  go_wp2_with fail
  with_reducible refine (need_ok _ _).mono ?_
  rintro e w1 ⟨rfl, rfl⟩
  go_wp2_with fail
  with_reducible refine (mono_ending (lcheck_any _ rows _ hI0) (raised_zero H0.out)).mono ?_
  rintro e w1 ⟨rfl, hb⟩
  go_wp2_with fail
  with_reducible refine (mono_ending (lcheck_any _ [t] _ (Rows2.one (hT2.below hb) _)) (raised_not H1.out)).mono ?_
  rintro e w2 ⟨rfl, hb2⟩
  exact ⟨rfl, HC.out.symm, hb.trans ((lbelow_new hb2).mono hb.size)⟩
 have H1 := Lib.hid h1
 clear h1
 by_cases hn : rows.length = 0
 ·have HC := Lib.hid (show raised (examErr rows t) = .returned (.tuple #[]) from raised_zero (examErr_ok HE.out H1.out (.inl hn)))
  have he : ((rows.length : Int) == 0) = true := by rw [beq_iff_eq]; omega
  clear hn
  go_enter Tryz.func179, Tryz.ntmps179
  go_wp2_with fail
  with_reducible refine (need_ok _ _).mono ?_
  rintro e w1 ⟨rfl, rfl⟩
  go_wp2_with fail
  with_reducible refine (mono_ending (lcheck_any _ rows _ hI0) (raised_zero H0.out)).mono ?_
  rintro e w1 ⟨rfl, hb⟩
  go_wp2_with fail
  with_reducible refine (mono_ending (lcheck_any _ [t] _ (Rows2.one (hT2.below hb) _)) (raised_zero H1.out)).mono ?_
  rintro e w2 ⟨rfl, hb2⟩
  go_wp2_with fail
  with_reducible refine (need_ok _ _).mono ?_
  rintro e w3 ⟨rfl, rfl⟩
  go_wp2_with fail
  go_end0
  exact ⟨HC.out.symm, hb.trans ((lbelow_new hb2).mono hb.size)⟩
 have hpos : 0 < rows.length := by omega
 obtain ⟨b, off, r, rfl, hc, a', cap', rfl, hcap', hlen', hr', hk'⟩ := hk 0 hpos
 rw [Nat.add_zero] at hc
 have HW := Lib.hid (wide_at rows hpos)
 have he : ((rows.length : Int) == 0) = false := by rw [beq_eq_false_iff_ne]; omega
 clear hk hk'
 by_cases hw : rows[0].length = t.length
 ·have HC := Lib.hid (show raised (examErr rows t) = .returned (.tuple #[]) from raised_zero (examErr_ok HE.out H1.out (.inr (HW.out ▸ hw))))
  have hq : ((rows[0].length : Int) == (t.length : Int)) = true := by rw [beq_iff_eq]; omega
  clear hw hn
  go_enter Tryz.func179, Tryz.ntmps179
  go_wp2_with fail
  with_reducible refine (need_ok _ _).mono ?_
  rintro e w1 ⟨rfl, rfl⟩
  go_wp2_with fail
  with_reducible refine (mono_ending (lcheck_any _ rows _ hI0) (raised_zero H0.out)).mono ?_
  rintro e w1 ⟨rfl, hb⟩
  go_wp2_with fail
  with_reducible refine (mono_ending (lcheck_any _ [t] _ (Rows2.one (hT2.below hb) _)) (raised_zero H1.out)).mono ?_
  rintro e w2 ⟨rfl, hb2⟩
  have hb3 := hb.trans ((lbelow_new hb2).mono hb.size)
  have hc3 := below_cell hb3 hc
  go_wp2_with fail
  with_reducible refine (need_ok _ _).mono ?_
  rintro e w3 ⟨rfl, rfl⟩
  go_wp2_with fail
  go_end0
  exact ⟨HC.out.symm, hb3⟩
 ·have HC := Lib.hid (show raised (examErr rows t) = .panicked (thrown 130) by
   rw [examErr_bad HE.out H1.out (by rw [← HW.out]; simp [hn, hw])]; rfl)
  have hq : ((rows[0].length : Int) == (t.length : Int)) = false := by rw [beq_eq_false_iff_ne]; omega
  clear hw hn
  go_enter Tryz.func179, Tryz.ntmps179
  go_wp2_with fail
  with_reducible refine (need_ok _ _).mono ?_
  rintro e w1 ⟨rfl, rfl⟩
  go_wp2_with fail
  with_reducible refine (mono_ending (lcheck_any _ rows _ hI0) (raised_zero H0.out)).mono ?_
  rintro e w1 ⟨rfl, hb⟩
  go_wp2_with fail
  with_reducible refine (mono_ending (lcheck_any _ [t] _ (Rows2.one (hT2.below hb) _)) (raised_zero H1.out)).mono ?_
  rintro e w2 ⟨rfl, hb2⟩
  have hb3 := hb.trans ((lbelow_new hb2).mono hb.size)
  have hc3 := below_cell hb3 hc
  go_wp2_with fail
  with_reducible refine (need_bad _ _).mono ?_
  rintro e w3 ⟨rfl, rfl⟩
  exact ⟨rfl, HC.out.symm, hb3⟩
end Go.Proofs.YtggnipkfliompaaGreatDoor
