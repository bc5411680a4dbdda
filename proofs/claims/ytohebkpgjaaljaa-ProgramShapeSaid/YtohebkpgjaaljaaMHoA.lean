/- formulas.Holds: people in a map; the elements of a gate that hold. formulas.holds. formulas.Holds. -/
import Derived.Test.YtohebkpgjaaljaaMGatA
import Derived.Test.YtohebkpgjaaljaaMRange3
import Derived.Test.YtohebkpgjaaljaaMRange4
import Derived.Test.YtohebkpgjaaljaaMLinD
import Derived.Test.YtohebkpgjaaljaaMInB
import Derived.Test.YtohebkpgjaaljaaMProC
import Derived.Maps.OwnOps
import Derived.Maps.OwnSet
import Derived.OwnWalkIn
namespace Go.Proofs.Ytohebkpgjaaljaa
open Go.RowKit Go.Maps

set_option maxRecDepth 100000 in
theorem keyInt : Keyed Try.prog 3 := int_keyed Try.underlying3
set_option maxRecDepth 100000 in
theorem zeroInt (w : World) : (zeroValue 3).run Try.prog w = .ok (.int .i64 0) w := by kernel_rfl
set_option maxRecDepth 100000 in
theorem key_int {x : Int} (h : R64 x) : keyOf Try.prog 3 (.int .i64 x) = some (.int .i64 x) := keyOf_int_mk Try.underlying3 (WalkArith.wf_i64 h)

/-- Block b is a map that has 1 at each of the numbers. -/
def MapW (W : World) (b : Nat) (who : List Int) : Prop :=
  ∃ n, ∃ D : DataW Unit, W.ownsMap Try.prog 3 (plainElem Try.prog 3) b n D ∧ n ≤ who.length ∧ ∀ x, D.atKey (.int .i64 x) (.lit (.int .i64 0)) = .lit (.int .i64 (if x ∈ who then 1 else 0))
theorem MapW.lt {W : World} {b : Nat} {who : List Int} (h : MapW W b who) : b < W.heap.size := by
  obtain ⟨n, D, h1, -⟩ := h
  exact h1.lt
theorem MapW.grown {W W' : World} {b : Nat} {who : List Int} {r : Option Nat} (h : MapW W b who) (hg : W.grownBy W' r) (hne : some b ≠ r) : MapW W' b who := by
  obtain ⟨n, D, h1, h2, h3⟩ := h
  exact ⟨n, D, h1.kept hg hne, h2, h3⟩
theorem grown_of_below {W W' : World} (h : Below W.heap.size W W') (r : Option Nat) : W.grownBy W' r := ⟨h.os, h.tape, h.output, h.size, fun k hk _ => h.block k hk⟩
theorem MapW.below {W W' : World} {b : Nat} {who : List Int} (h : MapW W b who) (hb : Below W.heap.size W W') : MapW W' b who := h.grown (grown_of_below hb none) (by simp)

/-- The elements that hold, among the first. -/
def selB (who : List Int) (l : List GT) (i : Nat) : Bool := if h : i < l.length then holdsG who l[i] else false
def selL (who : List Int) (l : List GT) (n : Nat) : List Nat := (List.range n).filter (selB who l)
theorem selB_at {who : List Int} {l : List GT} {i : Nat} (h : i < l.length) : selB who l i = holdsG who l[i] := by unfold selB; rw [dif_pos h]
theorem selL_yes {who : List Int} {l : List GT} {n : Nat} (h : selB who l n = true) : selL who l (n + 1) = selL who l n ++ [n] := by
  unfold selL; rw [List.range_succ, List.filter_append]; simp [h]
theorem selL_no {who : List Int} {l : List GT} {n : Nat} (h : selB who l n = false) : selL who l (n + 1) = selL who l n := by
  unfold selL; rw [List.range_succ, List.filter_append]; simp [h]
theorem selL_split (who : List Int) (l : List GT) {n N : Nat} (h : n ≤ N) : ∃ r, selL who l N = selL who l n ++ r := by
  obtain ⟨k, rfl⟩ : ∃ k, N = n + k := ⟨N - n, by omega⟩
  unfold selL
  rw [List.range_add, List.filter_append]
  exact ⟨_, rfl⟩
theorem selL_at {who : List Int} {l : List GT} {n N : Nat} (h : n < N) (hm : selB who l n = true) : (selL who l N).getD (selL who l n).length 0 = n ∧ (selL who l n).length < (selL who l N).length := by
  obtain ⟨r, hr⟩ := selL_split who l (show n + 1 ≤ N by omega)
  rw [selL_yes hm] at hr
  rw [hr]
  constructor
  · simp [List.getD_eq_getElem?_getD]
  · simp
theorem cntG_take (who : List Int) : ∀ (l : List GT) (k : Nat) (h : k < l.length), cntG who (l.take (k + 1)) = cntG who (l.take k) + (if holdsG who l[k] = true then 1 else 0)
  | [], k, h => absurd h (Nat.not_lt_zero _)
  | x :: t, 0, _ => by
    rw [List.take_succ_cons, List.take_zero, List.take_zero]
    simp [cntG]
  | x :: t, k + 1, h => by
    rw [List.take_succ_cons, List.take_succ_cons]
    unfold cntG
    rw [cntG_take who t k (by simpa using h)]
    simp only [List.getElem_cons_succ]
    omega
theorem selL_len (who : List Int) (l : List GT) : ∀ k, k ≤ l.length → (selL who l k).length = cntG who (l.take k)
  | 0, _ => by rw [List.take_zero]; unfold selL cntG; rfl
  | k + 1, h => by
    rw [cntG_take who l k h]
    have ih := selL_len who l k (by omega)
    have e := selB_at (who := who) (l := l) (i := k) h
    cases hx : holdsG who l[k] with
    | true => rw [selL_yes (e.trans hx), List.length_append, ih]; simp
    | false => rw [selL_no (e.trans hx), ih]; simp

abbrev HoldsIH (w : World) (v : Value) (g : GT) (who : List Int) (mb : Nat) : Prop := ∀ W, Below w.heap.size w W → MapW W mb who → Calls Try.prog 70 #[v, .map (some mb)] W fun e w' => e = .returned (.bool (holdsG who g)) ∧ Below W.heap.size W w'

set_option maxRecDepth 100000 in
theorem held1_goes : Goes Try.prog 138 := goes_of Try.func138 (by kernel_rfl) rfl

set_option maxRecDepth 100000 in
set_option maxHeartbeats 1000000 in
theorem held_any (p n : Int) (a : Option Addr) (len cap mb : Nat) (w : World) :
    Calls Try.prog 117 #[.agg #[.int .i64 p, .int .i64 n, .slice a len cap], .map (some mb)] w fun e w' =>
      e = .returned (.func (.func 138) #[] #[.pointer (some ⟨w.heap.size, 0, none⟩), .pointer (some ⟨w.heap.size + 1, 0, none⟩)]) ∧ w' = (w.alloc (.cells #[.int .i64 p, .int .i64 n, .slice a len cap] 28)).alloc (.cells #[.map (some mb)] 94) := by
  have hmf : ∀ (fn : Fn) (first cap : Array Value) (w : World), (Instr.makeFunc fn first cap).run Try.prog w = .ok (.func fn first cap) w := fun _ _ _ _ => rfl
  go_enter Try.func117, Try.ntmps117
  go_wp2_with fail
  go_ret
  exact ⟨rfl, rfl⟩

set_option maxRecDepth 100000 in
set_option maxHeartbeats 4000000 in
theorem held1_iterates (w : World) (gb tb mb : Nat) (p n : Int) (l : List GT) (a : Option Addr) (cap : Nat) (sub : Nat → Value) (who : List Int) (hl : l.length ≤ 17592186044416)
    (hk : ∀ k, k < l.length → ∃ b off x y za zn zc, a = some ⟨b, off, none⟩ ∧ sub k = .agg #[.int .i64 x, .int .i64 y, .slice za zn zc] ∧ w.cell? ⟨b, off + k * 3, none⟩ = some (.int .i64 x) ∧ w.cell? ⟨b, off + k * 3 + 1, none⟩ = some (.int .i64 y) ∧ w.cell? ⟨b, off + k * 3 + 2, none⟩ = some (.slice za zn zc))
    (ih : ∀ k (h : k < l.length), HoldsIH w (sub k) l[k] who mb) (I : Nat → World → Prop)
    (hF : ∀ j W, I j W → Below w.heap.size w W ∧ MapW W mb who ∧ W.cell? ⟨gb, 0, none⟩ = some (.int .i64 p) ∧ W.cell? ⟨gb, 1, none⟩ = some (.int .i64 n) ∧ W.cell? ⟨gb, 2, none⟩ = some (.slice a l.length cap) ∧ W.cell? ⟨tb, 0, none⟩ = some (.map (some mb))) :
    Iterates4 Try.prog 138 #[.pointer (some ⟨gb, 0, none⟩), .pointer (some ⟨tb, 0, none⟩)] (selL who l l.length).length (fun j => #[sub ((selL who l l.length).getD j 0)]) I := by
  intro ll J Jx W hJ hA hY h0
  obtain ⟨-, -, -, -, c2, -⟩ := hF 0 W (hJ 0 W h0)
  have HF := Lib.hid hF
  have HY := Lib.hid hY
  have HA := Lib.hid hA
  have HK := Lib.hid hk
  have HIH := Lib.hid ih
  refine callsIn_of_wp Try.func138 rfl trivial ?_ rfl
  simp only [Try.ntmps138, List.size_toArray, List.length_cons, List.length_nil, Nat.reduceAdd, Nat.reduceSub, Array.replicate_succ, Array.replicate_zero, List.push_toArray, List.append_toArray, List.nil_append, List.cons_append]
  clear hF hY hA hk ih
  gi_wp2
  gi_loopw [5, 9] (fun _ i wr => ∃ j : Nat, j ≤ l.length ∧ i = .int .i64 j ∧ J (selL who l j).length wr) (fun _ i _ => l.length - (intOf i).toNat)
  case atStart => exact ⟨0, Nat.zero_le _, rfl, h0⟩
  case round =>
    obtain ⟨j, hj, rfl, hJj⟩ := hrel
    by_cases hlt : j < l.length
    · obtain ⟨hbw, hmw, z0, z1, z2, zt⟩ := HF.out _ wr (hJ _ wr hJj)
      obtain ⟨b, off, x, y, za, zn, zc, ea, es, r1, r2, r3⟩ := HK.out j hlt
      have y1 := below_cell hbw r1
      have y2 := below_cell hbw r2
      have y3 := below_cell hbw r3
      subst ea
      have hbn := below_new wr #[.int .i64 x, .int .i64 y, .slice za zn zc] 28
      have hrn := World.alloc_heap_new wr (.cells #[.int .i64 x, .int .i64 y, .slice za zn zc] 28)
      obtain ⟨wn, hwn⟩ : ∃ wn, wn = wr.alloc (.cells #[.int .i64 x, .int .i64 y, .slice za zn zc] 28) := ⟨_, rfl⟩
      rw [← hwn] at hbn hrn
      have q0 : wn.cell? ⟨wr.heap.size, 0, none⟩ = some (.int .i64 x) := row_cell hrn rfl
      have q1 : wn.cell? ⟨wr.heap.size, 1, none⟩ = some (.int .i64 y) := row_cell hrn rfl
      have q2 : wn.cell? ⟨wr.heap.size, 2, none⟩ = some (.slice za zn zc) := row_cell hrn rfl
      have qt := below_cell hbn zt
      have HWN := Lib.hid hwn
      have HBN := Lib.hid hbn
      have hcall := HIH.out j hlt wn (hbw.trans (hbn.mono hbw.size)) (hmw.below hbn)
      rw [es] at hcall
      have HC := Lib.hid hcall
      have HES := Lib.hid es
      have HSB := Lib.hid (selB_at (who := who) hlt)
      have i0 : 0 ≤ (j : Int) := by omega
      have i1 : (j : Int) < (l.length : Int) := by omega
      have HJJ := Lib.hid hJj
      clear hmw hwn hbn hrn hcall es hJj r1 r2 r3 hbw
      gi_wp2_with (rw [← HWN.out])
      refine ⟨trivial, rfl, (callsIn_wide (n := 0)).2 (HC.out.mono ?_)⟩
      rintro e w6 ⟨rfl, hb6⟩
      have HB6 := Lib.hid (HBN.out.trans (hb6.mono HBN.out.size))
      have t0 := below_cell hb6 q0
      have t1 := below_cell hb6 q1
      have t2 := below_cell hb6 q2
      clear hb6
      cases hx : holdsG who l[j] with
      | true =>
        obtain ⟨hgn, hcn⟩ := selL_at (who := who) (l := l) hlt (HSB.out.trans hx)
        have HN := Lib.hid (show (selL who l (j + 1)).length = (selL who l j).length + 1 by rw [selL_yes (HSB.out.trans hx)]; simp)
        obtain ⟨fn, tmps, assign, body, hy, hR⟩ := HY.out _ w6 (HA.out _ wr w6 HJJ.out HB6.out) hcn
        simp only [hgn] at hy
        rw [HES.out] at hy
        have HCN := Lib.hid hcn
        clear hx hgn hcn
        gi_wp2
        refine ⟨rfl, hR.mono ?_⟩
        rintro e W3 (⟨rfl, hJ3⟩ | ⟨rfl, hJx3⟩)
        · gi_wp2
          go_roundw
          case rel => exact ⟨j + 1, by omega, by go_num, by rw [HN.out]; exact hJ3⟩
          case measure => simp [intOf]; omega
        · gi_wp2
          refine bodyPost_ret (results_none rfl _ _ _) rfl ?_
          exact ⟨⟨_, rfl⟩, .inr ⟨_, by have := HCN.out; omega, hJx3⟩⟩
      | false =>
        have HN := Lib.hid (show (selL who l (j + 1)).length = (selL who l j).length by rw [selL_no (HSB.out.trans hx)])
        have HJ6 := Lib.hid (HA.out _ wr w6 HJJ.out HB6.out)
        clear hx
        gi_wp2
        refine ⟨fun _ h => (by cases h), ?_⟩
        gi_wp2
        go_roundw
        case rel => exact ⟨j + 1, by omega, by go_num, by rw [HN.out]; exact HJ6.out⟩
        case measure => simp [intOf]; omega
    · obtain rfl : j = l.length := by omega
      gi_wp2
      go_end0
      exact ⟨⟨_, rfl⟩, .inl hJj⟩

end Go.Proofs.Ytohebkpgjaaljaa

namespace Go.Proofs.Ytohebkpgjaaljaa
open Go.RowKit Go.Maps

attribute [local go_sem] Oper.semAt_some

set_option maxRecDepth 100000 in
theorem look_one {who : List Int} {x c : Int} {n : Nat} {D : DataW Unit} {W : World} {b : Nat} (_h : W.ownsMap Try.prog 3 (plainElem Try.prog 3) b n D) (hD : ∀ x, D.atKey (.int .i64 x) (.lit (.int .i64 0)) = .lit (.int .i64 (if x ∈ who then 1 else 0))) (hat : D.atKey (.int .i64 x) (.lit (.int .i64 0)) = .lit (.int .i64 c)) : c = if x ∈ who then 1 else 0 := by
  rw [hD x] at hat
  simp only [DataW.lit.injEq, Lit.int.injEq, true_and] at hat
  exact hat.symm

set_option maxRecDepth 100000 in
set_option maxHeartbeats 4000000 in
theorem holds_leaf (p n : Int) (l : List GT) (a : Option Addr) (cap mb : Nat) (who : List Int) (W : World) (h0 : 0 ≤ p) (hp : R64 p) (hM : MapW W mb who) :
    Calls Try.prog 70 #[.agg #[.int .i64 p, .int .i64 n, .slice a l.length cap], .map (some mb)] W fun e w' => e = .returned (.bool (holdsG who (.mk p n l))) ∧ Below W.heap.size W w' := by
  have hd0 : decide (p ≥ 0) = true := decide_eq_true h0
  have hd0' : decide (0 ≤ p) = true := decide_eq_true h0
  have HV : Hid (holdsG who (.mk p n l) = decide (p ∈ who)) := Lib.hid (by unfold holdsG; rw [if_pos h0])
  obtain ⟨W2, hW2⟩ : ∃ W2, W2 = (W.alloc (.cells #[.int .i64 p, .int .i64 n, .slice a l.length cap] 28)).alloc (.cells #[.bool false] 4) := ⟨_, rfl⟩
  have hb2 : Below W.heap.size W W2 := hW2 ▸ (below_new W _ _).alloc (by simp) _
  have hr1 : W2.heap[W.heap.size]? = some (.cells #[.int .i64 p, .int .i64 n, .slice a l.length cap] 28 (0, 0)) := by
    rw [hW2]; exact ((below_new (W.alloc _) _ _).block _ (by simp)).trans (World.alloc_heap_new _ _)
  have hr2 : W2.heap[W.heap.size + 1]? = some (.cells #[.bool false] 4 (0, 0)) := by
    have := World.alloc_heap_new (W.alloc (.cells #[.int .i64 p, .int .i64 n, .slice a l.length cap] 28)) (.cells #[.bool false] 4)
    rw [World.size_alloc] at this
    rw [hW2]; exact this
  obtain ⟨n2, D, hown, hn2, hD⟩ := hM.below hb2
  have c0 : W2.cell? ⟨W.heap.size, 0, none⟩ = some (.int .i64 p) := row_cell hr1 rfl
  have c1 : W2.cell? ⟨W.heap.size + 1, 0, none⟩ = some (.bool false) := row_cell hr2 rfl
  have f1 := row_free hr2 0
  have HW2 := Lib.hid hW2
  have HB := Lib.hid hb2
  have HD := Lib.hid hD
  have HO := Lib.hid hown
  clear hW2 hb2 hr1 hr2 hown hD hM
  by_cases hm : p ∈ who
  · have HC : Hid ((if p ∈ who then (1 : Int) else 0) = 1) := Lib.hid (if_pos hm)
    rw [decide_eq_true hm] at HV
    clear hm
    refine calls_of_range Try.func70 rfl ?_
    simp only [Try.ntmps70, List.size_toArray, List.length_cons, List.length_nil, Nat.reduceAdd, Nat.reduceSub, Array.replicate_succ, Array.replicate_zero, List.push_toArray, List.append_toArray, List.nil_append, List.cons_append]
    go_wp2_with (first | rw [← HW2.out] | (at_lookup; refine wpList_lookup_own_int _ rfl _ _ 94 rfl 3 3 .i64 keyInt Try.underlying94 Try.underlying3 (zeroInt _) mb n2 D rfl HO.out _ _ rfl (key_int hp) ?_; intro c hat _; obtain rfl : c = 1 := (look_one HO.out HD.out hat).trans HC.out; clear hat))
    refine leaves_marks3 (B := W.heap.size) (v := .bool true) (fun W' => W'.cell? ⟨W.heap.size + 1, 0, none⟩ = some (.bool true)) ?_ ?_ ?_ _ _ trivial ?_ ⟨by rw [HV.out], HB.out.setCell (Nat.le_succ _) _⟩
    · intro W1 h1
      simp [results, Try.results70, go_sem, h1]
    · exact fun W1 W3 h hs => sim_cell hs h
    · rintro W1 W3 ⟨h1, h2⟩ hs
      exact ⟨h1, h2.trans (sim_below hs)⟩
    · exact World.cell?_setCell_same' _ _ _ (by rw [c1]; rfl)
  · have HC : Hid ((if p ∈ who then (1 : Int) else 0) = 0) := Lib.hid (if_neg hm)
    rw [decide_eq_false hm] at HV
    clear hm
    refine calls_of_range Try.func70 rfl ?_
    simp only [Try.ntmps70, List.size_toArray, List.length_cons, List.length_nil, Nat.reduceAdd, Nat.reduceSub, Array.replicate_succ, Array.replicate_zero, List.push_toArray, List.append_toArray, List.nil_append, List.cons_append]
    go_wp2_with (first | rw [← HW2.out] | (at_lookup; refine wpList_lookup_own_int _ rfl _ _ 94 rfl 3 3 .i64 keyInt Try.underlying94 Try.underlying3 (zeroInt _) mb n2 D rfl HO.out _ _ rfl (key_int hp) ?_; intro c hat _; obtain rfl : c = 0 := (look_one HO.out HD.out hat).trans HC.out; clear hat))
    refine leaves_marks3 (B := W.heap.size) (v := .bool false) (fun W' => W'.cell? ⟨W.heap.size + 1, 0, none⟩ = some (.bool false)) ?_ ?_ ?_ _ _ trivial ?_ ⟨by rw [HV.out], HB.out.setCell (Nat.le_succ _) _⟩
    · intro W1 h1
      simp [results, Try.results70, go_sem, h1]
    · exact fun W1 W3 h hs => sim_cell hs h
    · rintro W1 W3 ⟨h1, h2⟩ hs
      exact ⟨h1, h2.trans (sim_below hs)⟩
    · exact World.cell?_setCell_same' _ _ _ (by rw [c1]; rfl)

/-- What holds at the head of a round of a gate: w5 is the world at the statement. -/
structure HoI (W5 : World) (LB : Nat) (n : Int) (j : Nat) (X : World) : Prop where
  gr : W5.grownBy X (some LB)
  lb : X.heap[LB]? = some (.cells #[.int .i64 (n - j)] 3 (0, 0))
  lt : (j : Int) < n
theorem hoI_sim {W5 : World} {LB : Nat} {n : Int} {j : Nat} {X X' : World} (h : HoI W5 LB n j X) (hL : LB < W5.heap.size) (hs : Sim W5.heap.size X X') : HoI W5 LB n j X' :=
  ⟨⟨hs.os.trans h.gr.os, hs.tape.trans h.gr.tape, hs.output.trans h.gr.output, Nat.le_trans h.gr.size hs.size, fun k hk hr => (hs.low k hk).trans (h.gr.block k hk hr)⟩, (hs.low LB hL).trans h.lb, h.lt⟩

set_option maxRecDepth 100000 in
set_option maxHeartbeats 8000000 in
theorem holds_gate (w : World) (p n : Int) (l : List GT) (a : Option Addr) (cap mb : Nat) (sub : Nat → Value) (who : List Int) (h0 : ¬ 0 ≤ p) (hn1 : 1 ≤ n) (hn2 : n ≤ 4096) (hl : l.length ≤ 17592186044416)
    (hk : ∀ k, k < l.length → ∃ b off x y za zn zc, a = some ⟨b, off, none⟩ ∧ sub k = .agg #[.int .i64 x, .int .i64 y, .slice za zn zc] ∧ w.cell? ⟨b, off + k * 3, none⟩ = some (.int .i64 x) ∧ w.cell? ⟨b, off + k * 3 + 1, none⟩ = some (.int .i64 y) ∧ w.cell? ⟨b, off + k * 3 + 2, none⟩ = some (.slice za zn zc))
    (ih : ∀ k (h : k < l.length), HoldsIH w (sub k) l[k] who mb) (W : World) (hW : Below w.heap.size w W) (hM : MapW W mb who) :
    Calls Try.prog 70 #[.agg #[.int .i64 p, .int .i64 n, .slice a l.length cap], .map (some mb)] W fun e w' => e = .returned (.bool (holdsG who (.mk p n l))) ∧ Below W.heap.size W w' := by
  have hd0 : decide (p ≥ 0) = false := decide_eq_false h0
  have hd0' : decide (0 ≤ p) = false := decide_eq_false h0
  have HV : Hid (holdsG who (.mk p n l) = decide (n ≤ ((selL who l l.length).length : Int))) := Lib.hid (by
    unfold holdsG; rw [if_neg h0, selL_len who l _ (Nat.le_refl _), List.take_length])
  have HK := Lib.hid hk
  have HIH := Lib.hid ih
  have HN := Lib.hid (And.intro hn1 hn2)
  clear hk ih
  obtain ⟨W3, hW3⟩ : ∃ W3, W3 = ((W.alloc (.cells #[.int .i64 p, .int .i64 n, .slice a l.length cap] 28)).alloc (.cells #[.bool false] 4)).alloc (.cells #[.int .i64 n] 3) := ⟨_, rfl⟩
  have hs3 : W3.heap.size = W.heap.size + 3 := by rw [hW3]; simp
  have hb3 : Below W.heap.size W W3 := hW3 ▸ ((below_new W _ _).alloc (by simp) _).alloc (by simp; omega) _
  have hr1 : W3.heap[W.heap.size]? = some (.cells #[.int .i64 p, .int .i64 n, .slice a l.length cap] 28 (0, 0)) := by
    rw [hW3]; exact ((below_new (World.alloc _ _) _ _).block _ (by simp; omega)).trans (((below_new (W.alloc _) _ _).block _ (by simp)).trans (World.alloc_heap_new _ _))
  have hr2 : W3.heap[W.heap.size + 1]? = some (.cells #[.bool false] 4 (0, 0)) := by
    have := World.alloc_heap_new (W.alloc (.cells #[.int .i64 p, .int .i64 n, .slice a l.length cap] 28)) (.cells #[.bool false] 4)
    rw [World.size_alloc] at this
    rw [hW3]; exact ((below_new (World.alloc _ _) _ _).block _ (by simp)).trans this
  have hr3 : W3.heap[W.heap.size + 1 + 1]? = some (.cells #[.int .i64 n] 3 (0, 0)) := by
    have := World.alloc_heap_new ((W.alloc (.cells #[.int .i64 p, .int .i64 n, .slice a l.length cap] 28)).alloc (.cells #[.bool false] 4)) (.cells #[.int .i64 n] 3)
    rw [World.size_alloc, World.size_alloc] at this
    rw [hW3]; exact this
  have c0 : W3.cell? ⟨W.heap.size, 0, none⟩ = some (.int .i64 p) := row_cell hr1 rfl
  have c1 : W3.cell? ⟨W.heap.size, 1, none⟩ = some (.int .i64 n) := row_cell hr1 rfl
  have c2 : W3.cell? ⟨W.heap.size, 2, none⟩ = some (.slice a l.length cap) := row_cell hr1 rfl
  have c3 : (W.alloc (.cells #[.int .i64 p, .int .i64 n, .slice a l.length cap] 28)).cell? ⟨W.heap.size, 0, none⟩ = some (.int .i64 p) := row_cell (World.alloc_heap_new _ _) rfl
  have HW3 := Lib.hid hW3
  have HB3 := Lib.hid hb3
  have HS3 := Lib.hid hs3
  have R1 := Lib.hid hr1
  have R2 := Lib.hid hr2
  have R3 := Lib.hid hr3
  have HM3 := Lib.hid (hM.below hb3)
  have HBW := Lib.hid (hW.trans (hb3.mono hW.size))
  have HWS := Lib.hid hW.size
  clear hW3 hb3 hs3 hr1 hr2 hr3 hM hW h0
  refine calls_of_range Try.func70 rfl ?_
  simp only [Try.ntmps70, List.size_toArray, List.length_cons, List.length_nil, Nat.reduceAdd, Nat.reduceSub, Array.replicate_succ, Array.replicate_zero, List.push_toArray, List.append_toArray, List.nil_append, List.cons_append]
  go_wp2_with (rw [← HW3.out])
  refine (held_any _ _ _ _ _ _ _).mono ?_
  rintro e w4 ⟨rfl, rfl⟩
  obtain ⟨W5, hW5⟩ : ∃ W5, W5 = (W3.alloc (.cells #[.int .i64 p, .int .i64 n, .slice a l.length cap] 28)).alloc (.cells #[.map (some mb)] 94) := ⟨_, rfl⟩
  have hb5 : Below W3.heap.size W3 W5 := hW5 ▸ (below_new W3 _ _).alloc (by simp) _
  have hs5 : W5.heap.size = W3.heap.size + 2 := by rw [hW5]; simp
  have hg5 : W5.heap[W3.heap.size]? = some (.cells #[.int .i64 p, .int .i64 n, .slice a l.length cap] 28 (0, 0)) := by
    rw [hW5]; exact ((below_new (W3.alloc _) _ _).block _ (by simp)).trans (World.alloc_heap_new _ _)
  have ht5 : W5.heap[W3.heap.size + 1]? = some (.cells #[.map (some mb)] 94 (0, 0)) := by
    have := World.alloc_heap_new (W3.alloc (.cells #[.int .i64 p, .int .i64 n, .slice a l.length cap] 28)) (.cells #[.map (some mb)] 94)
    rw [World.size_alloc] at this
    rw [hW5]; exact this
  have hl3 := row_lt R3.out
  have hrb5 : W5.heap[W.heap.size + 1]? = some (.cells #[.bool false] 4 (0, 0)) := (hb5.block _ (row_lt R2.out)).trans R2.out
  have hlb5 : W5.heap[W.heap.size + 1 + 1]? = some (.cells #[.int .i64 n] 3 (0, 0)) := (hb5.block _ hl3).trans R3.out
  have HL5 : Hid (W.heap.size + 1 + 1 < W5.heap.size) := Lib.hid (row_lt hlb5)
  have HL3 := Lib.hid hl3
  have HW5 := Lib.hid hW5
  have HG5 := Lib.hid hg5
  have HT5 := Lib.hid ht5
  have HRB5 := Lib.hid hrb5
  have HLB5 := Lib.hid hlb5
  have HM5 := Lib.hid (HM3.out.below hb5)
  have HB5 := Lib.hid (HB3.out.trans (hb5.mono HB3.out.size))
  have HBW5 := Lib.hid (HBW.out.trans (hb5.mono HBW.out.size))
  have HMB : Hid (mb ≠ W.heap.size + 1 + 1) := Lib.hid (by
    intro e
    obtain ⟨_, _, h1, -⟩ := HM5.out
    obtain ⟨es, clock, h2, -⟩ := h1
    rw [e, hlb5] at h2
    cases h2)
  clear hW5 hb5 hs5 hg5 ht5 hl3 hrb5 hlb5
  go_wp2_with (rw [← HW5.out])
  try rw [← HW5.out]
  refine wp_range42 (gf := 138) (lb := #[.pointer (some ⟨W3.heap.size, 0, none⟩), .pointer (some ⟨W3.heap.size + 1, 0, none⟩)]) (N := (selL who l l.length).length) (encs := fun j => #[sub ((selL who l l.length).getD j 0)]) rfl held1_goes (fun _ => rfl)
    (HoI W5 (W.heap.size + 1 + 1) n) (fun c j X => c = .ret ∧ Below W.heap.size W X ∧ X.heap[W.heap.size + 1]? = some (.cells #[.bool true] 4 (0, 0)) ∧ n ≤ (j : Int)) ?seq ?simI ?simX ?start
    (fun j t => t.setIfInBounds 19 (sub ((selL who l l.length).getD j 0))) ?assign ?body ?done ?stop
  case seq =>
    refine held1_iterates w W3.heap.size (W3.heap.size + 1) mb p n l a cap sub who hl HK.out HIH.out _ fun j Y hY => ?_
    have hgb : ∀ k, k < W5.heap.size → k ≠ W.heap.size + 1 + 1 → Y.heap[k]? = W5.heap[k]? := fun k hk hn => hY.gr.block k hk (fun e => hn (by injection e))
    have g5 := (hgb _ (row_lt HG5.out) (by have := HL3.out; omega)).trans HG5.out
    have t5 := (hgb _ (row_lt HT5.out) (by have := HL3.out; omega)).trans HT5.out
    exact ⟨HBW5.out.grown hY.gr HBW5.out.size (fun k e => by cases e; have := HWS.out; omega), HM5.out.grown hY.gr (fun e => HMB.out (by injection e)), row_cell g5 rfl, row_cell g5 rfl, row_cell g5 rfl, row_cell t5 rfl⟩
  case simI => exact fun j Y Y' h hs => hoI_sim h HL5.out hs
  case simX =>
    rintro c j Y Y' ⟨h1, h2, h3, h4⟩ hs
    exact ⟨h1, h2.trans ((sim_below hs).mono (by have := HB5.out.size; omega)), (hs.low _ (row_lt HRB5.out)).trans h3, h4⟩
  case start => exact ⟨World.grownBy.refl _ _, by rw [Int.natCast_zero, Int.sub_zero]; exact HLB5.out, by have := HN.out; omega⟩
  case assign =>
    intro ll j Y K hK
    gi_wp2
    exact hK
  case body =>
    intro ll j Y hI hj
    have x0 : Y.cell? ⟨W.heap.size + 1 + 1, 0, none⟩ = some (.int .i64 (n - j)) := row_cell hI.lb rfl
    have f0 := row_free hI.lb 0
    have hrb : Y.heap[W.heap.size + 1]? = some (.cells #[.bool false] 4 (0, 0)) := (hI.gr.block _ (row_lt HRB5.out) (fun e => by injection e with e; omega)).trans HRB5.out
    obtain ⟨m, hm⟩ : ∃ m, m = n - (j : Int) := ⟨_, rfl⟩
    obtain ⟨m1, hm1⟩ : ∃ m1, m1 = m - 1 := ⟨_, rfl⟩
    have hlt := hI.lt
    have hn1 := HN.out
    have hw1 : IntKind.i64.wrap (m - 1) = m1 := by rw [IntKind.wrap_i64]; omega
    have hw1' : wrap64 (m - 1) = m1 := by unfold wrap64; omega
    have hlb1 := row_set hI.lb 0 (.int .i64 m1)
    have hg1 := grown_set (o := 0) hI.gr (.int .i64 m1)
    have hrb1 : (Y.setCell ⟨W.heap.size + 1 + 1, 0, none⟩ (.int .i64 m1)).heap[W.heap.size + 1]? = some (.cells #[.bool false] 4 (0, 0)) := (Below.heap_setCell _ _ _ _ (by show W.heap.size + 1 ≠ W.heap.size + 1 + 1; omega)).trans hrb
    have y1 : (Y.setCell ⟨W.heap.size + 1 + 1, 0, none⟩ (.int .i64 m1)).cell? ⟨W.heap.size + 1, 0, none⟩ = some (.bool false) := row_cell hrb1 rfl
    have g1 : (Y.setCell ⟨W.heap.size + 1 + 1, 0, none⟩ (.int .i64 m1)).frozen? ⟨W.heap.size + 1, 0, none⟩ = false := row_free hrb1 0
    have hrb2 := row_set hrb1 0 (.bool true)
    have hbb : Below W.heap.size W (Y.setCell ⟨W.heap.size + 1 + 1, 0, none⟩ (.int .i64 m1)) := HB5.out.grown hg1 (by have := HB5.out.size; omega) (fun k e => by cases e; omega)
    rw [← hm] at x0
    have HM := Lib.hid hm
    have HM1 := Lib.hid hm1
    have HLB1 := Lib.hid hlb1
    have HG1 := Lib.hid hg1
    have HRB2 := Lib.hid hrb2
    have HBB := Lib.hid hbb
    simp only [List.setIfInBounds_toArray, List.set_cons_succ, List.set_cons_zero]
    by_cases hz : m1 = 0
    · have e0 : (m1 == 0) = true := beq_iff_eq.2 hz
      have HX : Hid (n ≤ ((j + 1 : Nat) : Int)) := Lib.hid (by omega)
      clear hm hm1 hlb1 hg1 hrb1 hrb2 hrb hbb hlt hn1 hz hI
      gi_wp2
      exact ⟨(KeepsOthers.setCell _ _ _).trans (KeepsOthers.setCell _ _ _), rfl, HBB.out.setCell (Nat.le_succ _) _, HRB2.out, HX.out⟩
    · have e0 : (m1 == 0) = false := beq_eq_false_iff_ne.2 hz
      have HX : Hid (HoI W5 (W.heap.size + 1 + 1) n (j + 1) (Y.setCell ⟨W.heap.size + 1 + 1, 0, none⟩ (.int .i64 m1))) := Lib.hid ⟨hg1, by
        rw [show n - ((j + 1 : Nat) : Int) = m1 by omega]; exact hlb1, by omega⟩
      clear hm hm1 hlb1 hg1 hrb1 hrb2 hrb hbb hlt hn1 hz hI
      gi_wp2
      exact ⟨KeepsOthers.setCell _ _ _, HX.out⟩
  case done =>
    intro D Y hD hI hDW hO
    have hrb : Y.heap[W.heap.size + 1]? = some (.cells #[.bool false] 4 (0, 0)) := (hI.gr.block _ (row_lt HRB5.out) (fun e => by injection e with e; omega)).trans HRB5.out
    have x0 : Y.cell? ⟨W.heap.size + 1, 0, none⟩ = some (.bool false) := row_cell hrb rfl
    have f0 := row_free hrb 0
    have HVF : Hid (holdsG who (.mk p n l) = false) := Lib.hid (by rw [HV.out]; exact decide_eq_false (by have := hI.lt; omega))
    have HBB : Hid (Below W.heap.size W Y) := Lib.hid (HB5.out.grown hI.gr (by have := HB5.out.size; omega) (fun k e => by cases e; omega))
    have HDW := Lib.hid hDW
    have HDD := Lib.hid hD
    clear hI hrb hD hDW hO
    go_wp2_with fail
    refine leaves_marks3 (B := W.heap.size) (v := .bool false) (fun W' => W'.cell? ⟨W.heap.size + 1, 0, none⟩ = some (.bool false)) ?_ ?_ ?_ _ _ ⟨⟨D, rfl, Nat.le_trans HB5.out.size HDD.out, (KeepsOthers.setCell _ _ _).same _ _ HDW.out rfl, fun _ h => by cases h⟩, trivial⟩ ?_ ⟨by rw [HVF.out], HBB.out.setCell (Nat.le_succ _) _⟩
    · intro W1 h1
      simp [results, Try.results70, go_sem, h1]
    · exact fun W1 W3 h hs => sim_cell hs h
    · rintro W1 W3 ⟨h1, h2⟩ hs
      exact ⟨h1, h2.trans (sim_below hs)⟩
    · exact World.cell?_setCell_same' _ _ _ (by rw [x0]; rfl)
  case stop =>
    rintro D c j Y hD hj ⟨rfl, hb, hrb, hnj⟩ hDW hO
    have x0 : Y.cell? ⟨W.heap.size + 1, 0, none⟩ = some (.bool true) := row_cell hrb rfl
    have HVF : Hid (holdsG who (.mk p n l) = true) := Lib.hid (by rw [HV.out]; exact decide_eq_true (by omega))
    have HBB := Lib.hid hb
    have HDW := Lib.hid hDW
    have HDD := Lib.hid hD
    have HX0 := Lib.hid x0
    clear hb hrb hD hDW hO x0
    go_wp2_with fail
    refine leaves_marks3 (B := W.heap.size) (v := .bool true) (fun W' => W'.cell? ⟨W.heap.size + 1, 0, none⟩ = some (.bool true)) ?_ ?_ ?_ _ _ ⟨⟨D, rfl, Nat.le_trans HB5.out.size HDD.out, HDW.out, fun _ h => by cases h⟩, trivial⟩ HX0.out ⟨by rw [HVF.out], HBB.out⟩
    · intro W1 h1
      simp [results, Try.results70, go_sem, h1]
    · exact fun W1 W3 h hs => sim_cell hs h
    · rintro W1 W3 ⟨h1, h2⟩ hs
      exact ⟨h1, h2.trans (sim_below hs)⟩

theorem holds_at (w : World) (mb : Nat) (who : List Int) (v : Value) (g : GT) (hg : GateV w v g) : rightG g = true → HoldsIH w v g who mb := by
  induction hg with
  | mk p n l a cap sub hp hn hc hl hk hs ih =>
    intro hr W hW hM
    by_cases h0 : 0 ≤ p
    · exact holds_leaf p n l a cap mb who W h0 hp hM
    · unfold rightG at hr
      rw [if_neg h0] at hr
      simp only [Bool.and_eq_true, decide_eq_true_eq] at hr
      obtain ⟨-, h1, h2, h3⟩ := hr
      exact holds_gate w p n l a cap mb sub who h0 h1 h2 hl hk (fun k h => ih k h ((rightL_iff l).1 h3 k h)) W hW hM

end Go.Proofs.Ytohebkpgjaaljaa

namespace Go.Proofs.Ytohebkpgjaaljaa
open Go.RowKit Go.Maps FP

def holdE (g : GT) (who : List Int) : Int := if gateE g = 0 then (if peopleB (-1) who = true then 0 else 1) else gateE g
def holdB (g : GT) (who : List Int) : Bool := decide (holdE g who = 0) && holdsG who g

/-- Behind k rounds: the map has the first k people. -/
def MapK (W : World) (b : Nat) (who : List Int) (k : Nat) : Prop :=
  ∃ D : DataW Unit, W.ownsMap Try.prog 3 (plainElem Try.prog 3) b k D ∧ ∀ x, D.atKey (.int .i64 x) (.lit (.int .i64 0)) = .lit (.int .i64 (if x ∈ who.take k then 1 else 0))

set_option maxRecDepth 100000 in
theorem MapK.next {W' : World} {b : Nat} {who : List Int} {k : Nat} {D : DataW Unit} (hD : IsMap D) (h : ∀ x, D.atKey (.int .i64 x) (.lit (.int .i64 0)) = .lit (.int .i64 (if x ∈ who.take k then 1 else 0))) (hk : k < who.length)
    (hw : W'.ownsMap Try.prog 3 (plainElem Try.prog 3) b (k + 1) (D.put (.int .i64 (nth who k)) (.lit (.int .i64 1)))) : MapK W' b who (k + 1) := by
  refine ⟨_, hw, fun x => ?_⟩
  by_cases e : x = nth who k
  · rw [e, atKey_put_same hD (show WideAt.IsKeyLit (.int .i64 (nth who k)) from by simp [WideAt.IsKeyLit]), if_pos (by rw [List.take_succ_eq_append_getElem hk, nth_at hk]; exact List.mem_append.2 (.inr (List.mem_singleton.2 rfl)))]
  · rw [atKey_put_other (by intro h; injection h with _ h; exact e h), h x]
    have : (x ∈ who.take (k + 1)) ↔ x ∈ who.take k := by
      rw [List.take_succ_eq_append_getElem hk, List.mem_append, List.mem_singleton, ← nth_at hk]
      exact ⟨fun h => h.resolve_right e, .inl⟩
    by_cases hm : x ∈ who.take k
    · rw [if_pos hm, if_pos (this.2 hm)]
    · rw [if_neg hm, if_neg (fun h => hm (this.1 h))]
theorem lastP_mem (last : Int) (l : List Int) : lastP last l = last ∨ lastP last l ∈ l := by
  unfold lastP
  cases h : l.getLast? with
  | none => exact .inl rfl
  | some z => exact .inr (List.mem_of_getLast? h)
theorem lastP_ge {l : List Int} (h : peopleB (-1) l = true) : -1 ≤ lastP (-1) l := by
  rcases lastP_mem (-1) l with e | e
  · rw [e]; omega
  · have := (peopleB_all h).1 _ e; omega

set_option maxRecDepth 100000 in
set_option maxHeartbeats 8000000 in
theorem Holds_any (v wv : Value) (g : GT) (who : List Int) (w : World) (hg : GateV w v g) (hW : Ints w wv who) (hlen : who.length ≤ 1000000) :
    Calls Try.prog 32 #[v, wv] w fun e w' => e = .returned (.tuple #[.bool (holdB g who), .int .i64 (holdE g who)]) ∧ Below w.heap.size w w' := by
  obtain ⟨p, n, l, a, cap, rfl, HGQ⟩ : ∃ p n l a cap, v = .agg #[.int .i64 p, .int .i64 n, .slice a (l : List GT).length cap] ∧ Hid (g = .mk p n l) := by
    cases hg with
    | mk p n l a cap sub hp hn hc hl hk hs => exact ⟨p, n, l, a, cap, rfl, Lib.hid rfl⟩
  have hb1 := below_new w #[.int .i64 p, .int .i64 n, .slice a l.length cap] 28
  have hr1 := World.alloc_heap_new w (.cells #[.int .i64 p, .int .i64 n, .slice a l.length cap] 28)
  obtain ⟨W1, hW1⟩ : ∃ W1, W1 = w.alloc (.cells #[.int .i64 p, .int .i64 n, .slice a l.length cap] 28) := ⟨_, rfl⟩
  rw [← hW1] at hb1 hr1
  have c0 : W1.cell? ⟨w.heap.size, 0, none⟩ = some (.int .i64 p) := row_cell hr1 rfl
  have c1 : W1.cell? ⟨w.heap.size, 1, none⟩ = some (.int .i64 n) := row_cell hr1 rfl
  have c2 : W1.cell? ⟨w.heap.size, 2, none⟩ = some (.slice a l.length cap) := row_cell hr1 rfl
  have HW := Lib.hid (hW.below hb1)
  have HG := Lib.hid (show GatW W1 _ g from hg.later hb1)
  have HB := Lib.hid hb1
  have HW1 := Lib.hid hW1
  obtain ⟨a3, k3, rfl, -, hl3, -⟩ := id hW
  have hmm := @run_makeMap Try.prog
  clear hg hW hb1 hr1 hW1
  go_enter Try.func32, Try.ntmps32
  go_wp2_with (rw [← HW1.out])
  with_reducible refine (gcheck_any _ g W1 HG.out).mono ?_
  rintro e w2 ⟨rfl, hb2⟩
  have hgv : gateE g = 0 ∨ gateE g = 2 ∨ gateE g = 220 := by unfold gateE; repeat (first | split | simp)
  have HB2 := Lib.hid (HB.out.trans (hb2.mono HB.out.size))
  have HW2 := Lib.hid (HW.out.below hb2)
  have HG2 := Lib.hid (HG.out.below hb2)
  have d0 := below_cell hb2 c0
  have d1 := below_cell hb2 c1
  have d2 := below_cell hb2 c2
  clear hb2
  rcases hgv with hz | hz | hz
  rotate_left
  · have HE : Hid (holdE g who = 2) := Lib.hid (by unfold holdE; rw [hz]; rfl)
    have HH : Hid (holdB g who = false) := Lib.hid (by unfold holdB; rw [HE.out]; rfl)
    rw [hz]
    clear hz
    go_wp2_with fail
    go_ret2
    exact ⟨by rw [HE.out, HH.out]; rfl, HB2.out⟩
  · have HE : Hid (holdE g who = 220) := Lib.hid (by unfold holdE; rw [hz]; rfl)
    have HH : Hid (holdB g who = false) := Lib.hid (by unfold holdB; rw [HE.out]; rfl)
    rw [hz]
    clear hz
    go_wp2_with fail
    go_ret2
    exact ⟨by rw [HE.out, HH.out]; rfl, HB2.out⟩
  have hright : rightG g = true := by
    unfold gateE at hz
    by_cases e : largeG g = true
    · rw [if_pos e] at hz; cases hz
    · rw [if_neg e] at hz
      by_cases e2 : rightG g = true
      · exact e2
      · rw [if_neg e2] at hz; cases hz
  have HRT := Lib.hid hright
  have HE : Hid (holdE g who = if peopleB (-1) who = true then 0 else 1) := Lib.hid (by unfold holdE; rw [if_pos hz])
  rw [hz]
  clear hz hright
  have hm0 : MapK (w2.alloc (.map #[] 0)) w2.heap.size who 0 := ⟨_, World.ownsMap_made _ _ _ _, fun x => by rw [List.take_zero]; rfl⟩
  have hba : Below w2.heap.size w2 (w2.alloc (.map #[] 0)) := (Below.refl _ _).alloc (Nat.le_refl _) _
  go_wp2_with fail
  go_loopw [8, 10, 19] (fun lt _ i W => ∃ k : Nat, k ≤ who.length ∧ i = .int .i64 k ∧ lt = .int .i64 (lastP (-1) (who.take k)) ∧ Hid (peopleB (-1) (who.take k) = true) ∧ MapK W w2.heap.size who k ∧ Below w2.heap.size w2 W ∧ w2.heap.size < W.heap.size) (fun _ _ i _ => who.length - (intOf i).toNat)
  case atStart => exact ⟨0, Nat.zero_le _, rfl, rfl, Lib.hid rfl, hm0, hba, by simp⟩
  case round =>
    clear hm0 hba
    obtain ⟨k, hkl, rfl, rfl, HP, hmk, hb, hsz⟩ := hrel
    have HBK := Lib.hid hb
    have HSZ := Lib.hid hsz
    by_cases hlt : k < who.length
    · obtain ⟨hr64, b3, o3, n3, k3', e3, q3⟩ := HW2.out.get hlt
      simp only [Value.slice.injEq] at e3
      obtain ⟨rfl, -, -⟩ := e3
      have y3 := below_cell hb q3
      have hge := lastP_ge HP.out
      have hst := peopleB_take (last := -1) hlt
      have hLT := lastP_take (last := -1) hlt
      rw [HP.out, Bool.true_and, ← nth_at hlt] at hst
      rw [← nth_at hlt] at hLT
      obtain ⟨D, hown, hD⟩ := hmk
      have hnext := fun W' h => MapK.next (W' := W') (b := w2.heap.size) hown.isMap hD hlt h
      have HNX := Lib.hid hnext
      have HO := Lib.hid hown
      have HLT := Lib.hid hLT
      have i0 : (0 : Int) ≤ (k : Int) := by omega
      have i1 : (k : Int) < (who.length : Int) := by omega
      obtain ⟨la, hla⟩ : ∃ la, la = lastP (-1) (who.take k) := ⟨_, rfl⟩
      obtain ⟨x, hx⟩ : ∃ x, x = nth who k := ⟨_, rfl⟩
      rw [← hla] at hge hst ⊢
      rw [← hx] at hst y3 hr64 HLT HNX
      have HST := Lib.hid hst
      have HML : Hid (k < maxLen) := Lib.hid (by unfold maxLen; omega)
      clear hla hx hst hLT hown hD hnext q3 hb hsz
      by_cases hle : x ≤ la
      · have e1 : decide (x ≤ la) = true := decide_eq_true hle
        have HPF : Hid (peopleB (-1) who = false) := Lib.hid (peopleB_bad (k := k) (by rw [HST.out, decide_eq_false (show ¬ la < x by omega), Bool.and_false]))
        have HBF := Lib.hid (HB2.out.trans (HBK.out.mono HB2.out.size))
        have HE1 : Hid (holdE g who = 1) := Lib.hid (by rw [HE.out, HPF.out]; rfl)
        have HH : Hid (holdB g who = false) := Lib.hid (by unfold holdB; rw [HE1.out]; rfl)
        clear hle hge
        go_wp2_with fail
        go_ret2
        exact ⟨by rw [HE1.out, HH.out]; rfl, HBF.out⟩
      · have e1 : decide (x ≤ la) = false := decide_eq_false hle
        by_cases h64 : 64 ≤ x
        · have e2 : decide (64 ≤ x) = true := decide_eq_true h64
          have HPF : Hid (peopleB (-1) who = false) := Lib.hid (peopleB_bad (k := k) (by
            rw [HST.out, show inB x 0 63 = false from by cases e : inB x 0 63 with | false => rfl | true => have := inB_iff.1 e; omega]; rfl))
          have HBF := Lib.hid (HB2.out.trans (HBK.out.mono HB2.out.size))
          have HE1 : Hid (holdE g who = 1) := Lib.hid (by rw [HE.out, HPF.out]; rfl)
          have HH : Hid (holdB g who = false) := Lib.hid (by unfold holdB; rw [HE1.out]; rfl)
          clear hle hge h64
          go_wp2_with fail
          go_ret2
          exact ⟨by rw [HE1.out, HH.out]; rfl, HBF.out⟩
        · have e2 : decide (64 ≤ x) = false := decide_eq_false h64
          have HPN : Hid (peopleB (-1) (who.take (k + 1)) = true) := Lib.hid (by rw [HST.out, inB_iff.2 ⟨by omega, by omega⟩, decide_eq_true (show la < x by omega)]; rfl)
          clear hle hge h64
          go_wp2_with (at_mapUpdate; refine wpList_mapUpdate_own _ rfl _ _ _ 94 rfl 3 3 keyInt Try.underlying94 _ w2.heap.size k _ rfl HO.out HML.out _ _ _ rfl rfl (key_int hr64) _ [] (plainElem_int Try.underlying3 (WalkArith.wf_i64 (by omega))) ?_; intro w9 hown9 hgrow9; have HO9 := Lib.hid hown9; have HG9 := Lib.hid hgrow9; clear hown9 hgrow9)
          go_roundw
          case rel => exact ⟨k + 1, by omega, by go_num, by rw [HLT.out], HPN, HNX.out _ HO9.out, HBK.out.grown HG9.out (Nat.le_of_lt HSZ.out) (fun j e => by cases e; exact Nat.le_refl _), Nat.lt_of_lt_of_le HSZ.out HG9.out.size⟩
          case measure => simp [intOf]; omega
    · have hk2 : k = who.length := by omega
      have hdk : decide (k < who.length) = false := decide_eq_false hlt
      have hw : who.take k = who := List.take_of_length_le (by omega)
      have HMW : Hid (MapW wr w2.heap.size who) := Lib.hid (by
        obtain ⟨D, h1, h2⟩ := hmk
        rw [hw] at h2
        exact ⟨k, D, h1, by omega, h2⟩)
      have HPT : Hid (peopleB (-1) who = true) := Lib.hid (by have := HP.out; rwa [hw] at this)
      have HE1 : Hid (holdE g who = 0) := Lib.hid (by rw [HE.out, HPT.out]; rfl)
      have HH : Hid (holdB g who = holdsG who g) := Lib.hid (by unfold holdB; rw [HE1.out]; rfl)
      have hgr := HG2.out.below hb
      have HCALL := Lib.hid (holds_at wr w2.heap.size who _ g hgr HRT.out wr (Below.refl _ _) HMW.out)
      have y0 := below_cell hb d0
      have y1 := below_cell hb d1
      have y2 := below_cell hb d2
      have HBF := Lib.hid (HB2.out.trans (hb.mono HB2.out.size))
      clear hk2 hw hmk hgr hb hsz hlt
      go_wp2_with fail
      with_reducible refine (HCALL.out).mono ?_
      rintro e w9 ⟨rfl, hb9⟩
      have HB9 := Lib.hid (HBF.out.trans (hb9.mono HBF.out.size))
      clear hb9
      go_wp2_with fail
      go_ret2
      exact ⟨by rw [HE1.out, HH.out]; rfl, HB9.out⟩

end Go.Proofs.Ytohebkpgjaaljaa
