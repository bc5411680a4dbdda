/- A range over a function of this program whose iterator turns variables of its own, and lays memory, ahead of each element. Package renewal: the shares of two lists, merged. Package renewal: the iterator both. -/
import Derived.Test.YtnbkbnbmmkfckaaGreatMRange4
import Derived.Test.YtnbkbnbmmkfckaaGreatMReA
import Derived.Test.YtnbkbnbmmkfckaaGreatMRdE
import Derived.Test.YtnbkbnbmmkfckaaGreatMRegIn
import Derived.Test.YtnbkbnbmmkfckaaGreatMRbM
namespace Go.Proofs.YtnbkbnbmmkfckaaGreat
open Go.RowKit

/-- The iterator gf, with what it captured: it hands on N elements, one after the other, as long as the body goes on; ahead of element j it turns the world by Step j. -/
def Iterates5 (P : Program) (gf : FuncId) (lb : Array Value) (N : Nat) (encs : Nat → Array Value) (I : Nat → World → Prop) (Step : Nat → World → World → Prop) : Prop :=
  ∀ (l : Nat) (J Y Jx : Nat → World → Prop) (W : World), (∀ j W1, J j W1 → I j W1) → (∀ j W1 W2, J j W1 → Below W1.heap.size W1 W2 → J j W2) → (∀ j W1 W2, J j W1 → j < N → Step j W1 W2 → Y j W2) →
    (∀ j W1, Y j W1 → j < N → YieldAt Fence.wide 0 P l (encs j) W1 fun e W' => (e = .returned (.bool true) ∧ J (j + 1) W') ∨ (e = .returned (.bool false) ∧ Jx (j + 1) W')) →
    J 0 W → CallsIn Fence.wide 0 P gf (#[.func (.yield l) #[] #[]] ++ lb) W fun e W' => (∃ v, e = .returned v) ∧ (J N W' ∨ (∃ j, j ≤ N ∧ Jx j W'))

end Go.Proofs.YtnbkbnbmmkfckaaGreat

namespace Go.Proofs.YtnbkbnbmmkfckaaGreat
open Go.RowKit FP

attribute [local go_sem] Oper.semAt_some

section
variable {P : Program} {d : Option Tmp} {t : TypeId} {p : String} {af : Array Edge} {g : Option (Nat × Bool)}
theorem plain_binOp {o : BinOp} {x y : Operand} {ta tb : TypeId} : PlainOp P ⟨d, .binOp o ta x y tb, t, p, af, g⟩ := ⟨(fun _ h => by cases h), fun _ _ => rfl, fun w _ => ends_v _ w⟩
theorem plain_indexAddr {ty : TypeId} {x y : Operand} : PlainOp P ⟨d, .indexAddr ty x y, t, p, af, g⟩ := ⟨(fun _ h => by cases h), fun _ _ => rfl, fun w _ => ends_v _ w⟩
theorem plain_fieldAddr {ty : TypeId} {x : Operand} {n : Nat} : PlainOp P ⟨d, .fieldAddr ty x n, t, p, af, g⟩ := ⟨(fun _ h => by cases h), fun _ _ => rfl, fun w _ => ends_v _ w⟩
theorem plain_len {xs : Array Operand} {ts : Array TypeId} : PlainOp P ⟨d, .call { callee := .builtin .len, args := xs, argTypes := ts }, t, p, af, g⟩ := ⟨(fun _ h => by cases h), fun _ _ => rfl, fun w _ => ends_v _ w⟩
theorem plain_pick {x y z : Operand} : PlainOp P ⟨d, .pick x y z, t, p, af, g⟩ := ⟨(fun _ h => by cases h), fun _ _ => rfl, fun w ρ => by show Ends (Sem.run P _ w); simp only [execOp]; rw [Sem.run_bind]; cases (asBool (ρ x)).run P w <;> simp [Result.andThen, Ends, pure]⟩
end

/-! The merge. -/
def takeB (a b : List (Int × Int)) : Bool := decide (a.length = 0) || (decide (0 < b.length) && decide ((b.headD (0, 0)).1 < (a.headD (0, 0)).1))
def mrgN (s : List (Int × Int) × List (Int × Int)) : List (Int × Int) × List (Int × Int) := if takeB s.1 s.2 = true then (s.1, s.2.tail) else (s.1.tail, s.2)
def mrgS (a b : List (Int × Int)) : Nat → List (Int × Int) × List (Int × Int)
  | 0 => (a, b)
  | j + 1 => mrgN (mrgS a b j)
def mrgH (s : List (Int × Int) × List (Int × Int)) : Int × Int := if takeB s.1 s.2 = true then s.2.headD (0, 0) else s.1.headD (0, 0)
def mrgE (a b : List (Int × Int)) (j : Nat) : Int × Int := mrgH (mrgS a b j)
def mrgL (a b : List (Int × Int)) : List (Int × Int) := (List.range (a.length + b.length)).map (mrgE a b)
theorem mrgN_len {s : List (Int × Int) × List (Int × Int)} (h : 0 < s.1.length + s.2.length) : (mrgN s).1.length + (mrgN s).2.length + 1 = s.1.length + s.2.length := by
  unfold mrgN
  by_cases e : takeB s.1 s.2 = true
  · rw [if_pos e]
    have : 0 < s.2.length := by
      unfold takeB at e
      simp only [Bool.or_eq_true, Bool.and_eq_true, decide_eq_true_eq] at e
      rcases e with e | e <;> omega
    simp only [List.length_tail]; omega
  · rw [if_neg e]
    have : 0 < s.1.length := by
      unfold takeB at e
      simp only [Bool.or_eq_true, Bool.and_eq_true, decide_eq_true_eq, not_or] at e
      omega
    simp only [List.length_tail]; omega
theorem mrgS_len (a b : List (Int × Int)) : ∀ j, j ≤ a.length + b.length → (mrgS a b j).1.length + (mrgS a b j).2.length + j = a.length + b.length
  | 0, _ => rfl
  | j + 1, h => by
    have ih := mrgS_len a b j (by omega)
    have := mrgN_len (s := mrgS a b j) (by omega)
    show (mrgN (mrgS a b j)).1.length + (mrgN (mrgS a b j)).2.length + (j + 1) = _
    omega
/-- The tail of a slice of shares, as a value. -/
def tailV : Value → Value
  | .slice a n c => .slice (if c = 1 then a else a.map (·.add 2)) (n - 1) (c - 1)
  | v => v
theorem Shares.tail {w : World} {v : Value} {l : List (Int × Int)} (h : Shares w v l) (hl : 0 < l.length) : Shares w (tailV v) l.tail := by
  obtain ⟨a, cap, rfl, h2, h3, h4, h5⟩ := h
  match l, hl with
  | x :: t, _ =>
    obtain ⟨b, o, rfl, q0, q1⟩ := h5 0 (by simp)
    simp only [List.length_cons] at h2 h3
    by_cases e : cap = 1
    · have ht : t = [] := List.length_eq_zero_iff.1 (by omega)
      subst ht
      refine ⟨_, _, by show Value.slice _ _ _ = _; rfl, by simp, by simp, by simp, fun k hk => absurd hk (Nat.not_lt_zero _)⟩
    · refine ⟨some ⟨b, o + 2, none⟩, cap - 1, ?_, by simp only [List.tail_cons]; omega, by simp only [List.tail_cons]; omega, fun p hp => h4 p (List.mem_cons_of_mem _ hp), fun k hk => ⟨b, o + 2, rfl, ?_⟩⟩
      · show Value.slice (if cap = 1 then _ else _) _ _ = _
        rw [if_neg e, Option.map_some, add_off]; rfl
      · obtain ⟨b', o', e1, p0, p1⟩ := h5 (k + 1) (by simp only [List.tail_cons] at hk; simp; omega)
        simp only [Option.some.injEq, Addr.mk.injEq] at e1
        obtain ⟨rfl, rfl, -⟩ := e1
        rw [show o + 2 + k * 2 = o + (k + 1) * 2 by omega]
        simp only [List.getElem_cons_succ] at p0 p1
        exact ⟨by simpa using p0, by simpa using p1⟩
/-- The two variables of the iterator. -/
def mrgV (va vb : Value) (a b : List (Int × Int)) : Nat → Value × Value
  | 0 => (va, vb)
  | j + 1 => if takeB (mrgS a b j).1 (mrgS a b j).2 = true then ((mrgV va vb a b j).1, tailV (mrgV va vb a b j).2) else (tailV (mrgV va vb a b j).1, (mrgV va vb a b j).2)
theorem mrgV_s (va vb : Value) (a b : List (Int × Int)) (j : Nat) : mrgV va vb a b (j + 1) = if takeB (mrgS a b j).1 (mrgS a b j).2 = true then ((mrgV va vb a b j).1, tailV (mrgV va vb a b j).2) else (tailV (mrgV va vb a b j).1, (mrgV va vb a b j).2) := rfl
theorem mrgV_shares {w : World} {va vb : Value} {a b : List (Int × Int)} (hA : Shares w va a) (hB : Shares w vb b) : ∀ j, j ≤ a.length + b.length → Shares w (mrgV va vb a b j).1 (mrgS a b j).1 ∧ Shares w (mrgV va vb a b j).2 (mrgS a b j).2
  | 0, _ => ⟨hA, hB⟩
  | j + 1, h => by
    have ih := mrgV_shares hA hB j (by omega)
    have hl := mrgS_len a b j (by omega)
    show Shares w (mrgV va vb a b (j + 1)).1 (mrgN (mrgS a b j)).1 ∧ Shares w (mrgV va vb a b (j + 1)).2 (mrgN (mrgS a b j)).2
    unfold mrgV mrgN
    by_cases e : takeB (mrgS a b j).1 (mrgS a b j).2 = true
    · rw [if_pos e, if_pos e]
      refine ⟨ih.1, ih.2.tail ?_⟩
      unfold takeB at e
      simp only [Bool.or_eq_true, Bool.and_eq_true, decide_eq_true_eq] at e
      rcases e with e | e <;> omega
    · rw [if_neg e, if_neg e]
      refine ⟨ih.1.tail ?_, ih.2⟩
      unfold takeB at e
      simp only [Bool.or_eq_true, Bool.and_eq_true, decide_eq_true_eq, not_or] at e
      omega
structure BoxS (w : World) (ab bb : Nat) (va vb : Value) (a b : List (Int × Int)) (j : Nat) (W : World) : Prop where
  be : Below w.heap.size w W
  ca : W.heap[ab]? = some (.cells #[(mrgV va vb a b j).1] 28 (0, 0))
  cb : W.heap[bb]? = some (.cells #[(mrgV va vb a b j).2] 28 (0, 0))
theorem boxS_below {w : World} {ab bb : Nat} {va vb : Value} {a b : List (Int × Int)} {j : Nat} {W W' : World} (h : BoxS w ab bb va vb a b j W) (hb : Below W.heap.size W W') : BoxS w ab bb va vb a b j W' :=
  ⟨h.be.trans (hb.mono h.be.size), (hb.block _ (row_lt h.ca)).trans h.ca, (hb.block _ (row_lt h.cb)).trans h.cb⟩
/-- What the iterator does ahead of element j. -/
def stepB (ab bb : Nat) (va vb : Value) (a b : List (Int × Int)) (j : Nat) (W1 W2 : World) : Prop :=
  ∃ W', Below W1.heap.size W1 W' ∧ W2 = if takeB (mrgS a b j).1 (mrgS a b j).2 = true then W'.setCell ⟨bb, 0, none⟩ (tailV (mrgV va vb a b j).2) else W'.setCell ⟨ab, 0, none⟩ (tailV (mrgV va vb a b j).1)
theorem boxS_step {w : World} {ab bb : Nat} (hne : ab ≠ bb) (ha : w.heap.size ≤ ab) (hb : w.heap.size ≤ bb) {va vb : Value} {a b : List (Int × Int)} {j : Nat} {W1 W2 : World} (h : BoxS w ab bb va vb a b j W1) (hs : stepB ab bb va vb a b j W1 W2) : BoxS w ab bb va vb a b (j + 1) W2 := by
  obtain ⟨W', hB, rfl⟩ := hs
  have h2 := boxS_below h hB
  by_cases e : takeB (mrgS a b j).1 (mrgS a b j).2 = true
  · rw [if_pos e]
    refine ⟨h2.be.setCell hb _, ?_, ?_⟩
    · rw [heap_setCell_other _ _ _ _ hne]
      rw [mrgV_s, if_pos e]; exact h2.ca
    · have := row_set h2.cb 0 (tailV (mrgV va vb a b j).2)
      rw [mrgV_s, if_pos e]; exact this
  · rw [if_neg e]
    refine ⟨h2.be.setCell ha _, ?_, ?_⟩
    · have := row_set h2.ca 0 (tailV (mrgV va vb a b j).1)
      rw [mrgV_s, if_neg e]; exact this
    · rw [heap_setCell_other _ _ _ _ (Ne.symm hne)]
      rw [mrgV_s, if_neg e]; exact h2.cb

/-- How long the slice in a box is. -/
def lenAt (W : World) (b : Nat) : Nat := match W.cell? ⟨b, 0, none⟩ with
  | some (.slice _ n _) => n
  | _ => 0

end Go.Proofs.YtnbkbnbmmkfckaaGreat

namespace Go.Proofs.YtnbkbnbmmkfckaaGreat
open Go.RowKit FP

attribute [local go_sem] Oper.semAt_some

theorem tailV_is (b o n c : Nat) : tailV (.slice (some ⟨b, o, none⟩) (n + 1) c) = .slice (if c = 1 then some ⟨b, o, none⟩ else some ⟨b, o + 2, none⟩) n (c - 1) := by
  show Value.slice (if c = 1 then _ else _) _ _ = _
  by_cases e : c = 1
  · rw [if_pos e, if_pos e]; rfl
  · rw [if_neg e, if_neg e, Option.map_some, add_off]; rfl
theorem lenAt_of {W : World} {b n c : Nat} {a : Option Addr} (h : W.cell? ⟨b, 0, none⟩ = some (.slice a n c)) : lenAt W b = n := by unfold lenAt; rw [h]
theorem boxS_len {w : World} {ab bb : Nat} {va vb : Value} {a b : List (Int × Int)} (hA : Shares w va a) (hB : Shares w vb b) {j : Nat} {W : World} (hj : j ≤ a.length + b.length) (h : BoxS w ab bb va vb a b j W) : lenAt W ab + lenAt W bb = a.length + b.length - j := by
  obtain ⟨⟨_, _, e1, -⟩, ⟨_, _, e2, -⟩⟩ := mrgV_shares hA hB j hj
  have hl := mrgS_len a b j hj
  have h1 := row_cell h.ca (k := 0) rfl
  have h2 := row_cell h.cb (k := 0) rfl
  rw [e1] at h1
  rw [e2] at h2
  rw [lenAt_of h1, lenAt_of h2]
  omega

set_option maxRecDepth 100000 in
set_option maxHeartbeats 16000000 in
theorem both1_iterates (w : World) (ab bb : Nat) (va vb : Value) (a b : List (Int × Int)) (hA : Shares w va a) (hB : Shares w vb b) (N : Nat) (hN : N = a.length + b.length) (I : Nat → World → Prop) (hI : ∀ j W, I j W → BoxS w ab bb va vb a b j W) :
    Iterates5 Tryz.prog 81 #[.pointer (some ⟨ab, 0, none⟩), .pointer (some ⟨bb, 0, none⟩)] N (fun j => #[.agg #[.int .i64 (mrgE a b j).1, .int .i64 (mrgE a b j).2]]) I (stepB ab bb va vb a b) := by
  intro ll J Y Jx W hJ hst hS hY h0
  refine callsIn_of_wp Tryz.func81 rfl trivial ?_ rfl
  simp only [Tryz.ntmps81, List.size_toArray, List.length_cons, List.length_nil, Nat.reduceAdd, Nat.reduceSub, Array.replicate_succ, Array.replicate_zero, List.push_toArray, List.append_toArray, List.nil_append, List.cons_append]
  have HV := Lib.hid (fun j hj => mrgV_shares hA hB j hj)
  have HL := Lib.hid (fun j hj => mrgS_len a b j hj)
  have HNN := Lib.hid hN
  have HM : Hid (∀ j W, j ≤ N → I j W → lenAt W ab + lenAt W bb = N - j) := Lib.hid (fun j W hj h => by rw [hN]; exact boxS_len hA hB (by omega) (hI j W h))
  have HJI := Lib.hid hJ
  clear hA hB hN
  gi_wp2
  gi_loopw [4] (fun _ wr => ∃ j, j ≤ N ∧ J j wr) (fun _ wr => lenAt wr ab + lenAt wr bb)
  case atStart => exact ⟨0, Nat.zero_le _, h0⟩
  case round =>
    obtain ⟨j, hj, hJj⟩ := hrel
    have hBx := hI j wr (hJ j wr hJj)
    have hl := HL.out j (by rw [← HNN.out]; exact hj)
    obtain ⟨hx, hy⟩ := HV.out j (by rw [← HNN.out]; exact hj)
    have HE : Hid (mrgE a b j = mrgH (mrgS a b j)) := Lib.hid rfl
    have HST : Hid (∀ W', Below wr.heap.size wr W' → j < N → Y j (if takeB (mrgS a b j).1 (mrgS a b j).2 = true then W'.setCell ⟨bb, 0, none⟩ (tailV (mrgV va vb a b j).2) else W'.setCell ⟨ab, 0, none⟩ (tailV (mrgV va vb a b j).1))) := Lib.hid (fun W' hb hlt => hS j wr _ hJj hlt ⟨W', hb, rfl⟩)
    have ca := row_cell hBx.ca (k := 0) rfl
    have cb := row_cell hBx.cb (k := 0) rfl
    have HYY := Lib.hid (fun W' h1 h2 => hY j W' h1 h2)
    have HBX := Lib.hid hBx
    have HX := Lib.hid (hx.below hBx.be)
    have HY2 := Lib.hid (hy.below hBx.be)
    have HSA := Lib.hid hst
    have HJJ := Lib.hid hJj
    have HCX := Lib.hid hBx.ca
    have HCY := Lib.hid hBx.cb
    rw [show a.length + b.length = N from HNN.out.symm] at hl
    clear hx hy hBx hJj hY hS hst
    generalize mrgS a b j = s at *
    generalize mrgV va vb a b j = vv at *
    obtain ⟨x, y⟩ := s
    obtain ⟨vx, vy⟩ := vv
    simp only at ca cb hl HX HY2 HST HE HCX HCY
    obtain ⟨pa, ka, rfl, hka, hxl, hxr, hkx⟩ := id HX.out
    obtain ⟨pb, kb, rfl, hkb, hyl, hyr, hky⟩ := id HY2.out
    by_cases hend : x.length + y.length = 0
    · obtain rfl : j = N := by omega
      have dj : decide (0 < (x.length : Int) + (y.length : Int)) = false := decide_eq_false (by omega)
      have hx0 : x.length = 0 := by omega
      have hy0 : y.length = 0 := by omega
      clear hkx hky hxr hyr
      gi_wp2
      go_end0
      exact ⟨⟨_, rfl⟩, .inl HJJ.out⟩
    · have dj : decide (0 < (x.length : Int) + (y.length : Int)) = true := decide_eq_true (by omega)
      have hjN : j < N := by omega
      by_cases hx0 : x.length = 0
      · have d1 : ((x.length : Int) == 0) = true := by rw [hx0]; rfl
        have HTB : Hid (takeB x y = true) := Lib.hid (by unfold takeB; rw [decide_eq_true hx0]; rfl)
        obtain ⟨q, yt, rfl⟩ := List.exists_cons_of_length_pos (show 0 < y.length by omega)
        obtain ⟨b2, o2, rfl, e0q, e1q⟩ := hky 0 (by simp)
        simp only [List.getElem_cons_zero, Nat.zero_mul, Nat.add_zero] at e0q e1q
        have cad : wr.drew.cell? ⟨ab, 0, none⟩ = some (.slice pa x.length ka) := ca
        have cbd : wr.drew.cell? ⟨bb, 0, none⟩ = some (.slice (some ⟨b2, o2, none⟩) (q :: yt).length kb) := cb
        simp only [List.length_cons] at cb cbd hl hyl hend
        have hwz : wrap64 ((yt.length : Int) + 1) = (yt.length : Int) + 1 := by unfold wrap64; omega
        have dz : decide (0 < (yt.length : Int) + 1) = true := decide_eq_true (by omega)
        clear hkx hxr hky
        gi_wp2
        refine wpIn_region_held (S := (fun w' => w'.cell? ⟨ab, 0, none⟩ = some (.slice pa x.length ka) ∧ w'.cell? ⟨bb, 0, none⟩ = some (.slice (some ⟨b2, o2, none⟩) (yt.length + 1) kb))) (by kernel_rfl) (by
          intro o ho
          simp only [List.mem_cons, List.not_mem_nil, or_false] at ho
          rcases ho with rfl | rfl | rfl | rfl | rfl | rfl | rfl | rfl | rfl | rfl | rfl | rfl | rfl | rfl | rfl | rfl | rfl | rfl | rfl
          all_goals first | exact plain_load | exact plain_move | exact plain_len | exact plain_binOp | exact plain_indexAddr | exact plain_fieldAddr | exact plain_pick | exact plain_assign) (fun h => by obtain ⟨_, _, h⟩ := h; first | exact h | (obtain ⟨⟨_, h⟩, _⟩ := (h : (∃ v, Ending.outgrown = Ending.returned v) ∧ _); cases h)) (by (try dsimp only); (first | exact ⟨cad, cbd⟩ | go_keep)) (fun hHeld => ?_)
        refine take_yes (i := 0) (some 12) ?_ rfl (by kernel_rfl) (by kernel_rfl) (by kernel_rfl) (by kernel_rfl) (fun _ _ _ h => h) (by kernel_rfl) ?_ (by assumption) ?_
        rotate_left
        · (intro w hSw; (try dsimp only at hSw); go_simp; (try with_reducible rfl))
        simp only [Act.put, List.setIfInBounds_toArray, List.set_cons_zero, List.set_cons_succ]
        refine take_yes (i := 1) (some 13) ?_ rfl (by kernel_rfl) (by kernel_rfl) (by kernel_rfl) (by kernel_rfl) (fun _ _ _ h => h) (by kernel_rfl) ?_ (by assumption) ?_
        rotate_left
        · (intro w hSw; (try dsimp only at hSw); go_simp; (try with_reducible rfl))
        simp only [Act.put, List.setIfInBounds_toArray, List.set_cons_zero, List.set_cons_succ]
        refine take_yes (i := 2) (some 14) ?_ rfl (by kernel_rfl) (by kernel_rfl) (by kernel_rfl) (by kernel_rfl) (fun _ _ _ h => h) (by kernel_rfl) ?_ (by assumption) ?_
        rotate_left
        · (intro w hSw; (try dsimp only at hSw); go_simp; (try with_reducible rfl))
        simp only [Act.put, List.setIfInBounds_toArray, List.set_cons_zero, List.set_cons_succ]
        refine take_yes (i := 3) (some 15) _ rfl (by kernel_rfl) (by kernel_rfl) (by kernel_rfl) (by kernel_rfl) (fun _ _ _ h => h) (by kernel_rfl) (fun w _ => by rfl) (by assumption) ?_
        simp only [Act.put, List.setIfInBounds_toArray, List.set_cons_zero, List.set_cons_succ]
        refine take_no (i := 4) (some 16) rfl (by kernel_rfl) (by kernel_rfl) (by kernel_rfl) (by kernel_rfl) (fun _ _ _ h => h) (by kernel_rfl) (by assumption) ?_
        simp only [Act.put, List.setIfInBounds_toArray, List.set_cons_zero, List.set_cons_succ]
        refine take_no (i := 5) (some 17) rfl (by kernel_rfl) (by kernel_rfl) (by kernel_rfl) (by kernel_rfl) (fun _ _ _ h => h) (by kernel_rfl) (by assumption) ?_
        simp only [Act.put, List.setIfInBounds_toArray, List.set_cons_zero, List.set_cons_succ]
        refine take_no (i := 6) (some 18) rfl (by kernel_rfl) (by kernel_rfl) (by kernel_rfl) (by kernel_rfl) (fun _ _ _ h => h) (by kernel_rfl) (by assumption) ?_
        simp only [Act.put, List.setIfInBounds_toArray, List.set_cons_zero, List.set_cons_succ]
        refine take_no (i := 7) (some 19) rfl (by kernel_rfl) (by kernel_rfl) (by kernel_rfl) (by kernel_rfl) (fun _ _ _ h => h) (by kernel_rfl) (by assumption) ?_
        simp only [Act.put, List.setIfInBounds_toArray, List.set_cons_zero, List.set_cons_succ]
        refine take_no (i := 8) (some 20) rfl (by kernel_rfl) (by kernel_rfl) (by kernel_rfl) (by kernel_rfl) (fun _ _ _ h => h) (by kernel_rfl) (by assumption) ?_
        simp only [Act.put, List.setIfInBounds_toArray, List.set_cons_zero, List.set_cons_succ]
        refine take_no (i := 9) (some 21) rfl (by kernel_rfl) (by kernel_rfl) (by kernel_rfl) (by kernel_rfl) (fun _ _ _ h => h) (by kernel_rfl) (by assumption) ?_
        simp only [Act.put, List.setIfInBounds_toArray, List.set_cons_zero, List.set_cons_succ]
        refine take_no (i := 10) (some 22) rfl (by kernel_rfl) (by kernel_rfl) (by kernel_rfl) (by kernel_rfl) (fun _ _ _ h => h) (by kernel_rfl) (by assumption) ?_
        simp only [Act.put, List.setIfInBounds_toArray, List.set_cons_zero, List.set_cons_succ]
        refine take_no (i := 11) (some 23) rfl (by kernel_rfl) (by kernel_rfl) (by kernel_rfl) (by kernel_rfl) (fun _ _ _ h => h) (by kernel_rfl) (by assumption) ?_
        simp only [Act.put, List.setIfInBounds_toArray, List.set_cons_zero, List.set_cons_succ]
        refine take_no (i := 12) (some 24) rfl (by kernel_rfl) (by kernel_rfl) (by kernel_rfl) (by kernel_rfl) (fun _ _ _ h => h) (by kernel_rfl) (by assumption) ?_
        simp only [Act.put, List.setIfInBounds_toArray, List.set_cons_zero, List.set_cons_succ]
        refine take_no (i := 13) (some 25) rfl (by kernel_rfl) (by kernel_rfl) (by kernel_rfl) (by kernel_rfl) (fun _ _ _ h => h) (by kernel_rfl) (by assumption) ?_
        simp only [Act.put, List.setIfInBounds_toArray, List.set_cons_zero, List.set_cons_succ]
        refine take_no (i := 14) (some 26) rfl (by kernel_rfl) (by kernel_rfl) (by kernel_rfl) (by kernel_rfl) (fun _ _ _ h => h) (by kernel_rfl) (by assumption) ?_
        simp only [Act.put, List.setIfInBounds_toArray, List.set_cons_zero, List.set_cons_succ]
        refine take_no (i := 15) (some 27) rfl (by kernel_rfl) (by kernel_rfl) (by kernel_rfl) (by kernel_rfl) (fun _ _ _ h => h) (by kernel_rfl) (by assumption) ?_
        simp only [Act.put, List.setIfInBounds_toArray, List.set_cons_zero, List.set_cons_succ]
        refine take_no (i := 16) (some 28) rfl (by kernel_rfl) (by kernel_rfl) (by kernel_rfl) (by kernel_rfl) (fun _ _ _ h => h) (by kernel_rfl) (by assumption) ?_
        simp only [Act.put, List.setIfInBounds_toArray, List.set_cons_zero, List.set_cons_succ]
        refine take_no (i := 17) (some 29) rfl (by kernel_rfl) (by kernel_rfl) (by kernel_rfl) (by kernel_rfl) (fun _ _ _ h => h) (by kernel_rfl) (by assumption) ?_
        simp only [Act.put, List.setIfInBounds_toArray, List.set_cons_zero, List.set_cons_succ]
        refine take_yes (i := 18) (some 30) (.bool true) rfl (by kernel_rfl) (by kernel_rfl) (by kernel_rfl) (by kernel_rfl) (fun _ _ _ h => h) (by kernel_rfl) (fun w _ => by rfl) (by assumption) ?_
        simp only [Act.put, List.setIfInBounds_toArray, List.set_cons_zero, List.set_cons_succ]
        refine wpAnyH_done (by kernel_rfl) ?_ _
        have HQE : Hid (mrgE a b j = q) := Lib.hid (by rw [HE.out]; unfold mrgH; rw [if_pos HTB.out]; rfl)
        obtain ⟨wd, hwd⟩ : ∃ wd : World, wd = wr.drew := ⟨_, rfl⟩
        rw [← hwd]
        have hbd : Below wr.heap.size wr wd := hwd ▸ (Below.refl _ _).drew
        obtain ⟨W5, hW5, hb5, hr5, -⟩ := box_prog wd (.int .i64 q.1) (.int .i64 q.2) 47
        have hb15 := hbd.trans (hb5.mono hbd.size)
        have g0 := below_cell hbd e0q
        have g1 := below_cell hbd e1q
        have gc := below_cell hbd cb
        have HQ5 := Lib.hid ((hb15.block _ (row_lt HCY.out)).trans HCY.out)
        have HQS := Lib.hid hr5
        have hlt5 : bb < wd.heap.size := Nat.lt_of_lt_of_le (row_lt HCY.out) hbd.size
        have HW5 := Lib.hid hW5
        obtain ⟨T, hT⟩ : ∃ T, (if kb = 1 then some (⟨b2, o2, none⟩ : Addr) else some ⟨b2, o2 + 2, none⟩) = T := ⟨_, rfl⟩
        obtain ⟨W6, hW6⟩ : ∃ W6, W6 = W5.setCell ⟨bb, 0, none⟩ (.slice T yt.length (kb - 1)) := ⟨_, rfl⟩
        have HYJ : Hid (Y j W6) := Lib.hid (by
          have h := HST.out W5 hb15 hjN
          rw [if_pos HTB.out] at h
          simp only [List.length_cons] at h
          rw [tailV_is, hT] at h
          rw [hW6]; exact h)
        have s0 : W6.cell? ⟨wd.heap.size, 0, none⟩ = some (.int .i64 q.1) := by rw [hW6, setc_other (.inl (by omega))]; exact row_cell HQS.out rfl
        have s1 : W6.cell? ⟨wd.heap.size, 1, none⟩ = some (.int .i64 q.2) := by rw [hW6, setc_other (.inl (by omega))]; exact row_cell HQS.out rfl
        have u0 := row_cell HQ5.out (k := 0) rfl
        have uf := row_free HQ5.out 0
        have HW6 := Lib.hid hW6
        obtain ⟨fn, tmps, assign, body, hyy, hR⟩ := HYY.out W6 HYJ.out hjN
        rw [HQE.out] at hyy
        have l1 : (1 : Int) ≤ (yt.length : Int) + 1 := by omega
        have l2 : (0 : Int) < (yt.length : Int) + 1 := by omega
        obtain ⟨q1, q2⟩ := q
        simp only at s0 s1 hyy g0 g1 HW5
        rw [HW5.out] at u0 uf
        rw [HW6.out, HW5.out] at s0 s1 hyy
        clear hwd hbd hb5 hb15 hr5 hW5 hW6 hlt5 hHeld e0q e1q
        gi_wp2
        rw [← HW5.out, ← HW6.out]
        refine ⟨rfl, hR.mono ?_⟩
        rintro e W3 (⟨rfl, hJ3⟩ | ⟨rfl, hJx3⟩)
        · have hm1 := HM.out j wr (by omega) (HJI.out j wr HJJ.out)
          have hm2 := HM.out (j + 1) W3 (by omega) (HJI.out _ _ hJ3)
          gi_wp2
          go_roundw
          case rel => exact ⟨j + 1, by omega, hJ3⟩
          case measure => omega
        · gi_wp2
          refine bodyPost_ret (results_none rfl _ _ _) rfl ?_
          exact ⟨⟨_, rfl⟩, .inr ⟨j + 1, by omega, hJx3⟩⟩
      obtain ⟨p, xt, rfl⟩ := List.exists_cons_of_length_pos (show 0 < x.length by omega)
      obtain ⟨b1, o1, rfl, e0p, e1p⟩ := hkx 0 (by simp)
      simp only [List.getElem_cons_zero, Nat.zero_mul, Nat.add_zero] at e0p e1p
      simp only [List.length_cons] at ca hl hxl hend dj
      have d1 : ((xt.length : Int) + 1 == 0) = false := beq_eq_false_iff_ne.2 (by omega)
      by_cases hy0 : y.length = 0
      · have HTB : Hid (¬ takeB (p :: xt) y = true) := Lib.hid (by unfold takeB; rw [hy0]; simp)
        have cad : wr.drew.cell? ⟨ab, 0, none⟩ = some (.slice (some ⟨b1, o1, none⟩) (xt.length + 1) ka) := ca
        have cbd : wr.drew.cell? ⟨bb, 0, none⟩ = some (.slice pb y.length kb) := cb
        have hwz : wrap64 ((xt.length : Int) + 1) = (xt.length : Int) + 1 := by unfold wrap64; omega
        have dz : decide (0 < (xt.length : Int) + 1) = true := decide_eq_true (by omega)
        clear hkx hky hyr
        gi_wp2
        refine wpIn_region_held (S := (fun w' => w'.cell? ⟨ab, 0, none⟩ = some (.slice (some ⟨b1, o1, none⟩) (xt.length + 1) ka) ∧ w'.cell? ⟨bb, 0, none⟩ = some (.slice pb y.length kb))) (by kernel_rfl) (by
          intro o ho
          simp only [List.mem_cons, List.not_mem_nil, or_false] at ho
          rcases ho with rfl | rfl | rfl | rfl | rfl | rfl | rfl | rfl | rfl | rfl | rfl | rfl | rfl | rfl | rfl | rfl | rfl | rfl | rfl
          all_goals first | exact plain_load | exact plain_move | exact plain_len | exact plain_binOp | exact plain_indexAddr | exact plain_fieldAddr | exact plain_pick | exact plain_assign) (fun h => by obtain ⟨_, _, h⟩ := h; first | exact h | (obtain ⟨⟨_, h⟩, _⟩ := (h : (∃ v, Ending.outgrown = Ending.returned v) ∧ _); cases h)) (by (try dsimp only); (first | exact ⟨cad, cbd⟩ | go_keep)) (fun hHeld => ?_)
        refine take_yes (i := 0) (some 12) ?_ rfl (by kernel_rfl) (by kernel_rfl) (by kernel_rfl) (by kernel_rfl) (fun _ _ _ h => h) (by kernel_rfl) ?_ (by assumption) ?_
        rotate_left
        · (intro w hSw; (try dsimp only at hSw); go_simp; (try with_reducible rfl))
        simp only [Act.put, List.setIfInBounds_toArray, List.set_cons_zero, List.set_cons_succ]
        refine take_yes (i := 1) (some 13) ?_ rfl (by kernel_rfl) (by kernel_rfl) (by kernel_rfl) (by kernel_rfl) (fun _ _ _ h => h) (by kernel_rfl) ?_ (by assumption) ?_
        rotate_left
        · (intro w hSw; (try dsimp only at hSw); go_simp; (try with_reducible rfl))
        simp only [Act.put, List.setIfInBounds_toArray, List.set_cons_zero, List.set_cons_succ]
        refine take_yes (i := 2) (some 14) ?_ rfl (by kernel_rfl) (by kernel_rfl) (by kernel_rfl) (by kernel_rfl) (fun _ _ _ h => h) (by kernel_rfl) ?_ (by assumption) ?_
        rotate_left
        · (intro w hSw; (try dsimp only at hSw); go_simp; (try with_reducible rfl))
        simp only [Act.put, List.setIfInBounds_toArray, List.set_cons_zero, List.set_cons_succ]
        refine take_yes (i := 3) (some 15) _ rfl (by kernel_rfl) (by kernel_rfl) (by kernel_rfl) (by kernel_rfl) (fun _ _ _ h => h) (by kernel_rfl) (fun w _ => by rfl) (by assumption) ?_
        simp only [Act.put, List.setIfInBounds_toArray, List.set_cons_zero, List.set_cons_succ]
        refine take_yes (i := 4) (some 16) ?_ rfl (by kernel_rfl) (by kernel_rfl) (by kernel_rfl) (by kernel_rfl) (fun _ _ _ h => h) (by kernel_rfl) ?_ (by assumption) ?_
        rotate_left
        · (intro w hSw; (try dsimp only at hSw); go_simp; (try with_reducible rfl))
        simp only [Act.put, List.setIfInBounds_toArray, List.set_cons_zero, List.set_cons_succ]
        refine take_yes (i := 5) (some 17) ?_ rfl (by kernel_rfl) (by kernel_rfl) (by kernel_rfl) (by kernel_rfl) (fun _ _ _ h => h) (by kernel_rfl) ?_ (by assumption) ?_
        rotate_left
        · (intro w hSw; (try dsimp only at hSw); go_simp; (try with_reducible rfl))
        simp only [Act.put, List.setIfInBounds_toArray, List.set_cons_zero, List.set_cons_succ]
        refine take_yes (i := 6) (some 18) ?_ rfl (by kernel_rfl) (by kernel_rfl) (by kernel_rfl) (by kernel_rfl) (fun _ _ _ h => h) (by kernel_rfl) ?_ (by assumption) ?_
        rotate_left
        · (intro w hSw; (try dsimp only at hSw); go_simp; (try with_reducible rfl))
        simp only [Act.put, List.setIfInBounds_toArray, List.set_cons_zero, List.set_cons_succ]
        refine take_yes (i := 7) (some 19) _ rfl (by kernel_rfl) (by kernel_rfl) (by kernel_rfl) (by kernel_rfl) (fun _ _ _ h => h) (by kernel_rfl) (fun w _ => by rfl) (by assumption) ?_
        simp only [Act.put, List.setIfInBounds_toArray, List.set_cons_zero, List.set_cons_succ]
        refine take_no (i := 8) (some 20) rfl (by kernel_rfl) (by kernel_rfl) (by kernel_rfl) (by kernel_rfl) (fun _ _ _ h => h) (by kernel_rfl) (by assumption) ?_
        simp only [Act.put, List.setIfInBounds_toArray, List.set_cons_zero, List.set_cons_succ]
        refine take_no (i := 9) (some 21) rfl (by kernel_rfl) (by kernel_rfl) (by kernel_rfl) (by kernel_rfl) (fun _ _ _ h => h) (by kernel_rfl) (by assumption) ?_
        simp only [Act.put, List.setIfInBounds_toArray, List.set_cons_zero, List.set_cons_succ]
        refine take_no (i := 10) (some 22) rfl (by kernel_rfl) (by kernel_rfl) (by kernel_rfl) (by kernel_rfl) (fun _ _ _ h => h) (by kernel_rfl) (by assumption) ?_
        simp only [Act.put, List.setIfInBounds_toArray, List.set_cons_zero, List.set_cons_succ]
        refine take_no (i := 11) (some 23) rfl (by kernel_rfl) (by kernel_rfl) (by kernel_rfl) (by kernel_rfl) (fun _ _ _ h => h) (by kernel_rfl) (by assumption) ?_
        simp only [Act.put, List.setIfInBounds_toArray, List.set_cons_zero, List.set_cons_succ]
        refine take_no (i := 12) (some 24) rfl (by kernel_rfl) (by kernel_rfl) (by kernel_rfl) (by kernel_rfl) (fun _ _ _ h => h) (by kernel_rfl) (by assumption) ?_
        simp only [Act.put, List.setIfInBounds_toArray, List.set_cons_zero, List.set_cons_succ]
        refine take_no (i := 13) (some 25) rfl (by kernel_rfl) (by kernel_rfl) (by kernel_rfl) (by kernel_rfl) (fun _ _ _ h => h) (by kernel_rfl) (by assumption) ?_
        simp only [Act.put, List.setIfInBounds_toArray, List.set_cons_zero, List.set_cons_succ]
        refine take_no (i := 14) (some 26) rfl (by kernel_rfl) (by kernel_rfl) (by kernel_rfl) (by kernel_rfl) (fun _ _ _ h => h) (by kernel_rfl) (by assumption) ?_
        simp only [Act.put, List.setIfInBounds_toArray, List.set_cons_zero, List.set_cons_succ]
        refine take_no (i := 15) (some 27) rfl (by kernel_rfl) (by kernel_rfl) (by kernel_rfl) (by kernel_rfl) (fun _ _ _ h => h) (by kernel_rfl) (by assumption) ?_
        simp only [Act.put, List.setIfInBounds_toArray, List.set_cons_zero, List.set_cons_succ]
        refine take_no (i := 16) (some 28) rfl (by kernel_rfl) (by kernel_rfl) (by kernel_rfl) (by kernel_rfl) (fun _ _ _ h => h) (by kernel_rfl) (by assumption) ?_
        simp only [Act.put, List.setIfInBounds_toArray, List.set_cons_zero, List.set_cons_succ]
        refine take_yes (i := 17) (some 29) (.bool false) rfl (by kernel_rfl) (by kernel_rfl) (by kernel_rfl) (by kernel_rfl) (fun _ _ _ h => h) (by kernel_rfl) (fun w _ => by rfl) (by assumption) ?_
        simp only [Act.put, List.setIfInBounds_toArray, List.set_cons_zero, List.set_cons_succ]
        refine take_yes (i := 18) (some 30) (.bool false) rfl (by kernel_rfl) (by kernel_rfl) (by kernel_rfl) (by kernel_rfl) (fun _ _ _ h => h) (by kernel_rfl) (fun w _ => by rfl) (by assumption) ?_
        simp only [Act.put, List.setIfInBounds_toArray, List.set_cons_zero, List.set_cons_succ]
        refine wpAnyH_done (by kernel_rfl) ?_ _
        have HQE : Hid (mrgE a b j = p) := Lib.hid (by rw [HE.out]; unfold mrgH; rw [if_neg HTB.out]; rfl)
        obtain ⟨wd, hwd⟩ : ∃ wd : World, wd = wr.drew := ⟨_, rfl⟩
        rw [← hwd]
        have hbd : Below wr.heap.size wr wd := hwd ▸ (Below.refl _ _).drew
        obtain ⟨W5, hW5, hb5, hr5, -⟩ := box_prog wd (.int .i64 p.1) (.int .i64 p.2) 47
        have hb15 := hbd.trans (hb5.mono hbd.size)
        have g0 := below_cell hbd e0p
        have g1 := below_cell hbd e1p
        have gc := below_cell hbd ca
        have HQ5 := Lib.hid ((hb15.block _ (row_lt HCX.out)).trans HCX.out)
        have HQS := Lib.hid hr5
        have hlt5 : ab < wd.heap.size := Nat.lt_of_lt_of_le (row_lt HCX.out) hbd.size
        have HW5 := Lib.hid hW5
        obtain ⟨T, hT⟩ : ∃ T, (if ka = 1 then some (⟨b1, o1, none⟩ : Addr) else some ⟨b1, o1 + 2, none⟩) = T := ⟨_, rfl⟩
        obtain ⟨W6, hW6⟩ : ∃ W6, W6 = W5.setCell ⟨ab, 0, none⟩ (.slice T xt.length (ka - 1)) := ⟨_, rfl⟩
        have HYJ : Hid (Y j W6) := Lib.hid (by
          have h := HST.out W5 hb15 hjN
          rw [if_neg HTB.out] at h
          simp only [List.length_cons] at h
          rw [tailV_is, hT] at h
          rw [hW6]; exact h)
        have s0 : W6.cell? ⟨wd.heap.size, 0, none⟩ = some (.int .i64 p.1) := by rw [hW6, setc_other (.inl (by omega))]; exact row_cell HQS.out rfl
        have s1 : W6.cell? ⟨wd.heap.size, 1, none⟩ = some (.int .i64 p.2) := by rw [hW6, setc_other (.inl (by omega))]; exact row_cell HQS.out rfl
        have u0 := row_cell HQ5.out (k := 0) rfl
        have uf := row_free HQ5.out 0
        have HW6 := Lib.hid hW6
        obtain ⟨fn, tmps, assign, body, hyy, hR⟩ := HYY.out W6 HYJ.out hjN
        rw [HQE.out] at hyy
        have l1 : (1 : Int) ≤ (xt.length : Int) + 1 := by omega
        have l2 : (0 : Int) < (xt.length : Int) + 1 := by omega
        obtain ⟨q1, q2⟩ := p
        simp only at s0 s1 hyy g0 g1 HW5
        rw [HW5.out] at u0 uf
        rw [HW6.out, HW5.out] at s0 s1 hyy
        clear hwd hbd hb5 hb15 hr5 hW5 hW6 hlt5 hHeld e0p e1p
        gi_wp2
        rw [← HW5.out, ← HW6.out]
        refine ⟨rfl, hR.mono ?_⟩
        rintro e W3 (⟨rfl, hJ3⟩ | ⟨rfl, hJx3⟩)
        · have hm1 := HM.out j wr (by omega) (HJI.out j wr HJJ.out)
          have hm2 := HM.out (j + 1) W3 (by omega) (HJI.out _ _ hJ3)
          gi_wp2
          go_roundw
          case rel => exact ⟨j + 1, by omega, hJ3⟩
          case measure => omega
        · gi_wp2
          refine bodyPost_ret (results_none rfl _ _ _) rfl ?_
          exact ⟨⟨_, rfl⟩, .inr ⟨j + 1, by omega, hJx3⟩⟩
      obtain ⟨q, yt, rfl⟩ := List.exists_cons_of_length_pos (show 0 < y.length by omega)
      obtain ⟨b2, o2, rfl, e0q, e1q⟩ := hky 0 (by simp)
      simp only [List.getElem_cons_zero, Nat.zero_mul, Nat.add_zero] at e0q e1q
      simp only [List.length_cons] at cb hl hyl hend dj
      have d2 : decide (0 < (yt.length : Int) + 1) = true := decide_eq_true (by omega)
      have cad : wr.drew.cell? ⟨ab, 0, none⟩ = some (.slice (some ⟨b1, o1, none⟩) (xt.length + 1) ka) := ca
      have cbd : wr.drew.cell? ⟨bb, 0, none⟩ = some (.slice (some ⟨b2, o2, none⟩) (yt.length + 1) kb) := cb
      have cpd : wr.drew.cell? ⟨b1, o1, none⟩ = some (.int .i64 p.1) := e0p
      have cqd : wr.drew.cell? ⟨b2, o2, none⟩ = some (.int .i64 q.1) := e0q
      have l3 : (0 : Int) < (xt.length : Int) + 1 := by omega
      have l4 : (0 : Int) < (yt.length : Int) + 1 := by omega
      have hwz : wrap64 ((xt.length : Int) + 1 + ((yt.length : Int) + 1)) = (xt.length : Int) + 1 + ((yt.length : Int) + 1) := by unfold wrap64; omega
      have dz : decide (0 < (xt.length : Int) + 1 + ((yt.length : Int) + 1)) = true := decide_eq_true (by omega)
      clear hkx hky
      by_cases hlt : q.1 < p.1
      · have d3 : decide (q.1 < p.1) = true := decide_eq_true hlt
        have HTB : Hid (takeB (p :: xt) (q :: yt) = true) := Lib.hid (by unfold takeB; simp [hlt])
        gi_wp2
        refine wpIn_region_held (S := (fun w' => w'.cell? ⟨ab, 0, none⟩ = some (.slice (some ⟨b1, o1, none⟩) (xt.length + 1) ka) ∧ w'.cell? ⟨bb, 0, none⟩ = some (.slice (some ⟨b2, o2, none⟩) (yt.length + 1) kb) ∧ w'.cell? ⟨b1, o1, none⟩ = some (.int .i64 p.1) ∧ w'.cell? ⟨b2, o2, none⟩ = some (.int .i64 q.1))) (by kernel_rfl) (by
          intro o ho
          simp only [List.mem_cons, List.not_mem_nil, or_false] at ho
          rcases ho with rfl | rfl | rfl | rfl | rfl | rfl | rfl | rfl | rfl | rfl | rfl | rfl | rfl | rfl | rfl | rfl | rfl | rfl | rfl
          all_goals first | exact plain_load | exact plain_move | exact plain_len | exact plain_binOp | exact plain_indexAddr | exact plain_fieldAddr | exact plain_pick | exact plain_assign) (fun h => by obtain ⟨_, _, h⟩ := h; first | exact h | (obtain ⟨⟨_, h⟩, _⟩ := (h : (∃ v, Ending.outgrown = Ending.returned v) ∧ _); cases h)) (by (try dsimp only); (first | exact ⟨cad, cbd, cpd, cqd⟩ | go_keep)) (fun hHeld => ?_)
        refine take_yes (i := 0) (some 12) ?_ rfl (by kernel_rfl) (by kernel_rfl) (by kernel_rfl) (by kernel_rfl) (fun _ _ _ h => h) (by kernel_rfl) ?_ (by assumption) ?_
        rotate_left
        · (intro w hSw; (try dsimp only at hSw); go_simp; (try with_reducible rfl))
        simp only [Act.put, List.setIfInBounds_toArray, List.set_cons_zero, List.set_cons_succ]
        refine take_yes (i := 1) (some 13) ?_ rfl (by kernel_rfl) (by kernel_rfl) (by kernel_rfl) (by kernel_rfl) (fun _ _ _ h => h) (by kernel_rfl) ?_ (by assumption) ?_
        rotate_left
        · (intro w hSw; (try dsimp only at hSw); go_simp; (try with_reducible rfl))
        simp only [Act.put, List.setIfInBounds_toArray, List.set_cons_zero, List.set_cons_succ]
        refine take_yes (i := 2) (some 14) ?_ rfl (by kernel_rfl) (by kernel_rfl) (by kernel_rfl) (by kernel_rfl) (fun _ _ _ h => h) (by kernel_rfl) ?_ (by assumption) ?_
        rotate_left
        · (intro w hSw; (try dsimp only at hSw); go_simp; (try with_reducible rfl))
        simp only [Act.put, List.setIfInBounds_toArray, List.set_cons_zero, List.set_cons_succ]
        refine take_yes (i := 3) (some 15) _ rfl (by kernel_rfl) (by kernel_rfl) (by kernel_rfl) (by kernel_rfl) (fun _ _ _ h => h) (by kernel_rfl) (fun w _ => by rfl) (by assumption) ?_
        simp only [Act.put, List.setIfInBounds_toArray, List.set_cons_zero, List.set_cons_succ]
        refine take_yes (i := 4) (some 16) ?_ rfl (by kernel_rfl) (by kernel_rfl) (by kernel_rfl) (by kernel_rfl) (fun _ _ _ h => h) (by kernel_rfl) ?_ (by assumption) ?_
        rotate_left
        · (intro w hSw; (try dsimp only at hSw); go_simp; (try with_reducible rfl))
        simp only [Act.put, List.setIfInBounds_toArray, List.set_cons_zero, List.set_cons_succ]
        refine take_yes (i := 5) (some 17) ?_ rfl (by kernel_rfl) (by kernel_rfl) (by kernel_rfl) (by kernel_rfl) (fun _ _ _ h => h) (by kernel_rfl) ?_ (by assumption) ?_
        rotate_left
        · (intro w hSw; (try dsimp only at hSw); go_simp; (try with_reducible rfl))
        simp only [Act.put, List.setIfInBounds_toArray, List.set_cons_zero, List.set_cons_succ]
        refine take_yes (i := 6) (some 18) ?_ rfl (by kernel_rfl) (by kernel_rfl) (by kernel_rfl) (by kernel_rfl) (fun _ _ _ h => h) (by kernel_rfl) ?_ (by assumption) ?_
        rotate_left
        · (intro w hSw; (try dsimp only at hSw); go_simp; (try with_reducible rfl))
        simp only [Act.put, List.setIfInBounds_toArray, List.set_cons_zero, List.set_cons_succ]
        refine take_yes (i := 7) (some 19) _ rfl (by kernel_rfl) (by kernel_rfl) (by kernel_rfl) (by kernel_rfl) (fun _ _ _ h => h) (by kernel_rfl) (fun w _ => by rfl) (by assumption) ?_
        simp only [Act.put, List.setIfInBounds_toArray, List.set_cons_zero, List.set_cons_succ]
        refine take_yes (i := 8) (some 20) ?_ rfl (by kernel_rfl) (by kernel_rfl) (by kernel_rfl) (by kernel_rfl) (fun _ _ _ h => h) (by kernel_rfl) ?_ (by assumption) ?_
        rotate_left
        · (intro w hSw; (try dsimp only at hSw); go_simp; (try with_reducible rfl))
        simp only [Act.put, List.setIfInBounds_toArray, List.set_cons_zero, List.set_cons_succ]
        refine take_yes (i := 9) (some 21) ?_ rfl (by kernel_rfl) (by kernel_rfl) (by kernel_rfl) (by kernel_rfl) (fun _ _ _ h => h) (by kernel_rfl) ?_ (by assumption) ?_
        rotate_left
        · (intro w hSw; (try dsimp only at hSw); go_simp; (try with_reducible rfl))
        simp only [Act.put, List.setIfInBounds_toArray, List.set_cons_zero, List.set_cons_succ]
        refine take_yes (i := 10) (some 22) ?_ rfl (by kernel_rfl) (by kernel_rfl) (by kernel_rfl) (by kernel_rfl) (fun _ _ _ h => h) (by kernel_rfl) ?_ (by assumption) ?_
        rotate_left
        · (intro w hSw; (try dsimp only at hSw); go_simp; (try with_reducible rfl))
        simp only [Act.put, List.setIfInBounds_toArray, List.set_cons_zero, List.set_cons_succ]
        refine take_yes (i := 11) (some 23) ?_ rfl (by kernel_rfl) (by kernel_rfl) (by kernel_rfl) (by kernel_rfl) (fun _ _ _ h => h) (by kernel_rfl) ?_ (by assumption) ?_
        rotate_left
        · (intro w hSw; (try dsimp only at hSw); go_simp; (try with_reducible rfl))
        simp only [Act.put, List.setIfInBounds_toArray, List.set_cons_zero, List.set_cons_succ]
        refine take_yes (i := 12) (some 24) ?_ rfl (by kernel_rfl) (by kernel_rfl) (by kernel_rfl) (by kernel_rfl) (fun _ _ _ h => h) (by kernel_rfl) ?_ (by assumption) ?_
        rotate_left
        · (intro w hSw; (try dsimp only at hSw); go_simp; (try with_reducible rfl))
        simp only [Act.put, List.setIfInBounds_toArray, List.set_cons_zero, List.set_cons_succ]
        refine take_yes (i := 13) (some 25) ?_ rfl (by kernel_rfl) (by kernel_rfl) (by kernel_rfl) (by kernel_rfl) (fun _ _ _ h => h) (by kernel_rfl) ?_ (by assumption) ?_
        rotate_left
        · (intro w hSw; (try dsimp only at hSw); go_simp; (try with_reducible rfl))
        simp only [Act.put, List.setIfInBounds_toArray, List.set_cons_zero, List.set_cons_succ]
        refine take_yes (i := 14) (some 26) ?_ rfl (by kernel_rfl) (by kernel_rfl) (by kernel_rfl) (by kernel_rfl) (fun _ _ _ h => h) (by kernel_rfl) ?_ (by assumption) ?_
        rotate_left
        · (intro w hSw; (try dsimp only at hSw); go_simp; (try with_reducible rfl))
        simp only [Act.put, List.setIfInBounds_toArray, List.set_cons_zero, List.set_cons_succ]
        refine take_yes (i := 15) (some 27) ?_ rfl (by kernel_rfl) (by kernel_rfl) (by kernel_rfl) (by kernel_rfl) (fun _ _ _ h => h) (by kernel_rfl) ?_ (by assumption) ?_
        rotate_left
        · (intro w hSw; (try dsimp only at hSw); go_simp; (try with_reducible rfl))
        simp only [Act.put, List.setIfInBounds_toArray, List.set_cons_zero, List.set_cons_succ]
        refine take_yes (i := 16) (some 28) ?_ rfl (by kernel_rfl) (by kernel_rfl) (by kernel_rfl) (by kernel_rfl) (fun _ _ _ h => h) (by kernel_rfl) ?_ (by assumption) ?_
        rotate_left
        · (intro w hSw; (try dsimp only at hSw); go_simp; (try with_reducible rfl))
        simp only [Act.put, List.setIfInBounds_toArray, List.set_cons_zero, List.set_cons_succ]
        refine take_yes (i := 17) (some 29) _ rfl (by kernel_rfl) (by kernel_rfl) (by kernel_rfl) (by kernel_rfl) (fun _ _ _ h => h) (by kernel_rfl) (fun w _ => by rfl) (by assumption) ?_
        simp only [Act.put, List.setIfInBounds_toArray, List.set_cons_zero, List.set_cons_succ]
        refine take_yes (i := 18) (some 30) _ rfl (by kernel_rfl) (by kernel_rfl) (by kernel_rfl) (by kernel_rfl) (fun _ _ _ h => h) (by kernel_rfl) (fun w _ => by rfl) (by assumption) ?_
        simp only [Act.put, List.setIfInBounds_toArray, List.set_cons_zero, List.set_cons_succ]
        refine wpAnyH_done (by kernel_rfl) ?_ _
        have HQE : Hid (mrgE a b j = q) := Lib.hid (by rw [HE.out]; unfold mrgH; rw [if_pos HTB.out]; rfl)
        obtain ⟨wd, hwd⟩ : ∃ wd : World, wd = wr.drew := ⟨_, rfl⟩
        rw [← hwd]
        have hbd : Below wr.heap.size wr wd := hwd ▸ (Below.refl _ _).drew
        obtain ⟨W5, hW5, hb5, hr5, -⟩ := box_prog wd (.int .i64 q.1) (.int .i64 q.2) 47
        have hb15 := hbd.trans (hb5.mono hbd.size)
        have g0 := below_cell hbd e0q
        have g1 := below_cell hbd e1q
        have gc := below_cell hbd cb
        have HQ5 := Lib.hid ((hb15.block _ (row_lt HCY.out)).trans HCY.out)
        have HQS := Lib.hid hr5
        have hlt5 : bb < wd.heap.size := Nat.lt_of_lt_of_le (row_lt HCY.out) hbd.size
        have HW5 := Lib.hid hW5
        obtain ⟨T, hT⟩ : ∃ T, (if kb = 1 then some (⟨b2, o2, none⟩ : Addr) else some ⟨b2, o2 + 2, none⟩) = T := ⟨_, rfl⟩
        obtain ⟨W6, hW6⟩ : ∃ W6, W6 = W5.setCell ⟨bb, 0, none⟩ (.slice T yt.length (kb - 1)) := ⟨_, rfl⟩
        have HYJ : Hid (Y j W6) := Lib.hid (by
          have h := HST.out W5 hb15 hjN
          rw [if_pos HTB.out] at h
          simp only [List.length_cons] at h
          rw [tailV_is, hT] at h
          rw [hW6]; exact h)
        have s0 : W6.cell? ⟨wd.heap.size, 0, none⟩ = some (.int .i64 q.1) := by rw [hW6, setc_other (.inl (by omega))]; exact row_cell HQS.out rfl
        have s1 : W6.cell? ⟨wd.heap.size, 1, none⟩ = some (.int .i64 q.2) := by rw [hW6, setc_other (.inl (by omega))]; exact row_cell HQS.out rfl
        have u0 := row_cell HQ5.out (k := 0) rfl
        have uf := row_free HQ5.out 0
        have HW6 := Lib.hid hW6
        obtain ⟨fn, tmps, assign, body, hyy, hR⟩ := HYY.out W6 HYJ.out hjN
        rw [HQE.out] at hyy
        have l1 : (1 : Int) ≤ (yt.length : Int) + 1 := by omega
        have l2 : (0 : Int) < (yt.length : Int) + 1 := by omega
        obtain ⟨q1, q2⟩ := q
        simp only at s0 s1 hyy g0 g1 HW5
        rw [HW5.out] at u0 uf
        rw [HW6.out, HW5.out] at s0 s1 hyy
        clear hwd hbd hb5 hb15 hr5 hW5 hW6 hlt5 hHeld e0q e1q cad cbd cpd cqd e0p e1p ca
        gi_wp2
        rw [← HW5.out, ← HW6.out]
        refine ⟨rfl, hR.mono ?_⟩
        rintro e W3 (⟨rfl, hJ3⟩ | ⟨rfl, hJx3⟩)
        · have hm1 := HM.out j wr (by omega) (HJI.out j wr HJJ.out)
          have hm2 := HM.out (j + 1) W3 (by omega) (HJI.out _ _ hJ3)
          gi_wp2
          go_roundw
          case rel => exact ⟨j + 1, by omega, hJ3⟩
          case measure => omega
        · gi_wp2
          refine bodyPost_ret (results_none rfl _ _ _) rfl ?_
          exact ⟨⟨_, rfl⟩, .inr ⟨j + 1, by omega, hJx3⟩⟩
      · have d3 : decide (q.1 < p.1) = false := decide_eq_false hlt
        have HTB : Hid (¬ takeB (p :: xt) (q :: yt) = true) := Lib.hid (by unfold takeB; simp; omega)
        gi_wp2
        refine wpIn_region_held (S := (fun w' => w'.cell? ⟨ab, 0, none⟩ = some (.slice (some ⟨b1, o1, none⟩) (xt.length + 1) ka) ∧ w'.cell? ⟨bb, 0, none⟩ = some (.slice (some ⟨b2, o2, none⟩) (yt.length + 1) kb) ∧ w'.cell? ⟨b1, o1, none⟩ = some (.int .i64 p.1) ∧ w'.cell? ⟨b2, o2, none⟩ = some (.int .i64 q.1))) (by kernel_rfl) (by
          intro o ho
          simp only [List.mem_cons, List.not_mem_nil, or_false] at ho
          rcases ho with rfl | rfl | rfl | rfl | rfl | rfl | rfl | rfl | rfl | rfl | rfl | rfl | rfl | rfl | rfl | rfl | rfl | rfl | rfl
          all_goals first | exact plain_load | exact plain_move | exact plain_len | exact plain_binOp | exact plain_indexAddr | exact plain_fieldAddr | exact plain_pick | exact plain_assign) (fun h => by obtain ⟨_, _, h⟩ := h; first | exact h | (obtain ⟨⟨_, h⟩, _⟩ := (h : (∃ v, Ending.outgrown = Ending.returned v) ∧ _); cases h)) (by (try dsimp only); (first | exact ⟨cad, cbd, cpd, cqd⟩ | go_keep)) (fun hHeld => ?_)
        refine take_yes (i := 0) (some 12) ?_ rfl (by kernel_rfl) (by kernel_rfl) (by kernel_rfl) (by kernel_rfl) (fun _ _ _ h => h) (by kernel_rfl) ?_ (by assumption) ?_
        rotate_left
        · (intro w hSw; (try dsimp only at hSw); go_simp; (try with_reducible rfl))
        simp only [Act.put, List.setIfInBounds_toArray, List.set_cons_zero, List.set_cons_succ]
        refine take_yes (i := 1) (some 13) ?_ rfl (by kernel_rfl) (by kernel_rfl) (by kernel_rfl) (by kernel_rfl) (fun _ _ _ h => h) (by kernel_rfl) ?_ (by assumption) ?_
        rotate_left
        · (intro w hSw; (try dsimp only at hSw); go_simp; (try with_reducible rfl))
        simp only [Act.put, List.setIfInBounds_toArray, List.set_cons_zero, List.set_cons_succ]
        refine take_yes (i := 2) (some 14) ?_ rfl (by kernel_rfl) (by kernel_rfl) (by kernel_rfl) (by kernel_rfl) (fun _ _ _ h => h) (by kernel_rfl) ?_ (by assumption) ?_
        rotate_left
        · (intro w hSw; (try dsimp only at hSw); go_simp; (try with_reducible rfl))
        simp only [Act.put, List.setIfInBounds_toArray, List.set_cons_zero, List.set_cons_succ]
        refine take_yes (i := 3) (some 15) _ rfl (by kernel_rfl) (by kernel_rfl) (by kernel_rfl) (by kernel_rfl) (fun _ _ _ h => h) (by kernel_rfl) (fun w _ => by rfl) (by assumption) ?_
        simp only [Act.put, List.setIfInBounds_toArray, List.set_cons_zero, List.set_cons_succ]
        refine take_yes (i := 4) (some 16) ?_ rfl (by kernel_rfl) (by kernel_rfl) (by kernel_rfl) (by kernel_rfl) (fun _ _ _ h => h) (by kernel_rfl) ?_ (by assumption) ?_
        rotate_left
        · (intro w hSw; (try dsimp only at hSw); go_simp; (try with_reducible rfl))
        simp only [Act.put, List.setIfInBounds_toArray, List.set_cons_zero, List.set_cons_succ]
        refine take_yes (i := 5) (some 17) ?_ rfl (by kernel_rfl) (by kernel_rfl) (by kernel_rfl) (by kernel_rfl) (fun _ _ _ h => h) (by kernel_rfl) ?_ (by assumption) ?_
        rotate_left
        · (intro w hSw; (try dsimp only at hSw); go_simp; (try with_reducible rfl))
        simp only [Act.put, List.setIfInBounds_toArray, List.set_cons_zero, List.set_cons_succ]
        refine take_yes (i := 6) (some 18) ?_ rfl (by kernel_rfl) (by kernel_rfl) (by kernel_rfl) (by kernel_rfl) (fun _ _ _ h => h) (by kernel_rfl) ?_ (by assumption) ?_
        rotate_left
        · (intro w hSw; (try dsimp only at hSw); go_simp; (try with_reducible rfl))
        simp only [Act.put, List.setIfInBounds_toArray, List.set_cons_zero, List.set_cons_succ]
        refine take_yes (i := 7) (some 19) _ rfl (by kernel_rfl) (by kernel_rfl) (by kernel_rfl) (by kernel_rfl) (fun _ _ _ h => h) (by kernel_rfl) (fun w _ => by rfl) (by assumption) ?_
        simp only [Act.put, List.setIfInBounds_toArray, List.set_cons_zero, List.set_cons_succ]
        refine take_yes (i := 8) (some 20) ?_ rfl (by kernel_rfl) (by kernel_rfl) (by kernel_rfl) (by kernel_rfl) (fun _ _ _ h => h) (by kernel_rfl) ?_ (by assumption) ?_
        rotate_left
        · (intro w hSw; (try dsimp only at hSw); go_simp; (try with_reducible rfl))
        simp only [Act.put, List.setIfInBounds_toArray, List.set_cons_zero, List.set_cons_succ]
        refine take_yes (i := 9) (some 21) ?_ rfl (by kernel_rfl) (by kernel_rfl) (by kernel_rfl) (by kernel_rfl) (fun _ _ _ h => h) (by kernel_rfl) ?_ (by assumption) ?_
        rotate_left
        · (intro w hSw; (try dsimp only at hSw); go_simp; (try with_reducible rfl))
        simp only [Act.put, List.setIfInBounds_toArray, List.set_cons_zero, List.set_cons_succ]
        refine take_yes (i := 10) (some 22) ?_ rfl (by kernel_rfl) (by kernel_rfl) (by kernel_rfl) (by kernel_rfl) (fun _ _ _ h => h) (by kernel_rfl) ?_ (by assumption) ?_
        rotate_left
        · (intro w hSw; (try dsimp only at hSw); go_simp; (try with_reducible rfl))
        simp only [Act.put, List.setIfInBounds_toArray, List.set_cons_zero, List.set_cons_succ]
        refine take_yes (i := 11) (some 23) ?_ rfl (by kernel_rfl) (by kernel_rfl) (by kernel_rfl) (by kernel_rfl) (fun _ _ _ h => h) (by kernel_rfl) ?_ (by assumption) ?_
        rotate_left
        · (intro w hSw; (try dsimp only at hSw); go_simp; (try with_reducible rfl))
        simp only [Act.put, List.setIfInBounds_toArray, List.set_cons_zero, List.set_cons_succ]
        refine take_yes (i := 12) (some 24) ?_ rfl (by kernel_rfl) (by kernel_rfl) (by kernel_rfl) (by kernel_rfl) (fun _ _ _ h => h) (by kernel_rfl) ?_ (by assumption) ?_
        rotate_left
        · (intro w hSw; (try dsimp only at hSw); go_simp; (try with_reducible rfl))
        simp only [Act.put, List.setIfInBounds_toArray, List.set_cons_zero, List.set_cons_succ]
        refine take_yes (i := 13) (some 25) ?_ rfl (by kernel_rfl) (by kernel_rfl) (by kernel_rfl) (by kernel_rfl) (fun _ _ _ h => h) (by kernel_rfl) ?_ (by assumption) ?_
        rotate_left
        · (intro w hSw; (try dsimp only at hSw); go_simp; (try with_reducible rfl))
        simp only [Act.put, List.setIfInBounds_toArray, List.set_cons_zero, List.set_cons_succ]
        refine take_yes (i := 14) (some 26) ?_ rfl (by kernel_rfl) (by kernel_rfl) (by kernel_rfl) (by kernel_rfl) (fun _ _ _ h => h) (by kernel_rfl) ?_ (by assumption) ?_
        rotate_left
        · (intro w hSw; (try dsimp only at hSw); go_simp; (try with_reducible rfl))
        simp only [Act.put, List.setIfInBounds_toArray, List.set_cons_zero, List.set_cons_succ]
        refine take_yes (i := 15) (some 27) ?_ rfl (by kernel_rfl) (by kernel_rfl) (by kernel_rfl) (by kernel_rfl) (fun _ _ _ h => h) (by kernel_rfl) ?_ (by assumption) ?_
        rotate_left
        · (intro w hSw; (try dsimp only at hSw); go_simp; (try with_reducible rfl))
        simp only [Act.put, List.setIfInBounds_toArray, List.set_cons_zero, List.set_cons_succ]
        refine take_yes (i := 16) (some 28) ?_ rfl (by kernel_rfl) (by kernel_rfl) (by kernel_rfl) (by kernel_rfl) (fun _ _ _ h => h) (by kernel_rfl) ?_ (by assumption) ?_
        rotate_left
        · (intro w hSw; (try dsimp only at hSw); go_simp; (try with_reducible rfl))
        simp only [Act.put, List.setIfInBounds_toArray, List.set_cons_zero, List.set_cons_succ]
        refine take_yes (i := 17) (some 29) _ rfl (by kernel_rfl) (by kernel_rfl) (by kernel_rfl) (by kernel_rfl) (fun _ _ _ h => h) (by kernel_rfl) (fun w _ => by rfl) (by assumption) ?_
        simp only [Act.put, List.setIfInBounds_toArray, List.set_cons_zero, List.set_cons_succ]
        refine take_yes (i := 18) (some 30) _ rfl (by kernel_rfl) (by kernel_rfl) (by kernel_rfl) (by kernel_rfl) (fun _ _ _ h => h) (by kernel_rfl) (fun w _ => by rfl) (by assumption) ?_
        simp only [Act.put, List.setIfInBounds_toArray, List.set_cons_zero, List.set_cons_succ]
        refine wpAnyH_done (by kernel_rfl) ?_ _
        have HQE : Hid (mrgE a b j = p) := Lib.hid (by rw [HE.out]; unfold mrgH; rw [if_neg HTB.out]; rfl)
        obtain ⟨wd, hwd⟩ : ∃ wd : World, wd = wr.drew := ⟨_, rfl⟩
        rw [← hwd]
        have hbd : Below wr.heap.size wr wd := hwd ▸ (Below.refl _ _).drew
        obtain ⟨W5, hW5, hb5, hr5, -⟩ := box_prog wd (.int .i64 p.1) (.int .i64 p.2) 47
        have hb15 := hbd.trans (hb5.mono hbd.size)
        have g0 := below_cell hbd e0p
        have g1 := below_cell hbd e1p
        have gc := below_cell hbd ca
        have HQ5 := Lib.hid ((hb15.block _ (row_lt HCX.out)).trans HCX.out)
        have HQS := Lib.hid hr5
        have hlt5 : ab < wd.heap.size := Nat.lt_of_lt_of_le (row_lt HCX.out) hbd.size
        have HW5 := Lib.hid hW5
        obtain ⟨T, hT⟩ : ∃ T, (if ka = 1 then some (⟨b1, o1, none⟩ : Addr) else some ⟨b1, o1 + 2, none⟩) = T := ⟨_, rfl⟩
        obtain ⟨W6, hW6⟩ : ∃ W6, W6 = W5.setCell ⟨ab, 0, none⟩ (.slice T xt.length (ka - 1)) := ⟨_, rfl⟩
        have HYJ : Hid (Y j W6) := Lib.hid (by
          have h := HST.out W5 hb15 hjN
          rw [if_neg HTB.out] at h
          simp only [List.length_cons] at h
          rw [tailV_is, hT] at h
          rw [hW6]; exact h)
        have s0 : W6.cell? ⟨wd.heap.size, 0, none⟩ = some (.int .i64 p.1) := by rw [hW6, setc_other (.inl (by omega))]; exact row_cell HQS.out rfl
        have s1 : W6.cell? ⟨wd.heap.size, 1, none⟩ = some (.int .i64 p.2) := by rw [hW6, setc_other (.inl (by omega))]; exact row_cell HQS.out rfl
        have u0 := row_cell HQ5.out (k := 0) rfl
        have uf := row_free HQ5.out 0
        have HW6 := Lib.hid hW6
        obtain ⟨fn, tmps, assign, body, hyy, hR⟩ := HYY.out W6 HYJ.out hjN
        rw [HQE.out] at hyy
        have l1 : (1 : Int) ≤ (xt.length : Int) + 1 := by omega
        have l2 : (0 : Int) < (xt.length : Int) + 1 := by omega
        obtain ⟨q1, q2⟩ := p
        simp only at s0 s1 hyy g0 g1 HW5
        rw [HW5.out] at u0 uf
        rw [HW6.out, HW5.out] at s0 s1 hyy
        clear hwd hbd hb5 hb15 hr5 hW5 hW6 hlt5 hHeld e0q e1q cad cbd cpd cqd e0p e1p cb
        gi_wp2
        rw [← HW5.out, ← HW6.out]
        refine ⟨rfl, hR.mono ?_⟩
        rintro e W3 (⟨rfl, hJ3⟩ | ⟨rfl, hJx3⟩)
        · have hm1 := HM.out j wr (by omega) (HJI.out j wr HJJ.out)
          have hm2 := HM.out (j + 1) W3 (by omega) (HJI.out _ _ hJ3)
          gi_wp2
          go_roundw
          case rel => exact ⟨j + 1, by omega, hJ3⟩
          case measure => omega
        · gi_wp2
          refine bodyPost_ret (results_none rfl _ _ _) rfl ?_
          exact ⟨⟨_, rfl⟩, .inr ⟨j + 1, by omega, hJx3⟩⟩

end Go.Proofs.YtnbkbnbmmkfckaaGreat
