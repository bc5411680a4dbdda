/- The laws of complaints: Honest. -/
import Derived.Test.YtggnipkfliompaaGreatDoorMCoP
import Derived.Test.YtggnipkfliompaaGreatDoorMRegH
namespace Go.Proofs.YtggnipkfliompaaGreatDoor
open Go.RowKit FP

/-- A box of a proof. -/
def zero2 : Array Value := #[.int .i64 0, .int .i64 0]
def put2 (W : World) (B : Nat) (a b : Value) : World := (W.setCell ⟨B, 0, none⟩ a).setCell ⟨B, 1, none⟩ b
theorem put2_row {W : World} {B : Nat} {x y : Value} (a b : Value) (t : TypeId) (q : W.heap[B]? = some (.cells #[x, y] t (0, 0))) : (put2 W B a b).heap[B]? = some (.cells #[a, b] t (0, 0)) := row_set (row_set q 0 a) 1 b
theorem put2_below {n0 B : Nat} {w0 W : World} (a b : Value) (hb : Below n0 w0 W) (hB : n0 ≤ B) : Below n0 w0 (put2 W B a b) := (hb.setCell hB _).setCell hB _
theorem put2_size (W : World) (B : Nat) (a b : Value) : (put2 W B a b).heap.size = W.heap.size := by simp [put2, World.setCell]
def Box2 (n0 : Nat) (w : World) (d s : Bool) (v a b : Value) : Prop := d = true → ∃ B, v = .pointer (some ⟨B, 0, none⟩) ∧ n0 ≤ B ∧ B < w.heap.size ∧ w.heap[B]? = some (.cells (if s = true then #[a, b] else zero2) 32 (0, 0))
theorem Box2.nil (n0 : Nat) (w : World) (v a b : Value) : Box2 n0 w false false v a b := fun h => by cases h
theorem Box2.below {n0 : Nat} {w w' : World} {d s : Bool} {v a b : Value} (h : Box2 n0 w d s v a b) (hb : Below w.heap.size w w') : Box2 n0 w' d s v a b := fun hd => by
  obtain ⟨B, e, h1, h2, h3⟩ := h hd
  exact ⟨B, e, h1, Nat.lt_of_lt_of_le h2 hb.size, (hb.block _ h2).trans h3⟩
theorem Box2.alloc {n0 : Nat} {w : World} {d s : Bool} {v a b : Value} (_h : Box2 n0 w d s v a b) (hs : s = false) (hn : n0 ≤ w.heap.size) : Box2 n0 (w.alloc (.cells zero2 32)) true s (.pointer (some ⟨w.heap.size, 0, none⟩)) a b := fun _ =>
  ⟨w.heap.size, rfl, hn, by simp, by rw [hs]; exact World.alloc_heap_new _ _⟩
theorem Box2.store {n0 : Nat} {w : World} {d s : Bool} {v a b : Value} {B : Nat} (h : Box2 n0 w d s v a b) (hv : v = .pointer (some ⟨B, 0, none⟩)) (hd : d = true) (hS : w.heap[B]? = some (.cells zero2 32 (0, 0))) : Box2 n0 (put2 w B a b) d true v a b := fun _ => by
  obtain ⟨B', e, h1, h2, -⟩ := h hd
  rw [hv] at e
  simp only [Value.pointer.injEq, Option.some.injEq, Addr.mk.injEq] at e
  obtain ⟨rfl, -, -⟩ := e
  exact ⟨B, hv, h1, by rw [put2_size]; exact h2, put2_row a b _ hS⟩
/-- What Settle answers about an honest dealing. -/
theorem Sml.settled {rows : List (List Int)} {owners numbers ss : List Int} {dealer : Int} {i : Nat} (h : Sml rows owners numbers dealer ss) (hi : i < rows.length) (key D E S : Int) :
    stE rows owners key (dF rows numbers dealer ss (-1) 0) ⟨dealer, (i : Int), D, E, S⟩ = 0 ∧ (stG rows owners key (dF rows numbers dealer ss (-1) 0) ⟨dealer, (i : Int), D, E, S⟩ = 2 ∨ (stG rows owners key (dF rows numbers dealer ss (-1) 0) ⟨dealer, (i : Int), D, E, S⟩ = 1 ∧ chkB key (powE 4 (usF ss i)) D E S = true ∧ D ≠ powE (powE 4 (usF ss i)) (nth ss i))) := by
  obtain ⟨x, rnd, rfl⟩ := h.cons
  exact h.hst hi key ⟨dealer, (i : Int), D, E, S⟩ rfl rfl
theorem Sml.settledOwn {rows : List (List Int)} {owners numbers ss : List Int} {dealer : Int} {i : Nat} (h : Sml rows owners numbers dealer ss) (hi : i < rows.length) (key : Int) :
    stE rows owners key (dF rows numbers dealer ss (-1) 0) ⟨dealer, (i : Int), powE (powE 4 (usF ss i)) (nth ss i), prE (nth ss i) (powE 4 (usF ss i)), prS (nth ss i) (powE 4 (usF ss i))⟩ = 0 ∧ stG rows owners key (dF rows numbers dealer ss (-1) 0) ⟨dealer, (i : Int), powE (powE 4 (usF ss i)) (nth ss i), prE (nth ss i) (powE 4 (usF ss i)), prS (nth ss i) (powE 4 (usF ss i))⟩ = 2 := by
  obtain ⟨x, rnd, rfl⟩ := h.cons
  exact h.hown hi key
structure FHo10 (w0 : World) (pv : Value) (sv : Value) (k : Nat) (gp : Nat) (bS : Nat) (oS : Nat) (bD : Nat) (pt : Int) (n : Int) (od : Int) (done : Nat → Bool) (v : Nat → Value) (w : World) : Prop where
  b : Below w0.heap.size w0 w
  f0 : done 0 = true → v 0 = .pointer (some ⟨bD, 2, none⟩)
  f1 : done 1 = true → v 1 = pv
  f2 : done 2 = true → v 2 = .int .i64 (k : Int)
  f3 : done 3 = true → v 3 = .pointer (some ⟨gp, k * 3, none⟩)
  f4 : done 4 = true → v 4 = .pointer (some ⟨gp, k * 3 + 1, none⟩)
  f5 : done 5 = true → v 5 = .int .i64 pt
  f6 : done 6 = true → v 6 = sv
  f7 : done 7 = true → v 7 = .int .i64 (k : Int)
  f8 : done 8 = true → v 8 = .pointer (some ⟨bS, oS + k, none⟩)
  f9 : done 9 = true → v 9 = .int .i64 n
  f10 : done 10 = true → v 10 = .tuple #[.int .i64 od, .int .i64 0]
  f11 : done 11 = true → v 11 = .tuple #[.int .i64 od, .int .i64 0]
  f12 : done 12 = true → v 12 = .int .i64 od
  f13 : done 13 = true → v 13 = .int .i64 0
  f14 : done 14 = true → v 14 = .int .i64 od
  f15 : done 15 = true → v 15 = .int .i64 0

structure FHo17 (w0 : World) (pv : Value) (sv : Value) (k : Nat) (gp : Nat) (bS : Nat) (oS : Nat) (bD : Nat) (pt : Int) (n : Int) (od : Int) (oe : Int) (os : Int) (done : Nat → Bool) (v : Nat → Value) (w : World) : Prop where
  b : Below w0.heap.size w0 w
  f0 : done 0 = true → v 0 = sv
  f1 : done 1 = true → v 1 = .int .i64 (k : Int)
  f2 : done 2 = true → v 2 = .pointer (some ⟨bS, oS + k, none⟩)
  f3 : done 3 = true → v 3 = .int .i64 n
  f4 : done 4 = true → v 4 = .pointer (some ⟨bD, 2, none⟩)
  f5 : done 5 = true → v 5 = pv
  f6 : done 6 = true → v 6 = .int .i64 (k : Int)
  f7 : done 7 = true → v 7 = .pointer (some ⟨gp, k * 3, none⟩)
  f8 : done 8 = true → v 8 = .pointer (some ⟨gp, k * 3 + 1, none⟩)
  f9 : done 9 = true → v 9 = .int .i64 pt
  f10 : done 10 = true → v 10 = .tuple #[.int .i64 od, .agg #[.int .i64 oe, .int .i64 os], .int .i64 0]
  f11 : done 11 = true → v 11 = .tuple #[.int .i64 od, .agg #[.int .i64 oe, .int .i64 os], .int .i64 0]
  f12 : done 12 = true → v 12 = .int .i64 od
  f13 : done 13 = true → v 13 = .agg #[.int .i64 oe, .int .i64 os]
  f14 : done 14 = true → v 14 = .int .i64 0
  f16 : done 16 = true → v 16 = .int .i64 od
  f18 : done 18 = true → v 18 = .int .i64 0
  bx : Box2 w0.heap.size w (done 15) (done 17) (v 15) (.int .i64 oe) (.int .i64 os)

structure FHoA (w0 : World) (g2 : Int) (done : Nat → Bool) (v : Nat → Value) (w : World) : Prop where
  b : Below w0.heap.size w0 w
  f0 : done 0 = true → v 0 = .int .i64 2
  f1 : done 1 = true → v 1 = .bool false
  f2 : done 2 = true → v 2 = .bool false
  f3 : done 3 = true → v 3 = undef
  f4 : done 4 = true → v 4 = undef
  f5 : done 5 = true → v 5 = undef
  f6 : done 6 = true → v 6 = undef
  f7 : done 7 = true → v 7 = undef
  f8 : done 8 = true → v 8 = undef
  f9 : done 9 = true → v 9 = undef
  f10 : done 10 = true → v 10 = undef
  f11 : done 11 = true → v 11 = undef
  f12 : done 12 = true → v 12 = undef
  f13 : done 13 = true → v 13 = undef
  f14 : done 14 = true → v 14 = undef
  f15 : done 15 = true → v 15 = undef
  f16 : done 16 = true → v 16 = undef
  f17 : done 17 = true → v 17 = undef
  f18 : done 18 = true → v 18 = undef
  f19 : done 19 = true → v 19 = undef
  f20 : done 20 = true → v 20 = undef
  f21 : done 21 = true → v 21 = undef
  f22 : done 22 = true → v 22 = .bool false
  f23 : done 23 = true → v 23 = .bool false
  f24 : done 24 = true → v 24 = .int .i64 2
  f25 : done 25 = true → v 25 = .bool false
  f26 : done 26 = true → v 26 = .bool false
  f27 : done 27 = true → v 27 = .bool false
  f28 : done 28 = true → v 28 = .int .i64 2
  f29 : done 29 = true → v 29 = .bool false
  f30 : done 30 = true → v 30 = .bool false

structure FHoB (w0 : World) (pv : Value) (k : Nat) (gp : Nat) (bD : Nat) (bC : Nat) (pt : Int) (od : Int) (key : Int) (D : Int) (E : Int) (S : Int) (done : Nat → Bool) (v : Nat → Value) (w : World) : Prop where
  b : Below w0.heap.size w0 w
  f0 : done 0 = true → v 0 = .int .i64 1
  f1 : done 1 = true → v 1 = .bool true
  f2 : done 2 = true → v 2 = .bool true
  f3 : done 3 = true → v 3 = .pointer (some ⟨bC, 2, none⟩)
  f4 : done 4 = true → v 4 = .int .i64 D
  f5 : done 5 = true → v 5 = .int .i64 od
  f6 : done 6 = true → v 6 = .bool false
  f7 : done 7 = true → v 7 = .bool false
  f8 : done 8 = true → v 8 = .int .i64 key
  f9 : done 9 = true → v 9 = .pointer (some ⟨bD, 2, none⟩)
  f10 : done 10 = true → v 10 = pv
  f11 : done 11 = true → v 11 = .int .i64 (k : Int)
  f12 : done 12 = true → v 12 = .pointer (some ⟨gp, k * 3, none⟩)
  f13 : done 13 = true → v 13 = .pointer (some ⟨gp, k * 3 + 1, none⟩)
  f14 : done 14 = true → v 14 = .int .i64 pt
  f15 : done 15 = true → v 15 = .pointer (some ⟨bC, 2, none⟩)
  f16 : done 16 = true → v 16 = .int .i64 D
  f17 : done 17 = true → v 17 = .pointer (some ⟨bC, 3, none⟩)
  f18 : done 18 = true → v 18 = .agg #[.int .i64 E, .int .i64 S]
  f19 : done 19 = true → v 19 = .bool true
  f20 : done 20 = true → v 20 = .bool false
  f21 : done 21 = true → v 21 = .bool false
  f22 : done 22 = true → v 22 = .bool false
  f23 : done 23 = true → v 23 = .bool false
  f24 : done 24 = true → v 24 = .int .i64 1
  f25 : done 25 = true → v 25 = .bool false
  f26 : done 26 = true → v 26 = .bool false
  f27 : done 27 = true → v 27 = .bool false
  f28 : done 28 = true → v 28 = .int .i64 1
  f29 : done 29 = true → v 29 = .bool false
  f30 : done 30 = true → v 30 = .bool false

set_option maxRecDepth 100000 in
set_option maxHeartbeats 16000000 in
theorem honest36_any (rv ov mv sv : Value) (rows : List (List Int)) (owners numbers : List Int) (dealer : Int) (ss : List Int) (row : Nat) (cd cr D E S : Int) (w : World) (hG : Glob w) (hR : Rows2 w rv rows) (hO : Ints w ov owners) (hM : Ints w mv numbers) (hS : Ints w sv ss) (hrow : row < 256) (hc : CmpR ⟨cd, cr, D, E, S⟩) :
    Calls Tryz.prog 6 #[.agg #[rv, ov], mv, .int .i64 dealer, sv, .int .u8 (row : Int), .agg #[.int .i64 cd, .int .i64 cr, .int .i64 D, .int .i64 E, .int .i64 S]] w fun r w' => r = .returned (.bool true) ∧ Below w.heap.size w w' := by
  have HG := Lib.hid (fun W (h : Below w.heap.size w W) => hG.below h)
  have HR := Lib.hid (fun W (h : Below w.heap.size w W) => hR.below h)
  have HO := Lib.hid (fun W (h : Below w.heap.size w W) => hO.below h)
  have HM := Lib.hid (fun W (h : Below w.heap.size w W) => hM.below h)
  have HS := Lib.hid (fun W (h : Below w.heap.size w W) => hS.below h)
  have HCC := Lib.hid hc
  obtain ⟨W1, hW1, hb1, hr1, hz⟩ := box_prog w rv ov 25
  have hs1 : W1.heap.size = w.heap.size + 1 := by rw [hW1]; simp
  obtain ⟨W2, hW2⟩ : ∃ W2, W2 = W1.alloc (.cells #[.int .i64 cd, .int .i64 cr, .int .i64 D, .int .i64 E, .int .i64 S] 34) := ⟨_, rfl⟩
  have hb2 : Below W1.heap.size W1 W2 := by rw [hW2]; exact below_new _ _ _
  have hr2 : W2.heap[w.heap.size + 1]? = some (.cells #[.int .i64 cd, .int .i64 cr, .int .i64 D, .int .i64 E, .int .i64 S] 34 (0, 0)) := by rw [hW2, ← hs1]; exact World.alloc_heap_new _ _
  obtain ⟨a1, k1, rfl, -, hl1, -⟩ := id hR
  obtain ⟨a2, k2, rfl, -, hl2, -⟩ := id hO
  obtain ⟨a3, k3, rfl, -, hl3, -⟩ := id hM
  obtain ⟨a4, k4, rfl, -, hl4, -⟩ := id hS
  have Q1 := Lib.hid ((hb2.block _ (row_lt hr1)).trans hr1)
  have QC := Lib.hid hr2
  have HB := Lib.hid (hb1.trans (hb2.mono hb1.size))
  have HZ2 := Lib.hid (show W2.heap.size = w.heap.size + 2 by rw [hW2]; simp [hs1])
  rw [hW1] at hW2
  have HW2 := Lib.hid hW2
  have c0 := row_cell Q1.out (k := 0) rfl
  have c1 := row_cell Q1.out (k := 1) rfl
  have wrow : IntKind.i64.wrap (row : Int) = (row : Int) := IntWalk.i64_in _ (by omega)
  clear hG hR hO hM hS hr1 hr2 hW1 hW2 hb1 hb2 hz hs1 hc
  go_enter Tryz.func6, Tryz.ntmps6
  go_wp2_with (rw [← HW2.out])
  with_reducible refine (sane36_any _ (HG.out _ HB.out)).mono ?_
  rintro e w2 ⟨rfl, hb2⟩
  have HZ3 := Lib.hid (show w.heap.size + 2 ≤ w2.heap.size from by have := HZ2.out; have := hb2.size; omega)
  replace c0 := below_cell hb2 c0
  replace c1 := below_cell hb2 c1
  replace Q1 := Lib.hid ((hb2.block _ (row_lt Q1.out)).trans Q1.out)
  replace QC := Lib.hid ((hb2.block _ (row_lt QC.out)).trans QC.out)
  replace HB := Lib.hid (HB.out.trans (hb2.mono HB.out.size))
  clear hb2
  clear HW2
  go_wp2_with fail
  with_reducible refine (small36_any _ _ _ _ rows owners numbers dealer ss row _ (HR.out _ HB.out) (HO.out _ HB.out) (HM.out _ HB.out) (HS.out _ HB.out) hrow).mono ?_
  rintro e w3 ⟨b, rfl, hsm, hb3⟩
  have HZ4 := Lib.hid (show w.heap.size + 2 ≤ w3.heap.size from Nat.le_trans HZ3.out hb3.size)
  replace c0 := below_cell hb3 c0
  replace c1 := below_cell hb3 c1
  replace Q1 := Lib.hid ((hb3.block _ (row_lt Q1.out)).trans Q1.out)
  replace QC := Lib.hid ((hb3.block _ (row_lt QC.out)).trans QC.out)
  replace HB := Lib.hid (HB.out.trans (hb3.mono HB.out.size))
  clear hb3
  cases b with
  | false =>
    clear hsm
    go_wp2_with fail
    go_ret
    exact ⟨rfl, HB.out⟩
  | true =>
  obtain ⟨hsm, hrl⟩ := hsm rfl
  have HSM := Lib.hid hsm
  have HRL := Lib.hid hrl
  clear hsm hrl hrow
  go_wp2_with fail
  with_reducible refine (sealedN_any _ _ _ _ rows owners numbers dealer ss (-1) 0 _ (HG.out _ HB.out) (HR.out _ HB.out) (HO.out _ HB.out) (HM.out _ HB.out) (HS.out _ HB.out) HSM.out (by omega)).mono ?_
  rintro e w4 ⟨v4, rfl, ⟨gc, oc, kc, gp, kp, rfl, hc4, hp4, hgc, hgp⟩, hb4⟩
  have hs34 := hb4.size
  replace c0 := below_cell hb4 c0
  replace c1 := below_cell hb4 c1
  replace Q1 := Lib.hid ((hb4.block _ (row_lt Q1.out)).trans Q1.out)
  replace QC := Lib.hid ((hb4.block _ (row_lt QC.out)).trans QC.out)
  replace HB := Lib.hid (HB.out.trans (hb4.mono HB.out.size))
  clear hb4
  have HGE : Hid (gc ≠ w.heap.size + 1 ∧ gp ≠ w.heap.size + 1) := Lib.hid ⟨by have := HZ4.out; omega, by have := HZ4.out; omega⟩
  have HS34 := Lib.hid hs34
  have HC := Lib.hid hc4
  have HP := Lib.hid hp4
  clear hc4 hp4 hgc hgp hs34
  obtain ⟨W5, hW5⟩ : ∃ W, W = w4.alloc (.cells #[.int .i64 dealer, .slice (some ⟨gc, oc, none⟩) numbers.length kc, .slice (some ⟨gp, 0, none⟩) rows.length kp] 28) := ⟨_, rfl⟩
  have hb5 : Below w4.heap.size w4 W5 := by rw [hW5]; exact below_new _ _ _
  have hq5 : W5.heap[w4.heap.size]? = some (.cells #[.int .i64 dealer, .slice (some ⟨gc, oc, none⟩) numbers.length kc, .slice (some ⟨gp, 0, none⟩) rows.length kp] 28 (0, 0)) := by rw [hW5]; exact World.alloc_heap_new _ _
  have Q5 := Lib.hid hq5
  have HW5 := Lib.hid hW5
  clear hW5 hq5
  replace c0 := below_cell hb5 c0
  replace c1 := below_cell hb5 c1
  replace HC := Lib.hid (HC.out.below hb5)
  replace HP := Lib.hid (HP.out.below hb5)
  replace Q1 := Lib.hid ((hb5.block _ (row_lt Q1.out)).trans Q1.out)
  replace QC := Lib.hid ((hb5.block _ (row_lt QC.out)).trans QC.out)
  replace HB := Lib.hid (HB.out.trans (hb5.mono HB.out.size))
  clear hb5
  obtain ⟨bD, hbD⟩ : ∃ b, b = w4.heap.size := ⟨_, rfl⟩
  rw [← hbD] at Q5
  have HBD := Lib.hid hbD
  have HDB : Hid (w.heap.size + 2 ≤ bD) := Lib.hid (by rw [hbD]; exact Nat.le_trans HZ4.out HS34.out)
  clear hbD
  have e0 := row_cell Q5.out (k := 0) rfl
  have e1 := row_cell Q5.out (k := 1) rfl
  have e2 := row_cell Q5.out (k := 2) rfl
  have hr6 : rows.length ≤ 6 := HSM.out.r6
  have HSN := Lib.hid HSM.out.sl
  have hks : row < ss.length := by rw [HSN.out]; exact HRL.out
  obtain ⟨bS, oS, e8, qS0⟩ := ints_at (HS.out w (Below.refl _ _)) hks
  subst e8
  have hkn : nth ss row = ss[row] := nth_at hks
  have hn := HSM.out.sn _ (List.getElem_mem hks)
  rw [← hkn] at qS0 hn
  have HNR := Lib.hid hn
  have hpl : row < (dF rows numbers dealer ss (-1) 0).ps.length := by rw [dF_len]; exact HRL.out
  obtain ⟨gp2, op, e9, -, qp1, -, -⟩ := HP.out.at hpl
  simp only [Option.some.injEq, Addr.mk.injEq, and_true] at e9
  obtain ⟨rfl, rfl⟩ := e9
  rw [dF_at] at qp1
  replace qp1 : W5.cell? ⟨gp, row * 3 + 1, none⟩ = some (.int .i64 (powE 4 (usF ss row))) := by rw [← qp1, Nat.zero_add]
  obtain ⟨od, hod⟩ : ∃ z, z = powE (powE 4 (usF ss row)) (nth ss row) := ⟨_, rfl⟩
  obtain ⟨oe, hoe⟩ : ∃ z, z = prE (nth ss row) (powE 4 (usF ss row)) := ⟨_, rfl⟩
  obtain ⟨os, hos⟩ : ∃ z, z = prS (nth ss row) (powE 4 (usF ss row)) := ⟨_, rfl⟩
  have HST := Lib.hid (fun key => HSM.out.settled HRL.out key D E S)
  have HSO := Lib.hid (fun key => HSM.out.settledOwn HRL.out key)
  rw [← hod] at HST HSO
  rw [← hoe, ← hos] at HSO
  have HOC : Hid (CmpR ⟨dealer, (row : Int), od, oe, os⟩) := Lib.hid (by rw [hod, hoe, hos]; exact own_cmpR dealer ss row HSM.out.dl (by have := HRL.out; omega))
  have HC2 : Hid (CmpR ⟨dealer, (row : Int), D, E, S⟩) := Lib.hid ⟨HOC.out.dealer, HOC.out.row, HCC.out.D, HCC.out.E, HCC.out.S⟩
  have HEL : Hid (El (powE 4 (usF ss row))) := Lib.hid (el_powE el_four _)
  obtain ⟨pt, hpt⟩ : ∃ z, z = powE 4 (usF ss row) := ⟨_, rfl⟩
  rw [← hpt] at qp1 HST HEL hod hoe hos
  obtain ⟨n, hnn⟩ : ∃ n, n = nth ss row := ⟨_, rfl⟩
  rw [← hnn] at qS0 HNR hod hoe hos
  have HN64 : Hid (R64 n) := Lib.hid (R64.mk (by have := HNR.out; omega) (by have := HNR.out; omega))
  have HPW := Lib.hid (fun W => pow_yes 4 n W el_four HN64.out)
  have HPO := Lib.hid (fun W => pow_yes pt n W HEL.out HN64.out)
  rw [← hod] at HPO
  have HPV := Lib.hid (fun W (h : Below w.heap.size w W) => prove_yes n pt W (by have := HNR.out; omega) (by have := HNR.out; omega) HEL.out (HG.out W h))
  rw [← hod, ← hoe, ← hos] at HPV
  obtain ⟨kk, hkk⟩ : ∃ z, z = powE 4 n := ⟨_, rfl⟩
  have HKR : Hid (R64 kk ∧ El kk) := Lib.hid (by rw [hkk]; exact ⟨(el_powE el_four _).r64, el_powE el_four _⟩)
  rw [← hkk] at HPW
  have HQS := Lib.hid (fun W (h : Below w.heap.size w W) => below_cell h qS0)
  have qS := HQS.out _ HB.out
  have j0 : 0 ≤ (row : Int) := by omega
  have j1 : (row : Int) < (ss.length : Int) := by omega
  have j2 : (row : Int) < (rows.length : Int) := by have := HRL.out; omega
  clear hn hkn hod hoe hos hpt hnn hkk hpl hks qS0
  go_wp2_with (rw [← HW5.out])
  rw [← HBD.out]
  clear HW5 HBD
  with_reducible refine (HPW.out _).mono ?_
  rintro e w6 ⟨rfl, hb6⟩
  replace c0 := below_cell hb6 c0
  replace c1 := below_cell hb6 c1
  replace e0 := below_cell hb6 e0
  replace e1 := below_cell hb6 e1
  replace e2 := below_cell hb6 e2
  replace qp1 := below_cell hb6 qp1
  replace qS := below_cell hb6 qS
  replace HC := Lib.hid (HC.out.below hb6)
  replace HP := Lib.hid (HP.out.below hb6)
  replace Q1 := Lib.hid ((hb6.block _ (row_lt Q1.out)).trans Q1.out)
  replace QC := Lib.hid ((hb6.block _ (row_lt QC.out)).trans QC.out)
  replace Q5 := Lib.hid ((hb6.block _ (row_lt Q5.out)).trans Q5.out)
  replace HB := Lib.hid (HB.out.trans (hb6.mono HB.out.size))
  clear hb6
  clear HPW
  go_wp2_with fail
  refine wp_region_flowsG (by kernel_rfl) (by kernel_rfl) (by kernel_rfl) (by kernel_rfl) (fun done v W => FHo10 w6 (.slice (some ⟨gp, 0, none⟩) rows.length kp) (.slice (some ⟨bS, oS, none⟩) ss.length k4) (row) (gp) (bS) (oS) (bD) (pt) (n) (od) done v W) (fun v => ?_) ?_ (fun v W h => ?_)
  · exact ⟨(Below.refl _ _).drew, (fun h => by cases h), (fun h => by cases h), (fun h => by cases h), (fun h => by cases h), (fun h => by cases h), (fun h => by cases h), (fun h => by cases h), (fun h => by cases h), (fun h => by cases h), (fun h => by cases h), (fun h => by cases h), (fun h => by cases h), (fun h => by cases h), (fun h => by cases h), (fun h => by cases h), (fun h => by cases h)⟩
  · refine ⟨?_, ?_, ?_, ?_, ?_, ?_, ?_, ?_, ?_, ?_, ?_, ?_, ?_, ?_, ?_, ?_, trivial⟩
    · intro done v W A h hd hp hu hA hB hdf
      have e0 : A.tmps[13]?.getD undef = .pointer (some ⟨bD, 0, none⟩) := hB 13 rfl
      clear hA hB hp hu hdf
      go_simp
      exact ⟨_, rfl, { h with f0 := (fun _ => rfl) }⟩
    · intro done v W A h hd hp hu hA hB hdf
      have hd0 : done 0 = true := hp 0 rfl
      have e0 := (hA 0 56 rfl hd0).trans (h.f0 hd0)
      have y0_ := below_cell h.b e2
      clear hA hB hp hu hdf
      go_simp
      exact ⟨_, rfl, { h with f1 := (fun _ => rfl) }⟩
    · intro done v W A h hd hp hu hA hB hdf
      have e0 : A.tmps[15]?.getD undef = .int .i64 (row : Int) := hB 15 rfl
      clear hA hB hp hu hdf
      go_simp
      exact ⟨_, rfl, { h with f2 := (fun _ => rfl) }⟩
    · intro done v W A h hd hp hu hA hB hdf
      have hd1 : done 1 = true := hp 1 rfl
      have hd2 : done 2 = true := hp 2 rfl
      have e0 := (hA 1 57 rfl hd1).trans (h.f1 hd1)
      have e1 := (hA 2 58 rfl hd2).trans (h.f2 hd2)
      clear hA hB hp hu hdf
      go_simp
      exact ⟨_, rfl, { h with f3 := (fun _ => rfl) }⟩
    · intro done v W A h hd hp hu hA hB hdf
      have hd3 : done 3 = true := hp 3 rfl
      have e0 := (hA 3 59 rfl hd3).trans (h.f3 hd3)
      clear hA hB hp hu hdf
      go_simp
      exact ⟨_, rfl, { h with f4 := (fun _ => rfl) }⟩
    · intro done v W A h hd hp hu hA hB hdf
      have hd4 : done 4 = true := hp 4 rfl
      have e0 := (hA 4 60 rfl hd4).trans (h.f4 hd4)
      have y0_ := below_cell h.b qp1
      clear hA hB hp hu hdf
      go_simp
      exact ⟨_, rfl, { h with f5 := (fun _ => rfl) }⟩
    · intro done v W A h hd hp hu hA hB hdf
      have e0 : A.tmps[3]?.getD undef = .slice (some ⟨bS, oS, none⟩) ss.length k4 := hB 3 rfl
      clear hA hB hp hu hdf
      go_simp
      exact ⟨_, rfl, { h with f6 := (fun _ => rfl) }⟩
    · intro done v W A h hd hp hu hA hB hdf
      have e0 : A.tmps[15]?.getD undef = .int .i64 (row : Int) := hB 15 rfl
      clear hA hB hp hu hdf
      go_simp
      exact ⟨_, rfl, { h with f7 := (fun _ => rfl) }⟩
    · intro done v W A h hd hp hu hA hB hdf
      have hd6 : done 6 = true := hp 6 rfl
      have hd7 : done 7 = true := hp 7 rfl
      have e0 := (hA 6 62 rfl hd6).trans (h.f6 hd6)
      have e1 := (hA 7 63 rfl hd7).trans (h.f7 hd7)
      clear hA hB hp hu hdf
      go_simp
      exact ⟨_, rfl, { h with f8 := (fun _ => rfl) }⟩
    · intro done v W A h hd hp hu hA hB hdf
      have hd8 : done 8 = true := hp 8 rfl
      have e0 := (hA 8 64 rfl hd8).trans (h.f8 hd8)
      have y0_ := below_cell h.b qS
      clear hA hB hp hu hdf
      go_simp
      exact ⟨_, rfl, { h with f9 := (fun _ => rfl) }⟩
    · intro done v W A h hd hp hu hA hB hdf
      have hd5 : done 5 = true := hp 5 rfl
      have hd9 : done 9 = true := hp 9 rfl
      have e0 := (hA 5 61 rfl hd5).trans (h.f5 hd5)
      have e1 := (hA 9 65 rfl hd9).trans (h.f9 hd9)
      clear hA hB hp hu hdf
      go_simp
      with_reducible refine (HPO.out W).mono ?_
      rintro e wq ⟨rfl, hb⟩
      exact ⟨_, rfl, { h with b := h.b.trans (hb.mono h.b.size), f10 := (fun _ => rfl) }⟩
    · intro done v W A h hd hp hu hA hB hdf
      have hd10 : done 10 = true := hp 10 rfl
      have e0 := (hA 10 66 rfl hd10).trans (h.f10 hd10)
      clear hA hB hp hu hdf
      go_simp
      exact ⟨_, rfl, { h with f11 := (fun _ => rfl) }⟩
    · intro done v W A h hd hp hu hA hB hdf
      have hd11 : done 11 = true := hp 11 rfl
      have e0 := (hA 11 55 rfl hd11).trans (h.f11 hd11)
      clear hA hB hp hu hdf
      go_simp
      exact ⟨_, rfl, { h with f12 := (fun _ => rfl) }⟩
    · intro done v W A h hd hp hu hA hB hdf
      have hd11 : done 11 = true := hp 11 rfl
      have e0 := (hA 11 55 rfl hd11).trans (h.f11 hd11)
      clear hA hB hp hu hdf
      go_simp
      exact ⟨_, rfl, { h with f13 := (fun _ => rfl) }⟩
    · intro done v W A h hd hp hu hA hB hdf
      have hd12 : done 12 = true := hp 12 rfl
      have e0 := (hA 12 67 rfl hd12).trans (h.f12 hd12)
      clear hA hB hp hu hdf
      go_simp
      exact ⟨_, rfl, { h with f14 := (fun _ => rfl) }⟩
    · intro done v W A h hd hp hu hA hB hdf
      have hd13 : done 13 = true := hp 13 rfl
      have e0 := (hA 13 68 rfl hd13).trans (h.f13 hd13)
      clear hA hB hp hu hdf
      go_simp
      exact ⟨_, rfl, { h with f15 := (fun _ => rfl) }⟩
  simp only [putL, Act.put, Nat.reduceAdd, List.setIfInBounds_toArray, List.set_cons_zero, List.set_cons_succ]
  rw [h.f14 rfl]
  rw [h.f15 rfl]
  have hbr := h.b
  replace c0 := below_cell hbr c0
  replace c1 := below_cell hbr c1
  replace e0 := below_cell hbr e0
  replace e1 := below_cell hbr e1
  replace e2 := below_cell hbr e2
  replace qp1 := below_cell hbr qp1
  replace qS := below_cell hbr qS
  replace HC := Lib.hid (HC.out.below hbr)
  replace HP := Lib.hid (HP.out.below hbr)
  replace Q1 := Lib.hid ((hbr.block _ (row_lt Q1.out)).trans Q1.out)
  replace QC := Lib.hid ((hbr.block _ (row_lt QC.out)).trans QC.out)
  replace Q5 := Lib.hid ((hbr.block _ (row_lt Q5.out)).trans Q5.out)
  replace HB := Lib.hid (HB.out.trans (hbr.mono HB.out.size))
  clear h hbr
  have cz0 := row_cell QC.out (k := 0) (v := .int .i64 cd) rfl
  have cf0 := row_free QC.out 0
  have cz1 := row_cell QC.out (k := 1) (v := .int .i64 cr) rfl
  have cf1 := row_free QC.out 1
  have cz2 := row_cell QC.out (k := 2) (v := .int .i64 D) rfl
  have cf2 := row_free QC.out 2
  have cz3 := row_cell QC.out (k := 3) (v := .int .i64 E) rfl
  have cf3 := row_free QC.out 3
  have cz4 := row_cell QC.out (k := 4) (v := .int .i64 S) rfl
  have cf4 := row_free QC.out 4
  obtain ⟨W7, hW7⟩ : ∃ W7, W7 = (W.setCell ⟨w.heap.size + 1, 0, none⟩ (.int .i64 dealer)).setCell ⟨w.heap.size + 1, 1, none⟩ (.int .i64 (row : Int)) := ⟨_, rfl⟩
  have HB7 : Hid (Below w.heap.size w W7) := Lib.hid (by rw [hW7]; exact (HB.out.setCell (Nat.le_succ _) _).setCell (Nat.le_succ _) _)
  have QC7 : Hid (W7.heap[w.heap.size + 1]? = some (.cells #[.int .i64 dealer, .int .i64 (row : Int), .int .i64 D, .int .i64 E, .int .i64 S] 34 (0, 0))) := Lib.hid (by rw [hW7]; exact row_set (row_set QC.out 0 _) 1 _)
  have HC7 : Hid (Ints W7 (.slice (some ⟨gc, oc, none⟩) numbers.length kc) (dealC numbers)) := Lib.hid (by rw [hW7]; exact ints_set (ints_set HC.out HGE.out.1 _) HGE.out.1 _)
  have HP7 : Hid (Parcels W7 (.slice (some ⟨gp, 0, none⟩) rows.length kp) (dF rows numbers dealer ss (-1) 0).ps) := Lib.hid (by
    have hne : ∀ b o2, (some (⟨gp, 0, none⟩ : Addr)) = some ⟨b, o2, none⟩ → b ≠ w.heap.size + 1 := fun b o2 e => by
      simp only [Option.some.injEq, Addr.mk.injEq] at e
      rw [← e.1]; exact HGE.out.2
    rw [hW7]; exact (HP.out.set hne _).set hne _)
  have Q17 : Hid (W7.heap[w.heap.size]? = some (.cells #[.slice a1 rows.length k1, .slice a2 owners.length k2] 25 (0, 0))) := Lib.hid (by
    rw [hW7, Below.heap_setCell _ _ _ _ (by show w.heap.size ≠ w.heap.size + 1; omega), Below.heap_setCell _ _ _ _ (by show w.heap.size ≠ w.heap.size + 1; omega)]; exact Q1.out)
  have Q57 : Hid (W7.heap[bD]? = some (.cells #[.int .i64 dealer, .slice (some ⟨gc, oc, none⟩) numbers.length kc, .slice (some ⟨gp, 0, none⟩) rows.length kp] 28 (0, 0))) := Lib.hid (by
    rw [hW7, Below.heap_setCell _ _ _ _ (by show bD ≠ w.heap.size + 1; have := HDB.out; omega), Below.heap_setCell _ _ _ _ (by show bD ≠ w.heap.size + 1; have := HDB.out; omega)]; exact Q5.out)
  have qp7 : W7.cell? ⟨gp, row * 3 + 1, none⟩ = some (.int .i64 pt) := by rw [hW7]; exact (cell_other (.inl HGE.out.2.symm)).trans ((cell_other (.inl HGE.out.2.symm)).trans qp1)
  have qS7 := HQS.out _ HB7.out
  have u0 := row_cell Q17.out (k := 0) rfl
  have u1 := row_cell Q17.out (k := 1) rfl
  have s0 := row_cell Q57.out (k := 0) rfl
  have s1 := row_cell Q57.out (k := 1) rfl
  have s2 := row_cell Q57.out (k := 2) rfl
  have cy0 := row_cell QC7.out (k := 0) (v := .int .i64 dealer) rfl
  have cy1 := row_cell QC7.out (k := 1) (v := .int .i64 (row : Int)) rfl
  have cy2 := row_cell QC7.out (k := 2) (v := .int .i64 D) rfl
  have cy3 := row_cell QC7.out (k := 3) (v := .int .i64 E) rfl
  have cy4 := row_cell QC7.out (k := 4) (v := .int .i64 S) rfl
  have HW7 := Lib.hid hW7
  clear hW7
  go_wp2_with (first | rw [← HW7.out] | fail)
  clear HW7 c0 c1 e0 e1 e2 cz0 cz1 cz2 cz3 cz4 cf0 cf1 cf2 cf3 cf4 qp1 qS HB HC HP Q1 Q5 QC HPO
  with_reducible refine (settleF_any _ _ _ _ rows owners numbers dealer ss (-1) 0 kk dealer (row : Int) D E S _ (HG.out _ HB7.out) (HR.out _ HB7.out) (HO.out _ HB7.out) HC7.out HP7.out HKR.out.1 HC2.out).mono ?_
  rintro e w8 ⟨rfl, hb8⟩
  replace u0 := below_cell hb8 u0
  replace u1 := below_cell hb8 u1
  replace s0 := below_cell hb8 s0
  replace s1 := below_cell hb8 s1
  replace s2 := below_cell hb8 s2
  replace cy0 := below_cell hb8 cy0
  replace cy1 := below_cell hb8 cy1
  replace cy2 := below_cell hb8 cy2
  replace cy3 := below_cell hb8 cy3
  replace cy4 := below_cell hb8 cy4
  replace qp7 := below_cell hb8 qp7
  replace qS7 := below_cell hb8 qS7
  replace HC7 := Lib.hid (HC7.out.below hb8)
  replace HP7 := Lib.hid (HP7.out.below hb8)
  replace Q17 := Lib.hid ((hb8.block _ (row_lt Q17.out)).trans Q17.out)
  replace Q57 := Lib.hid ((hb8.block _ (row_lt Q57.out)).trans Q57.out)
  replace QC7 := Lib.hid ((hb8.block _ (row_lt QC7.out)).trans QC7.out)
  replace HB7 := Lib.hid (HB7.out.trans (hb8.mono HB7.out.size))
  clear hb8
  obtain ⟨hse, hsg⟩ := HST.out kk
  rw [hse]
  rcases hsg with hsg | ⟨hsg, hck, hne⟩
  · rw [hsg]
    clear hse hsg
    go_wp2_with fail
    refine wp_region_flowsH (by kernel_rfl) (by kernel_rfl) (by kernel_rfl) (by kernel_rfl) (fun done v W => FHoA w8 (0) done v W) (fun v => ?_) ?_ (fun v W h => ?_)
    · exact ⟨(Below.refl _ _).drew, (fun h => by cases h), (fun h => by cases h), (fun h => by cases h), (fun h => by cases h), (fun h => by cases h), (fun h => by cases h), (fun h => by cases h), (fun h => by cases h), (fun h => by cases h), (fun h => by cases h), (fun h => by cases h), (fun h => by cases h), (fun h => by cases h), (fun h => by cases h), (fun h => by cases h), (fun h => by cases h), (fun h => by cases h), (fun h => by cases h), (fun h => by cases h), (fun h => by cases h), (fun h => by cases h), (fun h => by cases h), (fun h => by cases h), (fun h => by cases h), (fun h => by cases h), (fun h => by cases h), (fun h => by cases h), (fun h => by cases h), (fun h => by cases h), (fun h => by cases h), (fun h => by cases h)⟩
    · refine ⟨?_, ?_, ?_, ?_, ?_, ?_, ?_, ?_, ?_, ?_, ?_, ?_, ?_, ?_, ?_, ?_, ?_, ?_, ?_, ?_, ?_, ?_, ?_, ?_, ?_, ?_, ?_, ?_, ?_, ?_, ?_, trivial⟩
      · intro done v W A h hd hp hu hA hB hdf
        have e0 : A.tmps[20]?.getD undef = .int .i64 2 := hB 20 rfl
        clear hA hB hp hu hdf
        go_simp
        exact ⟨_, rfl, { h with f0 := (fun _ => rfl) }⟩
      · intro done v W A h hd hp hu hA hB hdf
        have hd0 : done 0 = true := hp 0 rfl
        have e0 := (hA 0 91 rfl hd0).trans (h.f0 hd0)
        clear hA hB hp hu hdf
        go_simp
        exact ⟨_, rfl, { h with f1 := (fun _ => rfl) }⟩
      · intro done v W A h hd hp hu hA hB hdf
        have hd1 : done 1 = true := hp 1 rfl
        have e0 := (hA 1 92 rfl hd1).trans (h.f1 hd1)
        clear hA hB hp hu hdf
        go_simp
        exact ⟨_, rfl, { h with f2 := (fun _ => rfl) }⟩
      · intro done v W A h hd hp hu hA hB hdf
        have hd2 : done 2 = true := hp 2 rfl
        refine Or.inl ⟨_, h.f2 hd2, (fun hx => by cases hx), (fun hne => { h with f3 := (fun _ => rfl) })⟩
      · intro done v W A h hd hp hu hA hB hdf
        have hd2 : done 2 = true := hp 2 rfl
        refine Or.inl ⟨_, h.f2 hd2, (fun hx => by cases hx), (fun hne => { h with f4 := (fun _ => rfl) })⟩
      · intro done v W A h hd hp hu hA hB hdf
        have hd2 : done 2 = true := hp 2 rfl
        refine Or.inl ⟨_, h.f2 hd2, (fun hx => by cases hx), (fun hne => { h with f5 := (fun _ => rfl) })⟩
      · intro done v W A h hd hp hu hA hB hdf
        have hd2 : done 2 = true := hp 2 rfl
        refine Or.inl ⟨_, h.f2 hd2, (fun hx => by cases hx), (fun hne => { h with f6 := (fun _ => rfl) })⟩
      · intro done v W A h hd hp hu hA hB hdf
        have hd2 : done 2 = true := hp 2 rfl
        refine Or.inl ⟨_, h.f2 hd2, (fun hx => by cases hx), (fun hne => { h with f7 := (fun _ => rfl) })⟩
      · intro done v W A h hd hp hu hA hB hdf
        have hd7 : done 7 = true := hp 7 rfl
        refine Or.inr ⟨h.f7 hd7, { h with f8 := (fun _ => rfl) }⟩
      · intro done v W A h hd hp hu hA hB hdf
        have hd7 : done 7 = true := hp 7 rfl
        refine Or.inr ⟨h.f7 hd7, { h with f9 := (fun _ => rfl) }⟩
      · intro done v W A h hd hp hu hA hB hdf
        have hd7 : done 7 = true := hp 7 rfl
        refine Or.inr ⟨h.f7 hd7, { h with f10 := (fun _ => rfl) }⟩
      · intro done v W A h hd hp hu hA hB hdf
        have hd7 : done 7 = true := hp 7 rfl
        refine Or.inr ⟨h.f7 hd7, { h with f11 := (fun _ => rfl) }⟩
      · intro done v W A h hd hp hu hA hB hdf
        have hd7 : done 7 = true := hp 7 rfl
        refine Or.inr ⟨h.f7 hd7, { h with f12 := (fun _ => rfl) }⟩
      · intro done v W A h hd hp hu hA hB hdf
        have hd7 : done 7 = true := hp 7 rfl
        refine Or.inr ⟨h.f7 hd7, { h with f13 := (fun _ => rfl) }⟩
      · intro done v W A h hd hp hu hA hB hdf
        have hd7 : done 7 = true := hp 7 rfl
        refine Or.inr ⟨h.f7 hd7, { h with f14 := (fun _ => rfl) }⟩
      · intro done v W A h hd hp hu hA hB hdf
        have hd7 : done 7 = true := hp 7 rfl
        refine Or.inr ⟨h.f7 hd7, { h with f15 := (fun _ => rfl) }⟩
      · intro done v W A h hd hp hu hA hB hdf
        have hd7 : done 7 = true := hp 7 rfl
        refine Or.inr ⟨h.f7 hd7, { h with f16 := (fun _ => rfl) }⟩
      · intro done v W A h hd hp hu hA hB hdf
        have hd7 : done 7 = true := hp 7 rfl
        refine Or.inr ⟨h.f7 hd7, { h with f17 := (fun _ => rfl) }⟩
      · intro done v W A h hd hp hu hA hB hdf
        have hd7 : done 7 = true := hp 7 rfl
        refine Or.inr ⟨h.f7 hd7, { h with f18 := (fun _ => rfl) }⟩
      · intro done v W A h hd hp hu hA hB hdf
        have hd7 : done 7 = true := hp 7 rfl
        refine Or.inr ⟨h.f7 hd7, { h with f19 := (fun _ => rfl) }⟩
      · intro done v W A h hd hp hu hA hB hdf
        have hd7 : done 7 = true := hp 7 rfl
        refine Or.inr ⟨h.f7 hd7, { h with f20 := (fun _ => rfl) }⟩
      · intro done v W A h hd hp hu hA hB hdf
        have hd2 : done 2 = true := hp 2 rfl
        refine Or.inl ⟨_, h.f2 hd2, (fun hx => by cases hx), (fun hne => { h with f21 := (fun _ => rfl) })⟩
      · intro done v W A h hd hp hu hA hB hdf
        have hd2 : done 2 = true := hp 2 rfl
        have e0 := (hA 2 93 rfl hd2).trans (h.f2 hd2)
        clear hA hB hp hu hdf
        go_simp
        exact ⟨_, rfl, { h with f22 := (fun _ => rfl) }⟩
      · intro done v W A h hd hp hu hA hB hdf
        have hd22 : done 22 = true := hp 22 rfl
        have e0 := (hA 22 113 rfl hd22).trans (h.f22 hd22)
        clear hA hB hp hu hdf
        go_simp
        exact ⟨_, rfl, { h with f23 := (fun _ => rfl) }⟩
      · intro done v W A h hd hp hu hA hB hdf
        have hd23 : done 23 = true := hp 23 rfl
        refine Or.inl ⟨_, h.f23 hd23, fun _ => ?_, fun hne => absurd rfl hne⟩
        have e0 : A.tmps[20]?.getD undef = .int .i64 2 := hB 20 rfl
        clear hA hB hp hu hdf
        go_simp
        exact ⟨_, rfl, { h with f24 := (fun _ => rfl) }⟩
      · intro done v W A h hd hp hu hA hB hdf
        have hd23 : done 23 = true := hp 23 rfl
        have hd24 : done 24 = true := hp 24 rfl
        refine Or.inl ⟨_, h.f23 hd23, fun _ => ?_, fun hne => absurd rfl hne⟩
        have e0 := (hA 24 115 rfl hd24).trans (h.f24 hd24)
        clear hA hB hp hu hdf
        go_simp
        exact ⟨_, rfl, { h with f25 := (fun _ => rfl) }⟩
      · intro done v W A h hd hp hu hA hB hdf
        have hd23 : done 23 = true := hp 23 rfl
        have hd25 : done 25 = true := hp 25 rfl
        have e0 := (hA 23 114 rfl hd23).trans (h.f23 hd23)
        have e2 := (hA 25 116 rfl hd25).trans (h.f25 hd25)
        clear hA hB hp hu hdf
        go_simp
        exact ⟨_, rfl, { h with f26 := (fun _ => rfl) }⟩
      · intro done v W A h hd hp hu hA hB hdf
        have hd26 : done 26 = true := hp 26 rfl
        have e0 := (hA 26 117 rfl hd26).trans (h.f26 hd26)
        clear hA hB hp hu hdf
        go_simp
        exact ⟨_, rfl, { h with f27 := (fun _ => rfl) }⟩
      · intro done v W A h hd hp hu hA hB hdf
        have hd27 : done 27 = true := hp 27 rfl
        refine Or.inl ⟨_, h.f27 hd27, fun _ => ?_, fun hne => absurd rfl hne⟩
        have e0 : A.tmps[20]?.getD undef = .int .i64 2 := hB 20 rfl
        clear hA hB hp hu hdf
        go_simp
        exact ⟨_, rfl, { h with f28 := (fun _ => rfl) }⟩
      · intro done v W A h hd hp hu hA hB hdf
        have hd27 : done 27 = true := hp 27 rfl
        have hd28 : done 28 = true := hp 28 rfl
        refine Or.inl ⟨_, h.f27 hd27, fun _ => ?_, fun hne => absurd rfl hne⟩
        have e0 := (hA 28 119 rfl hd28).trans (h.f28 hd28)
        clear hA hB hp hu hdf
        go_simp
        exact ⟨_, rfl, { h with f29 := (fun _ => rfl) }⟩
      · intro done v W A h hd hp hu hA hB hdf
        have hd27 : done 27 = true := hp 27 rfl
        have hd29 : done 29 = true := hp 29 rfl
        have e0 := (hA 27 118 rfl hd27).trans (h.f27 hd27)
        have e2 := (hA 29 120 rfl hd29).trans (h.f29 hd29)
        clear hA hB hp hu hdf
        go_simp
        exact ⟨_, rfl, { h with f30 := (fun _ => rfl) }⟩
    simp only [putL, Act.put, Nat.reduceAdd, List.setIfInBounds_toArray, List.set_cons_zero, List.set_cons_succ]
    have hbr := h.b
    rw [h.f30 rfl]
    replace u0 := below_cell hbr u0
    replace u1 := below_cell hbr u1
    replace s0 := below_cell hbr s0
    replace s1 := below_cell hbr s1
    replace s2 := below_cell hbr s2
    replace cy0 := below_cell hbr cy0
    replace cy1 := below_cell hbr cy1
    replace cy2 := below_cell hbr cy2
    replace cy3 := below_cell hbr cy3
    replace cy4 := below_cell hbr cy4
    replace qp7 := below_cell hbr qp7
    replace qS7 := below_cell hbr qS7
    replace HC7 := Lib.hid (HC7.out.below hbr)
    replace HP7 := Lib.hid (HP7.out.below hbr)
    replace Q17 := Lib.hid ((hbr.block _ (row_lt Q17.out)).trans Q17.out)
    replace Q57 := Lib.hid ((hbr.block _ (row_lt Q57.out)).trans Q57.out)
    replace QC7 := Lib.hid ((hbr.block _ (row_lt QC7.out)).trans QC7.out)
    replace HB7 := Lib.hid (HB7.out.trans (hbr.mono HB7.out.size))
    clear h hbr
    go_wp2_with fail
    obtain ⟨wx, hwx⟩ : ∃ x, x = W := ⟨_, rfl⟩
    subst hwx
    have HPL := Lib.hid (fun W' (h : Below wx.heap.size wx W') => HPV.out W' (HB7.out.trans (h.mono HB7.out.size)))
    refine wp_region_flowsG (by kernel_rfl) (by kernel_rfl) (by kernel_rfl) (by kernel_rfl) (fun done v W => FHo17 wx (.slice (some ⟨gp, 0, none⟩) rows.length kp) (.slice (some ⟨bS, oS, none⟩) ss.length k4) (row) (gp) (bS) (oS) (bD) (pt) (n) (od) (oe) (os) done v W) (fun v => ?_) ?_ (fun v W h => ?_)
    · exact ⟨(Below.refl _ _).drew, (fun h => by cases h), (fun h => by cases h), (fun h => by cases h), (fun h => by cases h), (fun h => by cases h), (fun h => by cases h), (fun h => by cases h), (fun h => by cases h), (fun h => by cases h), (fun h => by cases h), (fun h => by cases h), (fun h => by cases h), (fun h => by cases h), (fun h => by cases h), (fun h => by cases h), (fun h => by cases h), (fun h => by cases h), Box2.nil _ _ _ _ _⟩
    · refine ⟨?_, ?_, ?_, ?_, ?_, ?_, ?_, ?_, ?_, ?_, ?_, ?_, ?_, ?_, ?_, ?_, ?_, ?_, ?_, trivial⟩
      · intro done v W A h hd hp hu hA hB hdf
        have e0 : A.tmps[3]?.getD undef = .slice (some ⟨bS, oS, none⟩) ss.length k4 := hB 3 rfl
        clear hA hB hp hu hdf
        go_simp
        exact ⟨_, rfl, { h with f0 := (fun _ => rfl) }⟩
      · intro done v W A h hd hp hu hA hB hdf
        have e0 : A.tmps[15]?.getD undef = .int .i64 (row : Int) := hB 15 rfl
        clear hA hB hp hu hdf
        go_simp
        exact ⟨_, rfl, { h with f1 := (fun _ => rfl) }⟩
      · intro done v W A h hd hp hu hA hB hdf
        have hd0 : done 0 = true := hp 0 rfl
        have hd1 : done 1 = true := hp 1 rfl
        have e0 := (hA 0 123 rfl hd0).trans (h.f0 hd0)
        have e1 := (hA 1 124 rfl hd1).trans (h.f1 hd1)
        clear hA hB hp hu hdf
        go_simp
        exact ⟨_, rfl, { h with f2 := (fun _ => rfl) }⟩
      · intro done v W A h hd hp hu hA hB hdf
        have hd2 : done 2 = true := hp 2 rfl
        have e0 := (hA 2 125 rfl hd2).trans (h.f2 hd2)
        have y0_ := below_cell h.b qS7
        clear hA hB hp hu hdf
        go_simp
        exact ⟨_, rfl, { h with f3 := (fun _ => rfl) }⟩
      · intro done v W A h hd hp hu hA hB hdf
        have e0 : A.tmps[13]?.getD undef = .pointer (some ⟨bD, 0, none⟩) := hB 13 rfl
        clear hA hB hp hu hdf
        go_simp
        exact ⟨_, rfl, { h with f4 := (fun _ => rfl) }⟩
      · intro done v W A h hd hp hu hA hB hdf
        have hd4 : done 4 = true := hp 4 rfl
        have e0 := (hA 4 127 rfl hd4).trans (h.f4 hd4)
        have y0_ := below_cell h.b s2
        clear hA hB hp hu hdf
        go_simp
        exact ⟨_, rfl, { h with f5 := (fun _ => rfl) }⟩
      · intro done v W A h hd hp hu hA hB hdf
        have e0 : A.tmps[15]?.getD undef = .int .i64 (row : Int) := hB 15 rfl
        clear hA hB hp hu hdf
        go_simp
        exact ⟨_, rfl, { h with f6 := (fun _ => rfl) }⟩
      · intro done v W A h hd hp hu hA hB hdf
        have hd5 : done 5 = true := hp 5 rfl
        have hd6 : done 6 = true := hp 6 rfl
        have e0 := (hA 5 128 rfl hd5).trans (h.f5 hd5)
        have e1 := (hA 6 129 rfl hd6).trans (h.f6 hd6)
        clear hA hB hp hu hdf
        go_simp
        exact ⟨_, rfl, { h with f7 := (fun _ => rfl) }⟩
      · intro done v W A h hd hp hu hA hB hdf
        have hd7 : done 7 = true := hp 7 rfl
        have e0 := (hA 7 130 rfl hd7).trans (h.f7 hd7)
        clear hA hB hp hu hdf
        go_simp
        exact ⟨_, rfl, { h with f8 := (fun _ => rfl) }⟩
      · intro done v W A h hd hp hu hA hB hdf
        have hd8 : done 8 = true := hp 8 rfl
        have e0 := (hA 8 131 rfl hd8).trans (h.f8 hd8)
        have y0_ := below_cell h.b qp7
        clear hA hB hp hu hdf
        go_simp
        exact ⟨_, rfl, { h with f9 := (fun _ => rfl) }⟩
      · intro done v W A h hd hp hu hA hB hdf
        have hd3 : done 3 = true := hp 3 rfl
        have hd9 : done 9 = true := hp 9 rfl
        have e0 := (hA 3 126 rfl hd3).trans (h.f3 hd3)
        have e1 := (hA 9 132 rfl hd9).trans (h.f9 hd9)
        clear hA hB hp hu hdf
        go_simp
        with_reducible refine (HPL.out W h.b).mono ?_
        rintro e wq ⟨rfl, hb⟩
        exact ⟨_, rfl, { h with b := h.b.trans (hb.mono h.b.size), f10 := (fun _ => rfl), bx := (h.bx.below hb) }⟩
      · intro done v W A h hd hp hu hA hB hdf
        have hd10 : done 10 = true := hp 10 rfl
        have e0 := (hA 10 133 rfl hd10).trans (h.f10 hd10)
        clear hA hB hp hu hdf
        go_simp
        exact ⟨_, rfl, { h with f11 := (fun _ => rfl) }⟩
      · intro done v W A h hd hp hu hA hB hdf
        have hd11 : done 11 = true := hp 11 rfl
        have e0 := (hA 11 122 rfl hd11).trans (h.f11 hd11)
        clear hA hB hp hu hdf
        go_simp
        exact ⟨_, rfl, { h with f12 := (fun _ => rfl) }⟩
      · intro done v W A h hd hp hu hA hB hdf
        have hd11 : done 11 = true := hp 11 rfl
        have e0 := (hA 11 122 rfl hd11).trans (h.f11 hd11)
        clear hA hB hp hu hdf
        go_simp
        exact ⟨_, rfl, { h with f13 := (fun _ => rfl) }⟩
      · intro done v W A h hd hp hu hA hB hdf
        have hd11 : done 11 = true := hp 11 rfl
        have e0 := (hA 11 122 rfl hd11).trans (h.f11 hd11)
        clear hA hB hp hu hdf
        go_simp
        exact ⟨_, rfl, { h with f14 := (fun _ => rfl) }⟩
      · intro done v W A h hd hp hu hA hB hdf
        have n17_15 : done 17 = false := flow_not (fun hj => hu 17 15 rfl (hj)) hd
        have hb := below_new W zero2 32
        have hn := h.b.size
        clear hA hB hp hu hdf
        go_simp
        exact ⟨_, rfl, { h with b := h.b.trans (hb.mono h.b.size), bx := (h.bx.alloc n17_15 hn) }⟩
      · intro done v W A h hd hp hu hA hB hdf
        have hd12 : done 12 = true := hp 12 rfl
        have e0 := (hA 12 134 rfl hd12).trans (h.f12 hd12)
        clear hA hB hp hu hdf
        go_simp
        exact ⟨_, rfl, { h with f16 := (fun _ => rfl) }⟩
      · intro done v W A h hd hp hu hA hB hdf
        have hd13 : done 13 = true := hp 13 rfl
        have hd15 : done 15 = true := hp 15 rfl
        obtain ⟨B, eB, hn0, -, hS⟩ := h.bx hd15
        simp only [hd, Bool.false_eq_true, if_false] at hS
        have e1 := (hA 15 23 rfl hd15).trans eB
        have e2 := (hA 13 135 rfl hd13).trans (h.f13 hd13)
        have u0 := row_cell hS (k := 0) (v := .int .i64 0) rfl
        have u1 := row_cell hS (k := 1) (v := .int .i64 0) rfl
        have g0 := row_free hS 0
        have g1 := row_free hS 1
        clear hA hB hp hu hdf
        go_simp
        exact ⟨undef, { h with b := put2_below _ _ h.b hn0, bx := (h.bx.store eB hd15 hS) }⟩
      · intro done v W A h hd hp hu hA hB hdf
        have hd14 : done 14 = true := hp 14 rfl
        have e0 := (hA 14 136 rfl hd14).trans (h.f14 hd14)
        clear hA hB hp hu hdf
        go_simp
        exact ⟨_, rfl, { h with f18 := (fun _ => rfl) }⟩
    simp only [putL, Act.put, Nat.reduceAdd, List.setIfInBounds_toArray, List.set_cons_zero, List.set_cons_succ]
    rw [h.f16 rfl]
    rw [h.f18 rfl]
    have hbr := h.b
    obtain ⟨bE, eX, -, -, hX⟩ := h.bx rfl
    have QE := Lib.hid (show W.heap[bE]? = some (.cells #[.int .i64 oe, .int .i64 os] 32 (0, 0)) from hX)
    rw [eX]
    clear eX hX
    replace u0 := below_cell hbr u0
    replace u1 := below_cell hbr u1
    replace s0 := below_cell hbr s0
    replace s1 := below_cell hbr s1
    replace s2 := below_cell hbr s2
    replace cy0 := below_cell hbr cy0
    replace cy1 := below_cell hbr cy1
    replace cy2 := below_cell hbr cy2
    replace cy3 := below_cell hbr cy3
    replace cy4 := below_cell hbr cy4
    replace qp7 := below_cell hbr qp7
    replace qS7 := below_cell hbr qS7
    replace HC7 := Lib.hid (HC7.out.below hbr)
    replace HP7 := Lib.hid (HP7.out.below hbr)
    replace Q17 := Lib.hid ((hbr.block _ (row_lt Q17.out)).trans Q17.out)
    replace Q57 := Lib.hid ((hbr.block _ (row_lt Q57.out)).trans Q57.out)
    replace QC7 := Lib.hid ((hbr.block _ (row_lt QC7.out)).trans QC7.out)
    replace HB7 := Lib.hid (HB7.out.trans (hbr.mono HB7.out.size))
    clear h hbr HPL
    have ee0 := row_cell QE.out (k := 0) (v := .int .i64 oe) rfl
    have ee1 := row_cell QE.out (k := 1) (v := .int .i64 os) rfl
    go_wp2_with fail
    with_reducible refine (settleF_any _ _ _ _ rows owners numbers dealer ss (-1) 0 kk dealer (row : Int) od oe os _ (HG.out _ HB7.out) (HR.out _ HB7.out) (HO.out _ HB7.out) HC7.out HP7.out HKR.out.1 HOC.out).mono ?_
    rintro e w9 ⟨rfl, hb9⟩
    rw [(HSO.out kk).1, (HSO.out kk).2]
    go_wp2_with fail
    go_ret
    exact ⟨rfl, HB7.out.trans (hb9.mono HB7.out.size)⟩
  · rw [hsg]
    have d9 : (D == od) = false := beq_eq_false_iff_ne.2 hne
    have HCK := Lib.hid (fun W (h : Below w8.heap.size w8 W) => check_any kk pt D E S W HKR.out.1 HEL.out.r64 HC2.out.D HC2.out.E HC2.out.S (HG.out _ (HB7.out.trans (h.mono HB7.out.size))))
    rw [hck] at HCK
    clear hse hsg hck hne
    go_wp2_with fail
    refine wp_region_flowsH (by kernel_rfl) (by kernel_rfl) (by kernel_rfl) (by kernel_rfl) (fun done v W => FHoB w8 (.slice (some ⟨gp, 0, none⟩) rows.length kp) (row) (gp) (bD) ((w.heap.size + 1)) (pt) (od) (kk) (D) (E) (S) done v W) (fun v => ?_) ?_ (fun v W h => ?_)
    · exact ⟨(Below.refl _ _).drew, (fun h => by cases h), (fun h => by cases h), (fun h => by cases h), (fun h => by cases h), (fun h => by cases h), (fun h => by cases h), (fun h => by cases h), (fun h => by cases h), (fun h => by cases h), (fun h => by cases h), (fun h => by cases h), (fun h => by cases h), (fun h => by cases h), (fun h => by cases h), (fun h => by cases h), (fun h => by cases h), (fun h => by cases h), (fun h => by cases h), (fun h => by cases h), (fun h => by cases h), (fun h => by cases h), (fun h => by cases h), (fun h => by cases h), (fun h => by cases h), (fun h => by cases h), (fun h => by cases h), (fun h => by cases h), (fun h => by cases h), (fun h => by cases h), (fun h => by cases h), (fun h => by cases h)⟩
    · refine ⟨?_, ?_, ?_, ?_, ?_, ?_, ?_, ?_, ?_, ?_, ?_, ?_, ?_, ?_, ?_, ?_, ?_, ?_, ?_, ?_, ?_, ?_, ?_, ?_, ?_, ?_, ?_, ?_, ?_, ?_, ?_, trivial⟩
      · intro done v W A h hd hp hu hA hB hdf
        have e0 : A.tmps[20]?.getD undef = .int .i64 1 := hB 20 rfl
        clear hA hB hp hu hdf
        go_simp
        exact ⟨_, rfl, { h with f0 := (fun _ => rfl) }⟩
      · intro done v W A h hd hp hu hA hB hdf
        have hd0 : done 0 = true := hp 0 rfl
        have e0 := (hA 0 91 rfl hd0).trans (h.f0 hd0)
        clear hA hB hp hu hdf
        go_simp
        exact ⟨_, rfl, { h with f1 := (fun _ => rfl) }⟩
      · intro done v W A h hd hp hu hA hB hdf
        have hd1 : done 1 = true := hp 1 rfl
        have e0 := (hA 1 92 rfl hd1).trans (h.f1 hd1)
        clear hA hB hp hu hdf
        go_simp
        exact ⟨_, rfl, { h with f2 := (fun _ => rfl) }⟩
      · intro done v W A h hd hp hu hA hB hdf
        have hd2 : done 2 = true := hp 2 rfl
        refine Or.inl ⟨_, h.f2 hd2, fun _ => ?_, fun hne => absurd rfl hne⟩
        have e0 : A.tmps[11]?.getD undef = .pointer (some ⟨(w.heap.size + 1), 0, none⟩) := hB 11 rfl
        clear hA hB hp hu hdf
        go_simp
        exact ⟨_, rfl, { h with f3 := (fun _ => rfl) }⟩
      · intro done v W A h hd hp hu hA hB hdf
        have hd2 : done 2 = true := hp 2 rfl
        have hd3 : done 3 = true := hp 3 rfl
        refine Or.inl ⟨_, h.f2 hd2, fun _ => ?_, fun hne => absurd rfl hne⟩
        have e0 := (hA 3 94 rfl hd3).trans (h.f3 hd3)
        have y0_ := below_cell h.b cy2
        clear hA hB hp hu hdf
        go_simp
        exact ⟨_, rfl, { h with f4 := (fun _ => rfl) }⟩
      · intro done v W A h hd hp hu hA hB hdf
        have hd2 : done 2 = true := hp 2 rfl
        refine Or.inl ⟨_, h.f2 hd2, fun _ => ?_, fun hne => absurd rfl hne⟩
        have e0 : A.tmps[18]?.getD undef = .int .i64 od := hB 18 rfl
        clear hA hB hp hu hdf
        go_simp
        exact ⟨_, rfl, { h with f5 := (fun _ => rfl) }⟩
      · intro done v W A h hd hp hu hA hB hdf
        have hd2 : done 2 = true := hp 2 rfl
        have hd4 : done 4 = true := hp 4 rfl
        have hd5 : done 5 = true := hp 5 rfl
        refine Or.inl ⟨_, h.f2 hd2, fun _ => ?_, fun hne => absurd rfl hne⟩
        have e0 := (hA 4 95 rfl hd4).trans (h.f4 hd4)
        have e1 := (hA 5 96 rfl hd5).trans (h.f5 hd5)
        clear hA hB hp hu hdf
        go_simp
        exact ⟨_, rfl, { h with f6 := (fun _ => rfl) }⟩
      · intro done v W A h hd hp hu hA hB hdf
        have hd2 : done 2 = true := hp 2 rfl
        have hd6 : done 6 = true := hp 6 rfl
        refine Or.inl ⟨_, h.f2 hd2, fun _ => ?_, fun hne => absurd rfl hne⟩
        have e0 := (hA 6 97 rfl hd6).trans (h.f6 hd6)
        clear hA hB hp hu hdf
        go_simp
        exact ⟨_, rfl, { h with f7 := (fun _ => rfl) }⟩
      · intro done v W A h hd hp hu hA hB hdf
        have hd7 : done 7 = true := hp 7 rfl
        refine Or.inl ⟨_, h.f7 hd7, fun _ => ?_, fun hne => absurd rfl hne⟩
        have e0 : A.tmps[16]?.getD undef = .int .i64 kk := hB 16 rfl
        clear hA hB hp hu hdf
        go_simp
        exact ⟨_, rfl, { h with f8 := (fun _ => rfl) }⟩
      · intro done v W A h hd hp hu hA hB hdf
        have hd7 : done 7 = true := hp 7 rfl
        refine Or.inl ⟨_, h.f7 hd7, fun _ => ?_, fun hne => absurd rfl hne⟩
        have e0 : A.tmps[13]?.getD undef = .pointer (some ⟨bD, 0, none⟩) := hB 13 rfl
        clear hA hB hp hu hdf
        go_simp
        exact ⟨_, rfl, { h with f9 := (fun _ => rfl) }⟩
      · intro done v W A h hd hp hu hA hB hdf
        have hd7 : done 7 = true := hp 7 rfl
        have hd9 : done 9 = true := hp 9 rfl
        refine Or.inl ⟨_, h.f7 hd7, fun _ => ?_, fun hne => absurd rfl hne⟩
        have e0 := (hA 9 100 rfl hd9).trans (h.f9 hd9)
        have y0_ := below_cell h.b s2
        clear hA hB hp hu hdf
        go_simp
        exact ⟨_, rfl, { h with f10 := (fun _ => rfl) }⟩
      · intro done v W A h hd hp hu hA hB hdf
        have hd7 : done 7 = true := hp 7 rfl
        refine Or.inl ⟨_, h.f7 hd7, fun _ => ?_, fun hne => absurd rfl hne⟩
        have e0 : A.tmps[15]?.getD undef = .int .i64 (row : Int) := hB 15 rfl
        clear hA hB hp hu hdf
        go_simp
        exact ⟨_, rfl, { h with f11 := (fun _ => rfl) }⟩
      · intro done v W A h hd hp hu hA hB hdf
        have hd7 : done 7 = true := hp 7 rfl
        have hd10 : done 10 = true := hp 10 rfl
        have hd11 : done 11 = true := hp 11 rfl
        refine Or.inl ⟨_, h.f7 hd7, fun _ => ?_, fun hne => absurd rfl hne⟩
        have e0 := (hA 10 101 rfl hd10).trans (h.f10 hd10)
        have e1 := (hA 11 102 rfl hd11).trans (h.f11 hd11)
        clear hA hB hp hu hdf
        go_simp
        exact ⟨_, rfl, { h with f12 := (fun _ => rfl) }⟩
      · intro done v W A h hd hp hu hA hB hdf
        have hd7 : done 7 = true := hp 7 rfl
        have hd12 : done 12 = true := hp 12 rfl
        refine Or.inl ⟨_, h.f7 hd7, fun _ => ?_, fun hne => absurd rfl hne⟩
        have e0 := (hA 12 103 rfl hd12).trans (h.f12 hd12)
        clear hA hB hp hu hdf
        go_simp
        exact ⟨_, rfl, { h with f13 := (fun _ => rfl) }⟩
      · intro done v W A h hd hp hu hA hB hdf
        have hd7 : done 7 = true := hp 7 rfl
        have hd13 : done 13 = true := hp 13 rfl
        refine Or.inl ⟨_, h.f7 hd7, fun _ => ?_, fun hne => absurd rfl hne⟩
        have e0 := (hA 13 104 rfl hd13).trans (h.f13 hd13)
        have y0_ := below_cell h.b qp7
        clear hA hB hp hu hdf
        go_simp
        exact ⟨_, rfl, { h with f14 := (fun _ => rfl) }⟩
      · intro done v W A h hd hp hu hA hB hdf
        have hd7 : done 7 = true := hp 7 rfl
        refine Or.inl ⟨_, h.f7 hd7, fun _ => ?_, fun hne => absurd rfl hne⟩
        have e0 : A.tmps[11]?.getD undef = .pointer (some ⟨(w.heap.size + 1), 0, none⟩) := hB 11 rfl
        clear hA hB hp hu hdf
        go_simp
        exact ⟨_, rfl, { h with f15 := (fun _ => rfl) }⟩
      · intro done v W A h hd hp hu hA hB hdf
        have hd7 : done 7 = true := hp 7 rfl
        have hd15 : done 15 = true := hp 15 rfl
        refine Or.inl ⟨_, h.f7 hd7, fun _ => ?_, fun hne => absurd rfl hne⟩
        have e0 := (hA 15 106 rfl hd15).trans (h.f15 hd15)
        have y0_ := below_cell h.b cy2
        clear hA hB hp hu hdf
        go_simp
        exact ⟨_, rfl, { h with f16 := (fun _ => rfl) }⟩
      · intro done v W A h hd hp hu hA hB hdf
        have hd7 : done 7 = true := hp 7 rfl
        refine Or.inl ⟨_, h.f7 hd7, fun _ => ?_, fun hne => absurd rfl hne⟩
        have e0 : A.tmps[11]?.getD undef = .pointer (some ⟨(w.heap.size + 1), 0, none⟩) := hB 11 rfl
        clear hA hB hp hu hdf
        go_simp
        exact ⟨_, rfl, { h with f17 := (fun _ => rfl) }⟩
      · intro done v W A h hd hp hu hA hB hdf
        have hd7 : done 7 = true := hp 7 rfl
        have hd17 : done 17 = true := hp 17 rfl
        refine Or.inl ⟨_, h.f7 hd7, fun _ => ?_, fun hne => absurd rfl hne⟩
        have e0 := (hA 17 108 rfl hd17).trans (h.f17 hd17)
        have y0_ := below_cell h.b cy3
        have y1_ := below_cell h.b cy4
        clear hA hB hp hu hdf
        go_simp
        exact ⟨_, rfl, { h with f18 := (fun _ => rfl) }⟩
      · intro done v W A h hd hp hu hA hB hdf
        have hd7 : done 7 = true := hp 7 rfl
        have hd8 : done 8 = true := hp 8 rfl
        have hd14 : done 14 = true := hp 14 rfl
        have hd16 : done 16 = true := hp 16 rfl
        have hd18 : done 18 = true := hp 18 rfl
        refine Or.inl ⟨_, h.f7 hd7, fun _ => ?_, fun hne => absurd rfl hne⟩
        have e0 := (hA 8 99 rfl hd8).trans (h.f8 hd8)
        have e1 := (hA 14 105 rfl hd14).trans (h.f14 hd14)
        have e2 := (hA 16 107 rfl hd16).trans (h.f16 hd16)
        have e3 := (hA 18 109 rfl hd18).trans (h.f18 hd18)
        clear hA hB hp hu hdf
        go_simp
        with_reducible refine (HCK.out W h.b).mono ?_
        rintro e wq ⟨rfl, hb⟩
        exact ⟨_, rfl, { h with b := h.b.trans (hb.mono h.b.size), f19 := (fun _ => rfl) }⟩
      · intro done v W A h hd hp hu hA hB hdf
        have hd7 : done 7 = true := hp 7 rfl
        have hd19 : done 19 = true := hp 19 rfl
        refine Or.inl ⟨_, h.f7 hd7, fun _ => ?_, fun hne => absurd rfl hne⟩
        have e0 := (hA 19 110 rfl hd19).trans (h.f19 hd19)
        clear hA hB hp hu hdf
        go_simp
        exact ⟨_, rfl, { h with f20 := (fun _ => rfl) }⟩
      · intro done v W A h hd hp hu hA hB hdf
        have hd2 : done 2 = true := hp 2 rfl
        have hd7 : done 7 = true := hp 7 rfl
        have hd20 : done 20 = true := hp 20 rfl
        refine Or.inl ⟨_, h.f2 hd2, fun _ => ?_, fun hne => absurd rfl hne⟩
        have e0 := (hA 7 98 rfl hd7).trans (h.f7 hd7)
        have e2 := (hA 20 111 rfl hd20).trans (h.f20 hd20)
        clear hA hB hp hu hdf
        go_simp
        exact ⟨_, rfl, { h with f21 := (fun _ => rfl) }⟩
      · intro done v W A h hd hp hu hA hB hdf
        have hd2 : done 2 = true := hp 2 rfl
        have hd21 : done 21 = true := hp 21 rfl
        have e0 := (hA 2 93 rfl hd2).trans (h.f2 hd2)
        have e1 := (hA 21 112 rfl hd21).trans (h.f21 hd21)
        clear hA hB hp hu hdf
        go_simp
        exact ⟨_, rfl, { h with f22 := (fun _ => rfl) }⟩
      · intro done v W A h hd hp hu hA hB hdf
        have hd22 : done 22 = true := hp 22 rfl
        have e0 := (hA 22 113 rfl hd22).trans (h.f22 hd22)
        clear hA hB hp hu hdf
        go_simp
        exact ⟨_, rfl, { h with f23 := (fun _ => rfl) }⟩
      · intro done v W A h hd hp hu hA hB hdf
        have hd23 : done 23 = true := hp 23 rfl
        refine Or.inl ⟨_, h.f23 hd23, fun _ => ?_, fun hne => absurd rfl hne⟩
        have e0 : A.tmps[20]?.getD undef = .int .i64 1 := hB 20 rfl
        clear hA hB hp hu hdf
        go_simp
        exact ⟨_, rfl, { h with f24 := (fun _ => rfl) }⟩
      · intro done v W A h hd hp hu hA hB hdf
        have hd23 : done 23 = true := hp 23 rfl
        have hd24 : done 24 = true := hp 24 rfl
        refine Or.inl ⟨_, h.f23 hd23, fun _ => ?_, fun hne => absurd rfl hne⟩
        have e0 := (hA 24 115 rfl hd24).trans (h.f24 hd24)
        clear hA hB hp hu hdf
        go_simp
        exact ⟨_, rfl, { h with f25 := (fun _ => rfl) }⟩
      · intro done v W A h hd hp hu hA hB hdf
        have hd23 : done 23 = true := hp 23 rfl
        have hd25 : done 25 = true := hp 25 rfl
        have e0 := (hA 23 114 rfl hd23).trans (h.f23 hd23)
        have e2 := (hA 25 116 rfl hd25).trans (h.f25 hd25)
        clear hA hB hp hu hdf
        go_simp
        exact ⟨_, rfl, { h with f26 := (fun _ => rfl) }⟩
      · intro done v W A h hd hp hu hA hB hdf
        have hd26 : done 26 = true := hp 26 rfl
        have e0 := (hA 26 117 rfl hd26).trans (h.f26 hd26)
        clear hA hB hp hu hdf
        go_simp
        exact ⟨_, rfl, { h with f27 := (fun _ => rfl) }⟩
      · intro done v W A h hd hp hu hA hB hdf
        have hd27 : done 27 = true := hp 27 rfl
        refine Or.inl ⟨_, h.f27 hd27, fun _ => ?_, fun hne => absurd rfl hne⟩
        have e0 : A.tmps[20]?.getD undef = .int .i64 1 := hB 20 rfl
        clear hA hB hp hu hdf
        go_simp
        exact ⟨_, rfl, { h with f28 := (fun _ => rfl) }⟩
      · intro done v W A h hd hp hu hA hB hdf
        have hd27 : done 27 = true := hp 27 rfl
        have hd28 : done 28 = true := hp 28 rfl
        refine Or.inl ⟨_, h.f27 hd27, fun _ => ?_, fun hne => absurd rfl hne⟩
        have e0 := (hA 28 119 rfl hd28).trans (h.f28 hd28)
        clear hA hB hp hu hdf
        go_simp
        exact ⟨_, rfl, { h with f29 := (fun _ => rfl) }⟩
      · intro done v W A h hd hp hu hA hB hdf
        have hd27 : done 27 = true := hp 27 rfl
        have hd29 : done 29 = true := hp 29 rfl
        have e0 := (hA 27 118 rfl hd27).trans (h.f27 hd27)
        have e2 := (hA 29 120 rfl hd29).trans (h.f29 hd29)
        clear hA hB hp hu hdf
        go_simp
        exact ⟨_, rfl, { h with f30 := (fun _ => rfl) }⟩
    simp only [putL, Act.put, Nat.reduceAdd, List.setIfInBounds_toArray, List.set_cons_zero, List.set_cons_succ]
    have hbr := h.b
    rw [h.f30 rfl]
    replace u0 := below_cell hbr u0
    replace u1 := below_cell hbr u1
    replace s0 := below_cell hbr s0
    replace s1 := below_cell hbr s1
    replace s2 := below_cell hbr s2
    replace cy0 := below_cell hbr cy0
    replace cy1 := below_cell hbr cy1
    replace cy2 := below_cell hbr cy2
    replace cy3 := below_cell hbr cy3
    replace cy4 := below_cell hbr cy4
    replace qp7 := below_cell hbr qp7
    replace qS7 := below_cell hbr qS7
    replace HC7 := Lib.hid (HC7.out.below hbr)
    replace HP7 := Lib.hid (HP7.out.below hbr)
    replace Q17 := Lib.hid ((hbr.block _ (row_lt Q17.out)).trans Q17.out)
    replace Q57 := Lib.hid ((hbr.block _ (row_lt Q57.out)).trans Q57.out)
    replace QC7 := Lib.hid ((hbr.block _ (row_lt QC7.out)).trans QC7.out)
    replace HB7 := Lib.hid (HB7.out.trans (hbr.mono HB7.out.size))
    clear h hbr HCK d9
    go_wp2_with fail
    obtain ⟨wx, hwx⟩ : ∃ x, x = W := ⟨_, rfl⟩
    subst hwx
    have HPL := Lib.hid (fun W' (h : Below wx.heap.size wx W') => HPV.out W' (HB7.out.trans (h.mono HB7.out.size)))
    refine wp_region_flowsG (by kernel_rfl) (by kernel_rfl) (by kernel_rfl) (by kernel_rfl) (fun done v W => FHo17 wx (.slice (some ⟨gp, 0, none⟩) rows.length kp) (.slice (some ⟨bS, oS, none⟩) ss.length k4) (row) (gp) (bS) (oS) (bD) (pt) (n) (od) (oe) (os) done v W) (fun v => ?_) ?_ (fun v W h => ?_)
    · exact ⟨(Below.refl _ _).drew, (fun h => by cases h), (fun h => by cases h), (fun h => by cases h), (fun h => by cases h), (fun h => by cases h), (fun h => by cases h), (fun h => by cases h), (fun h => by cases h), (fun h => by cases h), (fun h => by cases h), (fun h => by cases h), (fun h => by cases h), (fun h => by cases h), (fun h => by cases h), (fun h => by cases h), (fun h => by cases h), (fun h => by cases h), Box2.nil _ _ _ _ _⟩
    · refine ⟨?_, ?_, ?_, ?_, ?_, ?_, ?_, ?_, ?_, ?_, ?_, ?_, ?_, ?_, ?_, ?_, ?_, ?_, ?_, trivial⟩
      · intro done v W A h hd hp hu hA hB hdf
        have e0 : A.tmps[3]?.getD undef = .slice (some ⟨bS, oS, none⟩) ss.length k4 := hB 3 rfl
        clear hA hB hp hu hdf
        go_simp
        exact ⟨_, rfl, { h with f0 := (fun _ => rfl) }⟩
      · intro done v W A h hd hp hu hA hB hdf
        have e0 : A.tmps[15]?.getD undef = .int .i64 (row : Int) := hB 15 rfl
        clear hA hB hp hu hdf
        go_simp
        exact ⟨_, rfl, { h with f1 := (fun _ => rfl) }⟩
      · intro done v W A h hd hp hu hA hB hdf
        have hd0 : done 0 = true := hp 0 rfl
        have hd1 : done 1 = true := hp 1 rfl
        have e0 := (hA 0 123 rfl hd0).trans (h.f0 hd0)
        have e1 := (hA 1 124 rfl hd1).trans (h.f1 hd1)
        clear hA hB hp hu hdf
        go_simp
        exact ⟨_, rfl, { h with f2 := (fun _ => rfl) }⟩
      · intro done v W A h hd hp hu hA hB hdf
        have hd2 : done 2 = true := hp 2 rfl
        have e0 := (hA 2 125 rfl hd2).trans (h.f2 hd2)
        have y0_ := below_cell h.b qS7
        clear hA hB hp hu hdf
        go_simp
        exact ⟨_, rfl, { h with f3 := (fun _ => rfl) }⟩
      · intro done v W A h hd hp hu hA hB hdf
        have e0 : A.tmps[13]?.getD undef = .pointer (some ⟨bD, 0, none⟩) := hB 13 rfl
        clear hA hB hp hu hdf
        go_simp
        exact ⟨_, rfl, { h with f4 := (fun _ => rfl) }⟩
      · intro done v W A h hd hp hu hA hB hdf
        have hd4 : done 4 = true := hp 4 rfl
        have e0 := (hA 4 127 rfl hd4).trans (h.f4 hd4)
        have y0_ := below_cell h.b s2
        clear hA hB hp hu hdf
        go_simp
        exact ⟨_, rfl, { h with f5 := (fun _ => rfl) }⟩
      · intro done v W A h hd hp hu hA hB hdf
        have e0 : A.tmps[15]?.getD undef = .int .i64 (row : Int) := hB 15 rfl
        clear hA hB hp hu hdf
        go_simp
        exact ⟨_, rfl, { h with f6 := (fun _ => rfl) }⟩
      · intro done v W A h hd hp hu hA hB hdf
        have hd5 : done 5 = true := hp 5 rfl
        have hd6 : done 6 = true := hp 6 rfl
        have e0 := (hA 5 128 rfl hd5).trans (h.f5 hd5)
        have e1 := (hA 6 129 rfl hd6).trans (h.f6 hd6)
        clear hA hB hp hu hdf
        go_simp
        exact ⟨_, rfl, { h with f7 := (fun _ => rfl) }⟩
      · intro done v W A h hd hp hu hA hB hdf
        have hd7 : done 7 = true := hp 7 rfl
        have e0 := (hA 7 130 rfl hd7).trans (h.f7 hd7)
        clear hA hB hp hu hdf
        go_simp
        exact ⟨_, rfl, { h with f8 := (fun _ => rfl) }⟩
      · intro done v W A h hd hp hu hA hB hdf
        have hd8 : done 8 = true := hp 8 rfl
        have e0 := (hA 8 131 rfl hd8).trans (h.f8 hd8)
        have y0_ := below_cell h.b qp7
        clear hA hB hp hu hdf
        go_simp
        exact ⟨_, rfl, { h with f9 := (fun _ => rfl) }⟩
      · intro done v W A h hd hp hu hA hB hdf
        have hd3 : done 3 = true := hp 3 rfl
        have hd9 : done 9 = true := hp 9 rfl
        have e0 := (hA 3 126 rfl hd3).trans (h.f3 hd3)
        have e1 := (hA 9 132 rfl hd9).trans (h.f9 hd9)
        clear hA hB hp hu hdf
        go_simp
        with_reducible refine (HPL.out W h.b).mono ?_
        rintro e wq ⟨rfl, hb⟩
        exact ⟨_, rfl, { h with b := h.b.trans (hb.mono h.b.size), f10 := (fun _ => rfl), bx := (h.bx.below hb) }⟩
      · intro done v W A h hd hp hu hA hB hdf
        have hd10 : done 10 = true := hp 10 rfl
        have e0 := (hA 10 133 rfl hd10).trans (h.f10 hd10)
        clear hA hB hp hu hdf
        go_simp
        exact ⟨_, rfl, { h with f11 := (fun _ => rfl) }⟩
      · intro done v W A h hd hp hu hA hB hdf
        have hd11 : done 11 = true := hp 11 rfl
        have e0 := (hA 11 122 rfl hd11).trans (h.f11 hd11)
        clear hA hB hp hu hdf
        go_simp
        exact ⟨_, rfl, { h with f12 := (fun _ => rfl) }⟩
      · intro done v W A h hd hp hu hA hB hdf
        have hd11 : done 11 = true := hp 11 rfl
        have e0 := (hA 11 122 rfl hd11).trans (h.f11 hd11)
        clear hA hB hp hu hdf
        go_simp
        exact ⟨_, rfl, { h with f13 := (fun _ => rfl) }⟩
      · intro done v W A h hd hp hu hA hB hdf
        have hd11 : done 11 = true := hp 11 rfl
        have e0 := (hA 11 122 rfl hd11).trans (h.f11 hd11)
        clear hA hB hp hu hdf
        go_simp
        exact ⟨_, rfl, { h with f14 := (fun _ => rfl) }⟩
      · intro done v W A h hd hp hu hA hB hdf
        have n17_15 : done 17 = false := flow_not (fun hj => hu 17 15 rfl (hj)) hd
        have hb := below_new W zero2 32
        have hn := h.b.size
        clear hA hB hp hu hdf
        go_simp
        exact ⟨_, rfl, { h with b := h.b.trans (hb.mono h.b.size), bx := (h.bx.alloc n17_15 hn) }⟩
      · intro done v W A h hd hp hu hA hB hdf
        have hd12 : done 12 = true := hp 12 rfl
        have e0 := (hA 12 134 rfl hd12).trans (h.f12 hd12)
        clear hA hB hp hu hdf
        go_simp
        exact ⟨_, rfl, { h with f16 := (fun _ => rfl) }⟩
      · intro done v W A h hd hp hu hA hB hdf
        have hd13 : done 13 = true := hp 13 rfl
        have hd15 : done 15 = true := hp 15 rfl
        obtain ⟨B, eB, hn0, -, hS⟩ := h.bx hd15
        simp only [hd, Bool.false_eq_true, if_false] at hS
        have e1 := (hA 15 23 rfl hd15).trans eB
        have e2 := (hA 13 135 rfl hd13).trans (h.f13 hd13)
        have u0 := row_cell hS (k := 0) (v := .int .i64 0) rfl
        have u1 := row_cell hS (k := 1) (v := .int .i64 0) rfl
        have g0 := row_free hS 0
        have g1 := row_free hS 1
        clear hA hB hp hu hdf
        go_simp
        exact ⟨undef, { h with b := put2_below _ _ h.b hn0, bx := (h.bx.store eB hd15 hS) }⟩
      · intro done v W A h hd hp hu hA hB hdf
        have hd14 : done 14 = true := hp 14 rfl
        have e0 := (hA 14 136 rfl hd14).trans (h.f14 hd14)
        clear hA hB hp hu hdf
        go_simp
        exact ⟨_, rfl, { h with f18 := (fun _ => rfl) }⟩
    simp only [putL, Act.put, Nat.reduceAdd, List.setIfInBounds_toArray, List.set_cons_zero, List.set_cons_succ]
    rw [h.f16 rfl]
    rw [h.f18 rfl]
    have hbr := h.b
    obtain ⟨bE, eX, -, -, hX⟩ := h.bx rfl
    have QE := Lib.hid (show W.heap[bE]? = some (.cells #[.int .i64 oe, .int .i64 os] 32 (0, 0)) from hX)
    rw [eX]
    clear eX hX
    replace u0 := below_cell hbr u0
    replace u1 := below_cell hbr u1
    replace s0 := below_cell hbr s0
    replace s1 := below_cell hbr s1
    replace s2 := below_cell hbr s2
    replace cy0 := below_cell hbr cy0
    replace cy1 := below_cell hbr cy1
    replace cy2 := below_cell hbr cy2
    replace cy3 := below_cell hbr cy3
    replace cy4 := below_cell hbr cy4
    replace qp7 := below_cell hbr qp7
    replace qS7 := below_cell hbr qS7
    replace HC7 := Lib.hid (HC7.out.below hbr)
    replace HP7 := Lib.hid (HP7.out.below hbr)
    replace Q17 := Lib.hid ((hbr.block _ (row_lt Q17.out)).trans Q17.out)
    replace Q57 := Lib.hid ((hbr.block _ (row_lt Q57.out)).trans Q57.out)
    replace QC7 := Lib.hid ((hbr.block _ (row_lt QC7.out)).trans QC7.out)
    replace HB7 := Lib.hid (HB7.out.trans (hbr.mono HB7.out.size))
    clear h hbr HPL
    have ee0 := row_cell QE.out (k := 0) (v := .int .i64 oe) rfl
    have ee1 := row_cell QE.out (k := 1) (v := .int .i64 os) rfl
    go_wp2_with fail
    with_reducible refine (settleF_any _ _ _ _ rows owners numbers dealer ss (-1) 0 kk dealer (row : Int) od oe os _ (HG.out _ HB7.out) (HR.out _ HB7.out) (HO.out _ HB7.out) HC7.out HP7.out HKR.out.1 HOC.out).mono ?_
    rintro e w9 ⟨rfl, hb9⟩
    rw [(HSO.out kk).1, (HSO.out kk).2]
    go_wp2_with fail
    go_ret
    exact ⟨rfl, HB7.out.trans (hb9.mono HB7.out.size)⟩

set_option maxRecDepth 100000 in
theorem honestC_any (rv ov mv sv : Value) (rows : List (List Int)) (owners numbers : List Int) (dealer : Int) (ss : List Int) (row : Int) (c : Cmp) (w : World) (hR : Rows2 w rv rows) (hO : Ints w ov owners) (hM : Ints w mv numbers) (_hd : R64 dealer) (hS : Ints w sv ss) (hrow : 0 ≤ row ∧ row < 256) (hc : CmpR c) (hG : Glob w) :
    Calls Tryz.prog 6 #[.agg #[rv, ov], mv, .int .i64 dealer, sv, .int .u8 row, cmpV c] w fun r w' => r = .returned (.bool true) ∧ Below w.heap.size w w' := by
  obtain ⟨r, rfl⟩ := Int.eq_ofNat_of_zero_le hrow.1
  obtain ⟨cd, cr, D, E, S⟩ := c
  exact honest36_any rv ov mv sv rows owners numbers dealer ss r cd cr D E S w hG hR hO hM hS (by omega) hc

end Go.Proofs.YtggnipkfliompaaGreatDoor
