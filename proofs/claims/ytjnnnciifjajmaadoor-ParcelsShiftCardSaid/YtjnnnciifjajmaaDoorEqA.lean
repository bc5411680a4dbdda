/- Package equal: powers, products and challenges. -/
import Derived.Test.YtjnnnciifjajmaaDoorText
import Derived.Test.YtjnnnciifjajmaaDoorHash
namespace Go.Proofs.YtjnnnciifjajmaaDoor
open Go.RowKit FP

set_option maxRecDepth 100000 in
set_option maxHeartbeats 400000 in
theorem epow_any (a n : Int) (w : World) (ha : El a) (hn : R64 n) :
    Calls Tryd.prog 28 #[.int .i64 a, .int .i64 n] w fun e w' => e = .returned (.int .i64 (powE a n)) ∧ Below w.heap.size w w' := by
  go_enter Tryd.func28, Tryd.ntmps28
  go_wp2_with fail
  with_reducible refine (pow_yes a n _ ha hn).mono ?_
  rintro e w1 ⟨rfl, hb⟩
  go_wp2_with fail
  go_ret
  exact ⟨rfl, hb⟩

set_option maxRecDepth 100000 in
set_option maxHeartbeats 400000 in
/-- The product of two elements. -/
theorem emul_two (v : Value) (a b : Int) (w : World) (hI : Ints w v [a, b]) (ha : El a) (hb : El b) :
    Calls Tryd.prog 41 #[v] w fun e w' => e = .returned (.int .i64 (a * b % 2147483579)) ∧ w = w' := by
  obtain ⟨ad, cap, rfl, hcap, hlen, -, hk⟩ := hI
  obtain ⟨bb, off, rfl, c0⟩ := hk 0 (by simp)
  obtain ⟨b2, o2, he, c1⟩ := hk 1 (by simp)
  cases he
  have c0' : w.cell? ⟨bb, off, none⟩ = some (.int .i64 a) := c0
  have c1' : w.cell? ⟨bb, off + 1, none⟩ = some (.int .i64 b) := c1
  have a1 := ha.num
  have HA : Hid (1 * a % 2147483579 = a) := Lib.hid (by rw [Int.one_mul, Int.emod_eq_of_lt a1.1 a1.2])
  clear hk c0 c1 a1
  have HEA := Lib.hid ha
  have HEB := Lib.hid hb
  go_enter Tryd.func41, Tryd.ntmps41
  go_wp2_with fail
  go_loop [3, 8] (fun x i => (i = .int .i64 0 ∧ x = .int .i64 1) ∨ (i = .int .i64 1 ∧ x = .int .i64 a) ∨ (i = .int .i64 2 ∧ x = .int .i64 (a * b % 2147483579))) (fun _ i => 2 - (intOf i).toNat)
  case atStart => exact .inl ⟨rfl, rfl⟩
  case round =>
    rcases hrel with ⟨rfl, rfl⟩ | ⟨rfl, rfl⟩ | ⟨rfl, rfl⟩
    · go_wp2_with fail
      with_reducible refine (mul_yes 1 a _ el_one HEA.out).mono ?_
      rintro e w1 ⟨rfl, rfl⟩
      rw [HA.out]
      go_wp2_with fail
      go_round
      case rel => exact .inr (.inl ⟨rfl, rfl⟩)
      case measure => simp [intOf]
    · go_wp2_with fail
      with_reducible refine (mul_yes a b _ HEA.out HEB.out).mono ?_
      rintro e w1 ⟨rfl, rfl⟩
      go_wp2_with fail
      go_round
      case rel => exact .inr (.inr ⟨rfl, rfl⟩)
      case measure => simp [intOf]
    · go_wp2_with fail
      go_ret
      exact ⟨rfl, rfl⟩

/-- The tags. -/
def tagE : ByteArray := ⟨#[101, 113, 117, 97, 108]⟩
def tagN : ByteArray := ⟨#[101, 113, 117, 97, 108, 32, 110, 111, 110, 99, 101]⟩
/-- E of a statement and what was committed to. -/
def chal (key a d r s : Int) : Int := hashG (strB tagE) (encL [key, a, d, r, s])
theorem chal_num (key a d r s : Int) : 0 ≤ chal key a d r s ∧ chal key a d r s < 1073741789 := hashG_num _ _

theorem ints_made (w : World) (zs : List Int) (t : TypeId) (B : Nat) (hB : w.heap.size = B) (hr : ∀ z ∈ zs, R64 z) (hl : zs.length ≤ 1000) : Ints (w.alloc (.cells (zs.map (Value.int .i64)).toArray t)) (.slice (some ⟨B, 0, none⟩) zs.length zs.length) zs := by
  subst hB
  refine ⟨_, _, rfl, Nat.le_refl _, by omega, hr, fun k hk => ⟨_, _, rfl, ?_⟩⟩
  rw [Nat.zero_add]
  exact row_cell (World.alloc_heap_new w _) (by simp [hk])

theorem below_new (w : World) (c : Array Value) (t : TypeId) : Below w.heap.size w (w.alloc (.cells c t)) := (Below.refl _ _).alloc (Nat.le_refl _) _
set_option maxRecDepth 100000 in
set_option maxHeartbeats 1000000 in
theorem challenge_any (key a d r s : Int) (w : World) (h : ∀ z ∈ [key, a, d, r, s], R64 z) (hG : Glob w) :
    Calls Tryd.prog 31 #[.int .i64 key, .int .i64 a, .int .i64 d, .int .i64 r, .int .i64 s] w fun e w' => e = .returned (.int .i64 (chal key a d r s)) ∧ Below w.heap.size w w' := by
  have hI := Lib.hid (ints_made w [key, a, d, r, s] 3 w.heap.size rfl h (by simp))
  have hb0 := below_new w #[.int .i64 key, .int .i64 a, .int .i64 d, .int .i64 r, .int .i64 s] 3
  go_enter Tryd.func31, Tryd.ntmps31
  go_wp2_with fail
  refine (text_any _ [key, a, d, r, s] _ hI.out (by simp)).mono ?_
  rintro e w1 ⟨v1, rfl, hv1, hb1⟩
  have hb01 := hb0.trans (hb1.mono hb0.size)
  have HV := Lib.hid hv1
  clear hv1
  go_wp2_with fail
  refine (hash_any tagE v1 (encL [key, a, d, r, s]) _ (by decide) HV.out (encL_pos _) (by have := encL_len h (by simp); simp at this; omega) (hG.below hb01)).mono ?_
  rintro e w2 ⟨rfl, hb2⟩
  go_wp2_with fail
  go_ret
  exact ⟨rfl, hb01.trans (hb2.mono hb01.size)⟩

/-- Is a number from 0 to Q - 1? -/
def nQB (n : Int) : Bool := decide (0 ≤ n) && decide (n < 1073741789)
theorem nQB_iff {n : Int} : nQB n = true ↔ 0 ≤ n ∧ n < 1073741789 := by unfold nQB; rw [Bool.and_eq_true, decide_eq_true_eq, decide_eq_true_eq]
set_option maxRecDepth 100000 in
set_option maxHeartbeats 400000 in
theorem inOrder_any (n : Int) (w : World) (hn : R64 n) :
    Calls Tryd.prog 39 #[.int .i64 n] w fun e w' => e = .returned (.bool (nQB n)) ∧ w = w' := by
  obtain ⟨n1, n2⟩ := hn
  by_cases h1 : 0 ≤ n
  · have H := Lib.hid (show nQB n = decide (n < 1073741789) by unfold nQB; rw [decide_eq_true h1, Bool.true_and])
    go_enter Tryd.func39, Tryd.ntmps39
    go_wp2_with fail
    go_ret
    exact ⟨ret_bool H.out.symm, rfl⟩
  · have H := Lib.hid (show nQB n = false by unfold nQB; rw [decide_eq_false h1, Bool.false_and])
    go_enter Tryd.func39, Tryd.ntmps39
    go_wp2_with fail
    go_ret
    exact ⟨ret_bool H.out.symm, rfl⟩

set_option maxRecDepth 100000 in
set_option maxHeartbeats 1000000 in
/-- Check's first condition. -/
theorem check1_any (kb ab db : Nat) (key a d : Int) (w : World) (hk : R64 key) (ha : R64 a) (hd : R64 d) (c0 : w.cell? ⟨kb, 0, none⟩ = some (.int .i64 key)) (c1 : w.cell? ⟨ab, 0, none⟩ = some (.int .i64 a)) (c2 : w.cell? ⟨db, 0, none⟩ = some (.int .i64 d)) :
    Calls Tryd.prog 36 #[.pointer (some ⟨kb, 0, none⟩), .pointer (some ⟨ab, 0, none⟩), .pointer (some ⟨db, 0, none⟩)] w fun e w' => e = .returned (.bool (elB key && (elB a && elB d))) ∧ w = w' := by
  go_enter Tryd.func36, Tryd.ntmps36
  go_wp2_with fail
  with_reducible refine (valid_any _ _ hk).mono ?_
  rintro e w1 ⟨rfl, rfl⟩
  cases e1 : elB key with
  | false =>
    have E1 := Lib.hid e1
    clear e1
    go_wp2_with fail
    go_ret
    exact ⟨ret_bool (by rw [E1.out]; rfl), rfl⟩
  | true =>
    have E1 := Lib.hid e1
    clear e1
    go_wp2_with fail
    with_reducible refine (valid_any _ _ ha).mono ?_
    rintro e w1 ⟨rfl, rfl⟩
    cases e2 : elB a with
    | false =>
      have E2 := Lib.hid e2
      clear e2
      go_wp2_with fail
      go_ret
      exact ⟨ret_bool (by rw [E1.out, E2.out]; rfl), rfl⟩
    | true =>
      have E2 := Lib.hid e2
      clear e2
      go_wp2_with fail
      with_reducible refine (valid_any _ _ hd).mono ?_
      rintro e w1 ⟨rfl, rfl⟩
      go_wp2_with fail
      go_ret
      exact ⟨ret_bool (by rw [E1.out, E2.out, Bool.true_and, Bool.true_and]), rfl⟩

set_option maxRecDepth 100000 in
set_option maxHeartbeats 1000000 in
/-- Check's second condition. -/
theorem check2_any (pb : Nat) (E S : Int) (w : World) (hE : R64 E) (hS : R64 S) (c0 : w.cell? ⟨pb, 0, none⟩ = some (.int .i64 E)) (c1 : w.cell? ⟨pb, 1, none⟩ = some (.int .i64 S)) :
    Calls Tryd.prog 38 #[.pointer (some ⟨pb, 0, none⟩)] w fun e w' => e = .returned (.bool (nQB E && nQB S)) ∧ w = w' := by
  go_enter Tryd.func38, Tryd.ntmps38
  go_wp2_with fail
  with_reducible refine (inOrder_any _ _ hE).mono ?_
  rintro e w1 ⟨rfl, rfl⟩
  cases e1 : nQB E with
  | false =>
    have E1 := Lib.hid e1
    clear e1
    go_wp2_with fail
    go_ret
    exact ⟨ret_bool (by rw [E1.out]; rfl), rfl⟩
  | true =>
    have E1 := Lib.hid e1
    clear e1
    go_wp2_with fail
    with_reducible refine (inOrder_any _ _ hS).mono ?_
    rintro e w1 ⟨rfl, rfl⟩
    go_wp2_with fail
    go_ret
    exact ⟨ret_bool (by rw [E1.out, Bool.true_and]), rfl⟩

end Go.Proofs.YtjnnnciifjajmaaDoor
