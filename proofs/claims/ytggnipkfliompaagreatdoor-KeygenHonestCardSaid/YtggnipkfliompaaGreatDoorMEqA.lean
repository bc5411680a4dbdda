/- Package equal: powers, products and challenges. The generator of the group, and what a proof of equality commits to. Package equal: Check. Package equal: Check, whole. Package equal: Prove. Package parcels, in plain Lean: pads, conditions, errors. Package complaints: parcels as lists; an append of a parcel. -/
import Derived.Test.YtggnipkfliompaaGreatDoorMCodD
import Derived.Test.YtggnipkfliompaaGreatDoorMRange3
import Derived.Test.YtggnipkfliompaaGreatDoorMFq
import Derived.Test.YtggnipkfliompaaGreatDoorMBase
import Derived.Test.YtggnipkfliompaaGreatDoorMLinQ
import Derived.Deep.RegionWith
import Derived.Lib.MinMax
namespace Go.Proofs.YtggnipkfliompaaGreatDoor
open Go.RowKit FP

set_option maxRecDepth 100000 in
set_option maxHeartbeats 400000 in
theorem epow_any (a n : Int) (w : World) (ha : El a) (hn : R64 n) :
    Calls Tryz.prog 79 #[.int .i64 a, .int .i64 n] w fun e w' => e = .returned (.int .i64 (powE a n)) ∧ Below w.heap.size w w' := by
  go_enter Tryz.func79, Tryz.ntmps79
  go_wp2_with fail
  with_reducible refine (pow_yes a n _ ha hn).mono ?_
  rintro e w1 ⟨rfl, hb⟩
  go_wp2_with fail
  go_ret
  exact ⟨rfl, hb⟩

set_option maxRecDepth 100000 in
set_option maxHeartbeats 400000 in
/-- The product of two elements. -/
theorem emul_two (v : Value) (a b : Int) (w : World) (hI : Ints w v [a, b]) (ha : El a) (hb : El b) :
    Calls Tryz.prog 78 #[v] w fun e w' => e = .returned (.int .i64 (a * b % 2147483579)) ∧ w = w' := by
  obtain ⟨ad, cap, rfl, hcap, hlen, -, hk⟩ := hI
  obtain ⟨bb, off, rfl, c0⟩ := hk 0 (by simp)
  obtain ⟨b2, o2, he, c1⟩ := hk 1 (by simp)
  cases he
  have c0' : w.cell? ⟨bb, off, none⟩ = some (.int .i64 a) := c0
  have c1' : w.cell? ⟨bb, off + 1, none⟩ = some (.int .i64 b) := c1
  have a1 := ha.num
  have HA : Hid (1 * a % 2147483579 = a) := Lib.hid (by rw [Int.one_mul, Int.emod_eq_of_lt a1.1 a1.2])
  clear hk c0 c1 a1
  have HEA := Lib.hid ha
  have HEB := Lib.hid hb
  go_enter Tryz.func78, Tryz.ntmps78
  go_wp2_with fail
  go_loop [3, 8] (fun x i => (i = .int .i64 0 ∧ x = .int .i64 1) ∨ (i = .int .i64 1 ∧ x = .int .i64 a) ∨ (i = .int .i64 2 ∧ x = .int .i64 (a * b % 2147483579))) (fun _ i => 2 - (intOf i).toNat)
  case atStart => exact .inl ⟨rfl, rfl⟩
  case round =>
    rcases hrel with ⟨rfl, rfl⟩ | ⟨rfl, rfl⟩ | ⟨rfl, rfl⟩
    · go_wp2_with fail
      with_reducible refine (mul_yes 1 a _ el_one HEA.out).mono ?_
      rintro e w1 ⟨rfl, rfl⟩
      rw [HA.out]
      go_wp2_with fail
      go_round
      case rel => exact .inr (.inl ⟨rfl, rfl⟩)
      case measure => simp [intOf]
    · go_wp2_with fail
      with_reducible refine (mul_yes a b _ HEA.out HEB.out).mono ?_
      rintro e w1 ⟨rfl, rfl⟩
      go_wp2_with fail
      go_round
      case rel => exact .inr (.inr ⟨rfl, rfl⟩)
      case measure => simp [intOf]
    · go_wp2_with fail
      go_ret
      exact ⟨rfl, rfl⟩

/-- The tags. -/
def tagE : ByteArray := ⟨#[101, 113, 117, 97, 108]⟩
def tagN : ByteArray := ⟨#[101, 113, 117, 97, 108, 32, 110, 111, 110, 99, 101]⟩
/-- E of a statement and what was committed to. -/
def chal (key a d r s : Int) : Int := hashG (strB tagE) (encL [key, a, d, r, s])
theorem chal_num (key a d r s : Int) : 0 ≤ chal key a d r s ∧ chal key a d r s < 1073741789 := hashG_num _ _

theorem ints_made (w : World) (zs : List Int) (t : TypeId) (B : Nat) (hB : w.heap.size = B) (hr : ∀ z ∈ zs, R64 z) (hl : zs.length ≤ 1000) : Ints (w.alloc (.cells (zs.map (Value.int .i64)).toArray t)) (.slice (some ⟨B, 0, none⟩) zs.length zs.length) zs := by
  subst hB
  refine ⟨_, _, rfl, Nat.le_refl _, by omega, hr, fun k hk => ⟨_, _, rfl, ?_⟩⟩
  rw [Nat.zero_add]
  exact row_cell (World.alloc_heap_new w _) (by simp [hk])

set_option maxRecDepth 100000 in
set_option maxHeartbeats 1000000 in
theorem challenge_any (key a d r s : Int) (w : World) (h : ∀ z ∈ [key, a, d, r, s], R64 z) (hG : Glob w) :
    Calls Tryz.prog 80 #[.int .i64 key, .int .i64 a, .int .i64 d, .int .i64 r, .int .i64 s] w fun e w' => e = .returned (.int .i64 (chal key a d r s)) ∧ Below w.heap.size w w' := by
  have hI := Lib.hid (ints_made w [key, a, d, r, s] 3 w.heap.size rfl h (by simp))
  have hb0 := below_new w #[.int .i64 key, .int .i64 a, .int .i64 d, .int .i64 r, .int .i64 s] 3
  go_enter Tryz.func80, Tryz.ntmps80
  go_wp2_with fail
  refine (text_any _ [key, a, d, r, s] _ hI.out (by simp)).mono ?_
  rintro e w1 ⟨v1, rfl, hv1, hb1⟩
  have hb01 := hb0.trans (hb1.mono hb0.size)
  have HV := Lib.hid hv1
  clear hv1
  go_wp2_with fail
  refine (hash_any tagE v1 (encL [key, a, d, r, s]) _ (by decide) HV.out (encL_pos _) (by have := encL_len h (by simp); simp at this; omega) (hG.below hb01)).mono ?_
  rintro e w2 ⟨rfl, hb2⟩
  go_wp2_with fail
  go_ret
  exact ⟨rfl, hb01.trans (hb2.mono hb01.size)⟩

/-- Is a number from 0 to Q - 1? -/
def nQB (n : Int) : Bool := decide (0 ≤ n) && decide (n < 1073741789)
theorem nQB_iff {n : Int} : nQB n = true ↔ 0 ≤ n ∧ n < 1073741789 := by unfold nQB; rw [Bool.and_eq_true, decide_eq_true_eq, decide_eq_true_eq]
set_option maxRecDepth 100000 in
set_option maxHeartbeats 400000 in
theorem inOrder_any (n : Int) (w : World) (hn : R64 n) :
    Calls Tryz.prog 76 #[.int .i64 n] w fun e w' => e = .returned (.bool (nQB n)) ∧ w = w' := by
  obtain ⟨n1, n2⟩ := hn
  by_cases h1 : 0 ≤ n
  · have H := Lib.hid (show nQB n = decide (n < 1073741789) by unfold nQB; rw [decide_eq_true h1, Bool.true_and])
    go_enter Tryz.func76, Tryz.ntmps76
    go_wp2_with fail
    go_ret
    exact ⟨ret_bool H.out.symm, rfl⟩
  · have H := Lib.hid (show nQB n = false by unfold nQB; rw [decide_eq_false h1, Bool.false_and])
    go_enter Tryz.func76, Tryz.ntmps76
    go_wp2_with fail
    go_ret
    exact ⟨ret_bool H.out.symm, rfl⟩

set_option maxRecDepth 100000 in
set_option maxHeartbeats 1000000 in
/-- Check's first condition. -/
theorem check1_any (kb ab db : Nat) (key a d : Int) (w : World) (hk : R64 key) (ha : R64 a) (hd : R64 d) (c0 : w.cell? ⟨kb, 0, none⟩ = some (.int .i64 key)) (c1 : w.cell? ⟨ab, 0, none⟩ = some (.int .i64 a)) (c2 : w.cell? ⟨db, 0, none⟩ = some (.int .i64 d)) :
    Calls Tryz.prog 74 #[.pointer (some ⟨kb, 0, none⟩), .pointer (some ⟨ab, 0, none⟩), .pointer (some ⟨db, 0, none⟩)] w fun e w' => e = .returned (.bool (elB key && (elB a && elB d))) ∧ w = w' := by
  go_enter Tryz.func74, Tryz.ntmps74
  go_wp2_with fail
  with_reducible refine (valid_any _ _ hk).mono ?_
  rintro e w1 ⟨rfl, rfl⟩
  cases e1 : elB key with
  | false =>
    have E1 := Lib.hid e1
    clear e1
    go_wp2_with fail
    go_ret
    exact ⟨ret_bool (by rw [E1.out]; rfl), rfl⟩
  | true =>
    have E1 := Lib.hid e1
    clear e1
    go_wp2_with fail
    with_reducible refine (valid_any _ _ ha).mono ?_
    rintro e w1 ⟨rfl, rfl⟩
    cases e2 : elB a with
    | false =>
      have E2 := Lib.hid e2
      clear e2
      go_wp2_with fail
      go_ret
      exact ⟨ret_bool (by rw [E1.out, E2.out]; rfl), rfl⟩
    | true =>
      have E2 := Lib.hid e2
      clear e2
      go_wp2_with fail
      with_reducible refine (valid_any _ _ hd).mono ?_
      rintro e w1 ⟨rfl, rfl⟩
      go_wp2_with fail
      go_ret
      exact ⟨ret_bool (by rw [E1.out, E2.out, Bool.true_and, Bool.true_and]), rfl⟩

set_option maxRecDepth 100000 in
set_option maxHeartbeats 1000000 in
/-- Check's second condition. -/
theorem check2_any (pb : Nat) (E S : Int) (w : World) (hE : R64 E) (hS : R64 S) (c0 : w.cell? ⟨pb, 0, none⟩ = some (.int .i64 E)) (c1 : w.cell? ⟨pb, 1, none⟩ = some (.int .i64 S)) :
    Calls Tryz.prog 75 #[.pointer (some ⟨pb, 0, none⟩)] w fun e w' => e = .returned (.bool (nQB E && nQB S)) ∧ w = w' := by
  go_enter Tryz.func75, Tryz.ntmps75
  go_wp2_with fail
  with_reducible refine (inOrder_any _ _ hE).mono ?_
  rintro e w1 ⟨rfl, rfl⟩
  cases e1 : nQB E with
  | false =>
    have E1 := Lib.hid e1
    clear e1
    go_wp2_with fail
    go_ret
    exact ⟨ret_bool (by rw [E1.out]; rfl), rfl⟩
  | true =>
    have E1 := Lib.hid e1
    clear e1
    go_wp2_with fail
    with_reducible refine (inOrder_any _ _ hS).mono ?_
    rintro e w1 ⟨rfl, rfl⟩
    go_wp2_with fail
    go_ret
    exact ⟨ret_bool (by rw [E1.out, Bool.true_and]), rfl⟩

end Go.Proofs.YtggnipkfliompaaGreatDoor

namespace Go.Proofs.YtggnipkfliompaaGreatDoor
open FP

theorem el_four : El 4 := by
  refine el_of (by omega) ?_
  have e : cp 4 = cp 2 * cp 2 := by rw [← cp_mul]; rfl
  have h2 : cp 2 ≠ 0 := fun h => by rw [cp_zero] at h; exact absurd h (by decide)
  obtain ⟨n, hn, hq⟩ : ∃ n : Nat, n + 1 + 1 = 2147483579 ∧ nQ + nQ = n + 1 := ⟨2147483577, rfl, rfl⟩
  rw [e, fp_prod, ← fp_add, hq, FP.pow_s]
  exact FP.fermat_n n hn h2
theorem four_ne : (4 : Int) ≠ 1 := by decide
/-- What a proof commits to. -/
def rE (key E S : Int) : Int := powE 4 S * powE key (-E) % 2147483579
def sE (a d E S : Int) : Int := powE a S * powE d (-E) % 2147483579
theorem el_rE {key : Int} (h : El key) (E S : Int) : El (rE key E S) := el_mul (el_powE el_four _) (el_powE h _)
theorem el_sE {a d : Int} (ha : El a) (hd : El d) (E S : Int) : El (sE a d E S) := el_mul (el_powE ha _) (el_powE hd _)
/-- An honest proof commits to the powers with the nonce. -/
theorem sE_honest {a : Int} (ha : El a) (x k E : Int) : sE a (powE a x) E ((k + E * x) % 1073741789) = powE a k := by
  unfold sE
  rw [powE_mod, powE_mul ha, ← powE_add ha]
  congr 1
  grind
theorem rE_honest (x k E : Int) : rE (powE 4 x) E ((k + E * x) % 1073741789) = powE 4 k := sE_honest el_four x k E

end Go.Proofs.YtggnipkfliompaaGreatDoor

namespace Go.Proofs.YtggnipkfliompaaGreatDoor
open Go.RowKit FP

theorem pair_ints (w : World) (x y : Int) (t : TypeId) (B : Nat) (hB : w.heap.size = B) (hx : R64 x) (hy : R64 y) : Ints (w.alloc (.cells #[.int .i64 x, .int .i64 y] t)) (.slice (some ⟨B, 0, none⟩) 2 2) [x, y] :=
  ints_made w [x, y] t B hB (by intro z hz; simp at hz; rcases hz with rfl | rfl; exact hx; exact hy) (by simp)

set_option maxRecDepth 100000 in
set_option maxHeartbeats 2000000 in
/-- Check's third condition, for elements and numbers from 0 to Q - 1. -/
theorem check3_any (pb kb ab db : Nat) (key a d E S : Int) (w : World) (hk : El key) (ha : El a) (hd : El d) (hE : 0 ≤ E ∧ E < 1073741789) (hS : 0 ≤ S ∧ S < 1073741789)
    (p0 : w.cell? ⟨pb, 0, none⟩ = some (.int .i64 E)) (p1 : w.cell? ⟨pb, 1, none⟩ = some (.int .i64 S)) (c0 : w.cell? ⟨kb, 0, none⟩ = some (.int .i64 key)) (c1 : w.cell? ⟨ab, 0, none⟩ = some (.int .i64 a)) (c2 : w.cell? ⟨db, 0, none⟩ = some (.int .i64 d)) (hG : Glob w) :
    Calls Tryz.prog 77 #[.pointer (some ⟨pb, 0, none⟩), .pointer (some ⟨kb, 0, none⟩), .pointer (some ⟨ab, 0, none⟩), .pointer (some ⟨db, 0, none⟩)] w fun e w' => e = .returned (.bool (E == chal key a d (rE key E S) (sE a d E S))) ∧ Below w.heap.size w w' := by
  obtain ⟨E1, E2⟩ := hE
  obtain ⟨S1, S2⟩ := hS
  have hE64 : R64 (-E) := ⟨by omega, by omega⟩
  have hS64 : R64 S := ⟨by omega, by omega⟩
  have hwE := IntWalk.i64_in (-E) (by omega)
  have e1 := el_powE el_four S
  have e2 := el_powE hk (-E)
  have e3 := el_powE ha S
  have e4 := el_powE hd (-E)
  obtain ⟨r, hr⟩ : ∃ r, r = rE key E S := ⟨_, rfl⟩
  have HR1 : Hid (powE 4 S * powE key (-E) % 2147483579 = r) := Lib.hid hr.symm
  obtain ⟨s, hs⟩ : ∃ s, s = sE a d E S := ⟨_, rfl⟩
  have HR2 : Hid (powE a S * powE d (-E) % 2147483579 = s) := Lib.hid hs.symm
  have hrr : R64 r := by rw [hr]; exact (el_rE hk E S).r64
  have hss : R64 s := by rw [hs]; exact (el_sE ha hd E S).r64
  rw [← hr, ← hs]
  have HC := Lib.hid (show ∀ z ∈ [key, a, d, r, s], R64 z by intro z hz; simp at hz; rcases hz with rfl | rfl | rfl | rfl | rfl; exact hk.r64; exact ha.r64; exact hd.r64; exact hrr; exact hss)
  clear hr hs
  go_enter Tryz.func77, Tryz.ntmps77
  go_wp2_with fail
  go_region_held3 (fun w' => w'.cell? ⟨pb, 0, none⟩ = some (.int .i64 E) ∧ w'.cell? ⟨pb, 1, none⟩ = some (.int .i64 S) ∧ w'.cell? ⟨kb, 0, none⟩ = some (.int .i64 key) ∧ w'.cell? ⟨ab, 0, none⟩ = some (.int .i64 a) ∧ w'.cell? ⟨db, 0, none⟩ = some (.int .i64 d)) (go_keep)
    (first
      | (go_at_call 79; (with_reducible refine (epow_any 4 S _ el_four hS64).mono ?_); rintro e w6 ⟨rfl, hb6⟩; have hb6_0 : w6.cell? ⟨pb, 0, none⟩ = some (.int .i64 E) := below_cell hb6 (by first | assumption | exact below_cell (below_new _ _ _) (by assumption)); have hb6_1 : w6.cell? ⟨pb, 1, none⟩ = some (.int .i64 S) := below_cell hb6 (by first | assumption | exact below_cell (below_new _ _ _) (by assumption)); have hb6_2 : w6.cell? ⟨kb, 0, none⟩ = some (.int .i64 key) := below_cell hb6 (by first | assumption | exact below_cell (below_new _ _ _) (by assumption)); have hb6_3 : w6.cell? ⟨ab, 0, none⟩ = some (.int .i64 a) := below_cell hb6 (by first | assumption | exact below_cell (below_new _ _ _) (by assumption)); have hb6_4 : w6.cell? ⟨db, 0, none⟩ = some (.int .i64 d) := below_cell hb6 (by first | assumption | exact below_cell (below_new _ _ _) (by assumption)))
      | (go_at_call 79; (with_reducible refine (epow_any key (-E) _ hk hE64).mono ?_); rintro e w7 ⟨rfl, hb7⟩; have hb7_0 : w7.cell? ⟨pb, 0, none⟩ = some (.int .i64 E) := below_cell hb7 (by first | assumption | exact below_cell (below_new _ _ _) (by assumption)); have hb7_1 : w7.cell? ⟨pb, 1, none⟩ = some (.int .i64 S) := below_cell hb7 (by first | assumption | exact below_cell (below_new _ _ _) (by assumption)); have hb7_2 : w7.cell? ⟨kb, 0, none⟩ = some (.int .i64 key) := below_cell hb7 (by first | assumption | exact below_cell (below_new _ _ _) (by assumption)); have hb7_3 : w7.cell? ⟨ab, 0, none⟩ = some (.int .i64 a) := below_cell hb7 (by first | assumption | exact below_cell (below_new _ _ _) (by assumption)); have hb7_4 : w7.cell? ⟨db, 0, none⟩ = some (.int .i64 d) := below_cell hb7 (by first | assumption | exact below_cell (below_new _ _ _) (by assumption)))
      | (go_at_call 79; (with_reducible refine (epow_any a S _ ha hS64).mono ?_); rintro e w8 ⟨rfl, hb8⟩; have hb8_0 : w8.cell? ⟨pb, 0, none⟩ = some (.int .i64 E) := below_cell hb8 (by first | assumption | exact below_cell (below_new _ _ _) (by assumption)); have hb8_1 : w8.cell? ⟨pb, 1, none⟩ = some (.int .i64 S) := below_cell hb8 (by first | assumption | exact below_cell (below_new _ _ _) (by assumption)); have hb8_2 : w8.cell? ⟨kb, 0, none⟩ = some (.int .i64 key) := below_cell hb8 (by first | assumption | exact below_cell (below_new _ _ _) (by assumption)); have hb8_3 : w8.cell? ⟨ab, 0, none⟩ = some (.int .i64 a) := below_cell hb8 (by first | assumption | exact below_cell (below_new _ _ _) (by assumption)); have hb8_4 : w8.cell? ⟨db, 0, none⟩ = some (.int .i64 d) := below_cell hb8 (by first | assumption | exact below_cell (below_new _ _ _) (by assumption)))
      | (go_at_call 79; (with_reducible refine (epow_any d (-E) _ hd hE64).mono ?_); rintro e w9 ⟨rfl, hb9⟩; have hb9_0 : w9.cell? ⟨pb, 0, none⟩ = some (.int .i64 E) := below_cell hb9 (by first | assumption | exact below_cell (below_new _ _ _) (by assumption)); have hb9_1 : w9.cell? ⟨pb, 1, none⟩ = some (.int .i64 S) := below_cell hb9 (by first | assumption | exact below_cell (below_new _ _ _) (by assumption)); have hb9_2 : w9.cell? ⟨kb, 0, none⟩ = some (.int .i64 key) := below_cell hb9 (by first | assumption | exact below_cell (below_new _ _ _) (by assumption)); have hb9_3 : w9.cell? ⟨ab, 0, none⟩ = some (.int .i64 a) := below_cell hb9 (by first | assumption | exact below_cell (below_new _ _ _) (by assumption)); have hb9_4 : w9.cell? ⟨db, 0, none⟩ = some (.int .i64 d) := below_cell hb9 (by first | assumption | exact below_cell (below_new _ _ _) (by assumption)))
      | (go_at_call 78; (refine (emul_two _ (powE 4 S) (powE key (-E)) _ (pair_ints _ _ _ _ _ rfl e1.r64 e2.r64) e1 e2).mono ?_); rintro e w10 ⟨rfl, rfl⟩)
      | (go_at_call 78; (refine (emul_two _ (powE a S) (powE d (-E)) _ (pair_ints _ _ _ _ _ rfl e3.r64 e4.r64) e3 e4).mono ?_); rintro e w11 ⟨rfl, rfl⟩))
  rw [HR1.out, HR2.out]
  clear HR1 HR2 e1 e2 e3 e4 hwE hE64 hS64
  have h1 : Below w.heap.size w w6 := (Below.refl _ _).drew.trans hb6
  have h2 := h1.trans (hb7.mono h1.size)
  have h3 := h2.alloc h2.size (.cells #[.int .i64 (powE 4 S), .int .i64 (powE key (-E))] 3)
  have h4 := h3.trans (hb8.mono h3.size)
  have h5 := h4.trans (hb9.mono h4.size)
  have h6 := h5.alloc h5.size (.cells #[.int .i64 (powE a S), .int .i64 (powE d (-E))] 3)
  generalize w9.alloc (.cells #[.int .i64 (powE a S), .int .i64 (powE d (-E))] 3) = W5 at *
  have q0 := below_cell h6 p0
  have q2 := below_cell h6 c0
  have q3 := below_cell h6 c1
  have q4 := below_cell h6 c2
  have hG5 := hG.below h6
  have HG5 : Hid (Glob W5.drew) := Lib.hid ⟨hG5.num, hG5.sta⟩
  have H6 := Lib.hid h6
  clear h1 h2 h3 h4 h5 hb6 hb7 hb8 hb9 h6 hG5
  go_wp2_with fail
  go_region_held3 (fun w' => w'.cell? ⟨pb, 0, none⟩ = some (.int .i64 E) ∧ w'.cell? ⟨kb, 0, none⟩ = some (.int .i64 key) ∧ w'.cell? ⟨ab, 0, none⟩ = some (.int .i64 a) ∧ w'.cell? ⟨db, 0, none⟩ = some (.int .i64 d)) (go_keep)
    (first
      | (go_at_call 80; (with_reducible refine (challenge_any key a d r s _ HC.out HG5.out).mono ?_); rintro e w12 ⟨rfl, hb12⟩; have t0 := below_cell hb12 q0; have t1 := below_cell hb12 q2; have t2 := below_cell hb12 q3; have t3 := below_cell hb12 q4))
  go_wp2_with fail
  go_ret
  exact ⟨rfl, H6.out.trans (((Below.refl _ _).drew.trans hb12).mono H6.out.size)⟩

end Go.Proofs.YtggnipkfliompaaGreatDoor

namespace Go.Proofs.YtggnipkfliompaaGreatDoor
open Go.RowKit FP

/-- Is a proof right? -/
def chkB (key a d E S : Int) : Bool := (elB key && (elB a && elB d)) && ((nQB E && nQB S) && (E == chal key a d (rE key E S) (sE a d E S)))
/-- The cells that Check makes. -/
structure ChkW (w : World) (key a d E S : Int) (W : World) : Prop where
  be : Below w.heap.size w W
  k : W.cell? ⟨w.heap.size, 0, none⟩ = some (.int .i64 key)
  a : W.cell? ⟨w.heap.size + 1, 0, none⟩ = some (.int .i64 a)
  d : W.cell? ⟨w.heap.size + 1 + 1, 0, none⟩ = some (.int .i64 d)
  p0 : W.cell? ⟨w.heap.size + 1 + 1 + 1, 0, none⟩ = some (.int .i64 E)
  p1 : W.cell? ⟨w.heap.size + 1 + 1 + 1, 1, none⟩ = some (.int .i64 S)
  f0 : W.cell? ⟨w.heap.size + 1 + 1 + 1 + 1, 0, none⟩ = some (.func (.func 74) #[] #[.pointer (some ⟨w.heap.size, 0, none⟩), .pointer (some ⟨w.heap.size + 1, 0, none⟩), .pointer (some ⟨w.heap.size + 1 + 1, 0, none⟩)])
  f1 : W.cell? ⟨w.heap.size + 1 + 1 + 1 + 1, 1, none⟩ = some (.func (.func 75) #[] #[.pointer (some ⟨w.heap.size + 1 + 1 + 1, 0, none⟩)])
  f2 : W.cell? ⟨w.heap.size + 1 + 1 + 1 + 1, 2, none⟩ = some (.func (.func 77) #[] #[.pointer (some ⟨w.heap.size + 1 + 1 + 1, 0, none⟩), .pointer (some ⟨w.heap.size, 0, none⟩), .pointer (some ⟨w.heap.size + 1, 0, none⟩), .pointer (some ⟨w.heap.size + 1 + 1, 0, none⟩)])
theorem ChkW.below {w : World} {key a d E S : Int} {W W' : World} (h : ChkW w key a d E S W) (hb : Below W.heap.size W W') : ChkW w key a d E S W' :=
  ⟨h.be.trans (hb.mono h.be.size), below_cell hb h.k, below_cell hb h.a, below_cell hb h.d, below_cell hb h.p0, below_cell hb h.p1, below_cell hb h.f0, below_cell hb h.f1, below_cell hb h.f2⟩

set_option maxRecDepth 100000 in
set_option maxHeartbeats 2000000 in
theorem check_any (key a d E S : Int) (w : World) (hk : R64 key) (ha : R64 a) (hd : R64 d) (hE : R64 E) (hS : R64 S) (hG : Glob w) :
    Calls Tryz.prog 22 #[.int .i64 key, .int .i64 a, .int .i64 d, .agg #[.int .i64 E, .int .i64 S]] w fun e w' => e = .returned (.bool (chkB key a d E S)) ∧ Below w.heap.size w w' := by
  have hmf : ∀ (fn : Fn) (first cap : Array Value) (w : World), (Instr.makeFunc fn first cap).run Tryz.prog w = .ok (.func fn first cap) w := fun _ _ _ _ => rfl
  go_enter Tryz.func22, Tryz.ntmps22
  go_wp2_with fail
  have h0 : ChkW w key a d E S (((((w.alloc (.cells #[.int .i64 key] 3)).alloc (.cells #[.int .i64 a] 3)).alloc (.cells #[.int .i64 d] 3)).alloc (.cells #[.int .i64 E, .int .i64 S] 32)).alloc (.cells #[.func (.func 74) #[] #[.pointer (some ⟨w.heap.size, 0, none⟩), .pointer (some ⟨w.heap.size + 1, 0, none⟩), .pointer (some ⟨w.heap.size + 1 + 1, 0, none⟩)], .func (.func 75) #[] #[.pointer (some ⟨w.heap.size + 1 + 1 + 1, 0, none⟩)], .func (.func 77) #[] #[.pointer (some ⟨w.heap.size + 1 + 1 + 1, 0, none⟩), .pointer (some ⟨w.heap.size, 0, none⟩), .pointer (some ⟨w.heap.size + 1, 0, none⟩), .pointer (some ⟨w.heap.size + 1 + 1, 0, none⟩)]] 29)) := by
    refine ⟨by repeat (first | exact Below.refl _ _ | refine Below.alloc ?_ (by simp; try omega) _), ?_, ?_, ?_, ?_, ?_, ?_, ?_, ?_⟩ <;> simp [go_sem]
  go_loopw [16] (fun i W => ChkW w key a d E S W ∧ ((i = .int .i64 0) ∨ (i = .int .i64 1 ∧ (elB key && (elB a && elB d)) = true) ∨ (i = .int .i64 2 ∧ (elB key && (elB a && elB d)) = true ∧ (nQB E && nQB S) = true) ∨ (i = .int .i64 3 ∧ chkB key a d E S = true))) (fun i _ => 3 - (intOf i).toNat)
  case atStart => exact ⟨h0, .inl rfl⟩
  case round =>
    clear h0
    obtain ⟨hW, hr⟩ := hrel
    obtain ⟨hbe, ck, ca, cd, cp0, cp1, cf0, cf1, cf2⟩ := id hW
    have HW := Lib.hid hW
    clear hW
    rcases hr with rfl | ⟨rfl, t1⟩ | ⟨rfl, t1, t2⟩ | ⟨rfl, t3⟩
    · go_wp2_with fail
      refine (check1_any _ _ _ key a d _ hk ha hd ck ca cd).mono ?_
      rintro e w1 ⟨rfl, rfl⟩
      cases e1 : (elB key && (elB a && elB d)) with
      | false =>
        have E1 := Lib.hid e1
        clear e1
        go_wp2_with fail
        go_ret
        exact ⟨ret_bool (by unfold chkB; rw [E1.out]; rfl), hbe⟩
      | true =>
        have E1 := Lib.hid e1
        clear e1
        go_wp2_with fail
        go_roundw
        case rel => exact ⟨HW.out, .inr (.inl ⟨rfl, E1.out⟩)⟩
        case measure => simp [intOf]
    · have T1 := Lib.hid t1
      clear t1
      go_wp2_with fail
      refine (check2_any _ E S _ hE hS cp0 cp1).mono ?_
      rintro e w1 ⟨rfl, rfl⟩
      cases e1 : (nQB E && nQB S) with
      | false =>
        have E1 := Lib.hid e1
        clear e1
        go_wp2_with fail
        go_ret
        exact ⟨ret_bool (by unfold chkB; rw [E1.out, T1.out]; rfl), hbe⟩
      | true =>
        have E1 := Lib.hid e1
        clear e1
        go_wp2_with fail
        go_roundw
        case rel => exact ⟨HW.out, .inr (.inr (.inl ⟨rfl, T1.out, E1.out⟩))⟩
        case measure => simp [intOf]
    · have T1 := Lib.hid t1
      have T2 := Lib.hid t2
      rw [Bool.and_eq_true, Bool.and_eq_true, elB_iff, elB_iff, elB_iff] at t1
      rw [Bool.and_eq_true, nQB_iff, nQB_iff] at t2
      obtain ⟨k1, k2, k3⟩ := t1
      obtain ⟨n1, n2⟩ := t2
      have hGr := hG.below hbe
      have HC3 := Lib.hid (check3_any _ _ _ _ key a d E S wr k1 k2 k3 n1 n2 cp0 cp1 ck ca cd hGr)
      clear k1 k2 k3 n1 n2 hGr
      go_wp2_with fail
      refine HC3.out.mono ?_
      rintro e w1 ⟨rfl, hb1⟩
      have HCH := Lib.hid (show chkB key a d E S = (E == chal key a d (rE key E S) (sE a d E S)) by unfold chkB; rw [T1.out, T2.out, Bool.true_and, Bool.true_and])
      cases e1 : (E == chal key a d (rE key E S) (sE a d E S)) with
      | false =>
        have E1 := Lib.hid e1
        clear e1
        go_wp2_with fail
        go_ret
        exact ⟨ret_bool (by rw [HCH.out, E1.out]), hbe.trans (hb1.mono hbe.size)⟩
      | true =>
        have E1 := Lib.hid e1
        clear e1
        go_wp2_with fail
        go_roundw
        case rel => exact ⟨HW.out.below hb1, .inr (.inr (.inr ⟨rfl, by rw [HCH.out, E1.out]⟩))⟩
        case measure => simp [intOf]
    · have T3 := Lib.hid t3
      clear t3
      go_wp2_with fail
      go_ret
      exact ⟨ret_bool T3.out.symm, hbe⟩

end Go.Proofs.YtggnipkfliompaaGreatDoor

namespace Go.Proofs.YtggnipkfliompaaGreatDoor
open Go.RowKit FP

/-- The nonce of a proof, its E, its S. -/
def prN (x a : Int) : Int := max 1 (hashG (strB tagN) (encL [x, a]))
def prE (x a : Int) : Int := chal (powE 4 x) a (powE a x) (powE 4 (prN x a)) (powE a (prN x a))
def prS (x a : Int) : Int := (prN x a + prE x a * x) % 1073741789
theorem prE_num (x a : Int) : 0 ≤ prE x a ∧ prE x a < 1073741789 := chal_num _ _ _ _ _
theorem prS_num (x a : Int) : 0 ≤ prS x a ∧ prS x a < 1073741789 := by unfold prS; omega

end Go.Proofs.YtggnipkfliompaaGreatDoor

namespace Go.Proofs.YtggnipkfliompaaGreatDoor
open Go.RowKit FP

/-- The tag of pads. -/
def tagP : ByteArray := ⟨#[112, 97, 100]⟩
/-- The pad of an element, a dealer and a row. -/
def padV (d dealer row : Int) : Int := hashG (strB tagP) (encL [d, dealer, row])
theorem padV_num (d dealer row : Int) : 0 ≤ padV d dealer row ∧ padV d dealer row < 1073741789 := hashG_num _ _

/-- The error of the first condition that does not hold. -/
def firstE : List (Bool × Int) → Int
  | [] => 0
  | (true, _) :: l => firstE l
  | (false, e) :: _ => e
/-- Is a parcel right? -/
def rightB (row pt c : Int) : Bool := inB row 0 63 && (elB pt && inB c 0 1073741788)
theorem rightB_first (row pt c : Int) : (firstE [(inB row 0 63, 350), (elB pt, 350), (inB c 0 1073741788, 350)] == 0) = rightB row pt c := by
  unfold rightB
  cases inB row 0 63 <;> cases elB pt <;> cases inB c 0 1073741788 <;> rfl
/-- Errors. -/
def sealE (u key dealer row value : Int) : Int := firstE [(inB u 1 1073741788, 110), (elB key, 100), (inB dealer 0 63, 1), (inB row 0 63, 1), (inB value 0 1073741788, 350)]
def openE (s dealer row pt c : Int) : Int := firstE [(inB s 1 1073741788, 110), (inB dealer 0 63, 1), (rightB row pt c, 350)]
def withE (d dealer row pt c : Int) : Int := firstE [(elB d, 100), (inB dealer 0 63, 1), (rightB row pt c, 350)]
structure Sealed (u key dealer row value : Int) : Prop where
  u : 1 ≤ u ∧ u ≤ 1073741788
  key : El key
  dealer : 0 ≤ dealer ∧ dealer ≤ 63
  row : 0 ≤ row ∧ row ≤ 63
  value : 0 ≤ value ∧ value ≤ 1073741788
structure RightP (row pt c : Int) : Prop where
  row : 0 ≤ row ∧ row ≤ 63
  pt : El pt
  c : 0 ≤ c ∧ c ≤ 1073741788
theorem rightB_iff {row pt c : Int} : rightB row pt c = true ↔ RightP row pt c := by
  unfold rightB
  rw [Bool.and_eq_true, Bool.and_eq_true, inB_iff, elB_iff, inB_iff]
  exact ⟨fun ⟨a, b, c⟩ => ⟨a, b, c⟩, fun ⟨a, b, c⟩ => ⟨a, b, c⟩⟩
theorem sealE_ok {u key dealer row value : Int} : sealE u key dealer row value = 0 ↔ Sealed u key dealer row value := by
  have h : sealE u key dealer row value = 0 ↔ inB u 1 1073741788 = true ∧ elB key = true ∧ inB dealer 0 63 = true ∧ inB row 0 63 = true ∧ inB value 0 1073741788 = true := by
    unfold sealE
    cases inB u 1 1073741788 <;> cases elB key <;> cases inB dealer 0 63 <;> cases inB row 0 63 <;> cases inB value 0 1073741788 <;> simp [firstE]
  rw [h, inB_iff, elB_iff, inB_iff, inB_iff, inB_iff]
  exact ⟨fun ⟨a, b, c, d, e⟩ => ⟨a, b, c, d, e⟩, fun ⟨a, b, c, d, e⟩ => ⟨a, b, c, d, e⟩⟩
theorem openE_ok {s dealer row pt c : Int} : openE s dealer row pt c = 0 ↔ (1 ≤ s ∧ s ≤ 1073741788) ∧ (0 ≤ dealer ∧ dealer ≤ 63) ∧ RightP row pt c := by
  have h : openE s dealer row pt c = 0 ↔ inB s 1 1073741788 = true ∧ inB dealer 0 63 = true ∧ rightB row pt c = true := by
    unfold openE
    cases inB s 1 1073741788 <;> cases inB dealer 0 63 <;> cases rightB row pt c <;> simp [firstE]
  rw [h, inB_iff, inB_iff, rightB_iff]
theorem withE_ok {d dealer row pt c : Int} : withE d dealer row pt c = 0 ↔ El d ∧ (0 ≤ dealer ∧ dealer ≤ 63) ∧ RightP row pt c := by
  have h : withE d dealer row pt c = 0 ↔ elB d = true ∧ inB dealer 0 63 = true ∧ rightB row pt c = true := by
    unfold withE
    cases elB d <;> cases inB dealer 0 63 <;> cases rightB row pt c <;> simp [firstE]
  rw [h, elB_iff, inB_iff, rightB_iff]
/-- What is sealed, and what is opened. -/
def cipV (u key dealer row value : Int) : Int := (value + padV (powE key u) dealer row) % 1073741789
def opnV (d dealer row c : Int) : Int := (c - padV d dealer row + 1073741789) % 1073741789
theorem cipV_num (u key dealer row value : Int) : 0 ≤ cipV u key dealer row value ∧ cipV u key dealer row value < 1073741789 := by unfold cipV; omega
theorem opnV_num (d dealer row c : Int) : 0 ≤ opnV d dealer row c ∧ opnV d dealer row c < 1073741789 := by unfold opnV; omega
theorem opnV_cipV {u key dealer row value : Int} (h : 0 ≤ value ∧ value ≤ 1073741788) : opnV (powE key u) dealer row (cipV u key dealer row value) = value := by
  unfold opnV cipV
  have := padV_num (powE key u) dealer row
  omega
/-- The power of the point is the power of the key. -/
theorem point_key (u s : Int) : powE (powE 4 u) s = powE (powE 4 s) u := by
  rw [powE_mul el_four, powE_mul el_four, Int.mul_comm]
end Go.Proofs.YtggnipkfliompaaGreatDoor

namespace Go.Proofs.YtggnipkfliompaaGreatDoor
open Go.RowKit FP

/-- A parcel: row, point, cipher. -/
abbrev Pcl := Int × Int × Int
/-- The cells of a parcel. -/
def parC (p : Pcl) : List Value := [.int .i64 p.1, .int .i64 p.2.1, .int .i64 p.2.2]
/-- The slice v reads as parcels. -/
def Parcels (w : World) (v : Value) (l : List Pcl) : Prop :=
  ∃ a cap, v = .slice a l.length cap ∧ l.length ≤ cap ∧ l.length ≤ 17592186044416 ∧ (∀ p ∈ l, R64 p.1 ∧ R64 p.2.1 ∧ R64 p.2.2) ∧
    ∀ k (h : k < l.length), ∃ b off, a = some ⟨b, off, none⟩ ∧ w.cell? ⟨b, off + k * 3, none⟩ = some (.int .i64 l[k].1) ∧ w.cell? ⟨b, off + k * 3 + 1, none⟩ = some (.int .i64 l[k].2.1) ∧ w.cell? ⟨b, off + k * 3 + 2, none⟩ = some (.int .i64 l[k].2.2)
theorem Parcels.below {w w' : World} {v : Value} {l : List Pcl} (h : Parcels w v l) (hb : Below w.heap.size w w') : Parcels w' v l := by
  obtain ⟨a, cap, rfl, hc, hl, hr, hk⟩ := h
  refine ⟨a, cap, rfl, hc, hl, hr, fun k hlt => ?_⟩
  obtain ⟨b, off, ha, h1, h2, h3⟩ := hk k hlt
  exact ⟨b, off, ha, below_cell hb h1, below_cell hb h2, below_cell hb h3⟩
theorem Parcels.nil (w : World) (a : Option Addr) (cap : Nat) : Parcels w (.slice a 0 cap) [] :=
  ⟨a, cap, rfl, Nat.zero_le _, by simp, by simp, fun k h => absurd h (Nat.not_lt_zero _)⟩
theorem pflat_at : ∀ (l : List Pcl) (k j : Nat) (hk : k < l.length), j < 3 → (l.flatMap parC)[k * 3 + j]? = (parC l[k])[j]?
  | [], k, _, hk, _ => absurd hk (Nat.not_lt_zero k)
  | z :: l, 0, j, _, hj => by
    rw [List.flatMap_cons, Nat.zero_mul, Nat.zero_add, List.getElem?_append_left (by show j < 3; exact hj)]; rfl
  | z :: l, k + 1, j, hk, hj => by
    rw [List.flatMap_cons, List.getElem?_append_right (by show 3 ≤ _; omega)]
    have e : (k + 1) * 3 + j - (parC z).length = k * 3 + j := by show (k + 1) * 3 + j - 3 = _; omega
    rw [e, pflat_at l k j (by simpa using hk) hj]; rfl
theorem pflat_size (l : List Pcl) : (l.flatMap parC).length = l.length * 3 := by
  induction l with
  | nil => rfl
  | cons z l ih => rw [List.flatMap_cons, List.length_append, ih, List.length_cons]; show 3 + _ = _; omega
theorem pflat_snoc (l : List Pcl) (z : Pcl) : (l ++ [z]).flatMap parC = l.flatMap parC ++ parC z := by rw [List.flatMap_append]; simp
theorem Parcels.own {w : World} {base n : Nat} {v : Value} {l : List Pcl} (h : w.ownsRow base 49 3 v n (l.flatMap parC)) (hr : ∀ p ∈ l, R64 p.1 ∧ R64 p.2.1 ∧ R64 p.2.2) (hl : l.length ≤ 1000000) : Parcels w v l := by
  obtain ⟨hn, h⟩ := h
  rw [pflat_size] at hn
  obtain rfl : n = l.length := by omega
  rcases h with ⟨rfl, h0⟩ | ⟨g, cap, cur, rfl, -, hg, hnc, -, hcs, hcur⟩
  · exact ⟨none, 0, by rw [h0], by omega, by omega, hr, fun k hk => absurd hk (by omega)⟩
  · refine ⟨some ⟨g, 0, none⟩, cap, rfl, hnc, by omega, hr, fun k hk => ⟨g, 0, rfl, ?_⟩⟩
    have e : ∀ j, j < 3 → cur[k * 3 + j]? = (parC l[k])[j]? := fun j hj => by
      have e2 : (cur.toList.take (l.length * 3))[k * 3 + j]? = (parC l[k])[j]? := by rw [hcur, pflat_at l k j hk hj]
      rw [List.getElem?_take, if_pos (by omega)] at e2
      rw [← Array.getElem?_toList]; exact e2
    rw [Nat.zero_add]
    exact ⟨row_cell hg (e 0 (by omega)), row_cell hg (e 1 (by omega)), row_cell hg (e 2 (by omega))⟩

set_option maxRecDepth 100000 in
theorem infoPar : (Tryz.prog.info? 49).map (fun i => (i.zero.map (·.cells.size), i.size, i.bytes)) = some (some 3, 3, 24) := by kernel_rfl
/-- Are the parcels numbered? -/
def numB (ps : List Pcl) : Bool := (List.range ps.length).all fun k => (ps.getD k (0, 0, 0)).1 == (k : Int)
theorem numB_iff {ps : List Pcl} : numB ps = true ↔ ∀ k (h : k < ps.length), ps[k].1 = (k : Int) := by
  unfold numB
  rw [List.all_eq_true]
  constructor
  · intro h k hk
    have := h k (List.mem_range.2 hk)
    rw [List.getD_eq_getElem?_getD, List.getElem?_eq_getElem hk] at this
    simpa using this
  · intro h k hk
    have hk := List.mem_range.1 hk
    rw [List.getD_eq_getElem?_getD, List.getElem?_eq_getElem hk]
    simpa using h k hk
theorem numB_bad {ps : List Pcl} {k : Nat} (h : k < ps.length) (hn : ps[k].1 ≠ (k : Int)) : numB ps = false := by
  cases e : numB ps with
  | false => rfl
  | true => exact absurd (numB_iff.1 e k h) hn

end Go.Proofs.YtggnipkfliompaaGreatDoor
