/- Package equal: Check. -/
import Derived.Test.YtjnnnciifjajmaaDoorEqA
import Derived.Test.YtjnnnciifjajmaaDoorEltB
namespace Go.Proofs.YtjnnnciifjajmaaDoor
open Go.RowKit FP

theorem pair_ints (w : World) (x y : Int) (t : TypeId) (B : Nat) (hB : w.heap.size = B) (hx : R64 x) (hy : R64 y) : Ints (w.alloc (.cells #[.int .i64 x, .int .i64 y] t)) (.slice (some ⟨B, 0, none⟩) 2 2) [x, y] :=
  ints_made w [x, y] t B hB (by intro z hz; simp at hz; rcases hz with rfl | rfl; exact hx; exact hy) (by simp)

set_option maxRecDepth 100000 in
set_option maxHeartbeats 2000000 in
/-- Check's third condition, for elements and numbers from 0 to Q - 1. -/
theorem check3_any (pb kb ab db : Nat) (key a d E S : Int) (w : World) (hk : El key) (ha : El a) (hd : El d) (hE : 0 ≤ E ∧ E < 1073741789) (hS : 0 ≤ S ∧ S < 1073741789)
    (p0 : w.cell? ⟨pb, 0, none⟩ = some (.int .i64 E)) (p1 : w.cell? ⟨pb, 1, none⟩ = some (.int .i64 S)) (c0 : w.cell? ⟨kb, 0, none⟩ = some (.int .i64 key)) (c1 : w.cell? ⟨ab, 0, none⟩ = some (.int .i64 a)) (c2 : w.cell? ⟨db, 0, none⟩ = some (.int .i64 d)) (hG : Glob w) :
    Calls Tryd.prog 40 #[.pointer (some ⟨pb, 0, none⟩), .pointer (some ⟨kb, 0, none⟩), .pointer (some ⟨ab, 0, none⟩), .pointer (some ⟨db, 0, none⟩)] w fun e w' => e = .returned (.bool (E == chal key a d (rE key E S) (sE a d E S))) ∧ Below w.heap.size w w' := by
  obtain ⟨E1, E2⟩ := hE
  obtain ⟨S1, S2⟩ := hS
  have hE64 : R64 (-E) := ⟨by omega, by omega⟩
  have hS64 : R64 S := ⟨by omega, by omega⟩
  have hwE := IntWalk.i64_in (-E) (by omega)
  have e1 := el_powE el_four S
  have e2 := el_powE hk (-E)
  have e3 := el_powE ha S
  have e4 := el_powE hd (-E)
  obtain ⟨r, hr⟩ : ∃ r, r = rE key E S := ⟨_, rfl⟩
  have HR1 : Hid (powE 4 S * powE key (-E) % 2147483579 = r) := Lib.hid hr.symm
  obtain ⟨s, hs⟩ : ∃ s, s = sE a d E S := ⟨_, rfl⟩
  have HR2 : Hid (powE a S * powE d (-E) % 2147483579 = s) := Lib.hid hs.symm
  have hrr : R64 r := by rw [hr]; exact (el_rE hk E S).r64
  have hss : R64 s := by rw [hs]; exact (el_sE ha hd E S).r64
  rw [← hr, ← hs]
  have HC := Lib.hid (show ∀ z ∈ [key, a, d, r, s], R64 z by intro z hz; simp at hz; rcases hz with rfl | rfl | rfl | rfl | rfl; exact hk.r64; exact ha.r64; exact hd.r64; exact hrr; exact hss)
  clear hr hs
  go_enter Tryd.func40, Tryd.ntmps40
  go_wp2_with fail
  go_region_held3 (fun w' => w'.cell? ⟨pb, 0, none⟩ = some (.int .i64 E) ∧ w'.cell? ⟨pb, 1, none⟩ = some (.int .i64 S) ∧ w'.cell? ⟨kb, 0, none⟩ = some (.int .i64 key) ∧ w'.cell? ⟨ab, 0, none⟩ = some (.int .i64 a) ∧ w'.cell? ⟨db, 0, none⟩ = some (.int .i64 d)) (go_keep)
    (first
      | (go_at_call 28; (with_reducible refine (epow_any 4 S _ el_four hS64).mono ?_); rintro e w6 ⟨rfl, hb6⟩; have hb6_0 : w6.cell? ⟨pb, 0, none⟩ = some (.int .i64 E) := below_cell hb6 (by first | assumption | exact below_cell (below_new _ _ _) (by assumption)); have hb6_1 : w6.cell? ⟨pb, 1, none⟩ = some (.int .i64 S) := below_cell hb6 (by first | assumption | exact below_cell (below_new _ _ _) (by assumption)); have hb6_2 : w6.cell? ⟨kb, 0, none⟩ = some (.int .i64 key) := below_cell hb6 (by first | assumption | exact below_cell (below_new _ _ _) (by assumption)); have hb6_3 : w6.cell? ⟨ab, 0, none⟩ = some (.int .i64 a) := below_cell hb6 (by first | assumption | exact below_cell (below_new _ _ _) (by assumption)); have hb6_4 : w6.cell? ⟨db, 0, none⟩ = some (.int .i64 d) := below_cell hb6 (by first | assumption | exact below_cell (below_new _ _ _) (by assumption)))
      | (go_at_call 28; (with_reducible refine (epow_any key (-E) _ hk hE64).mono ?_); rintro e w7 ⟨rfl, hb7⟩; have hb7_0 : w7.cell? ⟨pb, 0, none⟩ = some (.int .i64 E) := below_cell hb7 (by first | assumption | exact below_cell (below_new _ _ _) (by assumption)); have hb7_1 : w7.cell? ⟨pb, 1, none⟩ = some (.int .i64 S) := below_cell hb7 (by first | assumption | exact below_cell (below_new _ _ _) (by assumption)); have hb7_2 : w7.cell? ⟨kb, 0, none⟩ = some (.int .i64 key) := below_cell hb7 (by first | assumption | exact below_cell (below_new _ _ _) (by assumption)); have hb7_3 : w7.cell? ⟨ab, 0, none⟩ = some (.int .i64 a) := below_cell hb7 (by first | assumption | exact below_cell (below_new _ _ _) (by assumption)); have hb7_4 : w7.cell? ⟨db, 0, none⟩ = some (.int .i64 d) := below_cell hb7 (by first | assumption | exact below_cell (below_new _ _ _) (by assumption)))
      | (go_at_call 28; (with_reducible refine (epow_any a S _ ha hS64).mono ?_); rintro e w8 ⟨rfl, hb8⟩; have hb8_0 : w8.cell? ⟨pb, 0, none⟩ = some (.int .i64 E) := below_cell hb8 (by first | assumption | exact below_cell (below_new _ _ _) (by assumption)); have hb8_1 : w8.cell? ⟨pb, 1, none⟩ = some (.int .i64 S) := below_cell hb8 (by first | assumption | exact below_cell (below_new _ _ _) (by assumption)); have hb8_2 : w8.cell? ⟨kb, 0, none⟩ = some (.int .i64 key) := below_cell hb8 (by first | assumption | exact below_cell (below_new _ _ _) (by assumption)); have hb8_3 : w8.cell? ⟨ab, 0, none⟩ = some (.int .i64 a) := below_cell hb8 (by first | assumption | exact below_cell (below_new _ _ _) (by assumption)); have hb8_4 : w8.cell? ⟨db, 0, none⟩ = some (.int .i64 d) := below_cell hb8 (by first | assumption | exact below_cell (below_new _ _ _) (by assumption)))
      | (go_at_call 28; (with_reducible refine (epow_any d (-E) _ hd hE64).mono ?_); rintro e w9 ⟨rfl, hb9⟩; have hb9_0 : w9.cell? ⟨pb, 0, none⟩ = some (.int .i64 E) := below_cell hb9 (by first | assumption | exact below_cell (below_new _ _ _) (by assumption)); have hb9_1 : w9.cell? ⟨pb, 1, none⟩ = some (.int .i64 S) := below_cell hb9 (by first | assumption | exact below_cell (below_new _ _ _) (by assumption)); have hb9_2 : w9.cell? ⟨kb, 0, none⟩ = some (.int .i64 key) := below_cell hb9 (by first | assumption | exact below_cell (below_new _ _ _) (by assumption)); have hb9_3 : w9.cell? ⟨ab, 0, none⟩ = some (.int .i64 a) := below_cell hb9 (by first | assumption | exact below_cell (below_new _ _ _) (by assumption)); have hb9_4 : w9.cell? ⟨db, 0, none⟩ = some (.int .i64 d) := below_cell hb9 (by first | assumption | exact below_cell (below_new _ _ _) (by assumption)))
      | (go_at_call 41; (refine (emul_two _ (powE 4 S) (powE key (-E)) _ (pair_ints _ _ _ _ _ rfl e1.r64 e2.r64) e1 e2).mono ?_); rintro e w10 ⟨rfl, rfl⟩)
      | (go_at_call 41; (refine (emul_two _ (powE a S) (powE d (-E)) _ (pair_ints _ _ _ _ _ rfl e3.r64 e4.r64) e3 e4).mono ?_); rintro e w11 ⟨rfl, rfl⟩))
  rw [HR1.out, HR2.out]
  clear HR1 HR2 e1 e2 e3 e4 hwE hE64 hS64
  have h1 : Below w.heap.size w w6 := (Below.refl _ _).drew.trans hb6
  have h2 := h1.trans (hb7.mono h1.size)
  have h3 := h2.alloc h2.size (.cells #[.int .i64 (powE 4 S), .int .i64 (powE key (-E))] 3)
  have h4 := h3.trans (hb8.mono h3.size)
  have h5 := h4.trans (hb9.mono h4.size)
  have h6 := h5.alloc h5.size (.cells #[.int .i64 (powE a S), .int .i64 (powE d (-E))] 3)
  generalize w9.alloc (.cells #[.int .i64 (powE a S), .int .i64 (powE d (-E))] 3) = W5 at *
  have q0 := below_cell h6 p0
  have q2 := below_cell h6 c0
  have q3 := below_cell h6 c1
  have q4 := below_cell h6 c2
  have hG5 := hG.below h6
  have HG5 : Hid (Glob W5.drew) := Lib.hid ⟨hG5.num, hG5.sta⟩
  have H6 := Lib.hid h6
  clear h1 h2 h3 h4 h5 hb6 hb7 hb8 hb9 h6 hG5
  go_wp2_with fail
  go_region_held3 (fun w' => w'.cell? ⟨pb, 0, none⟩ = some (.int .i64 E) ∧ w'.cell? ⟨kb, 0, none⟩ = some (.int .i64 key) ∧ w'.cell? ⟨ab, 0, none⟩ = some (.int .i64 a) ∧ w'.cell? ⟨db, 0, none⟩ = some (.int .i64 d)) (go_keep)
    (first
      | (go_at_call 31; (with_reducible refine (challenge_any key a d r s _ HC.out HG5.out).mono ?_); rintro e w12 ⟨rfl, hb12⟩; have t0 := below_cell hb12 q0; have t1 := below_cell hb12 q2; have t2 := below_cell hb12 q3; have t3 := below_cell hb12 q4))
  go_wp2_with fail
  go_ret
  exact ⟨rfl, H6.out.trans (((Below.refl _ _).drew.trans hb12).mono H6.out.size)⟩

end Go.Proofs.YtjnnnciifjajmaaDoor
