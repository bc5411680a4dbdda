/- EqualSpec: Prove and Check are the reference's. -/
import Derived.Test.YteodnbaogfdjbaaDoorMEqE
import Derived.Test.YteodnbaogfdjbaaDoorMRefP
import Derived.Test.YteodnbaogfdjbaaDoorMRegG
namespace Go.Proofs.YteodnbaogfdjbaaDoor
open Go.RowKit FP

set_option maxRecDepth 100000 in
/-- What Prove returns, the program's and the reference's. -/
theorem prove_both (x a : Int) (hx : R64 x) (ha : R64 a) : ∃ X E S C : Int, Hid (∀ w, Glob w → Calls Tryd.prog 7 #[.int .i64 x, .int .i64 a] w fun e w' => e = .returned (.tuple #[.int .i64 X, .agg #[.int .i64 E, .int .i64 S], .int .i64 C]) ∧ Below w.heap.size w w') ∧
    Hid (∀ w, Calls Tryd.prog 8 #[.int .i64 x, .int .i64 a] w fun e w' => e = .returned (.tuple #[.int .i64 X, .agg #[.int .i64 E, .int .i64 S], .int .i64 C]) ∧ Below w.heap.size w w') := by
  by_cases h1 : 1 ≤ x
  · by_cases h2 : x < 1073741789
    · by_cases h3 : El a
      · exact ⟨_, _, _, _, Lib.hid (fun w hG => prove_yes x a w h1 h2 h3 hG), Lib.hid (fun w => rprove_yes x a w h1 h2 h3)⟩
      · exact ⟨_, _, _, _, Lib.hid (fun w _ => prove_group x a w h1 h2 ha h3), Lib.hid (fun w => rprove_group x a w h1 h2 ha h3)⟩
    · exact ⟨_, _, _, _, Lib.hid (fun w _ => prove_key x a w (.inr (by omega)) hx), Lib.hid (fun w => rprove_key x a w (.inr (by omega)) hx)⟩
  · exact ⟨_, _, _, _, Lib.hid (fun w _ => prove_key x a w (.inl (by omega)) hx), Lib.hid (fun w => rprove_key x a w (.inl (by omega)) hx)⟩

structure FEs5 (w0 : World) (bq : Nat) (br : Nat) (bp : Nat) (X : Int) (E1 : Int) (S1 : Int) (C : Int) (key : Int) (a : Int) (d : Int) (E : Int) (S : Int) (B : Bool) (done : Nat → Bool) (v : Nat → Value) (w : World) : Prop where
  b : Below w0.heap.size w0 w
  f0 : done 0 = true → v 0 = .int .i64 X
  f1 : done 1 = true → v 1 = .int .i64 X
  f2 : done 2 = true → v 2 = .bool true
  f3 : done 3 = true → v 3 = .bool true
  f4 : done 4 = true → v 4 = .agg #[.int .i64 E1, .int .i64 S1]
  f5 : done 5 = true → v 5 = .agg #[.int .i64 E1, .int .i64 S1]
  f6 : done 6 = true → v 6 = .bool true
  f7 : done 7 = true → v 7 = .bool true
  f8 : done 8 = true → v 8 = .bool true
  f9 : done 9 = true → v 9 = .int .i64 C
  f10 : done 10 = true → v 10 = .int .i64 C
  f11 : done 11 = true → v 11 = .bool true
  f12 : done 12 = true → v 12 = .bool true
  f13 : done 13 = true → v 13 = .bool true
  f14 : done 14 = true → v 14 = .int .i64 key
  f15 : done 15 = true → v 15 = .int .i64 a
  f16 : done 16 = true → v 16 = .int .i64 d
  f17 : done 17 = true → v 17 = .agg #[.int .i64 E, .int .i64 S]
  f18 : done 18 = true → v 18 = .bool B
  f19 : done 19 = true → v 19 = .int .i64 key
  f20 : done 20 = true → v 20 = .int .i64 a
  f21 : done 21 = true → v 21 = .int .i64 d
  f22 : done 22 = true → v 22 = .agg #[.int .i64 E, .int .i64 S]
  f23 : done 23 = true → v 23 = .bool B
  f24 : done 24 = true → v 24 = .bool true
  f25 : done 25 = true → v 25 = .bool true
  f26 : done 26 = true → v 26 = .bool true


set_option maxRecDepth 100000 in
set_option maxHeartbeats 4000000 in
theorem equalSpec_any (x key a d E S : Int) (w : World) (hx : R64 x) (hk : R64 key) (ha : R64 a) (hd : R64 d) (hE : R64 E) (hS : R64 S) (hG : Glob w) :
    Calls Tryd.prog 3 #[.int .i64 x, .int .i64 key, .int .i64 a, .int .i64 d, .agg #[.int .i64 E, .int .i64 S]] w fun r w' => r = .returned (.bool true) ∧ Below w.heap.size w w' := by
  obtain ⟨X, E1, S1, C, HP, HRP⟩ := prove_both x a hx ha
  have HCK := Lib.hid (fun w hG => check_any key a d E S w hk ha hd hE hS hG)
  have HRC := Lib.hid (fun w => rcheck12_any key a d E S w hk ha hd hE hS)
  generalize chkB key a d E S = B at *
  clear hx hk ha hd hE hS
  obtain ⟨hb0, c0, c1⟩ := cell_agg2 w E S 23
  have HB := Lib.hid hb0
  have HG := Lib.hid (hG.below hb0)
  obtain ⟨bp, hbp⟩ : ∃ b, b = w.heap.size := ⟨_, rfl⟩
  clear hb0
  go_enter Tryd.func3, Tryd.ntmps3
  go_wp2_with fail
  with_reducible refine (sane12_any _ HG.out).mono ?_
  rintro r w1 ⟨rfl, hb1⟩
  replace c0 := below_cell hb1 c0
  replace c1 := below_cell hb1 c1
  replace HB := Lib.hid (HB.out.trans (hb1.mono HB.out.size))
  replace HG := Lib.hid (hG.below HB.out)
  clear hb1
  go_wp2_with fail
  with_reducible refine (HP.out _ HG.out).mono ?_
  rintro r w2 ⟨rfl, hb1⟩
  replace c0 := below_cell hb1 c0
  replace c1 := below_cell hb1 c1
  replace HB := Lib.hid (HB.out.trans (hb1.mono HB.out.size))
  obtain ⟨hb2, q0, q1⟩ := cell_agg2 w2 E1 S1 23
  replace c0 := below_cell hb2 c0
  replace c1 := below_cell hb2 c1
  replace HB := Lib.hid (HB.out.trans (hb2.mono HB.out.size))
  obtain ⟨bq, hbq⟩ : ∃ b, b = w2.heap.size := ⟨_, rfl⟩
  clear hb1 hb2
  go_wp2_with fail
  with_reducible refine (HRP.out _).mono ?_
  rintro r w4 ⟨rfl, hb1⟩
  replace c0 := below_cell hb1 c0
  replace c1 := below_cell hb1 c1
  replace q0 := below_cell hb1 q0
  replace q1 := below_cell hb1 q1
  replace HB := Lib.hid (HB.out.trans (hb1.mono HB.out.size))
  obtain ⟨hb2, r0, r1⟩ := cell_agg2 w4 E1 S1 23
  replace c0 := below_cell hb2 c0
  replace c1 := below_cell hb2 c1
  replace q0 := below_cell hb2 q0
  replace q1 := below_cell hb2 q1
  replace HB := Lib.hid (HB.out.trans (hb2.mono HB.out.size))
  replace HG := Lib.hid (hG.below HB.out)
  obtain ⟨br, hbr0⟩ : ∃ b, b = w4.heap.size := ⟨_, rfl⟩
  clear hb1 hb2
  go_wp2_with fail
  rw [← hbp] at c0 c1 ⊢
  rw [← hbq] at q0 q1 ⊢
  rw [← hbr0] at r0 r1 ⊢
  obtain ⟨w5, hw5⟩ : ∃ W, W = w4.alloc (.cells #[.int .i64 E1, .int .i64 S1] 23) := ⟨_, rfl⟩
  rw [← hw5] at c0 c1 q0 q1 r0 r1 HB HG ⊢
  have HBP := Lib.hid hbp
  clear hw5 hbp hbq hbr0
  refine wp_region_flowsG (by kernel_rfl) (by kernel_rfl) (by kernel_rfl) (by kernel_rfl) (fun done v W => FEs5 w5 (bq) (br) (bp) (X) (E1) (S1) (C) (key) (a) (d) (E) (S) (B) done v W) (fun v => ?_) ?_ (fun v W h => ?_)
  · exact ⟨(Below.refl _ _).drew, (fun h => by cases h), (fun h => by cases h), (fun h => by cases h), (fun h => by cases h), (fun h => by cases h), (fun h => by cases h), (fun h => by cases h), (fun h => by cases h), (fun h => by cases h), (fun h => by cases h), (fun h => by cases h), (fun h => by cases h), (fun h => by cases h), (fun h => by cases h), (fun h => by cases h), (fun h => by cases h), (fun h => by cases h), (fun h => by cases h), (fun h => by cases h), (fun h => by cases h), (fun h => by cases h), (fun h => by cases h), (fun h => by cases h), (fun h => by cases h), (fun h => by cases h), (fun h => by cases h), (fun h => by cases h)⟩
  · refine ⟨?_, ?_, ?_, ?_, ?_, ?_, ?_, ?_, ?_, ?_, ?_, ?_, ?_, ?_, ?_, ?_, ?_, ?_, ?_, ?_, ?_, ?_, ?_, ?_, ?_, ?_, ?_, trivial⟩
    · intro done v W A h hd hp hu hA hB hdf
      have e0 : A.tmps[11]?.getD undef = .int .i64 X := hB 11 rfl
      clear hA hB hp hu hdf
      go_simp
      exact ⟨_, rfl, { h with f0 := (fun _ => rfl) }⟩
    · intro done v W A h hd hp hu hA hB hdf
      have e0 : A.tmps[14]?.getD undef = .int .i64 X := hB 14 rfl
      clear hA hB hp hu hdf
      go_simp
      exact ⟨_, rfl, { h with f1 := (fun _ => rfl) }⟩
    · intro done v W A h hd hp hu hA hB hdf
      have hd0 : done 0 = true := hp 0 rfl
      have hd1 : done 1 = true := hp 1 rfl
      have e0 := (hA 0 33 rfl hd0).trans (h.f0 hd0)
      have e1 := (hA 1 34 rfl hd1).trans (h.f1 hd1)
      clear hA hB hp hu hdf
      go_simp
      exact ⟨_, rfl, { h with f2 := (fun _ => rfl) }⟩
    · intro done v W A h hd hp hu hA hB hdf
      have hd2 : done 2 = true := hp 2 rfl
      have e0 := (hA 2 35 rfl hd2).trans (h.f2 hd2)
      clear hA hB hp hu hdf
      go_simp
      exact ⟨_, rfl, { h with f3 := (fun _ => rfl) }⟩
    · intro done v W A h hd hp hu hA hB hdf
      have hd3 : done 3 = true := hp 3 rfl
      refine ⟨_, h.f3 hd3, fun _ => ?_, fun hne => absurd rfl hne⟩
      have e0 : A.tmps[12]?.getD undef = .pointer (some ⟨bq, 0, none⟩) := hB 12 rfl
      have y0_ := below_cell h.b q0
      have y1_ := below_cell h.b q1
      clear hA hB hp hu hdf
      go_simp
      exact ⟨_, rfl, { h with f4 := (fun _ => rfl) }⟩
    · intro done v W A h hd hp hu hA hB hdf
      have hd3 : done 3 = true := hp 3 rfl
      refine ⟨_, h.f3 hd3, fun _ => ?_, fun hne => absurd rfl hne⟩
      have e0 : A.tmps[15]?.getD undef = .pointer (some ⟨br, 0, none⟩) := hB 15 rfl
      have y0_ := below_cell h.b r0
      have y1_ := below_cell h.b r1
      clear hA hB hp hu hdf
      go_simp
      exact ⟨_, rfl, { h with f5 := (fun _ => rfl) }⟩
    · intro done v W A h hd hp hu hA hB hdf
      have hd3 : done 3 = true := hp 3 rfl
      have hd4 : done 4 = true := hp 4 rfl
      have hd5 : done 5 = true := hp 5 rfl
      refine ⟨_, h.f3 hd3, fun _ => ?_, fun hne => absurd rfl hne⟩
      have e0 := (hA 4 37 rfl hd4).trans (h.f4 hd4)
      have e1 := (hA 5 38 rfl hd5).trans (h.f5 hd5)
      clear hA hB hp hu hdf
      go_simp
      exact ⟨_, rfl, { h with f6 := (fun _ => rfl) }⟩
    · intro done v W A h hd hp hu hA hB hdf
      have hd3 : done 3 = true := hp 3 rfl
      have hd6 : done 6 = true := hp 6 rfl
      have e0 := (hA 3 36 rfl hd3).trans (h.f3 hd3)
      have e1 := (hA 6 39 rfl hd6).trans (h.f6 hd6)
      clear hA hB hp hu hdf
      go_simp
      exact ⟨_, rfl, { h with f7 := (fun _ => rfl) }⟩
    · intro done v W A h hd hp hu hA hB hdf
      have hd7 : done 7 = true := hp 7 rfl
      have e0 := (hA 7 40 rfl hd7).trans (h.f7 hd7)
      clear hA hB hp hu hdf
      go_simp
      exact ⟨_, rfl, { h with f8 := (fun _ => rfl) }⟩
    · intro done v W A h hd hp hu hA hB hdf
      have hd8 : done 8 = true := hp 8 rfl
      refine ⟨_, h.f8 hd8, fun _ => ?_, fun hne => absurd rfl hne⟩
      have e0 : A.tmps[13]?.getD undef = .int .i64 C := hB 13 rfl
      clear hA hB hp hu hdf
      go_simp
      exact ⟨_, rfl, { h with f9 := (fun _ => rfl) }⟩
    · intro done v W A h hd hp hu hA hB hdf
      have hd8 : done 8 = true := hp 8 rfl
      refine ⟨_, h.f8 hd8, fun _ => ?_, fun hne => absurd rfl hne⟩
      have e0 : A.tmps[16]?.getD undef = .int .i64 C := hB 16 rfl
      clear hA hB hp hu hdf
      go_simp
      exact ⟨_, rfl, { h with f10 := (fun _ => rfl) }⟩
    · intro done v W A h hd hp hu hA hB hdf
      have hd8 : done 8 = true := hp 8 rfl
      have hd9 : done 9 = true := hp 9 rfl
      have hd10 : done 10 = true := hp 10 rfl
      refine ⟨_, h.f8 hd8, fun _ => ?_, fun hne => absurd rfl hne⟩
      have e0 := (hA 9 42 rfl hd9).trans (h.f9 hd9)
      have e1 := (hA 10 43 rfl hd10).trans (h.f10 hd10)
      clear hA hB hp hu hdf
      go_simp
      exact ⟨_, rfl, { h with f11 := (fun _ => rfl) }⟩
    · intro done v W A h hd hp hu hA hB hdf
      have hd8 : done 8 = true := hp 8 rfl
      have hd11 : done 11 = true := hp 11 rfl
      have e0 := (hA 8 41 rfl hd8).trans (h.f8 hd8)
      have e1 := (hA 11 44 rfl hd11).trans (h.f11 hd11)
      clear hA hB hp hu hdf
      go_simp
      exact ⟨_, rfl, { h with f12 := (fun _ => rfl) }⟩
    · intro done v W A h hd hp hu hA hB hdf
      have hd12 : done 12 = true := hp 12 rfl
      have e0 := (hA 12 45 rfl hd12).trans (h.f12 hd12)
      clear hA hB hp hu hdf
      go_simp
      exact ⟨_, rfl, { h with f13 := (fun _ => rfl) }⟩
    · intro done v W A h hd hp hu hA hB hdf
      have hd13 : done 13 = true := hp 13 rfl
      refine ⟨_, h.f13 hd13, fun _ => ?_, fun hne => absurd rfl hne⟩
      have e0 : A.tmps[1]?.getD undef = .int .i64 key := hB 1 rfl
      clear hA hB hp hu hdf
      go_simp
      exact ⟨_, rfl, { h with f14 := (fun _ => rfl) }⟩
    · intro done v W A h hd hp hu hA hB hdf
      have hd13 : done 13 = true := hp 13 rfl
      refine ⟨_, h.f13 hd13, fun _ => ?_, fun hne => absurd rfl hne⟩
      have e0 : A.tmps[2]?.getD undef = .int .i64 a := hB 2 rfl
      clear hA hB hp hu hdf
      go_simp
      exact ⟨_, rfl, { h with f15 := (fun _ => rfl) }⟩
    · intro done v W A h hd hp hu hA hB hdf
      have hd13 : done 13 = true := hp 13 rfl
      refine ⟨_, h.f13 hd13, fun _ => ?_, fun hne => absurd rfl hne⟩
      have e0 : A.tmps[3]?.getD undef = .int .i64 d := hB 3 rfl
      clear hA hB hp hu hdf
      go_simp
      exact ⟨_, rfl, { h with f16 := (fun _ => rfl) }⟩
    · intro done v W A h hd hp hu hA hB hdf
      have hd13 : done 13 = true := hp 13 rfl
      refine ⟨_, h.f13 hd13, fun _ => ?_, fun hne => absurd rfl hne⟩
      have e0 : A.tmps[9]?.getD undef = .pointer (some ⟨bp, 0, none⟩) := hB 9 rfl
      have y0_ := below_cell h.b c0
      have y1_ := below_cell h.b c1
      clear hA hB hp hu hdf
      go_simp
      exact ⟨_, rfl, { h with f17 := (fun _ => rfl) }⟩
    · intro done v W A h hd hp hu hA hB hdf
      have hd13 : done 13 = true := hp 13 rfl
      have hd14 : done 14 = true := hp 14 rfl
      have hd15 : done 15 = true := hp 15 rfl
      have hd16 : done 16 = true := hp 16 rfl
      have hd17 : done 17 = true := hp 17 rfl
      refine ⟨_, h.f13 hd13, fun _ => ?_, fun hne => absurd rfl hne⟩
      have e0 := (hA 14 47 rfl hd14).trans (h.f14 hd14)
      have e1 := (hA 15 48 rfl hd15).trans (h.f15 hd15)
      have e2 := (hA 16 49 rfl hd16).trans (h.f16 hd16)
      have e3 := (hA 17 50 rfl hd17).trans (h.f17 hd17)
      clear hA hB hp hu hdf
      go_simp
      with_reducible refine (HCK.out W (HG.out.below h.b)).mono ?_
      rintro e wq ⟨rfl, hb⟩
      exact ⟨_, rfl, { h with b := h.b.trans (hb.mono h.b.size), f18 := (fun _ => rfl) }⟩
    · intro done v W A h hd hp hu hA hB hdf
      have hd13 : done 13 = true := hp 13 rfl
      refine ⟨_, h.f13 hd13, fun _ => ?_, fun hne => absurd rfl hne⟩
      have e0 : A.tmps[1]?.getD undef = .int .i64 key := hB 1 rfl
      clear hA hB hp hu hdf
      go_simp
      exact ⟨_, rfl, { h with f19 := (fun _ => rfl) }⟩
    · intro done v W A h hd hp hu hA hB hdf
      have hd13 : done 13 = true := hp 13 rfl
      refine ⟨_, h.f13 hd13, fun _ => ?_, fun hne => absurd rfl hne⟩
      have e0 : A.tmps[2]?.getD undef = .int .i64 a := hB 2 rfl
      clear hA hB hp hu hdf
      go_simp
      exact ⟨_, rfl, { h with f20 := (fun _ => rfl) }⟩
    · intro done v W A h hd hp hu hA hB hdf
      have hd13 : done 13 = true := hp 13 rfl
      refine ⟨_, h.f13 hd13, fun _ => ?_, fun hne => absurd rfl hne⟩
      have e0 : A.tmps[3]?.getD undef = .int .i64 d := hB 3 rfl
      clear hA hB hp hu hdf
      go_simp
      exact ⟨_, rfl, { h with f21 := (fun _ => rfl) }⟩
    · intro done v W A h hd hp hu hA hB hdf
      have hd13 : done 13 = true := hp 13 rfl
      refine ⟨_, h.f13 hd13, fun _ => ?_, fun hne => absurd rfl hne⟩
      have e0 : A.tmps[9]?.getD undef = .pointer (some ⟨bp, 0, none⟩) := hB 9 rfl
      have y0_ := below_cell h.b c0
      have y1_ := below_cell h.b c1
      clear hA hB hp hu hdf
      go_simp
      exact ⟨_, rfl, { h with f22 := (fun _ => rfl) }⟩
    · intro done v W A h hd hp hu hA hB hdf
      have hd13 : done 13 = true := hp 13 rfl
      have hd19 : done 19 = true := hp 19 rfl
      have hd20 : done 20 = true := hp 20 rfl
      have hd21 : done 21 = true := hp 21 rfl
      have hd22 : done 22 = true := hp 22 rfl
      refine ⟨_, h.f13 hd13, fun _ => ?_, fun hne => absurd rfl hne⟩
      have e0 := (hA 19 52 rfl hd19).trans (h.f19 hd19)
      have e1 := (hA 20 53 rfl hd20).trans (h.f20 hd20)
      have e2 := (hA 21 54 rfl hd21).trans (h.f21 hd21)
      have e3 := (hA 22 55 rfl hd22).trans (h.f22 hd22)
      clear hA hB hp hu hdf
      go_simp
      with_reducible refine (HRC.out W).mono ?_
      rintro e wq ⟨rfl, hb⟩
      exact ⟨_, rfl, { h with b := h.b.trans (hb.mono h.b.size), f23 := (fun _ => rfl) }⟩
    · intro done v W A h hd hp hu hA hB hdf
      have hd13 : done 13 = true := hp 13 rfl
      have hd18 : done 18 = true := hp 18 rfl
      have hd23 : done 23 = true := hp 23 rfl
      refine ⟨_, h.f13 hd13, fun _ => ?_, fun hne => absurd rfl hne⟩
      have e0 := (hA 18 51 rfl hd18).trans (h.f18 hd18)
      have e1 := (hA 23 56 rfl hd23).trans (h.f23 hd23)
      clear hA hB hp hu hdf
      go_simp
      exact ⟨_, rfl, { h with f24 := (fun _ => rfl) }⟩
    · intro done v W A h hd hp hu hA hB hdf
      have hd13 : done 13 = true := hp 13 rfl
      have hd24 : done 24 = true := hp 24 rfl
      have e0 := (hA 13 46 rfl hd13).trans (h.f13 hd13)
      have e1 := (hA 24 57 rfl hd24).trans (h.f24 hd24)
      clear hA hB hp hu hdf
      go_simp
      exact ⟨_, rfl, { h with f25 := (fun _ => rfl) }⟩
    · intro done v W A h hd hp hu hA hB hdf
      have hd25 : done 25 = true := hp 25 rfl
      have e0 := (hA 25 58 rfl hd25).trans (h.f25 hd25)
      clear hA hB hp hu hdf
      go_simp
      exact ⟨_, rfl, { h with f26 := (fun _ => rfl) }⟩
  simp only [putL, Act.put, Nat.reduceAdd, List.setIfInBounds_toArray, List.set_cons_zero, List.set_cons_succ]
  rw [h.f26 rfl]
  have hbr := h.b
  replace HB := Lib.hid (HB.out.trans (hbr.mono HB.out.size))
  clear c0 c1 q0 q1 r0 r1 hbr
  go_wp2_with fail
  go_ret
  exact ⟨rfl, HB.out⟩

end Go.Proofs.YteodnbaogfdjbaaDoor
