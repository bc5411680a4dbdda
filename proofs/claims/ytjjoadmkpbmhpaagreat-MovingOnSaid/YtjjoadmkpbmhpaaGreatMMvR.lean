/- The laws of moving: MovingSame, MovingOn. -/
import Derived.Test.YtjjoadmkpbmhpaaGreatMMvQ
namespace Go.Proofs.YtjjoadmkpbmhpaaGreat
open Go.RowKit FP

set_option maxRecDepth 100000 in
theorem same_prog (rv ov rv2 ov2 : Value) (rows : List (List Int)) (owners : List Int) (w : World) (hR : Rows2 w rv rows) (hO : Ints w ov owners) (hR2 : Rows2 w rv2 rows) (hO2 : Ints w ov2 owners) :
    Calls Tryz.prog 22 #[.agg #[rv, ov], .agg #[rv2, ov2]] w fun e w' => e = .returned (.bool true) ∧ Below w.heap.size w w' :=
  (rSameP_any rv ov rv2 ov2 rows rows owners owners w hR hO hR2 hO2).mono fun _ _ ⟨h1, h2⟩ => ⟨h1.trans (by unfold sameP sameQ; rw [decide_eq_true rfl, decide_eq_true rfl]; rfl), h2⟩

structure FOn24 (w0 : World) (bZ : Nat) (bX : Nat) (zk : Value) (zc : Value) (xc : Value) (bz : Nat) (oz : Nat) (bx : Nat) (ox : Nat) (nz : Nat) (nx : Nat) (p4 : Int) (zs : Value) (x : Int) (wv : Value) (done : Nat → Bool) (v : Nat → Value) (w : World) : Prop where
  b : Below w0.heap.size w0 w
  f0 : done 0 = true → v 0 = .bool true
  f1 : done 1 = true → v 1 = .bool true
  f2 : done 2 = true → v 2 = .pointer (some ⟨bZ, 3, none⟩)
  f3 : done 3 = true → v 3 = zc
  f4 : done 4 = true → v 4 = .int .i64 (nz : Int)
  f5 : done 5 = true → v 5 = .bool true
  f6 : done 6 = true → v 6 = .bool true
  f7 : done 7 = true → v 7 = .bool true
  f8 : done 8 = true → v 8 = .pointer (some ⟨bX, 3, none⟩)
  f9 : done 9 = true → v 9 = xc
  f10 : done 10 = true → v 10 = .int .i64 (nx : Int)
  f11 : done 11 = true → v 11 = .bool true
  f12 : done 12 = true → v 12 = .bool true
  f13 : done 13 = true → v 13 = .bool true
  f14 : done 14 = true → v 14 = .pointer (some ⟨bZ, 3, none⟩)
  f15 : done 15 = true → v 15 = zc
  f16 : done 16 = true → v 16 = .pointer (some ⟨bz, oz, none⟩)
  f17 : done 17 = true → v 17 = .int .i64 p4
  f18 : done 18 = true → v 18 = .pointer (some ⟨bX, 3, none⟩)
  f19 : done 19 = true → v 19 = xc
  f20 : done 20 = true → v 20 = .pointer (some ⟨bx, ox, none⟩)
  f21 : done 21 = true → v 21 = .int .i64 p4
  f22 : done 22 = true → v 22 = .bool true
  f23 : done 23 = true → v 23 = .bool true
  f24 : done 24 = true → v 24 = .bool true
  f25 : done 25 = true → v 25 = zk
  f26 : done 26 = true → v 26 = zs
  f27 : done 27 = true → v 27 = .int .i64 x
  f28 : done 28 = true → v 28 = wv
  f29 : done 29 = true → v 29 = .bool true
  f30 : done 30 = true → v 30 = .bool true
  f31 : done 31 = true → v 31 = .bool true

set_option maxRecDepth 100000 in
set_option maxHeartbeats 16000000 in
theorem movingSame_any (rv ov rv2 ov2 mv wv tv lv : Value) (rows : List (List Int)) (owners : List Int) (rows2 : List (List Int)) (owners2 : List Int) (x : Int) (rnd who others l : List Int) (w : World) (hR : Rows2 w rv rows) (hO : Ints w ov owners) (hR2 : Rows2 w rv2 rows2) (hO2 : Ints w ov2 owners2) (_hx : R64 x) (hM : Ints w mv rnd) (hW : Ints w wv who) (hT : Ints w tv others) (hL : Words w lv l) :
    Calls Tryz.prog 5 #[.agg #[rv, ov], .agg #[rv2, ov2], .int .i64 x, mv, wv, tv, lv] w fun r w' => r = .returned (.bool true) ∧ Below w.heap.size w w' := by
  obtain ⟨W0, hW0, hb0, hr0, hz0⟩ := box_prog w rv ov 25
  have hs0 : W0.heap.size = w.heap.size + 1 := by rw [hW0]; simp
  obtain ⟨W1, hW1, hb1, hr1, hz1⟩ := box_prog W0 rv2 ov2 25
  have hs1 : W1.heap.size = W0.heap.size + 1 := by rw [hW1]; simp
  have t0 : Below w.heap.size w W0 := hb0
  have t1 : Below w.heap.size w W1 := t0.trans (hb1.mono t0.size)
  have Q0 := Lib.hid ((hb1.block _ (row_lt hr0)).trans hr0)
  have Q1 := Lib.hid hr1
  rw [hs0] at Q1
  have HB := Lib.hid t1
  have HR := Lib.hid (hR.below t1)
  have HO := Lib.hid (hO.below t1)
  have HR2 := Lib.hid (hR2.below t1)
  have HO2 := Lib.hid (hO2.below t1)
  have HM := Lib.hid (hM.below t1)
  have HWH := Lib.hid (hW.below t1)
  have HT := Lib.hid (hT.below t1)
  have HL := Lib.hid (hL.below t1)
  obtain ⟨a1, k1, rfl, -, hl1, -⟩ := id hR
  obtain ⟨a2, k2, rfl, -, hl2, -⟩ := id hO
  obtain ⟨a3, k3, rfl, -, hl3, -⟩ := id hR2
  obtain ⟨a4, k4, rfl, -, hl4, -⟩ := id hO2
  obtain ⟨a5, k5, rfl, -, hl5, -⟩ := id hM
  obtain ⟨a6, k6, rfl, -, hl6, -⟩ := id hW
  obtain ⟨a7, k7, rfl, -, hl7, -⟩ := id hT
  obtain ⟨a8, k8, rfl, -, hl8, -⟩ := id hL
  rw [hW0] at hW1
  have HW1 := Lib.hid hW1
  clear hR hO hR2 hO2 hM hW hT hL hW0 hW1 hb0 hb1 hr0 hr1 hz0 hz1 hs0 hs1 t0 t1
  go_enter Tryz.func5, Tryz.ntmps5
  go_wp2_with (rw [← HW1.out])
  with_reducible refine (sane39_any _).mono ?_
  rintro e w2 ⟨rfl, hb2⟩
  replace HR := Lib.hid (HR.out.below hb2)
  replace HO := Lib.hid (HO.out.below hb2)
  replace HR2 := Lib.hid (HR2.out.below hb2)
  replace HO2 := Lib.hid (HO2.out.below hb2)
  replace HM := Lib.hid (HM.out.below hb2)
  replace HWH := Lib.hid (HWH.out.below hb2)
  replace HT := Lib.hid (HT.out.below hb2)
  replace HL := Lib.hid (HL.out.below hb2)
  replace Q0 := Lib.hid ((hb2.block _ (row_lt Q0.out)).trans Q0.out)
  replace Q1 := Lib.hid ((hb2.block _ (row_lt Q1.out)).trans Q1.out)
  replace HB := Lib.hid (HB.out.trans (hb2.mono HB.out.size))
  clear hb2
  have p00 := row_cell Q0.out (k := 0) rfl
  have p01 := row_cell Q0.out (k := 1) rfl
  have p10 := row_cell Q1.out (k := 0) rfl
  have p11 := row_cell Q1.out (k := 1) rfl
  go_wp2_with fail
  with_reducible refine (right39_any _ _ _ _ _ _ rows owners rows2 owners2 x rnd who _ HR.out HO.out HR2.out HO2.out HM.out HWH.out).mono ?_
  rintro e w3 ⟨rfl, hb3⟩
  replace p00 := below_cell hb3 p00
  replace p01 := below_cell hb3 p01
  replace p10 := below_cell hb3 p10
  replace p11 := below_cell hb3 p11
  replace HR := Lib.hid (HR.out.below hb3)
  replace HO := Lib.hid (HO.out.below hb3)
  replace HR2 := Lib.hid (HR2.out.below hb3)
  replace HO2 := Lib.hid (HO2.out.below hb3)
  replace HM := Lib.hid (HM.out.below hb3)
  replace HWH := Lib.hid (HWH.out.below hb3)
  replace HT := Lib.hid (HT.out.below hb3)
  replace HL := Lib.hid (HL.out.below hb3)
  replace Q0 := Lib.hid ((hb3.block _ (row_lt Q0.out)).trans Q0.out)
  replace Q1 := Lib.hid ((hb3.block _ (row_lt Q1.out)).trans Q1.out)
  replace HB := Lib.hid (HB.out.trans (hb3.mono HB.out.size))
  clear hb3
  cases hrb : rightB rows owners rows2 owners2 x rnd who with
  | false =>
    go_wp2_with fail
    go_ret
    exact ⟨rfl, HB.out⟩
  | true =>
  obtain ⟨hs1, hs2, hpw, hw12, hD, hp1, hp2⟩ := rightB_ok hrb
  have HD := Lib.hid hD
  have HP1 := Lib.hid hp1
  have HP2 := Lib.hid hp2
  have HPW := Lib.hid hpw
  clear hs1 hs2 hpw hw12 hD hp1 hp2 hrb
  go_wp2_with fail
  with_reducible refine (rPeople_any _ others _ HT.out).mono ?_
  rintro e w4 ⟨rfl, hb4⟩
  replace p00 := below_cell hb4 p00
  replace p01 := below_cell hb4 p01
  replace p10 := below_cell hb4 p10
  replace p11 := below_cell hb4 p11
  replace HR := Lib.hid (HR.out.below hb4)
  replace HO := Lib.hid (HO.out.below hb4)
  replace HR2 := Lib.hid (HR2.out.below hb4)
  replace HO2 := Lib.hid (HO2.out.below hb4)
  replace HM := Lib.hid (HM.out.below hb4)
  replace HWH := Lib.hid (HWH.out.below hb4)
  replace HT := Lib.hid (HT.out.below hb4)
  replace HL := Lib.hid (HL.out.below hb4)
  replace Q0 := Lib.hid ((hb4.block _ (row_lt Q0.out)).trans Q0.out)
  replace Q1 := Lib.hid ((hb4.block _ (row_lt Q1.out)).trans Q1.out)
  replace HB := Lib.hid (HB.out.trans (hb4.mono HB.out.size))
  clear hb4
  cases hpo : peopleB (-1) others with
  | false =>
    go_wp2_with fail
    go_ret
    exact ⟨rfl, HB.out⟩
  | true =>
  have HPO := Lib.hid hpo
  clear hpo
  go_wp2_with fail
  with_reducible refine (begun39_any _ _ _ _ rows owners x rnd who _ HR.out HO.out HM.out HWH.out HD.out HP1.out (quest_ok HP1.out HPW.out)).mono ?_
  rintro e w5 ⟨al, cl, ac, cc, rfl, hsh, hcm, hb5⟩
  replace p00 := below_cell hb5 p00
  replace p01 := below_cell hb5 p01
  replace p10 := below_cell hb5 p10
  replace p11 := below_cell hb5 p11
  replace HR := Lib.hid (HR.out.below hb5)
  replace HO := Lib.hid (HO.out.below hb5)
  replace HR2 := Lib.hid (HR2.out.below hb5)
  replace HO2 := Lib.hid (HO2.out.below hb5)
  replace HM := Lib.hid (HM.out.below hb5)
  replace HWH := Lib.hid (HWH.out.below hb5)
  replace HT := Lib.hid (HT.out.below hb5)
  replace HL := Lib.hid (HL.out.below hb5)
  replace Q0 := Lib.hid ((hb5.block _ (row_lt Q0.out)).trans Q0.out)
  replace Q1 := Lib.hid ((hb5.block _ (row_lt Q1.out)).trans Q1.out)
  replace HB := Lib.hid (HB.out.trans (hb5.mono HB.out.size))
  clear hb5
  have HSH := Lib.hid hsh
  have HCM := Lib.hid hcm
  clear hsh hcm
  obtain ⟨W6, hW6, hb6, hr6, hs6⟩ := box_key w5 (.int .i64 0) (.slice a1 rows.length k1) (.slice a2 owners.length k2) (.slice ac (colsQ rows) cc) 27
  have HW6 := Lib.hid hW6
  have Q2 := Lib.hid hr6
  replace p00 := below_cell hb6 p00
  replace p01 := below_cell hb6 p01
  replace p10 := below_cell hb6 p10
  replace p11 := below_cell hb6 p11
  replace HR := Lib.hid (HR.out.below hb6)
  replace HO := Lib.hid (HO.out.below hb6)
  replace HR2 := Lib.hid (HR2.out.below hb6)
  replace HO2 := Lib.hid (HO2.out.below hb6)
  replace HM := Lib.hid (HM.out.below hb6)
  replace HWH := Lib.hid (HWH.out.below hb6)
  replace HT := Lib.hid (HT.out.below hb6)
  replace HL := Lib.hid (HL.out.below hb6)
  replace HSH := Lib.hid (HSH.out.below hb6)
  replace HCM := Lib.hid (HCM.out.below hb6)
  replace Q0 := Lib.hid ((hb6.block _ (row_lt Q0.out)).trans Q0.out)
  replace Q1 := Lib.hid ((hb6.block _ (row_lt Q1.out)).trans Q1.out)
  replace HB := Lib.hid (HB.out.trans (hb6.mono HB.out.size))
  clear hb6
  clear hW6 hr6 hs6
  cases hac : accOk rows owners who with
  | false =>
    clear hac
    go_wp2_with (rw [← HW6.out])
    go_ret
    exact ⟨rfl, HB.out⟩
  | true =>
  have HAC := Lib.hid hac
  clear hac
  have q0 := row_cell Q2.out (k := 0) rfl
  have q1 := row_cell Q2.out (k := 1) rfl
  have q2 := row_cell Q2.out (k := 2) rfl
  have q3 := row_cell Q2.out (k := 3) rfl
  go_wp2_with (rw [← HW6.out])
  clear HW6
  have hlc : (dealC (x :: rnd)).length = colsQ rows := by rw [dealC_len]; exact HD.out.full
  have hll : (dealL rows (x :: rnd)).length = rows.length := dealL_len _ _
  with_reducible refine (moved39_any 0 _ _ _ _ _ _ _ _ rows owners x rnd rows2 owners2 who l _ HR.out HO.out HCM.out HSH.out HR2.out HO2.out HWH.out HL.out HD.out HP1.out HP2.out (by decide) (by decide) HPW.out HAC.out).mono ?_
  rintro e w7 ⟨a9, n9, c9, b9, m9, d9, rfl, hki, hli, hb7⟩
  replace p00 := below_cell hb7 p00
  replace p01 := below_cell hb7 p01
  replace p10 := below_cell hb7 p10
  replace p11 := below_cell hb7 p11
  replace q0 := below_cell hb7 q0
  replace q1 := below_cell hb7 q1
  replace q2 := below_cell hb7 q2
  replace q3 := below_cell hb7 q3
  replace HR := Lib.hid (HR.out.below hb7)
  replace HO := Lib.hid (HO.out.below hb7)
  replace HR2 := Lib.hid (HR2.out.below hb7)
  replace HO2 := Lib.hid (HO2.out.below hb7)
  replace HM := Lib.hid (HM.out.below hb7)
  replace HWH := Lib.hid (HWH.out.below hb7)
  replace HT := Lib.hid (HT.out.below hb7)
  replace HL := Lib.hid (HL.out.below hb7)
  replace HSH := Lib.hid (HSH.out.below hb7)
  replace HCM := Lib.hid (HCM.out.below hb7)
  replace Q0 := Lib.hid ((hb7.block _ (row_lt Q0.out)).trans Q0.out)
  replace Q1 := Lib.hid ((hb7.block _ (row_lt Q1.out)).trans Q1.out)
  replace Q2 := Lib.hid ((hb7.block _ (row_lt Q2.out)).trans Q2.out)
  replace HB := Lib.hid (HB.out.trans (hb7.mono HB.out.size))
  clear hb7
  have HKI := Lib.hid hki
  have HLI := Lib.hid hli
  clear hki hli hlc hll
  have HVD := Lib.hid (mov_val (l := l) (ep := 0) HD.out HP1.out HP2.out (by decide) (by decide) HPW.out HAC.out).1
  obtain ⟨W8, hW8, hb8, hr8, hs8⟩ := box_key w7 (.int .i64 1) (.slice a3 rows2.length k3) (.slice a4 owners2.length k4) (.slice a9 n9 c9) 27
  have HW8 := Lib.hid hW8
  have Q3 := Lib.hid hr8
  replace p00 := below_cell hb8 p00
  replace p01 := below_cell hb8 p01
  replace p10 := below_cell hb8 p10
  replace p11 := below_cell hb8 p11
  replace q0 := below_cell hb8 q0
  replace q1 := below_cell hb8 q1
  replace q2 := below_cell hb8 q2
  replace q3 := below_cell hb8 q3
  replace HR := Lib.hid (HR.out.below hb8)
  replace HO := Lib.hid (HO.out.below hb8)
  replace HR2 := Lib.hid (HR2.out.below hb8)
  replace HO2 := Lib.hid (HO2.out.below hb8)
  replace HM := Lib.hid (HM.out.below hb8)
  replace HWH := Lib.hid (HWH.out.below hb8)
  replace HT := Lib.hid (HT.out.below hb8)
  replace HL := Lib.hid (HL.out.below hb8)
  replace HSH := Lib.hid (HSH.out.below hb8)
  replace HCM := Lib.hid (HCM.out.below hb8)
  replace HKI := Lib.hid (HKI.out.below hb8)
  replace HLI := Lib.hid (HLI.out.below hb8)
  replace Q0 := Lib.hid ((hb8.block _ (row_lt Q0.out)).trans Q0.out)
  replace Q1 := Lib.hid ((hb8.block _ (row_lt Q1.out)).trans Q1.out)
  replace Q2 := Lib.hid ((hb8.block _ (row_lt Q2.out)).trans Q2.out)
  replace HB := Lib.hid (HB.out.trans (hb8.mono HB.out.size))
  clear hb8
  clear hW8 hr8 hs8
  have r0 := row_cell Q3.out (k := 0) rfl
  have r1 := row_cell Q3.out (k := 1) rfl
  have r2 := row_cell Q3.out (k := 2) rfl
  have r3 := row_cell Q3.out (k := 3) rfl
  clear q0 q1 q2 q3 p00 p01
  go_wp2_with (rw [← HW8.out])
  clear HW8
  with_reducible refine (same_prog _ _ _ _ rows2 owners2 _ HR2.out HO2.out HR2.out HO2.out).mono ?_
  rintro e w9 ⟨rfl, hb9⟩
  replace p10 := below_cell hb9 p10
  replace p11 := below_cell hb9 p11
  replace r0 := below_cell hb9 r0
  replace r1 := below_cell hb9 r1
  replace r2 := below_cell hb9 r2
  replace r3 := below_cell hb9 r3
  replace HR := Lib.hid (HR.out.below hb9)
  replace HO := Lib.hid (HO.out.below hb9)
  replace HR2 := Lib.hid (HR2.out.below hb9)
  replace HO2 := Lib.hid (HO2.out.below hb9)
  replace HM := Lib.hid (HM.out.below hb9)
  replace HWH := Lib.hid (HWH.out.below hb9)
  replace HT := Lib.hid (HT.out.below hb9)
  replace HL := Lib.hid (HL.out.below hb9)
  replace HSH := Lib.hid (HSH.out.below hb9)
  replace HCM := Lib.hid (HCM.out.below hb9)
  replace HKI := Lib.hid (HKI.out.below hb9)
  replace HLI := Lib.hid (HLI.out.below hb9)
  replace Q0 := Lib.hid ((hb9.block _ (row_lt Q0.out)).trans Q0.out)
  replace Q1 := Lib.hid ((hb9.block _ (row_lt Q1.out)).trans Q1.out)
  replace Q2 := Lib.hid ((hb9.block _ (row_lt Q2.out)).trans Q2.out)
  replace Q3 := Lib.hid ((hb9.block _ (row_lt Q3.out)).trans Q3.out)
  replace HB := Lib.hid (HB.out.trans (hb9.mono HB.out.size))
  clear hb9
  go_wp2_with fail
  with_reducible refine (holds39_any 1 _ _ _ _ _ rows2 owners2 x (movU rows owners x rnd rows2 who l) others _ HR2.out HO2.out HKI.out HLI.out HT.out HVD.out HP2.out HPO.out).mono ?_
  rintro e w10 ⟨rfl, hb10⟩
  replace HB := Lib.hid (HB.out.trans (hb10.mono HB.out.size))
  clear r0 r1 r2 r3 p10 p11 hb10
  go_wp2_with fail
  go_ret
  exact ⟨rfl, HB.out⟩

set_option maxRecDepth 100000 in
set_option maxHeartbeats 16000000 in
theorem movingOn_any (rv ov rv2 ov2 rv3 ov3 mv wv tv lv : Value) (rows : List (List Int)) (owners : List Int) (rows2 : List (List Int)) (owners2 : List Int) (rows3 : List (List Int)) (owners3 : List Int) (x : Int) (rnd who others l : List Int) (w : World) (hR : Rows2 w rv rows) (hO : Ints w ov owners) (hR2 : Rows2 w rv2 rows2) (hO2 : Ints w ov2 owners2) (hR3 : Rows2 w rv3 rows3) (hO3 : Ints w ov3 owners3) (_hx : R64 x) (hM : Ints w mv rnd) (hW : Ints w wv who) (hT : Ints w tv others) (hL : Words w lv l) :
    Calls Tryz.prog 6 #[.agg #[rv, ov], .agg #[rv2, ov2], .agg #[rv3, ov3], .int .i64 x, mv, wv, tv, lv] w fun r w' => r = .returned (.bool true) ∧ Below w.heap.size w w' := by
  obtain ⟨W0, hW0, hb0, hr0, hz0⟩ := box_prog w rv ov 25
  have hs0 : W0.heap.size = w.heap.size + 1 := by rw [hW0]; simp
  obtain ⟨W1, hW1, hb1, hr1, hz1⟩ := box_prog W0 rv2 ov2 25
  have hs1 : W1.heap.size = W0.heap.size + 1 := by rw [hW1]; simp
  obtain ⟨W2, hW2, hb2, hr2, hz2⟩ := box_prog W1 rv3 ov3 25
  have hs2 : W2.heap.size = W1.heap.size + 1 := by rw [hW2]; simp
  have t0 : Below w.heap.size w W0 := hb0
  have t1 : Below w.heap.size w W1 := t0.trans (hb1.mono t0.size)
  have t2 : Below w.heap.size w W2 := t1.trans (hb2.mono t1.size)
  have Q0 := Lib.hid ((hb2.block _ (row_lt ((hb1.block _ (row_lt hr0)).trans hr0))).trans ((hb1.block _ (row_lt hr0)).trans hr0))
  have Q1 := Lib.hid ((hb2.block _ (row_lt hr1)).trans hr1)
  have Q2 := Lib.hid hr2
  rw [hs0] at Q1
  rw [hs1, hs0] at Q2
  have HB := Lib.hid t2
  have HR := Lib.hid (hR.below t2)
  have HO := Lib.hid (hO.below t2)
  have HR2 := Lib.hid (hR2.below t2)
  have HO2 := Lib.hid (hO2.below t2)
  have HR3 := Lib.hid (hR3.below t2)
  have HO3 := Lib.hid (hO3.below t2)
  have HM := Lib.hid (hM.below t2)
  have HWH := Lib.hid (hW.below t2)
  have HT := Lib.hid (hT.below t2)
  have HL := Lib.hid (hL.below t2)
  obtain ⟨a1, k1, rfl, -, hl1, -⟩ := id hR
  obtain ⟨a2, k2, rfl, -, hl2, -⟩ := id hO
  obtain ⟨a3, k3, rfl, -, hl3, -⟩ := id hR2
  obtain ⟨a4, k4, rfl, -, hl4, -⟩ := id hO2
  obtain ⟨a11, k11, rfl, -, hl11, -⟩ := id hR3
  obtain ⟨a10, k10, rfl, -, hl10, -⟩ := id hO3
  obtain ⟨a5, k5, rfl, -, hl5, -⟩ := id hM
  obtain ⟨a6, k6, rfl, -, hl6, -⟩ := id hW
  obtain ⟨a7, k7, rfl, -, hl7, -⟩ := id hT
  obtain ⟨a8, k8, rfl, -, hl8, -⟩ := id hL
  rw [hW1, hW0] at hW2
  have HW2 := Lib.hid hW2
  clear hR hO hR2 hO2 hR3 hO3 hM hW hT hL hW0 hW1 hW2 hb0 hb1 hb2 hr0 hr1 hr2 hz0 hz1 hz2 hs0 hs1 hs2 t0 t1 t2
  go_enter Tryz.func6, Tryz.ntmps6
  go_wp2_with (rw [← HW2.out])
  with_reducible refine (sane39_any _).mono ?_
  rintro e w2 ⟨rfl, hb2⟩
  replace HR := Lib.hid (HR.out.below hb2)
  replace HO := Lib.hid (HO.out.below hb2)
  replace HR2 := Lib.hid (HR2.out.below hb2)
  replace HO2 := Lib.hid (HO2.out.below hb2)
  replace HR3 := Lib.hid (HR3.out.below hb2)
  replace HO3 := Lib.hid (HO3.out.below hb2)
  replace HM := Lib.hid (HM.out.below hb2)
  replace HWH := Lib.hid (HWH.out.below hb2)
  replace HT := Lib.hid (HT.out.below hb2)
  replace HL := Lib.hid (HL.out.below hb2)
  replace Q0 := Lib.hid ((hb2.block _ (row_lt Q0.out)).trans Q0.out)
  replace Q1 := Lib.hid ((hb2.block _ (row_lt Q1.out)).trans Q1.out)
  replace Q2 := Lib.hid ((hb2.block _ (row_lt Q2.out)).trans Q2.out)
  replace HB := Lib.hid (HB.out.trans (hb2.mono HB.out.size))
  clear hb2
  have p00 := row_cell Q0.out (k := 0) rfl
  have p01 := row_cell Q0.out (k := 1) rfl
  have p10 := row_cell Q1.out (k := 0) rfl
  have p11 := row_cell Q1.out (k := 1) rfl
  have p20 := row_cell Q2.out (k := 0) rfl
  have p21 := row_cell Q2.out (k := 1) rfl
  go_wp2_with fail
  with_reducible refine (right39_any _ _ _ _ _ _ rows owners rows2 owners2 x rnd who _ HR.out HO.out HR2.out HO2.out HM.out HWH.out).mono ?_
  rintro e w3 ⟨rfl, hb3⟩
  replace p00 := below_cell hb3 p00
  replace p01 := below_cell hb3 p01
  replace p10 := below_cell hb3 p10
  replace p11 := below_cell hb3 p11
  replace p20 := below_cell hb3 p20
  replace p21 := below_cell hb3 p21
  replace HR := Lib.hid (HR.out.below hb3)
  replace HO := Lib.hid (HO.out.below hb3)
  replace HR2 := Lib.hid (HR2.out.below hb3)
  replace HO2 := Lib.hid (HO2.out.below hb3)
  replace HR3 := Lib.hid (HR3.out.below hb3)
  replace HO3 := Lib.hid (HO3.out.below hb3)
  replace HM := Lib.hid (HM.out.below hb3)
  replace HWH := Lib.hid (HWH.out.below hb3)
  replace HT := Lib.hid (HT.out.below hb3)
  replace HL := Lib.hid (HL.out.below hb3)
  replace Q0 := Lib.hid ((hb3.block _ (row_lt Q0.out)).trans Q0.out)
  replace Q1 := Lib.hid ((hb3.block _ (row_lt Q1.out)).trans Q1.out)
  replace Q2 := Lib.hid ((hb3.block _ (row_lt Q2.out)).trans Q2.out)
  replace HB := Lib.hid (HB.out.trans (hb3.mono HB.out.size))
  clear hb3
  cases hrb : rightB rows owners rows2 owners2 x rnd who with
  | false =>
    go_wp2_with fail
    go_ret
    exact ⟨rfl, HB.out⟩
  | true =>
  obtain ⟨hs1, hs2, hpw, hw12, hD, hp1, hp2⟩ := rightB_ok hrb
  have HD := Lib.hid hD
  have HP1 := Lib.hid hp1
  have HP2 := Lib.hid hp2
  have HPW := Lib.hid hpw
  clear hs1 hs2 hpw hw12 hD hp1 hp2 hrb
  go_wp2_with fail
  with_reducible refine (rsmall_any _ _ rows3 owners3 _ HR3.out HO3.out).mono ?_
  rintro e w4 ⟨rfl, hb4⟩
  replace p00 := below_cell hb4 p00
  replace p01 := below_cell hb4 p01
  replace p10 := below_cell hb4 p10
  replace p11 := below_cell hb4 p11
  replace p20 := below_cell hb4 p20
  replace p21 := below_cell hb4 p21
  replace HR := Lib.hid (HR.out.below hb4)
  replace HO := Lib.hid (HO.out.below hb4)
  replace HR2 := Lib.hid (HR2.out.below hb4)
  replace HO2 := Lib.hid (HO2.out.below hb4)
  replace HR3 := Lib.hid (HR3.out.below hb4)
  replace HO3 := Lib.hid (HO3.out.below hb4)
  replace HM := Lib.hid (HM.out.below hb4)
  replace HWH := Lib.hid (HWH.out.below hb4)
  replace HT := Lib.hid (HT.out.below hb4)
  replace HL := Lib.hid (HL.out.below hb4)
  replace Q0 := Lib.hid ((hb4.block _ (row_lt Q0.out)).trans Q0.out)
  replace Q1 := Lib.hid ((hb4.block _ (row_lt Q1.out)).trans Q1.out)
  replace Q2 := Lib.hid ((hb4.block _ (row_lt Q2.out)).trans Q2.out)
  replace HB := Lib.hid (HB.out.trans (hb4.mono HB.out.size))
  clear hb4
  cases hsm : smallQ rows3 owners3 with
  | false =>
    go_wp2_with fail
    go_ret
    exact ⟨rfl, HB.out⟩
  | true =>
  have HP3 := Lib.hid (small_ok hsm).2.1
  clear hsm
  go_wp2_with fail
  with_reducible refine (rPeople_any _ others _ HT.out).mono ?_
  rintro e w4 ⟨rfl, hb4⟩
  replace p00 := below_cell hb4 p00
  replace p01 := below_cell hb4 p01
  replace p10 := below_cell hb4 p10
  replace p11 := below_cell hb4 p11
  replace p20 := below_cell hb4 p20
  replace p21 := below_cell hb4 p21
  replace HR := Lib.hid (HR.out.below hb4)
  replace HO := Lib.hid (HO.out.below hb4)
  replace HR2 := Lib.hid (HR2.out.below hb4)
  replace HO2 := Lib.hid (HO2.out.below hb4)
  replace HR3 := Lib.hid (HR3.out.below hb4)
  replace HO3 := Lib.hid (HO3.out.below hb4)
  replace HM := Lib.hid (HM.out.below hb4)
  replace HWH := Lib.hid (HWH.out.below hb4)
  replace HT := Lib.hid (HT.out.below hb4)
  replace HL := Lib.hid (HL.out.below hb4)
  replace Q0 := Lib.hid ((hb4.block _ (row_lt Q0.out)).trans Q0.out)
  replace Q1 := Lib.hid ((hb4.block _ (row_lt Q1.out)).trans Q1.out)
  replace Q2 := Lib.hid ((hb4.block _ (row_lt Q2.out)).trans Q2.out)
  replace HB := Lib.hid (HB.out.trans (hb4.mono HB.out.size))
  clear hb4
  cases hpo : peopleB (-1) others with
  | false =>
    go_wp2_with fail
    go_ret
    exact ⟨rfl, HB.out⟩
  | true =>
  have HPO := Lib.hid hpo
  clear hpo
  by_cases ho12 : 12 < others.length
  · have hd1 : decide ((12 : Int) < (others.length : Int)) = true := decide_eq_true (by omega)
    have hd2 : decide (12 < others.length) = true := decide_eq_true ho12
    clear ho12
    go_wp2_with fail
    go_ret
    exact ⟨rfl, HB.out⟩
  have hd1 : decide ((12 : Int) < (others.length : Int)) = false := decide_eq_false (by omega)
  have hd2 : decide (12 < others.length) = false := decide_eq_false ho12
  clear ho12
  go_wp2_with fail
  clear hd1 hd2
  with_reducible refine (begun39_any _ _ _ _ rows owners x rnd who _ HR.out HO.out HM.out HWH.out HD.out HP1.out (quest_ok HP1.out HPW.out)).mono ?_
  rintro e w5 ⟨al, cl, ac, cc, rfl, hsh, hcm, hb5⟩
  replace p00 := below_cell hb5 p00
  replace p01 := below_cell hb5 p01
  replace p10 := below_cell hb5 p10
  replace p11 := below_cell hb5 p11
  replace p20 := below_cell hb5 p20
  replace p21 := below_cell hb5 p21
  replace HR := Lib.hid (HR.out.below hb5)
  replace HO := Lib.hid (HO.out.below hb5)
  replace HR2 := Lib.hid (HR2.out.below hb5)
  replace HO2 := Lib.hid (HO2.out.below hb5)
  replace HR3 := Lib.hid (HR3.out.below hb5)
  replace HO3 := Lib.hid (HO3.out.below hb5)
  replace HM := Lib.hid (HM.out.below hb5)
  replace HWH := Lib.hid (HWH.out.below hb5)
  replace HT := Lib.hid (HT.out.below hb5)
  replace HL := Lib.hid (HL.out.below hb5)
  replace Q0 := Lib.hid ((hb5.block _ (row_lt Q0.out)).trans Q0.out)
  replace Q1 := Lib.hid ((hb5.block _ (row_lt Q1.out)).trans Q1.out)
  replace Q2 := Lib.hid ((hb5.block _ (row_lt Q2.out)).trans Q2.out)
  replace HB := Lib.hid (HB.out.trans (hb5.mono HB.out.size))
  clear hb5
  have HSH := Lib.hid hsh
  have HCM := Lib.hid hcm
  clear hsh hcm
  obtain ⟨W6, hW6, hb6, hr6, hs6⟩ := box_key w5 (.int .i64 0) (.slice a1 rows.length k1) (.slice a2 owners.length k2) (.slice ac (colsQ rows) cc) 27
  have HW6 := Lib.hid hW6
  have Q3 := Lib.hid hr6
  replace p00 := below_cell hb6 p00
  replace p01 := below_cell hb6 p01
  replace p10 := below_cell hb6 p10
  replace p11 := below_cell hb6 p11
  replace p20 := below_cell hb6 p20
  replace p21 := below_cell hb6 p21
  replace HR := Lib.hid (HR.out.below hb6)
  replace HO := Lib.hid (HO.out.below hb6)
  replace HR2 := Lib.hid (HR2.out.below hb6)
  replace HO2 := Lib.hid (HO2.out.below hb6)
  replace HR3 := Lib.hid (HR3.out.below hb6)
  replace HO3 := Lib.hid (HO3.out.below hb6)
  replace HM := Lib.hid (HM.out.below hb6)
  replace HWH := Lib.hid (HWH.out.below hb6)
  replace HT := Lib.hid (HT.out.below hb6)
  replace HL := Lib.hid (HL.out.below hb6)
  replace HSH := Lib.hid (HSH.out.below hb6)
  replace HCM := Lib.hid (HCM.out.below hb6)
  replace Q0 := Lib.hid ((hb6.block _ (row_lt Q0.out)).trans Q0.out)
  replace Q1 := Lib.hid ((hb6.block _ (row_lt Q1.out)).trans Q1.out)
  replace Q2 := Lib.hid ((hb6.block _ (row_lt Q2.out)).trans Q2.out)
  replace HB := Lib.hid (HB.out.trans (hb6.mono HB.out.size))
  clear hb6
  clear hW6 hr6 hs6
  cases hac : accOk rows owners who with
  | false =>
    clear hac
    go_wp2_with (rw [← HW6.out])
    go_ret
    exact ⟨rfl, HB.out⟩
  | true =>
  have HAC := Lib.hid hac
  clear hac
  have q0 := row_cell Q3.out (k := 0) rfl
  have q1 := row_cell Q3.out (k := 1) rfl
  have q2 := row_cell Q3.out (k := 2) rfl
  have q3 := row_cell Q3.out (k := 3) rfl
  go_wp2_with (rw [← HW6.out])
  clear HW6
  have HLC : Hid ((dealC (x :: rnd)).length = colsQ rows) := Lib.hid (by rw [dealC_len]; exact HD.out.full)
  with_reducible refine (moved39_any 0 _ _ _ _ _ _ _ _ rows owners x rnd rows2 owners2 who l _ HR.out HO.out HCM.out HSH.out HR2.out HO2.out HWH.out HL.out HD.out HP1.out HP2.out (by decide) (by decide) HPW.out HAC.out).mono ?_
  rintro e w7 ⟨a9, n9, c9, b9, m9, d9, rfl, hki, hli, hb7⟩
  replace p00 := below_cell hb7 p00
  replace p01 := below_cell hb7 p01
  replace p10 := below_cell hb7 p10
  replace p11 := below_cell hb7 p11
  replace p20 := below_cell hb7 p20
  replace p21 := below_cell hb7 p21
  replace q0 := below_cell hb7 q0
  replace q1 := below_cell hb7 q1
  replace q2 := below_cell hb7 q2
  replace q3 := below_cell hb7 q3
  replace HR := Lib.hid (HR.out.below hb7)
  replace HO := Lib.hid (HO.out.below hb7)
  replace HR2 := Lib.hid (HR2.out.below hb7)
  replace HO2 := Lib.hid (HO2.out.below hb7)
  replace HR3 := Lib.hid (HR3.out.below hb7)
  replace HO3 := Lib.hid (HO3.out.below hb7)
  replace HM := Lib.hid (HM.out.below hb7)
  replace HWH := Lib.hid (HWH.out.below hb7)
  replace HT := Lib.hid (HT.out.below hb7)
  replace HL := Lib.hid (HL.out.below hb7)
  replace HSH := Lib.hid (HSH.out.below hb7)
  replace HCM := Lib.hid (HCM.out.below hb7)
  replace Q0 := Lib.hid ((hb7.block _ (row_lt Q0.out)).trans Q0.out)
  replace Q1 := Lib.hid ((hb7.block _ (row_lt Q1.out)).trans Q1.out)
  replace Q2 := Lib.hid ((hb7.block _ (row_lt Q2.out)).trans Q2.out)
  replace Q3 := Lib.hid ((hb7.block _ (row_lt Q3.out)).trans Q3.out)
  replace HB := Lib.hid (HB.out.trans (hb7.mono HB.out.size))
  clear hb7
  have HKI := Lib.hid hki
  have HLI := Lib.hid hli
  clear hki hli
  have HVD := Lib.hid (mov_val (l := l) (ep := 0) HD.out HP1.out HP2.out (by decide) (by decide) HPW.out HAC.out).1
  obtain ⟨W8, hW8, hb8, hr8, hs8⟩ := box_key w7 (.int .i64 1) (.slice a3 rows2.length k3) (.slice a4 owners2.length k4) (.slice a9 n9 c9) 27
  have HW8 := Lib.hid hW8
  have Q4 := Lib.hid hr8
  replace p00 := below_cell hb8 p00
  replace p01 := below_cell hb8 p01
  replace p10 := below_cell hb8 p10
  replace p11 := below_cell hb8 p11
  replace p20 := below_cell hb8 p20
  replace p21 := below_cell hb8 p21
  replace q0 := below_cell hb8 q0
  replace q1 := below_cell hb8 q1
  replace q2 := below_cell hb8 q2
  replace q3 := below_cell hb8 q3
  replace HR := Lib.hid (HR.out.below hb8)
  replace HO := Lib.hid (HO.out.below hb8)
  replace HR2 := Lib.hid (HR2.out.below hb8)
  replace HO2 := Lib.hid (HO2.out.below hb8)
  replace HR3 := Lib.hid (HR3.out.below hb8)
  replace HO3 := Lib.hid (HO3.out.below hb8)
  replace HM := Lib.hid (HM.out.below hb8)
  replace HWH := Lib.hid (HWH.out.below hb8)
  replace HT := Lib.hid (HT.out.below hb8)
  replace HL := Lib.hid (HL.out.below hb8)
  replace HSH := Lib.hid (HSH.out.below hb8)
  replace HCM := Lib.hid (HCM.out.below hb8)
  replace HKI := Lib.hid (HKI.out.below hb8)
  replace HLI := Lib.hid (HLI.out.below hb8)
  replace Q0 := Lib.hid ((hb8.block _ (row_lt Q0.out)).trans Q0.out)
  replace Q1 := Lib.hid ((hb8.block _ (row_lt Q1.out)).trans Q1.out)
  replace Q2 := Lib.hid ((hb8.block _ (row_lt Q2.out)).trans Q2.out)
  replace Q3 := Lib.hid ((hb8.block _ (row_lt Q3.out)).trans Q3.out)
  replace HB := Lib.hid (HB.out.trans (hb8.mono HB.out.size))
  clear hb8
  obtain ⟨bX, hbX⟩ : ∃ b, b = w7.heap.size := ⟨_, rfl⟩
  have HBX := Lib.hid hbX
  rw [← hbX] at Q4
  clear hW8 hr8 hs8
  have r0 := row_cell Q4.out (k := 0) rfl
  have r1 := row_cell Q4.out (k := 1) rfl
  have r2 := row_cell Q4.out (k := 2) rfl
  have r3 := row_cell Q4.out (k := 3) rfl
  go_wp2_with (rw [← HW8.out])
  clear HW8
  rw [← hbX]
  clear hbX HBX
  with_reducible refine (accepts_any _ _ _ rows2 owners2 others _ HR2.out HO2.out HT.out).mono ?_
  rintro e w11 ⟨yv, rfl, hy, hb11⟩
  rw [quest_ok HP2.out HPO.out]
  replace p00 := below_cell hb11 p00
  replace p01 := below_cell hb11 p01
  replace p10 := below_cell hb11 p10
  replace p11 := below_cell hb11 p11
  replace p20 := below_cell hb11 p20
  replace p21 := below_cell hb11 p21
  replace q0 := below_cell hb11 q0
  replace q1 := below_cell hb11 q1
  replace q2 := below_cell hb11 q2
  replace q3 := below_cell hb11 q3
  replace r0 := below_cell hb11 r0
  replace r1 := below_cell hb11 r1
  replace r2 := below_cell hb11 r2
  replace r3 := below_cell hb11 r3
  replace HR := Lib.hid (HR.out.below hb11)
  replace HO := Lib.hid (HO.out.below hb11)
  replace HR2 := Lib.hid (HR2.out.below hb11)
  replace HO2 := Lib.hid (HO2.out.below hb11)
  replace HR3 := Lib.hid (HR3.out.below hb11)
  replace HO3 := Lib.hid (HO3.out.below hb11)
  replace HM := Lib.hid (HM.out.below hb11)
  replace HWH := Lib.hid (HWH.out.below hb11)
  replace HT := Lib.hid (HT.out.below hb11)
  replace HL := Lib.hid (HL.out.below hb11)
  replace HSH := Lib.hid (HSH.out.below hb11)
  replace HCM := Lib.hid (HCM.out.below hb11)
  replace HKI := Lib.hid (HKI.out.below hb11)
  replace HLI := Lib.hid (HLI.out.below hb11)
  replace Q0 := Lib.hid ((hb11.block _ (row_lt Q0.out)).trans Q0.out)
  replace Q1 := Lib.hid ((hb11.block _ (row_lt Q1.out)).trans Q1.out)
  replace Q2 := Lib.hid ((hb11.block _ (row_lt Q2.out)).trans Q2.out)
  replace Q3 := Lib.hid ((hb11.block _ (row_lt Q3.out)).trans Q3.out)
  replace Q4 := Lib.hid ((hb11.block _ (row_lt Q4.out)).trans Q4.out)
  replace HB := Lib.hid (HB.out.trans (hb11.mono HB.out.size))
  clear hb11
  obtain ⟨ay, ky, rfl, -⟩ := id hy
  clear hy
  cases hca : accOk rows2 owners2 others with
  | false =>
    clear hca
    go_wp2_with fail
    with_reducible refine (accepts_any _ _ _ rows owners others _ HR.out HO.out HT.out).mono ?_
    rintro e w18 ⟨yv2, rfl, hy, hb18⟩
    rw [quest_ok HP1.out HPO.out]
    replace p00 := below_cell hb18 p00
    replace p01 := below_cell hb18 p01
    replace p10 := below_cell hb18 p10
    replace p11 := below_cell hb18 p11
    replace p20 := below_cell hb18 p20
    replace p21 := below_cell hb18 p21
    replace q0 := below_cell hb18 q0
    replace q1 := below_cell hb18 q1
    replace q2 := below_cell hb18 q2
    replace q3 := below_cell hb18 q3
    replace r0 := below_cell hb18 r0
    replace r1 := below_cell hb18 r1
    replace r2 := below_cell hb18 r2
    replace r3 := below_cell hb18 r3
    replace HR := Lib.hid (HR.out.below hb18)
    replace HO := Lib.hid (HO.out.below hb18)
    replace HR2 := Lib.hid (HR2.out.below hb18)
    replace HO2 := Lib.hid (HO2.out.below hb18)
    replace HR3 := Lib.hid (HR3.out.below hb18)
    replace HO3 := Lib.hid (HO3.out.below hb18)
    replace HM := Lib.hid (HM.out.below hb18)
    replace HWH := Lib.hid (HWH.out.below hb18)
    replace HT := Lib.hid (HT.out.below hb18)
    replace HL := Lib.hid (HL.out.below hb18)
    replace HSH := Lib.hid (HSH.out.below hb18)
    replace HCM := Lib.hid (HCM.out.below hb18)
    replace HKI := Lib.hid (HKI.out.below hb18)
    replace HLI := Lib.hid (HLI.out.below hb18)
    replace Q0 := Lib.hid ((hb18.block _ (row_lt Q0.out)).trans Q0.out)
    replace Q1 := Lib.hid ((hb18.block _ (row_lt Q1.out)).trans Q1.out)
    replace Q2 := Lib.hid ((hb18.block _ (row_lt Q2.out)).trans Q2.out)
    replace Q3 := Lib.hid ((hb18.block _ (row_lt Q3.out)).trans Q3.out)
    replace Q4 := Lib.hid ((hb18.block _ (row_lt Q4.out)).trans Q4.out)
    replace HB := Lib.hid (HB.out.trans (hb18.mono HB.out.size))
    clear hb18
    obtain ⟨ay2, ky2, rfl, -⟩ := id hy
    clear hy
    cases hal : accOk rows owners others with
    | false =>
      clear hal
      go_wp2_with fail
      go_ret
      exact ⟨rfl, HB.out⟩
    | true =>
    have HAL := Lib.hid hal
    clear hal
    go_wp2_with fail
    with_reducible refine (moved39_any 0 _ _ _ _ _ _ _ _ rows owners x rnd rows2 owners2 others l _ HR.out HO.out HCM.out HSH.out HR2.out HO2.out HT.out HL.out HD.out HP1.out HP2.out (by decide) (by decide) HPO.out HAL.out).mono ?_
    rintro e w23 ⟨az, nz, cz, bs, ms, ds, rfl, hzk, hzl, hb23⟩
    replace p00 := below_cell hb23 p00
    replace p01 := below_cell hb23 p01
    replace p10 := below_cell hb23 p10
    replace p11 := below_cell hb23 p11
    replace p20 := below_cell hb23 p20
    replace p21 := below_cell hb23 p21
    replace q0 := below_cell hb23 q0
    replace q1 := below_cell hb23 q1
    replace q2 := below_cell hb23 q2
    replace q3 := below_cell hb23 q3
    replace r0 := below_cell hb23 r0
    replace r1 := below_cell hb23 r1
    replace r2 := below_cell hb23 r2
    replace r3 := below_cell hb23 r3
    replace HR := Lib.hid (HR.out.below hb23)
    replace HO := Lib.hid (HO.out.below hb23)
    replace HR2 := Lib.hid (HR2.out.below hb23)
    replace HO2 := Lib.hid (HO2.out.below hb23)
    replace HR3 := Lib.hid (HR3.out.below hb23)
    replace HO3 := Lib.hid (HO3.out.below hb23)
    replace HM := Lib.hid (HM.out.below hb23)
    replace HWH := Lib.hid (HWH.out.below hb23)
    replace HT := Lib.hid (HT.out.below hb23)
    replace HL := Lib.hid (HL.out.below hb23)
    replace HSH := Lib.hid (HSH.out.below hb23)
    replace HCM := Lib.hid (HCM.out.below hb23)
    replace HKI := Lib.hid (HKI.out.below hb23)
    replace HLI := Lib.hid (HLI.out.below hb23)
    replace Q0 := Lib.hid ((hb23.block _ (row_lt Q0.out)).trans Q0.out)
    replace Q1 := Lib.hid ((hb23.block _ (row_lt Q1.out)).trans Q1.out)
    replace Q2 := Lib.hid ((hb23.block _ (row_lt Q2.out)).trans Q2.out)
    replace Q3 := Lib.hid ((hb23.block _ (row_lt Q3.out)).trans Q3.out)
    replace Q4 := Lib.hid ((hb23.block _ (row_lt Q4.out)).trans Q4.out)
    replace HB := Lib.hid (HB.out.trans (hb23.mono HB.out.size))
    clear hb23
    have HZK := Lib.hid hzk
    have HZL := Lib.hid hzl
    clear hzk hzl
    have HZD := Lib.hid (mov_val (l := l) (ep := 0) HD.out HP1.out HP2.out (by decide) (by decide) HPO.out HAL.out).1
    obtain ⟨W24, hW24, hb24, hr24, hs24⟩ := box_key w23 (.int .i64 1) (.slice a3 rows2.length k3) (.slice a4 owners2.length k4) (.slice az nz cz) 27
    have HW24 := Lib.hid hW24
    have Q6 := Lib.hid hr24
    replace p00 := below_cell hb24 p00
    replace p01 := below_cell hb24 p01
    replace p10 := below_cell hb24 p10
    replace p11 := below_cell hb24 p11
    replace p20 := below_cell hb24 p20
    replace p21 := below_cell hb24 p21
    replace q0 := below_cell hb24 q0
    replace q1 := below_cell hb24 q1
    replace q2 := below_cell hb24 q2
    replace q3 := below_cell hb24 q3
    replace r0 := below_cell hb24 r0
    replace r1 := below_cell hb24 r1
    replace r2 := below_cell hb24 r2
    replace r3 := below_cell hb24 r3
    replace HR := Lib.hid (HR.out.below hb24)
    replace HO := Lib.hid (HO.out.below hb24)
    replace HR2 := Lib.hid (HR2.out.below hb24)
    replace HO2 := Lib.hid (HO2.out.below hb24)
    replace HR3 := Lib.hid (HR3.out.below hb24)
    replace HO3 := Lib.hid (HO3.out.below hb24)
    replace HM := Lib.hid (HM.out.below hb24)
    replace HWH := Lib.hid (HWH.out.below hb24)
    replace HT := Lib.hid (HT.out.below hb24)
    replace HL := Lib.hid (HL.out.below hb24)
    replace HSH := Lib.hid (HSH.out.below hb24)
    replace HCM := Lib.hid (HCM.out.below hb24)
    replace HKI := Lib.hid (HKI.out.below hb24)
    replace HLI := Lib.hid (HLI.out.below hb24)
    replace HZK := Lib.hid (HZK.out.below hb24)
    replace HZL := Lib.hid (HZL.out.below hb24)
    replace Q0 := Lib.hid ((hb24.block _ (row_lt Q0.out)).trans Q0.out)
    replace Q1 := Lib.hid ((hb24.block _ (row_lt Q1.out)).trans Q1.out)
    replace Q2 := Lib.hid ((hb24.block _ (row_lt Q2.out)).trans Q2.out)
    replace Q3 := Lib.hid ((hb24.block _ (row_lt Q3.out)).trans Q3.out)
    replace Q4 := Lib.hid ((hb24.block _ (row_lt Q4.out)).trans Q4.out)
    replace HB := Lib.hid (HB.out.trans (hb24.mono HB.out.size))
    clear hb24
    obtain ⟨bZ, hbZ⟩ : ∃ b, b = w23.heap.size := ⟨_, rfl⟩
    rw [← hbZ] at Q6
    clear hW24 hr24 hs24
    go_wp2_with (rw [← HW24.out])
    clear HW24
    rw [← hbZ]
    clear hbZ
    have z0 := row_cell Q6.out (k := 0) rfl
    have z1 := row_cell Q6.out (k := 1) rfl
    have z2 := row_cell Q6.out (k := 2) rfl
    have z3 := row_cell Q6.out (k := 3) rfl
    obtain ⟨-, bz, oz, n_qz, c_qz, e_qz, qz⟩ := HZK.out.get (k := 0) (by simp [dealC])
    have l_qz : nz = (dealC (x :: (movU rows owners x rnd rows2 others l))).length := by obtain ⟨a, k, h, -⟩ := HZK.out; simp only [Value.slice.injEq] at h; exact h.2.1
    rw [dealC_len, List.length_cons] at l_qz
    simp only [Value.slice.injEq] at e_qz
    obtain ⟨rfl, -, -⟩ := e_qz
    rw [show nth (dealC (x :: (movU rows owners x rnd rows2 others l))) 0 = powE 4 x from nth_mapv (f := powE 4) (l := x :: (movU rows owners x rnd rows2 others l)) (by simp), Nat.add_zero] at qz
    have g_qz : (0 : Int) < (nz : Int) := by omega
    have d_qz : decide ((0 : Int) < (nz : Int)) = true := decide_eq_true g_qz
    have d2_qz : decide (0 < nz) = true := decide_eq_true (by omega)
    have d3_qz : 0 < nz := by omega
    clear l_qz
    obtain ⟨-, bx, ox, n_qx, c_qx, e_qx, qx⟩ := HKI.out.get (k := 0) (by simp [dealC])
    have l_qx : n9 = (dealC (x :: (movU rows owners x rnd rows2 who l))).length := by obtain ⟨a, k, h, -⟩ := HKI.out; simp only [Value.slice.injEq] at h; exact h.2.1
    rw [dealC_len, List.length_cons] at l_qx
    simp only [Value.slice.injEq] at e_qx
    obtain ⟨rfl, -, -⟩ := e_qx
    rw [show nth (dealC (x :: (movU rows owners x rnd rows2 who l))) 0 = powE 4 x from nth_mapv (f := powE 4) (l := x :: (movU rows owners x rnd rows2 who l)) (by simp), Nat.add_zero] at qx
    have g_qx : (0 : Int) < (n9 : Int) := by omega
    have d_qx : decide ((0 : Int) < (n9 : Int)) = true := decide_eq_true g_qx
    have d2_qx : decide (0 < n9) = true := decide_eq_true (by omega)
    have d3_qx : 0 < n9 := by omega
    clear l_qx
    obtain ⟨p4, hp4⟩ : ∃ p, p = powE 4 x := ⟨_, rfl⟩
    rw [← hp4] at qz qx
    clear hp4
    have HHO := Lib.hid (fun (W1 : World) (h1 : Below W24.heap.size W24 W1) => holds39_any 1 (.slice a3 rows2.length k3) (.slice a4 owners2.length k4) (.slice (some ⟨bz, oz, none⟩) nz cz) (.slice bs ms ds) (.slice a6 who.length k6) rows2 owners2 x (movU rows owners x rnd rows2 others l) who W1 (HR2.out.below h1) (HO2.out.below h1) (HZK.out.below h1) (HZL.out.below h1) (HWH.out.below h1) HZD.out HP2.out HPW.out)
    refine wp_region_flowsG (by kernel_rfl) (by kernel_rfl) (by kernel_rfl) (by kernel_rfl) (fun done v W => FOn24 W24 (bZ) (bX) (.agg #[.int .i64 1, .slice a3 rows2.length k3, .slice a4 owners2.length k4, .slice (some ⟨bz, oz, none⟩) nz cz]) (.slice (some ⟨bz, oz, none⟩) nz cz) (.slice (some ⟨bx, ox, none⟩) n9 c9) (bz) (oz) (bx) (ox) (nz) (n9) (p4) (.slice bs ms ds) (x) (.slice a6 who.length k6) done v W) (fun v => ?_) ?_ (fun v W h => ?_)
    · exact ⟨(Below.refl _ _).drew, (fun h => by cases h), (fun h => by cases h), (fun h => by cases h), (fun h => by cases h), (fun h => by cases h), (fun h => by cases h), (fun h => by cases h), (fun h => by cases h), (fun h => by cases h), (fun h => by cases h), (fun h => by cases h), (fun h => by cases h), (fun h => by cases h), (fun h => by cases h), (fun h => by cases h), (fun h => by cases h), (fun h => by cases h), (fun h => by cases h), (fun h => by cases h), (fun h => by cases h), (fun h => by cases h), (fun h => by cases h), (fun h => by cases h), (fun h => by cases h), (fun h => by cases h), (fun h => by cases h), (fun h => by cases h), (fun h => by cases h), (fun h => by cases h), (fun h => by cases h), (fun h => by cases h), (fun h => by cases h)⟩
    · refine ⟨?_, ?_, ?_, ?_, ?_, ?_, ?_, ?_, ?_, ?_, ?_, ?_, ?_, ?_, ?_, ?_, ?_, ?_, ?_, ?_, ?_, ?_, ?_, ?_, ?_, ?_, ?_, ?_, ?_, ?_, ?_, ?_, trivial⟩
      · intro done v W A h hd hp hu hA hB hdf
        have e0 : A.tmps[35]?.getD undef = .bool true := hB 35 rfl
        clear hA hB hp hu hdf
        go_simp
        exact ⟨_, rfl, ⟨h.b, (fun _ => rfl), h.f1, h.f2, h.f3, h.f4, h.f5, h.f6, h.f7, h.f8, h.f9, h.f10, h.f11, h.f12, h.f13, h.f14, h.f15, h.f16, h.f17, h.f18, h.f19, h.f20, h.f21, h.f22, h.f23, h.f24, h.f25, h.f26, h.f27, h.f28, h.f29, h.f30, h.f31⟩⟩
      · intro done v W A h hd hp hu hA hB hdf
        have hd0 : done 0 = true := hp 0 rfl
        have e0 := (hA 0 145 rfl hd0).trans (h.f0 hd0)
        clear hA hB hp hu hdf
        go_simp
        exact ⟨_, rfl, ⟨h.b, h.f0, (fun _ => rfl), h.f2, h.f3, h.f4, h.f5, h.f6, h.f7, h.f8, h.f9, h.f10, h.f11, h.f12, h.f13, h.f14, h.f15, h.f16, h.f17, h.f18, h.f19, h.f20, h.f21, h.f22, h.f23, h.f24, h.f25, h.f26, h.f27, h.f28, h.f29, h.f30, h.f31⟩⟩
      · intro done v W A h hd hp hu hA hB hdf
        have hd1 : done 1 = true := hp 1 rfl
        refine ⟨_, h.f1 hd1, fun _ => ?_, fun hne => absurd rfl hne⟩
        have e0 : A.tmps[33]?.getD undef = .pointer (some ⟨bZ, 0, none⟩) := hB 33 rfl
        clear hA hB hp hu hdf
        go_simp
        exact ⟨_, rfl, ⟨h.b, h.f0, h.f1, (fun _ => rfl), h.f3, h.f4, h.f5, h.f6, h.f7, h.f8, h.f9, h.f10, h.f11, h.f12, h.f13, h.f14, h.f15, h.f16, h.f17, h.f18, h.f19, h.f20, h.f21, h.f22, h.f23, h.f24, h.f25, h.f26, h.f27, h.f28, h.f29, h.f30, h.f31⟩⟩
      · intro done v W A h hd hp hu hA hB hdf
        have hd1 : done 1 = true := hp 1 rfl
        have hd2 : done 2 = true := hp 2 rfl
        refine ⟨_, h.f1 hd1, fun _ => ?_, fun hne => absurd rfl hne⟩
        have e0 := (hA 2 147 rfl hd2).trans (h.f2 hd2)
        have y0_ := below_cell h.b z3
        clear hA hB hp hu hdf
        go_simp
        exact ⟨_, rfl, ⟨h.b, h.f0, h.f1, h.f2, (fun _ => rfl), h.f4, h.f5, h.f6, h.f7, h.f8, h.f9, h.f10, h.f11, h.f12, h.f13, h.f14, h.f15, h.f16, h.f17, h.f18, h.f19, h.f20, h.f21, h.f22, h.f23, h.f24, h.f25, h.f26, h.f27, h.f28, h.f29, h.f30, h.f31⟩⟩
      · intro done v W A h hd hp hu hA hB hdf
        have hd1 : done 1 = true := hp 1 rfl
        have hd3 : done 3 = true := hp 3 rfl
        refine ⟨_, h.f1 hd1, fun _ => ?_, fun hne => absurd rfl hne⟩
        have e0 := (hA 3 148 rfl hd3).trans (h.f3 hd3)
        clear hA hB hp hu hdf
        go_simp
        exact ⟨_, rfl, ⟨h.b, h.f0, h.f1, h.f2, h.f3, (fun _ => rfl), h.f5, h.f6, h.f7, h.f8, h.f9, h.f10, h.f11, h.f12, h.f13, h.f14, h.f15, h.f16, h.f17, h.f18, h.f19, h.f20, h.f21, h.f22, h.f23, h.f24, h.f25, h.f26, h.f27, h.f28, h.f29, h.f30, h.f31⟩⟩
      · intro done v W A h hd hp hu hA hB hdf
        have hd1 : done 1 = true := hp 1 rfl
        have hd4 : done 4 = true := hp 4 rfl
        refine ⟨_, h.f1 hd1, fun _ => ?_, fun hne => absurd rfl hne⟩
        have e0 := (hA 4 149 rfl hd4).trans (h.f4 hd4)
        clear hA hB hp hu hdf
        go_simp
        exact ⟨_, rfl, ⟨h.b, h.f0, h.f1, h.f2, h.f3, h.f4, (fun _ => rfl), h.f6, h.f7, h.f8, h.f9, h.f10, h.f11, h.f12, h.f13, h.f14, h.f15, h.f16, h.f17, h.f18, h.f19, h.f20, h.f21, h.f22, h.f23, h.f24, h.f25, h.f26, h.f27, h.f28, h.f29, h.f30, h.f31⟩⟩
      · intro done v W A h hd hp hu hA hB hdf
        have hd1 : done 1 = true := hp 1 rfl
        have hd5 : done 5 = true := hp 5 rfl
        have e0 := (hA 1 146 rfl hd1).trans (h.f1 hd1)
        have e1 := (hA 5 150 rfl hd5).trans (h.f5 hd5)
        clear hA hB hp hu hdf
        go_simp
        exact ⟨_, rfl, ⟨h.b, h.f0, h.f1, h.f2, h.f3, h.f4, h.f5, (fun _ => rfl), h.f7, h.f8, h.f9, h.f10, h.f11, h.f12, h.f13, h.f14, h.f15, h.f16, h.f17, h.f18, h.f19, h.f20, h.f21, h.f22, h.f23, h.f24, h.f25, h.f26, h.f27, h.f28, h.f29, h.f30, h.f31⟩⟩
      · intro done v W A h hd hp hu hA hB hdf
        have hd6 : done 6 = true := hp 6 rfl
        have e0 := (hA 6 151 rfl hd6).trans (h.f6 hd6)
        clear hA hB hp hu hdf
        go_simp
        exact ⟨_, rfl, ⟨h.b, h.f0, h.f1, h.f2, h.f3, h.f4, h.f5, h.f6, (fun _ => rfl), h.f8, h.f9, h.f10, h.f11, h.f12, h.f13, h.f14, h.f15, h.f16, h.f17, h.f18, h.f19, h.f20, h.f21, h.f22, h.f23, h.f24, h.f25, h.f26, h.f27, h.f28, h.f29, h.f30, h.f31⟩⟩
      · intro done v W A h hd hp hu hA hB hdf
        have hd7 : done 7 = true := hp 7 rfl
        refine ⟨_, h.f7 hd7, fun _ => ?_, fun hne => absurd rfl hne⟩
        have e0 : A.tmps[21]?.getD undef = .pointer (some ⟨bX, 0, none⟩) := hB 21 rfl
        clear hA hB hp hu hdf
        go_simp
        exact ⟨_, rfl, ⟨h.b, h.f0, h.f1, h.f2, h.f3, h.f4, h.f5, h.f6, h.f7, (fun _ => rfl), h.f9, h.f10, h.f11, h.f12, h.f13, h.f14, h.f15, h.f16, h.f17, h.f18, h.f19, h.f20, h.f21, h.f22, h.f23, h.f24, h.f25, h.f26, h.f27, h.f28, h.f29, h.f30, h.f31⟩⟩
      · intro done v W A h hd hp hu hA hB hdf
        have hd7 : done 7 = true := hp 7 rfl
        have hd8 : done 8 = true := hp 8 rfl
        refine ⟨_, h.f7 hd7, fun _ => ?_, fun hne => absurd rfl hne⟩
        have e0 := (hA 8 153 rfl hd8).trans (h.f8 hd8)
        have y0_ := below_cell h.b r3
        clear hA hB hp hu hdf
        go_simp
        exact ⟨_, rfl, ⟨h.b, h.f0, h.f1, h.f2, h.f3, h.f4, h.f5, h.f6, h.f7, h.f8, (fun _ => rfl), h.f10, h.f11, h.f12, h.f13, h.f14, h.f15, h.f16, h.f17, h.f18, h.f19, h.f20, h.f21, h.f22, h.f23, h.f24, h.f25, h.f26, h.f27, h.f28, h.f29, h.f30, h.f31⟩⟩
      · intro done v W A h hd hp hu hA hB hdf
        have hd7 : done 7 = true := hp 7 rfl
        have hd9 : done 9 = true := hp 9 rfl
        refine ⟨_, h.f7 hd7, fun _ => ?_, fun hne => absurd rfl hne⟩
        have e0 := (hA 9 154 rfl hd9).trans (h.f9 hd9)
        clear hA hB hp hu hdf
        go_simp
        exact ⟨_, rfl, ⟨h.b, h.f0, h.f1, h.f2, h.f3, h.f4, h.f5, h.f6, h.f7, h.f8, h.f9, (fun _ => rfl), h.f11, h.f12, h.f13, h.f14, h.f15, h.f16, h.f17, h.f18, h.f19, h.f20, h.f21, h.f22, h.f23, h.f24, h.f25, h.f26, h.f27, h.f28, h.f29, h.f30, h.f31⟩⟩
      · intro done v W A h hd hp hu hA hB hdf
        have hd7 : done 7 = true := hp 7 rfl
        have hd10 : done 10 = true := hp 10 rfl
        refine ⟨_, h.f7 hd7, fun _ => ?_, fun hne => absurd rfl hne⟩
        have e0 := (hA 10 155 rfl hd10).trans (h.f10 hd10)
        clear hA hB hp hu hdf
        go_simp
        exact ⟨_, rfl, ⟨h.b, h.f0, h.f1, h.f2, h.f3, h.f4, h.f5, h.f6, h.f7, h.f8, h.f9, h.f10, (fun _ => rfl), h.f12, h.f13, h.f14, h.f15, h.f16, h.f17, h.f18, h.f19, h.f20, h.f21, h.f22, h.f23, h.f24, h.f25, h.f26, h.f27, h.f28, h.f29, h.f30, h.f31⟩⟩
      · intro done v W A h hd hp hu hA hB hdf
        have hd7 : done 7 = true := hp 7 rfl
        have hd11 : done 11 = true := hp 11 rfl
        have e0 := (hA 7 152 rfl hd7).trans (h.f7 hd7)
        have e1 := (hA 11 156 rfl hd11).trans (h.f11 hd11)
        clear hA hB hp hu hdf
        go_simp
        exact ⟨_, rfl, ⟨h.b, h.f0, h.f1, h.f2, h.f3, h.f4, h.f5, h.f6, h.f7, h.f8, h.f9, h.f10, h.f11, (fun _ => rfl), h.f13, h.f14, h.f15, h.f16, h.f17, h.f18, h.f19, h.f20, h.f21, h.f22, h.f23, h.f24, h.f25, h.f26, h.f27, h.f28, h.f29, h.f30, h.f31⟩⟩
      · intro done v W A h hd hp hu hA hB hdf
        have hd12 : done 12 = true := hp 12 rfl
        have e0 := (hA 12 157 rfl hd12).trans (h.f12 hd12)
        clear hA hB hp hu hdf
        go_simp
        exact ⟨_, rfl, ⟨h.b, h.f0, h.f1, h.f2, h.f3, h.f4, h.f5, h.f6, h.f7, h.f8, h.f9, h.f10, h.f11, h.f12, (fun _ => rfl), h.f14, h.f15, h.f16, h.f17, h.f18, h.f19, h.f20, h.f21, h.f22, h.f23, h.f24, h.f25, h.f26, h.f27, h.f28, h.f29, h.f30, h.f31⟩⟩
      · intro done v W A h hd hp hu hA hB hdf
        have hd13 : done 13 = true := hp 13 rfl
        refine ⟨_, h.f13 hd13, fun _ => ?_, fun hne => absurd rfl hne⟩
        have e0 : A.tmps[33]?.getD undef = .pointer (some ⟨bZ, 0, none⟩) := hB 33 rfl
        clear hA hB hp hu hdf
        go_simp
        exact ⟨_, rfl, ⟨h.b, h.f0, h.f1, h.f2, h.f3, h.f4, h.f5, h.f6, h.f7, h.f8, h.f9, h.f10, h.f11, h.f12, h.f13, (fun _ => rfl), h.f15, h.f16, h.f17, h.f18, h.f19, h.f20, h.f21, h.f22, h.f23, h.f24, h.f25, h.f26, h.f27, h.f28, h.f29, h.f30, h.f31⟩⟩
      · intro done v W A h hd hp hu hA hB hdf
        have hd13 : done 13 = true := hp 13 rfl
        have hd14 : done 14 = true := hp 14 rfl
        refine ⟨_, h.f13 hd13, fun _ => ?_, fun hne => absurd rfl hne⟩
        have e0 := (hA 14 159 rfl hd14).trans (h.f14 hd14)
        have y0_ := below_cell h.b z3
        clear hA hB hp hu hdf
        go_simp
        exact ⟨_, rfl, ⟨h.b, h.f0, h.f1, h.f2, h.f3, h.f4, h.f5, h.f6, h.f7, h.f8, h.f9, h.f10, h.f11, h.f12, h.f13, h.f14, (fun _ => rfl), h.f16, h.f17, h.f18, h.f19, h.f20, h.f21, h.f22, h.f23, h.f24, h.f25, h.f26, h.f27, h.f28, h.f29, h.f30, h.f31⟩⟩
      · intro done v W A h hd hp hu hA hB hdf
        have hd13 : done 13 = true := hp 13 rfl
        have hd15 : done 15 = true := hp 15 rfl
        refine ⟨_, h.f13 hd13, fun _ => ?_, fun hne => absurd rfl hne⟩
        have e0 := (hA 15 160 rfl hd15).trans (h.f15 hd15)
        clear hA hB hp hu hdf
        go_simp
        exact ⟨_, rfl, ⟨h.b, h.f0, h.f1, h.f2, h.f3, h.f4, h.f5, h.f6, h.f7, h.f8, h.f9, h.f10, h.f11, h.f12, h.f13, h.f14, h.f15, (fun _ => rfl), h.f17, h.f18, h.f19, h.f20, h.f21, h.f22, h.f23, h.f24, h.f25, h.f26, h.f27, h.f28, h.f29, h.f30, h.f31⟩⟩
      · intro done v W A h hd hp hu hA hB hdf
        have hd13 : done 13 = true := hp 13 rfl
        have hd16 : done 16 = true := hp 16 rfl
        refine ⟨_, h.f13 hd13, fun _ => ?_, fun hne => absurd rfl hne⟩
        have e0 := (hA 16 161 rfl hd16).trans (h.f16 hd16)
        have y0_ := below_cell h.b qz
        clear hA hB hp hu hdf
        go_simp
        exact ⟨_, rfl, ⟨h.b, h.f0, h.f1, h.f2, h.f3, h.f4, h.f5, h.f6, h.f7, h.f8, h.f9, h.f10, h.f11, h.f12, h.f13, h.f14, h.f15, h.f16, (fun _ => rfl), h.f18, h.f19, h.f20, h.f21, h.f22, h.f23, h.f24, h.f25, h.f26, h.f27, h.f28, h.f29, h.f30, h.f31⟩⟩
      · intro done v W A h hd hp hu hA hB hdf
        have hd13 : done 13 = true := hp 13 rfl
        refine ⟨_, h.f13 hd13, fun _ => ?_, fun hne => absurd rfl hne⟩
        have e0 : A.tmps[21]?.getD undef = .pointer (some ⟨bX, 0, none⟩) := hB 21 rfl
        clear hA hB hp hu hdf
        go_simp
        exact ⟨_, rfl, ⟨h.b, h.f0, h.f1, h.f2, h.f3, h.f4, h.f5, h.f6, h.f7, h.f8, h.f9, h.f10, h.f11, h.f12, h.f13, h.f14, h.f15, h.f16, h.f17, (fun _ => rfl), h.f19, h.f20, h.f21, h.f22, h.f23, h.f24, h.f25, h.f26, h.f27, h.f28, h.f29, h.f30, h.f31⟩⟩
      · intro done v W A h hd hp hu hA hB hdf
        have hd13 : done 13 = true := hp 13 rfl
        have hd18 : done 18 = true := hp 18 rfl
        refine ⟨_, h.f13 hd13, fun _ => ?_, fun hne => absurd rfl hne⟩
        have e0 := (hA 18 163 rfl hd18).trans (h.f18 hd18)
        have y0_ := below_cell h.b r3
        clear hA hB hp hu hdf
        go_simp
        exact ⟨_, rfl, ⟨h.b, h.f0, h.f1, h.f2, h.f3, h.f4, h.f5, h.f6, h.f7, h.f8, h.f9, h.f10, h.f11, h.f12, h.f13, h.f14, h.f15, h.f16, h.f17, h.f18, (fun _ => rfl), h.f20, h.f21, h.f22, h.f23, h.f24, h.f25, h.f26, h.f27, h.f28, h.f29, h.f30, h.f31⟩⟩
      · intro done v W A h hd hp hu hA hB hdf
        have hd13 : done 13 = true := hp 13 rfl
        have hd19 : done 19 = true := hp 19 rfl
        refine ⟨_, h.f13 hd13, fun _ => ?_, fun hne => absurd rfl hne⟩
        have e0 := (hA 19 164 rfl hd19).trans (h.f19 hd19)
        clear hA hB hp hu hdf
        go_simp
        exact ⟨_, rfl, ⟨h.b, h.f0, h.f1, h.f2, h.f3, h.f4, h.f5, h.f6, h.f7, h.f8, h.f9, h.f10, h.f11, h.f12, h.f13, h.f14, h.f15, h.f16, h.f17, h.f18, h.f19, (fun _ => rfl), h.f21, h.f22, h.f23, h.f24, h.f25, h.f26, h.f27, h.f28, h.f29, h.f30, h.f31⟩⟩
      · intro done v W A h hd hp hu hA hB hdf
        have hd13 : done 13 = true := hp 13 rfl
        have hd20 : done 20 = true := hp 20 rfl
        refine ⟨_, h.f13 hd13, fun _ => ?_, fun hne => absurd rfl hne⟩
        have e0 := (hA 20 165 rfl hd20).trans (h.f20 hd20)
        have y0_ := below_cell h.b qx
        clear hA hB hp hu hdf
        go_simp
        exact ⟨_, rfl, ⟨h.b, h.f0, h.f1, h.f2, h.f3, h.f4, h.f5, h.f6, h.f7, h.f8, h.f9, h.f10, h.f11, h.f12, h.f13, h.f14, h.f15, h.f16, h.f17, h.f18, h.f19, h.f20, (fun _ => rfl), h.f22, h.f23, h.f24, h.f25, h.f26, h.f27, h.f28, h.f29, h.f30, h.f31⟩⟩
      · intro done v W A h hd hp hu hA hB hdf
        have hd13 : done 13 = true := hp 13 rfl
        have hd17 : done 17 = true := hp 17 rfl
        have hd21 : done 21 = true := hp 21 rfl
        refine ⟨_, h.f13 hd13, fun _ => ?_, fun hne => absurd rfl hne⟩
        have e0 := (hA 17 162 rfl hd17).trans (h.f17 hd17)
        have e1 := (hA 21 166 rfl hd21).trans (h.f21 hd21)
        clear hA hB hp hu hdf
        go_simp
        exact ⟨_, rfl, ⟨h.b, h.f0, h.f1, h.f2, h.f3, h.f4, h.f5, h.f6, h.f7, h.f8, h.f9, h.f10, h.f11, h.f12, h.f13, h.f14, h.f15, h.f16, h.f17, h.f18, h.f19, h.f20, h.f21, (fun _ => rfl), h.f23, h.f24, h.f25, h.f26, h.f27, h.f28, h.f29, h.f30, h.f31⟩⟩
      · intro done v W A h hd hp hu hA hB hdf
        have hd13 : done 13 = true := hp 13 rfl
        have hd22 : done 22 = true := hp 22 rfl
        have e0 := (hA 13 158 rfl hd13).trans (h.f13 hd13)
        have e1 := (hA 22 167 rfl hd22).trans (h.f22 hd22)
        clear hA hB hp hu hdf
        go_simp
        exact ⟨_, rfl, ⟨h.b, h.f0, h.f1, h.f2, h.f3, h.f4, h.f5, h.f6, h.f7, h.f8, h.f9, h.f10, h.f11, h.f12, h.f13, h.f14, h.f15, h.f16, h.f17, h.f18, h.f19, h.f20, h.f21, h.f22, (fun _ => rfl), h.f24, h.f25, h.f26, h.f27, h.f28, h.f29, h.f30, h.f31⟩⟩
      · intro done v W A h hd hp hu hA hB hdf
        have hd23 : done 23 = true := hp 23 rfl
        have e0 := (hA 23 168 rfl hd23).trans (h.f23 hd23)
        clear hA hB hp hu hdf
        go_simp
        exact ⟨_, rfl, ⟨h.b, h.f0, h.f1, h.f2, h.f3, h.f4, h.f5, h.f6, h.f7, h.f8, h.f9, h.f10, h.f11, h.f12, h.f13, h.f14, h.f15, h.f16, h.f17, h.f18, h.f19, h.f20, h.f21, h.f22, h.f23, (fun _ => rfl), h.f25, h.f26, h.f27, h.f28, h.f29, h.f30, h.f31⟩⟩
      · intro done v W A h hd hp hu hA hB hdf
        have hd24 : done 24 = true := hp 24 rfl
        refine ⟨_, h.f24 hd24, fun _ => ?_, fun hne => absurd rfl hne⟩
        have e0 : A.tmps[33]?.getD undef = .pointer (some ⟨bZ, 0, none⟩) := hB 33 rfl
        have y0_ := below_cell h.b z0
        have y1_ := below_cell h.b z1
        have y2_ := below_cell h.b z2
        have y3_ := below_cell h.b z3
        clear hA hB hp hu hdf
        go_simp
        exact ⟨_, rfl, ⟨h.b, h.f0, h.f1, h.f2, h.f3, h.f4, h.f5, h.f6, h.f7, h.f8, h.f9, h.f10, h.f11, h.f12, h.f13, h.f14, h.f15, h.f16, h.f17, h.f18, h.f19, h.f20, h.f21, h.f22, h.f23, h.f24, (fun _ => rfl), h.f26, h.f27, h.f28, h.f29, h.f30, h.f31⟩⟩
      · intro done v W A h hd hp hu hA hB hdf
        have hd24 : done 24 = true := hp 24 rfl
        refine ⟨_, h.f24 hd24, fun _ => ?_, fun hne => absurd rfl hne⟩
        have e0 : A.tmps[34]?.getD undef = .slice bs ms ds := hB 34 rfl
        clear hA hB hp hu hdf
        go_simp
        exact ⟨_, rfl, ⟨h.b, h.f0, h.f1, h.f2, h.f3, h.f4, h.f5, h.f6, h.f7, h.f8, h.f9, h.f10, h.f11, h.f12, h.f13, h.f14, h.f15, h.f16, h.f17, h.f18, h.f19, h.f20, h.f21, h.f22, h.f23, h.f24, h.f25, (fun _ => rfl), h.f27, h.f28, h.f29, h.f30, h.f31⟩⟩
      · intro done v W A h hd hp hu hA hB hdf
        have hd24 : done 24 = true := hp 24 rfl
        refine ⟨_, h.f24 hd24, fun _ => ?_, fun hne => absurd rfl hne⟩
        have e0 : A.tmps[3]?.getD undef = .int .i64 x := hB 3 rfl
        clear hA hB hp hu hdf
        go_simp
        exact ⟨_, rfl, ⟨h.b, h.f0, h.f1, h.f2, h.f3, h.f4, h.f5, h.f6, h.f7, h.f8, h.f9, h.f10, h.f11, h.f12, h.f13, h.f14, h.f15, h.f16, h.f17, h.f18, h.f19, h.f20, h.f21, h.f22, h.f23, h.f24, h.f25, h.f26, (fun _ => rfl), h.f28, h.f29, h.f30, h.f31⟩⟩
      · intro done v W A h hd hp hu hA hB hdf
        have hd24 : done 24 = true := hp 24 rfl
        refine ⟨_, h.f24 hd24, fun _ => ?_, fun hne => absurd rfl hne⟩
        have e0 : A.tmps[5]?.getD undef = .slice a6 who.length k6 := hB 5 rfl
        clear hA hB hp hu hdf
        go_simp
        exact ⟨_, rfl, ⟨h.b, h.f0, h.f1, h.f2, h.f3, h.f4, h.f5, h.f6, h.f7, h.f8, h.f9, h.f10, h.f11, h.f12, h.f13, h.f14, h.f15, h.f16, h.f17, h.f18, h.f19, h.f20, h.f21, h.f22, h.f23, h.f24, h.f25, h.f26, h.f27, (fun _ => rfl), h.f29, h.f30, h.f31⟩⟩
      · intro done v W A h hd hp hu hA hB hdf
        have hd24 : done 24 = true := hp 24 rfl
        have hd25 : done 25 = true := hp 25 rfl
        have hd26 : done 26 = true := hp 26 rfl
        have hd27 : done 27 = true := hp 27 rfl
        have hd28 : done 28 = true := hp 28 rfl
        refine ⟨_, h.f24 hd24, fun _ => ?_, fun hne => absurd rfl hne⟩
        have e0 := (hA 25 170 rfl hd25).trans (h.f25 hd25)
        have e1 := (hA 26 171 rfl hd26).trans (h.f26 hd26)
        have e2 := (hA 27 172 rfl hd27).trans (h.f27 hd27)
        have e3 := (hA 28 173 rfl hd28).trans (h.f28 hd28)
        clear hA hB hp hu hdf
        go_simp
        with_reducible refine (HHO.out W h.b).mono ?_
        rintro e wq ⟨rfl, hb⟩
        exact ⟨_, rfl, ⟨h.b.trans (hb.mono h.b.size), h.f0, h.f1, h.f2, h.f3, h.f4, h.f5, h.f6, h.f7, h.f8, h.f9, h.f10, h.f11, h.f12, h.f13, h.f14, h.f15, h.f16, h.f17, h.f18, h.f19, h.f20, h.f21, h.f22, h.f23, h.f24, h.f25, h.f26, h.f27, h.f28, (fun _ => rfl), h.f30, h.f31⟩⟩
      · intro done v W A h hd hp hu hA hB hdf
        have hd24 : done 24 = true := hp 24 rfl
        have hd29 : done 29 = true := hp 29 rfl
        have e0 := (hA 24 169 rfl hd24).trans (h.f24 hd24)
        have e1 := (hA 29 174 rfl hd29).trans (h.f29 hd29)
        clear hA hB hp hu hdf
        go_simp
        exact ⟨_, rfl, ⟨h.b, h.f0, h.f1, h.f2, h.f3, h.f4, h.f5, h.f6, h.f7, h.f8, h.f9, h.f10, h.f11, h.f12, h.f13, h.f14, h.f15, h.f16, h.f17, h.f18, h.f19, h.f20, h.f21, h.f22, h.f23, h.f24, h.f25, h.f26, h.f27, h.f28, h.f29, (fun _ => rfl), h.f31⟩⟩
      · intro done v W A h hd hp hu hA hB hdf
        have hd30 : done 30 = true := hp 30 rfl
        have e0 := (hA 30 175 rfl hd30).trans (h.f30 hd30)
        clear hA hB hp hu hdf
        go_simp
        exact ⟨_, rfl, ⟨h.b, h.f0, h.f1, h.f2, h.f3, h.f4, h.f5, h.f6, h.f7, h.f8, h.f9, h.f10, h.f11, h.f12, h.f13, h.f14, h.f15, h.f16, h.f17, h.f18, h.f19, h.f20, h.f21, h.f22, h.f23, h.f24, h.f25, h.f26, h.f27, h.f28, h.f29, h.f30, (fun _ => rfl)⟩⟩
    simp only [putL, Act.put, Nat.reduceAdd, List.setIfInBounds_toArray, List.set_cons_zero, List.set_cons_succ]
    rw [h.f31 rfl]
    have hbr := h.b
    replace HB := Lib.hid (HB.out.trans (hbr.mono HB.out.size))
    clear h hbr p00 p01 p10 p11 p20 p21 q0 q1 q2 q3 r0 r1 r2 r3 z0 z1 z2 z3 qz qx
    go_wp2_with fail
    go_ret
    exact ⟨rfl, HB.out⟩
  | true =>
  have HCA := Lib.hid hca
  clear hca
  go_wp2_with fail
  with_reducible refine (moved39_any 1 _ _ _ _ _ _ _ _ rows2 owners2 x (movU rows owners x rnd rows2 who l) rows3 owners3 others l _ HR2.out HO2.out HKI.out HLI.out HR3.out HO3.out HT.out HL.out HVD.out HP2.out HP3.out (by decide) (by decide) HPO.out HCA.out).mono ?_
  rintro e w12 ⟨ae, ne, ce, be, me, de, rfl, hek, hel, hb12⟩
  replace p00 := below_cell hb12 p00
  replace p01 := below_cell hb12 p01
  replace p10 := below_cell hb12 p10
  replace p11 := below_cell hb12 p11
  replace p20 := below_cell hb12 p20
  replace p21 := below_cell hb12 p21
  replace q0 := below_cell hb12 q0
  replace q1 := below_cell hb12 q1
  replace q2 := below_cell hb12 q2
  replace q3 := below_cell hb12 q3
  replace r0 := below_cell hb12 r0
  replace r1 := below_cell hb12 r1
  replace r2 := below_cell hb12 r2
  replace r3 := below_cell hb12 r3
  replace HR := Lib.hid (HR.out.below hb12)
  replace HO := Lib.hid (HO.out.below hb12)
  replace HR2 := Lib.hid (HR2.out.below hb12)
  replace HO2 := Lib.hid (HO2.out.below hb12)
  replace HR3 := Lib.hid (HR3.out.below hb12)
  replace HO3 := Lib.hid (HO3.out.below hb12)
  replace HM := Lib.hid (HM.out.below hb12)
  replace HWH := Lib.hid (HWH.out.below hb12)
  replace HT := Lib.hid (HT.out.below hb12)
  replace HL := Lib.hid (HL.out.below hb12)
  replace HSH := Lib.hid (HSH.out.below hb12)
  replace HCM := Lib.hid (HCM.out.below hb12)
  replace HKI := Lib.hid (HKI.out.below hb12)
  replace HLI := Lib.hid (HLI.out.below hb12)
  replace Q0 := Lib.hid ((hb12.block _ (row_lt Q0.out)).trans Q0.out)
  replace Q1 := Lib.hid ((hb12.block _ (row_lt Q1.out)).trans Q1.out)
  replace Q2 := Lib.hid ((hb12.block _ (row_lt Q2.out)).trans Q2.out)
  replace Q3 := Lib.hid ((hb12.block _ (row_lt Q3.out)).trans Q3.out)
  replace Q4 := Lib.hid ((hb12.block _ (row_lt Q4.out)).trans Q4.out)
  replace HB := Lib.hid (HB.out.trans (hb12.mono HB.out.size))
  clear hb12
  have HEK := Lib.hid hek
  have HEL := Lib.hid hel
  clear hek hel
  have HED := Lib.hid (mov_val (l := l) (ep := 1) HVD.out HP2.out HP3.out (by decide) (by decide) HPO.out HCA.out).1
  obtain ⟨W13, hW13, hb13, hr13, hs13⟩ := box_key w12 (.int .i64 2) (.slice a11 rows3.length k11) (.slice a10 owners3.length k10) (.slice ae ne ce) 27
  have HW13 := Lib.hid hW13
  have Q5 := Lib.hid hr13
  replace p00 := below_cell hb13 p00
  replace p01 := below_cell hb13 p01
  replace p10 := below_cell hb13 p10
  replace p11 := below_cell hb13 p11
  replace p20 := below_cell hb13 p20
  replace p21 := below_cell hb13 p21
  replace q0 := below_cell hb13 q0
  replace q1 := below_cell hb13 q1
  replace q2 := below_cell hb13 q2
  replace q3 := below_cell hb13 q3
  replace r0 := below_cell hb13 r0
  replace r1 := below_cell hb13 r1
  replace r2 := below_cell hb13 r2
  replace r3 := below_cell hb13 r3
  replace HR := Lib.hid (HR.out.below hb13)
  replace HO := Lib.hid (HO.out.below hb13)
  replace HR2 := Lib.hid (HR2.out.below hb13)
  replace HO2 := Lib.hid (HO2.out.below hb13)
  replace HR3 := Lib.hid (HR3.out.below hb13)
  replace HO3 := Lib.hid (HO3.out.below hb13)
  replace HM := Lib.hid (HM.out.below hb13)
  replace HWH := Lib.hid (HWH.out.below hb13)
  replace HT := Lib.hid (HT.out.below hb13)
  replace HL := Lib.hid (HL.out.below hb13)
  replace HSH := Lib.hid (HSH.out.below hb13)
  replace HCM := Lib.hid (HCM.out.below hb13)
  replace HKI := Lib.hid (HKI.out.below hb13)
  replace HLI := Lib.hid (HLI.out.below hb13)
  replace HEK := Lib.hid (HEK.out.below hb13)
  replace HEL := Lib.hid (HEL.out.below hb13)
  replace Q0 := Lib.hid ((hb13.block _ (row_lt Q0.out)).trans Q0.out)
  replace Q1 := Lib.hid ((hb13.block _ (row_lt Q1.out)).trans Q1.out)
  replace Q2 := Lib.hid ((hb13.block _ (row_lt Q2.out)).trans Q2.out)
  replace Q3 := Lib.hid ((hb13.block _ (row_lt Q3.out)).trans Q3.out)
  replace Q4 := Lib.hid ((hb13.block _ (row_lt Q4.out)).trans Q4.out)
  replace HB := Lib.hid (HB.out.trans (hb13.mono HB.out.size))
  clear hb13
  clear hW13 hr13 hs13
  have v0 := row_cell Q5.out (k := 0) rfl
  have v1 := row_cell Q5.out (k := 1) rfl
  have v2 := row_cell Q5.out (k := 2) rfl
  have v3 := row_cell Q5.out (k := 3) rfl
  go_wp2_with (rw [← HW13.out])
  clear HW13
  with_reducible refine (holds39_any 2 _ _ _ _ _ rows3 owners3 x (movU rows2 owners2 x (movU rows owners x rnd rows2 who l) rows3 others l) others _ HR3.out HO3.out HEK.out HEL.out HT.out HED.out HP3.out HPO.out).mono ?_
  rintro e w14 ⟨rfl, hb14⟩
  replace p00 := below_cell hb14 p00
  replace p01 := below_cell hb14 p01
  replace p10 := below_cell hb14 p10
  replace p11 := below_cell hb14 p11
  replace p20 := below_cell hb14 p20
  replace p21 := below_cell hb14 p21
  replace q0 := below_cell hb14 q0
  replace q1 := below_cell hb14 q1
  replace q2 := below_cell hb14 q2
  replace q3 := below_cell hb14 q3
  replace r0 := below_cell hb14 r0
  replace r1 := below_cell hb14 r1
  replace r2 := below_cell hb14 r2
  replace r3 := below_cell hb14 r3
  replace v0 := below_cell hb14 v0
  replace v1 := below_cell hb14 v1
  replace v2 := below_cell hb14 v2
  replace v3 := below_cell hb14 v3
  replace HR := Lib.hid (HR.out.below hb14)
  replace HO := Lib.hid (HO.out.below hb14)
  replace HR2 := Lib.hid (HR2.out.below hb14)
  replace HO2 := Lib.hid (HO2.out.below hb14)
  replace HR3 := Lib.hid (HR3.out.below hb14)
  replace HO3 := Lib.hid (HO3.out.below hb14)
  replace HM := Lib.hid (HM.out.below hb14)
  replace HWH := Lib.hid (HWH.out.below hb14)
  replace HT := Lib.hid (HT.out.below hb14)
  replace HL := Lib.hid (HL.out.below hb14)
  replace HSH := Lib.hid (HSH.out.below hb14)
  replace HCM := Lib.hid (HCM.out.below hb14)
  replace HKI := Lib.hid (HKI.out.below hb14)
  replace HLI := Lib.hid (HLI.out.below hb14)
  replace HEK := Lib.hid (HEK.out.below hb14)
  replace HEL := Lib.hid (HEL.out.below hb14)
  replace Q0 := Lib.hid ((hb14.block _ (row_lt Q0.out)).trans Q0.out)
  replace Q1 := Lib.hid ((hb14.block _ (row_lt Q1.out)).trans Q1.out)
  replace Q2 := Lib.hid ((hb14.block _ (row_lt Q2.out)).trans Q2.out)
  replace Q3 := Lib.hid ((hb14.block _ (row_lt Q3.out)).trans Q3.out)
  replace Q4 := Lib.hid ((hb14.block _ (row_lt Q4.out)).trans Q4.out)
  replace Q5 := Lib.hid ((hb14.block _ (row_lt Q5.out)).trans Q5.out)
  replace HB := Lib.hid (HB.out.trans (hb14.mono HB.out.size))
  clear hb14
  clear v0 v1 v2 v3
  go_wp2_with fail
  with_reducible refine (accepts_any _ _ _ rows owners others _ HR.out HO.out HT.out).mono ?_
  rintro e w18 ⟨yv2, rfl, hy, hb18⟩
  rw [quest_ok HP1.out HPO.out]
  replace p00 := below_cell hb18 p00
  replace p01 := below_cell hb18 p01
  replace p10 := below_cell hb18 p10
  replace p11 := below_cell hb18 p11
  replace p20 := below_cell hb18 p20
  replace p21 := below_cell hb18 p21
  replace q0 := below_cell hb18 q0
  replace q1 := below_cell hb18 q1
  replace q2 := below_cell hb18 q2
  replace q3 := below_cell hb18 q3
  replace r0 := below_cell hb18 r0
  replace r1 := below_cell hb18 r1
  replace r2 := below_cell hb18 r2
  replace r3 := below_cell hb18 r3
  replace HR := Lib.hid (HR.out.below hb18)
  replace HO := Lib.hid (HO.out.below hb18)
  replace HR2 := Lib.hid (HR2.out.below hb18)
  replace HO2 := Lib.hid (HO2.out.below hb18)
  replace HR3 := Lib.hid (HR3.out.below hb18)
  replace HO3 := Lib.hid (HO3.out.below hb18)
  replace HM := Lib.hid (HM.out.below hb18)
  replace HWH := Lib.hid (HWH.out.below hb18)
  replace HT := Lib.hid (HT.out.below hb18)
  replace HL := Lib.hid (HL.out.below hb18)
  replace HSH := Lib.hid (HSH.out.below hb18)
  replace HCM := Lib.hid (HCM.out.below hb18)
  replace HKI := Lib.hid (HKI.out.below hb18)
  replace HLI := Lib.hid (HLI.out.below hb18)
  replace HEK := Lib.hid (HEK.out.below hb18)
  replace HEL := Lib.hid (HEL.out.below hb18)
  replace Q0 := Lib.hid ((hb18.block _ (row_lt Q0.out)).trans Q0.out)
  replace Q1 := Lib.hid ((hb18.block _ (row_lt Q1.out)).trans Q1.out)
  replace Q2 := Lib.hid ((hb18.block _ (row_lt Q2.out)).trans Q2.out)
  replace Q3 := Lib.hid ((hb18.block _ (row_lt Q3.out)).trans Q3.out)
  replace Q4 := Lib.hid ((hb18.block _ (row_lt Q4.out)).trans Q4.out)
  replace Q5 := Lib.hid ((hb18.block _ (row_lt Q5.out)).trans Q5.out)
  replace HB := Lib.hid (HB.out.trans (hb18.mono HB.out.size))
  clear hb18
  obtain ⟨ay2, ky2, rfl, -⟩ := id hy
  clear hy
  cases hal : accOk rows owners others with
  | false =>
    clear hal
    go_wp2_with fail
    go_ret
    exact ⟨rfl, HB.out⟩
  | true =>
  have HAL := Lib.hid hal
  clear hal
  go_wp2_with fail
  with_reducible refine (moved39_any 0 _ _ _ _ _ _ _ _ rows owners x rnd rows2 owners2 others l _ HR.out HO.out HCM.out HSH.out HR2.out HO2.out HT.out HL.out HD.out HP1.out HP2.out (by decide) (by decide) HPO.out HAL.out).mono ?_
  rintro e w23 ⟨az, nz, cz, bs, ms, ds, rfl, hzk, hzl, hb23⟩
  replace p00 := below_cell hb23 p00
  replace p01 := below_cell hb23 p01
  replace p10 := below_cell hb23 p10
  replace p11 := below_cell hb23 p11
  replace p20 := below_cell hb23 p20
  replace p21 := below_cell hb23 p21
  replace q0 := below_cell hb23 q0
  replace q1 := below_cell hb23 q1
  replace q2 := below_cell hb23 q2
  replace q3 := below_cell hb23 q3
  replace r0 := below_cell hb23 r0
  replace r1 := below_cell hb23 r1
  replace r2 := below_cell hb23 r2
  replace r3 := below_cell hb23 r3
  replace HR := Lib.hid (HR.out.below hb23)
  replace HO := Lib.hid (HO.out.below hb23)
  replace HR2 := Lib.hid (HR2.out.below hb23)
  replace HO2 := Lib.hid (HO2.out.below hb23)
  replace HR3 := Lib.hid (HR3.out.below hb23)
  replace HO3 := Lib.hid (HO3.out.below hb23)
  replace HM := Lib.hid (HM.out.below hb23)
  replace HWH := Lib.hid (HWH.out.below hb23)
  replace HT := Lib.hid (HT.out.below hb23)
  replace HL := Lib.hid (HL.out.below hb23)
  replace HSH := Lib.hid (HSH.out.below hb23)
  replace HCM := Lib.hid (HCM.out.below hb23)
  replace HKI := Lib.hid (HKI.out.below hb23)
  replace HLI := Lib.hid (HLI.out.below hb23)
  replace HEK := Lib.hid (HEK.out.below hb23)
  replace HEL := Lib.hid (HEL.out.below hb23)
  replace Q0 := Lib.hid ((hb23.block _ (row_lt Q0.out)).trans Q0.out)
  replace Q1 := Lib.hid ((hb23.block _ (row_lt Q1.out)).trans Q1.out)
  replace Q2 := Lib.hid ((hb23.block _ (row_lt Q2.out)).trans Q2.out)
  replace Q3 := Lib.hid ((hb23.block _ (row_lt Q3.out)).trans Q3.out)
  replace Q4 := Lib.hid ((hb23.block _ (row_lt Q4.out)).trans Q4.out)
  replace Q5 := Lib.hid ((hb23.block _ (row_lt Q5.out)).trans Q5.out)
  replace HB := Lib.hid (HB.out.trans (hb23.mono HB.out.size))
  clear hb23
  have HZK := Lib.hid hzk
  have HZL := Lib.hid hzl
  clear hzk hzl
  have HZD := Lib.hid (mov_val (l := l) (ep := 0) HD.out HP1.out HP2.out (by decide) (by decide) HPO.out HAL.out).1
  obtain ⟨W24, hW24, hb24, hr24, hs24⟩ := box_key w23 (.int .i64 1) (.slice a3 rows2.length k3) (.slice a4 owners2.length k4) (.slice az nz cz) 27
  have HW24 := Lib.hid hW24
  have Q6 := Lib.hid hr24
  replace p00 := below_cell hb24 p00
  replace p01 := below_cell hb24 p01
  replace p10 := below_cell hb24 p10
  replace p11 := below_cell hb24 p11
  replace p20 := below_cell hb24 p20
  replace p21 := below_cell hb24 p21
  replace q0 := below_cell hb24 q0
  replace q1 := below_cell hb24 q1
  replace q2 := below_cell hb24 q2
  replace q3 := below_cell hb24 q3
  replace r0 := below_cell hb24 r0
  replace r1 := below_cell hb24 r1
  replace r2 := below_cell hb24 r2
  replace r3 := below_cell hb24 r3
  replace HR := Lib.hid (HR.out.below hb24)
  replace HO := Lib.hid (HO.out.below hb24)
  replace HR2 := Lib.hid (HR2.out.below hb24)
  replace HO2 := Lib.hid (HO2.out.below hb24)
  replace HR3 := Lib.hid (HR3.out.below hb24)
  replace HO3 := Lib.hid (HO3.out.below hb24)
  replace HM := Lib.hid (HM.out.below hb24)
  replace HWH := Lib.hid (HWH.out.below hb24)
  replace HT := Lib.hid (HT.out.below hb24)
  replace HL := Lib.hid (HL.out.below hb24)
  replace HSH := Lib.hid (HSH.out.below hb24)
  replace HCM := Lib.hid (HCM.out.below hb24)
  replace HKI := Lib.hid (HKI.out.below hb24)
  replace HLI := Lib.hid (HLI.out.below hb24)
  replace HEK := Lib.hid (HEK.out.below hb24)
  replace HEL := Lib.hid (HEL.out.below hb24)
  replace HZK := Lib.hid (HZK.out.below hb24)
  replace HZL := Lib.hid (HZL.out.below hb24)
  replace Q0 := Lib.hid ((hb24.block _ (row_lt Q0.out)).trans Q0.out)
  replace Q1 := Lib.hid ((hb24.block _ (row_lt Q1.out)).trans Q1.out)
  replace Q2 := Lib.hid ((hb24.block _ (row_lt Q2.out)).trans Q2.out)
  replace Q3 := Lib.hid ((hb24.block _ (row_lt Q3.out)).trans Q3.out)
  replace Q4 := Lib.hid ((hb24.block _ (row_lt Q4.out)).trans Q4.out)
  replace Q5 := Lib.hid ((hb24.block _ (row_lt Q5.out)).trans Q5.out)
  replace HB := Lib.hid (HB.out.trans (hb24.mono HB.out.size))
  clear hb24
  obtain ⟨bZ, hbZ⟩ : ∃ b, b = w23.heap.size := ⟨_, rfl⟩
  rw [← hbZ] at Q6
  clear hW24 hr24 hs24
  go_wp2_with (rw [← HW24.out])
  clear HW24
  rw [← hbZ]
  clear hbZ
  have z0 := row_cell Q6.out (k := 0) rfl
  have z1 := row_cell Q6.out (k := 1) rfl
  have z2 := row_cell Q6.out (k := 2) rfl
  have z3 := row_cell Q6.out (k := 3) rfl
  obtain ⟨-, bz, oz, n_qz, c_qz, e_qz, qz⟩ := HZK.out.get (k := 0) (by simp [dealC])
  have l_qz : nz = (dealC (x :: (movU rows owners x rnd rows2 others l))).length := by obtain ⟨a, k, h, -⟩ := HZK.out; simp only [Value.slice.injEq] at h; exact h.2.1
  rw [dealC_len, List.length_cons] at l_qz
  simp only [Value.slice.injEq] at e_qz
  obtain ⟨rfl, -, -⟩ := e_qz
  rw [show nth (dealC (x :: (movU rows owners x rnd rows2 others l))) 0 = powE 4 x from nth_mapv (f := powE 4) (l := x :: (movU rows owners x rnd rows2 others l)) (by simp), Nat.add_zero] at qz
  have g_qz : (0 : Int) < (nz : Int) := by omega
  have d_qz : decide ((0 : Int) < (nz : Int)) = true := decide_eq_true g_qz
  have d2_qz : decide (0 < nz) = true := decide_eq_true (by omega)
  have d3_qz : 0 < nz := by omega
  clear l_qz
  obtain ⟨-, bx, ox, n_qx, c_qx, e_qx, qx⟩ := HKI.out.get (k := 0) (by simp [dealC])
  have l_qx : n9 = (dealC (x :: (movU rows owners x rnd rows2 who l))).length := by obtain ⟨a, k, h, -⟩ := HKI.out; simp only [Value.slice.injEq] at h; exact h.2.1
  rw [dealC_len, List.length_cons] at l_qx
  simp only [Value.slice.injEq] at e_qx
  obtain ⟨rfl, -, -⟩ := e_qx
  rw [show nth (dealC (x :: (movU rows owners x rnd rows2 who l))) 0 = powE 4 x from nth_mapv (f := powE 4) (l := x :: (movU rows owners x rnd rows2 who l)) (by simp), Nat.add_zero] at qx
  have g_qx : (0 : Int) < (n9 : Int) := by omega
  have d_qx : decide ((0 : Int) < (n9 : Int)) = true := decide_eq_true g_qx
  have d2_qx : decide (0 < n9) = true := decide_eq_true (by omega)
  have d3_qx : 0 < n9 := by omega
  clear l_qx
  obtain ⟨p4, hp4⟩ : ∃ p, p = powE 4 x := ⟨_, rfl⟩
  rw [← hp4] at qz qx
  clear hp4
  have HHO := Lib.hid (fun (W1 : World) (h1 : Below W24.heap.size W24 W1) => holds39_any 1 (.slice a3 rows2.length k3) (.slice a4 owners2.length k4) (.slice (some ⟨bz, oz, none⟩) nz cz) (.slice bs ms ds) (.slice a6 who.length k6) rows2 owners2 x (movU rows owners x rnd rows2 others l) who W1 (HR2.out.below h1) (HO2.out.below h1) (HZK.out.below h1) (HZL.out.below h1) (HWH.out.below h1) HZD.out HP2.out HPW.out)
  refine wp_region_flowsG (by kernel_rfl) (by kernel_rfl) (by kernel_rfl) (by kernel_rfl) (fun done v W => FOn24 W24 (bZ) (bX) (.agg #[.int .i64 1, .slice a3 rows2.length k3, .slice a4 owners2.length k4, .slice (some ⟨bz, oz, none⟩) nz cz]) (.slice (some ⟨bz, oz, none⟩) nz cz) (.slice (some ⟨bx, ox, none⟩) n9 c9) (bz) (oz) (bx) (ox) (nz) (n9) (p4) (.slice bs ms ds) (x) (.slice a6 who.length k6) done v W) (fun v => ?_) ?_ (fun v W h => ?_)
  · exact ⟨(Below.refl _ _).drew, (fun h => by cases h), (fun h => by cases h), (fun h => by cases h), (fun h => by cases h), (fun h => by cases h), (fun h => by cases h), (fun h => by cases h), (fun h => by cases h), (fun h => by cases h), (fun h => by cases h), (fun h => by cases h), (fun h => by cases h), (fun h => by cases h), (fun h => by cases h), (fun h => by cases h), (fun h => by cases h), (fun h => by cases h), (fun h => by cases h), (fun h => by cases h), (fun h => by cases h), (fun h => by cases h), (fun h => by cases h), (fun h => by cases h), (fun h => by cases h), (fun h => by cases h), (fun h => by cases h), (fun h => by cases h), (fun h => by cases h), (fun h => by cases h), (fun h => by cases h), (fun h => by cases h), (fun h => by cases h)⟩
  · refine ⟨?_, ?_, ?_, ?_, ?_, ?_, ?_, ?_, ?_, ?_, ?_, ?_, ?_, ?_, ?_, ?_, ?_, ?_, ?_, ?_, ?_, ?_, ?_, ?_, ?_, ?_, ?_, ?_, ?_, ?_, ?_, ?_, trivial⟩
    · intro done v W A h hd hp hu hA hB hdf
      have e0 : A.tmps[35]?.getD undef = .bool true := hB 35 rfl
      clear hA hB hp hu hdf
      go_simp
      exact ⟨_, rfl, ⟨h.b, (fun _ => rfl), h.f1, h.f2, h.f3, h.f4, h.f5, h.f6, h.f7, h.f8, h.f9, h.f10, h.f11, h.f12, h.f13, h.f14, h.f15, h.f16, h.f17, h.f18, h.f19, h.f20, h.f21, h.f22, h.f23, h.f24, h.f25, h.f26, h.f27, h.f28, h.f29, h.f30, h.f31⟩⟩
    · intro done v W A h hd hp hu hA hB hdf
      have hd0 : done 0 = true := hp 0 rfl
      have e0 := (hA 0 145 rfl hd0).trans (h.f0 hd0)
      clear hA hB hp hu hdf
      go_simp
      exact ⟨_, rfl, ⟨h.b, h.f0, (fun _ => rfl), h.f2, h.f3, h.f4, h.f5, h.f6, h.f7, h.f8, h.f9, h.f10, h.f11, h.f12, h.f13, h.f14, h.f15, h.f16, h.f17, h.f18, h.f19, h.f20, h.f21, h.f22, h.f23, h.f24, h.f25, h.f26, h.f27, h.f28, h.f29, h.f30, h.f31⟩⟩
    · intro done v W A h hd hp hu hA hB hdf
      have hd1 : done 1 = true := hp 1 rfl
      refine ⟨_, h.f1 hd1, fun _ => ?_, fun hne => absurd rfl hne⟩
      have e0 : A.tmps[33]?.getD undef = .pointer (some ⟨bZ, 0, none⟩) := hB 33 rfl
      clear hA hB hp hu hdf
      go_simp
      exact ⟨_, rfl, ⟨h.b, h.f0, h.f1, (fun _ => rfl), h.f3, h.f4, h.f5, h.f6, h.f7, h.f8, h.f9, h.f10, h.f11, h.f12, h.f13, h.f14, h.f15, h.f16, h.f17, h.f18, h.f19, h.f20, h.f21, h.f22, h.f23, h.f24, h.f25, h.f26, h.f27, h.f28, h.f29, h.f30, h.f31⟩⟩
    · intro done v W A h hd hp hu hA hB hdf
      have hd1 : done 1 = true := hp 1 rfl
      have hd2 : done 2 = true := hp 2 rfl
      refine ⟨_, h.f1 hd1, fun _ => ?_, fun hne => absurd rfl hne⟩
      have e0 := (hA 2 147 rfl hd2).trans (h.f2 hd2)
      have y0_ := below_cell h.b z3
      clear hA hB hp hu hdf
      go_simp
      exact ⟨_, rfl, ⟨h.b, h.f0, h.f1, h.f2, (fun _ => rfl), h.f4, h.f5, h.f6, h.f7, h.f8, h.f9, h.f10, h.f11, h.f12, h.f13, h.f14, h.f15, h.f16, h.f17, h.f18, h.f19, h.f20, h.f21, h.f22, h.f23, h.f24, h.f25, h.f26, h.f27, h.f28, h.f29, h.f30, h.f31⟩⟩
    · intro done v W A h hd hp hu hA hB hdf
      have hd1 : done 1 = true := hp 1 rfl
      have hd3 : done 3 = true := hp 3 rfl
      refine ⟨_, h.f1 hd1, fun _ => ?_, fun hne => absurd rfl hne⟩
      have e0 := (hA 3 148 rfl hd3).trans (h.f3 hd3)
      clear hA hB hp hu hdf
      go_simp
      exact ⟨_, rfl, ⟨h.b, h.f0, h.f1, h.f2, h.f3, (fun _ => rfl), h.f5, h.f6, h.f7, h.f8, h.f9, h.f10, h.f11, h.f12, h.f13, h.f14, h.f15, h.f16, h.f17, h.f18, h.f19, h.f20, h.f21, h.f22, h.f23, h.f24, h.f25, h.f26, h.f27, h.f28, h.f29, h.f30, h.f31⟩⟩
    · intro done v W A h hd hp hu hA hB hdf
      have hd1 : done 1 = true := hp 1 rfl
      have hd4 : done 4 = true := hp 4 rfl
      refine ⟨_, h.f1 hd1, fun _ => ?_, fun hne => absurd rfl hne⟩
      have e0 := (hA 4 149 rfl hd4).trans (h.f4 hd4)
      clear hA hB hp hu hdf
      go_simp
      exact ⟨_, rfl, ⟨h.b, h.f0, h.f1, h.f2, h.f3, h.f4, (fun _ => rfl), h.f6, h.f7, h.f8, h.f9, h.f10, h.f11, h.f12, h.f13, h.f14, h.f15, h.f16, h.f17, h.f18, h.f19, h.f20, h.f21, h.f22, h.f23, h.f24, h.f25, h.f26, h.f27, h.f28, h.f29, h.f30, h.f31⟩⟩
    · intro done v W A h hd hp hu hA hB hdf
      have hd1 : done 1 = true := hp 1 rfl
      have hd5 : done 5 = true := hp 5 rfl
      have e0 := (hA 1 146 rfl hd1).trans (h.f1 hd1)
      have e1 := (hA 5 150 rfl hd5).trans (h.f5 hd5)
      clear hA hB hp hu hdf
      go_simp
      exact ⟨_, rfl, ⟨h.b, h.f0, h.f1, h.f2, h.f3, h.f4, h.f5, (fun _ => rfl), h.f7, h.f8, h.f9, h.f10, h.f11, h.f12, h.f13, h.f14, h.f15, h.f16, h.f17, h.f18, h.f19, h.f20, h.f21, h.f22, h.f23, h.f24, h.f25, h.f26, h.f27, h.f28, h.f29, h.f30, h.f31⟩⟩
    · intro done v W A h hd hp hu hA hB hdf
      have hd6 : done 6 = true := hp 6 rfl
      have e0 := (hA 6 151 rfl hd6).trans (h.f6 hd6)
      clear hA hB hp hu hdf
      go_simp
      exact ⟨_, rfl, ⟨h.b, h.f0, h.f1, h.f2, h.f3, h.f4, h.f5, h.f6, (fun _ => rfl), h.f8, h.f9, h.f10, h.f11, h.f12, h.f13, h.f14, h.f15, h.f16, h.f17, h.f18, h.f19, h.f20, h.f21, h.f22, h.f23, h.f24, h.f25, h.f26, h.f27, h.f28, h.f29, h.f30, h.f31⟩⟩
    · intro done v W A h hd hp hu hA hB hdf
      have hd7 : done 7 = true := hp 7 rfl
      refine ⟨_, h.f7 hd7, fun _ => ?_, fun hne => absurd rfl hne⟩
      have e0 : A.tmps[21]?.getD undef = .pointer (some ⟨bX, 0, none⟩) := hB 21 rfl
      clear hA hB hp hu hdf
      go_simp
      exact ⟨_, rfl, ⟨h.b, h.f0, h.f1, h.f2, h.f3, h.f4, h.f5, h.f6, h.f7, (fun _ => rfl), h.f9, h.f10, h.f11, h.f12, h.f13, h.f14, h.f15, h.f16, h.f17, h.f18, h.f19, h.f20, h.f21, h.f22, h.f23, h.f24, h.f25, h.f26, h.f27, h.f28, h.f29, h.f30, h.f31⟩⟩
    · intro done v W A h hd hp hu hA hB hdf
      have hd7 : done 7 = true := hp 7 rfl
      have hd8 : done 8 = true := hp 8 rfl
      refine ⟨_, h.f7 hd7, fun _ => ?_, fun hne => absurd rfl hne⟩
      have e0 := (hA 8 153 rfl hd8).trans (h.f8 hd8)
      have y0_ := below_cell h.b r3
      clear hA hB hp hu hdf
      go_simp
      exact ⟨_, rfl, ⟨h.b, h.f0, h.f1, h.f2, h.f3, h.f4, h.f5, h.f6, h.f7, h.f8, (fun _ => rfl), h.f10, h.f11, h.f12, h.f13, h.f14, h.f15, h.f16, h.f17, h.f18, h.f19, h.f20, h.f21, h.f22, h.f23, h.f24, h.f25, h.f26, h.f27, h.f28, h.f29, h.f30, h.f31⟩⟩
    · intro done v W A h hd hp hu hA hB hdf
      have hd7 : done 7 = true := hp 7 rfl
      have hd9 : done 9 = true := hp 9 rfl
      refine ⟨_, h.f7 hd7, fun _ => ?_, fun hne => absurd rfl hne⟩
      have e0 := (hA 9 154 rfl hd9).trans (h.f9 hd9)
      clear hA hB hp hu hdf
      go_simp
      exact ⟨_, rfl, ⟨h.b, h.f0, h.f1, h.f2, h.f3, h.f4, h.f5, h.f6, h.f7, h.f8, h.f9, (fun _ => rfl), h.f11, h.f12, h.f13, h.f14, h.f15, h.f16, h.f17, h.f18, h.f19, h.f20, h.f21, h.f22, h.f23, h.f24, h.f25, h.f26, h.f27, h.f28, h.f29, h.f30, h.f31⟩⟩
    · intro done v W A h hd hp hu hA hB hdf
      have hd7 : done 7 = true := hp 7 rfl
      have hd10 : done 10 = true := hp 10 rfl
      refine ⟨_, h.f7 hd7, fun _ => ?_, fun hne => absurd rfl hne⟩
      have e0 := (hA 10 155 rfl hd10).trans (h.f10 hd10)
      clear hA hB hp hu hdf
      go_simp
      exact ⟨_, rfl, ⟨h.b, h.f0, h.f1, h.f2, h.f3, h.f4, h.f5, h.f6, h.f7, h.f8, h.f9, h.f10, (fun _ => rfl), h.f12, h.f13, h.f14, h.f15, h.f16, h.f17, h.f18, h.f19, h.f20, h.f21, h.f22, h.f23, h.f24, h.f25, h.f26, h.f27, h.f28, h.f29, h.f30, h.f31⟩⟩
    · intro done v W A h hd hp hu hA hB hdf
      have hd7 : done 7 = true := hp 7 rfl
      have hd11 : done 11 = true := hp 11 rfl
      have e0 := (hA 7 152 rfl hd7).trans (h.f7 hd7)
      have e1 := (hA 11 156 rfl hd11).trans (h.f11 hd11)
      clear hA hB hp hu hdf
      go_simp
      exact ⟨_, rfl, ⟨h.b, h.f0, h.f1, h.f2, h.f3, h.f4, h.f5, h.f6, h.f7, h.f8, h.f9, h.f10, h.f11, (fun _ => rfl), h.f13, h.f14, h.f15, h.f16, h.f17, h.f18, h.f19, h.f20, h.f21, h.f22, h.f23, h.f24, h.f25, h.f26, h.f27, h.f28, h.f29, h.f30, h.f31⟩⟩
    · intro done v W A h hd hp hu hA hB hdf
      have hd12 : done 12 = true := hp 12 rfl
      have e0 := (hA 12 157 rfl hd12).trans (h.f12 hd12)
      clear hA hB hp hu hdf
      go_simp
      exact ⟨_, rfl, ⟨h.b, h.f0, h.f1, h.f2, h.f3, h.f4, h.f5, h.f6, h.f7, h.f8, h.f9, h.f10, h.f11, h.f12, (fun _ => rfl), h.f14, h.f15, h.f16, h.f17, h.f18, h.f19, h.f20, h.f21, h.f22, h.f23, h.f24, h.f25, h.f26, h.f27, h.f28, h.f29, h.f30, h.f31⟩⟩
    · intro done v W A h hd hp hu hA hB hdf
      have hd13 : done 13 = true := hp 13 rfl
      refine ⟨_, h.f13 hd13, fun _ => ?_, fun hne => absurd rfl hne⟩
      have e0 : A.tmps[33]?.getD undef = .pointer (some ⟨bZ, 0, none⟩) := hB 33 rfl
      clear hA hB hp hu hdf
      go_simp
      exact ⟨_, rfl, ⟨h.b, h.f0, h.f1, h.f2, h.f3, h.f4, h.f5, h.f6, h.f7, h.f8, h.f9, h.f10, h.f11, h.f12, h.f13, (fun _ => rfl), h.f15, h.f16, h.f17, h.f18, h.f19, h.f20, h.f21, h.f22, h.f23, h.f24, h.f25, h.f26, h.f27, h.f28, h.f29, h.f30, h.f31⟩⟩
    · intro done v W A h hd hp hu hA hB hdf
      have hd13 : done 13 = true := hp 13 rfl
      have hd14 : done 14 = true := hp 14 rfl
      refine ⟨_, h.f13 hd13, fun _ => ?_, fun hne => absurd rfl hne⟩
      have e0 := (hA 14 159 rfl hd14).trans (h.f14 hd14)
      have y0_ := below_cell h.b z3
      clear hA hB hp hu hdf
      go_simp
      exact ⟨_, rfl, ⟨h.b, h.f0, h.f1, h.f2, h.f3, h.f4, h.f5, h.f6, h.f7, h.f8, h.f9, h.f10, h.f11, h.f12, h.f13, h.f14, (fun _ => rfl), h.f16, h.f17, h.f18, h.f19, h.f20, h.f21, h.f22, h.f23, h.f24, h.f25, h.f26, h.f27, h.f28, h.f29, h.f30, h.f31⟩⟩
    · intro done v W A h hd hp hu hA hB hdf
      have hd13 : done 13 = true := hp 13 rfl
      have hd15 : done 15 = true := hp 15 rfl
      refine ⟨_, h.f13 hd13, fun _ => ?_, fun hne => absurd rfl hne⟩
      have e0 := (hA 15 160 rfl hd15).trans (h.f15 hd15)
      clear hA hB hp hu hdf
      go_simp
      exact ⟨_, rfl, ⟨h.b, h.f0, h.f1, h.f2, h.f3, h.f4, h.f5, h.f6, h.f7, h.f8, h.f9, h.f10, h.f11, h.f12, h.f13, h.f14, h.f15, (fun _ => rfl), h.f17, h.f18, h.f19, h.f20, h.f21, h.f22, h.f23, h.f24, h.f25, h.f26, h.f27, h.f28, h.f29, h.f30, h.f31⟩⟩
    · intro done v W A h hd hp hu hA hB hdf
      have hd13 : done 13 = true := hp 13 rfl
      have hd16 : done 16 = true := hp 16 rfl
      refine ⟨_, h.f13 hd13, fun _ => ?_, fun hne => absurd rfl hne⟩
      have e0 := (hA 16 161 rfl hd16).trans (h.f16 hd16)
      have y0_ := below_cell h.b qz
      clear hA hB hp hu hdf
      go_simp
      exact ⟨_, rfl, ⟨h.b, h.f0, h.f1, h.f2, h.f3, h.f4, h.f5, h.f6, h.f7, h.f8, h.f9, h.f10, h.f11, h.f12, h.f13, h.f14, h.f15, h.f16, (fun _ => rfl), h.f18, h.f19, h.f20, h.f21, h.f22, h.f23, h.f24, h.f25, h.f26, h.f27, h.f28, h.f29, h.f30, h.f31⟩⟩
    · intro done v W A h hd hp hu hA hB hdf
      have hd13 : done 13 = true := hp 13 rfl
      refine ⟨_, h.f13 hd13, fun _ => ?_, fun hne => absurd rfl hne⟩
      have e0 : A.tmps[21]?.getD undef = .pointer (some ⟨bX, 0, none⟩) := hB 21 rfl
      clear hA hB hp hu hdf
      go_simp
      exact ⟨_, rfl, ⟨h.b, h.f0, h.f1, h.f2, h.f3, h.f4, h.f5, h.f6, h.f7, h.f8, h.f9, h.f10, h.f11, h.f12, h.f13, h.f14, h.f15, h.f16, h.f17, (fun _ => rfl), h.f19, h.f20, h.f21, h.f22, h.f23, h.f24, h.f25, h.f26, h.f27, h.f28, h.f29, h.f30, h.f31⟩⟩
    · intro done v W A h hd hp hu hA hB hdf
      have hd13 : done 13 = true := hp 13 rfl
      have hd18 : done 18 = true := hp 18 rfl
      refine ⟨_, h.f13 hd13, fun _ => ?_, fun hne => absurd rfl hne⟩
      have e0 := (hA 18 163 rfl hd18).trans (h.f18 hd18)
      have y0_ := below_cell h.b r3
      clear hA hB hp hu hdf
      go_simp
      exact ⟨_, rfl, ⟨h.b, h.f0, h.f1, h.f2, h.f3, h.f4, h.f5, h.f6, h.f7, h.f8, h.f9, h.f10, h.f11, h.f12, h.f13, h.f14, h.f15, h.f16, h.f17, h.f18, (fun _ => rfl), h.f20, h.f21, h.f22, h.f23, h.f24, h.f25, h.f26, h.f27, h.f28, h.f29, h.f30, h.f31⟩⟩
    · intro done v W A h hd hp hu hA hB hdf
      have hd13 : done 13 = true := hp 13 rfl
      have hd19 : done 19 = true := hp 19 rfl
      refine ⟨_, h.f13 hd13, fun _ => ?_, fun hne => absurd rfl hne⟩
      have e0 := (hA 19 164 rfl hd19).trans (h.f19 hd19)
      clear hA hB hp hu hdf
      go_simp
      exact ⟨_, rfl, ⟨h.b, h.f0, h.f1, h.f2, h.f3, h.f4, h.f5, h.f6, h.f7, h.f8, h.f9, h.f10, h.f11, h.f12, h.f13, h.f14, h.f15, h.f16, h.f17, h.f18, h.f19, (fun _ => rfl), h.f21, h.f22, h.f23, h.f24, h.f25, h.f26, h.f27, h.f28, h.f29, h.f30, h.f31⟩⟩
    · intro done v W A h hd hp hu hA hB hdf
      have hd13 : done 13 = true := hp 13 rfl
      have hd20 : done 20 = true := hp 20 rfl
      refine ⟨_, h.f13 hd13, fun _ => ?_, fun hne => absurd rfl hne⟩
      have e0 := (hA 20 165 rfl hd20).trans (h.f20 hd20)
      have y0_ := below_cell h.b qx
      clear hA hB hp hu hdf
      go_simp
      exact ⟨_, rfl, ⟨h.b, h.f0, h.f1, h.f2, h.f3, h.f4, h.f5, h.f6, h.f7, h.f8, h.f9, h.f10, h.f11, h.f12, h.f13, h.f14, h.f15, h.f16, h.f17, h.f18, h.f19, h.f20, (fun _ => rfl), h.f22, h.f23, h.f24, h.f25, h.f26, h.f27, h.f28, h.f29, h.f30, h.f31⟩⟩
    · intro done v W A h hd hp hu hA hB hdf
      have hd13 : done 13 = true := hp 13 rfl
      have hd17 : done 17 = true := hp 17 rfl
      have hd21 : done 21 = true := hp 21 rfl
      refine ⟨_, h.f13 hd13, fun _ => ?_, fun hne => absurd rfl hne⟩
      have e0 := (hA 17 162 rfl hd17).trans (h.f17 hd17)
      have e1 := (hA 21 166 rfl hd21).trans (h.f21 hd21)
      clear hA hB hp hu hdf
      go_simp
      exact ⟨_, rfl, ⟨h.b, h.f0, h.f1, h.f2, h.f3, h.f4, h.f5, h.f6, h.f7, h.f8, h.f9, h.f10, h.f11, h.f12, h.f13, h.f14, h.f15, h.f16, h.f17, h.f18, h.f19, h.f20, h.f21, (fun _ => rfl), h.f23, h.f24, h.f25, h.f26, h.f27, h.f28, h.f29, h.f30, h.f31⟩⟩
    · intro done v W A h hd hp hu hA hB hdf
      have hd13 : done 13 = true := hp 13 rfl
      have hd22 : done 22 = true := hp 22 rfl
      have e0 := (hA 13 158 rfl hd13).trans (h.f13 hd13)
      have e1 := (hA 22 167 rfl hd22).trans (h.f22 hd22)
      clear hA hB hp hu hdf
      go_simp
      exact ⟨_, rfl, ⟨h.b, h.f0, h.f1, h.f2, h.f3, h.f4, h.f5, h.f6, h.f7, h.f8, h.f9, h.f10, h.f11, h.f12, h.f13, h.f14, h.f15, h.f16, h.f17, h.f18, h.f19, h.f20, h.f21, h.f22, (fun _ => rfl), h.f24, h.f25, h.f26, h.f27, h.f28, h.f29, h.f30, h.f31⟩⟩
    · intro done v W A h hd hp hu hA hB hdf
      have hd23 : done 23 = true := hp 23 rfl
      have e0 := (hA 23 168 rfl hd23).trans (h.f23 hd23)
      clear hA hB hp hu hdf
      go_simp
      exact ⟨_, rfl, ⟨h.b, h.f0, h.f1, h.f2, h.f3, h.f4, h.f5, h.f6, h.f7, h.f8, h.f9, h.f10, h.f11, h.f12, h.f13, h.f14, h.f15, h.f16, h.f17, h.f18, h.f19, h.f20, h.f21, h.f22, h.f23, (fun _ => rfl), h.f25, h.f26, h.f27, h.f28, h.f29, h.f30, h.f31⟩⟩
    · intro done v W A h hd hp hu hA hB hdf
      have hd24 : done 24 = true := hp 24 rfl
      refine ⟨_, h.f24 hd24, fun _ => ?_, fun hne => absurd rfl hne⟩
      have e0 : A.tmps[33]?.getD undef = .pointer (some ⟨bZ, 0, none⟩) := hB 33 rfl
      have y0_ := below_cell h.b z0
      have y1_ := below_cell h.b z1
      have y2_ := below_cell h.b z2
      have y3_ := below_cell h.b z3
      clear hA hB hp hu hdf
      go_simp
      exact ⟨_, rfl, ⟨h.b, h.f0, h.f1, h.f2, h.f3, h.f4, h.f5, h.f6, h.f7, h.f8, h.f9, h.f10, h.f11, h.f12, h.f13, h.f14, h.f15, h.f16, h.f17, h.f18, h.f19, h.f20, h.f21, h.f22, h.f23, h.f24, (fun _ => rfl), h.f26, h.f27, h.f28, h.f29, h.f30, h.f31⟩⟩
    · intro done v W A h hd hp hu hA hB hdf
      have hd24 : done 24 = true := hp 24 rfl
      refine ⟨_, h.f24 hd24, fun _ => ?_, fun hne => absurd rfl hne⟩
      have e0 : A.tmps[34]?.getD undef = .slice bs ms ds := hB 34 rfl
      clear hA hB hp hu hdf
      go_simp
      exact ⟨_, rfl, ⟨h.b, h.f0, h.f1, h.f2, h.f3, h.f4, h.f5, h.f6, h.f7, h.f8, h.f9, h.f10, h.f11, h.f12, h.f13, h.f14, h.f15, h.f16, h.f17, h.f18, h.f19, h.f20, h.f21, h.f22, h.f23, h.f24, h.f25, (fun _ => rfl), h.f27, h.f28, h.f29, h.f30, h.f31⟩⟩
    · intro done v W A h hd hp hu hA hB hdf
      have hd24 : done 24 = true := hp 24 rfl
      refine ⟨_, h.f24 hd24, fun _ => ?_, fun hne => absurd rfl hne⟩
      have e0 : A.tmps[3]?.getD undef = .int .i64 x := hB 3 rfl
      clear hA hB hp hu hdf
      go_simp
      exact ⟨_, rfl, ⟨h.b, h.f0, h.f1, h.f2, h.f3, h.f4, h.f5, h.f6, h.f7, h.f8, h.f9, h.f10, h.f11, h.f12, h.f13, h.f14, h.f15, h.f16, h.f17, h.f18, h.f19, h.f20, h.f21, h.f22, h.f23, h.f24, h.f25, h.f26, (fun _ => rfl), h.f28, h.f29, h.f30, h.f31⟩⟩
    · intro done v W A h hd hp hu hA hB hdf
      have hd24 : done 24 = true := hp 24 rfl
      refine ⟨_, h.f24 hd24, fun _ => ?_, fun hne => absurd rfl hne⟩
      have e0 : A.tmps[5]?.getD undef = .slice a6 who.length k6 := hB 5 rfl
      clear hA hB hp hu hdf
      go_simp
      exact ⟨_, rfl, ⟨h.b, h.f0, h.f1, h.f2, h.f3, h.f4, h.f5, h.f6, h.f7, h.f8, h.f9, h.f10, h.f11, h.f12, h.f13, h.f14, h.f15, h.f16, h.f17, h.f18, h.f19, h.f20, h.f21, h.f22, h.f23, h.f24, h.f25, h.f26, h.f27, (fun _ => rfl), h.f29, h.f30, h.f31⟩⟩
    · intro done v W A h hd hp hu hA hB hdf
      have hd24 : done 24 = true := hp 24 rfl
      have hd25 : done 25 = true := hp 25 rfl
      have hd26 : done 26 = true := hp 26 rfl
      have hd27 : done 27 = true := hp 27 rfl
      have hd28 : done 28 = true := hp 28 rfl
      refine ⟨_, h.f24 hd24, fun _ => ?_, fun hne => absurd rfl hne⟩
      have e0 := (hA 25 170 rfl hd25).trans (h.f25 hd25)
      have e1 := (hA 26 171 rfl hd26).trans (h.f26 hd26)
      have e2 := (hA 27 172 rfl hd27).trans (h.f27 hd27)
      have e3 := (hA 28 173 rfl hd28).trans (h.f28 hd28)
      clear hA hB hp hu hdf
      go_simp
      with_reducible refine (HHO.out W h.b).mono ?_
      rintro e wq ⟨rfl, hb⟩
      exact ⟨_, rfl, ⟨h.b.trans (hb.mono h.b.size), h.f0, h.f1, h.f2, h.f3, h.f4, h.f5, h.f6, h.f7, h.f8, h.f9, h.f10, h.f11, h.f12, h.f13, h.f14, h.f15, h.f16, h.f17, h.f18, h.f19, h.f20, h.f21, h.f22, h.f23, h.f24, h.f25, h.f26, h.f27, h.f28, (fun _ => rfl), h.f30, h.f31⟩⟩
    · intro done v W A h hd hp hu hA hB hdf
      have hd24 : done 24 = true := hp 24 rfl
      have hd29 : done 29 = true := hp 29 rfl
      have e0 := (hA 24 169 rfl hd24).trans (h.f24 hd24)
      have e1 := (hA 29 174 rfl hd29).trans (h.f29 hd29)
      clear hA hB hp hu hdf
      go_simp
      exact ⟨_, rfl, ⟨h.b, h.f0, h.f1, h.f2, h.f3, h.f4, h.f5, h.f6, h.f7, h.f8, h.f9, h.f10, h.f11, h.f12, h.f13, h.f14, h.f15, h.f16, h.f17, h.f18, h.f19, h.f20, h.f21, h.f22, h.f23, h.f24, h.f25, h.f26, h.f27, h.f28, h.f29, (fun _ => rfl), h.f31⟩⟩
    · intro done v W A h hd hp hu hA hB hdf
      have hd30 : done 30 = true := hp 30 rfl
      have e0 := (hA 30 175 rfl hd30).trans (h.f30 hd30)
      clear hA hB hp hu hdf
      go_simp
      exact ⟨_, rfl, ⟨h.b, h.f0, h.f1, h.f2, h.f3, h.f4, h.f5, h.f6, h.f7, h.f8, h.f9, h.f10, h.f11, h.f12, h.f13, h.f14, h.f15, h.f16, h.f17, h.f18, h.f19, h.f20, h.f21, h.f22, h.f23, h.f24, h.f25, h.f26, h.f27, h.f28, h.f29, h.f30, (fun _ => rfl)⟩⟩
  simp only [putL, Act.put, Nat.reduceAdd, List.setIfInBounds_toArray, List.set_cons_zero, List.set_cons_succ]
  rw [h.f31 rfl]
  have hbr := h.b
  replace HB := Lib.hid (HB.out.trans (hbr.mono HB.out.size))
  clear h hbr p00 p01 p10 p11 p20 p21 q0 q1 q2 q3 r0 r1 r2 r3 z0 z1 z2 z3 qz qx
  go_wp2_with fail
  go_ret
  exact ⟨rfl, HB.out⟩

end Go.Proofs.YtjjoadmkpbmhpaaGreat
