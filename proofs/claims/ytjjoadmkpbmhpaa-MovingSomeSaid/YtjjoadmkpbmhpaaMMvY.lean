/- The laws of moving: MovingSome. -/
import Derived.Test.YtjjoadmkpbmhpaaMMvX
import Derived.Test.YtjjoadmkpbmhpaaMRbP
namespace Go.Proofs.Ytjjoadmkpbmhpaa
open Go.RowKit FP

theorem wf_u16 {n : Int} (h : (Lit.int .u16 n).wf = true) : 0 ≤ n ∧ n < 65536 := by
  simp [Lit.wf, IntKind.min, IntKind.max, IntKind.signed, IntKind.bits] at h
  omega
theorem and_one16 (x : Int) (h0 : 0 ≤ x) (h1 : x < 65536) : bits .and .u16 x 1 = x % 2 := by
  obtain ⟨a, rfl⟩ : ∃ n : Nat, x = n := ⟨x.toNat, by omega⟩
  have e1 : (BitVec.ofInt 16 (a : Int)).toNat = a := by
    rw [BitVec.ofInt_natCast, BitVec.toNat_ofNat]; exact Nat.mod_eq_of_lt (by omega)
  have e2 : (BitVec.ofInt 16 (1 : Int)).toNat = 1 := by decide
  show IntKind.u16.wrap ((BitVec.ofInt 16 (a : Int) &&& BitVec.ofInt 16 (1 : Int)).toNat : Int) = _
  rw [BitVec.toNat_and, e1, e2, Nat.and_one_is_mod]
  have : IntKind.u16.wrap ((a % 2 : Nat) : Int) = ((a % 2 : Nat) : Int) := by simp [IntKind.wrap, IntKind.bits, IntKind.signed]; omega
  rw [this]; omega
theorem shr16 {b : Int} (h0 : 0 ≤ b) (h1 : b < 65536) (k : Nat) : 0 ≤ b / 2 ^ k ∧ b / 2 ^ k < 65536 := by
  have hp : (0 : Int) < 2 ^ k := Int.pow_pos (by omega)
  refine ⟨Int.ediv_nonneg h0 (Int.le_of_lt hp), ?_⟩
  have := Int.ediv_le_self (2 ^ k) h0
  omega
def mvLsK (rows : List (List Int)) (owners : List Int) (x : Int) (u : List Int) (rows2 : List (List Int)) (who l : List Int) (K : List Nat) (n : Nat) : List (List (Int × Int)) := (List.range n).map fun i => selL rows2 (dlV rows owners x u rows2 who l i) K
theorem some_val {rows : List (List Int)} {owners : List Int} {x ep : Int} {u : List Int} {rows2 : List (List Int)} {owners2 who l : List Int} {K : List Nat} (hK : K.Sublist (List.range rows2.length)) (h : DealOK rows owners x u) (hp : progE rows owners = 0) (hp2 : progE rows2 owners2 = 0) (h0 : 0 ≤ ep) (h1 : ep < 64) (hw : peopleB (-1) who = true) (ha : accOk rows owners who = true) :
    mvE rows owners ep (dealC (x :: u)) rows2 owners2 who (ownN owners who owners.length) (mvCss rows owners x u rows2 who l (ownN owners who owners.length).length) (mvLsK rows owners x u rows2 who l K (ownN owners who owners.length).length) = 0 ∧
      mvC (mvCss rows owners x u rows2 who l (ownN owners who owners.length).length) (ownN owners who owners.length) (accY rows owners who) (colsQ rows2) = dealC (x :: movU rows owners x u rows2 who l) ∧ mvL (mvLsK rows owners x u rows2 who l K (ownN owners who owners.length).length) (ownN owners who owners.length) (accY rows owners who) = selL rows2 (x :: movU rows owners x u rows2 who l) K := by
  have hO : OnD rows owners x u rows2 owners2 (ownN owners who owners.length) (dlV rows owners x u rows2 who l) K (mvCss rows owners x u rows2 who l (ownN owners who owners.length).length) (mvLsK rows owners x u rows2 who l K (ownN owners who owners.length).length) :=
    ⟨h, hp, hp2, by simp [mvCss], by simp [mvLsK], hK, fun i hi => ⟨by unfold mvCss; rw [getD_map hi], by unfold mvLsK; rw [getD_map hi], _, rfl, dlV_ok hp2⟩⟩
  obtain ⟨u', rfl, -, h3, h4, h5⟩ := mov_deal hO h0 h1 hw ha
  exact ⟨h3, h4, h5⟩
structure FSo19 (w0 : World) (kv : Value) (qv : Value) (lv : Value) (sv : Value) (B : Nat) (bK : Nat) (bS : Nat) (fr : Nat) (nc : Nat) (m : Nat) (rows2 : List (List Int)) (s : List Int) (ms : List Int) (done : Nat → Bool) (v : Nat → Value) (w : World) : Prop where
  b : Below w0.heap.size w0 w
  f0 : done 0 = true → v 0 = kv
  f1 : done 1 = true → v 1 = qv
  f2 : done 2 = true → v 2 = sv
  f3 : done 3 = true → v 3 = lv
  f4 : done 4 = true → v 4 = .int .i64 (fr : Int)
  f5 : done 5 = true → v 5 = qv
  f6 : done 6 = true → v 6 = .int .i64 (nc : Int)
  f7 : done 7 = true → v 7 = .int .i64 (m : Int)
  f8 : done 8 = true → done 9 = false → Ints w (v 8) ms
  f9 : done 9 = true → DlK rows2 s w0.heap.size (v 9) w
  f10 : done 10 = true → v 10 = v 9
  f11 : done 11 = true → v 11 = projV 0 (v 9)
  f12 : done 12 = true → v 12 = projV 1 (v 9)
  f13 : done 13 = true → v 13 = projV 2 (v 9)
  f14 : done 14 = true → v 14 = projV 0 (v 9)
  f15 : done 15 = true → v 15 = projV 1 (v 9)
  f16 : done 16 = true → v 16 = projV 2 (v 9)

set_option maxRecDepth 100000 in
set_option maxHeartbeats 32000000 in
theorem movingSome_any (rv ov rv2 ov2 mv wv lv : Value) (rows : List (List Int)) (owners : List Int) (rows2 : List (List Int)) (owners2 : List Int) (x : Int) (rnd who l : List Int) (sm_ : Int) (w : World) (hR : Rows2 w rv rows) (hO : Ints w ov owners) (hR2 : Rows2 w rv2 rows2) (hO2 : Ints w ov2 owners2) (_hx : R64 x) (hM : Ints w mv rnd) (hW : Ints w wv who) (hL : Words w lv l) (hsm : 0 ≤ sm_ ∧ sm_ < 65536) :
    Calls Try.prog 4 #[.agg #[rv, ov], .agg #[rv2, ov2], .int .i64 x, mv, wv, lv, .int .u16 sm_] w fun e w' => e = .returned (.bool true) ∧ Below w.heap.size w w' := by
  have HSM := Lib.hid hsm
  clear hsm _hx
  obtain ⟨W0, hW0, hb0, hr0, hz0⟩ := box_prog w rv ov 25
  have hs0 : W0.heap.size = w.heap.size + 1 := by rw [hW0]; simp
  obtain ⟨W1, hW1, hb1, hr1, hz1⟩ := box_prog W0 rv2 ov2 25
  have hs1 : W1.heap.size = W0.heap.size + 1 := by rw [hW1]; simp
  have t0 : Below w.heap.size w W0 := hb0
  have t1 : Below w.heap.size w W1 := t0.trans (hb1.mono t0.size)
  have Q0 := Lib.hid ((hb1.block _ (row_lt hr0)).trans hr0)
  have Q1 := Lib.hid hr1
  rw [hs0] at Q1
  have HB := Lib.hid t1
  have HR := Lib.hid (hR.below t1)
  have HO := Lib.hid (hO.below t1)
  have HR2 := Lib.hid (hR2.below t1)
  have HO2 := Lib.hid (hO2.below t1)
  have HM := Lib.hid (hM.below t1)
  have HWH := Lib.hid (hW.below t1)
  have HL := Lib.hid (hL.below t1)
  obtain ⟨a1, k1, rfl, -, hl1, -⟩ := id hR
  obtain ⟨a2, k2, rfl, -, hl2, -⟩ := id hO
  obtain ⟨a3, k3, rfl, -, hl3, -⟩ := id hR2
  obtain ⟨a4, k4, rfl, -, hl4, -⟩ := id hO2
  obtain ⟨a5, k5, rfl, -, hl5, -⟩ := id hM
  obtain ⟨a6, k6, rfl, -, hl6, -⟩ := id hW
  obtain ⟨a7, k7, rfl, -, hl7, -⟩ := id hL
  rw [hW0] at hW1
  have HWB := Lib.hid hW1
  clear hW0 hb0 hr0 hs0 t0 hW1 hb1 hr1 hs1 t1 hz0 hz1
  clear hR hO hR2 hO2 hM hW hL
  go_enter Try.func4, Try.ntmps4
  go_wp2_with (rw [← HWB.out])
  clear HWB
  with_reducible refine (sane39_any _).mono ?_
  rintro e w2 ⟨rfl, hb2⟩
  replace HR := Lib.hid (HR.out.below hb2)
  replace HO := Lib.hid (HO.out.below hb2)
  replace HR2 := Lib.hid (HR2.out.below hb2)
  replace HO2 := Lib.hid (HO2.out.below hb2)
  replace HM := Lib.hid (HM.out.below hb2)
  replace HWH := Lib.hid (HWH.out.below hb2)
  replace HL := Lib.hid (HL.out.below hb2)
  replace Q0 := Lib.hid ((hb2.block _ (row_lt Q0.out)).trans Q0.out)
  replace Q1 := Lib.hid ((hb2.block _ (row_lt Q1.out)).trans Q1.out)
  replace HB := Lib.hid (HB.out.trans (hb2.mono HB.out.size))
  clear hb2
  have p00 := row_cell Q0.out (k := 0) rfl
  have p01 := row_cell Q0.out (k := 1) rfl
  have p10 := row_cell Q1.out (k := 0) rfl
  have p11 := row_cell Q1.out (k := 1) rfl
  go_wp2_with fail
  with_reducible refine (right39_any _ _ _ _ _ _ rows owners rows2 owners2 x rnd who _ HR.out HO.out HR2.out HO2.out HM.out HWH.out).mono ?_
  rintro e w3 ⟨rfl, hb3⟩
  replace p00 := below_cell hb3 p00
  replace p01 := below_cell hb3 p01
  replace p10 := below_cell hb3 p10
  replace p11 := below_cell hb3 p11
  replace HR := Lib.hid (HR.out.below hb3)
  replace HO := Lib.hid (HO.out.below hb3)
  replace HR2 := Lib.hid (HR2.out.below hb3)
  replace HO2 := Lib.hid (HO2.out.below hb3)
  replace HM := Lib.hid (HM.out.below hb3)
  replace HWH := Lib.hid (HWH.out.below hb3)
  replace HL := Lib.hid (HL.out.below hb3)
  replace Q0 := Lib.hid ((hb3.block _ (row_lt Q0.out)).trans Q0.out)
  replace Q1 := Lib.hid ((hb3.block _ (row_lt Q1.out)).trans Q1.out)
  replace HB := Lib.hid (HB.out.trans (hb3.mono HB.out.size))
  clear hb3
  cases hrb : rightB rows owners rows2 owners2 x rnd who with
  | false =>
    go_wp2_with fail
    go_ret
    exact ⟨rfl, HB.out⟩
  | true =>
  obtain ⟨hs1, hs2, hpw, hw12, hD, hp1, hp2⟩ := rightB_ok hrb
  have HD := Lib.hid hD
  have HP1 := Lib.hid hp1
  have HP2 := Lib.hid hp2
  have HPW := Lib.hid hpw
  have HR16 := Lib.hid (small_ok hs2).1
  clear hs1 hs2 hpw hw12 hD hp1 hp2 hrb
  go_wp2_with fail
  with_reducible refine (begun39_any _ _ _ _ rows owners x rnd who _ HR.out HO.out HM.out HWH.out HD.out HP1.out (quest_ok HP1.out HPW.out)).mono ?_
  rintro e w5 ⟨asl, csl, aK, kK, rfl, hsh, hcm, hb5⟩
  replace p00 := below_cell hb5 p00
  replace p01 := below_cell hb5 p01
  replace p10 := below_cell hb5 p10
  replace p11 := below_cell hb5 p11
  replace HR := Lib.hid (HR.out.below hb5)
  replace HO := Lib.hid (HO.out.below hb5)
  replace HR2 := Lib.hid (HR2.out.below hb5)
  replace HO2 := Lib.hid (HO2.out.below hb5)
  replace HM := Lib.hid (HM.out.below hb5)
  replace HWH := Lib.hid (HWH.out.below hb5)
  replace HL := Lib.hid (HL.out.below hb5)
  replace Q0 := Lib.hid ((hb5.block _ (row_lt Q0.out)).trans Q0.out)
  replace Q1 := Lib.hid ((hb5.block _ (row_lt Q1.out)).trans Q1.out)
  replace HB := Lib.hid (HB.out.trans (hb5.mono HB.out.size))
  clear hb5
  have HSH := Lib.hid hsh
  have HCM := Lib.hid hcm
  clear hsh hcm
  obtain ⟨nK, hnK⟩ : ∃ n, n = colsQ rows := ⟨_, rfl⟩
  rw [← hnK] at HCM ⊢
  have HNK : Hid (nK = (dealC (x :: rnd)).length) := Lib.hid (by rw [hnK, dealC_len]; exact HD.out.full.symm)
  clear hnK
  obtain ⟨W6, hW6, hb6, hr6, hs6⟩ := box_key w5 (.int .i64 0) (.slice a1 rows.length k1) (.slice a2 owners.length k2) (.slice aK nK kK) 30
  have HW6 := Lib.hid hW6
  have Q2 := Lib.hid hr6
  replace p00 := below_cell hb6 p00
  replace p01 := below_cell hb6 p01
  replace p10 := below_cell hb6 p10
  replace p11 := below_cell hb6 p11
  replace HR := Lib.hid (HR.out.below hb6)
  replace HO := Lib.hid (HO.out.below hb6)
  replace HR2 := Lib.hid (HR2.out.below hb6)
  replace HO2 := Lib.hid (HO2.out.below hb6)
  replace HM := Lib.hid (HM.out.below hb6)
  replace HWH := Lib.hid (HWH.out.below hb6)
  replace HL := Lib.hid (HL.out.below hb6)
  replace HSH := Lib.hid (HSH.out.below hb6)
  replace HCM := Lib.hid (HCM.out.below hb6)
  replace Q0 := Lib.hid ((hb6.block _ (row_lt Q0.out)).trans Q0.out)
  replace Q1 := Lib.hid ((hb6.block _ (row_lt Q1.out)).trans Q1.out)
  replace HB := Lib.hid (HB.out.trans (hb6.mono HB.out.size))
  clear hb6
  clear hW6 hr6 hs6
  cases hac : accOk rows owners who with
  | false =>
    clear hac
    go_wp2_with (rw [← HW6.out])
    go_ret
    exact ⟨rfl, HB.out⟩
  | true =>
  have HAC := Lib.hid hac
  clear hac
  have q0 := row_cell Q2.out (k := 0) rfl
  have q1 := row_cell Q2.out (k := 1) rfl
  have q2 := row_cell Q2.out (k := 2) rfl
  have q3 := row_cell Q2.out (k := 3) rfl
  obtain ⟨bK, hbK⟩ : ∃ b, b = w5.heap.size := ⟨_, rfl⟩
  go_wp2_with (rw [← HW6.out])
  clear HW6
  rw [← hbK] at q0 q1 q2 q3 Q2 ⊢
  clear hbK
  with_reducible refine (moved39_any 0 _ _ _ _ _ _ _ _ rows owners x rnd rows2 owners2 who l _ HR.out HO.out HCM.out HSH.out HR2.out HO2.out HWH.out HL.out HD.out HP1.out HP2.out (by decide) (by decide) HPW.out HAC.out).mono ?_
  rintro e w7 ⟨a9, n9, c9, b9, m9, d9, rfl, hki, hli, hb7⟩
  replace p00 := below_cell hb7 p00
  replace p01 := below_cell hb7 p01
  replace p10 := below_cell hb7 p10
  replace p11 := below_cell hb7 p11
  replace q0 := below_cell hb7 q0
  replace q1 := below_cell hb7 q1
  replace q2 := below_cell hb7 q2
  replace q3 := below_cell hb7 q3
  replace HR := Lib.hid (HR.out.below hb7)
  replace HO := Lib.hid (HO.out.below hb7)
  replace HR2 := Lib.hid (HR2.out.below hb7)
  replace HO2 := Lib.hid (HO2.out.below hb7)
  replace HM := Lib.hid (HM.out.below hb7)
  replace HWH := Lib.hid (HWH.out.below hb7)
  replace HL := Lib.hid (HL.out.below hb7)
  replace HSH := Lib.hid (HSH.out.below hb7)
  replace HCM := Lib.hid (HCM.out.below hb7)
  replace Q0 := Lib.hid ((hb7.block _ (row_lt Q0.out)).trans Q0.out)
  replace Q1 := Lib.hid ((hb7.block _ (row_lt Q1.out)).trans Q1.out)
  replace Q2 := Lib.hid ((hb7.block _ (row_lt Q2.out)).trans Q2.out)
  replace HB := Lib.hid (HB.out.trans (hb7.mono HB.out.size))
  clear hb7
  have HKI := Lib.hid hki
  have HLI := Lib.hid hli
  clear hki hli
  obtain ⟨W8, hW8, hb8, hr8, hs8⟩ := box_key w7 (.int .i64 1) (.slice a3 rows2.length k3) (.slice a4 owners2.length k4) (.slice a9 n9 c9) 30
  have HW8 := Lib.hid hW8
  have Q3 := Lib.hid hr8
  replace p00 := below_cell hb8 p00
  replace p01 := below_cell hb8 p01
  replace p10 := below_cell hb8 p10
  replace p11 := below_cell hb8 p11
  replace q0 := below_cell hb8 q0
  replace q1 := below_cell hb8 q1
  replace q2 := below_cell hb8 q2
  replace q3 := below_cell hb8 q3
  replace HR := Lib.hid (HR.out.below hb8)
  replace HO := Lib.hid (HO.out.below hb8)
  replace HR2 := Lib.hid (HR2.out.below hb8)
  replace HO2 := Lib.hid (HO2.out.below hb8)
  replace HM := Lib.hid (HM.out.below hb8)
  replace HWH := Lib.hid (HWH.out.below hb8)
  replace HL := Lib.hid (HL.out.below hb8)
  replace HSH := Lib.hid (HSH.out.below hb8)
  replace HCM := Lib.hid (HCM.out.below hb8)
  replace HKI := Lib.hid (HKI.out.below hb8)
  replace HLI := Lib.hid (HLI.out.below hb8)
  replace Q0 := Lib.hid ((hb8.block _ (row_lt Q0.out)).trans Q0.out)
  replace Q1 := Lib.hid ((hb8.block _ (row_lt Q1.out)).trans Q1.out)
  replace Q2 := Lib.hid ((hb8.block _ (row_lt Q2.out)).trans Q2.out)
  replace HB := Lib.hid (HB.out.trans (hb8.mono HB.out.size))
  clear hb8
  obtain ⟨bX, hbX⟩ : ∃ b, b = w7.heap.size := ⟨_, rfl⟩
  rw [← hbX] at Q3
  clear hW8 hr8 hs8
  obtain ⟨MU, hMU⟩ : ∃ m, m = movU rows owners x rnd rows2 who l := ⟨_, rfl⟩
  rw [← hMU] at HKI HLI
  have HMU := Lib.hid hMU
  clear hMU
  obtain ⟨K, hK⟩ : ∃ K, K = bitsL sm_ rows2.length := ⟨_, rfl⟩
  have HK := Lib.hid hK
  have HKS : Hid (K.Sublist (List.range rows2.length)) := Lib.hid (by rw [hK]; exact List.filter_sublist)
  clear hK
  have HLR := Lib.hid HD.out.prog.len
  have HOL : Hid (owners.length ≤ 64) := Lib.hid (by have h1 := HD.out.prog.few; have h2 := HLR.out; omega)
  have hcu := (progE_ok HP2.out).cols_le
  have hci := (progE_ok HP2.out).cols
  have HSL : Hid ((dealL rows (x :: rnd)).length = rows.length) := Lib.hid (dealL_len _ _)
  go_wp2_with (rw [← HW8.out])
  clear HW8
  rw [← hbX]
  clear hbX
  clear p00 p01 p10 p11 q0 q1 q2 q3
  go_loopw [22, 23, 24, 25, 80] (fun I L1 L2 us i W => ∃ (k : Nat) (xs ys : List Value) (I0 : Value), k ≤ rows.length ∧ I0 = I ∧ us = .int .i64 (((ownL owners who k).length : Int) * (colsQ rows2 : Int)) ∧ i = .int .i64 k ∧ Hid (Acc3 W8.heap.size W (ownL owners who k).length (ownL owners who k).length (ownL owners who k).length I0 L1 L2 (ownN owners who k) xs ys (fun i => dealC (dlV rows owners x rnd rows2 who l i)) (fun i => selL rows2 (dlV rows owners x rnd rows2 who l i) K)) ∧ Hid (Below W8.heap.size W8 W)) (fun _ _ _ _ i _ => rows.length - (intOf i).toNat)
  case atStart => exact ⟨0, [], [], _, Nat.zero_le _, rfl, by simp [ownL], rfl, Lib.hid ⟨Acc2.nil _ _ _ _, World.ownsRow_nil _ _ _ _, fun k h => absurd h (Nat.not_lt_zero _)⟩, Lib.hid (Below.refl _ _)⟩
  case round =>
    obtain ⟨k, xs, ys, I0, hkl, hI0, rfl, rfl, HACC, HBW⟩ := hrel
    subst hI0
    replace HR := Lib.hid (HR.out.below HBW.out)
    replace HO := Lib.hid (HO.out.below HBW.out)
    replace HR2 := Lib.hid (HR2.out.below HBW.out)
    replace HO2 := Lib.hid (HO2.out.below HBW.out)
    replace HM := Lib.hid (HM.out.below HBW.out)
    replace HWH := Lib.hid (HWH.out.below HBW.out)
    replace HL := Lib.hid (HL.out.below HBW.out)
    replace HSH := Lib.hid (HSH.out.below HBW.out)
    replace HCM := Lib.hid (HCM.out.below HBW.out)
    replace HKI := Lib.hid (HKI.out.below HBW.out)
    replace HLI := Lib.hid (HLI.out.below HBW.out)
    replace Q0 := Lib.hid ((HBW.out.block _ (row_lt Q0.out)).trans Q0.out)
    replace Q1 := Lib.hid ((HBW.out.block _ (row_lt Q1.out)).trans Q1.out)
    replace Q2 := Lib.hid ((HBW.out.block _ (row_lt Q2.out)).trans Q2.out)
    replace Q3 := Lib.hid ((HBW.out.block _ (row_lt Q3.out)).trans Q3.out)
    replace HB := Lib.hid (HB.out.trans (HBW.out.mono HB.out.size))
    have hlr2 := HLR.out
    by_cases hlt : k < rows.length
    · obtain ⟨aS, cS, eS, -, -, -, hk1⟩ := id HSH.out
      obtain ⟨b1, o1, ea, y1, y2⟩ := hk1 k (by rw [dealL_len]; exact hlt)
      simp only [Value.slice.injEq] at eS
      obtain ⟨rfl, -, -⟩ := eS
      subst ea
      rw [dealL_at] at y1 y2
      simp only at y1 y2
      have p00 := row_cell Q0.out (k := 0) rfl
      have p01 := row_cell Q0.out (k := 1) rfl
      have p10 := row_cell Q1.out (k := 0) rfl
      have p11 := row_cell Q1.out (k := 1) rfl
      have q0 := row_cell Q2.out (k := 0) rfl
      have q1 := row_cell Q2.out (k := 1) rfl
      have q2 := row_cell Q2.out (k := 2) rfl
      have q3 := row_cell Q2.out (k := 3) rfl
      obtain ⟨val, hval⟩ : ∃ v, v = prodQ (rows.getD k []) (x :: rnd) := ⟨_, rfl⟩
      rw [← hval] at y2
      have HVAL := Lib.hid hval
      obtain ⟨W5, hW5, hb5, hr5, -⟩ := box_prog wr (.int .i64 (k : Int)) (.int .i64 val) 35
      have s0 := row_cell hr5 (k := 0) (v := .int .i64 (k : Int)) rfl
      have s1 := row_cell hr5 (k := 1) (v := .int .i64 val) rfl
      obtain ⟨hrk, bO, oO, nO, cO, eO, qO⟩ := HO.out.get (k := k) (by omega)
      simp only [Value.slice.injEq] at eO
      obtain ⟨rfl, -, -⟩ := eO
      have HW5 := Lib.hid hW5
      have i0 : (0 : Int) ≤ (k : Int) := by omega
      have i1 : (k : Int) < (owners.length : Int) := by omega
      have i2 : (k : Int) < (rows.length : Int) := by omega
      have HLT := Lib.hid hlt
      clear hk1 hval hr5 hW5 hrk hlr2
      have op00 := p00
      have op01 := p01
      have oqO := qO
      replace p00 := below_cell hb5 p00
      replace p01 := below_cell hb5 p01
      replace p10 := below_cell hb5 p10
      replace p11 := below_cell hb5 p11
      replace q0 := below_cell hb5 q0
      replace q1 := below_cell hb5 q1
      replace q2 := below_cell hb5 q2
      replace q3 := below_cell hb5 q3
      replace qO := below_cell hb5 qO
      replace HR := Lib.hid (HR.out.below hb5)
      replace HO := Lib.hid (HO.out.below hb5)
      replace HR2 := Lib.hid (HR2.out.below hb5)
      replace HO2 := Lib.hid (HO2.out.below hb5)
      replace HM := Lib.hid (HM.out.below hb5)
      replace HWH := Lib.hid (HWH.out.below hb5)
      replace HL := Lib.hid (HL.out.below hb5)
      replace HSH := Lib.hid (HSH.out.below hb5)
      replace HCM := Lib.hid (HCM.out.below hb5)
      replace HKI := Lib.hid (HKI.out.below hb5)
      replace HLI := Lib.hid (HLI.out.below hb5)
      replace Q0 := Lib.hid ((hb5.block _ (row_lt Q0.out)).trans Q0.out)
      replace Q1 := Lib.hid ((hb5.block _ (row_lt Q1.out)).trans Q1.out)
      replace Q2 := Lib.hid ((hb5.block _ (row_lt Q2.out)).trans Q2.out)
      replace Q3 := Lib.hid ((hb5.block _ (row_lt Q3.out)).trans Q3.out)
      replace HB := Lib.hid (HB.out.trans (hb5.mono HB.out.size))
      replace HBW := Lib.hid (HBW.out.trans (hb5.mono HBW.out.size))
      replace HACC := Lib.hid (HACC.out.keep hb5)
      clear hb5
      go_wp2_with (rw [← HW5.out])
      clear op00 op01 oqO y1 y2 HW5
      with_reducible refine (rHas_any _ who (nth owners k) _ HWH.out).mono ?_
      rintro e wq ⟨rfl, rfl⟩
      by_cases hin : nth owners k ∈ who
      rotate_left
      · have HT1 : Hid (ownL owners who (k + 1) = ownL owners who k) := Lib.hid (ownL_no hin)
        have HT2 : Hid (ownN owners who (k + 1) = ownN owners who k) := Lib.hid (by unfold ownN; rw [ownL_no hin])
        rw [decide_eq_false hin]
        clear hin
        go_wp2_with fail
        go_roundw
        case rel => exact ⟨k + 1, xs, ys, _, by omega, rfl, by rw [HT1.out], by go_num, by rw [HT1.out, HT2.out]; exact HACC, HBW⟩
        case measure => simp [intOf]; omega
      rw [decide_eq_true hin]
      have HT1 : Hid ((ownL owners who (k + 1)).length = (ownL owners who k).length + 1) := Lib.hid (by rw [ownL_yes hin, List.length_append]; rfl)
      have HT2 : Hid (ownN owners who (k + 1) = ownN owners who k ++ [(k : Int)]) := Lib.hid (by unfold ownN; rw [ownL_yes hin, List.map_append]; rfl)
      have hol := HOL.out
      have hnl := ownL_len owners who k
      have hat := ownN_at (who := who) (show k < owners.length by have := HLR.out; omega) hin
      obtain ⟨nk, hnk⟩ : ∃ n, n = (ownL owners who k).length := ⟨_, rfl⟩
      rw [← hnk] at HT1 HACC hnl hat ⊢
      obtain ⟨us, hus⟩ : ∃ n, n = nk * colsQ rows2 := ⟨_, rfl⟩
      have hk64 : nk ≤ 64 := by omega
      have hus2 : us ≤ 4096 := by rw [hus]; exact Nat.le_trans (Nat.mul_le_mul hk64 hcu) (by decide)
      have hus3 : (nk + 1) * colsQ rows2 = us + colsQ rows2 := by rw [hus, Nat.succ_mul]
      have hus4 : (nk : Int) * (colsQ rows2 : Int) = (us : Int) := by rw [hus]; exact (Int.natCast_mul _ _).symm
      have HUS3 : Hid (((nk + 1 : Nat) : Int) * (colsQ rows2 : Int) = (us : Int) + (colsQ rows2 : Int)) := Lib.hid (by rw [← Int.natCast_mul, hus3, Int.natCast_add])
      obtain ⟨s, hs⟩ : ∃ s, s = dlV rows owners x rnd rows2 who l nk := ⟨_, rfl⟩
      have hsv : s = val :: numL l us (colsQ rows2 - 1) := by rw [hs]; unfold dlV; rw [hat, HVAL.out, hus, Int.toNat_natCast]
      have HSD : Hid (DealOK rows2 owners2 val (numL l us (colsQ rows2 - 1))) := Lib.hid ⟨progE_ok HP2.out, by rw [HVAL.out]; exact prodQ_num _ _, numL_num _ _ _, by rw [numL_len]; omega⟩
      rw [hus4]
      have HSS := Lib.hid hs
      have HSV := Lib.hid hsv
      clear hs hsv hus hat hnk hus3 hus4 hin
      have hwc : IntKind.i64.wrap ((colsQ rows2 : Int) - 1) = ((colsQ rows2 - 1 : Nat) : Int) := by rw [IntKind.wrap_i64]; omega
      have HR64k : Hid (R64 (k : Int)) := Lib.hid (R64.mk (by omega) (by omega))
      have HR64v : Hid (R64 val) := Lib.hid (by rw [HVAL.out]; exact num_r64 (prodQ_num _ _))
      have HFT := Lib.hid (fit_deal HD.out HP1.out HLT.out (v := val) (by rw [HVAL.out]; exact prodQ_num _ _)).2
      have HMD : Hid (mdE rows owners 0 (dealC (x :: rnd)) rows2 owners2 (k : Int) val (numL l us (colsQ rows2 - 1)) = 0) := Lib.hid (by
        have hc : chkE rows owners 0 (dealC (x :: rnd)) rows2 owners2 = 0 := by unfold chkE; rw [if_neg (by simp [HP1.out]), key_deal HD.out HP1.out (by decide) (by decide), if_neg (by simp), HP2.out]
        unfold mdE; rw [hc, if_neg (by decide), HFT.out, decide_eq_true HVAL.out, if_neg (by decide)]; exact dealE_of HSD.out HP2.out)
      go_wp2_with fail
      have HCO := Lib.hid (fun (W1 : World) (h1 : Below W5.heap.size W5 W1) => rCols_any (.slice a3 rows2.length k3) (.slice a4 owners2.length k4) rows2 W1 (HR2.out.below h1) ⟨_, _, _, rfl⟩)
      obtain ⟨ms, hms⟩ : ∃ m, m = numL l us (colsQ rows2 - 1) := ⟨_, rfl⟩
      have HNU := Lib.hid (fun (W1 : World) (h1 : Below W5.heap.size W5 W1) => show Calls Try.prog 9 #[(.slice a7 l.length k7), .int .i64 (us : Int), .int .i64 ((colsQ rows2 - 1 : Nat) : Int)] W1 (fun e w' => ∃ v, e = .returned v ∧ Ints w' v ms ∧ Below W1.heap.size W1 w') from by rw [hms]; exact numbers39_any (.slice a7 l.length k7) l us (colsQ rows2 - 1) W1 (HL.out.below h1) (by omega) (by omega))
      have HDL := Lib.hid (fun (W1 : World) (h1 : Below W5.heap.size W5 W1) (v1 : Value) (m1 : Ints W1 v1 ms) => show Calls Try.prog 16 #[.agg #[.int .i64 0, .slice a1 rows.length k1, .slice (some ⟨bO, oO, none⟩) owners.length k2, .slice aK nK kK], .agg #[(.slice a3 rows2.length k3), (.slice a4 owners2.length k4)], .agg #[.int .i64 (k : Int), .int .i64 val], v1] W1 (fun e w' => ∃ z, e = .returned z ∧ DlK rows2 s W5.heap.size z w' ∧ Below W1.heap.size W1 w') from by
        rw [HSV.out, ← hms]
        exact (md_val 0 (.slice a1 rows.length k1) (.slice (some ⟨bO, oO, none⟩) owners.length k2) (.slice aK nK kK) (.slice a3 rows2.length k3) (.slice a4 owners2.length k4) v1 (k : Int) val rows owners (dealC (x :: rnd)) rows2 owners2 ms W1 (HR.out.below h1) (HO.out.below h1) (HCM.out.below h1) (HR2.out.below h1) (HO2.out.below h1) m1 HR64k.out HR64v.out (by rw [hms]; exact HMD.out)).mono fun e w' ⟨al, cl, ac, cc, e1, h2, h3, h4, h5⟩ => ⟨_, e1, ⟨al, cl, ac, cc, rfl, h2, h3, fun b hb => Nat.le_trans h1.size (h4 b hb)⟩, h5⟩)
      clear hms
      refine wp_region_flowsG (by kernel_rfl) (by kernel_rfl) (by kernel_rfl) (by kernel_rfl) (fun done v W => FSo19 W5 (.agg #[.int .i64 0, .slice a1 rows.length k1, .slice (some ⟨bO, oO, none⟩) owners.length k2, .slice aK nK kK]) (.agg #[.slice a3 rows2.length k3, .slice a4 owners2.length k4]) (.slice a7 l.length k7) (.agg #[.int .i64 (k : Int), .int .i64 val]) (w.heap.size) (bK) (wr.heap.size) (us) ((colsQ rows2)) ((colsQ rows2 - 1)) (rows2) (s) (ms) done v W) (fun v => ?_) ?_ (fun v W h => ?_)
      · exact ⟨(Below.refl _ _).drew, (fun h => by cases h), (fun h => by cases h), (fun h => by cases h), (fun h => by cases h), (fun h => by cases h), (fun h => by cases h), (fun h => by cases h), (fun h => by cases h), (fun h => by cases h), (fun h => by cases h), (fun h => by cases h), (fun h => by cases h), (fun h => by cases h), (fun h => by cases h), (fun h => by cases h), (fun h => by cases h), (fun h => by cases h)⟩
      · refine ⟨?_, ?_, ?_, ?_, ?_, ?_, ?_, ?_, ?_, ?_, ?_, ?_, ?_, ?_, ?_, ?_, ?_, trivial⟩
        · intro done v W A h hd hp hu hA hB hdf
          have e0 : A.tmps[15]?.getD undef = .pointer (some ⟨bK, 0, none⟩) := hB 15 rfl
          have y0_ := below_cell h.b q0
          have y1_ := below_cell h.b q1
          have y2_ := below_cell h.b q2
          have y3_ := below_cell h.b q3
          clear hA hB hp hu hdf
          go_simp
          exact ⟨_, rfl, { h with f0 := (fun _ => rfl) }⟩
        · intro done v W A h hd hp hu hA hB hdf
          have e0 : A.tmps[8]?.getD undef = .pointer (some ⟨w.heap.size + 1, 0, none⟩) := hB 8 rfl
          have y0_ := below_cell h.b p10
          have y1_ := below_cell h.b p11
          clear hA hB hp hu hdf
          go_simp
          exact ⟨_, rfl, { h with f1 := (fun _ => rfl) }⟩
        · intro done v W A h hd hp hu hA hB hdf
          have e0 : A.tmps[27]?.getD undef = .pointer (some ⟨wr.heap.size, 0, none⟩) := hB 27 rfl
          have y0_ := below_cell h.b s0
          have y1_ := below_cell h.b s1
          clear hA hB hp hu hdf
          go_simp
          exact ⟨_, rfl, { h with f2 := (fun _ => rfl) }⟩
        · intro done v W A h hd hp hu hA hB hdf
          have e0 : A.tmps[5]?.getD undef = .slice a7 l.length k7 := hB 5 rfl
          clear hA hB hp hu hdf
          go_simp
          exact ⟨_, rfl, { h with f3 := (fun _ => rfl) }⟩
        · intro done v W A h hd hp hu hA hB hdf
          have e0 : A.tmps[25]?.getD undef = .int .i64 (us : Int) := hB 25 rfl
          clear hA hB hp hu hdf
          go_simp
          exact ⟨_, rfl, { h with f4 := (fun _ => rfl) }⟩
        · intro done v W A h hd hp hu hA hB hdf
          have e0 : A.tmps[8]?.getD undef = .pointer (some ⟨w.heap.size + 1, 0, none⟩) := hB 8 rfl
          have y0_ := below_cell h.b p10
          have y1_ := below_cell h.b p11
          clear hA hB hp hu hdf
          go_simp
          exact ⟨_, rfl, { h with f5 := (fun _ => rfl) }⟩
        · intro done v W A h hd hp hu hA hB hdf
          have hd5 : done 5 = true := hp 5 rfl
          have e0 := (hA 5 99 rfl hd5).trans (h.f5 hd5)
          clear hA hB hp hu hdf
          go_simp
          with_reducible refine (HCO.out W h.b).mono ?_
          rintro e wq ⟨rfl, hb⟩
          exact ⟨_, rfl, { h with b := h.b.trans (hb.mono h.b.size), f6 := (fun _ => rfl), f8 := (fun h1 h2 => (h.f8 h1 h2).below hb), f9 := (fun h1 => (h.f9 h1).below hb) }⟩
        · intro done v W A h hd hp hu hA hB hdf
          have hd6 : done 6 = true := hp 6 rfl
          have e0 := (hA 6 100 rfl hd6).trans (h.f6 hd6)
          clear hA hB hp hu hdf
          go_simp
          exact ⟨_, rfl, { h with f7 := (fun _ => rfl) }⟩
        · intro done v W A h hd hp hu hA hB hdf
          have hd3 : done 3 = true := hp 3 rfl
          have hd4 : done 4 = true := hp 4 rfl
          have hd7 : done 7 = true := hp 7 rfl
          have e0 := (hA 3 97 rfl hd3).trans (h.f3 hd3)
          have e1 := (hA 4 98 rfl hd4).trans (h.f4 hd4)
          have e2 := (hA 7 101 rfl hd7).trans (h.f7 hd7)
          clear hA hB hp hu hdf
          go_simp
          with_reducible refine (HNU.out W h.b).mono ?_
          rintro e wq ⟨u, rfl, hn, hb⟩
          exact ⟨_, rfl, { h with b := h.b.trans (hb.mono h.b.size), f8 := (fun _ _ => hn), f9 := (fun h1 => (h.f9 h1).below hb) }⟩
        · intro done v W A h hd hp hu hA hB hdf
          have n10_9 : done 10 = false := flow_not (fun hj => hu 10 9 rfl (hj)) hd
          have n11_9 : done 11 = false := flow_not (fun hj => hu 10 9 rfl (hu 11 10 rfl (hj))) hd
          have n12_9 : done 12 = false := flow_not (fun hj => hu 10 9 rfl (hu 12 10 rfl (hj))) hd
          have n13_9 : done 13 = false := flow_not (fun hj => hu 10 9 rfl (hu 13 10 rfl (hj))) hd
          have n14_9 : done 14 = false := flow_not (fun hj => hu 14 9 rfl (hj)) hd
          have n15_9 : done 15 = false := flow_not (fun hj => hu 15 9 rfl (hj)) hd
          have n16_9 : done 16 = false := flow_not (fun hj => hu 16 9 rfl (hj)) hd
          have hd0 : done 0 = true := hp 0 rfl
          have hd1 : done 1 = true := hp 1 rfl
          have hd2 : done 2 = true := hp 2 rfl
          have hd8 : done 8 = true := hp 8 rfl
          have e0 := (hA 0 94 rfl hd0).trans (h.f0 hd0)
          have e1 := (hA 1 95 rfl hd1).trans (h.f1 hd1)
          have e2 := (hA 2 96 rfl hd2).trans (h.f2 hd2)
          have e3 := hA 8 102 rfl hd8
          have m3 := h.f8 hd8 hd
          clear hA hB hp hu hdf
          go_simp
          with_reducible refine (HDL.out W h.b _ m3).mono ?_
          rintro e wq ⟨u, rfl, hn, hb⟩
          exact ⟨_, rfl, { h with b := h.b.trans (hb.mono h.b.size), f8 := (fun _ h2 => absurd (show true = false from h2) (by decide)), f9 := (fun _ => hn), f10 := (fun hj => absurd (hj.symm.trans n10_9) (by decide)), f11 := (fun hj => absurd (hj.symm.trans n11_9) (by decide)), f12 := (fun hj => absurd (hj.symm.trans n12_9) (by decide)), f13 := (fun hj => absurd (hj.symm.trans n13_9) (by decide)), f14 := (fun hj => absurd (hj.symm.trans n14_9) (by decide)), f15 := (fun hj => absurd (hj.symm.trans n15_9) (by decide)), f16 := (fun hj => absurd (hj.symm.trans n16_9) (by decide)) }⟩
        · intro done v W A h hd hp hu hA hB hdf
          have hd9 : done 9 = true := hp 9 rfl
          have e0 := hA 9 103 rfl hd9
          clear hA hB hp hu hdf
          go_simp
          exact ⟨_, rfl, { h with f10 := (fun _ => rfl) }⟩
        · intro done v W A h hd hp hu hA hB hdf
          have hd9 : done 9 = true := hu 10 9 rfl (hp 10 rfl)
          have hd10 : done 10 = true := hp 10 rfl
          obtain ⟨al, cl, ac, cc, eD, hsD, hcD, hfD⟩ := h.f9 hd9
          have e0 := (hA 10 93 rfl hd10).trans ((h.f10 hd10).trans eD)
          clear hA hB hp hu hdf
          go_simp
          exact ⟨_, rfl, { h with f11 := (fun _ => (by show _ = projV 0 (v 9); rw [eD]; rfl)) }⟩
        · intro done v W A h hd hp hu hA hB hdf
          have hd9 : done 9 = true := hu 10 9 rfl (hp 10 rfl)
          have hd10 : done 10 = true := hp 10 rfl
          obtain ⟨al, cl, ac, cc, eD, hsD, hcD, hfD⟩ := h.f9 hd9
          have e0 := (hA 10 93 rfl hd10).trans ((h.f10 hd10).trans eD)
          clear hA hB hp hu hdf
          go_simp
          exact ⟨_, rfl, { h with f12 := (fun _ => (by show _ = projV 1 (v 9); rw [eD]; rfl)) }⟩
        · intro done v W A h hd hp hu hA hB hdf
          have hd9 : done 9 = true := hu 10 9 rfl (hp 10 rfl)
          have hd10 : done 10 = true := hp 10 rfl
          obtain ⟨al, cl, ac, cc, eD, hsD, hcD, hfD⟩ := h.f9 hd9
          have e0 := (hA 10 93 rfl hd10).trans ((h.f10 hd10).trans eD)
          clear hA hB hp hu hdf
          go_simp
          exact ⟨_, rfl, { h with f13 := (fun _ => (by show _ = projV 2 (v 9); rw [eD]; rfl)) }⟩
        · intro done v W A h hd hp hu hA hB hdf
          have hd11 : done 11 = true := hp 11 rfl
          have e0 := hA 11 104 rfl hd11
          clear hA hB hp hu hdf
          go_simp
          exact ⟨_, rfl, { h with f14 := (fun _ => (h.f11 hd11)) }⟩
        · intro done v W A h hd hp hu hA hB hdf
          have hd12 : done 12 = true := hp 12 rfl
          have e0 := hA 12 105 rfl hd12
          clear hA hB hp hu hdf
          go_simp
          exact ⟨_, rfl, { h with f15 := (fun _ => (h.f12 hd12)) }⟩
        · intro done v W A h hd hp hu hA hB hdf
          have hd13 : done 13 = true := hp 13 rfl
          have e0 := hA 13 106 rfl hd13
          clear hA hB hp hu hdf
          go_simp
          exact ⟨_, rfl, { h with f16 := (fun _ => (h.f13 hd13)) }⟩
      simp only [putL, Act.put, Nat.reduceAdd, List.setIfInBounds_toArray, List.set_cons_zero, List.set_cons_succ]
      obtain ⟨al, cl, ac, cc, eD, hsD, hcD, hfD⟩ := h.f9 rfl
      rw [show v 14 = .slice al (dealL rows2 s).length cl from (h.f14 rfl).trans (by rw [eD]; rfl)]
      rw [show v 15 = .slice ac (dealC s).length cc from (h.f15 rfl).trans (by rw [eD]; rfl)]
      rw [show v 16 = .int .i64 0 from (h.f16 rfl).trans (by rw [eD]; rfl)]
      have hbr := h.b
      have HAP : Hid (∀ b, (Value.slice ac (dealC s).length cc).ownBlock = some b → I0.ownBlock ≠ some b) := Lib.hid (fun b hb e2 => by have h1 := hfD b hb; have h2 := (own_lt HACC.out.o b e2).2; omega)
      have HNC : Hid (NextC W I0 (.slice ac (dealC s).length cc) (dealC s)) := Lib.hid ⟨hcD, HAP.out⟩
      have HND := Lib.hid hsD.1
      replace p00 := below_cell hbr p00
      replace p01 := below_cell hbr p01
      replace p10 := below_cell hbr p10
      replace p11 := below_cell hbr p11
      replace q0 := below_cell hbr q0
      replace q1 := below_cell hbr q1
      replace q2 := below_cell hbr q2
      replace q3 := below_cell hbr q3
      replace qO := below_cell hbr qO
      replace s0 := below_cell hbr s0
      replace s1 := below_cell hbr s1
      replace HR := Lib.hid (HR.out.below hbr)
      replace HO := Lib.hid (HO.out.below hbr)
      replace HR2 := Lib.hid (HR2.out.below hbr)
      replace HO2 := Lib.hid (HO2.out.below hbr)
      replace HM := Lib.hid (HM.out.below hbr)
      replace HWH := Lib.hid (HWH.out.below hbr)
      replace HL := Lib.hid (HL.out.below hbr)
      replace HSH := Lib.hid (HSH.out.below hbr)
      replace HCM := Lib.hid (HCM.out.below hbr)
      replace HKI := Lib.hid (HKI.out.below hbr)
      replace HLI := Lib.hid (HLI.out.below hbr)
      replace Q0 := Lib.hid ((hbr.block _ (row_lt Q0.out)).trans Q0.out)
      replace Q1 := Lib.hid ((hbr.block _ (row_lt Q1.out)).trans Q1.out)
      replace Q2 := Lib.hid ((hbr.block _ (row_lt Q2.out)).trans Q2.out)
      replace Q3 := Lib.hid ((hbr.block _ (row_lt Q3.out)).trans Q3.out)
      replace HB := Lib.hid (HB.out.trans (hbr.mono HB.out.size))
      replace HBW := Lib.hid (HBW.out.trans (hbr.mono HBW.out.size))
      replace HACC := Lib.hid (HACC.out.keep hbr)
      clear h hbr hsD hcD hfD eD HAP HCO HNU HDL q0 q1 q2 q3 p00 p01 qO hwc
      have HDN : Hid ((dealL rows2 s).length = rows2.length) := Lib.hid (dealL_len _ _)
      obtain ⟨nd, hnd⟩ : ∃ n, n = (dealL rows2 s).length := ⟨_, rfl⟩
      rw [← hnd] at HND HDN ⊢
      clear hnd
      rw [HDN.out] at HND ⊢
      go_wp2_with fail
      obtain ⟨wfHOWN, hw0⟩ : ∃ x, x = W := ⟨_, rfl⟩
      subst hw0
      go_loopw [31, 111] (fun T0 i V => ∃ (j : Nat) (T : Value), j ≤ rows2.length ∧ T = T0 ∧ i = .int .i64 j ∧ Hid (V.ownsRow wfHOWN.heap.size 35 2 T (bitsL sm_ j).length ((selL rows2 s (bitsL sm_ j)).flatMap shaC)) ∧ Hid (Below wfHOWN.heap.size wfHOWN V)) (fun _ i _ => rows2.length - (intOf i).toNat)
      case atStart => exact ⟨0, _, Nat.zero_le _, rfl, rfl, Lib.hid (World.ownsRow_nil _ _ _ _), Lib.hid (Below.refl _ _)⟩
      case round =>
        obtain ⟨j, T, hjl, hT0, rfl, HOW, HBF⟩ := hrel
        subst hT0
        by_cases hjt : j < rows2.length
        · obtain ⟨aF, cF, eF, -, -, hrF, hkF⟩ := id HND.out
          obtain ⟨bF, oF, eF2, z1, z2⟩ := hkF j (by rw [dealL_len]; exact hjt)
          simp only [Value.slice.injEq] at eF
          obtain ⟨rfl, -, -⟩ := eF
          subst eF2
          rw [dealL_at] at z1 z2
          simp only at z1 z2
          replace z1 := below_cell HBF.out z1
          replace z2 := below_cell HBF.out z2
          obtain ⟨vj, hvj⟩ : ∃ v, v = prodQ (rows2.getD j []) s := ⟨_, rfl⟩
          rw [← hvj] at z2
          obtain ⟨W9, hW9, hb9, hr9, -⟩ := box_prog wr (.int .i64 (j : Int)) (.int .i64 vj) 35
          have t0 := row_cell hr9 (k := 0) (v := .int .i64 (j : Int)) rfl
          have t1 := row_cell hr9 (k := 1) (v := .int .i64 vj) rfl
          have HW9 := Lib.hid hW9
          have HOW9 := Lib.hid (own_keep HOW.out hb9)
          have HBF9 := Lib.hid (HBF.out.trans (hb9.mono HBF.out.size))
          have h16 := HR16.out
          have j0 : (0 : Int) ≤ (j : Int) := by omega
          have j1 : (j : Int) < (rows2.length : Int) := by omega
          have j16 : (j : Int) < 16 := by omega
          have j2 : decide ((0 : Int) ≤ (j : Int)) = true := decide_eq_true j0
          have j3 : decide ((j : Int) < 16) = true := decide_eq_true j16
          have j4 : j < 16 := by omega
          obtain ⟨g0, g1⟩ := shr16 HSM.out.1 HSM.out.2 j
          have HA := and_one16 _ g0 g1
          have HBQ : Hid (bitQ sm_ j = decide (sm_ / 2 ^ j % 2 = 1)) := Lib.hid rfl
          clear hrF hkF hr9 hW9 hb9
          cases eb : bitQ sm_ j with
          | false =>
            have hx : sm_ / 2 ^ j % 2 = 0 := by rw [HBQ.out] at eb; have := of_decide_eq_false eb; omega
            rw [hx] at HA
            have HT := Lib.hid (bitsL_no eb)
            clear eb hx hvj
            go_wp2_with (rw [← HW9.out])
            go_roundw
            case rel => exact ⟨j + 1, _, by omega, rfl, by go_num, by rw [HT.out]; exact HOW9, HBF9⟩
            case measure => simp [intOf]; omega
          | true =>
            have hx : sm_ / 2 ^ j % 2 = 1 := by rw [HBQ.out] at eb; exact of_decide_eq_true eb
            rw [hx] at HA
            have HT : Hid (selL rows2 s (bitsL sm_ (j + 1)) = selL rows2 s (bitsL sm_ j) ++ [((j : Int), vj)]) := Lib.hid (by rw [bitsL_yes eb]; unfold selL; rw [List.map_append, hvj]; rfl)
            have HTL : Hid ((bitsL sm_ (j + 1)).length = (bitsL sm_ j).length + 1) := Lib.hid (by rw [bitsL_yes eb]; simp)
            have hbl : (bitsL sm_ j).length ≤ 1000000 := by have := bitsL_len sm_ j; omega
            have HN := Lib.hid (below_new W9 #[.int .i64 (j : Int), .int .i64 vj] 35)
            have HOX := Lib.hid (own_keep HOW9.out HN.out)
            have hq0 := World.alloc_heap_new W9 (.cells #[.int .i64 (j : Int), .int .i64 vj] 35)
            have HQ0 := Lib.hid (row_cell hq0 (k := 0) rfl)
            have HQ1 := Lib.hid (row_cell hq0 (k := 1) rfl)
            have HB9 := Lib.hid (HBF9.out.trans (HN.out.mono HBF9.out.size))
            have HBS := Lib.hid HB9.out.size
            clear eb hx hvj hq0
            go_wp2_with (first | rw [← HW9.out] | (refine app_share rfl _ _ rfl wfHOWN.heap.size _ (selL rows2 s (bitsL sm_ j)) (bitsL sm_ j).length rfl HOX.out W9.heap.size 0 1 ((j : Int), vj) rfl HQ0.out HQ1.out hbl HBS.out ?_; intro g8 cap8 w9 h9 o9; have H9 := Lib.hid h9; have O9 := Lib.hid o9; clear h9 o9))
            go_roundw
            case rel => exact ⟨j + 1, _, by omega, rfl, by go_num, by rw [HTL.out, HT.out]; exact H9, Lib.hid (HB9.out.trans (own_below HOX.out O9.out.1 HBS.out))⟩
            case measure => simp [intOf]; omega
        · obtain rfl : j = rows2.length := by omega
          have HOWN : Hid (RS wr T (selL rows2 s K)) := Lib.hid (by rw [HK.out]; exact RS.own HOW.out (fun p hp => by obtain ⟨i, hi, rfl⟩ := List.mem_map.1 hp; have h1 := List.mem_range.1 (List.mem_filter.1 hi).1; have h2 := HR16.out; exact dealF_r64 rows2 _ (by omega)) (by rw [selL_len]; have h1 := bitsL_len sm_ rows2.length; have h2 := HR16.out; omega))
          obtain ⟨aHOWN, nHOWN, kHOWN, rfl⟩ : ∃ a n k, T = .slice a n k := by obtain ⟨a, k, h, -⟩ := HOWN.out.1; exact ⟨_, _, _, h⟩
          have hdk : decide ((rows2.length : Int) < (rows2.length : Int)) = false := decide_eq_false (by omega)
          have hdk2 : decide (rows2.length < rows2.length) = false := decide_eq_false (by omega)
          clear HOW
          replace p10 := below_cell HBF.out p10
          replace p11 := below_cell HBF.out p11
          replace s0 := below_cell HBF.out s0
          replace s1 := below_cell HBF.out s1
          replace HR := Lib.hid (HR.out.below HBF.out)
          replace HO := Lib.hid (HO.out.below HBF.out)
          replace HR2 := Lib.hid (HR2.out.below HBF.out)
          replace HO2 := Lib.hid (HO2.out.below HBF.out)
          replace HM := Lib.hid (HM.out.below HBF.out)
          replace HWH := Lib.hid (HWH.out.below HBF.out)
          replace HL := Lib.hid (HL.out.below HBF.out)
          replace HSH := Lib.hid (HSH.out.below HBF.out)
          replace HCM := Lib.hid (HCM.out.below HBF.out)
          replace HKI := Lib.hid (HKI.out.below HBF.out)
          replace HLI := Lib.hid (HLI.out.below HBF.out)
          replace HND := Lib.hid (HND.out.below HBF.out)
          replace Q0 := Lib.hid ((HBF.out.block _ (row_lt Q0.out)).trans Q0.out)
          replace Q1 := Lib.hid ((HBF.out.block _ (row_lt Q1.out)).trans Q1.out)
          replace Q2 := Lib.hid ((HBF.out.block _ (row_lt Q2.out)).trans Q2.out)
          replace Q3 := Lib.hid ((HBF.out.block _ (row_lt Q3.out)).trans Q3.out)
          replace HB := Lib.hid (HB.out.trans (HBF.out.mono HB.out.size))
          replace HBW := Lib.hid (HBW.out.trans (HBF.out.mono HBW.out.size))
          replace HACC := Lib.hid (HACC.out.keep HBF.out)
          replace HNC := Lib.hid (HNC.out.keep HBF.out)
          have hwu : IntKind.i64.wrap ((us : Int) + (colsQ rows2 : Int)) = (us : Int) + (colsQ rows2 : Int) := by rw [IntKind.wrap_i64]; omega
          go_wp2_with fail
          clear hdk hdk2
          with_reducible refine (rCols_any _ _ rows2 _ HR2.out ⟨_, _, _, rfl⟩).mono ?_
          rintro e w15 ⟨rfl, hb15⟩
          replace p10 := below_cell hb15 p10
          replace p11 := below_cell hb15 p11
          replace s0 := below_cell hb15 s0
          replace s1 := below_cell hb15 s1
          replace HR := Lib.hid (HR.out.below hb15)
          replace HO := Lib.hid (HO.out.below hb15)
          replace HR2 := Lib.hid (HR2.out.below hb15)
          replace HO2 := Lib.hid (HO2.out.below hb15)
          replace HM := Lib.hid (HM.out.below hb15)
          replace HWH := Lib.hid (HWH.out.below hb15)
          replace HL := Lib.hid (HL.out.below hb15)
          replace HSH := Lib.hid (HSH.out.below hb15)
          replace HCM := Lib.hid (HCM.out.below hb15)
          replace HKI := Lib.hid (HKI.out.below hb15)
          replace HLI := Lib.hid (HLI.out.below hb15)
          replace HND := Lib.hid (HND.out.below hb15)
          replace HOWN := Lib.hid (HOWN.out.below hb15)
          replace Q0 := Lib.hid ((hb15.block _ (row_lt Q0.out)).trans Q0.out)
          replace Q1 := Lib.hid ((hb15.block _ (row_lt Q1.out)).trans Q1.out)
          replace Q2 := Lib.hid ((hb15.block _ (row_lt Q2.out)).trans Q2.out)
          replace Q3 := Lib.hid ((hb15.block _ (row_lt Q3.out)).trans Q3.out)
          replace HB := Lib.hid (HB.out.trans (hb15.mono HB.out.size))
          replace HBW := Lib.hid (HBW.out.trans (hb15.mono HBW.out.size))
          replace HACC := Lib.hid (HACC.out.keep hb15)
          replace HNC := Lib.hid (HNC.out.keep hb15)
          clear hb15
          have hn1 := below_new w15 #[.int .i64 (k : Int)] 3
          have HA1 := Lib.hid (HACC.out.keep hn1)
          have HN1 := Lib.hid (HNC.out.keep hn1)
          have HD1 := Lib.hid (HOWN.out.below hn1)
          have HB1 := Lib.hid (HBW.out.trans (hn1.mono HBW.out.size))
          have HS1 := Lib.hid HB1.out.size
          have hk6 : nk ≤ 1000000 := by omega
          clear hn1 HACC HNC HND HOWN HBW
          go_wp2_with (first
            | (refine app_int_lies rfl _ _ rfl W8.heap.size nk _ _ rfl HA1.out.o w15.heap.size 1 (k : Int) rfl (row_cell (World.alloc_heap_new _ _) rfl) hk6 HS1.out ?_; intro g9 cap9 w9 h9 o9 l9; have HA2 := Lib.hid (HA1.out.int HN1.out h9 o9 l9); have HB2 := Lib.hid (HB1.out.trans (own_below HA1.out.o o9 HS1.out)); have HD2 := Lib.hid (HD1.out.grown HA1.out.o (by decide) o9); clear h9 o9 l9 HA1 HN1 HB1 HD1 HS1; have hn2 := below_new w9 #[.slice ac (dealC s).length cc] 23; have HA3 := Lib.hid (HA2.out.1.keep hn2); have HN3 := Lib.hid (HA2.out.2.keep hn2); have HD3 := Lib.hid (HD2.out.below hn2); have HB3 := Lib.hid (HB2.out.trans (hn2.mono HB2.out.size)); have HS3 := Lib.hid HB3.out.size; clear hn2 HA2 HD2 HB2)
            | (refine app_rowT rfl _ _ rfl W8.heap.size nk _ xs rfl HA3.out.a.o1 w9.heap.size 1 (.slice ac (dealC s).length cc) rfl (row_cell (World.alloc_heap_new _ _) rfl) rfl hk6 HS3.out ?_; intro v10 w10 h10 o10; have HA4 := Lib.hid (HA3.out.one (by rw [← HSS.out]; exact HN3.out) h10 o10); have HB4 := Lib.hid (HB3.out.trans (own_below HA3.out.a.o1 o10 HS3.out)); have HD4 := Lib.hid (HD3.out.grown HA3.out.a.o1 (by decide) o10); clear h10 o10 HA3 HN3 HB3 HD3 HS3; have hn3 := below_new w10 #[.slice aHOWN nHOWN kHOWN] 31; have HA5 := Lib.hid (HA4.out.keep hn3); have HD5 := Lib.hid (HD4.out.below hn3); have HB5 := Lib.hid (HB4.out.trans (hn3.mono HB4.out.size)); have HS5 := Lib.hid HB5.out.size; clear hn3 HA4 HD4 HB4)
            | (refine app_rowS rfl _ _ rfl W8.heap.size nk _ ys rfl HA5.out.a.o2 w10.heap.size 1 (.slice aHOWN nHOWN kHOWN) rfl (row_cell (World.alloc_heap_new _ _) rfl) rfl hk6 HS5.out ?_; intro v11 w11 h11 o11; have HA6 := Lib.hid (HA5.out.two (by rw [← HSS.out]; exact HD5.out) h11 o11); have HB6 := Lib.hid (HB5.out.trans (own_below HA5.out.a.o2 o11 HS5.out)); clear h11 o11))
          go_roundw
          case rel => exact ⟨k + 1, _, _, _, by omega, rfl, by rw [HT1.out, HUS3.out], by go_num, by rw [HT1.out, HT2.out]; exact HA6, HB6⟩
          case measure => simp [intOf]; omega
    · obtain rfl : k = rows.length := by omega
      rw [HLR.out] at HACC
      have hnl : (ownL owners who owners.length).length = (ownN owners who owners.length).length := by unfold ownN; rw [List.length_map]
      have hn64 := ownN_len owners who owners.length
      have hol := HOL.out
      obtain ⟨L1, hL1⟩ : ∃ v, v = u23 := ⟨_, rfl⟩
      obtain ⟨L2, hL2⟩ : ∃ v, v = u24 := ⟨_, rfl⟩
      subst hL1 hL2
      have HCSS : Hid (Rows2 wr L1 (mvCss rows owners x rnd rows2 who l (ownN owners who owners.length).length)) := Lib.hid (HACC.out.a.rows (css := (mvCss rows owners x rnd rows2 who l (ownN owners who owners.length).length)) (by rw [hnl]; simp [mvCss]) (by omega) (fun k h => by unfold mvCss at h ⊢; rw [List.getElem_map, List.getElem_range]))
      have HLSS : Hid (SRows wr L2 (mvLsK rows owners x rnd rows2 who l K (ownN owners who owners.length).length)) := Lib.hid (HACC.out.a.lists (ls := (mvLsK rows owners x rnd rows2 who l K (ownN owners who owners.length).length)) (by rw [hnl]; simp [mvLsK]) (by omega) (fun k h => by unfold mvLsK at h ⊢; rw [List.getElem_map, List.getElem_range]))
      have HRW : Hid (Ints wr I0 (ownN owners who owners.length)) := Lib.hid (Ints.own HACC.out.o (fun z hz => by obtain ⟨i, hi, rfl⟩ := List.mem_map.1 hz; have := (ownL_lt hi).1; exact R64.mk (by omega) (by omega)) (by omega))
      obtain ⟨ca, ck, rfl, -⟩ := id HCSS.out
      obtain ⟨la, lk, rfl, -⟩ := id HLSS.out
      obtain ⟨ra, rk, rfl, -⟩ := id HRW.out
      have hdk : decide (rows.length < rows.length) = false := decide_eq_false (by omega)
      clear HACC hnl hn64 hlr2
      have HMN : Hid (m9 = rows2.length) := Lib.hid (by obtain ⟨a, k, h, -⟩ := HLI.out; simp only [Value.slice.injEq] at h; rw [h.2.1, dealL_len])
      rw [HMN.out] at HLI ⊢
      go_wp2_with fail
      clear hdk
      obtain ⟨wfHWANT, hw0⟩ : ∃ x, x = wr := ⟨_, rfl⟩
      subst hw0
      go_loopw [34, 156] (fun T0 i V => ∃ (j : Nat) (T : Value), j ≤ rows2.length ∧ T = T0 ∧ i = .int .i64 j ∧ Hid (V.ownsRow wfHWANT.heap.size 35 2 T (bitsL sm_ j).length ((selL rows2 (x :: MU) (bitsL sm_ j)).flatMap shaC)) ∧ Hid (Below wfHWANT.heap.size wfHWANT V)) (fun _ i _ => rows2.length - (intOf i).toNat)
      case atStart => exact ⟨0, _, Nat.zero_le _, rfl, rfl, Lib.hid (World.ownsRow_nil _ _ _ _), Lib.hid (Below.refl _ _)⟩
      case round =>
        obtain ⟨j, T, hjl, hT0, rfl, HOW, HBF⟩ := hrel
        subst hT0
        by_cases hjt : j < rows2.length
        · obtain ⟨aF, cF, eF, -, -, hrF, hkF⟩ := id HLI.out
          obtain ⟨bF, oF, eF2, z1, z2⟩ := hkF j (by rw [dealL_len]; exact hjt)
          simp only [Value.slice.injEq] at eF
          obtain ⟨rfl, -, -⟩ := eF
          subst eF2
          rw [dealL_at] at z1 z2
          simp only at z1 z2
          replace z1 := below_cell HBF.out z1
          replace z2 := below_cell HBF.out z2
          obtain ⟨vj, hvj⟩ : ∃ v, v = prodQ (rows2.getD j []) (x :: MU) := ⟨_, rfl⟩
          rw [← hvj] at z2
          obtain ⟨W9, hW9, hb9, hr9, -⟩ := box_prog wr (.int .i64 (j : Int)) (.int .i64 vj) 35
          have t0 := row_cell hr9 (k := 0) (v := .int .i64 (j : Int)) rfl
          have t1 := row_cell hr9 (k := 1) (v := .int .i64 vj) rfl
          have HW9 := Lib.hid hW9
          have HOW9 := Lib.hid (own_keep HOW.out hb9)
          have HBF9 := Lib.hid (HBF.out.trans (hb9.mono HBF.out.size))
          have h16 := HR16.out
          have j0 : (0 : Int) ≤ (j : Int) := by omega
          have j1 : (j : Int) < (rows2.length : Int) := by omega
          have j16 : (j : Int) < 16 := by omega
          have j2 : decide ((0 : Int) ≤ (j : Int)) = true := decide_eq_true j0
          have j3 : decide ((j : Int) < 16) = true := decide_eq_true j16
          have j4 : j < 16 := by omega
          obtain ⟨g0, g1⟩ := shr16 HSM.out.1 HSM.out.2 j
          have HA := and_one16 _ g0 g1
          have HBQ : Hid (bitQ sm_ j = decide (sm_ / 2 ^ j % 2 = 1)) := Lib.hid rfl
          clear hrF hkF hr9 hW9 hb9
          cases eb : bitQ sm_ j with
          | false =>
            have hx : sm_ / 2 ^ j % 2 = 0 := by rw [HBQ.out] at eb; have := of_decide_eq_false eb; omega
            rw [hx] at HA
            have HT := Lib.hid (bitsL_no eb)
            clear eb hx hvj
            go_wp2_with (rw [← HW9.out])
            go_roundw
            case rel => exact ⟨j + 1, _, by omega, rfl, by go_num, by rw [HT.out]; exact HOW9, HBF9⟩
            case measure => simp [intOf]; omega
          | true =>
            have hx : sm_ / 2 ^ j % 2 = 1 := by rw [HBQ.out] at eb; exact of_decide_eq_true eb
            rw [hx] at HA
            have HT : Hid (selL rows2 (x :: MU) (bitsL sm_ (j + 1)) = selL rows2 (x :: MU) (bitsL sm_ j) ++ [((j : Int), vj)]) := Lib.hid (by rw [bitsL_yes eb]; unfold selL; rw [List.map_append, hvj]; rfl)
            have HTL : Hid ((bitsL sm_ (j + 1)).length = (bitsL sm_ j).length + 1) := Lib.hid (by rw [bitsL_yes eb]; simp)
            have hbl : (bitsL sm_ j).length ≤ 1000000 := by have := bitsL_len sm_ j; omega
            have HN := Lib.hid (below_new W9 #[.int .i64 (j : Int), .int .i64 vj] 35)
            have HOX := Lib.hid (own_keep HOW9.out HN.out)
            have hq0 := World.alloc_heap_new W9 (.cells #[.int .i64 (j : Int), .int .i64 vj] 35)
            have HQ0 := Lib.hid (row_cell hq0 (k := 0) rfl)
            have HQ1 := Lib.hid (row_cell hq0 (k := 1) rfl)
            have HB9 := Lib.hid (HBF9.out.trans (HN.out.mono HBF9.out.size))
            have HBS := Lib.hid HB9.out.size
            clear eb hx hvj hq0
            go_wp2_with (first | rw [← HW9.out] | (refine app_share rfl _ _ rfl wfHWANT.heap.size _ (selL rows2 (x :: MU) (bitsL sm_ j)) (bitsL sm_ j).length rfl HOX.out W9.heap.size 0 1 ((j : Int), vj) rfl HQ0.out HQ1.out hbl HBS.out ?_; intro g8 cap8 w9 h9 o9; have H9 := Lib.hid h9; have O9 := Lib.hid o9; clear h9 o9))
            go_roundw
            case rel => exact ⟨j + 1, _, by omega, rfl, by go_num, by rw [HTL.out, HT.out]; exact H9, Lib.hid (HB9.out.trans (own_below HOX.out O9.out.1 HBS.out))⟩
            case measure => simp [intOf]; omega
        · obtain rfl : j = rows2.length := by omega
          have HWANT : Hid (RS wr T (selL rows2 (x :: MU) K)) := Lib.hid (by rw [HK.out]; exact RS.own HOW.out (fun p hp => by obtain ⟨i, hi, rfl⟩ := List.mem_map.1 hp; have h1 := List.mem_range.1 (List.mem_filter.1 hi).1; have h2 := HR16.out; exact dealF_r64 rows2 _ (by omega)) (by rw [selL_len]; have h1 := bitsL_len sm_ rows2.length; have h2 := HR16.out; omega))
          obtain ⟨aHWANT, nHWANT, kHWANT, rfl⟩ : ∃ a n k, T = .slice a n k := by obtain ⟨a, k, h, -⟩ := HWANT.out.1; exact ⟨_, _, _, h⟩
          have hdk : decide ((rows2.length : Int) < (rows2.length : Int)) = false := decide_eq_false (by omega)
          have hdk2 : decide (rows2.length < rows2.length) = false := decide_eq_false (by omega)
          clear HOW
          replace HR := Lib.hid (HR.out.below HBF.out)
          replace HO := Lib.hid (HO.out.below HBF.out)
          replace HR2 := Lib.hid (HR2.out.below HBF.out)
          replace HO2 := Lib.hid (HO2.out.below HBF.out)
          replace HM := Lib.hid (HM.out.below HBF.out)
          replace HWH := Lib.hid (HWH.out.below HBF.out)
          replace HL := Lib.hid (HL.out.below HBF.out)
          replace HSH := Lib.hid (HSH.out.below HBF.out)
          replace HCM := Lib.hid (HCM.out.below HBF.out)
          replace HKI := Lib.hid (HKI.out.below HBF.out)
          replace HLI := Lib.hid (HLI.out.below HBF.out)
          replace HCSS := Lib.hid (HCSS.out.below HBF.out)
          replace HLSS := Lib.hid (HLSS.out.below HBF.out)
          replace HRW := Lib.hid (HRW.out.below HBF.out)
          replace Q0 := Lib.hid ((HBF.out.block _ (row_lt Q0.out)).trans Q0.out)
          replace Q1 := Lib.hid ((HBF.out.block _ (row_lt Q1.out)).trans Q1.out)
          replace Q2 := Lib.hid ((HBF.out.block _ (row_lt Q2.out)).trans Q2.out)
          replace Q3 := Lib.hid ((HBF.out.block _ (row_lt Q3.out)).trans Q3.out)
          replace HB := Lib.hid (HB.out.trans (HBF.out.mono HB.out.size))
          have q0 := row_cell Q2.out (k := 0) rfl
          have q1 := row_cell Q2.out (k := 1) rfl
          have q2 := row_cell Q2.out (k := 2) rfl
          have q3 := row_cell Q2.out (k := 3) rfl
          have p10 := row_cell Q1.out (k := 0) rfl
          have p11 := row_cell Q1.out (k := 1) rfl
          have HV := Lib.hid (some_val (ep := 0) (l := l) HKS.out HD.out HP1.out HP2.out (by decide) (by decide) HPW.out HAC.out)
          rw [← HMU.out] at HV
          go_wp2_with fail
          clear hdk hdk2 q0 q1 q2 q3 p10 p11
          with_reducible refine (mv_val 0 (.slice a1 rows.length k1) (.slice a2 owners.length k2) (.slice aK nK kK) (.slice a3 rows2.length k3) (.slice a4 owners2.length k4) _ _ _ _ rows owners (dealC (x :: rnd)) rows2 owners2 who (ownN owners who owners.length) (mvCss rows owners x rnd rows2 who l (ownN owners who owners.length).length) (mvLsK rows owners x rnd rows2 who l K (ownN owners who owners.length).length) _ _ _ HR.out HO.out HCM.out HR2.out HO2.out HCSS.out HLSS.out HWH.out HRW.out HV.out).mono ?_
          rintro e w18 ⟨kv, lv2, rfl, hki, hli, hb18⟩
          replace HR := Lib.hid (HR.out.below hb18)
          replace HO := Lib.hid (HO.out.below hb18)
          replace HR2 := Lib.hid (HR2.out.below hb18)
          replace HO2 := Lib.hid (HO2.out.below hb18)
          replace HM := Lib.hid (HM.out.below hb18)
          replace HWH := Lib.hid (HWH.out.below hb18)
          replace HL := Lib.hid (HL.out.below hb18)
          replace HSH := Lib.hid (HSH.out.below hb18)
          replace HCM := Lib.hid (HCM.out.below hb18)
          replace HKI := Lib.hid (HKI.out.below hb18)
          replace HLI := Lib.hid (HLI.out.below hb18)
          replace HCSS := Lib.hid (HCSS.out.below hb18)
          replace HLSS := Lib.hid (HLSS.out.below hb18)
          replace HRW := Lib.hid (HRW.out.below hb18)
          replace HWANT := Lib.hid (HWANT.out.below hb18)
          replace Q0 := Lib.hid ((hb18.block _ (row_lt Q0.out)).trans Q0.out)
          replace Q1 := Lib.hid ((hb18.block _ (row_lt Q1.out)).trans Q1.out)
          replace Q2 := Lib.hid ((hb18.block _ (row_lt Q2.out)).trans Q2.out)
          replace Q3 := Lib.hid ((hb18.block _ (row_lt Q3.out)).trans Q3.out)
          replace HB := Lib.hid (HB.out.trans (hb18.mono HB.out.size))
          clear hb18
          obtain ⟨ak, ck2, rfl, -⟩ := id hki.1
          obtain ⟨alx, clx, rfl, -⟩ := id hli.1
          have HZK := Lib.hid hki.1
          have HZL := Lib.hid hli.1
          clear hki hli
          obtain ⟨nz, hnz⟩ : ∃ n, n = (dealC (x :: MU)).length := ⟨_, rfl⟩
          rw [← hnz] at HZK ⊢
          clear hnz
          obtain ⟨W19, hW19, hb19, hr19, hs19⟩ := box_key w18 (.int .i64 (0 + 1)) (.slice a3 rows2.length k3) (.slice a4 owners2.length k4) (.slice ak nz ck2) 30
          rw [show (0 : Int) + 1 = 1 by decide] at hW19 hr19 ⊢
          have HW19 := Lib.hid hW19
          have Q4 := Lib.hid hr19
          replace HR := Lib.hid (HR.out.below hb19)
          replace HO := Lib.hid (HO.out.below hb19)
          replace HR2 := Lib.hid (HR2.out.below hb19)
          replace HO2 := Lib.hid (HO2.out.below hb19)
          replace HM := Lib.hid (HM.out.below hb19)
          replace HWH := Lib.hid (HWH.out.below hb19)
          replace HL := Lib.hid (HL.out.below hb19)
          replace HSH := Lib.hid (HSH.out.below hb19)
          replace HCM := Lib.hid (HCM.out.below hb19)
          replace HKI := Lib.hid (HKI.out.below hb19)
          replace HLI := Lib.hid (HLI.out.below hb19)
          replace HCSS := Lib.hid (HCSS.out.below hb19)
          replace HLSS := Lib.hid (HLSS.out.below hb19)
          replace HRW := Lib.hid (HRW.out.below hb19)
          replace HWANT := Lib.hid (HWANT.out.below hb19)
          replace HZK := Lib.hid (HZK.out.below hb19)
          replace HZL := Lib.hid (HZL.out.below hb19)
          replace Q0 := Lib.hid ((hb19.block _ (row_lt Q0.out)).trans Q0.out)
          replace Q1 := Lib.hid ((hb19.block _ (row_lt Q1.out)).trans Q1.out)
          replace Q2 := Lib.hid ((hb19.block _ (row_lt Q2.out)).trans Q2.out)
          replace Q3 := Lib.hid ((hb19.block _ (row_lt Q3.out)).trans Q3.out)
          replace HB := Lib.hid (HB.out.trans (hb19.mono HB.out.size))
          clear hb19
          clear hW19 hr19 hs19
          have x0 := row_cell Q3.out (k := 0) rfl
          have x1 := row_cell Q3.out (k := 1) rfl
          have x2 := row_cell Q3.out (k := 2) rfl
          have x3 := row_cell Q3.out (k := 3) rfl
          have z0 := row_cell Q4.out (k := 0) rfl
          have z1 := row_cell Q4.out (k := 1) rfl
          have z2 := row_cell Q4.out (k := 2) rfl
          have z3 := row_cell Q4.out (k := 3) rfl
          go_wp2_with (rw [← HW19.out])
          clear HW19
          with_reducible refine (rSameKey39_yes 1 _ _ _ _ _ _ rows2 owners2 (dealC (x :: MU)) _ HR2.out HO2.out HKI.out HR2.out HO2.out HZK.out).mono ?_
          rintro e w20 ⟨rfl, hb20⟩
          clear x0 x1 x2 x3 z0 z1 z2 z3
          replace HR := Lib.hid (HR.out.below hb20)
          replace HO := Lib.hid (HO.out.below hb20)
          replace HR2 := Lib.hid (HR2.out.below hb20)
          replace HO2 := Lib.hid (HO2.out.below hb20)
          replace HM := Lib.hid (HM.out.below hb20)
          replace HWH := Lib.hid (HWH.out.below hb20)
          replace HL := Lib.hid (HL.out.below hb20)
          replace HSH := Lib.hid (HSH.out.below hb20)
          replace HCM := Lib.hid (HCM.out.below hb20)
          replace HKI := Lib.hid (HKI.out.below hb20)
          replace HLI := Lib.hid (HLI.out.below hb20)
          replace HCSS := Lib.hid (HCSS.out.below hb20)
          replace HLSS := Lib.hid (HLSS.out.below hb20)
          replace HRW := Lib.hid (HRW.out.below hb20)
          replace HWANT := Lib.hid (HWANT.out.below hb20)
          replace HZK := Lib.hid (HZK.out.below hb20)
          replace HZL := Lib.hid (HZL.out.below hb20)
          replace Q0 := Lib.hid ((hb20.block _ (row_lt Q0.out)).trans Q0.out)
          replace Q1 := Lib.hid ((hb20.block _ (row_lt Q1.out)).trans Q1.out)
          replace Q2 := Lib.hid ((hb20.block _ (row_lt Q2.out)).trans Q2.out)
          replace Q3 := Lib.hid ((hb20.block _ (row_lt Q3.out)).trans Q3.out)
          replace HB := Lib.hid (HB.out.trans (hb20.mono HB.out.size))
          clear hb20
          go_wp2_with fail
          with_reducible refine (rsame_any _ _ (selL rows2 (x :: MU) K) (selL rows2 (x :: MU) K) _ HZL.out HWANT.out.shares).mono ?_
          rintro e w21 ⟨rfl, hb21⟩
          replace HB := Lib.hid (HB.out.trans (hb21.mono HB.out.size))
          clear hb21
          rw [show sameS (selL rows2 (x :: MU) K) (selL rows2 (x :: MU) K) = true from decide_eq_true rfl]
          go_wp2_with fail
          go_ret
          exact ⟨rfl, HB.out⟩

end Go.Proofs.Ytjjoadmkpbmhpaa
