/- The reference of moving: Error, Deal, Fits, Few. -/
import Derived.Test.YtjjoadmkpbmhpaaGreatMMvN
import Derived.Test.YtjjoadmkpbmhpaaGreatMDeaV
import Derived.Test.YtjjoadmkpbmhpaaGreatMRdC
import Derived.Test.YtjjoadmkpbmhpaaGreatMRdG
import Derived.Test.YtjjoadmkpbmhpaaGreatMRzA
namespace Go.Proofs.YtjjoadmkpbmhpaaGreat
open Go.RowKit FP

/-- A call returns true or false. -/
def SomeB (w : World) (e : Ending) (w' : World) : Prop := ∃ b, e = .returned (.bool b) ∧ Below w.heap.size w w'
/-- How the reference's Deal ends. -/
def RdPost (rows2 : List (List Int)) (v : Int) (rnd : List Int) (ME : Int) (w : World) (e : Ending) (w' : World) : Prop :=
  ∃ lv kv, e = .returned (.tuple #[lv, kv, .int .i64 ME]) ∧ Shares w' lv (if ME = 0 then dealL rows2 (v :: rnd) else []) ∧ Ints w' kv (if ME = 0 then dealC (v :: rnd) else []) ∧ Below w.heap.size w w'
theorem rd_off {rows2 : List (List Int)} {v : Int} {rnd : List Int} {ME q : Int} {w w' : World} (h : ME = q) (hq : q ≠ 0) (hb : Below w.heap.size w w') : RdPost rows2 v rnd ME w (.returned (.tuple #[.slice none 0 0, .slice none 0 0, .int .i64 q])) w' := by
  subst h
  refine ⟨_, _, rfl, ?_, ?_, hb⟩
  · rw [if_neg hq]; exact Shares.nil _ _ _
  · rw [if_neg hq]; exact Ints.nil _ _ _
theorem chkE_all {rows : List (List Int)} {owners : List Int} {ep : Int} {cs : List Int} {rows2 : List (List Int)} {owners2 : List Int} (h : chkE rows owners ep cs rows2 owners2 = 0) : progE rows owners = 0 ∧ keyB rows ep cs = true ∧ comB rows cs = true ∧ progE rows2 owners2 = 0 := by
  obtain ⟨h1, h2, h3⟩ := chkE_prog h
  exact ⟨h1, h2, (keyB_ok h2).2.2, h3⟩

set_option maxRecDepth 100000 in
set_option maxHeartbeats 8000000 in
theorem rErr39_any (ep : Int) (rv ov cv rv2 ov2 : Value) (rows : List (List Int)) (owners cs : List Int) (rows2 : List (List Int)) (owners2 : List Int) (w : World) (hR : Rows2 w rv rows) (hO : Ints w ov owners) (hC : Ints w cv cs) (hR2 : Rows2 w rv2 rows2) (hO2 : Ints w ov2 owners2) :
    Calls Tryz.prog 34 #[.agg #[.int .i64 ep, rv, ov, cv], .agg #[rv2, ov2]] w fun e w' => e = .returned (.int .i64 (chkE rows owners ep cs rows2 owners2)) ∧ Below w.heap.size w w' := by
  obtain ⟨W0, hW0, hb0, hr0, hs0⟩ := box_key w (.int .i64 ep) rv ov cv 27
  obtain ⟨W1, hW1, hb1, hr1, hz1⟩ := box_prog W0 rv2 ov2 25
  have hs1 : W1.heap.size = W0.heap.size + 1 := by rw [hW1]; simp
  have t0 : Below w.heap.size w W0 := hb0
  have t1 : Below w.heap.size w W1 := t0.trans (hb1.mono t0.size)
  have Q0 := Lib.hid ((hb1.block _ (row_lt hr0)).trans hr0)
  have Q1 := Lib.hid hr1
  rw [hs0] at Q1
  have HB := Lib.hid t1
  have HR := Lib.hid (hR.below t1)
  have HO := Lib.hid (hO.below t1)
  have HC := Lib.hid (hC.below t1)
  have HR2 := Lib.hid (hR2.below t1)
  have HO2 := Lib.hid (hO2.below t1)
  obtain ⟨a1, k1, rfl, -, hl1, -⟩ := id hR
  obtain ⟨a2, k2, rfl, -, hl2, -⟩ := id hO
  obtain ⟨a3, k3, rfl, -, hl3, -⟩ := id hC
  obtain ⟨a4, k4, rfl, -, hl4, -⟩ := id hR2
  obtain ⟨a5, k5, rfl, -, hl5, -⟩ := id hO2
  rw [hW0] at hW1
  have HWB := Lib.hid hW1
  clear hW0 hb0 hr0 hs0 t0 hW1 hb1 hr1 hs1 t1 hz1
  clear hR hO hC hR2 hO2
  have p00 := row_cell Q0.out (k := 0) rfl
  have p01 := row_cell Q0.out (k := 1) rfl
  have p02 := row_cell Q0.out (k := 2) rfl
  have p03 := row_cell Q0.out (k := 3) rfl
  have p10 := row_cell Q1.out (k := 0) rfl
  have p11 := row_cell Q1.out (k := 1) rfl
  go_enter Tryz.func34, Tryz.ntmps34
  go_wp2_with (rw [← HWB.out])
  clear HWB
  with_reducible refine (rpCheck_any _ _ rows owners _ HR.out HO.out).mono ?_
  rintro e w2 ⟨rfl, hb2⟩
  replace p00 := below_cell hb2 p00
  replace p01 := below_cell hb2 p01
  replace p02 := below_cell hb2 p02
  replace p03 := below_cell hb2 p03
  replace p10 := below_cell hb2 p10
  replace p11 := below_cell hb2 p11
  replace HR := Lib.hid (HR.out.below hb2)
  replace HO := Lib.hid (HO.out.below hb2)
  replace HC := Lib.hid (HC.out.below hb2)
  replace HR2 := Lib.hid (HR2.out.below hb2)
  replace HO2 := Lib.hid (HO2.out.below hb2)
  replace Q0 := Lib.hid ((hb2.block _ (row_lt Q0.out)).trans Q0.out)
  replace Q1 := Lib.hid ((hb2.block _ (row_lt Q1.out)).trans Q1.out)
  replace HB := Lib.hid (HB.out.trans (hb2.mono HB.out.size))
  clear hb2
  by_cases hp : progE rows owners = 0
  rotate_left
  · have HV : Hid (chkE rows owners ep cs rows2 owners2 = progE rows owners) := Lib.hid (by unfold chkE; rw [if_pos hp])
    have d0 : (progE rows owners != 0) = true := bne_iff_ne.2 hp
    clear hp
    generalize progE rows owners = q at *
    go_wp2_with fail
    go_ret
    exact ⟨by rw [HV.out]; rfl, HB.out⟩
  have HCQ := Lib.hid (progE_ok hp).cols_le
  have HE : Hid (chkE rows owners ep cs rows2 owners2 = if keyB rows ep cs = false then 380 else progE rows2 owners2) := Lib.hid (by unfold chkE; rw [if_neg (by simp [hp])])
  rw [hp]
  clear hp
  go_wp2_with fail
  with_reducible refine (rkey_any ep _ _ _ rows owners cs _ HR.out HO.out HC.out HCQ.out).mono ?_
  rintro e w3 ⟨rfl, hb3⟩
  replace p00 := below_cell hb3 p00
  replace p01 := below_cell hb3 p01
  replace p02 := below_cell hb3 p02
  replace p03 := below_cell hb3 p03
  replace p10 := below_cell hb3 p10
  replace p11 := below_cell hb3 p11
  replace HR := Lib.hid (HR.out.below hb3)
  replace HO := Lib.hid (HO.out.below hb3)
  replace HC := Lib.hid (HC.out.below hb3)
  replace HR2 := Lib.hid (HR2.out.below hb3)
  replace HO2 := Lib.hid (HO2.out.below hb3)
  replace Q0 := Lib.hid ((hb3.block _ (row_lt Q0.out)).trans Q0.out)
  replace Q1 := Lib.hid ((hb3.block _ (row_lt Q1.out)).trans Q1.out)
  replace HB := Lib.hid (HB.out.trans (hb3.mono HB.out.size))
  clear hb3
  cases hk : keyB rows ep cs with
  | false =>
    have HV : Hid (chkE rows owners ep cs rows2 owners2 = 380) := Lib.hid (by rw [HE.out, hk]; rfl)
    clear hk
    go_wp2_with fail
    go_ret
    exact ⟨by rw [HV.out]; rfl, HB.out⟩
  | true =>
  have HV : Hid (chkE rows owners ep cs rows2 owners2 = progE rows2 owners2) := Lib.hid (by rw [HE.out, hk]; rfl)
  clear hk
  go_wp2_with fail
  with_reducible refine (rpCheck_any _ _ rows2 owners2 _ HR2.out HO2.out).mono ?_
  rintro e w4 ⟨rfl, hb4⟩
  replace HB := Lib.hid (HB.out.trans (hb4.mono HB.out.size))
  go_wp2_with fail
  go_ret
  exact ⟨by rw [HV.out]; rfl, HB.out⟩

set_option maxRecDepth 100000 in
set_option maxHeartbeats 8000000 in
theorem rDeal39_any (ep : Int) (rv ov cv rv2 ov2 : Value) (mv : Value) (r v : Int) (rows : List (List Int)) (owners cs : List Int) (rows2 : List (List Int)) (owners2 : List Int) (rnd : List Int) (w : World) (hR : Rows2 w rv rows) (hO : Ints w ov owners) (hC : Ints w cv cs) (hR2 : Rows2 w rv2 rows2) (hO2 : Ints w ov2 owners2) (hM : Ints w mv rnd) (hr : R64 r) (hv : R64 v) :
    Calls Tryz.prog 10 #[.agg #[.int .i64 ep, rv, ov, cv], .agg #[rv2, ov2], .agg #[.int .i64 r, .int .i64 v], mv] w (RdPost rows2 v rnd (mdE rows owners ep cs rows2 owners2 r v rnd) w) := by
  obtain ⟨ME, hME⟩ : ∃ x, x = mdE rows owners ep cs rows2 owners2 r v rnd := ⟨_, rfl⟩
  rw [← hME]
  have HME := Lib.hid hME
  have HRR := Lib.hid hr
  have HVV := Lib.hid hv
  clear hME hr hv
  obtain ⟨W0, hW0, hb0, hr0, hs0⟩ := box_key w (.int .i64 ep) rv ov cv 27
  obtain ⟨W1, hW1, hb1, hr1, hz1⟩ := box_prog W0 rv2 ov2 25
  have hs1 : W1.heap.size = W0.heap.size + 1 := by rw [hW1]; simp
  obtain ⟨W2, hW2, hb2, hr2, hz2⟩ := box_prog W1 (.int .i64 r) (.int .i64 v) 29
  have hs2 : W2.heap.size = W1.heap.size + 1 := by rw [hW2]; simp
  have t0 : Below w.heap.size w W0 := hb0
  have t1 : Below w.heap.size w W1 := t0.trans (hb1.mono t0.size)
  have t2 : Below w.heap.size w W2 := t1.trans (hb2.mono t1.size)
  have Q0 := Lib.hid ((hb2.block _ (row_lt ((hb1.block _ (row_lt hr0)).trans hr0))).trans ((hb1.block _ (row_lt hr0)).trans hr0))
  have Q1 := Lib.hid ((hb2.block _ (row_lt hr1)).trans hr1)
  have Q2 := Lib.hid hr2
  rw [hs0] at Q1
  rw [hs1, hs0] at Q2
  have HB := Lib.hid t2
  have HR := Lib.hid (hR.below t2)
  have HO := Lib.hid (hO.below t2)
  have HC := Lib.hid (hC.below t2)
  have HR2 := Lib.hid (hR2.below t2)
  have HO2 := Lib.hid (hO2.below t2)
  have HM := Lib.hid (hM.below t2)
  obtain ⟨a1, k1, rfl, -, hl1, -⟩ := id hR
  obtain ⟨a2, k2, rfl, -, hl2, -⟩ := id hO
  obtain ⟨a3, k3, rfl, -, hl3, -⟩ := id hC
  obtain ⟨a4, k4, rfl, -, hl4, -⟩ := id hR2
  obtain ⟨a5, k5, rfl, -, hl5, -⟩ := id hO2
  obtain ⟨a6, k6, rfl, -, hl6, -⟩ := id hM
  rw [hW1, hW0] at hW2
  have HWB := Lib.hid hW2
  clear hW0 hb0 hr0 hs0 t0 hW1 hb1 hr1 hs1 t1 hW2 hb2 hr2 hs2 t2 hz1 hz2
  clear hR hO hC hR2 hO2 hM
  have p00 := row_cell Q0.out (k := 0) rfl
  have p01 := row_cell Q0.out (k := 1) rfl
  have p02 := row_cell Q0.out (k := 2) rfl
  have p03 := row_cell Q0.out (k := 3) rfl
  have p10 := row_cell Q1.out (k := 0) rfl
  have p11 := row_cell Q1.out (k := 1) rfl
  have p20 := row_cell Q2.out (k := 0) rfl
  have p21 := row_cell Q2.out (k := 1) rfl
  go_enter Tryz.func10, Tryz.ntmps10
  go_wp2_with (rw [← HWB.out])
  clear HWB
  with_reducible refine (rErr39_any ep _ _ _ _ _ rows owners cs rows2 owners2 _ HR.out HO.out HC.out HR2.out HO2.out).mono ?_
  rintro e w2 ⟨rfl, hb2⟩
  replace p00 := below_cell hb2 p00
  replace p01 := below_cell hb2 p01
  replace p02 := below_cell hb2 p02
  replace p03 := below_cell hb2 p03
  replace p10 := below_cell hb2 p10
  replace p11 := below_cell hb2 p11
  replace p20 := below_cell hb2 p20
  replace p21 := below_cell hb2 p21
  replace HR := Lib.hid (HR.out.below hb2)
  replace HO := Lib.hid (HO.out.below hb2)
  replace HC := Lib.hid (HC.out.below hb2)
  replace HR2 := Lib.hid (HR2.out.below hb2)
  replace HO2 := Lib.hid (HO2.out.below hb2)
  replace HM := Lib.hid (HM.out.below hb2)
  replace Q0 := Lib.hid ((hb2.block _ (row_lt Q0.out)).trans Q0.out)
  replace Q1 := Lib.hid ((hb2.block _ (row_lt Q1.out)).trans Q1.out)
  replace Q2 := Lib.hid ((hb2.block _ (row_lt Q2.out)).trans Q2.out)
  replace HB := Lib.hid (HB.out.trans (hb2.mono HB.out.size))
  clear hb2
  by_cases hc : chkE rows owners ep cs rows2 owners2 = 0
  rotate_left
  · have HV : Hid (ME = chkE rows owners ep cs rows2 owners2) := Lib.hid (by rw [HME.out]; unfold mdE; rw [if_pos hc])
    have d0 : (chkE rows owners ep cs rows2 owners2 != 0) = true := bne_iff_ne.2 hc
    have HNZ := Lib.hid hc
    clear hc HME
    generalize chkE rows owners ep cs rows2 owners2 = q at *
    go_wp2_with fail
    go_ret3
    exact rd_off HV.out HNZ.out HB.out
  have HE : Hid (ME = if fitB rows owners cs r v = false then 340 else dealE rows2 owners2 v rnd) := Lib.hid (by rw [HME.out]; unfold mdE; rw [if_neg (by simp [hc])])
  rw [hc]
  clear hc HME
  go_wp2_with fail
  with_reducible refine (rFits_any _ _ _ rows owners cs r v _ HR.out HO.out HC.out HRR.out HVV.out).mono ?_
  rintro e w3 ⟨rfl, hb3⟩
  replace p00 := below_cell hb3 p00
  replace p01 := below_cell hb3 p01
  replace p02 := below_cell hb3 p02
  replace p03 := below_cell hb3 p03
  replace p10 := below_cell hb3 p10
  replace p11 := below_cell hb3 p11
  replace p20 := below_cell hb3 p20
  replace p21 := below_cell hb3 p21
  replace HR := Lib.hid (HR.out.below hb3)
  replace HO := Lib.hid (HO.out.below hb3)
  replace HC := Lib.hid (HC.out.below hb3)
  replace HR2 := Lib.hid (HR2.out.below hb3)
  replace HO2 := Lib.hid (HO2.out.below hb3)
  replace HM := Lib.hid (HM.out.below hb3)
  replace Q0 := Lib.hid ((hb3.block _ (row_lt Q0.out)).trans Q0.out)
  replace Q1 := Lib.hid ((hb3.block _ (row_lt Q1.out)).trans Q1.out)
  replace Q2 := Lib.hid ((hb3.block _ (row_lt Q2.out)).trans Q2.out)
  replace HB := Lib.hid (HB.out.trans (hb3.mono HB.out.size))
  clear hb3
  by_cases hfe : fitE rows owners cs r v = 0
  rotate_left
  · have HV : Hid (ME = 340) := Lib.hid (by rw [HE.out, if_pos (fitB_err hfe)])
    have d0 : (fitE rows owners cs r v != 0) = true := bne_iff_ne.2 hfe
    clear hfe HE
    generalize fitE rows owners cs r v = q at *
    generalize fitB rows owners cs r v = b at *
    go_wp2_with fail
    go_ret3
    exact rd_off HV.out (by decide) HB.out
  rw [hfe]
  clear hfe
  cases hfb : fitB rows owners cs r v with
  | false =>
    have HV : Hid (ME = 340) := Lib.hid (by rw [HE.out, if_pos hfb])
    clear hfb HE
    go_wp2_with fail
    go_ret3
    exact rd_off HV.out (by decide) HB.out
  | true =>
  have HV : Hid (ME = dealE rows2 owners2 v rnd) := Lib.hid (by rw [HE.out, if_neg (by simp [hfb])])
  clear hfb HE
  go_wp2_with fail
  with_reducible refine (rDeal_any _ _ _ rows2 owners2 v rnd _ HR2.out HO2.out HM.out).mono ?_
  rintro e w4 ⟨l2, c2, rfl, hl, hc2, hb4⟩
  rw [← HV.out] at hl hc2 ⊢
  have HL := Lib.hid hl
  have HCC := Lib.hid hc2
  clear hl hc2
  replace HB := Lib.hid (HB.out.trans (hb4.mono HB.out.size))
  go_wp2_with fail
  go_ret3
  exact ⟨_, _, rfl, HL.out, HCC.out, HB.out⟩

set_option maxRecDepth 100000 in
set_option maxHeartbeats 8000000 in
theorem rfits39_any (ep : Int) (rv ov cv rv2 ov2 : Value) (lv : Value) (row : Int) (rows : List (List Int)) (owners cs : List Int) (rows2 : List (List Int)) (owners2 : List Int) (c : List Int) (w : World) (hR : Rows2 w rv rows) (hO : Ints w ov owners) (hC : Ints w cv cs) (hR2 : Rows2 w rv2 rows2) (hO2 : Ints w ov2 owners2) (hL : Ints w lv c) (hr : R64 row) (hp2 : progE rows2 owners2 = 0) (hE : pubE rows owners cs row = 0) :
    Calls Tryz.prog 40 #[.agg #[.int .i64 ep, rv, ov, cv], .agg #[rv2, ov2], .int .i64 row, lv] w fun e w' => e = .returned (.bool (fitM rows owners cs rows2 row c)) ∧ Below w.heap.size w w' := by
  have HP2 := Lib.hid (progE_ok hp2)
  have HRR := Lib.hid hr
  have HF : Hid (fitM rows owners cs rows2 row c = (comB rows2 c && nth c 0 == pubR rows owners cs row)) := Lib.hid (by unfold fitM; rw [hE, decide_eq_true rfl, Bool.true_and])
  clear hp2 hr hE
  obtain ⟨W0, hW0, hb0, hr0, hs0⟩ := box_key w (.int .i64 ep) rv ov cv 27
  obtain ⟨W1, hW1, hb1, hr1, hz1⟩ := box_prog W0 rv2 ov2 25
  have hs1 : W1.heap.size = W0.heap.size + 1 := by rw [hW1]; simp
  have t0 : Below w.heap.size w W0 := hb0
  have t1 : Below w.heap.size w W1 := t0.trans (hb1.mono t0.size)
  have Q0 := Lib.hid ((hb1.block _ (row_lt hr0)).trans hr0)
  have Q1 := Lib.hid hr1
  rw [hs0] at Q1
  have HB := Lib.hid t1
  have HR := Lib.hid (hR.below t1)
  have HO := Lib.hid (hO.below t1)
  have HC := Lib.hid (hC.below t1)
  have HR2 := Lib.hid (hR2.below t1)
  have HO2 := Lib.hid (hO2.below t1)
  have HL := Lib.hid (hL.below t1)
  obtain ⟨a1, k1, rfl, -, hl1, -⟩ := id hR
  obtain ⟨a2, k2, rfl, -, hl2, -⟩ := id hO
  obtain ⟨a3, k3, rfl, -, hl3, -⟩ := id hC
  obtain ⟨a4, k4, rfl, -, hl4, -⟩ := id hR2
  obtain ⟨a5, k5, rfl, -, hl5, -⟩ := id hO2
  obtain ⟨a6, k6, rfl, -, hl6, -⟩ := id hL
  rw [hW0] at hW1
  have HWB := Lib.hid hW1
  clear hW0 hb0 hr0 hs0 t0 hW1 hb1 hr1 hs1 t1 hz1
  clear hR hO hC hR2 hO2 hL
  have p00 := row_cell Q0.out (k := 0) rfl
  have p01 := row_cell Q0.out (k := 1) rfl
  have p02 := row_cell Q0.out (k := 2) rfl
  have p03 := row_cell Q0.out (k := 3) rfl
  have p10 := row_cell Q1.out (k := 0) rfl
  have p11 := row_cell Q1.out (k := 1) rfl
  go_enter Tryz.func40, Tryz.ntmps40
  go_wp2_with (rw [← HWB.out])
  clear HWB
  with_reducible refine (rPublic_any _ _ _ rows owners cs row _ HR.out HO.out HC.out HRR.out).mono ?_
  rintro e w2 ⟨rfl, hb2⟩
  replace p00 := below_cell hb2 p00
  replace p01 := below_cell hb2 p01
  replace p02 := below_cell hb2 p02
  replace p03 := below_cell hb2 p03
  replace p10 := below_cell hb2 p10
  replace p11 := below_cell hb2 p11
  replace HR := Lib.hid (HR.out.below hb2)
  replace HO := Lib.hid (HO.out.below hb2)
  replace HC := Lib.hid (HC.out.below hb2)
  replace HR2 := Lib.hid (HR2.out.below hb2)
  replace HO2 := Lib.hid (HO2.out.below hb2)
  replace HL := Lib.hid (HL.out.below hb2)
  replace Q0 := Lib.hid ((hb2.block _ (row_lt Q0.out)).trans Q0.out)
  replace Q1 := Lib.hid ((hb2.block _ (row_lt Q1.out)).trans Q1.out)
  replace HB := Lib.hid (HB.out.trans (hb2.mono HB.out.size))
  clear hb2
  go_wp2_with fail
  with_reducible refine (rcommits_any _ _ _ rows2 owners2 c _ HR2.out HO2.out HL.out HP2.out.cols_le).mono ?_
  rintro e w3 ⟨rfl, hb3⟩
  replace p00 := below_cell hb3 p00
  replace p01 := below_cell hb3 p01
  replace p02 := below_cell hb3 p02
  replace p03 := below_cell hb3 p03
  replace p10 := below_cell hb3 p10
  replace p11 := below_cell hb3 p11
  replace HR := Lib.hid (HR.out.below hb3)
  replace HO := Lib.hid (HO.out.below hb3)
  replace HC := Lib.hid (HC.out.below hb3)
  replace HR2 := Lib.hid (HR2.out.below hb3)
  replace HO2 := Lib.hid (HO2.out.below hb3)
  replace HL := Lib.hid (HL.out.below hb3)
  replace Q0 := Lib.hid ((hb3.block _ (row_lt Q0.out)).trans Q0.out)
  replace Q1 := Lib.hid ((hb3.block _ (row_lt Q1.out)).trans Q1.out)
  replace HB := Lib.hid (HB.out.trans (hb3.mono HB.out.size))
  clear hb3
  cases hcb : comB rows2 c with
  | false =>
    have HV : Hid (fitM rows owners cs rows2 row c = false) := Lib.hid (by rw [HF.out, hcb]; rfl)
    clear hcb
    go_wp2_with fail
    go_ret
    exact ⟨by rw [HV.out]; rfl, HB.out⟩
  | true =>
  have HV : Hid (fitM rows owners cs rows2 row c = (nth c 0 == pubR rows owners cs row)) := Lib.hid (by rw [HF.out, hcb]; rfl)
  have hlen := (comB_col hcb HP2.out.cols).1
  clear hcb
  obtain ⟨-, b6, o6, n6, c6, e6, q6⟩ := HL.out.get (k := 0) (by omega)
  simp only [Value.slice.injEq] at e6
  obtain ⟨rfl, -, -⟩ := e6
  rw [Nat.add_zero] at q6
  have i0 : (0 : Int) < (c.length : Int) := by omega
  generalize pubR rows owners cs row = q at *
  generalize nth c 0 = z at *
  go_wp2_with fail
  go_ret
  exact ⟨by rw [HV.out]; rfl, HB.out⟩

set_option maxRecDepth 100000 in
set_option maxHeartbeats 8000000 in
theorem rFits39_any (ep : Int) (rv ov cv rv2 ov2 : Value) (lv : Value) (row : Int) (rows : List (List Int)) (owners cs : List Int) (rows2 : List (List Int)) (owners2 : List Int) (c : List Int) (w : World) (hR : Rows2 w rv rows) (hO : Ints w ov owners) (hC : Ints w cv cs) (hR2 : Rows2 w rv2 rows2) (hO2 : Ints w ov2 owners2) (hL : Ints w lv c) (hr : R64 row) :
    Calls Tryz.prog 12 #[.agg #[.int .i64 ep, rv, ov, cv], .agg #[rv2, ov2], .int .i64 row, lv] w (MfPost (mfE rows owners ep cs rows2 owners2 row c) (mfB rows owners ep cs rows2 owners2 row c) w) := by
  have HRR := Lib.hid hr
  have HMB : Hid (mfB rows owners ep cs rows2 owners2 row c = (decide (mfE rows owners ep cs rows2 owners2 row c = 0) && fitM rows owners cs rows2 row c)) := Lib.hid rfl
  obtain ⟨ME, hME⟩ : ∃ x, x = mfE rows owners ep cs rows2 owners2 row c := ⟨_, rfl⟩
  rw [← hME] at HMB ⊢
  have HME := Lib.hid hME
  obtain ⟨MB, hMB⟩ : ∃ x, x = mfB rows owners ep cs rows2 owners2 row c := ⟨_, rfl⟩
  rw [← hMB] at HMB ⊢
  clear hME hMB hr
  obtain ⟨W0, hW0, hb0, hr0, hs0⟩ := box_key w (.int .i64 ep) rv ov cv 27
  obtain ⟨W1, hW1, hb1, hr1, hz1⟩ := box_prog W0 rv2 ov2 25
  have hs1 : W1.heap.size = W0.heap.size + 1 := by rw [hW1]; simp
  have t0 : Below w.heap.size w W0 := hb0
  have t1 : Below w.heap.size w W1 := t0.trans (hb1.mono t0.size)
  have Q0 := Lib.hid ((hb1.block _ (row_lt hr0)).trans hr0)
  have Q1 := Lib.hid hr1
  rw [hs0] at Q1
  have HB := Lib.hid t1
  have HR := Lib.hid (hR.below t1)
  have HO := Lib.hid (hO.below t1)
  have HC := Lib.hid (hC.below t1)
  have HR2 := Lib.hid (hR2.below t1)
  have HO2 := Lib.hid (hO2.below t1)
  have HL := Lib.hid (hL.below t1)
  obtain ⟨a1, k1, rfl, -, hl1, -⟩ := id hR
  obtain ⟨a2, k2, rfl, -, hl2, -⟩ := id hO
  obtain ⟨a3, k3, rfl, -, hl3, -⟩ := id hC
  obtain ⟨a4, k4, rfl, -, hl4, -⟩ := id hR2
  obtain ⟨a5, k5, rfl, -, hl5, -⟩ := id hO2
  obtain ⟨a6, k6, rfl, -, hl6, -⟩ := id hL
  rw [hW0] at hW1
  have HWB := Lib.hid hW1
  clear hW0 hb0 hr0 hs0 t0 hW1 hb1 hr1 hs1 t1 hz1
  clear hR hO hC hR2 hO2 hL
  have p00 := row_cell Q0.out (k := 0) rfl
  have p01 := row_cell Q0.out (k := 1) rfl
  have p02 := row_cell Q0.out (k := 2) rfl
  have p03 := row_cell Q0.out (k := 3) rfl
  have p10 := row_cell Q1.out (k := 0) rfl
  have p11 := row_cell Q1.out (k := 1) rfl
  go_enter Tryz.func12, Tryz.ntmps12
  go_wp2_with (rw [← HWB.out])
  clear HWB
  with_reducible refine (rErr39_any ep _ _ _ _ _ rows owners cs rows2 owners2 _ HR.out HO.out HC.out HR2.out HO2.out).mono ?_
  rintro e w2 ⟨rfl, hb2⟩
  replace p00 := below_cell hb2 p00
  replace p01 := below_cell hb2 p01
  replace p02 := below_cell hb2 p02
  replace p03 := below_cell hb2 p03
  replace p10 := below_cell hb2 p10
  replace p11 := below_cell hb2 p11
  replace HR := Lib.hid (HR.out.below hb2)
  replace HO := Lib.hid (HO.out.below hb2)
  replace HC := Lib.hid (HC.out.below hb2)
  replace HR2 := Lib.hid (HR2.out.below hb2)
  replace HO2 := Lib.hid (HO2.out.below hb2)
  replace HL := Lib.hid (HL.out.below hb2)
  replace Q0 := Lib.hid ((hb2.block _ (row_lt Q0.out)).trans Q0.out)
  replace Q1 := Lib.hid ((hb2.block _ (row_lt Q1.out)).trans Q1.out)
  replace HB := Lib.hid (HB.out.trans (hb2.mono HB.out.size))
  clear hb2
  by_cases hc : chkE rows owners ep cs rows2 owners2 = 0
  rotate_left
  · have HV : Hid (ME = chkE rows owners ep cs rows2 owners2) := Lib.hid (by rw [HME.out]; unfold mfE; rw [if_pos hc])
    have d0 : (chkE rows owners ep cs rows2 owners2 != 0) = true := bne_iff_ne.2 hc
    have HNZ := Lib.hid hc
    clear hc HME
    generalize chkE rows owners ep cs rows2 owners2 = q at *
    have HBF : Hid (MB = false) := Lib.hid (by rw [HMB.out, HV.out, decide_eq_false HNZ.out]; rfl)
    go_wp2_with fail
    go_ret2
    exact ⟨by rw [HV.out, HBF.out]; rfl, HB.out⟩
  have HE : Hid (ME = if row < 0 ∨ (rows.length : Int) ≤ row then 1 else if comB rows2 c = false then 340 else 0) := Lib.hid (by rw [HME.out]; unfold mfE; rw [if_neg (by simp [hc])])
  have HALL := Lib.hid (chkE_all hc)
  rw [hc]
  clear hc HME
  by_cases h0 : row < 0
  · have HV : Hid (ME = 1) := Lib.hid (by rw [HE.out, if_pos (.inl h0)])
    have d1 : decide (row < 0) = true := decide_eq_true h0
    clear h0 HE
    have HBF : Hid (MB = false) := Lib.hid (by rw [HMB.out, HV.out, decide_eq_false (by decide)]; rfl)
    go_wp2_with fail
    go_ret2
    exact ⟨by rw [HV.out, HBF.out]; rfl, HB.out⟩
  have d1 : decide (row < 0) = false := decide_eq_false h0
  by_cases h1 : (rows.length : Int) ≤ row
  · have HV : Hid (ME = 1) := Lib.hid (by rw [HE.out, if_pos (.inr h1)])
    have d2 : decide ((rows.length : Int) ≤ row) = true := decide_eq_true h1
    clear h0 h1 HE
    have HBF : Hid (MB = false) := Lib.hid (by rw [HMB.out, HV.out, decide_eq_false (by decide)]; rfl)
    go_wp2_with fail
    go_ret2
    exact ⟨by rw [HV.out, HBF.out]; rfl, HB.out⟩
  have d2 : decide ((rows.length : Int) ≤ row) = false := decide_eq_false h1
  have HE2 : Hid (ME = if comB rows2 c = false then 340 else 0) := Lib.hid (by rw [HE.out, if_neg (by omega)])
  have HPE : Hid (pubE rows owners cs row = 0) := Lib.hid (by unfold pubE; rw [if_neg (by rw [comB_dchk HALL.out.1 HALL.out.2.2.1]; decide), if_neg (by omega)])
  clear h0 h1 HE
  go_wp2_with fail
  clear d1 d2
  with_reducible refine (rcommits_any _ _ _ rows2 owners2 c _ HR2.out HO2.out HL.out (progE_ok HALL.out.2.2.2).cols_le).mono ?_
  rintro e w3 ⟨rfl, hb3⟩
  replace p00 := below_cell hb3 p00
  replace p01 := below_cell hb3 p01
  replace p02 := below_cell hb3 p02
  replace p03 := below_cell hb3 p03
  replace p10 := below_cell hb3 p10
  replace p11 := below_cell hb3 p11
  replace HR := Lib.hid (HR.out.below hb3)
  replace HO := Lib.hid (HO.out.below hb3)
  replace HC := Lib.hid (HC.out.below hb3)
  replace HR2 := Lib.hid (HR2.out.below hb3)
  replace HO2 := Lib.hid (HO2.out.below hb3)
  replace HL := Lib.hid (HL.out.below hb3)
  replace Q0 := Lib.hid ((hb3.block _ (row_lt Q0.out)).trans Q0.out)
  replace Q1 := Lib.hid ((hb3.block _ (row_lt Q1.out)).trans Q1.out)
  replace HB := Lib.hid (HB.out.trans (hb3.mono HB.out.size))
  clear hb3
  cases hcb : comB rows2 c with
  | false =>
    have HV : Hid (ME = 340) := Lib.hid (by rw [HE2.out, if_pos hcb])
    clear hcb HE2
    have HBF : Hid (MB = false) := Lib.hid (by rw [HMB.out, HV.out, decide_eq_false (by decide)]; rfl)
    go_wp2_with fail
    go_ret2
    exact ⟨by rw [HV.out, HBF.out]; rfl, HB.out⟩
  | true =>
  have HV : Hid (ME = 0) := Lib.hid (by rw [HE2.out, if_neg (by simp [hcb])])
  clear hcb HE2
  go_wp2_with fail
  with_reducible refine (rfits39_any ep _ _ _ _ _ _ row rows owners cs rows2 owners2 c _ HR.out HO.out HC.out HR2.out HO2.out HL.out HRR.out HALL.out.2.2.2 HPE.out).mono ?_
  rintro e w4 ⟨rfl, hb4⟩
  replace HB := Lib.hid (HB.out.trans (hb4.mono HB.out.size))
  have HBF : Hid (MB = fitM rows owners cs rows2 row c) := Lib.hid (by rw [HMB.out, HV.out]; rfl)
  generalize fitM rows owners cs rows2 row c = q at *
  go_wp2_with fail
  go_ret2
  exact ⟨by rw [HV.out, HBF.out]; rfl, HB.out⟩

set_option maxRecDepth 100000 in
set_option maxHeartbeats 8000000 in
theorem few39_any (ep : Int) (rv ov cv rv2 ov2 : Value) (mv lv : Value) (rows : List (List Int)) (owners cs : List Int) (rows2 : List (List Int)) (owners2 : List Int) (css : List (List Int)) (ls : List (List (Int × Int))) (w : World) (hR : Rows2 w rv rows) (hO : Ints w ov owners) (hC : Ints w cv cs) (hR2 : Rows2 w rv2 rows2) (hO2 : Ints w ov2 owners2) (hM : Rows2 w mv css) (hL : SRows w lv ls) :
    Calls Tryz.prog 8 #[.agg #[.int .i64 ep, rv, ov, cv], .agg #[rv2, ov2], mv, lv] w (SomeB w) := by
  obtain ⟨W0, hW0, hb0, hr0, hs0⟩ := box_key w (.int .i64 ep) rv ov cv 27
  obtain ⟨W1, hW1, hb1, hr1, hz1⟩ := box_prog W0 rv2 ov2 25
  have hs1 : W1.heap.size = W0.heap.size + 1 := by rw [hW1]; simp
  have t0 : Below w.heap.size w W0 := hb0
  have t1 : Below w.heap.size w W1 := t0.trans (hb1.mono t0.size)
  have Q0 := Lib.hid ((hb1.block _ (row_lt hr0)).trans hr0)
  have Q1 := Lib.hid hr1
  rw [hs0] at Q1
  have HB := Lib.hid t1
  have HR := Lib.hid (hR.below t1)
  have HO := Lib.hid (hO.below t1)
  have HC := Lib.hid (hC.below t1)
  have HR2 := Lib.hid (hR2.below t1)
  have HO2 := Lib.hid (hO2.below t1)
  have HM := Lib.hid (hM.below t1)
  have HL := Lib.hid (hL.below t1)
  obtain ⟨a1, k1, rfl, -, hl1, -⟩ := id hR
  obtain ⟨a2, k2, rfl, -, hl2, -⟩ := id hO
  obtain ⟨a3, k3, rfl, -, hl3, -⟩ := id hC
  obtain ⟨a4, k4, rfl, -, hl4, -⟩ := id hR2
  obtain ⟨a5, k5, rfl, -, hl5, -⟩ := id hO2
  obtain ⟨a6, k6, rfl, -, hl6, -⟩ := id hM
  obtain ⟨a7, k7, rfl, -, hl7, -⟩ := id hL
  rw [hW0] at hW1
  have HWB := Lib.hid hW1
  clear hW0 hb0 hr0 hs0 t0 hW1 hb1 hr1 hs1 t1 hz1
  clear hR hO hC hR2 hO2 hM hL
  have p00 := row_cell Q0.out (k := 0) rfl
  have p01 := row_cell Q0.out (k := 1) rfl
  have p02 := row_cell Q0.out (k := 2) rfl
  have p03 := row_cell Q0.out (k := 3) rfl
  have p10 := row_cell Q1.out (k := 0) rfl
  have p11 := row_cell Q1.out (k := 1) rfl
  go_enter Tryz.func8, Tryz.ntmps8
  go_wp2_with (rw [← HWB.out])
  clear HWB
  with_reducible refine (rfew_any _ _ rows owners _ HR.out HO.out).mono ?_
  rintro e w2 ⟨b1, rfl, hb2⟩
  replace p00 := below_cell hb2 p00
  replace p01 := below_cell hb2 p01
  replace p02 := below_cell hb2 p02
  replace p03 := below_cell hb2 p03
  replace p10 := below_cell hb2 p10
  replace p11 := below_cell hb2 p11
  replace HR := Lib.hid (HR.out.below hb2)
  replace HO := Lib.hid (HO.out.below hb2)
  replace HC := Lib.hid (HC.out.below hb2)
  replace HR2 := Lib.hid (HR2.out.below hb2)
  replace HO2 := Lib.hid (HO2.out.below hb2)
  replace HM := Lib.hid (HM.out.below hb2)
  replace HL := Lib.hid (HL.out.below hb2)
  replace Q0 := Lib.hid ((hb2.block _ (row_lt Q0.out)).trans Q0.out)
  replace Q1 := Lib.hid ((hb2.block _ (row_lt Q1.out)).trans Q1.out)
  replace HB := Lib.hid (HB.out.trans (hb2.mono HB.out.size))
  clear hb2
  cases b1 with
  | false =>
    go_wp2_with fail
    go_ret
    exact ⟨_, rfl, HB.out⟩
  | true =>
  go_wp2_with fail
  with_reducible refine (rfew_any _ _ rows2 owners2 _ HR2.out HO2.out).mono ?_
  rintro e w3 ⟨b2, rfl, hb3⟩
  replace p00 := below_cell hb3 p00
  replace p01 := below_cell hb3 p01
  replace p02 := below_cell hb3 p02
  replace p03 := below_cell hb3 p03
  replace p10 := below_cell hb3 p10
  replace p11 := below_cell hb3 p11
  replace HR := Lib.hid (HR.out.below hb3)
  replace HO := Lib.hid (HO.out.below hb3)
  replace HC := Lib.hid (HC.out.below hb3)
  replace HR2 := Lib.hid (HR2.out.below hb3)
  replace HO2 := Lib.hid (HO2.out.below hb3)
  replace HM := Lib.hid (HM.out.below hb3)
  replace HL := Lib.hid (HL.out.below hb3)
  replace Q0 := Lib.hid ((hb3.block _ (row_lt Q0.out)).trans Q0.out)
  replace Q1 := Lib.hid ((hb3.block _ (row_lt Q1.out)).trans Q1.out)
  replace HB := Lib.hid (HB.out.trans (hb3.mono HB.out.size))
  clear hb3
  cases b2 with
  | false =>
    go_wp2_with fail
    go_ret
    exact ⟨_, rfl, HB.out⟩
  | true =>
  by_cases g1 : 80 < cs.length
  · have d1 : decide ((80 : Int) < (cs.length : Int)) = true := decide_eq_true (by omega)
    have d2 : decide (80 < cs.length) = true := decide_eq_true g1
    go_wp2_with fail
    go_ret
    exact ⟨_, rfl, HB.out⟩
  have d1g1 : decide ((80 : Int) < (cs.length : Int)) = false := decide_eq_false (by omega)
  have d2g1 : decide (80 < cs.length) = false := decide_eq_false g1
  by_cases g2 : 80 < css.length
  · have d1 : decide ((80 : Int) < (css.length : Int)) = true := decide_eq_true (by omega)
    have d2 : decide (80 < css.length) = true := decide_eq_true g2
    go_wp2_with fail
    go_ret
    exact ⟨_, rfl, HB.out⟩
  have d1g2 : decide ((80 : Int) < (css.length : Int)) = false := decide_eq_false (by omega)
  have d2g2 : decide (80 < css.length) = false := decide_eq_false g2
  by_cases g3 : 80 < ls.length
  · have d1 : decide ((80 : Int) < (ls.length : Int)) = true := decide_eq_true (by omega)
    have d2 : decide (80 < ls.length) = true := decide_eq_true g3
    go_wp2_with fail
    go_ret
    exact ⟨_, rfl, HB.out⟩
  have d1g3 : decide ((80 : Int) < (ls.length : Int)) = false := decide_eq_false (by omega)
  have d2g3 : decide (80 < ls.length) = false := decide_eq_false g3
  go_wp2_with fail
  obtain ⟨wl, hwl⟩ : ∃ x, x = w3 := ⟨_, rfl⟩
  subst hwl
  go_loopw [9] (fun i V => ∃ k : Nat, k ≤ css.length ∧ i = .int .i64 k ∧ Hid (Below wl.heap.size wl V)) (fun i _ => css.length - (intOf i).toNat)
  case atStart => exact ⟨0, Nat.zero_le _, rfl, Lib.hid (Below.refl _ _)⟩
  case round =>
    obtain ⟨k, hkl, rfl, HBW⟩ := hrel
    replace p00 := below_cell HBW.out p00
    replace p01 := below_cell HBW.out p01
    replace p02 := below_cell HBW.out p02
    replace p03 := below_cell HBW.out p03
    replace p10 := below_cell HBW.out p10
    replace p11 := below_cell HBW.out p11
    replace HR := Lib.hid (HR.out.below HBW.out)
    replace HO := Lib.hid (HO.out.below HBW.out)
    replace HC := Lib.hid (HC.out.below HBW.out)
    replace HR2 := Lib.hid (HR2.out.below HBW.out)
    replace HO2 := Lib.hid (HO2.out.below HBW.out)
    replace HM := Lib.hid (HM.out.below HBW.out)
    replace HL := Lib.hid (HL.out.below HBW.out)
    replace Q0 := Lib.hid ((HBW.out.block _ (row_lt Q0.out)).trans Q0.out)
    replace Q1 := Lib.hid ((HBW.out.block _ (row_lt Q1.out)).trans Q1.out)
    replace HB := Lib.hid (HB.out.trans (HBW.out.mono HB.out.size))
    by_cases hlt : k < css.length
    · obtain ⟨b6, o6, n6, c6, r6, e6, q6, h6⟩ := HM.out.getRow (k := k) hlt
      simp only [Value.slice.injEq] at e6
      obtain ⟨rfl, -, -⟩ := e6
      obtain ⟨a9, k9, rfl, -⟩ := id h6
      clear h6
      generalize (css.getD k []).length = m at *
      have i0 : (0 : Int) ≤ (k : Int) := by omega
      have i1 : (k : Int) < (css.length : Int) := by omega
      by_cases hm : 80 < m
      · have d1 : decide ((80 : Int) < (m : Int)) = true := decide_eq_true (by omega)
        have d2 : decide (80 < m) = true := decide_eq_true hm
        go_wp2_with fail
        go_ret
        exact ⟨_, rfl, HB.out⟩
      have d1 : decide ((80 : Int) < (m : Int)) = false := decide_eq_false (by omega)
      have d2 : decide (80 < m) = false := decide_eq_false hm
      go_wp2_with fail
      go_roundw
      case rel => exact ⟨k + 1, by omega, by go_num, HBW⟩
      case measure => simp [intOf]; omega
    · have hdk : decide ((k : Int) < (css.length : Int)) = false := decide_eq_false (by omega)
      have hdk2 : decide (k < css.length) = false := decide_eq_false hlt
      go_wp2_with fail
      clear hdk hdk2 hlt hkl
      obtain ⟨wm, hwm⟩ : ∃ x, x = wr := ⟨_, rfl⟩
      subst hwm
      go_loopw [10] (fun i V => ∃ k : Nat, k ≤ ls.length ∧ i = .int .i64 k ∧ Hid (Below wm.heap.size wm V)) (fun i _ => ls.length - (intOf i).toNat)
      case atStart => exact ⟨0, Nat.zero_le _, rfl, Lib.hid (Below.refl _ _)⟩
      case round =>
        obtain ⟨k, hkl, rfl, HBV⟩ := hrel
        replace p00 := below_cell HBV.out p00
        replace p01 := below_cell HBV.out p01
        replace p02 := below_cell HBV.out p02
        replace p03 := below_cell HBV.out p03
        replace p10 := below_cell HBV.out p10
        replace p11 := below_cell HBV.out p11
        replace HR := Lib.hid (HR.out.below HBV.out)
        replace HO := Lib.hid (HO.out.below HBV.out)
        replace HC := Lib.hid (HC.out.below HBV.out)
        replace HR2 := Lib.hid (HR2.out.below HBV.out)
        replace HO2 := Lib.hid (HO2.out.below HBV.out)
        replace HM := Lib.hid (HM.out.below HBV.out)
        replace HL := Lib.hid (HL.out.below HBV.out)
        replace Q0 := Lib.hid ((HBV.out.block _ (row_lt Q0.out)).trans Q0.out)
        replace Q1 := Lib.hid ((HBV.out.block _ (row_lt Q1.out)).trans Q1.out)
        replace HB := Lib.hid (HB.out.trans (HBV.out.mono HB.out.size))
        by_cases hlt : k < ls.length
        · obtain ⟨b6, o6, n6, c6, r6, e6, q6, h6⟩ := HL.out.get (k := k) hlt
          simp only [Value.slice.injEq] at e6
          obtain ⟨rfl, -, -⟩ := e6
          obtain ⟨a9, k9, rfl, -⟩ := id h6
          clear h6
          generalize (ls.getD k []).length = m at *
          have i0 : (0 : Int) ≤ (k : Int) := by omega
          have i1 : (k : Int) < (ls.length : Int) := by omega
          by_cases hm : 80 < m
          · have d1 : decide ((80 : Int) < (m : Int)) = true := decide_eq_true (by omega)
            have d2 : decide (80 < m) = true := decide_eq_true hm
            go_wp2_with fail
            go_ret
            exact ⟨_, rfl, HB.out⟩
          have d1 : decide ((80 : Int) < (m : Int)) = false := decide_eq_false (by omega)
          have d2 : decide (80 < m) = false := decide_eq_false hm
          go_wp2_with fail
          go_roundw
          case rel => exact ⟨k + 1, by omega, by go_num, HBV⟩
          case measure => simp [intOf]; omega
        · have hdk : decide ((k : Int) < (ls.length : Int)) = false := decide_eq_false (by omega)
          have hdk2 : decide (k < ls.length) = false := decide_eq_false hlt
          go_wp2_with fail
          go_ret
          exact ⟨_, rfl, HB.out⟩

end Go.Proofs.YtjjoadmkpbmhpaaGreat
