/- The reference of renewing: Key, Fit, sameRows, nothing. The reference of moving: Error, Deal, Fits, Few. -/
import Derived.Test.YtjjoadmkpbmhpaaGreatMReP
import Derived.Test.YtjjoadmkpbmhpaaGreatMRbP
import Derived.Test.YtjjoadmkpbmhpaaGreatMRdF
import Derived.Test.YtjjoadmkpbmhpaaGreatMRdA
import Derived.Test.YtjjoadmkpbmhpaaGreatMReN
import Derived.Test.YtjjoadmkpbmhpaaGreatMMvN
import Derived.Test.YtjjoadmkpbmhpaaGreatMRdC
namespace Go.Proofs.YtjjoadmkpbmhpaaGreat
open Go.RowKit FP

set_option maxRecDepth 100000 in
set_option maxHeartbeats 4000000 in
theorem rkey_any (ep : Int) (rv ov cv : Value) (rows : List (List Int)) (owners cs : List Int) (w : World) (hR : Rows2 w rv rows) (hO : Ints w ov owners) (hC : Ints w cv cs) (hcq : colsQ rows ≤ 64) :
    Calls Tryz.prog 80 #[.agg #[.int .i64 ep, rv, ov, cv]] w fun e w' => e = .returned (.bool (keyB rows ep cs)) ∧ Below w.heap.size w w' := by
  obtain ⟨W1, hW1, hb1, hr1, -⟩ := box_key w (.int .i64 ep) rv ov cv 27
  have HR := Lib.hid (hR.below hb1)
  have HO := Lib.hid (hO.below hb1)
  have HC := Lib.hid (hC.below hb1)
  obtain ⟨a1, k1, rfl, -, hl1, -⟩ := id hR
  obtain ⟨a2, k2, rfl, -⟩ := id hO
  obtain ⟨a3, k3, rfl, -, hl3, -⟩ := id hC
  have c0 : W1.cell? ⟨w.heap.size, 0, none⟩ = some (.int .i64 ep) := row_cell hr1 rfl
  have c1 : W1.cell? ⟨w.heap.size, 1, none⟩ = some (.slice a1 rows.length k1) := row_cell hr1 rfl
  have c2 : W1.cell? ⟨w.heap.size, 2, none⟩ = some (.slice a2 owners.length k2) := row_cell hr1 rfl
  have c3 : W1.cell? ⟨w.heap.size, 3, none⟩ = some (.slice a3 cs.length k3) := row_cell hr1 rfl
  have HW1 := Lib.hid hW1
  have HB := Lib.hid hb1
  have HKC := Lib.hid (rcommits_any (.slice a1 rows.length k1) (.slice a2 owners.length k2) (.slice a3 cs.length k3) rows owners cs W1 HR.out HO.out HC.out hcq)
  clear hR hO hC hr1 hW1 hb1
  by_cases h0 : 0 ≤ ep
  · have d0 : decide (0 ≤ ep) = true := decide_eq_true h0
    by_cases h1 : ep ≤ 64
    · have d1 : decide (ep ≤ 64) = true := decide_eq_true h1
      have HV : Hid (keyB rows ep cs = comB rows cs) := Lib.hid (by unfold keyB; rw [d0, d1]; rfl)
      clear h0 h1
      go_enter Tryz.func80, Tryz.ntmps80
      go_wp2_with (rw [← HW1.out])
      refine (HKC.out).mono ?_
      rintro e w2 ⟨rfl, hb2⟩
      go_wp2_with fail
      go_ret
      exact ⟨ret_bool HV.out.symm, HB.out.trans (hb2.mono HB.out.size)⟩
    · have d1 : decide (ep ≤ 64) = false := decide_eq_false h1
      have HV : Hid (keyB rows ep cs = false) := Lib.hid (by unfold keyB; rw [d0, d1]; rfl)
      clear h0 h1
      go_enter Tryz.func80, Tryz.ntmps80
      go_wp2_with (rw [← HW1.out])
      go_ret
      exact ⟨ret_bool HV.out.symm, HB.out⟩
  · have d0 : decide (0 ≤ ep) = false := decide_eq_false h0
    have HV : Hid (keyB rows ep cs = false) := Lib.hid (by unfold keyB; rw [d0]; rfl)
    clear h0
    go_enter Tryz.func80, Tryz.ntmps80
    go_wp2_with (rw [← HW1.out])
    go_ret
    exact ⟨ret_bool HV.out.symm, HB.out⟩

theorem all_take {β : Type} {f : β → Bool} {l : List β} {k : Nat} (hk : k < l.length) (h : (l.take k).all f = true) : (l.take (k + 1)).all f = f l[k] := by
  rw [List.take_succ_eq_append_getElem hk, List.all_append, h]
  simp
theorem all_bad {β : Type} {f : β → Bool} {l : List β} {k : Nat} (hk : k < l.length) (h : f l[k] = false) : l.all f = false := by
  rw [Bool.eq_false_iff]
  intro h2
  rw [List.all_eq_true.1 h2 _ (List.getElem_mem hk)] at h
  cases h

set_option maxRecDepth 100000 in
set_option maxHeartbeats 8000000 in
theorem rfit_any (rv ov uv lv : Value) (rows : List (List Int)) (owners cs : List Int) (l : List (Int × Int)) (w : World) (hR : Rows2 w rv rows) (hO : Ints w ov owners) (hU : Ints w uv cs) (hL : Shares w lv l) (hd : dchkE rows owners cs = 0) :
    Calls Tryz.prog 99 #[.agg #[rv, ov], uv, lv] w fun e w' => e = .returned (.bool (fitL rows cs l)) ∧ Below w.heap.size w w' := by
  obtain ⟨W1, hW1, hb1, hr1, hz⟩ := box_prog w rv ov 25
  have HR := Lib.hid (hR.below hb1)
  have HO := Lib.hid (hO.below hb1)
  have HU := Lib.hid (hU.below hb1)
  have HL := Lib.hid (hL.below hb1)
  obtain ⟨a1, k1, rfl, -, hl1, -⟩ := id hR
  obtain ⟨a2, k2, rfl, -, hl2, -⟩ := id hO
  obtain ⟨a4, k4, rfl, -, hl4, -⟩ := id hU
  obtain ⟨a5, k5, rfl, -, hl5, hr5, -⟩ := id hL
  have c0 : W1.cell? ⟨w.heap.size, 0, none⟩ = some (.slice a1 rows.length k1) := row_cell hr1 rfl
  have c1 : W1.cell? ⟨w.heap.size, 1, none⟩ = some (.slice a2 owners.length k2) := row_cell hr1 rfl
  have HW1 := Lib.hid hW1
  have HB := Lib.hid hb1
  have HR5 := Lib.hid hr5
  have HFB := Lib.hid (fun r v => fitB_is (r := r) (v := v) hd)
  clear hR hO hU hL hr1 hW1 hb1 hr5 hd
  go_enter Tryz.func99, Tryz.ntmps99
  go_wp2_with (rw [← HW1.out])
  with_reducible refine (rShares_any _ _ _ rows owners l _ HR.out HO.out HL.out).mono ?_
  rintro e w2 ⟨rfl, hb2⟩
  replace c0 := below_cell hb2 c0
  replace c1 := below_cell hb2 c1
  replace HR := Lib.hid (HR.out.below hb2)
  replace HO := Lib.hid (HO.out.below hb2)
  replace HU := Lib.hid (HU.out.below hb2)
  replace HL := Lib.hid (HL.out.below hb2)
  replace HB := Lib.hid (HB.out.trans (hb2.mono HB.out.size))
  clear hb2
  cases hsh : sharesB rows (-1) l with
  | false =>
    have HV : Hid (fitL rows cs l = false) := Lib.hid (by unfold fitL; rw [hsh]; rfl)
    go_wp2_with fail
    go_ret
    exact ⟨ret_bool HV.out.symm, HB.out⟩
  | true =>
  have HV : Hid (fitL rows cs l = l.all (fitP rows cs)) := Lib.hid (by unfold fitL; rw [hsh]; rfl)
  have HRT := Lib.hid (fun k (hk : k < l.length) => (sharesB_all hsh).1 _ (List.getElem_mem hk))
  clear hsh
  go_wp2_with fail
  go_loopw [7, 8, 9] (fun i _ _ W => ∃ k : Nat, k ≤ l.length ∧ i = .int .i64 k ∧ Hid ((l.take k).all (fitP rows cs) = true) ∧ Below w2.heap.size w2 W) (fun i _ _ _ => l.length - (intOf i).toNat)
  case atStart => exact ⟨0, Nat.zero_le _, rfl, Lib.hid rfl, Below.refl _ _⟩
  case round =>
    obtain ⟨k, hkl, rfl, HP, hb⟩ := hrel
    have HBW := Lib.hid hb
    by_cases hlt : k < l.length
    · obtain ⟨aS, cS, eS, -, -, -, hk1⟩ := HL.out
      obtain ⟨b1, o1, ea, qa, qb⟩ := hk1 k hlt
      simp only [Value.slice.injEq] at eS
      obtain ⟨rfl, -, -⟩ := eS
      subst ea
      have y1 := below_cell hb qa
      have y2 := below_cell hb qb
      have hr := HR5.out _ (List.getElem_mem hlt)
      have HST := Lib.hid (all_take hlt HP.out)
      have HBD := Lib.hid (fun h => HV.out.trans (all_bad (f := fitP rows cs) hlt h))
      have hrt := HRT.out k hlt
      obtain ⟨r, hre⟩ : ∃ r, r = l[k].1 := ⟨_, rfl⟩
      obtain ⟨v, hve⟩ : ∃ v, v = l[k].2 := ⟨_, rfl⟩
      have hp : l[k] = (r, v) := by rw [hre, hve]
      rw [hp] at HST HBD hrt
      rw [← hre] at y1 hr
      rw [← hve] at y2 hr
      have HFT := Lib.hid (fun ww h1 h2 h3 => rFits_any (.slice a1 rows.length k1) (.slice a2 owners.length k2) (.slice a4 cs.length k4) rows owners cs r v ww h1 h2 h3 hr.1 hr.2)
      rw [(HFB.out r v).1, (HFB.out r v).2, hrt] at HFT
      simp only [Bool.true_and, if_true] at HFT
      have i0 : (0 : Int) ≤ (k : Int) := by omega
      have i1 : (k : Int) < (l.length : Int) := by omega
      clear hk1 qa qb hre hve hp hr hrt
      replace c0 := below_cell hb c0
      replace c1 := below_cell hb c1
      replace HR := Lib.hid (HR.out.below hb)
      replace HO := Lib.hid (HO.out.below hb)
      replace HU := Lib.hid (HU.out.below hb)
      replace HB := Lib.hid (HB.out.trans (hb.mono HB.out.size))
      clear hb
      have hbd : Below wr.heap.size wr wr.drew := (Below.refl _ _).drew
      replace HR := Lib.hid (HR.out.below hbd)
      replace HO := Lib.hid (HO.out.below hbd)
      replace HU := Lib.hid (HU.out.below hbd)
      replace HB := Lib.hid (HB.out.drew)
      clear hbd
      go_wp2_with fail
      go_region_held3 (fun w' => w'.cell? ⟨w.heap.size, 0, none⟩ = some (.slice a1 rows.length k1) ∧ w'.cell? ⟨w.heap.size, 1, none⟩ = some (.slice a2 owners.length k2) ∧ w'.cell? ⟨b1, o1 + k * 2, none⟩ = some (.int .i64 r) ∧ w'.cell? ⟨b1, o1 + k * 2 + 1, none⟩ = some (.int .i64 v)) (first | go_keep | exact ⟨c0, c1, y1, y2⟩)
        ((go_at_call 35; (with_reducible refine (HFT.out _ HR.out HO.out HU.out).mono ?_); rintro e w6 ⟨rfl, hb6⟩; replace HBW := Lib.hid (HBW.out.drew.trans (hb6.mono HBW.out.drew.size)); replace y1 := below_cell hb6 y1; replace y2 := below_cell hb6 y2; replace c0 := below_cell hb6 c0; replace c1 := below_cell hb6 c1; replace HR := Lib.hid (HR.out.below hb6); replace HO := Lib.hid (HO.out.below hb6); replace HU := Lib.hid (HU.out.below hb6); replace HB := Lib.hid (HB.out.trans (hb6.mono HB.out.size)); clear hb6))
      cases hfp : fitP rows cs (r, v) with
      | false =>
        have HX := Lib.hid (HBD.out hfp)
        go_wp2_with fail
        go_ret
        exact ⟨ret_bool HX.out.symm, HB.out⟩
      | true =>
        have HX := Lib.hid (HST.out.trans hfp)
        clear hfp
        go_wp2_with fail
        go_roundw
        case rel => exact ⟨k + 1, by omega, by go_num, HX, HBW.out⟩
        case measure => simp [intOf]; omega
    · obtain rfl : k = l.length := by omega
      have hdk : decide (l.length < l.length) = false := decide_eq_false (by omega)
      have HX : Hid (fitL rows cs l = true) := Lib.hid (by rw [HV.out]; have := HP.out; rwa [List.take_length] at this)
      have HBF := Lib.hid (HB.out.trans (hb.mono HB.out.size))
      clear hb
      go_wp2_with fail
      go_ret
      exact ⟨ret_bool HX.out.symm, HBF.out⟩

end Go.Proofs.YtjjoadmkpbmhpaaGreat

namespace Go.Proofs.YtjjoadmkpbmhpaaGreat
open Go.RowKit FP

/-- A call returns true or false. -/
def SomeB (w : World) (e : Ending) (w' : World) : Prop := ∃ b, e = .returned (.bool b) ∧ Below w.heap.size w w'
theorem chkE_all {rows : List (List Int)} {owners : List Int} {ep : Int} {cs : List Int} {rows2 : List (List Int)} {owners2 : List Int} (h : chkE rows owners ep cs rows2 owners2 = 0) : progE rows owners = 0 ∧ keyB rows ep cs = true ∧ comB rows cs = true ∧ progE rows2 owners2 = 0 := by
  obtain ⟨h1, h2, h3⟩ := chkE_prog h
  exact ⟨h1, h2, (keyB_ok h2).2.2, h3⟩

set_option maxRecDepth 100000 in
set_option maxHeartbeats 8000000 in
theorem rErr39_any (ep : Int) (rv ov cv rv2 ov2 : Value) (rows : List (List Int)) (owners cs : List Int) (rows2 : List (List Int)) (owners2 : List Int) (w : World) (hR : Rows2 w rv rows) (hO : Ints w ov owners) (hC : Ints w cv cs) (hR2 : Rows2 w rv2 rows2) (hO2 : Ints w ov2 owners2) :
    Calls Tryz.prog 34 #[.agg #[.int .i64 ep, rv, ov, cv], .agg #[rv2, ov2]] w fun e w' => e = .returned (.int .i64 (chkE rows owners ep cs rows2 owners2)) ∧ Below w.heap.size w w' := by
  obtain ⟨W0, hW0, hb0, hr0, hs0⟩ := box_key w (.int .i64 ep) rv ov cv 27
  obtain ⟨W1, hW1, hb1, hr1, hz1⟩ := box_prog W0 rv2 ov2 25
  have hs1 : W1.heap.size = W0.heap.size + 1 := by rw [hW1]; simp
  have t0 : Below w.heap.size w W0 := hb0
  have t1 : Below w.heap.size w W1 := t0.trans (hb1.mono t0.size)
  have Q0 := Lib.hid ((hb1.block _ (row_lt hr0)).trans hr0)
  have Q1 := Lib.hid hr1
  rw [hs0] at Q1
  have HB := Lib.hid t1
  have HR := Lib.hid (hR.below t1)
  have HO := Lib.hid (hO.below t1)
  have HC := Lib.hid (hC.below t1)
  have HR2 := Lib.hid (hR2.below t1)
  have HO2 := Lib.hid (hO2.below t1)
  obtain ⟨a1, k1, rfl, -, hl1, -⟩ := id hR
  obtain ⟨a2, k2, rfl, -, hl2, -⟩ := id hO
  obtain ⟨a3, k3, rfl, -, hl3, -⟩ := id hC
  obtain ⟨a4, k4, rfl, -, hl4, -⟩ := id hR2
  obtain ⟨a5, k5, rfl, -, hl5, -⟩ := id hO2
  rw [hW0] at hW1
  have HWB := Lib.hid hW1
  clear hW0 hb0 hr0 hs0 t0 hW1 hb1 hr1 hs1 t1 hz1
  clear hR hO hC hR2 hO2
  have p00 := row_cell Q0.out (k := 0) rfl
  have p01 := row_cell Q0.out (k := 1) rfl
  have p02 := row_cell Q0.out (k := 2) rfl
  have p03 := row_cell Q0.out (k := 3) rfl
  have p10 := row_cell Q1.out (k := 0) rfl
  have p11 := row_cell Q1.out (k := 1) rfl
  go_enter Tryz.func34, Tryz.ntmps34
  go_wp2_with (rw [← HWB.out])
  clear HWB
  with_reducible refine (rpCheck_any _ _ rows owners _ HR.out HO.out).mono ?_
  rintro e w2 ⟨rfl, hb2⟩
  replace p00 := below_cell hb2 p00
  replace p01 := below_cell hb2 p01
  replace p02 := below_cell hb2 p02
  replace p03 := below_cell hb2 p03
  replace p10 := below_cell hb2 p10
  replace p11 := below_cell hb2 p11
  replace HR := Lib.hid (HR.out.below hb2)
  replace HO := Lib.hid (HO.out.below hb2)
  replace HC := Lib.hid (HC.out.below hb2)
  replace HR2 := Lib.hid (HR2.out.below hb2)
  replace HO2 := Lib.hid (HO2.out.below hb2)
  replace Q0 := Lib.hid ((hb2.block _ (row_lt Q0.out)).trans Q0.out)
  replace Q1 := Lib.hid ((hb2.block _ (row_lt Q1.out)).trans Q1.out)
  replace HB := Lib.hid (HB.out.trans (hb2.mono HB.out.size))
  clear hb2
  by_cases hp : progE rows owners = 0
  rotate_left
  · have HV : Hid (chkE rows owners ep cs rows2 owners2 = progE rows owners) := Lib.hid (by unfold chkE; rw [if_pos hp])
    have d0 : (progE rows owners != 0) = true := bne_iff_ne.2 hp
    clear hp
    generalize progE rows owners = q at *
    go_wp2_with fail
    go_ret
    exact ⟨by rw [HV.out]; rfl, HB.out⟩
  have HCQ := Lib.hid (progE_ok hp).cols_le
  have HE : Hid (chkE rows owners ep cs rows2 owners2 = if keyB rows ep cs = false then 380 else progE rows2 owners2) := Lib.hid (by unfold chkE; rw [if_neg (by simp [hp])])
  rw [hp]
  clear hp
  go_wp2_with fail
  with_reducible refine (rkey_any ep _ _ _ rows owners cs _ HR.out HO.out HC.out HCQ.out).mono ?_
  rintro e w3 ⟨rfl, hb3⟩
  replace p00 := below_cell hb3 p00
  replace p01 := below_cell hb3 p01
  replace p02 := below_cell hb3 p02
  replace p03 := below_cell hb3 p03
  replace p10 := below_cell hb3 p10
  replace p11 := below_cell hb3 p11
  replace HR := Lib.hid (HR.out.below hb3)
  replace HO := Lib.hid (HO.out.below hb3)
  replace HC := Lib.hid (HC.out.below hb3)
  replace HR2 := Lib.hid (HR2.out.below hb3)
  replace HO2 := Lib.hid (HO2.out.below hb3)
  replace Q0 := Lib.hid ((hb3.block _ (row_lt Q0.out)).trans Q0.out)
  replace Q1 := Lib.hid ((hb3.block _ (row_lt Q1.out)).trans Q1.out)
  replace HB := Lib.hid (HB.out.trans (hb3.mono HB.out.size))
  clear hb3
  cases hk : keyB rows ep cs with
  | false =>
    have HV : Hid (chkE rows owners ep cs rows2 owners2 = 380) := Lib.hid (by rw [HE.out, hk]; rfl)
    clear hk
    go_wp2_with fail
    go_ret
    exact ⟨by rw [HV.out]; rfl, HB.out⟩
  | true =>
  have HV : Hid (chkE rows owners ep cs rows2 owners2 = progE rows2 owners2) := Lib.hid (by rw [HE.out, hk]; rfl)
  clear hk
  go_wp2_with fail
  with_reducible refine (rpCheck_any _ _ rows2 owners2 _ HR2.out HO2.out).mono ?_
  rintro e w4 ⟨rfl, hb4⟩
  replace HB := Lib.hid (HB.out.trans (hb4.mono HB.out.size))
  go_wp2_with fail
  go_ret
  exact ⟨by rw [HV.out]; rfl, HB.out⟩

set_option maxRecDepth 100000 in
set_option maxHeartbeats 8000000 in
theorem rfits39_any (ep : Int) (rv ov cv rv2 ov2 : Value) (lv : Value) (row : Int) (rows : List (List Int)) (owners cs : List Int) (rows2 : List (List Int)) (owners2 : List Int) (c : List Int) (w : World) (hR : Rows2 w rv rows) (hO : Ints w ov owners) (hC : Ints w cv cs) (hR2 : Rows2 w rv2 rows2) (hO2 : Ints w ov2 owners2) (hL : Ints w lv c) (hr : R64 row) (hp2 : progE rows2 owners2 = 0) (hE : pubE rows owners cs row = 0) :
    Calls Tryz.prog 40 #[.agg #[.int .i64 ep, rv, ov, cv], .agg #[rv2, ov2], .int .i64 row, lv] w fun e w' => e = .returned (.bool (fitM rows owners cs rows2 row c)) ∧ Below w.heap.size w w' := by
  have HP2 := Lib.hid (progE_ok hp2)
  have HRR := Lib.hid hr
  have HF : Hid (fitM rows owners cs rows2 row c = (comB rows2 c && nth c 0 == pubR rows owners cs row)) := Lib.hid (by unfold fitM; rw [hE, decide_eq_true rfl, Bool.true_and])
  clear hp2 hr hE
  obtain ⟨W0, hW0, hb0, hr0, hs0⟩ := box_key w (.int .i64 ep) rv ov cv 27
  obtain ⟨W1, hW1, hb1, hr1, hz1⟩ := box_prog W0 rv2 ov2 25
  have hs1 : W1.heap.size = W0.heap.size + 1 := by rw [hW1]; simp
  have t0 : Below w.heap.size w W0 := hb0
  have t1 : Below w.heap.size w W1 := t0.trans (hb1.mono t0.size)
  have Q0 := Lib.hid ((hb1.block _ (row_lt hr0)).trans hr0)
  have Q1 := Lib.hid hr1
  rw [hs0] at Q1
  have HB := Lib.hid t1
  have HR := Lib.hid (hR.below t1)
  have HO := Lib.hid (hO.below t1)
  have HC := Lib.hid (hC.below t1)
  have HR2 := Lib.hid (hR2.below t1)
  have HO2 := Lib.hid (hO2.below t1)
  have HL := Lib.hid (hL.below t1)
  obtain ⟨a1, k1, rfl, -, hl1, -⟩ := id hR
  obtain ⟨a2, k2, rfl, -, hl2, -⟩ := id hO
  obtain ⟨a3, k3, rfl, -, hl3, -⟩ := id hC
  obtain ⟨a4, k4, rfl, -, hl4, -⟩ := id hR2
  obtain ⟨a5, k5, rfl, -, hl5, -⟩ := id hO2
  obtain ⟨a6, k6, rfl, -, hl6, -⟩ := id hL
  rw [hW0] at hW1
  have HWB := Lib.hid hW1
  clear hW0 hb0 hr0 hs0 t0 hW1 hb1 hr1 hs1 t1 hz1
  clear hR hO hC hR2 hO2 hL
  have p00 := row_cell Q0.out (k := 0) rfl
  have p01 := row_cell Q0.out (k := 1) rfl
  have p02 := row_cell Q0.out (k := 2) rfl
  have p03 := row_cell Q0.out (k := 3) rfl
  have p10 := row_cell Q1.out (k := 0) rfl
  have p11 := row_cell Q1.out (k := 1) rfl
  go_enter Tryz.func40, Tryz.ntmps40
  go_wp2_with (rw [← HWB.out])
  clear HWB
  with_reducible refine (rPublic_any _ _ _ rows owners cs row _ HR.out HO.out HC.out HRR.out).mono ?_
  rintro e w2 ⟨rfl, hb2⟩
  replace p00 := below_cell hb2 p00
  replace p01 := below_cell hb2 p01
  replace p02 := below_cell hb2 p02
  replace p03 := below_cell hb2 p03
  replace p10 := below_cell hb2 p10
  replace p11 := below_cell hb2 p11
  replace HR := Lib.hid (HR.out.below hb2)
  replace HO := Lib.hid (HO.out.below hb2)
  replace HC := Lib.hid (HC.out.below hb2)
  replace HR2 := Lib.hid (HR2.out.below hb2)
  replace HO2 := Lib.hid (HO2.out.below hb2)
  replace HL := Lib.hid (HL.out.below hb2)
  replace Q0 := Lib.hid ((hb2.block _ (row_lt Q0.out)).trans Q0.out)
  replace Q1 := Lib.hid ((hb2.block _ (row_lt Q1.out)).trans Q1.out)
  replace HB := Lib.hid (HB.out.trans (hb2.mono HB.out.size))
  clear hb2
  go_wp2_with fail
  with_reducible refine (rcommits_any _ _ _ rows2 owners2 c _ HR2.out HO2.out HL.out HP2.out.cols_le).mono ?_
  rintro e w3 ⟨rfl, hb3⟩
  replace p00 := below_cell hb3 p00
  replace p01 := below_cell hb3 p01
  replace p02 := below_cell hb3 p02
  replace p03 := below_cell hb3 p03
  replace p10 := below_cell hb3 p10
  replace p11 := below_cell hb3 p11
  replace HR := Lib.hid (HR.out.below hb3)
  replace HO := Lib.hid (HO.out.below hb3)
  replace HC := Lib.hid (HC.out.below hb3)
  replace HR2 := Lib.hid (HR2.out.below hb3)
  replace HO2 := Lib.hid (HO2.out.below hb3)
  replace HL := Lib.hid (HL.out.below hb3)
  replace Q0 := Lib.hid ((hb3.block _ (row_lt Q0.out)).trans Q0.out)
  replace Q1 := Lib.hid ((hb3.block _ (row_lt Q1.out)).trans Q1.out)
  replace HB := Lib.hid (HB.out.trans (hb3.mono HB.out.size))
  clear hb3
  cases hcb : comB rows2 c with
  | false =>
    have HV : Hid (fitM rows owners cs rows2 row c = false) := Lib.hid (by rw [HF.out, hcb]; rfl)
    clear hcb
    go_wp2_with fail
    go_ret
    exact ⟨by rw [HV.out]; rfl, HB.out⟩
  | true =>
  have HV : Hid (fitM rows owners cs rows2 row c = (nth c 0 == pubR rows owners cs row)) := Lib.hid (by rw [HF.out, hcb]; rfl)
  have hlen := (comB_col hcb HP2.out.cols).1
  clear hcb
  obtain ⟨-, b6, o6, n6, c6, e6, q6⟩ := HL.out.get (k := 0) (by omega)
  simp only [Value.slice.injEq] at e6
  obtain ⟨rfl, -, -⟩ := e6
  rw [Nat.add_zero] at q6
  have i0 : (0 : Int) < (c.length : Int) := by omega
  generalize pubR rows owners cs row = q at *
  generalize nth c 0 = z at *
  go_wp2_with fail
  go_ret
  exact ⟨by rw [HV.out]; rfl, HB.out⟩

set_option maxRecDepth 100000 in
set_option maxHeartbeats 8000000 in
theorem few39_any (ep : Int) (rv ov cv rv2 ov2 : Value) (mv lv : Value) (rows : List (List Int)) (owners cs : List Int) (rows2 : List (List Int)) (owners2 : List Int) (css : List (List Int)) (ls : List (List (Int × Int))) (w : World) (hR : Rows2 w rv rows) (hO : Ints w ov owners) (hC : Ints w cv cs) (hR2 : Rows2 w rv2 rows2) (hO2 : Ints w ov2 owners2) (hM : Rows2 w mv css) (hL : SRows w lv ls) :
    Calls Tryz.prog 8 #[.agg #[.int .i64 ep, rv, ov, cv], .agg #[rv2, ov2], mv, lv] w (SomeB w) := by
  obtain ⟨W0, hW0, hb0, hr0, hs0⟩ := box_key w (.int .i64 ep) rv ov cv 27
  obtain ⟨W1, hW1, hb1, hr1, hz1⟩ := box_prog W0 rv2 ov2 25
  have hs1 : W1.heap.size = W0.heap.size + 1 := by rw [hW1]; simp
  have t0 : Below w.heap.size w W0 := hb0
  have t1 : Below w.heap.size w W1 := t0.trans (hb1.mono t0.size)
  have Q0 := Lib.hid ((hb1.block _ (row_lt hr0)).trans hr0)
  have Q1 := Lib.hid hr1
  rw [hs0] at Q1
  have HB := Lib.hid t1
  have HR := Lib.hid (hR.below t1)
  have HO := Lib.hid (hO.below t1)
  have HC := Lib.hid (hC.below t1)
  have HR2 := Lib.hid (hR2.below t1)
  have HO2 := Lib.hid (hO2.below t1)
  have HM := Lib.hid (hM.below t1)
  have HL := Lib.hid (hL.below t1)
  obtain ⟨a1, k1, rfl, -, hl1, -⟩ := id hR
  obtain ⟨a2, k2, rfl, -, hl2, -⟩ := id hO
  obtain ⟨a3, k3, rfl, -, hl3, -⟩ := id hC
  obtain ⟨a4, k4, rfl, -, hl4, -⟩ := id hR2
  obtain ⟨a5, k5, rfl, -, hl5, -⟩ := id hO2
  obtain ⟨a6, k6, rfl, -, hl6, -⟩ := id hM
  obtain ⟨a7, k7, rfl, -, hl7, -⟩ := id hL
  rw [hW0] at hW1
  have HWB := Lib.hid hW1
  clear hW0 hb0 hr0 hs0 t0 hW1 hb1 hr1 hs1 t1 hz1
  clear hR hO hC hR2 hO2 hM hL
  have p00 := row_cell Q0.out (k := 0) rfl
  have p01 := row_cell Q0.out (k := 1) rfl
  have p02 := row_cell Q0.out (k := 2) rfl
  have p03 := row_cell Q0.out (k := 3) rfl
  have p10 := row_cell Q1.out (k := 0) rfl
  have p11 := row_cell Q1.out (k := 1) rfl
  go_enter Tryz.func8, Tryz.ntmps8
  go_wp2_with (rw [← HWB.out])
  clear HWB
  with_reducible refine (rfew_any _ _ rows owners _ HR.out HO.out).mono ?_
  rintro e w2 ⟨b1, rfl, hb2⟩
  replace p00 := below_cell hb2 p00
  replace p01 := below_cell hb2 p01
  replace p02 := below_cell hb2 p02
  replace p03 := below_cell hb2 p03
  replace p10 := below_cell hb2 p10
  replace p11 := below_cell hb2 p11
  replace HR := Lib.hid (HR.out.below hb2)
  replace HO := Lib.hid (HO.out.below hb2)
  replace HC := Lib.hid (HC.out.below hb2)
  replace HR2 := Lib.hid (HR2.out.below hb2)
  replace HO2 := Lib.hid (HO2.out.below hb2)
  replace HM := Lib.hid (HM.out.below hb2)
  replace HL := Lib.hid (HL.out.below hb2)
  replace Q0 := Lib.hid ((hb2.block _ (row_lt Q0.out)).trans Q0.out)
  replace Q1 := Lib.hid ((hb2.block _ (row_lt Q1.out)).trans Q1.out)
  replace HB := Lib.hid (HB.out.trans (hb2.mono HB.out.size))
  clear hb2
  cases b1 with
  | false =>
    go_wp2_with fail
    go_ret
    exact ⟨_, rfl, HB.out⟩
  | true =>
  go_wp2_with fail
  with_reducible refine (rfew_any _ _ rows2 owners2 _ HR2.out HO2.out).mono ?_
  rintro e w3 ⟨b2, rfl, hb3⟩
  replace p00 := below_cell hb3 p00
  replace p01 := below_cell hb3 p01
  replace p02 := below_cell hb3 p02
  replace p03 := below_cell hb3 p03
  replace p10 := below_cell hb3 p10
  replace p11 := below_cell hb3 p11
  replace HR := Lib.hid (HR.out.below hb3)
  replace HO := Lib.hid (HO.out.below hb3)
  replace HC := Lib.hid (HC.out.below hb3)
  replace HR2 := Lib.hid (HR2.out.below hb3)
  replace HO2 := Lib.hid (HO2.out.below hb3)
  replace HM := Lib.hid (HM.out.below hb3)
  replace HL := Lib.hid (HL.out.below hb3)
  replace Q0 := Lib.hid ((hb3.block _ (row_lt Q0.out)).trans Q0.out)
  replace Q1 := Lib.hid ((hb3.block _ (row_lt Q1.out)).trans Q1.out)
  replace HB := Lib.hid (HB.out.trans (hb3.mono HB.out.size))
  clear hb3
  cases b2 with
  | false =>
    go_wp2_with fail
    go_ret
    exact ⟨_, rfl, HB.out⟩
  | true =>
  by_cases g1 : 80 < cs.length
  · have d1 : decide ((80 : Int) < (cs.length : Int)) = true := decide_eq_true (by omega)
    have d2 : decide (80 < cs.length) = true := decide_eq_true g1
    go_wp2_with fail
    go_ret
    exact ⟨_, rfl, HB.out⟩
  have d1g1 : decide ((80 : Int) < (cs.length : Int)) = false := decide_eq_false (by omega)
  have d2g1 : decide (80 < cs.length) = false := decide_eq_false g1
  by_cases g2 : 80 < css.length
  · have d1 : decide ((80 : Int) < (css.length : Int)) = true := decide_eq_true (by omega)
    have d2 : decide (80 < css.length) = true := decide_eq_true g2
    go_wp2_with fail
    go_ret
    exact ⟨_, rfl, HB.out⟩
  have d1g2 : decide ((80 : Int) < (css.length : Int)) = false := decide_eq_false (by omega)
  have d2g2 : decide (80 < css.length) = false := decide_eq_false g2
  by_cases g3 : 80 < ls.length
  · have d1 : decide ((80 : Int) < (ls.length : Int)) = true := decide_eq_true (by omega)
    have d2 : decide (80 < ls.length) = true := decide_eq_true g3
    go_wp2_with fail
    go_ret
    exact ⟨_, rfl, HB.out⟩
  have d1g3 : decide ((80 : Int) < (ls.length : Int)) = false := decide_eq_false (by omega)
  have d2g3 : decide (80 < ls.length) = false := decide_eq_false g3
  go_wp2_with fail
  obtain ⟨wl, hwl⟩ : ∃ x, x = w3 := ⟨_, rfl⟩
  subst hwl
  go_loopw [9] (fun i V => ∃ k : Nat, k ≤ css.length ∧ i = .int .i64 k ∧ Hid (Below wl.heap.size wl V)) (fun i _ => css.length - (intOf i).toNat)
  case atStart => exact ⟨0, Nat.zero_le _, rfl, Lib.hid (Below.refl _ _)⟩
  case round =>
    obtain ⟨k, hkl, rfl, HBW⟩ := hrel
    replace p00 := below_cell HBW.out p00
    replace p01 := below_cell HBW.out p01
    replace p02 := below_cell HBW.out p02
    replace p03 := below_cell HBW.out p03
    replace p10 := below_cell HBW.out p10
    replace p11 := below_cell HBW.out p11
    replace HR := Lib.hid (HR.out.below HBW.out)
    replace HO := Lib.hid (HO.out.below HBW.out)
    replace HC := Lib.hid (HC.out.below HBW.out)
    replace HR2 := Lib.hid (HR2.out.below HBW.out)
    replace HO2 := Lib.hid (HO2.out.below HBW.out)
    replace HM := Lib.hid (HM.out.below HBW.out)
    replace HL := Lib.hid (HL.out.below HBW.out)
    replace Q0 := Lib.hid ((HBW.out.block _ (row_lt Q0.out)).trans Q0.out)
    replace Q1 := Lib.hid ((HBW.out.block _ (row_lt Q1.out)).trans Q1.out)
    replace HB := Lib.hid (HB.out.trans (HBW.out.mono HB.out.size))
    by_cases hlt : k < css.length
    · obtain ⟨b6, o6, n6, c6, r6, e6, q6, h6⟩ := HM.out.getRow (k := k) hlt
      simp only [Value.slice.injEq] at e6
      obtain ⟨rfl, -, -⟩ := e6
      obtain ⟨a9, k9, rfl, -⟩ := id h6
      clear h6
      generalize (css.getD k []).length = m at *
      have i0 : (0 : Int) ≤ (k : Int) := by omega
      have i1 : (k : Int) < (css.length : Int) := by omega
      by_cases hm : 80 < m
      · have d1 : decide ((80 : Int) < (m : Int)) = true := decide_eq_true (by omega)
        have d2 : decide (80 < m) = true := decide_eq_true hm
        go_wp2_with fail
        go_ret
        exact ⟨_, rfl, HB.out⟩
      have d1 : decide ((80 : Int) < (m : Int)) = false := decide_eq_false (by omega)
      have d2 : decide (80 < m) = false := decide_eq_false hm
      go_wp2_with fail
      go_roundw
      case rel => exact ⟨k + 1, by omega, by go_num, HBW⟩
      case measure => simp [intOf]; omega
    · have hdk : decide ((k : Int) < (css.length : Int)) = false := decide_eq_false (by omega)
      have hdk2 : decide (k < css.length) = false := decide_eq_false hlt
      go_wp2_with fail
      clear hdk hdk2 hlt hkl
      obtain ⟨wm, hwm⟩ : ∃ x, x = wr := ⟨_, rfl⟩
      subst hwm
      go_loopw [10] (fun i V => ∃ k : Nat, k ≤ ls.length ∧ i = .int .i64 k ∧ Hid (Below wm.heap.size wm V)) (fun i _ => ls.length - (intOf i).toNat)
      case atStart => exact ⟨0, Nat.zero_le _, rfl, Lib.hid (Below.refl _ _)⟩
      case round =>
        obtain ⟨k, hkl, rfl, HBV⟩ := hrel
        replace p00 := below_cell HBV.out p00
        replace p01 := below_cell HBV.out p01
        replace p02 := below_cell HBV.out p02
        replace p03 := below_cell HBV.out p03
        replace p10 := below_cell HBV.out p10
        replace p11 := below_cell HBV.out p11
        replace HR := Lib.hid (HR.out.below HBV.out)
        replace HO := Lib.hid (HO.out.below HBV.out)
        replace HC := Lib.hid (HC.out.below HBV.out)
        replace HR2 := Lib.hid (HR2.out.below HBV.out)
        replace HO2 := Lib.hid (HO2.out.below HBV.out)
        replace HM := Lib.hid (HM.out.below HBV.out)
        replace HL := Lib.hid (HL.out.below HBV.out)
        replace Q0 := Lib.hid ((HBV.out.block _ (row_lt Q0.out)).trans Q0.out)
        replace Q1 := Lib.hid ((HBV.out.block _ (row_lt Q1.out)).trans Q1.out)
        replace HB := Lib.hid (HB.out.trans (HBV.out.mono HB.out.size))
        by_cases hlt : k < ls.length
        · obtain ⟨b6, o6, n6, c6, r6, e6, q6, h6⟩ := HL.out.get (k := k) hlt
          simp only [Value.slice.injEq] at e6
          obtain ⟨rfl, -, -⟩ := e6
          obtain ⟨a9, k9, rfl, -⟩ := id h6
          clear h6
          generalize (ls.getD k []).length = m at *
          have i0 : (0 : Int) ≤ (k : Int) := by omega
          have i1 : (k : Int) < (ls.length : Int) := by omega
          by_cases hm : 80 < m
          · have d1 : decide ((80 : Int) < (m : Int)) = true := decide_eq_true (by omega)
            have d2 : decide (80 < m) = true := decide_eq_true hm
            go_wp2_with fail
            go_ret
            exact ⟨_, rfl, HB.out⟩
          have d1 : decide ((80 : Int) < (m : Int)) = false := decide_eq_false (by omega)
          have d2 : decide (80 < m) = false := decide_eq_false hm
          go_wp2_with fail
          go_roundw
          case rel => exact ⟨k + 1, by omega, by go_num, HBV⟩
          case measure => simp [intOf]; omega
        · have hdk : decide ((k : Int) < (ls.length : Int)) = false := decide_eq_false (by omega)
          have hdk2 : decide (k < ls.length) = false := decide_eq_false hlt
          go_wp2_with fail
          go_ret
          exact ⟨_, rfl, HB.out⟩

end Go.Proofs.YtjjoadmkpbmhpaaGreat
