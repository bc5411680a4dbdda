/- The reference of renewing: Key, Fit, sameRows, nothing. The reference of renewing: two own rows that are changed in place. -/
import Derived.Test.YtnbkbnbmmkfckaaGreatMReS
import Derived.Test.YtnbkbnbmmkfckaaGreatMReF
import Derived.Test.YtnbkbnbmmkfckaaGreatMRdE
import Derived.Test.YtnbkbnbmmkfckaaGreatMRdA
import Derived.Test.YtnbkbnbmmkfckaaGreatMReN
import Derived.Test.YtnbkbnbmmkfckaaGreatMRegIn
import Derived.Lib.SmallJoins
namespace Go.Proofs.YtnbkbnbmmkfckaaGreat
open Go.RowKit FP

set_option maxRecDepth 100000 in
set_option maxHeartbeats 4000000 in
theorem rkey_any (ep : Int) (rv ov cv : Value) (rows : List (List Int)) (owners cs : List Int) (w : World) (hR : Rows2 w rv rows) (hO : Ints w ov owners) (hC : Ints w cv cs) (hcq : colsQ rows ≤ 64) :
    Calls Tryz.prog 33 #[.agg #[.int .i64 ep, rv, ov, cv]] w fun e w' => e = .returned (.bool (keyB rows ep cs)) ∧ Below w.heap.size w w' := by
  obtain ⟨W1, hW1, hb1, hr1, -⟩ := box_key w (.int .i64 ep) rv ov cv 27
  have HR := Lib.hid (hR.below hb1)
  have HO := Lib.hid (hO.below hb1)
  have HC := Lib.hid (hC.below hb1)
  obtain ⟨a1, k1, rfl, -, hl1, -⟩ := id hR
  obtain ⟨a2, k2, rfl, -⟩ := id hO
  obtain ⟨a3, k3, rfl, -, hl3, -⟩ := id hC
  have c0 : W1.cell? ⟨w.heap.size, 0, none⟩ = some (.int .i64 ep) := row_cell hr1 rfl
  have c1 : W1.cell? ⟨w.heap.size, 1, none⟩ = some (.slice a1 rows.length k1) := row_cell hr1 rfl
  have c2 : W1.cell? ⟨w.heap.size, 2, none⟩ = some (.slice a2 owners.length k2) := row_cell hr1 rfl
  have c3 : W1.cell? ⟨w.heap.size, 3, none⟩ = some (.slice a3 cs.length k3) := row_cell hr1 rfl
  have HW1 := Lib.hid hW1
  have HB := Lib.hid hb1
  have HKC := Lib.hid (rcommits_any (.slice a1 rows.length k1) (.slice a2 owners.length k2) (.slice a3 cs.length k3) rows owners cs W1 HR.out HO.out HC.out hcq)
  clear hR hO hC hr1 hW1 hb1
  by_cases h0 : 0 ≤ ep
  · have d0 : decide (0 ≤ ep) = true := decide_eq_true h0
    by_cases h1 : ep ≤ 64
    · have d1 : decide (ep ≤ 64) = true := decide_eq_true h1
      have HV : Hid (keyB rows ep cs = comB rows cs) := Lib.hid (by unfold keyB; rw [d0, d1]; rfl)
      clear h0 h1
      go_enter Tryz.func33, Tryz.ntmps33
      go_wp2_with (rw [← HW1.out])
      refine (HKC.out).mono ?_
      rintro e w2 ⟨rfl, hb2⟩
      go_wp2_with fail
      go_ret
      exact ⟨ret_bool HV.out.symm, HB.out.trans (hb2.mono HB.out.size)⟩
    · have d1 : decide (ep ≤ 64) = false := decide_eq_false h1
      have HV : Hid (keyB rows ep cs = false) := Lib.hid (by unfold keyB; rw [d0, d1]; rfl)
      clear h0 h1
      go_enter Tryz.func33, Tryz.ntmps33
      go_wp2_with (rw [← HW1.out])
      go_ret
      exact ⟨ret_bool HV.out.symm, HB.out⟩
  · have d0 : decide (0 ≤ ep) = false := decide_eq_false h0
    have HV : Hid (keyB rows ep cs = false) := Lib.hid (by unfold keyB; rw [d0]; rfl)
    clear h0
    go_enter Tryz.func33, Tryz.ntmps33
    go_wp2_with (rw [← HW1.out])
    go_ret
    exact ⟨ret_bool HV.out.symm, HB.out⟩

theorem all_take {β : Type} {f : β → Bool} {l : List β} {k : Nat} (hk : k < l.length) (h : (l.take k).all f = true) : (l.take (k + 1)).all f = f l[k] := by
  rw [List.take_succ_eq_append_getElem hk, List.all_append, h]
  simp
theorem all_bad {β : Type} {f : β → Bool} {l : List β} {k : Nat} (hk : k < l.length) (h : f l[k] = false) : l.all f = false := by
  rw [Bool.eq_false_iff]
  intro h2
  rw [List.all_eq_true.1 h2 _ (List.getElem_mem hk)] at h
  cases h

set_option maxRecDepth 100000 in
set_option maxHeartbeats 8000000 in
theorem rfit_any (rv ov uv lv : Value) (rows : List (List Int)) (owners cs : List Int) (l : List (Int × Int)) (w : World) (hR : Rows2 w rv rows) (hO : Ints w ov owners) (hU : Ints w uv cs) (hL : Shares w lv l) (hd : dchkE rows owners cs = 0) :
    Calls Tryz.prog 34 #[.agg #[rv, ov], uv, lv] w fun e w' => e = .returned (.bool (fitL rows cs l)) ∧ Below w.heap.size w w' := by
  obtain ⟨W1, hW1, hb1, hr1, hz⟩ := box_prog w rv ov 25
  have HR := Lib.hid (hR.below hb1)
  have HO := Lib.hid (hO.below hb1)
  have HU := Lib.hid (hU.below hb1)
  have HL := Lib.hid (hL.below hb1)
  obtain ⟨a1, k1, rfl, -, hl1, -⟩ := id hR
  obtain ⟨a2, k2, rfl, -, hl2, -⟩ := id hO
  obtain ⟨a4, k4, rfl, -, hl4, -⟩ := id hU
  obtain ⟨a5, k5, rfl, -, hl5, hr5, -⟩ := id hL
  have c0 : W1.cell? ⟨w.heap.size, 0, none⟩ = some (.slice a1 rows.length k1) := row_cell hr1 rfl
  have c1 : W1.cell? ⟨w.heap.size, 1, none⟩ = some (.slice a2 owners.length k2) := row_cell hr1 rfl
  have HW1 := Lib.hid hW1
  have HB := Lib.hid hb1
  have HR5 := Lib.hid hr5
  have HFB := Lib.hid (fun r v => fitB_is (r := r) (v := v) hd)
  clear hR hO hU hL hr1 hW1 hb1 hr5 hd
  go_enter Tryz.func34, Tryz.ntmps34
  go_wp2_with (rw [← HW1.out])
  with_reducible refine (rShares_any _ _ _ rows owners l _ HR.out HO.out HL.out).mono ?_
  rintro e w2 ⟨rfl, hb2⟩
  replace c0 := below_cell hb2 c0
  replace c1 := below_cell hb2 c1
  replace HR := Lib.hid (HR.out.below hb2)
  replace HO := Lib.hid (HO.out.below hb2)
  replace HU := Lib.hid (HU.out.below hb2)
  replace HL := Lib.hid (HL.out.below hb2)
  replace HB := Lib.hid (HB.out.trans (hb2.mono HB.out.size))
  clear hb2
  cases hsh : sharesB rows (-1) l with
  | false =>
    have HV : Hid (fitL rows cs l = false) := Lib.hid (by unfold fitL; rw [hsh]; rfl)
    go_wp2_with fail
    go_ret
    exact ⟨ret_bool HV.out.symm, HB.out⟩
  | true =>
  have HV : Hid (fitL rows cs l = l.all (fitP rows cs)) := Lib.hid (by unfold fitL; rw [hsh]; rfl)
  have HRT := Lib.hid (fun k (hk : k < l.length) => (sharesB_all hsh).1 _ (List.getElem_mem hk))
  clear hsh
  go_wp2_with fail
  go_loopw [7, 8, 9] (fun i _ _ W => ∃ k : Nat, k ≤ l.length ∧ i = .int .i64 k ∧ Hid ((l.take k).all (fitP rows cs) = true) ∧ Below w2.heap.size w2 W) (fun i _ _ _ => l.length - (intOf i).toNat)
  case atStart => exact ⟨0, Nat.zero_le _, rfl, Lib.hid rfl, Below.refl _ _⟩
  case round =>
    obtain ⟨k, hkl, rfl, HP, hb⟩ := hrel
    have HBW := Lib.hid hb
    by_cases hlt : k < l.length
    · obtain ⟨aS, cS, eS, -, -, -, hk1⟩ := HL.out
      obtain ⟨b1, o1, ea, qa, qb⟩ := hk1 k hlt
      simp only [Value.slice.injEq] at eS
      obtain ⟨rfl, -, -⟩ := eS
      subst ea
      have y1 := below_cell hb qa
      have y2 := below_cell hb qb
      have hr := HR5.out _ (List.getElem_mem hlt)
      have HST := Lib.hid (all_take hlt HP.out)
      have HBD := Lib.hid (fun h => HV.out.trans (all_bad (f := fitP rows cs) hlt h))
      have hrt := HRT.out k hlt
      obtain ⟨r, hre⟩ : ∃ r, r = l[k].1 := ⟨_, rfl⟩
      obtain ⟨v, hve⟩ : ∃ v, v = l[k].2 := ⟨_, rfl⟩
      have hp : l[k] = (r, v) := by rw [hre, hve]
      rw [hp] at HST HBD hrt
      rw [← hre] at y1 hr
      rw [← hve] at y2 hr
      have HFT := Lib.hid (fun ww h1 h2 h3 => rFits_any (.slice a1 rows.length k1) (.slice a2 owners.length k2) (.slice a4 cs.length k4) rows owners cs r v ww h1 h2 h3 hr.1 hr.2)
      rw [(HFB.out r v).1, (HFB.out r v).2, hrt] at HFT
      simp only [Bool.true_and, if_true] at HFT
      have i0 : (0 : Int) ≤ (k : Int) := by omega
      have i1 : (k : Int) < (l.length : Int) := by omega
      clear hk1 qa qb hre hve hp hr hrt
      replace c0 := below_cell hb c0
      replace c1 := below_cell hb c1
      replace HR := Lib.hid (HR.out.below hb)
      replace HO := Lib.hid (HO.out.below hb)
      replace HU := Lib.hid (HU.out.below hb)
      replace HB := Lib.hid (HB.out.trans (hb.mono HB.out.size))
      clear hb
      have hbd : Below wr.heap.size wr wr.drew := (Below.refl _ _).drew
      replace HR := Lib.hid (HR.out.below hbd)
      replace HO := Lib.hid (HO.out.below hbd)
      replace HU := Lib.hid (HU.out.below hbd)
      replace HB := Lib.hid (HB.out.drew)
      clear hbd
      go_wp2_with fail
      go_region_held3 (fun w' => w'.cell? ⟨w.heap.size, 0, none⟩ = some (.slice a1 rows.length k1) ∧ w'.cell? ⟨w.heap.size, 1, none⟩ = some (.slice a2 owners.length k2) ∧ w'.cell? ⟨b1, o1 + k * 2, none⟩ = some (.int .i64 r) ∧ w'.cell? ⟨b1, o1 + k * 2 + 1, none⟩ = some (.int .i64 v)) (first | go_keep | exact ⟨c0, c1, y1, y2⟩)
        ((go_at_call 69; (with_reducible refine (HFT.out _ HR.out HO.out HU.out).mono ?_); rintro e w6 ⟨rfl, hb6⟩; replace HBW := Lib.hid (HBW.out.drew.trans (hb6.mono HBW.out.drew.size)); replace y1 := below_cell hb6 y1; replace y2 := below_cell hb6 y2; replace c0 := below_cell hb6 c0; replace c1 := below_cell hb6 c1; replace HR := Lib.hid (HR.out.below hb6); replace HO := Lib.hid (HO.out.below hb6); replace HU := Lib.hid (HU.out.below hb6); replace HB := Lib.hid (HB.out.trans (hb6.mono HB.out.size)); clear hb6))
      cases hfp : fitP rows cs (r, v) with
      | false =>
        have HX := Lib.hid (HBD.out hfp)
        go_wp2_with fail
        go_ret
        exact ⟨ret_bool HX.out.symm, HB.out⟩
      | true =>
        have HX := Lib.hid (HST.out.trans hfp)
        clear hfp
        go_wp2_with fail
        go_roundw
        case rel => exact ⟨k + 1, by omega, by go_num, HX, HBW.out⟩
        case measure => simp [intOf]; omega
    · obtain rfl : k = l.length := by omega
      have hdk : decide (l.length < l.length) = false := decide_eq_false (by omega)
      have HX : Hid (fitL rows cs l = true) := Lib.hid (by rw [HV.out]; have := HP.out; rwa [List.take_length] at this)
      have HBF := Lib.hid (HB.out.trans (hb.mono HB.out.size))
      clear hb
      go_wp2_with fail
      go_ret
      exact ⟨ret_bool HX.out.symm, HBF.out⟩

set_option maxRecDepth 100000 in
set_option maxHeartbeats 4000000 in
theorem rsameRows_any (u v : Value) (a b : List (Int × Int)) (w : World) (hA : Shares w u a) (hB : Shares w v b) :
    Calls Tryz.prog 70 #[u, v] w fun e w' => e = .returned (.bool (decide (rowsS a = rowsS b))) ∧ Below w.heap.size w w' := by
  obtain ⟨a1, k1, rfl, -, hl1, -, hk1⟩ := id hA
  obtain ⟨a2, k2, rfl, -, hl2, -, hk2⟩ := id hB
  by_cases hl : a.length = b.length
  case neg =>
    have hV : decide (rowsS a = rowsS b) = false := decide_eq_false (fun e => hl (rowsS_len e))
    have HV := Lib.hid hV
    have hn : ((a.length : Int) != (b.length : Int)) = true := by simp; omega
    clear hV hk1 hk2 hA hB
    go_enter Tryz.func70, Tryz.ntmps70
    go_wp2_with fail
    go_ret
    exact ⟨ret_bool HV.out.symm, Below.refl _ _⟩
  case pos =>
    have hn : ((a.length : Int) != (b.length : Int)) = false := by simp [hl]
    have HA := Lib.hid hk1
    have HBB := Lib.hid hk2
    have HL := Lib.hid hl
    clear hk1 hk2 hA hB hl
    go_enter Tryz.func70, Tryz.ntmps70
    go_wp2_with fail
    go_loopw [5] (fun i W => ∃ k : Nat, k ≤ a.length ∧ i = .int .i64 k ∧ Hid (∀ j (h1 : j < a.length) (h2 : j < b.length), j < k → a[j].1 = b[j].1) ∧ Below w.heap.size w W) (fun i _ => a.length - (intOf i).toNat)
    case atStart => exact ⟨0, Nat.zero_le _, rfl, Lib.hid (fun j _ _ h => absurd h (Nat.not_lt_zero _)), Below.refl _ _⟩
    case round =>
      obtain ⟨k, hkl, rfl, HP, hb⟩ := hrel
      have HBW := Lib.hid hb
      by_cases hlt : k < a.length
      · have hlt2 : k < b.length := by have := HL.out; omega
        obtain ⟨b1, o1, ea, qa, -⟩ := HA.out k hlt
        obtain ⟨b2, o2, eb, qb, -⟩ := HBB.out k hlt2
        subst ea eb
        have y1 := below_cell hb qa
        have y2 := below_cell hb qb
        have i0 : (0 : Int) ≤ (k : Int) := by omega
        have i1 : (k : Int) < (a.length : Int) := by omega
        have i2 : (k : Int) < (b.length : Int) := by omega
        have HBD := Lib.hid (fun h => decide_eq_false (rowsS_at hlt hlt2 h))
        have HNX := Lib.hid (fun (h : a[k].1 = b[k].1) => show ∀ j (h1 : j < a.length) (h2 : j < b.length), j < k + 1 → a[j].1 = b[j].1 from fun j h1 h2 h3 => by
          by_cases e : j = k
          · subst e; exact h
          · exact HP.out j h1 h2 (by omega))
        clear qa qb hb
        generalize a[k].1 = x at *
        generalize b[k].1 = y at *
        by_cases hxy : x = y
        · have d : (x != y) = false := by simp [hxy]
          have HX := Lib.hid (HNX.out hxy)
          clear hxy
          go_wp2_with fail
          go_quiet (fail)
          go_wp2_with fail
          go_roundw
          case rel => exact ⟨k + 1, by omega, by go_num, HX, below_drewN HBW.out _⟩
          case measure => simp [intOf]; omega
        · have d : (x != y) = true := by simp [hxy]
          have HX := Lib.hid (HBD.out hxy)
          clear hxy
          go_wp2_with fail
          go_quiet (fail)
          go_wp2_with fail
          go_ret
          exact ⟨ret_bool HX.out.symm, below_drewN HBW.out _⟩
      · obtain rfl : k = a.length := by omega
        have hdk : decide (a.length < a.length) = false := decide_eq_false (by omega)
        have HX : Hid (decide (rowsS a = rowsS b) = true) := Lib.hid (decide_eq_true (rowsS_all HL.out (fun j h1 h2 => HP.out j h1 h2 h1)))
        clear hb
        go_wp2_with fail
        go_ret
        exact ⟨ret_bool HX.out.symm, HBW.out⟩

set_option maxRecDepth 100000 in
set_option maxHeartbeats 8000000 in
theorem rnothing_any (rv ov cv mv lv : Value) (rows : List (List Int)) (owners cs : List Int) (m l : List (Int × Int)) (w : World) (hR : Rows2 w rv rows) (hO : Ints w ov owners) (hC : Ints w cv cs) (hM : Shares w mv m) (hL : Shares w lv l) (hp : progE rows owners = 0) :
    Calls Tryz.prog 35 #[.agg #[rv, ov], cv, mv, lv] w fun e w' => e = .returned (.bool (zeroB rows l cs m)) ∧ Below w.heap.size w w' := by
  obtain ⟨W1, hW1, hb1, hr1, hz⟩ := box_prog w rv ov 25
  have HR := Lib.hid (hR.below hb1)
  have HO := Lib.hid (hO.below hb1)
  have HC := Lib.hid (hC.below hb1)
  have HM := Lib.hid (hM.below hb1)
  have HL := Lib.hid (hL.below hb1)
  obtain ⟨a1, k1, rfl, -, hl1, -⟩ := id hR
  obtain ⟨a2, k2, rfl, -, hl2, -⟩ := id hO
  obtain ⟨a4, k4, rfl, -, hl4, -⟩ := id hC
  obtain ⟨a5, k5, rfl, -⟩ := id hM
  obtain ⟨a6, k6, rfl, -⟩ := id hL
  have c0 : W1.cell? ⟨w.heap.size, 0, none⟩ = some (.slice a1 rows.length k1) := row_cell hr1 rfl
  have c1 : W1.cell? ⟨w.heap.size, 1, none⟩ = some (.slice a2 owners.length k2) := row_cell hr1 rfl
  have HW1 := Lib.hid hW1
  have HB := Lib.hid hb1
  have HP := Lib.hid hp
  have hci := (progE_ok hp).cols
  have HCM := Lib.hid (fun ww h1 h2 h3 => rcommits_any (.slice a1 rows.length k1) (.slice a2 owners.length k2) (.slice a4 cs.length k4) rows owners cs ww h1 h2 h3 (progE_ok hp).cols_le)
  clear hR hO hC hM hL hr1 hW1 hb1 hp
  go_enter Tryz.func35, Tryz.ntmps35
  go_wp2_with (rw [← HW1.out])
  with_reducible refine (HCM.out _ HR.out HO.out HC.out).mono ?_
  rintro e w2 ⟨rfl, hb2⟩
  replace c0 := below_cell hb2 c0
  replace c1 := below_cell hb2 c1
  replace HR := Lib.hid (HR.out.below hb2)
  replace HO := Lib.hid (HO.out.below hb2)
  replace HC := Lib.hid (HC.out.below hb2)
  replace HM := Lib.hid (HM.out.below hb2)
  replace HL := Lib.hid (HL.out.below hb2)
  replace HB := Lib.hid (HB.out.trans (hb2.mono HB.out.size))
  clear hb2
  cases hcm : comB rows cs with
  | false =>
    have HV : Hid (zeroB rows l cs m = false) := Lib.hid (by unfold zeroB; rw [hcm]; rfl)
    go_wp2_with fail
    go_ret
    exact ⟨ret_bool HV.out.symm, HB.out⟩
  | true =>
  have hlen := (comB_el hcm).2
  obtain ⟨-, bd, od, nd, kd, ed, qd⟩ := HC.out.get (k := 0) (by omega)
  simp only [Value.slice.injEq] at ed
  obtain ⟨rfl, -, -⟩ := ed
  rw [Nat.add_zero] at qd
  have HDC := Lib.hid (comB_dchk (owners := owners) HP.out hcm)
  have HV : Hid (zeroB rows l cs m = (nth cs 0 == 1 && (decide (rowsS m = rowsS l) && fitL rows cs m))) := Lib.hid (by unfold zeroB; rw [hcm]; rfl)
  have hl0 : 0 < cs.length := by omega
  have hl1' : (0 : Int) < (cs.length : Int) := by omega
  clear hcm hlen hci
  obtain ⟨x, hx⟩ : ∃ x, x = nth cs 0 := ⟨_, rfl⟩
  rw [← hx] at HV qd
  clear hx
  cases h1 : (x == 1) with
  | false =>
    rw [h1] at HV
    go_wp2_with fail
    go_ret
    exact ⟨ret_bool HV.out.symm, HB.out⟩
  | true =>
  rw [h1] at HV
  go_wp2_with fail
  with_reducible refine (rsameRows_any _ _ m l _ HM.out HL.out).mono ?_
  rintro e w3 ⟨rfl, hb3⟩
  replace c0 := below_cell hb3 c0
  replace c1 := below_cell hb3 c1
  replace qd := below_cell hb3 qd
  replace HR := Lib.hid (HR.out.below hb3)
  replace HO := Lib.hid (HO.out.below hb3)
  replace HC := Lib.hid (HC.out.below hb3)
  replace HM := Lib.hid (HM.out.below hb3)
  replace HL := Lib.hid (HL.out.below hb3)
  replace HB := Lib.hid (HB.out.trans (hb3.mono HB.out.size))
  clear hb3
  cases h2 : decide (rowsS m = rowsS l) with
  | false =>
    rw [h2] at HV
    clear h2
    go_wp2_with fail
    go_ret
    exact ⟨ret_bool HV.out.symm, HB.out⟩
  | true =>
  rw [h2] at HV
  clear h2
  go_wp2_with fail
  with_reducible refine (rfit_any _ _ _ _ rows owners cs m _ HR.out HO.out HC.out HM.out HDC.out).mono ?_
  rintro e w4 ⟨rfl, hb4⟩
  replace c0 := below_cell hb4 c0
  replace c1 := below_cell hb4 c1
  replace qd := below_cell hb4 qd
  replace HR := Lib.hid (HR.out.below hb4)
  replace HO := Lib.hid (HO.out.below hb4)
  replace HC := Lib.hid (HC.out.below hb4)
  replace HM := Lib.hid (HM.out.below hb4)
  replace HL := Lib.hid (HL.out.below hb4)
  replace HB := Lib.hid (HB.out.trans (hb4.mono HB.out.size))
  clear hb4
  go_wp2_with fail
  go_ret
  exact ⟨ret_bool HV.out.symm, HB.out⟩

end Go.Proofs.YtnbkbnbmmkfckaaGreat

namespace Go.Proofs.YtnbkbnbmmkfckaaGreat
open Go.RowKit FP

theorem own_setc {W : World} {base g cap n size : Nat} {e : TypeId} {xs : List Value} (h : W.ownsRow base e size (.slice (some ⟨g, 0, none⟩) n cap) n xs) (k : Nat) (z : Value) :
    W.frozen? ⟨g, k, none⟩ = false ∧ base ≤ g ∧ (W.setCell ⟨g, k, none⟩ z).ownsRow base e size (.slice (some ⟨g, 0, none⟩) n cap) n (xs.set k z) := by
  obtain ⟨h0, h⟩ := h
  rcases h with ⟨h, -⟩ | ⟨g', cap', cur, e1, hb, hg, hnc, hm, hcs, hcur⟩
  · cases h
  · simp only [Value.slice.injEq, Option.some.injEq, Addr.mk.injEq] at e1
    obtain ⟨⟨rfl, -, -⟩, -, rfl⟩ := e1
    refine ⟨row_free hg k, hb, by rw [List.length_set]; exact h0, .inr ⟨g, cap, _, rfl, hb, row_set hg k z, hnc, hm, by rw [Array.size_setIfInBounds]; exact hcs, ?_⟩⟩
    rw [Array.toList_setIfInBounds, List.take_set, hcur]
theorem sflat_set : ∀ (l : List (Int × Int)) (k : Nat) (hk : k < l.length) (z : Int), (l.flatMap shaC).set (k * 2 + 1) (.int .i64 z) = (l.set k (l[k].1, z)).flatMap shaC
  | [], k, hk, _ => absurd hk (Nat.not_lt_zero k)
  | p :: l, 0, _, z => by simp [shaC]
  | p :: l, k + 1, hk, z => by
    have ih := sflat_set l k (by simpa using hk) z
    rw [List.flatMap_cons, List.set_append_right _ _ (by show 2 ≤ _; omega)]
    have e : (k + 1) * 2 + 1 - (shaC p).length = k * 2 + 1 := by show (k + 1) * 2 + 1 - 2 = _; omega
    rw [e, ih]
    simp
theorem map_setI (l : List Int) (k : Nat) (z : Int) : (l.map (Value.int .i64)).set k (.int .i64 z) = (l.set k z).map (Value.int .i64) := by rw [List.map_set]

/-- A list of which the first j numbers are multiplied by another one's. -/
def mulG (A c : List Int) (j i : Nat) : Int := if i < j then nth A i * nth c i % 2147483579 else nth A i
def mulP (A c : List Int) (j : Nat) : List Int := (List.range A.length).map (mulG A c j)
theorem mulP_len (A c : List Int) (j : Nat) : (mulP A c j).length = A.length := by simp [mulP]
theorem mulP_0 (A c : List Int) : mulP A c 0 = A := by
  refine List.ext_getElem (mulP_len A c 0) fun k h1 h2 => ?_
  have e : (mulP A c 0)[k] = mulG A c 0 k := by simp [mulP]
  rw [e]
  unfold mulG
  rw [if_neg (Nat.not_lt_zero k), nth_at h2]
theorem mulP_all (A c : List Int) : mulP A c A.length = mulL A c := by
  refine List.ext_getElem (by rw [mulP_len, mulL_len]) fun k h1 h2 => ?_
  have e : (mulP A c A.length)[k] = mulG A c A.length k := by simp [mulP]
  have e2 : (mulL A c)[k] = nth A k * nth c k % 2147483579 := by simp [mulL]
  rw [e, e2]
  unfold mulG
  rw [if_pos (by rw [mulP_len] at h1; exact h1)]
theorem mulP_at {A c : List Int} {j : Nat} (h : j < A.length) : nth (mulP A c j) j = nth A j := by
  have e : nth (mulP A c j) j = mulG A c j j := nth_map _ _ h
  rw [e]
  unfold mulG
  rw [if_neg (Nat.lt_irrefl j)]
theorem mulP_set {A c : List Int} {j : Nat} : (mulP A c j).set j (nth A j * nth c j % 2147483579) = mulP A c (j + 1) := by
  refine List.ext_getElem (by rw [List.length_set, mulP_len, mulP_len]) fun k h1 h2 => ?_
  have e2 : (mulP A c (j + 1))[k] = mulG A c (j + 1) k := by simp [mulP]
  rw [e2, List.getElem_set]
  by_cases h : j = k
  · subst h
    rw [if_pos rfl]
    unfold mulG
    rw [if_pos (Nat.lt_succ_self j)]
  · rw [if_neg h]
    have e : (mulP A c j)[k]'(by rw [List.length_set] at h1; exact h1) = mulG A c j k := by simp [mulP]
    rw [e]
    unfold mulG
    by_cases hk : k < j
    · rw [if_pos hk, if_pos (by omega)]
    · rw [if_neg hk, if_neg (by omega)]
/-- Shares of which the first j are added to. -/
def addG (L m : List (Int × Int)) (j i : Nat) : Int × Int := if i < j then addP L m i else L.getD i (0, 0)
def addJ (L m : List (Int × Int)) (j : Nat) : List (Int × Int) := (List.range L.length).map (addG L m j)
theorem addJ_len (L m : List (Int × Int)) (j : Nat) : (addJ L m j).length = L.length := by simp [addJ]
theorem addJ_g {L m : List (Int × Int)} {j k : Nat} (h : k < (addJ L m j).length) : (addJ L m j)[k] = addG L m j k := by simp [addJ]
theorem addJ_0 (L m : List (Int × Int)) : addJ L m 0 = L := by
  refine List.ext_getElem (addJ_len L m 0) fun k h1 h2 => ?_
  rw [addJ_g]
  unfold addG
  rw [if_neg (Nat.not_lt_zero k), getD_at h2]
theorem addJ_all (L m : List (Int × Int)) : addJ L m L.length = addS L m := by
  refine List.ext_getElem (by rw [addJ_len, addS_len]) fun k h1 h2 => ?_
  have e2 : (addS L m)[k] = addP L m k := by simp [addS]
  rw [addJ_g, e2]
  unfold addG
  rw [if_pos (by rw [addJ_len] at h1; exact h1)]
theorem addJ_at {L m : List (Int × Int)} {j : Nat} (h : j < (addJ L m j).length) : (addJ L m j)[j] = L.getD j (0, 0) := by
  rw [addJ_g]
  unfold addG
  rw [if_neg (Nat.lt_irrefl j)]
theorem addJ_set {L m : List (Int × Int)} {j : Nat} (h : j < (addJ L m j).length) : (addJ L m j).set j ((addJ L m j)[j].1, ((L.getD j (0, 0)).2 + (m.getD j (0, 0)).2) % 1073741789) = addJ L m (j + 1) := by
  refine List.ext_getElem (by rw [List.length_set, addJ_len, addJ_len]) fun k h1 h2 => ?_
  have e2 : (addJ L m (j + 1))[k] = addG L m (j + 1) k := addJ_g h2
  rw [e2, List.getElem_set]
  by_cases hjk : j = k
  · subst hjk
    rw [if_pos rfl, addJ_at]
    unfold addG
    rw [if_pos (Nat.lt_succ_self j)]
    rfl
  · rw [if_neg hjk, addJ_g]
    unfold addG
    by_cases hk : k < j
    · rw [if_pos hk, if_pos (by omega)]
    · rw [if_neg hk, if_neg (by omega)]
theorem addJ_r64 {L m : List (Int × Int)} (hL : ∀ p ∈ L, R64 p.1 ∧ R64 p.2) (j : Nat) : ∀ p ∈ addJ L m j, R64 p.1 ∧ R64 p.2 := fun p hp => by
  obtain ⟨k, hk, rfl⟩ := List.mem_map.1 hp
  have hk2 : k < L.length := List.mem_range.1 hk
  have h1 := hL _ (List.getElem_mem hk2)
  unfold addG
  by_cases h : k < j
  · rw [if_pos h]
    unfold addP
    rw [getD_at hk2]
    exact ⟨h1.1, mod_r64 _⟩
  · rw [if_neg h, getD_at hk2]
    exact h1
theorem mulP_r64 {A c : List Int} (hA : ∀ z ∈ A, El z) (j : Nat) : ∀ z ∈ mulP A c j, R64 z := fun z hz => by
  obtain ⟨k, hk, rfl⟩ := List.mem_map.1 hz
  have hk2 : k < A.length := List.mem_range.1 hk
  unfold mulG
  by_cases h : k < j
  · rw [if_pos h]
    generalize nth A k * nth c k = x
    exact R64.mk (by omega) (by omega)
  · rw [if_neg h, nth_at hk2]
    exact (hA _ (List.getElem_mem hk2)).r64

/-- The state of the loops of Renew: a key's box, its commitments and the shares in own rows. -/
structure RenI (W0 : World) (B : Nat) (cells : Array Value) (xc yv : Value) (n m : Nat) (A : List Int) (L : List (Int × Int)) (W : World) : Prop where
  b : Below W0.heap.size W0 W
  lo : W0.heap.size ≤ B
  q : W.heap[B]? = some (.cells cells 27 (0, 0))
  o1 : W.ownsRow W0.heap.size 3 1 xc n (A.map (Value.int .i64))
  o2 : W.ownsRow W0.heap.size 47 2 yv m (L.flatMap shaC)
theorem RenI.below {W0 W W' : World} {B n m : Nat} {cells : Array Value} {xc yv : Value} {A : List Int} {L : List (Int × Int)} (h : RenI W0 B cells xc yv n m A L W) (hb : Below W.heap.size W W') : RenI W0 B cells xc yv n m A L W' :=
  ⟨h.b.trans (hb.mono h.b.size), h.lo, (hb.block _ (row_lt h.q)).trans h.q, own_keep h.o1 hb, own_keep h.o2 hb⟩
theorem RenI.blockC {W0 W : World} {B n m g c : Nat} {cells : Array Value} {yv : Value} {A : List Int} {L : List (Int × Int)} (h : RenI W0 B cells (.slice (some ⟨g, 0, none⟩) n c) yv n m A L W) : B ≠ g ∧ yv.ownBlock ≠ some g := by
  obtain ⟨x1, f1, e1⟩ := RowT.own h.o1 g rfl
  have hq := h.q
  refine ⟨fun e => ?_, fun e => ?_⟩
  · subst e; rw [hq] at e1; injection e1 with e1; injection e1 with _ e1 _; exact absurd e1 (by decide)
  · obtain ⟨x2, f2, e2⟩ := RowT.own h.o2 g e
    rw [e1] at e2; injection e2 with e2; injection e2 with _ e2 _; exact absurd e2 (by decide)
theorem RenI.blockL {W0 W : World} {B n m g2 c2 : Nat} {cells : Array Value} {xc : Value} {A : List Int} {L : List (Int × Int)} (h : RenI W0 B cells xc (.slice (some ⟨g2, 0, none⟩) m c2) n m A L W) : B ≠ g2 ∧ xc.ownBlock ≠ some g2 := by
  obtain ⟨x1, f1, e1⟩ := RowT.own h.o2 g2 rfl
  have hq := h.q
  refine ⟨fun e => ?_, fun e => ?_⟩
  · subst e; rw [hq] at e1; injection e1 with e1; injection e1 with _ e1 _; exact absurd e1 (by decide)
  · obtain ⟨x2, f2, e2⟩ := RowT.own h.o1 g2 e
    rw [e1] at e2; injection e2 with e2; injection e2 with _ e2 _; exact absurd e2 (by decide)
theorem RenI.setC {W0 W : World} {B n m g c : Nat} {cells : Array Value} {yv : Value} {A : List Int} {L : List (Int × Int)} (h : RenI W0 B cells (.slice (some ⟨g, 0, none⟩) n c) yv n m A L W) (k : Nat) (z : Int) :
    W.frozen? ⟨g, k, none⟩ = false ∧ RenI W0 B cells (.slice (some ⟨g, 0, none⟩) n c) yv n m (A.set k z) L (W.setCell ⟨g, k, none⟩ (.int .i64 z)) := by
  obtain ⟨hne1, hne3⟩ := h.blockC
  obtain ⟨h1, h2, h3⟩ := own_setc h.o1 k (.int .i64 z)
  rw [map_setI] at h3
  refine ⟨h1, h.b.setCell h2 _, h.lo, ?_, h3, ownsRow_setCell_other h.o2 (a := ⟨g, k, none⟩) hne3 _⟩
  rw [Below.heap_setCell _ _ _ _ hne1]
  exact h.q
theorem RenI.setL {W0 W : World} {B n m g2 c2 : Nat} {cells : Array Value} {xc : Value} {A : List Int} {L : List (Int × Int)} (h : RenI W0 B cells xc (.slice (some ⟨g2, 0, none⟩) m c2) n m A L W) {k : Nat} (hk : k < L.length) (z : Int) :
    W.frozen? ⟨g2, k * 2 + 1, none⟩ = false ∧ RenI W0 B cells xc (.slice (some ⟨g2, 0, none⟩) m c2) n m A (L.set k (L[k].1, z)) (W.setCell ⟨g2, k * 2 + 1, none⟩ (.int .i64 z)) := by
  obtain ⟨hne1, hne3⟩ := h.blockL
  obtain ⟨h1, h2, h3⟩ := own_setc h.o2 (k * 2 + 1) (.int .i64 z)
  rw [sflat_set _ _ hk] at h3
  refine ⟨h1, h.b.setCell h2 _, h.lo, ?_, ownsRow_setCell_other h.o1 (a := ⟨g2, k * 2 + 1, none⟩) hne3 _, h3⟩
  rw [Below.heap_setCell _ _ _ _ hne1]
  exact h.q

/-- A round of Renew in plain terms. -/
theorem ren_step {rows : List (List Int)} {cs : List Int} {l : List (Int × Int)} {css : List (List Int)} {more : List (List (Int × Int))} (hcb : comB rows cs = true) (hz : zerosB rows l css more css.length = true) (hm : more.length = css.length) (hl : ∀ p ∈ l, R64 p.1 ∧ R64 p.2) {k : Nat} (hk : k < css.length) :
    (∀ c ∈ renC cs (css.take k), El c) ∧ (renC cs (css.take k)).length = cs.length ∧ (∀ z ∈ css.getD k [], El z) ∧ (css.getD k []).length = cs.length ∧ (more.getD k []).length = l.length ∧ (renL l (more.take k)).length = l.length ∧ (∀ p ∈ renL l (more.take k), R64 p.1 ∧ R64 p.2) ∧
    renC cs (css.take (k + 1)) = mulL (renC cs (css.take k)) (css.getD k []) ∧ renL l (more.take (k + 1)) = addS (renL l (more.take k)) (more.getD k []) := by
  have h1 := renC_el hcb hz k (Nat.le_of_lt hk)
  have h2 := comB_el hcb
  have h3 := zerosB_at hz hk
  unfold zeroN zeroB at h3
  simp only [Bool.and_eq_true, decide_eq_true_eq] at h3
  have h4 := comB_el h3.1
  have h5 := rowsS_len h3.2.2.1
  refine ⟨h1.1, renC_len _ _, h4.1, by rw [h4.2, h2.2], h5, renL_len _ _, renL_rows _ _ (fun m hm2 => ?_) hl, ?_, ?_⟩
  · obtain ⟨i, hi, rfl⟩ := List.mem_iff_getElem.1 hm2
    have hi2 : i < css.length := by rw [List.length_take] at hi; omega
    have h6 := zerosB_at hz hi2
    unfold zeroN zeroB at h6
    simp only [Bool.and_eq_true, decide_eq_true_eq] at h6
    have h7 := rowsS_len h6.2.2.1
    rw [getD_at (show i < more.length by omega)] at h7
    rw [List.getElem_take]
    exact h7
  · rw [renC_take _ _ hk, getD_at hk]
  · rw [renL_take _ _ (show k < more.length by omega), getD_at (show k < more.length by omega)]
theorem ren_box {wl W6 W7 w9 : World} {x0 x1 x2 x3 v9 : Value} {cs : List Int} (hb6 : Below wl.heap.size wl W6) (hs6 : W6.heap.size = wl.heap.size + 1) (q7 : W7.heap[wl.heap.size]? = some (.cells #[x0, x1, x2, x3] 27 (0, 0))) (hb7 : Below W6.heap.size W6 W7) (hcs : 0 < cs.length) (h9 : w9.ownsRow W6.heap.size 3 1 v9 (0 + cs.length) ([] ++ cs.map (Value.int .i64))) (o9 : Below W6.heap.size W7 w9) :
    ∃ g cx W10, v9 = .slice (some ⟨g, 0, none⟩) cs.length cx ∧ W10 = w9.setCell ⟨wl.heap.size, 3, none⟩ (.slice (some ⟨g, 0, none⟩) cs.length cx) ∧ w9.heap[wl.heap.size]? = some (.cells #[x0, x1, x2, x3] 27 (0, 0)) ∧
      W10.heap[wl.heap.size]? = some (.cells #[x0, x1, x2, .slice (some ⟨g, 0, none⟩) cs.length cx] 27 (0, 0)) ∧ W10.ownsRow wl.heap.size 3 1 (.slice (some ⟨g, 0, none⟩) cs.length cx) cs.length (cs.map (Value.int .i64)) ∧ Below wl.heap.size wl W10 := by
  rw [Nat.zero_add, List.nil_append] at h9
  obtain ⟨g, cx, rfl⟩ := Joins.ownsRow_form h9 hcs
  have hlt : wl.heap.size < W6.heap.size := by omega
  have hq9 := (o9.block _ hlt).trans q7
  have hb : Below wl.heap.size wl w9 := (hb6.trans (hb7.mono hb6.size)).trans (o9.mono hb6.size)
  exact ⟨g, cx, _, rfl, rfl, hq9, row_set hq9 3 _, Joins.ownsRow_le (ownsRow_setCell_below h9 (a := ⟨wl.heap.size, 3, none⟩) hlt _) hb6.size, hb.setCell (Nat.le_refl _) _⟩
theorem ren_row {wl W10 W11 w12 : World} {cells : Array Value} {xc v12 : Value} {cs : List Int} {l : List (Int × Int)} (hb10 : Below wl.heap.size wl W10) (q10 : W10.heap[wl.heap.size]? = some (.cells cells 27 (0, 0))) (o1 : W10.ownsRow wl.heap.size 3 1 xc cs.length (cs.map (Value.int .i64))) (hb11 : Below W10.heap.size W10 W11) (h12 : w12.ownsRow W10.heap.size 47 2 v12 (0 + l.length) ([] ++ l.flatMap shaC)) (o12 : Below W10.heap.size W11 w12) :
    ∃ ya yc, v12 = .slice ya l.length yc ∧ RenI wl wl.heap.size cells xc v12 cs.length l.length cs l w12 := by
  rw [Nat.zero_add, List.nil_append] at h12
  have hb : Below W10.heap.size W10 w12 := hb11.trans o12
  have hI : RenI wl wl.heap.size cells xc v12 cs.length l.length cs l w12 := ⟨hb10.trans (hb.mono hb10.size), Nat.le_refl _, (hb.block _ (row_lt q10)).trans q10, own_keep o1 hb, Joins.ownsRow_le h12 hb10.size⟩
  rcases Joins.ownsRow_forms h12 with ⟨rfl, e⟩ | ⟨g, cap, rfl⟩
  · exact ⟨none, 0, by rw [e], hI⟩
  · exact ⟨_, _, rfl, hI⟩

set_option maxRecDepth 100000 in
theorem app_shares_any {ops : Array Oper} {rest : List Oper} {o : Oper} {a : Act} {Q : Exit → Act → World → Prop} {W : World} (hgd : o.guard = none) (s x : Operand) (ho : o.op = .call { callee := .builtin .append, args := #[s, x], argTypes := #[28, 28] })
    (base g n cap : Nat) (xs : List Value) (hs : a.eval s = .slice (some ⟨g, 0, none⟩) n cap) (hown : W.ownsRow base 47 2 (.slice (some ⟨g, 0, none⟩) n cap) n xs) (u : Value) (l : List (Int × Int)) (hx : a.eval x = u) (hI : Shares W u l) (hn : n + l.length ≤ 1000000) (hcap : n ≤ cap) (hbase : base ≤ W.heap.size)
    (h : ∀ v' w', w'.ownsRow base 47 2 v' (n + l.length) (xs ++ l.flatMap shaC) → Below base W w' → wpList Tryz.prog ops Q rest (a.put o.dst v') w') : wpList Tryz.prog ops Q (o :: rest) a W := by
  obtain ⟨ad, c, rfl, hc, hl, hr, hk⟩ := hI
  obtain ⟨i, hi, hzz⟩ := Option.map_eq_some_iff.1 infoS
  simp only [Prod.mk.injEq] at hzz
  obtain ⟨hz, hs1, hb⟩ := hzz
  obtain ⟨zv, hzv, hzs⟩ := Option.map_eq_some_iff.1 hz
  cases ad with
  | none =>
    have h0 : l = [] := by
      cases l with
      | nil => rfl
      | cons z l => obtain ⟨b, off, e, -⟩ := hk 0 (by simp); cases e
    subst h0
    have hsrc : Src Tryz.prog i.size 28 (.slice none 0 c) 0 [] W := Src.ofNil W Tryz.underlying28 c
    have hrun := run_append_room_src (P := Tryz.prog) W 28 28 o.type 47 i Tryz.underlying28 hi g 0 n cap (.slice none 0 c) 0 [] hsrc (by omega) (fun j hj => absurd hj (Nat.not_lt_zero _)) (fun j hj => absurd hj (Nat.not_lt_zero _))
    refine wpList_app_run hgd s x 28 ho _ _ _ hs hx hrun ?_
    refine h _ _ ?_ ?_
    · simpa [World.setCells] using hown
    · simpa [World.setCells] using Below.refl base W
  | some ad =>
    refine wpList_append_own _ hgd s x 28 ho base 47 i zv 2 16 Tryz.underlying28 hi hzv hs1 hb hzs (by decide) _ n xs hs hown ad l.length c (l.flatMap shaC) hx (sflat_size l) ?_ ?_ ?_ ?_ hbase ?_
    · intro j u hu
      have hj : j < (l.flatMap shaC).length := (List.getElem?_eq_some_iff.1 hu).1
      rw [sflat_size] at hj
      obtain ⟨k, r, hr2, rfl⟩ : ∃ k r, r < 2 ∧ j = k * 2 + r := ⟨j / 2, j % 2, by omega, by omega⟩
      have hkl : k < l.length := by omega
      obtain ⟨b, off, e, q1, q2⟩ := hk k hkl
      injection e with e
      subst e
      rw [sflat_at l k r hkl hr2] at hu
      rw [add_off]
      match r, hr2 with
      | 0, _ => simp [shaC] at hu; rw [← hu]; exact q1
      | 1, _ => simp [shaC] at hu; rw [← hu, ← Nat.add_assoc]; exact q2
    · intro u hu
      obtain ⟨p, -, hp⟩ := List.mem_flatMap.1 hu
      simp only [shaC, List.mem_cons, List.not_mem_nil, or_false] at hp
      rcases hp with rfl | rfl <;> rfl
    · unfold maxLen; omega
    · omega
    · intro v' w' h1 h2 _
      exact h v' w' h1 (own_below hown h2 hbase)

end Go.Proofs.YtnbkbnbmmkfckaaGreat
