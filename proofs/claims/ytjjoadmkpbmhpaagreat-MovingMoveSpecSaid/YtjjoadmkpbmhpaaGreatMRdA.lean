/- The reference of dealing: Number, power, Commits, public, Public. The reference of dealing: Public, share, Fits, Few. -/
import Derived.Test.YtjjoadmkpbmhpaaGreatMSane
import Derived.Deep.RegionHeld3
namespace Go.Proofs.YtjjoadmkpbmhpaaGreat
open Go.RowKit FP

set_option maxRecDepth 100000 in
theorem rnumber34_any (z : Int) (w : World) : Calls Tryz.prog 63 #[.int .i64 z] w fun r w' => r = .returned (.bool (!oddQ z)) ∧ w = w' := by
  by_cases h1 : 0 ≤ z
  · have H := Lib.hid (show (!oddQ z) = decide (z < 1073741789) by
      unfold oddQ; rw [decide_eq_false (show ¬ z < 0 by omega), Bool.false_or]
      by_cases h : z < 1073741789
      · rw [decide_eq_true h, decide_eq_false (show ¬ 1073741789 ≤ z by omega)]; rfl
      · rw [decide_eq_false h, decide_eq_true (show 1073741789 ≤ z by omega)]; rfl)
    go_enter Tryz.func63, Tryz.ntmps63
    go_wp2_with fail
    go_ret
    exact ⟨ret_bool H.out.symm, rfl⟩
  · have H := Lib.hid (show (!oddQ z) = false by unfold oddQ; rw [decide_eq_true (show z < 0 by omega)]; rfl)
    go_enter Tryz.func63, Tryz.ntmps63
    go_wp2_with fail
    go_ret
    exact ⟨ret_bool H.out.symm, rfl⟩

set_option maxRecDepth 100000 in
theorem rpower34_any (x n : Int) (w : World) (hx : El x) (hn : R64 n) : Calls Tryz.prog 82 #[.int .i64 x, .int .i64 n] w fun r w' => r = .returned (.int .i64 (powE x n)) ∧ w = w' := by
  have HP := Lib.hid (rpow_yes x n w hx hn)
  clear hx hn
  generalize powE x n = p at *
  go_enter Tryz.func82, Tryz.ntmps82
  go_wp2_with fail
  refine HP.out.mono ?_
  rintro e w1 ⟨rfl, rfl⟩
  go_wp2_with fail
  go_ret
  exact ⟨rfl, rfl⟩

/-- Are numbers commitments? -/
def comB (rows : List (List Int)) (cs : List Int) : Bool := !cs.any notEl && decide (cs.length = colsQ rows)
theorem comB_E {rows : List (List Int)} {owners cs : List Int} (hp : progE rows owners = 0) : dchkE rows owners cs = if comB rows cs = true then 0 else 340 := by
  unfold dchkE comB
  rw [if_neg (by simp [hp])]
  by_cases h : cs.length = colsQ rows <;> cases e : cs.any notEl <;> simp [h]

set_option maxRecDepth 100000 in
set_option maxHeartbeats 2000000 in
theorem rcommits_any (rv ov cv : Value) (rows : List (List Int)) (owners cs : List Int) (w : World) (hR : Rows2 w rv rows) (hO : Ints w ov owners) (hC : Ints w cv cs) (hcq : colsQ rows ≤ 64) :
    Calls Tryz.prog 39 #[.agg #[rv, ov], cv] w fun r w' => r = .returned (.bool (comB rows cs)) ∧ Below w.heap.size w w' := by
  obtain ⟨W1, hW1, hb1, hr1, hz⟩ := box_prog w rv ov 25
  have HR1 := Lib.hid (hR.below hb1)
  have HO1 := Lib.hid (hO.below hb1)
  have HC1 := Lib.hid (hC.below hb1)
  obtain ⟨a, cap, rfl, -, hlen, -⟩ := id hR
  obtain ⟨a2, cap2, rfl, -, hlen2, -⟩ := id hO
  obtain ⟨a3, cap3, rfl, -, hlen3, hcr, -⟩ := id hC
  have c0 : W1.cell? ⟨w.heap.size, 0, none⟩ = some (.slice a rows.length cap) := row_cell hr1 rfl
  have c1 : W1.cell? ⟨w.heap.size, 1, none⟩ = some (.slice a2 owners.length cap2) := row_cell hr1 rfl
  have HW1 := Lib.hid hW1
  have HB1 := Lib.hid hb1
  have HCO := Lib.hid (fun W h1 h2 => rcolumns_any (.slice a rows.length cap) (.slice a2 owners.length cap2) rows owners W h1 h2)
  have HV : Hid (comB rows cs = (!cs.any notEl && decide (cs.length = colsQ rows))) := Lib.hid rfl
  clear hR hO hC hr1 hW1 hb1 hcr
  obtain ⟨q, hq⟩ : ∃ q, q = colsQ rows := ⟨_, rfl⟩
  rw [← hq] at hcq HV
  have HCO2 : Hid (∀ W, Rows2 W (.slice a rows.length cap) rows → Ints W (.slice a2 owners.length cap2) owners → Calls Tryz.prog 64 #[.agg #[.slice a rows.length cap, .slice a2 owners.length cap2]] W fun e w' => e = .returned (.int .i64 (q : Nat)) ∧ Below W.heap.size W w') := Lib.hid (by subst hq; exact HCO.out)
  clear HCO hq
  go_enter Tryz.func39, Tryz.ntmps39
  go_wp2_with fail
  rw [← HW1.out]
  go_loopw [5] (fun i W => ∃ k : Nat, k ≤ cs.length ∧ i = .int .i64 k ∧ Hid (∀ z ∈ cs.take k, notEl z = false) ∧ W = W1) (fun i _ => cs.length - (intOf i).toNat)
  case atStart => exact ⟨0, Nat.zero_le _, rfl, Lib.hid (by simp), rfl⟩
  case round =>
    obtain ⟨k, hkl, rfl, HP, rfl⟩ := hrel
    by_cases hlt : k < cs.length
    · obtain ⟨hr64, b, off, n9, k9, e9, q9⟩ := HC1.out.get hlt
      simp only [Value.slice.injEq] at e9
      obtain ⟨rfl, -, -⟩ := e9
      have i0 : (k : Int) < (cs.length : Int) := by omega
      have hnt : nth cs k = cs[k] := nth_at hlt
      rw [hnt] at q9 hr64
      cases en : notEl cs[k] with
      | true =>
        have HVV : Hid (comB rows cs = false) := Lib.hid (by rw [HV.out, any_here hlt en]; rfl)
        have he : elB cs[k] = false := by simpa [notEl] using en
        clear en hnt
        generalize cs[k] = z at *
        go_wp2_with fail
        with_reducible refine (rvalid_any z _ hr64).mono ?_
        rintro e w3 ⟨rfl, rfl⟩
        rw [he]
        go_wp2_with fail
        go_ret
        exact ⟨ret_bool HVV.out.symm, HB1.out⟩
      | false =>
        have HN := Lib.hid (take_next hlt HP.out en)
        have he : elB cs[k] = true := by simpa [notEl] using en
        clear en hnt
        generalize cs[k] = z at *
        go_wp2_with fail
        with_reducible refine (rvalid_any z _ hr64).mono ?_
        rintro e w3 ⟨rfl, rfl⟩
        rw [he]
        go_wp2_with fail
        go_roundw
        case rel => exact ⟨k + 1, by omega, by go_num, HN, by trivial⟩
        case measure => simp [intOf]; omega
    · have hdk : decide (k < cs.length) = false := decide_eq_false hlt
      have HL := Lib.hid (any_of_take hlt HP.out)
      go_wp2_with fail
      refine (HCO2.out _ HR1.out HO1.out).mono ?_
      rintro e w3 ⟨rfl, hb3⟩
      go_wp2_with fail
      go_ret
      refine ⟨ret_bool ?_, HB1.out.trans (hb3.mono HB1.out.size)⟩
      rw [HV.out, HL.out]
      by_cases h : cs.length = q
      · simp [h]
      · simp [h]; omega

set_option maxRecDepth 100000 in
set_option maxHeartbeats 4000000 in
theorem rpublic0_any (rv ov cv : Value) (rows : List (List Int)) (owners cs : List Int) (n : Nat) (w : World) (hR : Rows2 w rv rows) (hO : Ints w ov owners) (hC : Ints w cv cs) (hK : ComOK rows owners cs) (hn : n < rows.length) :
    Calls Tryz.prog 83 #[.agg #[rv, ov], cv, .int .i64 n] w fun e w' => e = .returned (.int .i64 (pubQ (rows.getD n []) cs)) ∧ Below w.heap.size w w' := by
  obtain ⟨W1, hW1, hb1, hr1, hz⟩ := box_prog w rv ov 25
  have HR1 := Lib.hid (hR.below hb1)
  have HC1 := Lib.hid (hC.below hb1)
  obtain ⟨a, cap, rfl, -, hlen, -⟩ := id hR
  obtain ⟨a2, cap2, rfl, -, hlen2, -⟩ := id hO
  obtain ⟨a3, cap3, rfl, -, hlen3, hcr, -⟩ := id hC
  have c0 : W1.cell? ⟨w.heap.size, 0, none⟩ = some (.slice a rows.length cap) := row_cell hr1 rfl
  have HW1 := Lib.hid hW1
  have HB1 := Lib.hid hb1
  have HK := Lib.hid hK
  have HV : Hid (pubQ (rows.getD n []) cs = pubF rows[n] cs cs.length) := Lib.hid (by rw [getD_at hn]; rfl)
  clear hR hO hC hr1 hW1 hb1 hcr hK
  obtain ⟨row, hrow⟩ : ∃ row, row = rows[n] := ⟨_, rfl⟩
  rw [← hrow] at HV
  have HROW := Lib.hid hrow
  clear hrow
  have hn1 : (n : Int) < (rows.length : Int) := by omega
  go_enter Tryz.func83, Tryz.ntmps83
  go_wp2_with fail
  rw [← HW1.out]
  go_loopw [7, 8] (fun x i W => ∃ j : Nat, j ≤ cs.length ∧ i = .int .i64 j ∧ x = .int .i64 (pubF row cs j) ∧ Below W1.heap.size W1 W) (fun _ i _ => cs.length - (intOf i).toNat)
  case atStart => exact ⟨0, Nat.zero_le _, rfl, rfl, Below.refl _ _⟩
  case round =>
    obtain ⟨j, hjl, rfl, rfl, hb⟩ := hrel
    have f0 := below_cell hb c0
    have HBW := Lib.hid hb
    by_cases hj : j < cs.length
    · obtain ⟨aa, cc, e1, -, -, hk⟩ := HR1.out
      obtain ⟨b, off, rr, ha, q1, hI⟩ := hk n hn
      simp only [Value.slice.injEq] at e1
      obtain ⟨rfl, -, rfl⟩ := e1
      subst ha
      have y1 := below_cell hb q1
      have hrl := HK.out.prog.row hn
      rw [← HROW.out] at hI hrl
      have hj2 : j < row.length := by rw [hrl, ← HK.out.len]; exact hj
      obtain ⟨hr2, b2, off2, n2, k2, e2, q2⟩ := (hI.below hb).get hj2
      obtain ⟨hr3, b3, off3, n3, k3, e3, q3⟩ := (HC1.out.below hb).get hj
      obtain ⟨ra, rc, e4, -, -, -, -⟩ := id hI
      rw [e4] at e2 y1
      simp only [Value.slice.injEq] at e2 e3
      obtain ⟨e2, -, -⟩ := e2
      obtain ⟨e3, -, -⟩ := e3
      subst e2 e3
      have hel : El (nth cs j) := HK.out.el _ (by rw [nth_at hj]; exact List.getElem_mem _)
      have hep := el_pubF (row := row) HK.out.el j (by omega)
      have HPW := Lib.hid (fun w => rpower34_any (nth cs j) (nth row j) w hel hr2)
      have HML := Lib.hid (fun w => rmul_yes (pubF row cs j) (powE (nth cs j) (nth row j)) w hep (el_powE hel _))
      have HNX := Lib.hid (show pubF row cs (j + 1) = pubF row cs j * powE (nth cs j) (nth row j) % 2147483579 from rfl)
      have i0 : 0 ≤ (j : Int) := by omega
      have i1 : (j : Int) < (row.length : Int) := by omega
      have i2 : (j : Int) < (cs.length : Int) := by omega
      have i3 : 0 ≤ (n : Int) := by omega
      clear hk q1 hI hb e4 hel hep hrl
      generalize pubF row cs j = p1 at *
      generalize powE (nth cs j) (nth row j) = pw at *
      generalize nth cs j = cj at *
      generalize nth row j = rj at *
      generalize hrl2 : row.length = rlen at *
      go_wp2_with fail
      go_region_held3 (fun w' => w'.cell? ⟨w.heap.size, 0, none⟩ = some (.slice (some ⟨b, off, none⟩) rows.length cap) ∧ w'.cell? ⟨b, off + n, none⟩ = some (.slice (some ⟨b2, off2, none⟩) rlen rc) ∧ w'.cell? ⟨b2, off2 + j, none⟩ = some (.int .i64 rj) ∧ w'.cell? ⟨b3, off3 + j, none⟩ = some (.int .i64 cj)) (go_keep)
        (first
          | (go_at_call 82; (with_reducible refine (HPW.out _).mono ?_); rintro e w2 ⟨rfl, rfl⟩)
          | (go_at_call 59; (with_reducible refine (HML.out _).mono ?_); rintro e w2 ⟨rfl, rfl⟩))
      go_wp2_with fail
      go_roundw
      case rel => exact ⟨j + 1, by omega, by go_num, by rw [HNX.out], below_drewN HBW.out _⟩
      case measure => simp [intOf]; omega
    · obtain rfl : j = cs.length := by omega
      have hdk : decide (cs.length < cs.length) = false := decide_eq_false (by omega)
      clear hb f0
      go_wp2_with fail
      go_ret
      exact ⟨ret_int HV.out.symm, HB1.out.trans (HBW.out.mono HB1.out.size)⟩

end Go.Proofs.YtjjoadmkpbmhpaaGreat

namespace Go.Proofs.YtjjoadmkpbmhpaaGreat
open Go.RowKit FP

set_option maxRecDepth 100000 in
set_option maxHeartbeats 4000000 in
theorem rPublic_any (rv ov cv : Value) (rows : List (List Int)) (owners cs : List Int) (r : Int) (w : World) (hR : Rows2 w rv rows) (hO : Ints w ov owners) (hC : Ints w cv cs) (hr : R64 r) :
    Calls Tryz.prog 89 #[.agg #[rv, ov], cv, .int .i64 r] w fun e w' => e = .returned (.tuple #[.int .i64 (pubR rows owners cs r), .int .i64 (pubE rows owners cs r)]) ∧ Below w.heap.size w w' := by
  obtain ⟨W1, hW1, hb1, hr1, hz⟩ := box_prog w rv ov 25
  have HR1 := Lib.hid (hR.below hb1)
  have HO1 := Lib.hid (hO.below hb1)
  have HC1 := Lib.hid (hC.below hb1)
  have HPC := Lib.hid (rpCheck_any rv ov rows owners W1 HR1.out HO1.out)
  obtain ⟨a, cap, rfl, -, hlen, -⟩ := id hR
  obtain ⟨a2, cap2, rfl, -, hlen2, -⟩ := id hO
  obtain ⟨a3, cap3, rfl, -, hlen3, hcr, -⟩ := id hC
  have c0 : W1.cell? ⟨w.heap.size, 0, none⟩ = some (.slice a rows.length cap) := row_cell hr1 rfl
  have c1 : W1.cell? ⟨w.heap.size, 1, none⟩ = some (.slice a2 owners.length cap2) := row_cell hr1 rfl
  have HW1 := Lib.hid hW1
  have HB1 := Lib.hid hb1
  clear hR hO hC hr1 hW1 hb1 hcr
  by_cases hp : progE rows owners = 0
  · have HE := Lib.hid (comB_E (cs := cs) hp)
    have hcq := (progE_ok hp).cols_le
    have HCM := Lib.hid (fun W h1 h2 h3 => rcommits_any (.slice a rows.length cap) (.slice a2 owners.length cap2) (.slice a3 cs.length cap3) rows owners cs W h1 h2 h3 hcq)
    rw [hp] at HPC
    have HP0 := Lib.hid hp
    clear hp hcq
    cases ec : comB rows cs with
    | false =>
      rw [ec] at HE HCM
      have HD : Hid (dchkE rows owners cs = 340) := Lib.hid (by rw [HE.out]; rfl)
      have HV : Hid (pubE rows owners cs r = 340) := Lib.hid (by unfold pubE; rw [HD.out]; rfl)
      have HW : Hid (pubR rows owners cs r = 0) := Lib.hid (by unfold pubR; rw [HV.out]; rfl)
      clear ec
      go_enter Tryz.func89, Tryz.ntmps89
      go_wp2_with fail
      rw [← HW1.out]
      refine HPC.out.mono ?_
      rintro e w2 ⟨rfl, hb2⟩
      have d0 := below_cell hb2 c0
      have d1 := below_cell hb2 c1
      have HR2 := Lib.hid (HR1.out.below hb2)
      have HO2 := Lib.hid (HO1.out.below hb2)
      have HC2 := Lib.hid (HC1.out.below hb2)
      have HB2 := Lib.hid (HB1.out.trans (hb2.mono HB1.out.size))
      clear hb2
      go_wp2_with fail
      refine (HCM.out _ HR2.out HO2.out HC2.out).mono ?_
      rintro e w3 ⟨rfl, hb3⟩
      go_wp2_with fail
      go_ret2
      exact ⟨by rw [HV.out, HW.out]; rfl, HB2.out.trans (hb3.mono HB2.out.size)⟩
    | true =>
      rw [ec] at HE HCM
      have HD : Hid (dchkE rows owners cs = 0) := Lib.hid (by rw [HE.out]; rfl)
      have HK := Lib.hid (dchkE_ok HD.out)
      clear ec
      by_cases hneg : r < 0
      · have HV : Hid (pubE rows owners cs r = 1) := Lib.hid (by unfold pubE; rw [if_neg (by simp [HD.out]), if_pos (.inl hneg)])
        have HW : Hid (pubR rows owners cs r = 0) := Lib.hid (by unfold pubR; rw [HV.out]; rfl)
        go_enter Tryz.func89, Tryz.ntmps89
        go_wp2_with fail
        rw [← HW1.out]
        refine HPC.out.mono ?_
        rintro e w2 ⟨rfl, hb2⟩
        have d0 := below_cell hb2 c0
        have d1 := below_cell hb2 c1
        have HR2 := Lib.hid (HR1.out.below hb2)
        have HO2 := Lib.hid (HO1.out.below hb2)
        have HC2 := Lib.hid (HC1.out.below hb2)
        have HB2 := Lib.hid (HB1.out.trans (hb2.mono HB1.out.size))
        clear hb2
        go_wp2_with fail
        refine (HCM.out _ HR2.out HO2.out HC2.out).mono ?_
        rintro e w3 ⟨rfl, hb3⟩
        have x0 := below_cell hb3 d0
        go_wp2_with fail
        go_ret2
        exact ⟨by rw [HV.out, HW.out]; rfl, HB2.out.trans (hb3.mono HB2.out.size)⟩
      · have hn0 : 0 ≤ r := by omega
        by_cases hgt : (rows.length : Int) ≤ r
        · have HV : Hid (pubE rows owners cs r = 1) := Lib.hid (by unfold pubE; rw [if_neg (by simp [HD.out]), if_pos (.inr hgt)])
          have HW : Hid (pubR rows owners cs r = 0) := Lib.hid (by unfold pubR; rw [HV.out]; rfl)
          have hgd : decide (r ≥ (rows.length : Int)) = true := decide_eq_true (by omega)
          go_enter Tryz.func89, Tryz.ntmps89
          go_wp2_with fail
          rw [← HW1.out]
          refine HPC.out.mono ?_
          rintro e w2 ⟨rfl, hb2⟩
          have d0 := below_cell hb2 c0
          have d1 := below_cell hb2 c1
          have HR2 := Lib.hid (HR1.out.below hb2)
          have HO2 := Lib.hid (HO1.out.below hb2)
          have HC2 := Lib.hid (HC1.out.below hb2)
          have HB2 := Lib.hid (HB1.out.trans (hb2.mono HB1.out.size))
          clear hb2
          go_wp2_with fail
          refine (HCM.out _ HR2.out HO2.out HC2.out).mono ?_
          rintro e w3 ⟨rfl, hb3⟩
          have x0 := below_cell hb3 d0
          go_wp2_with fail
          go_ret2
          exact ⟨by rw [HV.out, HW.out]; rfl, HB2.out.trans (hb3.mono HB2.out.size)⟩
        · obtain ⟨n, hn⟩ : ∃ n : Nat, r = n := ⟨r.toNat, by omega⟩
          have hlt : n < rows.length := by omega
          have HV : Hid (pubE rows owners cs r = 0) := Lib.hid (by unfold pubE; rw [if_neg (by simp [HD.out]), if_neg (by omega)])
          have HW : Hid (pubR rows owners cs r = pubQ (rows.getD n []) cs) := Lib.hid (by unfold pubR; rw [if_pos HV.out, hn, Int.toNat_natCast])
          subst hn
          have HPB := Lib.hid (fun W h1 h2 h3 => rpublic0_any (.slice a rows.length cap) (.slice a2 owners.length cap2) (.slice a3 cs.length cap3) rows owners cs n W h1 h2 h3 HK.out hlt)
          obtain ⟨pq, hpq⟩ : ∃ pq, pq = pubQ (rows.getD n []) cs := ⟨_, rfl⟩
          rw [← hpq] at HPB HW
          have hgt2 : (n : Int) < (rows.length : Int) := by omega
          have hd1 : decide ((n : Int) < 0) = false := decide_eq_false (by omega)
          have hd2 : decide (rows.length ≤ n) = false := decide_eq_false (by omega)
          clear hneg hgt hpq
          go_enter Tryz.func89, Tryz.ntmps89
          go_wp2_with fail
          rw [← HW1.out]
          refine HPC.out.mono ?_
          rintro e w2 ⟨rfl, hb2⟩
          have d0 := below_cell hb2 c0
          have d1 := below_cell hb2 c1
          have HR2 := Lib.hid (HR1.out.below hb2)
          have HO2 := Lib.hid (HO1.out.below hb2)
          have HC2 := Lib.hid (HC1.out.below hb2)
          have HB2 := Lib.hid (HB1.out.trans (hb2.mono HB1.out.size))
          clear hb2
          go_wp2_with fail
          refine (HCM.out _ HR2.out HO2.out HC2.out).mono ?_
          rintro e w3 ⟨rfl, hb3⟩
          have x0 := below_cell hb3 d0
          have x1 := below_cell hb3 d1
          have HR3 := Lib.hid (HR2.out.below hb3)
          have HO3 := Lib.hid (HO2.out.below hb3)
          have HC3 := Lib.hid (HC2.out.below hb3)
          have HB3 := Lib.hid (HB2.out.trans (hb3.mono HB2.out.size))
          clear hb3
          go_wp2_with fail
          refine (HPB.out _ HR3.out HO3.out HC3.out).mono ?_
          rintro e w4 ⟨rfl, hb4⟩
          go_wp2_with fail
          go_ret2
          exact ⟨by rw [HV.out, HW.out]; rfl, HB3.out.trans (hb4.mono HB3.out.size)⟩
  · have HV : Hid (pubE rows owners cs r = progE rows owners) := Lib.hid (by unfold pubE dchkE; rw [if_pos (by rw [if_pos hp]; exact hp), if_pos hp])
    have HW : Hid (pubR rows owners cs r = 0) := Lib.hid (by unfold pubR; rw [HV.out, if_neg hp])
    have h2 : (progE rows owners != 0) = true := bne_iff_ne.2 hp
    go_enter Tryz.func89, Tryz.ntmps89
    go_wp2_with fail
    rw [← HW1.out]
    refine HPC.out.mono ?_
    rintro e w2 ⟨rfl, hb2⟩
    go_wp2_with fail
    go_ret2
    exact ⟨by rw [HV.out, HW.out]; rfl, HB1.out.trans (hb2.mono HB1.out.size)⟩

set_option maxRecDepth 100000 in
set_option maxHeartbeats 2000000 in
theorem rshare_any (rv ov : Value) (rows : List (List Int)) (owners : List Int) (r v : Int) (w : World) (hR : Rows2 w rv rows) (hO : Ints w ov owners) :
    Calls Tryz.prog 81 #[.agg #[rv, ov], .agg #[.int .i64 r, .int .i64 v]] w fun e w' => e = .returned (.bool (rightS rows r v)) ∧ Below w.heap.size w w' := by
  obtain ⟨W1, hW1, hb1, hr1, hz⟩ := box_prog w rv ov 25
  obtain ⟨W2, hW2, hb2, hr2, hz2⟩ := box_prog W1 (.int .i64 r) (.int .i64 v) 29
  obtain ⟨a, cap, rfl, -, hlen, -⟩ := id hR
  obtain ⟨a2, cap2, rfl, -, hlen2, -⟩ := id hO
  have hsz : W1.heap.size = w.heap.size + 1 := by rw [hW1]; simp
  have c0 : W2.cell? ⟨w.heap.size, 0, none⟩ = some (.slice a rows.length cap) := below_cell hb2 (row_cell hr1 rfl)
  have s0 : W2.cell? ⟨w.heap.size + 1, 0, none⟩ = some (.int .i64 r) := by rw [← hsz]; exact row_cell hr2 rfl
  have s1 : W2.cell? ⟨w.heap.size + 1, 1, none⟩ = some (.int .i64 v) := by rw [← hsz]; exact row_cell hr2 rfl
  have HW2 : Hid ((w.alloc (.cells #[.slice a rows.length cap, .slice a2 owners.length cap2] 25)).alloc (.cells #[.int .i64 r, .int .i64 v] 29) = W2) := Lib.hid (by rw [hW2, hW1])
  have HB := Lib.hid (hb1.trans (hb2.mono hb1.size))
  clear hR hO hr1 hr2 hW1 hW2 hb1 hb2 hsz hz hz2
  by_cases h0 : 0 ≤ r
  · by_cases h1 : r < (rows.length : Int)
    · have HV := Lib.hid (show rightS rows r v = !oddQ v by unfold rightS; rw [decide_eq_true h0, decide_eq_true h1]; rfl)
      go_enter Tryz.func81, Tryz.ntmps81
      go_wp2_with (rw [HW2.out])
      with_reducible refine (rnumber34_any v _).mono ?_
      rintro e w3 ⟨rfl, rfl⟩
      go_wp2_with fail
      go_ret
      exact ⟨ret_bool HV.out.symm, HB.out⟩
    · have HV := Lib.hid (show rightS rows r v = false by unfold rightS; rw [decide_eq_false h1]; simp)
      go_enter Tryz.func81, Tryz.ntmps81
      go_wp2_with (rw [HW2.out])
      go_ret
      exact ⟨ret_bool HV.out.symm, HB.out⟩
  · have HV := Lib.hid (show rightS rows r v = false by unfold rightS; rw [decide_eq_false h0]; rfl)
    go_enter Tryz.func81, Tryz.ntmps81
    go_wp2_with (rw [HW2.out])
    go_ret
    exact ⟨ret_bool HV.out.symm, HB.out⟩

set_option maxRecDepth 100000 in
set_option maxHeartbeats 4000000 in
theorem rFits_any (rv ov cv : Value) (rows : List (List Int)) (owners cs : List Int) (r v : Int) (w : World) (hR : Rows2 w rv rows) (hO : Ints w ov owners) (hC : Ints w cv cs) (hr : R64 r) (hv : R64 v) :
    Calls Tryz.prog 35 #[.agg #[rv, ov], cv, .agg #[.int .i64 r, .int .i64 v]] w fun e w' => e = .returned (.tuple #[.bool (fitB rows owners cs r v), .int .i64 (fitE rows owners cs r v)]) ∧ Below w.heap.size w w' := by
  obtain ⟨W1, hW1, hb1, hr1, hz⟩ := box_prog w rv ov 25
  obtain ⟨W2, hW2, hb2, hr2, hz2⟩ := box_prog W1 (.int .i64 r) (.int .i64 v) 29
  have hsz : W1.heap.size = w.heap.size + 1 := by rw [hW1]; simp
  have hb := hb1.trans (hb2.mono hb1.size)
  have HR2 := Lib.hid (hR.below hb)
  have HO2 := Lib.hid (hO.below hb)
  have HC2 := Lib.hid (hC.below hb)
  have HPC := Lib.hid (rpCheck_any rv ov rows owners W2 HR2.out HO2.out)
  obtain ⟨a, cap, rfl, -, hlen, -⟩ := id hR
  obtain ⟨a2, cap2, rfl, -, hlen2, -⟩ := id hO
  obtain ⟨a3, cap3, rfl, -, hlen3, hcr, -⟩ := id hC
  have c0 : W2.cell? ⟨w.heap.size, 0, none⟩ = some (.slice a rows.length cap) := below_cell hb2 (row_cell hr1 rfl)
  have c1 : W2.cell? ⟨w.heap.size, 1, none⟩ = some (.slice a2 owners.length cap2) := below_cell hb2 (row_cell hr1 rfl)
  have s0 : W2.cell? ⟨w.heap.size + 1, 0, none⟩ = some (.int .i64 r) := by rw [← hsz]; exact row_cell hr2 rfl
  have s1 : W2.cell? ⟨w.heap.size + 1, 1, none⟩ = some (.int .i64 v) := by rw [← hsz]; exact row_cell hr2 rfl
  have HW2 : Hid ((w.alloc (.cells #[.slice a rows.length cap, .slice a2 owners.length cap2] 25)).alloc (.cells #[.int .i64 r, .int .i64 v] 29) = W2) := Lib.hid (by rw [hW2, hW1])
  have HB := Lib.hid hb
  clear hR hO hC hr1 hr2 hW1 hW2 hb1 hb2 hsz hz hz2 hb hcr
  by_cases hp : progE rows owners = 0
  · have HE := Lib.hid (comB_E (cs := cs) hp)
    have hcq := (progE_ok hp).cols_le
    have HCM := Lib.hid (fun W h1 h2 h3 => rcommits_any (.slice a rows.length cap) (.slice a2 owners.length cap2) (.slice a3 cs.length cap3) rows owners cs W h1 h2 h3 hcq)
    rw [hp] at HPC
    clear hp hcq
    cases ec : comB rows cs with
    | false =>
      rw [ec] at HE HCM
      have HV : Hid (fitE rows owners cs r v = 340) := Lib.hid (by unfold fitE; rw [HE.out]; rfl)
      have HW : Hid (fitB rows owners cs r v = false) := Lib.hid (by unfold fitB; rw [HV.out]; rfl)
      clear ec
      go_enter Tryz.func35, Tryz.ntmps35
      go_wp2_with fail
      rw [HW2.out]
      refine HPC.out.mono ?_
      rintro e w3 ⟨rfl, hb3⟩
      have d0 := below_cell hb3 c0
      have d1 := below_cell hb3 c1
      have HR3 := Lib.hid (HR2.out.below hb3)
      have HO3 := Lib.hid (HO2.out.below hb3)
      have HC3 := Lib.hid (HC2.out.below hb3)
      have HB3 := Lib.hid (HB.out.trans (hb3.mono HB.out.size))
      clear hb3
      go_wp2_with fail
      refine (HCM.out _ HR3.out HO3.out HC3.out).mono ?_
      rintro e w4 ⟨rfl, hb4⟩
      go_wp2_with fail
      go_ret2
      exact ⟨by rw [HV.out, HW.out]; rfl, HB3.out.trans (hb4.mono HB3.out.size)⟩
    | true =>
      rw [ec] at HE HCM
      have HD : Hid (dchkE rows owners cs = 0) := Lib.hid (by rw [HE.out]; rfl)
      have HK := Lib.hid (dchkE_ok HD.out)
      clear ec
      have HFE := Lib.hid (show fitE rows owners cs r v = if rightS rows r v = true then 0 else 340 by unfold fitE; rw [if_neg (by simp [HD.out])])
      cases er : rightS rows r v with
      | false =>
        have HV : Hid (fitE rows owners cs r v = 340) := Lib.hid (by rw [HFE.out, er]; rfl)
        have HW : Hid (fitB rows owners cs r v = false) := Lib.hid (by unfold fitB; rw [HV.out]; rfl)
        have HRS := Lib.hid er
        clear er
        go_enter Tryz.func35, Tryz.ntmps35
        go_wp2_with fail
        rw [HW2.out]
        refine HPC.out.mono ?_
        rintro e w3 ⟨rfl, hb3⟩
        have d0 := below_cell hb3 c0
        have d1 := below_cell hb3 c1
        have t0 := below_cell hb3 s0
        have t1 := below_cell hb3 s1
        have HR3 := Lib.hid (HR2.out.below hb3)
        have HO3 := Lib.hid (HO2.out.below hb3)
        have HC3 := Lib.hid (HC2.out.below hb3)
        have HB3 := Lib.hid (HB.out.trans (hb3.mono HB.out.size))
        clear hb3 c0 c1 s0 s1
        go_wp2_with fail
        refine (HCM.out _ HR3.out HO3.out HC3.out).mono ?_
        rintro e w4 ⟨rfl, hb4⟩
        have x0 := below_cell hb4 d0
        have x1 := below_cell hb4 d1
        have v0 := below_cell hb4 t0
        have v1 := below_cell hb4 t1
        have HR4 := Lib.hid (HR3.out.below hb4)
        have HO4 := Lib.hid (HO3.out.below hb4)
        have HB4 := Lib.hid (HB3.out.trans (hb4.mono HB3.out.size))
        clear hb4 d0 d1 t0 t1
        go_wp2_with fail
        refine (rshare_any _ _ rows owners r v _ HR4.out HO4.out).mono ?_
        rintro e w5 ⟨rfl, hb5⟩
        rw [HRS.out]
        go_wp2_with fail
        go_ret2
        exact ⟨by rw [HV.out, HW.out]; rfl, HB4.out.trans (hb5.mono HB4.out.size)⟩
      | true =>
        have HV : Hid (fitE rows owners cs r v = 0) := Lib.hid (by rw [HFE.out, er]; rfl)
        have HRS := Lib.hid er
        obtain ⟨⟨hg0, hg1⟩, hv0⟩ := rightS_iff.1 er
        obtain ⟨n, hn⟩ : ∃ n : Nat, r = n := ⟨r.toNat, by omega⟩
        have hlt : n < rows.length := by omega
        have HW : Hid (fitB rows owners cs r v = (powE 4 v == pubQ (rows.getD n []) cs)) := Lib.hid (by unfold fitB; rw [if_pos HV.out, hn, Int.toNat_natCast])
        have HPB := Lib.hid (fun W h1 h2 h3 => rpublic0_any (.slice a rows.length cap) (.slice a2 owners.length cap2) (.slice a3 cs.length cap3) rows owners cs n W h1 h2 h3 HK.out hlt)
        obtain ⟨q, hq⟩ : ∃ q, q = pubQ (rows.getD n []) cs := ⟨_, rfl⟩
        rw [← hq] at HW HPB
        have HPW := Lib.hid (fun w => rpower34_any 4 v w el_four hv)
        obtain ⟨p, hp4⟩ : ∃ p, p = powE 4 v := ⟨_, rfl⟩
        rw [← hp4] at HW HPW
        subst hn
        clear er hq hp4 hv0
        go_enter Tryz.func35, Tryz.ntmps35
        go_wp2_with fail
        rw [HW2.out]
        refine HPC.out.mono ?_
        rintro e w3 ⟨rfl, hb3⟩
        have d0 := below_cell hb3 c0
        have d1 := below_cell hb3 c1
        have t0 := below_cell hb3 s0
        have t1 := below_cell hb3 s1
        have HR3 := Lib.hid (HR2.out.below hb3)
        have HO3 := Lib.hid (HO2.out.below hb3)
        have HC3 := Lib.hid (HC2.out.below hb3)
        have HB3 := Lib.hid (HB.out.trans (hb3.mono HB.out.size))
        clear hb3 c0 c1 s0 s1
        go_wp2_with fail
        refine (HCM.out _ HR3.out HO3.out HC3.out).mono ?_
        rintro e w4 ⟨rfl, hb4⟩
        have x0 := below_cell hb4 d0
        have x1 := below_cell hb4 d1
        have v0 := below_cell hb4 t0
        have v1 := below_cell hb4 t1
        have HR4 := Lib.hid (HR3.out.below hb4)
        have HO4 := Lib.hid (HO3.out.below hb4)
        have HC4 := Lib.hid (HC3.out.below hb4)
        have HB4 := Lib.hid (HB3.out.trans (hb4.mono HB3.out.size))
        clear hb4 d0 d1 t0 t1
        go_wp2_with fail
        refine (rshare_any _ _ rows owners n v _ HR4.out HO4.out).mono ?_
        rintro e w5 ⟨rfl, hb5⟩
        rw [HRS.out]
        have d0 := below_cell hb5 x0
        have d1 := below_cell hb5 x1
        have t0 := below_cell hb5 v0
        have t1 := below_cell hb5 v1
        have hbd : Below w5.heap.size w5 w5.drew := (Below.refl _ _).drew
        have HR5 := Lib.hid ((HR4.out.below hb5).below hbd)
        have HO5 := Lib.hid ((HO4.out.below hb5).below hbd)
        have HC5 := Lib.hid ((HC4.out.below hb5).below hbd)
        have HB5 := Lib.hid ((HB4.out.trans (hb5.mono HB4.out.size)).drew)
        clear hb5 hbd x0 x1 v0 v1
        go_wp2_with fail
        go_region_held3 (fun w' => w'.cell? ⟨w.heap.size, 0, none⟩ = some (.slice a rows.length cap) ∧ w'.cell? ⟨w.heap.size, 1, none⟩ = some (.slice a2 owners.length cap2) ∧ w'.cell? ⟨w.heap.size + 1, 0, none⟩ = some (.int .i64 n) ∧ w'.cell? ⟨w.heap.size + 1, 1, none⟩ = some (.int .i64 v)) (first | go_keep | exact ⟨z0, z1, z2, z3⟩)
          (first
            | (go_at_call 82; (with_reducible refine (HPW.out _).mono ?_); rintro e w6 ⟨rfl, rfl⟩)
            | (go_at_call 83; (refine (HPB.out _ HR5.out HO5.out HC5.out).mono ?_); rintro e w6 ⟨rfl, hb6⟩; have z0 := below_cell hb6 d0; have z1 := below_cell hb6 d1; have z2 := below_cell hb6 t0; have z3 := below_cell hb6 t1; have HB6 := Lib.hid (HB5.out.trans (hb6.mono HB5.out.size)); clear hb6))
        all_goals
          go_wp2_with fail
          go_ret2
          exact ⟨by rw [HV.out, HW.out]; rfl, HB6.out⟩
  · have HV : Hid (fitE rows owners cs r v = progE rows owners) := Lib.hid (by unfold fitE dchkE; rw [if_pos (by rw [if_pos hp]; exact hp), if_pos hp])
    have HW : Hid (fitB rows owners cs r v = false) := Lib.hid (by unfold fitB; rw [HV.out, if_neg hp])
    have h2 : (progE rows owners != 0) = true := bne_iff_ne.2 hp
    go_enter Tryz.func35, Tryz.ntmps35
    go_wp2_with fail
    rw [HW2.out]
    refine HPC.out.mono ?_
    rintro e w3 ⟨rfl, hb3⟩
    go_wp2_with fail
    go_ret2
    exact ⟨by rw [HV.out, HW.out]; rfl, HB.out.trans (hb3.mono HB.out.size)⟩

end Go.Proofs.YtjjoadmkpbmhpaaGreat
