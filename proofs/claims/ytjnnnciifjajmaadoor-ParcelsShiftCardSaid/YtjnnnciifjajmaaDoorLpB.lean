/- ParcelsBack: what is sealed for the key of a secret is opened with this secret. -/
import Derived.Test.YtjnnnciifjajmaaDoorParG
namespace Go.Proofs.YtjnnnciifjajmaaDoor
open Go.RowKit FP

theorem sealE_bad {u key dealer row value : Int} (hk : El key) (h : sealE u key dealer row value ≠ 0) : inB u 1 1073741788 = true → inB dealer 0 63 = true → inB row 0 63 = true → inB value 0 1073741788 = false := by
  intro h1 h2 h3
  cases h4 : inB value 0 1073741788 with
  | false => rfl
  | true =>
    exact absurd (sealE_ok.2 ⟨inB_iff.1 h1, hk, inB_iff.1 h2, inB_iff.1 h3, inB_iff.1 h4⟩) h

set_option maxRecDepth 100000 in
set_option maxHeartbeats 4000000 in
theorem back_any (u s dealer row value : Int) (w : World) (_hu : R64 u) (hs : R64 s) (_hd : R64 dealer) (_hr : R64 row) (_hv : R64 value) (hG : Glob w) :
    Calls Tryd.prog 5 #[.int .i64 u, .int .i64 s, .int .i64 dealer, .int .i64 row, .int .i64 value] w fun r w' => r = .returned (.bool true) ∧ Below w.heap.size w w' := by
  cases hs1 : inB s 1 1073741788 with
  | false =>
    have HE : openE s 0 0 4 0 = 110 := by unfold openE; rw [firstE_cons, if_neg (by rw [hs1]; decide)]
    have HO := Lib.hid (fun w => open_is s 0 0 4 0 110 w (R64.mk (by omega) (by omega)) HE (by decide))
    have HS := Lib.hid hs1
    clear HE hs1
    go_enter Tryd.func5, Tryd.ntmps5
    go_wp2_with fail
    with_reducible refine (sane35_any _ hG).mono ?_
    rintro r w1 ⟨rfl, hb1⟩
    go_wp2_with fail
    with_reducible refine (secret35_any s _).mono ?_
    rintro r w2 ⟨rfl, rfl⟩
    rw [HS.out]
    go_wp2_with fail
    with_reducible refine (HO.out _).mono ?_
    rintro r w3 ⟨rfl, hb3⟩
    go_wp2_with fail
    go_ret
    exact ⟨rfl, hb1.trans (hb3.mono hb1.size)⟩
  | true =>
    have hs2 := inB_iff.1 hs1
    have hk := el_powE el_four s
    have HS := Lib.hid hs1
    have HP := Lib.hid (fun w => pow_yes 4 s w el_four hs)
    have HPK := Lib.hid (point_key u s)
    clear hs1
    by_cases hE : sealE u (powE 4 s) dealer row value = 0
    · have hSd := sealE_ok.1 hE
      have hRP := sealed_right hSd
      have HSL := Lib.hid (fun w hG => seal_yes u (powE 4 s) dealer row value w hSd hG)
      have HOP := Lib.hid (fun w hG => open_val s dealer row (powE 4 u) (cipV u (powE 4 s) dealer row value) value w hs2 hSd.dealer hRP (by rw [HPK.out]; exact opnV_cipV hSd.value) hG)
      have hpt := hRP.pt.r64
      have HRB := Lib.hid (rightB_iff.2 hRP)
      generalize cipV u (powE 4 s) dealer row value = c at *
      generalize powE 4 s = key at *
      generalize powE 4 u = pt at *
      clear hE hSd hRP hs2 hk HPK
      go_enter Tryd.func5, Tryd.ntmps5
      go_wp2_with fail
      with_reducible refine (sane35_any _ hG).mono ?_
      rintro r w1 ⟨rfl, hb1⟩
      go_wp2_with fail
      with_reducible refine (secret35_any s _).mono ?_
      rintro r w2 ⟨rfl, rfl⟩
      rw [HS.out]
      go_wp2_with fail
      with_reducible refine (HP.out _).mono ?_
      rintro r w3 ⟨rfl, hb3⟩
      have HB3 := Lib.hid (hb1.trans (hb3.mono hb1.size))
      have HG3 := Lib.hid (hG.below HB3.out)
      clear hb1 hb3
      go_wp2_with fail
      with_reducible refine (HSL.out _ HG3.out).mono ?_
      rintro r w4 ⟨rfl, hb4⟩
      obtain ⟨hb5, c0, c1, c2⟩ := cell_agg3 w4 row pt c 31
      have HB4 := Lib.hid (HB3.out.trans (hb4.mono HB3.out.size))
      have HB5 := Lib.hid (HB4.out.trans (hb5.mono HB4.out.size))
      have HG5 := Lib.hid (hG.below HB5.out)
      clear hb4 hb5
      go_wp2_with fail
      with_reducible refine (HOP.out _ HG5.out).mono ?_
      rintro r w6 ⟨rfl, hb6⟩
      have x0 := below_cell hb6 c0
      have x1 := below_cell hb6 c1
      have x2 := below_cell hb6 c2
      have HB6 := Lib.hid (HB5.out.trans (hb6.mono HB5.out.size))
      clear hb6 c0 c1 c2
      go_wp2_with fail
      with_reducible refine (right35_any row pt c _ hpt).mono ?_
      rintro r w7 ⟨rfl, hb7⟩
      rw [HRB.out]
      go_wp2_with fail
      go_ret
      exact ⟨rfl, HB6.out.trans (hb7.mono HB6.out.size)⟩
    · have hbad := sealE_bad hk hE
      have HSL := Lib.hid (fun w => seal_no u (powE 4 s) dealer row value w hk.r64 hE)
      have h2 : (sealE u (powE 4 s) dealer row value != 0) = true := bne_iff_ne.2 hE
      generalize sealE u (powE 4 s) dealer row value = E at *
      generalize powE 4 s = key at *
      clear hk hs2 HPK
      have HBAD := Lib.hid hbad
      clear hbad
      go_enter Tryd.func5, Tryd.ntmps5
      go_wp2_with fail
      with_reducible refine (sane35_any _ hG).mono ?_
      rintro r w1 ⟨rfl, hb1⟩
      go_wp2_with fail
      with_reducible refine (secret35_any s _).mono ?_
      rintro r w2 ⟨rfl, rfl⟩
      rw [HS.out]
      go_wp2_with fail
      with_reducible refine (HP.out _).mono ?_
      rintro r w3 ⟨rfl, hb3⟩
      have HB3 := Lib.hid (hb1.trans (hb3.mono hb1.size))
      clear hb1 hb3
      go_wp2_with fail
      with_reducible refine (HSL.out _).mono ?_
      rintro r w4 ⟨rfl, hb4⟩
      obtain ⟨hb5, c0, c1, c2⟩ := cell_agg3 w4 0 0 0 31
      have HB4 := Lib.hid (HB3.out.trans (hb4.mono HB3.out.size))
      have HB5 := Lib.hid (HB4.out.trans (hb5.mono HB4.out.size))
      clear hb4 hb5
      go_wp2_with fail
      with_reducible refine (secret35_any u _).mono ?_
      rintro r w6 ⟨rfl, rfl⟩
      cases e1 : inB u 1 1073741788 with
      | false =>
        clear e1
        go_wp2_with fail
        go_ret
        exact ⟨rfl, HB5.out⟩
      | true =>
        have E1 := Lib.hid e1
        clear e1
        go_wp2_with fail
        with_reducible refine (person35_any dealer _).mono ?_
        rintro r w6 ⟨rfl, rfl⟩
        cases e2 : inB dealer 0 63 with
        | false =>
          clear e2
          go_wp2_with fail
          go_ret
          exact ⟨rfl, HB5.out⟩
        | true =>
          have E2 := Lib.hid e2
          clear e2
          go_wp2_with fail
          with_reducible refine (row35_any row _).mono ?_
          rintro r w6 ⟨rfl, rfl⟩
          cases e3 : inB row 0 63 with
          | false =>
            clear e3
            go_wp2_with fail
            go_ret
            exact ⟨rfl, HB5.out⟩
          | true =>
            have E4 := Lib.hid (HBAD.out E1.out E2.out e3)
            clear e3
            go_wp2_with fail
            with_reducible refine (number35_any value _).mono ?_
            rintro r w6 ⟨rfl, rfl⟩
            rw [E4.out]
            go_wp2_with fail
            go_ret
            exact ⟨rfl, HB5.out⟩

end Go.Proofs.YtjnnnciifjajmaaDoor
