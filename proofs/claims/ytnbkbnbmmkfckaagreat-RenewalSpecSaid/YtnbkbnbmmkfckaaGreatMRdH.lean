/- The reference of dealing: Deal, whatever comes of it. The reference of dealing: Recover, where it refuses; the append of a row in a drawn region. The reference of dealing: two rows of a call's own, side by side. -/
import Derived.Test.YtnbkbnbmmkfckaaGreatMRdE
import Derived.Test.YtnbkbnbmmkfckaaGreatMRegIn
namespace Go.Proofs.YtnbkbnbmmkfckaaGreat
open Go.RowKit FP

set_option maxRecDepth 100000 in
set_option maxHeartbeats 4000000 in
theorem rDeal_no (rv ov mv : Value) (rows : List (List Int)) (owners : List Int) (x : Int) (rnd : List Int) (w : World) (hR : Rows2 w rv rows) (hO : Ints w ov owners) (hM : Ints w mv rnd) (he : dealE rows owners x rnd ≠ 0) :
    Calls Tryz.prog 19 #[.agg #[rv, ov], .int .i64 x, mv] w fun r w' => r = .returned (.tuple #[.slice none 0 0, .slice none 0 0, .int .i64 (dealE rows owners x rnd)]) ∧ Below w.heap.size w w' := by
  obtain ⟨W1, hW1, hb1, hr1, hz⟩ := box_prog w rv ov 25
  have HR1 := Lib.hid (hR.below hb1)
  have HO1 := Lib.hid (hO.below hb1)
  have HM1 := Lib.hid (hM.below hb1)
  have HPC := Lib.hid (rpCheck_any rv ov rows owners W1 HR1.out HO1.out)
  obtain ⟨a, cap, rfl, -, hlen, -⟩ := id hR
  obtain ⟨a2, cap2, rfl, -, hlen2, -⟩ := id hO
  obtain ⟨a3, cap3, rfl, -, hlen3, -⟩ := id hM
  have c0 : W1.cell? ⟨w.heap.size, 0, none⟩ = some (.slice a rows.length cap) := row_cell hr1 rfl
  have c1 : W1.cell? ⟨w.heap.size, 1, none⟩ = some (.slice a2 owners.length cap2) := row_cell hr1 rfl
  have HW1 := Lib.hid hW1
  have HB1 := Lib.hid hb1
  clear hR hO hM hr1 hW1 hb1
  by_cases hp : progE rows owners = 0
  · have HV : Hid (dealE rows owners x rnd = 1) := Lib.hid (by
      unfold dealE at he ⊢
      rw [if_neg (by simp [hp])] at he ⊢
      split at he
      · rename_i h2; rw [if_pos h2]
      · exact absurd rfl he)
    have HPO := Lib.hid (progE_ok hp)
    rw [hp] at HPC
    have HE0 := Lib.hid he
    have HP0 := Lib.hid hp
    clear he hp
    have hcc := HPO.out.cols
    have hcu := HPO.out.cols_le
    have hci : (1 : Int) ≤ (colsQ rows : Nat) := by omega
    have hcv : ((colsQ rows : Nat) : Int) ≤ 64 := by omega
    cases ex : oddQ x with
    | true =>
      have HX : Hid ((!oddQ x) = false) := Lib.hid (by rw [ex]; rfl)
      clear ex
      go_enter Tryz.func19, Tryz.ntmps19
      go_wp2_with fail
      rw [← HW1.out]
      refine HPC.out.mono ?_
      rintro r w2 ⟨rfl, hb2⟩
      have HB2 := Lib.hid (HB1.out.trans (hb2.mono HB1.out.size))
      have d0 := below_cell hb2 c0
      have d1 := below_cell hb2 c1
      clear hb2
      go_wp2_with fail
      with_reducible refine (rnumber34_any x _).mono ?_
      rintro r w3 ⟨rfl, rfl⟩
      rw [HX.out]
      go_wp2_with fail
      go_ret3
      exact ⟨by rw [HV.out]; rfl, HB2.out⟩
    | false =>
      have HXE := Lib.hid ex
      have HX : Hid ((!oddQ x) = true) := Lib.hid (by rw [ex]; rfl)
      clear ex
      by_cases hl : rnd.length + 1 = colsQ rows
      · have hlb : ((rnd.length : Int) != ((colsQ rows : Nat) : Int) - 1) = false := bne_eq_false_iff_eq.2 (by omega)
        have HRn : Hid ((!rnd.any oddQ) = false) := Lib.hid (by
          cases er : rnd.any oddQ with
          | true => rfl
          | false =>
            exfalso
            apply HE0.out
            unfold dealE
            rw [if_neg (by simp [HP0.out]), if_neg]
            rw [HXE.out, er]
            rintro (h | h | h)
            · cases h
            · cases h
            · exact h hl)
        go_enter Tryz.func19, Tryz.ntmps19
        go_wp2_with fail
        rw [← HW1.out]
        refine HPC.out.mono ?_
        rintro r w2 ⟨rfl, hb2⟩
        have HB2 := Lib.hid (HB1.out.trans (hb2.mono HB1.out.size))
        have HM2 := Lib.hid (HM1.out.below hb2)
        have HR2 := Lib.hid (HR1.out.below hb2)
        have HO2 := Lib.hid (HO1.out.below hb2)
        have d0 := below_cell hb2 c0
        have d1 := below_cell hb2 c1
        clear hb2
        go_wp2_with fail
        with_reducible refine (rnumber34_any x _).mono ?_
        rintro r w3 ⟨rfl, rfl⟩
        rw [HX.out]
        go_wp2_with fail
        refine (rcolumns_any _ _ rows owners _ HR2.out HO2.out).mono ?_
        rintro r w6 ⟨rfl, hb6⟩
        have HM6 := Lib.hid (HM2.out.below hb6)
        have HB6 := Lib.hid (HB2.out.trans (hb6.mono HB2.out.size))
        clear hb6
        go_wp2_with fail
        refine (rNumbers34_any _ rnd _ HM6.out).mono ?_
        rintro r w7 ⟨rfl, rfl⟩
        rw [HRn.out]
        go_wp2_with fail
        go_ret3
        exact ⟨by rw [HV.out]; rfl, HB6.out⟩
      · have hlb : ((rnd.length : Int) != ((colsQ rows : Nat) : Int) - 1) = true := bne_iff_ne.2 (by omega)
        go_enter Tryz.func19, Tryz.ntmps19
        go_wp2_with fail
        rw [← HW1.out]
        refine HPC.out.mono ?_
        rintro r w2 ⟨rfl, hb2⟩
        have HB2 := Lib.hid (HB1.out.trans (hb2.mono HB1.out.size))
        have HR2 := Lib.hid (HR1.out.below hb2)
        have HO2 := Lib.hid (HO1.out.below hb2)
        have d0 := below_cell hb2 c0
        have d1 := below_cell hb2 c1
        clear hb2
        go_wp2_with fail
        with_reducible refine (rnumber34_any x _).mono ?_
        rintro r w3 ⟨rfl, rfl⟩
        rw [HX.out]
        go_wp2_with fail
        refine (rcolumns_any _ _ rows owners _ HR2.out HO2.out).mono ?_
        rintro r w6 ⟨rfl, hb6⟩
        go_wp2_with fail
        go_ret3
        exact ⟨by rw [HV.out]; rfl, HB2.out.trans (hb6.mono HB2.out.size)⟩
  · have HV : Hid (dealE rows owners x rnd = progE rows owners) := Lib.hid (by unfold dealE; rw [if_pos hp])
    have h2 : (progE rows owners != 0) = true := bne_iff_ne.2 hp
    clear he
    go_enter Tryz.func19, Tryz.ntmps19
    go_wp2_with fail
    rw [← HW1.out]
    refine HPC.out.mono ?_
    rintro r w2 ⟨rfl, hb2⟩
    go_wp2_with fail
    go_ret3
    exact ⟨by rw [HV.out]; rfl, HB1.out.trans (hb2.mono HB1.out.size)⟩

set_option maxRecDepth 100000 in
theorem rDeal_any (rv ov mv : Value) (rows : List (List Int)) (owners : List Int) (x : Int) (rnd : List Int) (w : World) (hR : Rows2 w rv rows) (hO : Ints w ov owners) (hM : Ints w mv rnd) :
    Calls Tryz.prog 19 #[.agg #[rv, ov], .int .i64 x, mv] w fun r w' => ∃ lv cv, r = .returned (.tuple #[lv, cv, .int .i64 (dealE rows owners x rnd)]) ∧ Shares w' lv (if dealE rows owners x rnd = 0 then dealL rows (x :: rnd) else []) ∧ Ints w' cv (if dealE rows owners x rnd = 0 then dealC (x :: rnd) else []) ∧ Below w.heap.size w w' := by
  by_cases he : dealE rows owners x rnd = 0
  · have hp : progE rows owners = 0 := by
      unfold dealE at he
      by_cases hp : progE rows owners = 0
      · exact hp
      · rw [if_pos hp] at he; exact absurd he hp
    rw [if_pos he, if_pos he, he]
    exact rDeal_yes rv ov mv rows owners x rnd w hR hO hM (dealE_ok he) hp
  · rw [if_neg he, if_neg he]
    exact (rDeal_no rv ov mv rows owners x rnd w hR hO hM he).mono fun r w' ⟨h1, h2⟩ => ⟨_, _, h1, Shares.nil _ _ _, Ints.nil _ _ _, h2⟩

end Go.Proofs.YtnbkbnbmmkfckaaGreat

namespace Go.Proofs.YtnbkbnbmmkfckaaGreat
open Go.RowKit FP

end Go.Proofs.YtnbkbnbmmkfckaaGreat

namespace Go.Proofs.YtnbkbnbmmkfckaaGreat
open Go.RowKit FP

end Go.Proofs.YtnbkbnbmmkfckaaGreat
