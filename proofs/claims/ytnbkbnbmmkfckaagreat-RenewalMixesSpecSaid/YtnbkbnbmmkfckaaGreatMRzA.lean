/- The reference of renewing: Key, Fit, sameRows, nothing. The reference of renewing: two own rows that are changed in place. -/
import Derived.Test.YtnbkbnbmmkfckaaGreatMReS
import Derived.Test.YtnbkbnbmmkfckaaGreatMReF
import Derived.Test.YtnbkbnbmmkfckaaGreatMRdE
import Derived.Test.YtnbkbnbmmkfckaaGreatMRdA
import Derived.Test.YtnbkbnbmmkfckaaGreatMReN
import Derived.Test.YtnbkbnbmmkfckaaGreatMRegIn
import Derived.Lib.SmallJoins
namespace Go.Proofs.YtnbkbnbmmkfckaaGreat
open Go.RowKit FP

set_option maxRecDepth 100000 in
set_option maxHeartbeats 4000000 in
theorem rkey_any (ep : Int) (rv ov cv : Value) (rows : List (List Int)) (owners cs : List Int) (w : World) (hR : Rows2 w rv rows) (hO : Ints w ov owners) (hC : Ints w cv cs) (hcq : colsQ rows ≤ 64) :
    Calls Tryz.prog 33 #[.agg #[.int .i64 ep, rv, ov, cv]] w fun e w' => e = .returned (.bool (keyB rows ep cs)) ∧ Below w.heap.size w w' := by
  obtain ⟨W1, hW1, hb1, hr1, -⟩ := box_key w (.int .i64 ep) rv ov cv 27
  have HR := Lib.hid (hR.below hb1)
  have HO := Lib.hid (hO.below hb1)
  have HC := Lib.hid (hC.below hb1)
  obtain ⟨a1, k1, rfl, -, hl1, -⟩ := id hR
  obtain ⟨a2, k2, rfl, -⟩ := id hO
  obtain ⟨a3, k3, rfl, -, hl3, -⟩ := id hC
  have c0 : W1.cell? ⟨w.heap.size, 0, none⟩ = some (.int .i64 ep) := row_cell hr1 rfl
  have c1 : W1.cell? ⟨w.heap.size, 1, none⟩ = some (.slice a1 rows.length k1) := row_cell hr1 rfl
  have c2 : W1.cell? ⟨w.heap.size, 2, none⟩ = some (.slice a2 owners.length k2) := row_cell hr1 rfl
  have c3 : W1.cell? ⟨w.heap.size, 3, none⟩ = some (.slice a3 cs.length k3) := row_cell hr1 rfl
  have HW1 := Lib.hid hW1
  have HB := Lib.hid hb1
  have HKC := Lib.hid (rcommits_any (.slice a1 rows.length k1) (.slice a2 owners.length k2) (.slice a3 cs.length k3) rows owners cs W1 HR.out HO.out HC.out hcq)
  clear hR hO hC hr1 hW1 hb1
  by_cases h0 : 0 ≤ ep
  · have d0 : decide (0 ≤ ep) = true := decide_eq_true h0
    by_cases h1 : ep ≤ 64
    · have d1 : decide (ep ≤ 64) = true := decide_eq_true h1
      have HV : Hid (keyB rows ep cs = comB rows cs) := Lib.hid (by unfold keyB; rw [d0, d1]; rfl)
      clear h0 h1
      go_enter Tryz.func33, Tryz.ntmps33
      go_wp2_with (rw [← HW1.out])
      refine (HKC.out).mono ?_
      rintro e w2 ⟨rfl, hb2⟩
      go_wp2_with fail
      go_ret
      exact ⟨ret_bool HV.out.symm, HB.out.trans (hb2.mono HB.out.size)⟩
    · have d1 : decide (ep ≤ 64) = false := decide_eq_false h1
      have HV : Hid (keyB rows ep cs = false) := Lib.hid (by unfold keyB; rw [d0, d1]; rfl)
      clear h0 h1
      go_enter Tryz.func33, Tryz.ntmps33
      go_wp2_with (rw [← HW1.out])
      go_ret
      exact ⟨ret_bool HV.out.symm, HB.out⟩
  · have d0 : decide (0 ≤ ep) = false := decide_eq_false h0
    have HV : Hid (keyB rows ep cs = false) := Lib.hid (by unfold keyB; rw [d0]; rfl)
    clear h0
    go_enter Tryz.func33, Tryz.ntmps33
    go_wp2_with (rw [← HW1.out])
    go_ret
    exact ⟨ret_bool HV.out.symm, HB.out⟩

theorem all_take {β : Type} {f : β → Bool} {l : List β} {k : Nat} (hk : k < l.length) (h : (l.take k).all f = true) : (l.take (k + 1)).all f = f l[k] := by
  rw [List.take_succ_eq_append_getElem hk, List.all_append, h]
  simp
theorem all_bad {β : Type} {f : β → Bool} {l : List β} {k : Nat} (hk : k < l.length) (h : f l[k] = false) : l.all f = false := by
  rw [Bool.eq_false_iff]
  intro h2
  rw [List.all_eq_true.1 h2 _ (List.getElem_mem hk)] at h
  cases h

set_option maxRecDepth 100000 in
set_option maxHeartbeats 8000000 in
theorem rfit_any (rv ov uv lv : Value) (rows : List (List Int)) (owners cs : List Int) (l : List (Int × Int)) (w : World) (hR : Rows2 w rv rows) (hO : Ints w ov owners) (hU : Ints w uv cs) (hL : Shares w lv l) (hd : dchkE rows owners cs = 0) :
    Calls Tryz.prog 34 #[.agg #[rv, ov], uv, lv] w fun e w' => e = .returned (.bool (fitL rows cs l)) ∧ Below w.heap.size w w' := by
  obtain ⟨W1, hW1, hb1, hr1, hz⟩ := box_prog w rv ov 25
  have HR := Lib.hid (hR.below hb1)
  have HO := Lib.hid (hO.below hb1)
  have HU := Lib.hid (hU.below hb1)
  have HL := Lib.hid (hL.below hb1)
  obtain ⟨a1, k1, rfl, -, hl1, -⟩ := id hR
  obtain ⟨a2, k2, rfl, -, hl2, -⟩ := id hO
  obtain ⟨a4, k4, rfl, -, hl4, -⟩ := id hU
  obtain ⟨a5, k5, rfl, -, hl5, hr5, -⟩ := id hL
  have c0 : W1.cell? ⟨w.heap.size, 0, none⟩ = some (.slice a1 rows.length k1) := row_cell hr1 rfl
  have c1 : W1.cell? ⟨w.heap.size, 1, none⟩ = some (.slice a2 owners.length k2) := row_cell hr1 rfl
  have HW1 := Lib.hid hW1
  have HB := Lib.hid hb1
  have HR5 := Lib.hid hr5
  have HFB := Lib.hid (fun r v => fitB_is (r := r) (v := v) hd)
  clear hR hO hU hL hr1 hW1 hb1 hr5 hd
  go_enter Tryz.func34, Tryz.ntmps34
  go_wp2_with (rw [← HW1.out])
  with_reducible refine (rShares_any _ _ _ rows owners l _ HR.out HO.out HL.out).mono ?_
  rintro e w2 ⟨rfl, hb2⟩
  replace c0 := below_cell hb2 c0
  replace c1 := below_cell hb2 c1
  replace HR := Lib.hid (HR.out.below hb2)
  replace HO := Lib.hid (HO.out.below hb2)
  replace HU := Lib.hid (HU.out.below hb2)
  replace HL := Lib.hid (HL.out.below hb2)
  replace HB := Lib.hid (HB.out.trans (hb2.mono HB.out.size))
  clear hb2
  cases hsh : sharesB rows (-1) l with
  | false =>
    have HV : Hid (fitL rows cs l = false) := Lib.hid (by unfold fitL; rw [hsh]; rfl)
    go_wp2_with fail
    go_ret
    exact ⟨ret_bool HV.out.symm, HB.out⟩
  | true =>
  have HV : Hid (fitL rows cs l = l.all (fitP rows cs)) := Lib.hid (by unfold fitL; rw [hsh]; rfl)
  have HRT := Lib.hid (fun k (hk : k < l.length) => (sharesB_all hsh).1 _ (List.getElem_mem hk))
  clear hsh
  go_wp2_with fail
  go_loopw [7, 8, 9] (fun i _ _ W => ∃ k : Nat, k ≤ l.length ∧ i = .int .i64 k ∧ Hid ((l.take k).all (fitP rows cs) = true) ∧ Below w2.heap.size w2 W) (fun i _ _ _ => l.length - (intOf i).toNat)
  case atStart => exact ⟨0, Nat.zero_le _, rfl, Lib.hid rfl, Below.refl _ _⟩
  case round =>
    obtain ⟨k, hkl, rfl, HP, hb⟩ := hrel
    have HBW := Lib.hid hb
    by_cases hlt : k < l.length
    · obtain ⟨aS, cS, eS, -, -, -, hk1⟩ := HL.out
      obtain ⟨b1, o1, ea, qa, qb⟩ := hk1 k hlt
      simp only [Value.slice.injEq] at eS
      obtain ⟨rfl, -, -⟩ := eS
      subst ea
      have y1 := below_cell hb qa
      have y2 := below_cell hb qb
      have hr := HR5.out _ (List.getElem_mem hlt)
      have HST := Lib.hid (all_take hlt HP.out)
      have HBD := Lib.hid (fun h => HV.out.trans (all_bad (f := fitP rows cs) hlt h))
      have hrt := HRT.out k hlt
      obtain ⟨r, hre⟩ : ∃ r, r = l[k].1 := ⟨_, rfl⟩
      obtain ⟨v, hve⟩ : ∃ v, v = l[k].2 := ⟨_, rfl⟩
      have hp : l[k] = (r, v) := by rw [hre, hve]
      rw [hp] at HST HBD hrt
      rw [← hre] at y1 hr
      rw [← hve] at y2 hr
      have HFT := Lib.hid (fun ww h1 h2 h3 => rFits_any (.slice a1 rows.length k1) (.slice a2 owners.length k2) (.slice a4 cs.length k4) rows owners cs r v ww h1 h2 h3 hr.1 hr.2)
      rw [(HFB.out r v).1, (HFB.out r v).2, hrt] at HFT
      simp only [Bool.true_and, if_true] at HFT
      have i0 : (0 : Int) ≤ (k : Int) := by omega
      have i1 : (k : Int) < (l.length : Int) := by omega
      clear hk1 qa qb hre hve hp hr hrt
      replace c0 := below_cell hb c0
      replace c1 := below_cell hb c1
      replace HR := Lib.hid (HR.out.below hb)
      replace HO := Lib.hid (HO.out.below hb)
      replace HU := Lib.hid (HU.out.below hb)
      replace HB := Lib.hid (HB.out.trans (hb.mono HB.out.size))
      clear hb
      have hbd : Below wr.heap.size wr wr.drew := (Below.refl _ _).drew
      replace HR := Lib.hid (HR.out.below hbd)
      replace HO := Lib.hid (HO.out.below hbd)
      replace HU := Lib.hid (HU.out.below hbd)
      replace HB := Lib.hid (HB.out.drew)
      clear hbd
      go_wp2_with fail
      go_region_held3 (fun w' => w'.cell? ⟨w.heap.size, 0, none⟩ = some (.slice a1 rows.length k1) ∧ w'.cell? ⟨w.heap.size, 1, none⟩ = some (.slice a2 owners.length k2) ∧ w'.cell? ⟨b1, o1 + k * 2, none⟩ = some (.int .i64 r) ∧ w'.cell? ⟨b1, o1 + k * 2 + 1, none⟩ = some (.int .i64 v)) (first | go_keep | exact ⟨c0, c1, y1, y2⟩)
        ((go_at_call 69; (with_reducible refine (HFT.out _ HR.out HO.out HU.out).mono ?_); rintro e w6 ⟨rfl, hb6⟩; replace HBW := Lib.hid (HBW.out.drew.trans (hb6.mono HBW.out.drew.size)); replace y1 := below_cell hb6 y1; replace y2 := below_cell hb6 y2; replace c0 := below_cell hb6 c0; replace c1 := below_cell hb6 c1; replace HR := Lib.hid (HR.out.below hb6); replace HO := Lib.hid (HO.out.below hb6); replace HU := Lib.hid (HU.out.below hb6); replace HB := Lib.hid (HB.out.trans (hb6.mono HB.out.size)); clear hb6))
      cases hfp : fitP rows cs (r, v) with
      | false =>
        have HX := Lib.hid (HBD.out hfp)
        go_wp2_with fail
        go_ret
        exact ⟨ret_bool HX.out.symm, HB.out⟩
      | true =>
        have HX := Lib.hid (HST.out.trans hfp)
        clear hfp
        go_wp2_with fail
        go_roundw
        case rel => exact ⟨k + 1, by omega, by go_num, HX, HBW.out⟩
        case measure => simp [intOf]; omega
    · obtain rfl : k = l.length := by omega
      have hdk : decide (l.length < l.length) = false := decide_eq_false (by omega)
      have HX : Hid (fitL rows cs l = true) := Lib.hid (by rw [HV.out]; have := HP.out; rwa [List.take_length] at this)
      have HBF := Lib.hid (HB.out.trans (hb.mono HB.out.size))
      clear hb
      go_wp2_with fail
      go_ret
      exact ⟨ret_bool HX.out.symm, HBF.out⟩

end Go.Proofs.YtnbkbnbmmkfckaaGreat

namespace Go.Proofs.YtnbkbnbmmkfckaaGreat
open Go.RowKit FP

/-- The state of the loops of Renew: a key's box, its commitments and the shares in own rows. -/
structure RenI (W0 : World) (B : Nat) (cells : Array Value) (xc yv : Value) (n m : Nat) (A : List Int) (L : List (Int × Int)) (W : World) : Prop where
  b : Below W0.heap.size W0 W
  lo : W0.heap.size ≤ B
  q : W.heap[B]? = some (.cells cells 27 (0, 0))
  o1 : W.ownsRow W0.heap.size 3 1 xc n (A.map (Value.int .i64))
  o2 : W.ownsRow W0.heap.size 47 2 yv m (L.flatMap shaC)
theorem RenI.below {W0 W W' : World} {B n m : Nat} {cells : Array Value} {xc yv : Value} {A : List Int} {L : List (Int × Int)} (h : RenI W0 B cells xc yv n m A L W) (hb : Below W.heap.size W W') : RenI W0 B cells xc yv n m A L W' :=
  ⟨h.b.trans (hb.mono h.b.size), h.lo, (hb.block _ (row_lt h.q)).trans h.q, own_keep h.o1 hb, own_keep h.o2 hb⟩
end Go.Proofs.YtnbkbnbmmkfckaaGreat
