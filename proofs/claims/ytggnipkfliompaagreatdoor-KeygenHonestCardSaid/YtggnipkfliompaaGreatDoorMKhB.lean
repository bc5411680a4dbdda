/- The laws of keygen: KeygenHonest. -/
import Derived.Test.YtggnipkfliompaaGreatDoorMKgD
import Derived.Test.YtggnipkfliompaaGreatDoorMPmA
import Derived.Test.YtggnipkfliompaaGreatDoorMCoI
namespace Go.Proofs.YtggnipkfliompaaGreatDoor
open Go.RowKit FP


structure FHn14 (w0 : World) (B : Nat) (cb : Nat) (pb : Nat) (po : Nat) (np : Nat) (cp : Nat) (k : Nat) (m : Nat) (sb : Nat) (so : Nat) (ns : Nat) (cs : Nat) (pt : Int) (s : Int) (rt : Int) (done : Nat → Bool) (v : Nat → Value) (w : World) : Prop where
  b : Below w0.heap.size w0 w
  f0 : done 0 = true → v 0 = .pointer (some ⟨B, 2, none⟩)
  f1 : done 1 = true → v 1 = .slice (some ⟨pb, po, none⟩) np cp
  f2 : done 2 = true → v 2 = .pointer (some ⟨cb, 1, none⟩)
  f3 : done 3 = true → v 3 = .int .i64 (k : Int)
  f4 : done 4 = true → v 4 = .pointer (some ⟨pb, po + k * 3, none⟩)
  f5 : done 5 = true → v 5 = .pointer (some ⟨pb, po + k * 3 + 1, none⟩)
  f6 : done 6 = true → v 6 = .int .i64 pt
  f7 : done 7 = true → v 7 = .slice (some ⟨sb, so, none⟩) ns cs
  f8 : done 8 = true → v 8 = .int .i64 (m : Int)
  f9 : done 9 = true → v 9 = .pointer (some ⟨sb, so + m, none⟩)
  f10 : done 10 = true → v 10 = .int .i64 s
  f11 : done 11 = true → v 11 = .tuple #[.int .i64 rt, .int .i64 0]
  f12 : done 12 = true → v 12 = .tuple #[.int .i64 rt, .int .i64 0]
  f13 : done 13 = true → v 13 = .int .i64 rt
  f14 : done 14 = true → v 14 = .int .i64 0
  f15 : done 15 = true → v 15 = .int .i64 rt
  f16 : done 16 = true → v 16 = .int .i64 0

structure FHn17t (w0 : World) (B : Nat) (cb : Nat) (pb : Nat) (po : Nat) (np : Nat) (cp : Nat) (k : Nat) (m : Nat) (kb : Nat) (ko : Nat) (ns : Nat) (ck : Nat) (pt : Int) (key : Int) (cD : Int) (cE : Int) (cS : Int) (rt : Int) (done : Nat → Bool) (v : Nat → Value) (w : World) : Prop where
  b : Below w0.heap.size w0 w
  f0 : done 0 = true → v 0 = .slice (some ⟨kb, ko, none⟩) ns ck
  f1 : done 1 = true → v 1 = .int .i64 (m : Int)
  f2 : done 2 = true → v 2 = .pointer (some ⟨kb, ko + m, none⟩)
  f3 : done 3 = true → v 3 = .int .i64 key
  f4 : done 4 = true → v 4 = .pointer (some ⟨B, 2, none⟩)
  f5 : done 5 = true → v 5 = .slice (some ⟨pb, po, none⟩) np cp
  f6 : done 6 = true → v 6 = .pointer (some ⟨cb, 1, none⟩)
  f7 : done 7 = true → v 7 = .int .i64 (k : Int)
  f8 : done 8 = true → v 8 = .pointer (some ⟨pb, po + k * 3, none⟩)
  f9 : done 9 = true → v 9 = .pointer (some ⟨pb, po + k * 3 + 1, none⟩)
  f10 : done 10 = true → v 10 = .int .i64 pt
  f11 : done 11 = true → v 11 = .pointer (some ⟨cb, 2, none⟩)
  f12 : done 12 = true → v 12 = .int .i64 cD
  f13 : done 13 = true → v 13 = .pointer (some ⟨cb, 3, none⟩)
  f14 : done 14 = true → v 14 = .agg #[.int .i64 cE, .int .i64 cS]
  f15 : done 15 = true → v 15 = .bool true
  f16 : done 16 = true → v 16 = .bool true
  f17 : done 17 = true → v 17 = .pointer (some ⟨cb, 2, none⟩)
  f18 : done 18 = true → v 18 = .int .i64 cD
  f19 : done 19 = true → v 19 = .int .i64 rt
  f20 : done 20 = true → v 20 = .bool (cD != rt)
  f21 : done 21 = true → v 21 = .bool (cD != rt)

structure FHn17f (w0 : World) (B : Nat) (cb : Nat) (pb : Nat) (po : Nat) (np : Nat) (cp : Nat) (k : Nat) (m : Nat) (kb : Nat) (ko : Nat) (ns : Nat) (ck : Nat) (pt : Int) (key : Int) (cD : Int) (cE : Int) (cS : Int) (rt : Int) (done : Nat → Bool) (v : Nat → Value) (w : World) : Prop where
  b : Below w0.heap.size w0 w
  f0 : done 0 = true → v 0 = .slice (some ⟨kb, ko, none⟩) ns ck
  f1 : done 1 = true → v 1 = .int .i64 (m : Int)
  f2 : done 2 = true → v 2 = .pointer (some ⟨kb, ko + m, none⟩)
  f3 : done 3 = true → v 3 = .int .i64 key
  f4 : done 4 = true → v 4 = .pointer (some ⟨B, 2, none⟩)
  f5 : done 5 = true → v 5 = .slice (some ⟨pb, po, none⟩) np cp
  f6 : done 6 = true → v 6 = .pointer (some ⟨cb, 1, none⟩)
  f7 : done 7 = true → v 7 = .int .i64 (k : Int)
  f8 : done 8 = true → v 8 = .pointer (some ⟨pb, po + k * 3, none⟩)
  f9 : done 9 = true → v 9 = .pointer (some ⟨pb, po + k * 3 + 1, none⟩)
  f10 : done 10 = true → v 10 = .int .i64 pt
  f11 : done 11 = true → v 11 = .pointer (some ⟨cb, 2, none⟩)
  f12 : done 12 = true → v 12 = .int .i64 cD
  f13 : done 13 = true → v 13 = .pointer (some ⟨cb, 3, none⟩)
  f14 : done 14 = true → v 14 = .agg #[.int .i64 cE, .int .i64 cS]
  f15 : done 15 = true → v 15 = .bool false
  f16 : done 16 = true → v 16 = .bool false
  f21 : done 21 = true → v 21 = .bool false

set_option maxRecDepth 100000 in
set_option maxHeartbeats 16000000 in
theorem keygenHonest_any (rv ov sv mv uv dv cv : Value) (rows : List (List Int)) (owners secrets : List Int) (dealer x : Int) (rnd us : List Int) (l : List Dlg) (vs : DVals) (cl : List Cmp) (w : World) (hG : Glob w) (hR : Rows2 w rv rows) (hO : Ints w ov owners) (hS : Ints w sv secrets) (hd : R64 dealer) (hx : R64 x) (hM : Ints w mv rnd) (hU : Ints w uv us) (hD : Dlgs w dv l vs) (hC : Cmps w cv cl) :
    Calls Tryz.prog 9 #[.agg #[rv, ov], sv, .int .i64 dealer, .int .i64 x, mv, uv, dv, cv] w fun r w' => r = .returned (.bool true) ∧ Below w.heap.size w w' := by
  obtain ⟨W0, hW0, hb, r0, -⟩ := box_prog w rv ov 25
  have HG := Lib.hid (hG.below hb)
  have HR := Lib.hid (hR.below hb)
  have HO := Lib.hid (hO.below hb)
  have HS := Lib.hid (hS.below hb)
  have HM := Lib.hid (hM.below hb)
  have HU := Lib.hid (hU.below hb)
  have HD := Lib.hid (hD.below hb)
  have HC := Lib.hid (hC.below hb)
  have HB := Lib.hid hb
  have HN := Lib.hid (And.intro hd hx)
  obtain ⟨a1, k1, rfl, -, hl1, -⟩ := id hR
  obtain ⟨a2, k2, rfl, -, hl2, -⟩ := id hO
  obtain ⟨a3, k3, rfl, -, hl3, -⟩ := id hS
  obtain ⟨a4, k4, rfl, -, hl4, -⟩ := id hM
  obtain ⟨a5, k5, rfl, -, hl5, -⟩ := id hU
  obtain ⟨a6, k6, rfl, -, hl6, -⟩ := id hD
  obtain ⟨a7, k7, rfl, -, hl7, -⟩ := id hC
  have c0 := row_cell r0 (k := 0) (v := .slice a1 rows.length k1) rfl
  have c1 := row_cell r0 (k := 1) (v := .slice a2 owners.length k2) rfl
  have HW0 := Lib.hid hW0
  clear hG hR hO hS hM hU hD hC hb r0 hW0 hd hx
  go_enter Tryz.func9, Tryz.ntmps9
  go_wp2_with (rw [← HW0.out])
  clear HW0
  with_reducible refine (sane37_any _ HG.out).mono ?_
  rintro e w2 ⟨rfl, hb2⟩
  replace c0 := below_cell hb2 c0
  replace c1 := below_cell hb2 c1
  replace HG := Lib.hid (HG.out.below hb2)
  replace HR := Lib.hid (HR.out.below hb2)
  replace HO := Lib.hid (HO.out.below hb2)
  replace HS := Lib.hid (HS.out.below hb2)
  replace HM := Lib.hid (HM.out.below hb2)
  replace HU := Lib.hid (HU.out.below hb2)
  replace HD := Lib.hid (HD.out.below hb2)
  replace HC := Lib.hid (HC.out.below hb2)
  replace HB := Lib.hid (HB.out.trans (hb2.mono HB.out.size))
  clear hb2
  go_wp2_with fail
  with_reducible refine (keysOf_any _ _ _ rows owners secrets _ HR.out HO.out HS.out).mono ?_
  rintro e w3 ⟨ka, kn, kc, ok, rfl, hb3, hkeys⟩
  replace c0 := below_cell hb3 c0
  replace c1 := below_cell hb3 c1
  replace HG := Lib.hid (HG.out.below hb3)
  replace HR := Lib.hid (HR.out.below hb3)
  replace HO := Lib.hid (HO.out.below hb3)
  replace HS := Lib.hid (HS.out.below hb3)
  replace HM := Lib.hid (HM.out.below hb3)
  replace HU := Lib.hid (HU.out.below hb3)
  replace HD := Lib.hid (HD.out.below hb3)
  replace HC := Lib.hid (HC.out.below hb3)
  replace HB := Lib.hid (HB.out.trans (hb3.mono HB.out.size))
  clear hb3
  cases ok with
  | false =>
    go_wp2_with fail
    go_ret
    exact ⟨rfl, HB.out⟩
  | true =>
  obtain ⟨rfl, hki, hko, hp0, hs10⟩ := hkeys rfl
  obtain ⟨keys, hkk⟩ : ∃ keys, keys = secrets.map (powE 4) := ⟨_, rfl⟩
  rw [← hkk] at hki hko
  have HK := Lib.hid hki
  have HKO := Lib.hid hko
  have HP0 := Lib.hid hp0
  clear hkeys hki hko hp0 hkk
  by_cases h1 : l.length ≤ 3
  rotate_left
  · have d1 : decide ((3 : Int) < (l.length : Int)) = true := decide_eq_true (by omega)
    have d2 : decide (3 < l.length) = true := decide_eq_true (by omega)
    go_wp2_with fail
    go_ret
    exact ⟨rfl, HB.out⟩
  have d1 : decide ((3 : Int) < (l.length : Int)) = false := decide_eq_false (by omega)
  have d2 : decide (3 < l.length) = false := decide_eq_false (by omega)
  by_cases h2 : cl.length ≤ 8
  rotate_left
  · have d3 : decide ((8 : Int) < (cl.length : Int)) = true := decide_eq_true (by omega)
    have d4 : decide (8 < cl.length) = true := decide_eq_true (by omega)
    go_wp2_with fail
    go_ret
    exact ⟨rfl, HB.out⟩
  have d3 : decide ((8 : Int) < (cl.length : Int)) = false := decide_eq_false (by omega)
  have d4 : decide (8 < cl.length) = false := decide_eq_false (by omega)
  go_wp2_with fail
  with_reducible refine (rFew37_any _ _ _ _ rows owners keys l vs a7 cl.length k7 _ HR.out HO.out HK.out HD.out hl7).mono ?_
  rintro e w4 ⟨⟨b, rfl⟩, hb4⟩
  replace c0 := below_cell hb4 c0
  replace c1 := below_cell hb4 c1
  replace HG := Lib.hid (HG.out.below hb4)
  replace HR := Lib.hid (HR.out.below hb4)
  replace HO := Lib.hid (HO.out.below hb4)
  replace HS := Lib.hid (HS.out.below hb4)
  replace HM := Lib.hid (HM.out.below hb4)
  replace HU := Lib.hid (HU.out.below hb4)
  replace HD := Lib.hid (HD.out.below hb4)
  replace HC := Lib.hid (HC.out.below hb4)
  replace HK := Lib.hid (HK.out.below hb4)
  replace HB := Lib.hid (HB.out.trans (hb4.mono HB.out.size))
  clear hb4
  cases b with
  | false =>
    go_wp2_with fail
    go_ret
    exact ⟨rfl, HB.out⟩
  | true =>
  by_cases h3 : rnd.length ≤ 70
  rotate_left
  · have d5 : decide ((70 : Int) < (rnd.length : Int)) = true := decide_eq_true (by omega)
    have d6 : decide (70 < rnd.length) = true := decide_eq_true (by omega)
    go_wp2_with fail
    go_ret
    exact ⟨rfl, HB.out⟩
  have d5 : decide ((70 : Int) < (rnd.length : Int)) = false := decide_eq_false (by omega)
  have d6 : decide (70 < rnd.length) = false := decide_eq_false (by omega)
  by_cases h4 : us.length ≤ 70
  rotate_left
  · have d7 : decide ((70 : Int) < (us.length : Int)) = true := decide_eq_true (by omega)
    have d8 : decide (70 < us.length) = true := decide_eq_true (by omega)
    go_wp2_with fail
    go_ret
    exact ⟨rfl, HB.out⟩
  have d7 : decide ((70 : Int) < (us.length : Int)) = false := decide_eq_false (by omega)
  have d8 : decide (70 < us.length) = false := decide_eq_false (by omega)
  go_wp2_with fail
  clear d1 d2 d3 d4 d5 d6 d7 d8
  with_reducible refine (kDeal_any _ _ _ _ _ rows owners keys dealer x rnd us _ HG.out HR.out HO.out HK.out HN.out.1 HN.out.2 HM.out HU.out).mono ?_
  rintro e w5 ⟨v, rfl, ⟨xc, xp, rfl, hrx, hxc, hxp⟩, hb5⟩
  replace c0 := below_cell hb5 c0
  replace c1 := below_cell hb5 c1
  replace HG := Lib.hid (HG.out.below hb5)
  replace HR := Lib.hid (HR.out.below hb5)
  replace HO := Lib.hid (HO.out.below hb5)
  replace HS := Lib.hid (HS.out.below hb5)
  replace HM := Lib.hid (HM.out.below hb5)
  replace HU := Lib.hid (HU.out.below hb5)
  replace HD := Lib.hid (HD.out.below hb5)
  replace HC := Lib.hid (HC.out.below hb5)
  replace HK := Lib.hid (HK.out.below hb5)
  replace HB := Lib.hid (HB.out.trans (hb5.mono HB.out.size))
  clear hb5
  obtain ⟨xa, xk, rfl, -⟩ := id hxc
  obtain ⟨ya, yk, rfl, -⟩ := id hxp
  by_cases hE : kdE rows owners keys dealer x rnd us = 0
  rotate_left
  · have hD0 : kdD rows owners keys dealer x rnd us = ⟨0, [], []⟩ := by unfold kdD; rw [if_neg hE]
    have e1 : (kdE rows owners keys dealer x rnd us != 0) = true := bne_iff_ne.2 hE
    rw [hD0] at hxc hxp ⊢
    simp only [List.length_nil] at hxc hxp ⊢
    obtain ⟨W6, hW6, hb6, hr6⟩ := newB w5 0 (.slice xa 0 xk) (.slice ya 0 yk)
    have HW6 := Lib.hid hW6
    have m0 := row_cell hr6 (k := 0) (v := .int .i64 0) rfl
    have m1 := row_cell hr6 (k := 1) (v := .slice xa 0 xk) rfl
    have m2 := row_cell hr6 (k := 2) (v := .slice ya 0 yk) rfl
    have HXC := Lib.hid (hxc.below hb6)
    have HXP := Lib.hid (hxp.below hb6)
    have HB6 := Lib.hid (HB.out.trans (hb6.mono HB.out.size))
    generalize kdE rows owners keys dealer x rnd us = ME at *
    clear hW6 hb6 hr6 hxc hxp hrx hE hD0
    go_wp2_with (rw [← HW6.out])
    with_reducible refine (rSameDealing37_any _ _ _ _ ⟨0, [], []⟩ _ HXC.out HXP.out (Ints.nil _ none 0) (Parcels.nil _ none 0)).mono ?_
    rintro e w7 ⟨rfl, hb7⟩
    go_wp2_with fail
    go_ret
    exact ⟨rfl, HB6.out.trans (hb7.mono HB6.out.size)⟩
  have HKD := Lib.hid (kdE_ok.1 hE)
  rw [hE]
  obtain ⟨D, hDe⟩ : ∃ D, D = kdD rows owners keys dealer x rnd us := ⟨_, rfl⟩
  rw [← hDe] at hxc hxp hrx ⊢
  have HDE := Lib.hid hDe
  clear hE hDe
  obtain ⟨W6, hW6, hb6, hr6⟩ := newB w5 D.dealer (.slice xa D.cs.length xk) (.slice ya D.ps.length yk)
  have HW6 := Lib.hid hW6
  have HXC := Lib.hid (hxc.below hb6)
  have HXP := Lib.hid (hxp.below hb6)
  have HXR := Lib.hid hrx
  have oc0 := c0
  have oc1 := c1
  replace c0 := below_cell hb6 c0
  replace c1 := below_cell hb6 c1
  replace HG := Lib.hid (HG.out.below hb6)
  replace HR := Lib.hid (HR.out.below hb6)
  replace HO := Lib.hid (HO.out.below hb6)
  replace HS := Lib.hid (HS.out.below hb6)
  replace HM := Lib.hid (HM.out.below hb6)
  replace HU := Lib.hid (HU.out.below hb6)
  replace HD := Lib.hid (HD.out.below hb6)
  replace HC := Lib.hid (HC.out.below hb6)
  replace HK := Lib.hid (HK.out.below hb6)
  replace HB := Lib.hid (HB.out.trans (hb6.mono HB.out.size))
  clear hb6
  have m0 := row_cell hr6 (k := 0) (v := .int .i64 D.dealer) rfl
  have m1 := row_cell hr6 (k := 1) (v := .slice xa D.cs.length xk) rfl
  have m2 := row_cell hr6 (k := 2) (v := .slice ya D.ps.length yk) rfl
  clear hW6 hr6 hxc hxp hrx
  go_wp2_with (rw [← HW6.out])
  clear HW6 oc0 oc1
  have HDD := Lib.hid (kdD_dealer HKD.out)
  go_loopw [88] (fun i Y => ∃ k : Nat, k ≤ cl.length ∧ i = .int .i64 k ∧ Hid (∀ c ∈ cl.take k, GoodC rows owners secrets keys us dealer c) ∧ Below W6.heap.size W6 Y) (fun i _ => cl.length - (intOf i).toNat)
  case atStart => exact ⟨0, Nat.zero_le _, rfl, Lib.hid (by simp), Below.refl _ _⟩
  case round =>
    obtain ⟨k, hkl, rfl, HKC, hb⟩ := hrel
    by_cases hlt : k < cl.length
    · obtain ⟨cb0, co0, ea, hcr, y0, y1, y2, y3, y4⟩ := (HC.out.below hb).at hlt
      subst ea
      have HTK : Hid (cl.take (k + 1) = cl.take k ++ [cl[k]]) := Lib.hid (List.take_succ_eq_append_getElem hlt)
      obtain ⟨c, hc⟩ : ∃ c, c = cl[k] := ⟨_, rfl⟩
      rw [← hc] at hcr y0 y1 y2 y3 y4 HTK
      obtain ⟨cdl, cr, cD, cE, cS⟩ := c
      simp only at y0 y1 y2 y3 y4
      obtain ⟨W7, hW7, hb7, hr7⟩ : ∃ W, W = wr.alloc (.cells #[.int .i64 cdl, .int .i64 cr, .int .i64 cD, .int .i64 cE, .int .i64 cS] 34) ∧ Below wr.heap.size wr W ∧ W.heap[wr.heap.size]? = some (.cells #[.int .i64 cdl, .int .i64 cr, .int .i64 cD, .int .i64 cE, .int .i64 cS] 34 (0, 0)) := ⟨_, rfl, below_new _ _ _, World.alloc_heap_new _ _⟩
      have y0_ := row_cell hr7 (k := 0) (v := .int .i64 cdl) rfl
      have y1_ := row_cell hr7 (k := 1) (v := .int .i64 cr) rfl
      have y2_ := row_cell hr7 (k := 2) (v := .int .i64 cD) rfl
      have y3_ := row_cell hr7 (k := 3) (v := .int .i64 cE) rfl
      have y4_ := row_cell hr7 (k := 4) (v := .int .i64 cS) rfl
      have b1_ := below_cell (hb.trans (hb7.mono hb.size)) c1
      have m2_ := below_cell (hb.trans (hb7.mono hb.size)) m2
      have HCR := Lib.hid hcr
      have HW7 := Lib.hid hW7
      have HB7 := Lib.hid (hb.trans (hb7.mono hb.size))
      have HG7 := Lib.hid (HG.out.below HB7.out)
      have HSK := Lib.hid (fun h => show ∀ c ∈ cl.take (k + 1), GoodC rows owners secrets keys us dealer c by
        rw [HTK.out]; intro c9 h9
        rcases List.mem_append.1 h9 with h9 | h9
        · exact HKC.out c9 h9
        · rw [List.mem_singleton.1 h9]; exact h)
      have i0 : (0 : Int) ≤ (k : Int) := Int.natCast_nonneg k
      have i1 : (k : Int) < (cl.length : Int) := by omega
      have HLT := Lib.hid hlt
      clear hc hcr hW7 hr7 hb hb7 HKC HTK
      by_cases h5 : cdl = dealer
      rotate_left
      · have d1 : (cdl != dealer) = true := bne_iff_ne.2 h5
        have HKC := Lib.hid (HSK.out (fun h9 => absurd h9 h5))
        clear HSK h5
        go_wp2_with (rw [← HW7.out])
        go_roundw
        case rel => exact ⟨k + 1, HLT.out, by go_num, HKC, HB7.out⟩
        case measure => simp [intOf]; omega
      have d1 : (cdl != dealer) = false := bne_eq_false_iff_eq.2 h5
      by_cases h6 : 0 ≤ cr
      rotate_left
      · have d2 : decide (cr < 0) = true := decide_eq_true (by omega)
        have HKC := Lib.hid (HSK.out (fun _ h9 => absurd h9 h6))
        clear HSK h6 h5
        go_wp2_with (rw [← HW7.out])
        go_roundw
        case rel => exact ⟨k + 1, HLT.out, by go_num, HKC, HB7.out⟩
        case measure => simp [intOf]; omega
      have d2 : decide (cr < 0) = false := decide_eq_false (by omega)
      have hpl : D.ps.length = rows.length := by rw [HDE.out]; exact HDD.out.2.2
      by_cases h7 : cr < (rows.length : Int)
      rotate_left
      · have d3 : decide ((D.ps.length : Int) ≤ cr) = true := decide_eq_true (by omega)
        have HKC := Lib.hid (HSK.out (fun _ _ h9 => absurd h9 h7))
        clear HSK h7 hpl h5
        go_wp2_with (rw [← HW7.out])
        go_roundw
        case rel => exact ⟨k + 1, HLT.out, by go_num, HKC, HB7.out⟩
        case measure => simp [intOf]; omega
      obtain ⟨i, rfl⟩ : ∃ i : Nat, cr = (i : Int) := ⟨cr.toNat, by omega⟩
      have d3 : decide ((D.ps.length : Int) ≤ (i : Int)) = false := decide_eq_false (by omega)
      have d4 : decide (D.ps.length ≤ i) = false := decide_eq_false (by omega)
      have hir : i < rows.length := by omega
      have hio : i < owners.length := by rw [← HKD.out.ok.prog.len]; exact hir
      have hat := HKO.out.at hio
      have hid : i < D.ps.length := by omega
      obtain ⟨pb, po, ea, -, qp_, -⟩ := (HXP.out.below HB7.out).at hid
      subst ea
      obtain ⟨ob, oo, ea, qo_⟩ := ints_at (HO.out.below HB7.out) hio
      subst ea
      obtain ⟨m, hm⟩ : ∃ m : Nat, owners[i] = (m : Int) := ⟨owners[i].toNat, by have := HKO.out.own _ (List.getElem_mem hio); omega⟩
      have hmn : nth owners i = (m : Int) := by rw [nth_at hio]; exact hm
      have hms : m < secrets.length := by have h9 := hat.1; rw [hmn, Int.toNat_natCast] at h9; exact h9
      obtain ⟨sb, so, ea, qs_⟩ := ints_at (HS.out.below HB7.out) hms
      subst ea
      have hmk : m < keys.length := by rw [HKO.out.eq, List.length_map]; exact hms
      obtain ⟨kb, ko, ea, qk_⟩ := ints_at (HK.out.below HB7.out) hmk
      subst ea
      have hpt : D.ps[i].2.1 = powE 4 (nth us i) := by
        have h9 := kdD_par HKD.out HKO.out hir
        rw [← HDE.out] at h9
        obtain ⟨h8, e8⟩ := parAt_mem (d := D) (row := (i : Int)) ⟨by omega, by omega⟩
        rw [e8] at h9
        simpa using h9
      have hsm : secrets[m] = secOf owners secrets i := by unfold secOf; rw [hmn, Int.toNat_natCast, nth_at hms]
      have hkm : keys[m] = keyOf owners keys i := by unfold keyOf; rw [hmn, Int.toNat_natCast, nth_at hmk]
      rw [hm] at qo_
      rw [hpt] at qp_
      rw [hsm] at qs_
      rw [hkm] at qk_
      have hek : El (keyOf owners keys i) := by rw [hat.2.2]; exact el_powE el_four _
      have hsr : R64 (secOf owners secrets i) := num_r64 ⟨by have := hat.2.1; omega, by have := hat.2.1; omega⟩
      have HSK2 : Hid ((chkB (keyOf owners keys i) (powE 4 (nth us i)) cD cE cS = true → cD = powE (powE 4 (nth us i)) (secOf owners secrets i)) → ∀ c ∈ cl.take (k + 1), GoodC rows owners secrets keys us dealer c) := Lib.hid (fun h9 => HSK.out (fun _ _ _ => h9))
      have hep : El (powE 4 (nth us i)) := el_powE el_four _
      clear HSK hpl h5 h7 h6 hat hmn hpt hsm hkm hm
      generalize keyOf owners keys i = key at *
      generalize secOf owners secrets i = sec at *
      generalize powE 4 (nth us i) = pt at *
      have HPW := Lib.hid (fun W => pow_yes pt sec W hep hsr)
      obtain ⟨rt, hrt⟩ : ∃ z, z = powE pt sec := ⟨_, rfl⟩
      rw [← hrt] at HPW HSK2
      have HCK := Lib.hid (fun W (h : Below W7.heap.size W7 W) => check_any key pt cD cE cS W hek.r64 hep.r64 HCR.out.D HCR.out.E HCR.out.S (HG7.out.below h))
      have i2 : (0 : Int) ≤ (i : Int) := Int.natCast_nonneg i
      have i3 : (i : Int) < (owners.length : Int) := by omega
      have i4 : (i : Int) < (D.ps.length : Int) := by omega
      have i5 : (0 : Int) ≤ (m : Int) := Int.natCast_nonneg m
      have i6 : (m : Int) < (secrets.length : Int) := by omega
      clear hrt hek hep hsr hir hio hid hms hmk
      go_wp2_with (rw [← HW7.out])
      refine wp_region_flowsG (by kernel_rfl) (by kernel_rfl) (by kernel_rfl) (by kernel_rfl) (fun done v W => FHn14 W7 (w5.heap.size) (wr.heap.size) (pb) (po) (D.ps.length) (yk) (i) (m) (sb) (so) (secrets.length) (k3) (pt) (sec) (rt) done v W) (fun v => ?_) ?_ (fun v W h => ?_)
      · exact ⟨(Below.refl _ _).drew, (fun h => by cases h), (fun h => by cases h), (fun h => by cases h), (fun h => by cases h), (fun h => by cases h), (fun h => by cases h), (fun h => by cases h), (fun h => by cases h), (fun h => by cases h), (fun h => by cases h), (fun h => by cases h), (fun h => by cases h), (fun h => by cases h), (fun h => by cases h), (fun h => by cases h), (fun h => by cases h), (fun h => by cases h)⟩
      · refine ⟨?_, ?_, ?_, ?_, ?_, ?_, ?_, ?_, ?_, ?_, ?_, ?_, ?_, ?_, ?_, ?_, ?_, trivial⟩
        · intro done v W A h hd hp hu hA hB hdf
          have e0 : A.tmps[19]?.getD undef = .pointer (some ⟨w5.heap.size, 0, none⟩) := hB 19 rfl
          clear hA hB hp hu hdf
          go_simp
          exact ⟨_, rfl, { h with f0 := (fun _ => rfl) }⟩
        · intro done v W A h hd hp hu hA hB hdf
          have hd0 : done 0 = true := hp 0 rfl
          have e0 := (hA 0 116 rfl hd0).trans (h.f0 hd0)
          have y0_ := below_cell h.b m2_
          clear hA hB hp hu hdf
          go_simp
          exact ⟨_, rfl, { h with f1 := (fun _ => rfl) }⟩
        · intro done v W A h hd hp hu hA hB hdf
          have e0 : A.tmps[22]?.getD undef = .pointer (some ⟨wr.heap.size, 0, none⟩) := hB 22 rfl
          clear hA hB hp hu hdf
          go_simp
          exact ⟨_, rfl, { h with f2 := (fun _ => rfl) }⟩
        · intro done v W A h hd hp hu hA hB hdf
          have hd2 : done 2 = true := hp 2 rfl
          have e0 := (hA 2 118 rfl hd2).trans (h.f2 hd2)
          have y0_ := below_cell h.b y1_
          clear hA hB hp hu hdf
          go_simp
          exact ⟨_, rfl, { h with f3 := (fun _ => rfl) }⟩
        · intro done v W A h hd hp hu hA hB hdf
          have hd1 : done 1 = true := hp 1 rfl
          have hd3 : done 3 = true := hp 3 rfl
          have e0 := (hA 1 117 rfl hd1).trans (h.f1 hd1)
          have e1 := (hA 3 119 rfl hd3).trans (h.f3 hd3)
          clear hA hB hp hu hdf
          go_simp
          exact ⟨_, rfl, { h with f4 := (fun _ => rfl) }⟩
        · intro done v W A h hd hp hu hA hB hdf
          have hd4 : done 4 = true := hp 4 rfl
          have e0 := (hA 4 120 rfl hd4).trans (h.f4 hd4)
          clear hA hB hp hu hdf
          go_simp
          exact ⟨_, rfl, { h with f5 := (fun _ => rfl) }⟩
        · intro done v W A h hd hp hu hA hB hdf
          have hd5 : done 5 = true := hp 5 rfl
          have e0 := (hA 5 121 rfl hd5).trans (h.f5 hd5)
          have y0_ := below_cell h.b qp_
          clear hA hB hp hu hdf
          go_simp
          exact ⟨_, rfl, { h with f6 := (fun _ => rfl) }⟩
        · intro done v W A h hd hp hu hA hB hdf
          have e0 : A.tmps[1]?.getD undef = .slice (some ⟨sb, so, none⟩) secrets.length k3 := hB 1 rfl
          clear hA hB hp hu hdf
          go_simp
          exact ⟨_, rfl, { h with f7 := (fun _ => rfl) }⟩
        · intro done v W A h hd hp hu hA hB hdf
          have e0 : A.tmps[23]?.getD undef = .int .i64 (m : Int) := hB 23 rfl
          clear hA hB hp hu hdf
          go_simp
          exact ⟨_, rfl, { h with f8 := (fun _ => rfl) }⟩
        · intro done v W A h hd hp hu hA hB hdf
          have hd7 : done 7 = true := hp 7 rfl
          have hd8 : done 8 = true := hp 8 rfl
          have e0 := (hA 7 123 rfl hd7).trans (h.f7 hd7)
          have e1 := (hA 8 124 rfl hd8).trans (h.f8 hd8)
          clear hA hB hp hu hdf
          go_simp
          exact ⟨_, rfl, { h with f9 := (fun _ => rfl) }⟩
        · intro done v W A h hd hp hu hA hB hdf
          have hd9 : done 9 = true := hp 9 rfl
          have e0 := (hA 9 125 rfl hd9).trans (h.f9 hd9)
          have y0_ := below_cell h.b qs_
          clear hA hB hp hu hdf
          go_simp
          exact ⟨_, rfl, { h with f10 := (fun _ => rfl) }⟩
        · intro done v W A h hd hp hu hA hB hdf
          have hd6 : done 6 = true := hp 6 rfl
          have hd10 : done 10 = true := hp 10 rfl
          have e0 := (hA 6 122 rfl hd6).trans (h.f6 hd6)
          have e1 := (hA 10 126 rfl hd10).trans (h.f10 hd10)
          clear hA hB hp hu hdf
          go_simp
          with_reducible refine (HPW.out W).mono ?_
          rintro e wq ⟨rfl, hb⟩
          exact ⟨_, rfl, { h with b := h.b.trans (hb.mono h.b.size), f11 := (fun _ => rfl) }⟩
        · intro done v W A h hd hp hu hA hB hdf
          have hd11 : done 11 = true := hp 11 rfl
          have e0 := (hA 11 127 rfl hd11).trans (h.f11 hd11)
          clear hA hB hp hu hdf
          go_simp
          exact ⟨_, rfl, { h with f12 := (fun _ => rfl) }⟩
        · intro done v W A h hd hp hu hA hB hdf
          have hd12 : done 12 = true := hp 12 rfl
          have e0 := (hA 12 115 rfl hd12).trans (h.f12 hd12)
          clear hA hB hp hu hdf
          go_simp
          exact ⟨_, rfl, { h with f13 := (fun _ => rfl) }⟩
        · intro done v W A h hd hp hu hA hB hdf
          have hd12 : done 12 = true := hp 12 rfl
          have e0 := (hA 12 115 rfl hd12).trans (h.f12 hd12)
          clear hA hB hp hu hdf
          go_simp
          exact ⟨_, rfl, { h with f14 := (fun _ => rfl) }⟩
        · intro done v W A h hd hp hu hA hB hdf
          have hd13 : done 13 = true := hp 13 rfl
          have e0 := (hA 13 128 rfl hd13).trans (h.f13 hd13)
          clear hA hB hp hu hdf
          go_simp
          exact ⟨_, rfl, { h with f15 := (fun _ => rfl) }⟩
        · intro done v W A h hd hp hu hA hB hdf
          have hd14 : done 14 = true := hp 14 rfl
          have e0 := (hA 14 129 rfl hd14).trans (h.f14 hd14)
          clear hA hB hp hu hdf
          go_simp
          exact ⟨_, rfl, { h with f16 := (fun _ => rfl) }⟩
      simp only [putL, Act.put, Nat.reduceAdd, List.setIfInBounds_toArray, List.set_cons_zero, List.set_cons_succ]
      rw [h.f15 rfl]
      rw [h.f16 rfl]
      have hbr := h.b
      clear h HPW
      have HB8 := Lib.hid (HB7.out.trans (hbr.mono HB7.out.size))
      replace HCK := Lib.hid (fun W' (h : Below W.heap.size W W') => HCK.out W' (hbr.trans (h.mono hbr.size)))
      replace m2_ := below_cell hbr m2_
      replace y1_ := below_cell hbr y1_
      replace y2_ := below_cell hbr y2_
      replace y3_ := below_cell hbr y3_
      replace y4_ := below_cell hbr y4_
      replace qp_ := below_cell hbr qp_
      replace qk_ := below_cell hbr qk_
      replace b1_ := below_cell hbr b1_
      clear hbr
      obtain ⟨W8, rfl⟩ : ∃ x, x = W := ⟨_, rfl⟩
      cases hck : chkB key pt cD cE cS with
      | false =>
        rw [hck] at HCK
        have HKC := Lib.hid (HSK2.out (fun h9 => by rw [hck] at h9; cases h9))
        clear hck HSK2
        go_wp2_with fail
        refine wp_region_flowsG (by kernel_rfl) (by kernel_rfl) (by kernel_rfl) (by kernel_rfl) (fun done v W => FHn17f W8 (w5.heap.size) (wr.heap.size) (pb) (po) (D.ps.length) (yk) (i) (m) (kb) (ko) (secrets.length) (kc) (pt) (key) (cD) (cE) (cS) (rt) done v W) (fun v => ?_) ?_ (fun v W h => ?_)
        · exact ⟨(Below.refl _ _).drew, (fun h => by cases h), (fun h => by cases h), (fun h => by cases h), (fun h => by cases h), (fun h => by cases h), (fun h => by cases h), (fun h => by cases h), (fun h => by cases h), (fun h => by cases h), (fun h => by cases h), (fun h => by cases h), (fun h => by cases h), (fun h => by cases h), (fun h => by cases h), (fun h => by cases h), (fun h => by cases h), (fun h => by cases h), (fun h => by cases h)⟩
        · refine ⟨?_, ?_, ?_, ?_, ?_, ?_, ?_, ?_, ?_, ?_, ?_, ?_, ?_, ?_, ?_, ?_, ?_, ?_, ?_, ?_, ?_, ?_, trivial⟩
          · intro done v W A h hd hp hu hA hB hdf
            have e0 : A.tmps[17]?.getD undef = .slice (some ⟨kb, ko, none⟩) secrets.length kc := hB 17 rfl
            clear hA hB hp hu hdf
            go_simp
            exact ⟨_, rfl, { h with f0 := (fun _ => rfl) }⟩
          · intro done v W A h hd hp hu hA hB hdf
            have e0 : A.tmps[23]?.getD undef = .int .i64 (m : Int) := hB 23 rfl
            clear hA hB hp hu hdf
            go_simp
            exact ⟨_, rfl, { h with f1 := (fun _ => rfl) }⟩
          · intro done v W A h hd hp hu hA hB hdf
            have hd0 : done 0 = true := hp 0 rfl
            have hd1 : done 1 = true := hp 1 rfl
            have e0 := (hA 0 132 rfl hd0).trans (h.f0 hd0)
            have e1 := (hA 1 133 rfl hd1).trans (h.f1 hd1)
            clear hA hB hp hu hdf
            go_simp
            exact ⟨_, rfl, { h with f2 := (fun _ => rfl) }⟩
          · intro done v W A h hd hp hu hA hB hdf
            have hd2 : done 2 = true := hp 2 rfl
            have e0 := (hA 2 134 rfl hd2).trans (h.f2 hd2)
            have y0_ := below_cell h.b qk_
            clear hA hB hp hu hdf
            go_simp
            exact ⟨_, rfl, { h with f3 := (fun _ => rfl) }⟩
          · intro done v W A h hd hp hu hA hB hdf
            have e0 : A.tmps[19]?.getD undef = .pointer (some ⟨w5.heap.size, 0, none⟩) := hB 19 rfl
            clear hA hB hp hu hdf
            go_simp
            exact ⟨_, rfl, { h with f4 := (fun _ => rfl) }⟩
          · intro done v W A h hd hp hu hA hB hdf
            have hd4 : done 4 = true := hp 4 rfl
            have e0 := (hA 4 136 rfl hd4).trans (h.f4 hd4)
            have y0_ := below_cell h.b m2_
            clear hA hB hp hu hdf
            go_simp
            exact ⟨_, rfl, { h with f5 := (fun _ => rfl) }⟩
          · intro done v W A h hd hp hu hA hB hdf
            have e0 : A.tmps[22]?.getD undef = .pointer (some ⟨wr.heap.size, 0, none⟩) := hB 22 rfl
            clear hA hB hp hu hdf
            go_simp
            exact ⟨_, rfl, { h with f6 := (fun _ => rfl) }⟩
          · intro done v W A h hd hp hu hA hB hdf
            have hd6 : done 6 = true := hp 6 rfl
            have e0 := (hA 6 138 rfl hd6).trans (h.f6 hd6)
            have y0_ := below_cell h.b y1_
            clear hA hB hp hu hdf
            go_simp
            exact ⟨_, rfl, { h with f7 := (fun _ => rfl) }⟩
          · intro done v W A h hd hp hu hA hB hdf
            have hd5 : done 5 = true := hp 5 rfl
            have hd7 : done 7 = true := hp 7 rfl
            have e0 := (hA 5 137 rfl hd5).trans (h.f5 hd5)
            have e1 := (hA 7 139 rfl hd7).trans (h.f7 hd7)
            clear hA hB hp hu hdf
            go_simp
            exact ⟨_, rfl, { h with f8 := (fun _ => rfl) }⟩
          · intro done v W A h hd hp hu hA hB hdf
            have hd8 : done 8 = true := hp 8 rfl
            have e0 := (hA 8 140 rfl hd8).trans (h.f8 hd8)
            clear hA hB hp hu hdf
            go_simp
            exact ⟨_, rfl, { h with f9 := (fun _ => rfl) }⟩
          · intro done v W A h hd hp hu hA hB hdf
            have hd9 : done 9 = true := hp 9 rfl
            have e0 := (hA 9 141 rfl hd9).trans (h.f9 hd9)
            have y0_ := below_cell h.b qp_
            clear hA hB hp hu hdf
            go_simp
            exact ⟨_, rfl, { h with f10 := (fun _ => rfl) }⟩
          · intro done v W A h hd hp hu hA hB hdf
            have e0 : A.tmps[22]?.getD undef = .pointer (some ⟨wr.heap.size, 0, none⟩) := hB 22 rfl
            clear hA hB hp hu hdf
            go_simp
            exact ⟨_, rfl, { h with f11 := (fun _ => rfl) }⟩
          · intro done v W A h hd hp hu hA hB hdf
            have hd11 : done 11 = true := hp 11 rfl
            have e0 := (hA 11 143 rfl hd11).trans (h.f11 hd11)
            have y0_ := below_cell h.b y2_
            clear hA hB hp hu hdf
            go_simp
            exact ⟨_, rfl, { h with f12 := (fun _ => rfl) }⟩
          · intro done v W A h hd hp hu hA hB hdf
            have e0 : A.tmps[22]?.getD undef = .pointer (some ⟨wr.heap.size, 0, none⟩) := hB 22 rfl
            clear hA hB hp hu hdf
            go_simp
            exact ⟨_, rfl, { h with f13 := (fun _ => rfl) }⟩
          · intro done v W A h hd hp hu hA hB hdf
            have hd13 : done 13 = true := hp 13 rfl
            have e0 := (hA 13 145 rfl hd13).trans (h.f13 hd13)
            have y0_ := below_cell h.b y3_
            have y1_ := below_cell h.b y4_
            clear hA hB hp hu hdf
            go_simp
            exact ⟨_, rfl, { h with f14 := (fun _ => rfl) }⟩
          · intro done v W A h hd hp hu hA hB hdf
            have hd3 : done 3 = true := hp 3 rfl
            have hd10 : done 10 = true := hp 10 rfl
            have hd12 : done 12 = true := hp 12 rfl
            have hd14 : done 14 = true := hp 14 rfl
            have e0 := (hA 3 135 rfl hd3).trans (h.f3 hd3)
            have e1 := (hA 10 142 rfl hd10).trans (h.f10 hd10)
            have e2 := (hA 12 144 rfl hd12).trans (h.f12 hd12)
            have e3 := (hA 14 146 rfl hd14).trans (h.f14 hd14)
            clear hA hB hp hu hdf
            go_simp
            with_reducible refine (HCK.out W h.b).mono ?_
            rintro e wq ⟨rfl, hb⟩
            exact ⟨_, rfl, { h with b := h.b.trans (hb.mono h.b.size), f15 := (fun _ => rfl) }⟩
          · intro done v W A h hd hp hu hA hB hdf
            have hd15 : done 15 = true := hp 15 rfl
            have e0 := (hA 15 147 rfl hd15).trans (h.f15 hd15)
            clear hA hB hp hu hdf
            go_simp
            exact ⟨_, rfl, { h with f16 := (fun _ => rfl) }⟩
          · intro done v W A h hd hp hu hA hB hdf
            have hd16 : done 16 = true := hp 16 rfl
            refine ⟨_, h.f16 hd16, (fun hx => by cases hx), (fun hne => { h with  })⟩
          · intro done v W A h hd hp hu hA hB hdf
            have hd16 : done 16 = true := hp 16 rfl
            refine ⟨_, h.f16 hd16, (fun hx => by cases hx), (fun hne => { h with  })⟩
          · intro done v W A h hd hp hu hA hB hdf
            have hd16 : done 16 = true := hp 16 rfl
            refine ⟨_, h.f16 hd16, (fun hx => by cases hx), (fun hne => { h with  })⟩
          · intro done v W A h hd hp hu hA hB hdf
            have hd16 : done 16 = true := hp 16 rfl
            refine ⟨_, h.f16 hd16, (fun hx => by cases hx), (fun hne => { h with  })⟩
          · intro done v W A h hd hp hu hA hB hdf
            have hd16 : done 16 = true := hp 16 rfl
            have e0 := (hA 16 148 rfl hd16).trans (h.f16 hd16)
            clear hA hB hp hu hdf
            go_simp
            exact ⟨_, rfl, { h with f21 := (fun _ => rfl) }⟩
        simp only [putL, Act.put, Nat.reduceAdd, List.setIfInBounds_toArray, List.set_cons_zero, List.set_cons_succ]
        have hbr := h.b
        rw [h.f21 rfl]
        clear h HCK
        have HB9 := Lib.hid (HB8.out.trans (hbr.mono HB8.out.size))
        clear hbr
        go_wp2_with fail
        go_roundw
        case rel => exact ⟨k + 1, HLT.out, by go_num, HKC, HB9.out⟩
        case measure =>
          have h9 := HLT.out
          simp [intOf]; omega
      | true =>
        rw [hck] at HCK
        by_cases hne : cD = rt
        · have HKC := Lib.hid (HSK2.out (fun _ => hne))
          have E9 := Lib.hid (show (cD != rt) = false from bne_eq_false_iff_eq.2 hne)
          clear hck HSK2 hne
          go_wp2_with fail
          refine wp_region_flowsG (by kernel_rfl) (by kernel_rfl) (by kernel_rfl) (by kernel_rfl) (fun done v W => FHn17t W8 (w5.heap.size) (wr.heap.size) (pb) (po) (D.ps.length) (yk) (i) (m) (kb) (ko) (secrets.length) (kc) (pt) (key) (cD) (cE) (cS) (rt) done v W) (fun v => ?_) ?_ (fun v W h => ?_)
          · exact ⟨(Below.refl _ _).drew, (fun h => by cases h), (fun h => by cases h), (fun h => by cases h), (fun h => by cases h), (fun h => by cases h), (fun h => by cases h), (fun h => by cases h), (fun h => by cases h), (fun h => by cases h), (fun h => by cases h), (fun h => by cases h), (fun h => by cases h), (fun h => by cases h), (fun h => by cases h), (fun h => by cases h), (fun h => by cases h), (fun h => by cases h), (fun h => by cases h), (fun h => by cases h), (fun h => by cases h), (fun h => by cases h), (fun h => by cases h)⟩
          · refine ⟨?_, ?_, ?_, ?_, ?_, ?_, ?_, ?_, ?_, ?_, ?_, ?_, ?_, ?_, ?_, ?_, ?_, ?_, ?_, ?_, ?_, ?_, trivial⟩
            · intro done v W A h hd hp hu hA hB hdf
              have e0 : A.tmps[17]?.getD undef = .slice (some ⟨kb, ko, none⟩) secrets.length kc := hB 17 rfl
              clear hA hB hp hu hdf
              go_simp
              exact ⟨_, rfl, { h with f0 := (fun _ => rfl) }⟩
            · intro done v W A h hd hp hu hA hB hdf
              have e0 : A.tmps[23]?.getD undef = .int .i64 (m : Int) := hB 23 rfl
              clear hA hB hp hu hdf
              go_simp
              exact ⟨_, rfl, { h with f1 := (fun _ => rfl) }⟩
            · intro done v W A h hd hp hu hA hB hdf
              have hd0 : done 0 = true := hp 0 rfl
              have hd1 : done 1 = true := hp 1 rfl
              have e0 := (hA 0 132 rfl hd0).trans (h.f0 hd0)
              have e1 := (hA 1 133 rfl hd1).trans (h.f1 hd1)
              clear hA hB hp hu hdf
              go_simp
              exact ⟨_, rfl, { h with f2 := (fun _ => rfl) }⟩
            · intro done v W A h hd hp hu hA hB hdf
              have hd2 : done 2 = true := hp 2 rfl
              have e0 := (hA 2 134 rfl hd2).trans (h.f2 hd2)
              have y0_ := below_cell h.b qk_
              clear hA hB hp hu hdf
              go_simp
              exact ⟨_, rfl, { h with f3 := (fun _ => rfl) }⟩
            · intro done v W A h hd hp hu hA hB hdf
              have e0 : A.tmps[19]?.getD undef = .pointer (some ⟨w5.heap.size, 0, none⟩) := hB 19 rfl
              clear hA hB hp hu hdf
              go_simp
              exact ⟨_, rfl, { h with f4 := (fun _ => rfl) }⟩
            · intro done v W A h hd hp hu hA hB hdf
              have hd4 : done 4 = true := hp 4 rfl
              have e0 := (hA 4 136 rfl hd4).trans (h.f4 hd4)
              have y0_ := below_cell h.b m2_
              clear hA hB hp hu hdf
              go_simp
              exact ⟨_, rfl, { h with f5 := (fun _ => rfl) }⟩
            · intro done v W A h hd hp hu hA hB hdf
              have e0 : A.tmps[22]?.getD undef = .pointer (some ⟨wr.heap.size, 0, none⟩) := hB 22 rfl
              clear hA hB hp hu hdf
              go_simp
              exact ⟨_, rfl, { h with f6 := (fun _ => rfl) }⟩
            · intro done v W A h hd hp hu hA hB hdf
              have hd6 : done 6 = true := hp 6 rfl
              have e0 := (hA 6 138 rfl hd6).trans (h.f6 hd6)
              have y0_ := below_cell h.b y1_
              clear hA hB hp hu hdf
              go_simp
              exact ⟨_, rfl, { h with f7 := (fun _ => rfl) }⟩
            · intro done v W A h hd hp hu hA hB hdf
              have hd5 : done 5 = true := hp 5 rfl
              have hd7 : done 7 = true := hp 7 rfl
              have e0 := (hA 5 137 rfl hd5).trans (h.f5 hd5)
              have e1 := (hA 7 139 rfl hd7).trans (h.f7 hd7)
              clear hA hB hp hu hdf
              go_simp
              exact ⟨_, rfl, { h with f8 := (fun _ => rfl) }⟩
            · intro done v W A h hd hp hu hA hB hdf
              have hd8 : done 8 = true := hp 8 rfl
              have e0 := (hA 8 140 rfl hd8).trans (h.f8 hd8)
              clear hA hB hp hu hdf
              go_simp
              exact ⟨_, rfl, { h with f9 := (fun _ => rfl) }⟩
            · intro done v W A h hd hp hu hA hB hdf
              have hd9 : done 9 = true := hp 9 rfl
              have e0 := (hA 9 141 rfl hd9).trans (h.f9 hd9)
              have y0_ := below_cell h.b qp_
              clear hA hB hp hu hdf
              go_simp
              exact ⟨_, rfl, { h with f10 := (fun _ => rfl) }⟩
            · intro done v W A h hd hp hu hA hB hdf
              have e0 : A.tmps[22]?.getD undef = .pointer (some ⟨wr.heap.size, 0, none⟩) := hB 22 rfl
              clear hA hB hp hu hdf
              go_simp
              exact ⟨_, rfl, { h with f11 := (fun _ => rfl) }⟩
            · intro done v W A h hd hp hu hA hB hdf
              have hd11 : done 11 = true := hp 11 rfl
              have e0 := (hA 11 143 rfl hd11).trans (h.f11 hd11)
              have y0_ := below_cell h.b y2_
              clear hA hB hp hu hdf
              go_simp
              exact ⟨_, rfl, { h with f12 := (fun _ => rfl) }⟩
            · intro done v W A h hd hp hu hA hB hdf
              have e0 : A.tmps[22]?.getD undef = .pointer (some ⟨wr.heap.size, 0, none⟩) := hB 22 rfl
              clear hA hB hp hu hdf
              go_simp
              exact ⟨_, rfl, { h with f13 := (fun _ => rfl) }⟩
            · intro done v W A h hd hp hu hA hB hdf
              have hd13 : done 13 = true := hp 13 rfl
              have e0 := (hA 13 145 rfl hd13).trans (h.f13 hd13)
              have y0_ := below_cell h.b y3_
              have y1_ := below_cell h.b y4_
              clear hA hB hp hu hdf
              go_simp
              exact ⟨_, rfl, { h with f14 := (fun _ => rfl) }⟩
            · intro done v W A h hd hp hu hA hB hdf
              have hd3 : done 3 = true := hp 3 rfl
              have hd10 : done 10 = true := hp 10 rfl
              have hd12 : done 12 = true := hp 12 rfl
              have hd14 : done 14 = true := hp 14 rfl
              have e0 := (hA 3 135 rfl hd3).trans (h.f3 hd3)
              have e1 := (hA 10 142 rfl hd10).trans (h.f10 hd10)
              have e2 := (hA 12 144 rfl hd12).trans (h.f12 hd12)
              have e3 := (hA 14 146 rfl hd14).trans (h.f14 hd14)
              clear hA hB hp hu hdf
              go_simp
              with_reducible refine (HCK.out W h.b).mono ?_
              rintro e wq ⟨rfl, hb⟩
              exact ⟨_, rfl, { h with b := h.b.trans (hb.mono h.b.size), f15 := (fun _ => rfl) }⟩
            · intro done v W A h hd hp hu hA hB hdf
              have hd15 : done 15 = true := hp 15 rfl
              have e0 := (hA 15 147 rfl hd15).trans (h.f15 hd15)
              clear hA hB hp hu hdf
              go_simp
              exact ⟨_, rfl, { h with f16 := (fun _ => rfl) }⟩
            · intro done v W A h hd hp hu hA hB hdf
              have hd16 : done 16 = true := hp 16 rfl
              refine ⟨_, h.f16 hd16, fun _ => ?_, fun hne => absurd rfl hne⟩
              have e0 : A.tmps[22]?.getD undef = .pointer (some ⟨wr.heap.size, 0, none⟩) := hB 22 rfl
              clear hA hB hp hu hdf
              go_simp
              exact ⟨_, rfl, { h with f17 := (fun _ => rfl) }⟩
            · intro done v W A h hd hp hu hA hB hdf
              have hd16 : done 16 = true := hp 16 rfl
              have hd17 : done 17 = true := hp 17 rfl
              refine ⟨_, h.f16 hd16, fun _ => ?_, fun hne => absurd rfl hne⟩
              have e0 := (hA 17 149 rfl hd17).trans (h.f17 hd17)
              have y0_ := below_cell h.b y2_
              clear hA hB hp hu hdf
              go_simp
              exact ⟨_, rfl, { h with f18 := (fun _ => rfl) }⟩
            · intro done v W A h hd hp hu hA hB hdf
              have hd16 : done 16 = true := hp 16 rfl
              refine ⟨_, h.f16 hd16, fun _ => ?_, fun hne => absurd rfl hne⟩
              have e0 : A.tmps[24]?.getD undef = .int .i64 rt := hB 24 rfl
              clear hA hB hp hu hdf
              go_simp
              exact ⟨_, rfl, { h with f19 := (fun _ => rfl) }⟩
            · intro done v W A h hd hp hu hA hB hdf
              have hd16 : done 16 = true := hp 16 rfl
              have hd18 : done 18 = true := hp 18 rfl
              have hd19 : done 19 = true := hp 19 rfl
              refine ⟨_, h.f16 hd16, fun _ => ?_, fun hne => absurd rfl hne⟩
              have e0 := (hA 18 150 rfl hd18).trans (h.f18 hd18)
              have e1 := (hA 19 151 rfl hd19).trans (h.f19 hd19)
              clear hA hB hp hu hdf
              go_simp
              exact ⟨_, rfl, { h with f20 := (fun _ => rfl) }⟩
            · intro done v W A h hd hp hu hA hB hdf
              have hd16 : done 16 = true := hp 16 rfl
              have hd20 : done 20 = true := hp 20 rfl
              have e0 := (hA 16 148 rfl hd16).trans (h.f16 hd16)
              have e1 := (hA 20 152 rfl hd20).trans (h.f20 hd20)
              clear hA hB hp hu hdf
              go_simp
              exact ⟨_, rfl, { h with f21 := (fun _ => rfl) }⟩
          simp only [putL, Act.put, Nat.reduceAdd, List.setIfInBounds_toArray, List.set_cons_zero, List.set_cons_succ]
          have hbr := h.b
          rw [h.f21 rfl, E9.out]
          clear h HCK
          have HB9 := Lib.hid (HB8.out.trans (hbr.mono HB8.out.size))
          clear hbr
          go_wp2_with fail
          go_roundw
          case rel => exact ⟨k + 1, HLT.out, by go_num, HKC, HB9.out⟩
          case measure =>
            have h9 := HLT.out
            simp [intOf]; omega
        · have E9 := Lib.hid (show (cD != rt) = true from bne_iff_ne.2 hne)
          clear hck HSK2 hne
          go_wp2_with fail
          refine wp_region_flowsG (by kernel_rfl) (by kernel_rfl) (by kernel_rfl) (by kernel_rfl) (fun done v W => FHn17t W8 (w5.heap.size) (wr.heap.size) (pb) (po) (D.ps.length) (yk) (i) (m) (kb) (ko) (secrets.length) (kc) (pt) (key) (cD) (cE) (cS) (rt) done v W) (fun v => ?_) ?_ (fun v W h => ?_)
          · exact ⟨(Below.refl _ _).drew, (fun h => by cases h), (fun h => by cases h), (fun h => by cases h), (fun h => by cases h), (fun h => by cases h), (fun h => by cases h), (fun h => by cases h), (fun h => by cases h), (fun h => by cases h), (fun h => by cases h), (fun h => by cases h), (fun h => by cases h), (fun h => by cases h), (fun h => by cases h), (fun h => by cases h), (fun h => by cases h), (fun h => by cases h), (fun h => by cases h), (fun h => by cases h), (fun h => by cases h), (fun h => by cases h), (fun h => by cases h)⟩
          · refine ⟨?_, ?_, ?_, ?_, ?_, ?_, ?_, ?_, ?_, ?_, ?_, ?_, ?_, ?_, ?_, ?_, ?_, ?_, ?_, ?_, ?_, ?_, trivial⟩
            · intro done v W A h hd hp hu hA hB hdf
              have e0 : A.tmps[17]?.getD undef = .slice (some ⟨kb, ko, none⟩) secrets.length kc := hB 17 rfl
              clear hA hB hp hu hdf
              go_simp
              exact ⟨_, rfl, { h with f0 := (fun _ => rfl) }⟩
            · intro done v W A h hd hp hu hA hB hdf
              have e0 : A.tmps[23]?.getD undef = .int .i64 (m : Int) := hB 23 rfl
              clear hA hB hp hu hdf
              go_simp
              exact ⟨_, rfl, { h with f1 := (fun _ => rfl) }⟩
            · intro done v W A h hd hp hu hA hB hdf
              have hd0 : done 0 = true := hp 0 rfl
              have hd1 : done 1 = true := hp 1 rfl
              have e0 := (hA 0 132 rfl hd0).trans (h.f0 hd0)
              have e1 := (hA 1 133 rfl hd1).trans (h.f1 hd1)
              clear hA hB hp hu hdf
              go_simp
              exact ⟨_, rfl, { h with f2 := (fun _ => rfl) }⟩
            · intro done v W A h hd hp hu hA hB hdf
              have hd2 : done 2 = true := hp 2 rfl
              have e0 := (hA 2 134 rfl hd2).trans (h.f2 hd2)
              have y0_ := below_cell h.b qk_
              clear hA hB hp hu hdf
              go_simp
              exact ⟨_, rfl, { h with f3 := (fun _ => rfl) }⟩
            · intro done v W A h hd hp hu hA hB hdf
              have e0 : A.tmps[19]?.getD undef = .pointer (some ⟨w5.heap.size, 0, none⟩) := hB 19 rfl
              clear hA hB hp hu hdf
              go_simp
              exact ⟨_, rfl, { h with f4 := (fun _ => rfl) }⟩
            · intro done v W A h hd hp hu hA hB hdf
              have hd4 : done 4 = true := hp 4 rfl
              have e0 := (hA 4 136 rfl hd4).trans (h.f4 hd4)
              have y0_ := below_cell h.b m2_
              clear hA hB hp hu hdf
              go_simp
              exact ⟨_, rfl, { h with f5 := (fun _ => rfl) }⟩
            · intro done v W A h hd hp hu hA hB hdf
              have e0 : A.tmps[22]?.getD undef = .pointer (some ⟨wr.heap.size, 0, none⟩) := hB 22 rfl
              clear hA hB hp hu hdf
              go_simp
              exact ⟨_, rfl, { h with f6 := (fun _ => rfl) }⟩
            · intro done v W A h hd hp hu hA hB hdf
              have hd6 : done 6 = true := hp 6 rfl
              have e0 := (hA 6 138 rfl hd6).trans (h.f6 hd6)
              have y0_ := below_cell h.b y1_
              clear hA hB hp hu hdf
              go_simp
              exact ⟨_, rfl, { h with f7 := (fun _ => rfl) }⟩
            · intro done v W A h hd hp hu hA hB hdf
              have hd5 : done 5 = true := hp 5 rfl
              have hd7 : done 7 = true := hp 7 rfl
              have e0 := (hA 5 137 rfl hd5).trans (h.f5 hd5)
              have e1 := (hA 7 139 rfl hd7).trans (h.f7 hd7)
              clear hA hB hp hu hdf
              go_simp
              exact ⟨_, rfl, { h with f8 := (fun _ => rfl) }⟩
            · intro done v W A h hd hp hu hA hB hdf
              have hd8 : done 8 = true := hp 8 rfl
              have e0 := (hA 8 140 rfl hd8).trans (h.f8 hd8)
              clear hA hB hp hu hdf
              go_simp
              exact ⟨_, rfl, { h with f9 := (fun _ => rfl) }⟩
            · intro done v W A h hd hp hu hA hB hdf
              have hd9 : done 9 = true := hp 9 rfl
              have e0 := (hA 9 141 rfl hd9).trans (h.f9 hd9)
              have y0_ := below_cell h.b qp_
              clear hA hB hp hu hdf
              go_simp
              exact ⟨_, rfl, { h with f10 := (fun _ => rfl) }⟩
            · intro done v W A h hd hp hu hA hB hdf
              have e0 : A.tmps[22]?.getD undef = .pointer (some ⟨wr.heap.size, 0, none⟩) := hB 22 rfl
              clear hA hB hp hu hdf
              go_simp
              exact ⟨_, rfl, { h with f11 := (fun _ => rfl) }⟩
            · intro done v W A h hd hp hu hA hB hdf
              have hd11 : done 11 = true := hp 11 rfl
              have e0 := (hA 11 143 rfl hd11).trans (h.f11 hd11)
              have y0_ := below_cell h.b y2_
              clear hA hB hp hu hdf
              go_simp
              exact ⟨_, rfl, { h with f12 := (fun _ => rfl) }⟩
            · intro done v W A h hd hp hu hA hB hdf
              have e0 : A.tmps[22]?.getD undef = .pointer (some ⟨wr.heap.size, 0, none⟩) := hB 22 rfl
              clear hA hB hp hu hdf
              go_simp
              exact ⟨_, rfl, { h with f13 := (fun _ => rfl) }⟩
            · intro done v W A h hd hp hu hA hB hdf
              have hd13 : done 13 = true := hp 13 rfl
              have e0 := (hA 13 145 rfl hd13).trans (h.f13 hd13)
              have y0_ := below_cell h.b y3_
              have y1_ := below_cell h.b y4_
              clear hA hB hp hu hdf
              go_simp
              exact ⟨_, rfl, { h with f14 := (fun _ => rfl) }⟩
            · intro done v W A h hd hp hu hA hB hdf
              have hd3 : done 3 = true := hp 3 rfl
              have hd10 : done 10 = true := hp 10 rfl
              have hd12 : done 12 = true := hp 12 rfl
              have hd14 : done 14 = true := hp 14 rfl
              have e0 := (hA 3 135 rfl hd3).trans (h.f3 hd3)
              have e1 := (hA 10 142 rfl hd10).trans (h.f10 hd10)
              have e2 := (hA 12 144 rfl hd12).trans (h.f12 hd12)
              have e3 := (hA 14 146 rfl hd14).trans (h.f14 hd14)
              clear hA hB hp hu hdf
              go_simp
              with_reducible refine (HCK.out W h.b).mono ?_
              rintro e wq ⟨rfl, hb⟩
              exact ⟨_, rfl, { h with b := h.b.trans (hb.mono h.b.size), f15 := (fun _ => rfl) }⟩
            · intro done v W A h hd hp hu hA hB hdf
              have hd15 : done 15 = true := hp 15 rfl
              have e0 := (hA 15 147 rfl hd15).trans (h.f15 hd15)
              clear hA hB hp hu hdf
              go_simp
              exact ⟨_, rfl, { h with f16 := (fun _ => rfl) }⟩
            · intro done v W A h hd hp hu hA hB hdf
              have hd16 : done 16 = true := hp 16 rfl
              refine ⟨_, h.f16 hd16, fun _ => ?_, fun hne => absurd rfl hne⟩
              have e0 : A.tmps[22]?.getD undef = .pointer (some ⟨wr.heap.size, 0, none⟩) := hB 22 rfl
              clear hA hB hp hu hdf
              go_simp
              exact ⟨_, rfl, { h with f17 := (fun _ => rfl) }⟩
            · intro done v W A h hd hp hu hA hB hdf
              have hd16 : done 16 = true := hp 16 rfl
              have hd17 : done 17 = true := hp 17 rfl
              refine ⟨_, h.f16 hd16, fun _ => ?_, fun hne => absurd rfl hne⟩
              have e0 := (hA 17 149 rfl hd17).trans (h.f17 hd17)
              have y0_ := below_cell h.b y2_
              clear hA hB hp hu hdf
              go_simp
              exact ⟨_, rfl, { h with f18 := (fun _ => rfl) }⟩
            · intro done v W A h hd hp hu hA hB hdf
              have hd16 : done 16 = true := hp 16 rfl
              refine ⟨_, h.f16 hd16, fun _ => ?_, fun hne => absurd rfl hne⟩
              have e0 : A.tmps[24]?.getD undef = .int .i64 rt := hB 24 rfl
              clear hA hB hp hu hdf
              go_simp
              exact ⟨_, rfl, { h with f19 := (fun _ => rfl) }⟩
            · intro done v W A h hd hp hu hA hB hdf
              have hd16 : done 16 = true := hp 16 rfl
              have hd18 : done 18 = true := hp 18 rfl
              have hd19 : done 19 = true := hp 19 rfl
              refine ⟨_, h.f16 hd16, fun _ => ?_, fun hne => absurd rfl hne⟩
              have e0 := (hA 18 150 rfl hd18).trans (h.f18 hd18)
              have e1 := (hA 19 151 rfl hd19).trans (h.f19 hd19)
              clear hA hB hp hu hdf
              go_simp
              exact ⟨_, rfl, { h with f20 := (fun _ => rfl) }⟩
            · intro done v W A h hd hp hu hA hB hdf
              have hd16 : done 16 = true := hp 16 rfl
              have hd20 : done 20 = true := hp 20 rfl
              have e0 := (hA 16 148 rfl hd16).trans (h.f16 hd16)
              have e1 := (hA 20 152 rfl hd20).trans (h.f20 hd20)
              clear hA hB hp hu hdf
              go_simp
              exact ⟨_, rfl, { h with f21 := (fun _ => rfl) }⟩
          simp only [putL, Act.put, Nat.reduceAdd, List.setIfInBounds_toArray, List.set_cons_zero, List.set_cons_succ]
          have hbr := h.b
          rw [h.f21 rfl, E9.out]
          clear h HCK
          have HB9 := Lib.hid (HB8.out.trans (hbr.mono HB8.out.size))
          clear hbr
          go_wp2_with fail
          go_ret
          exact ⟨rfl, HB.out.trans (HB9.out.mono HB.out.size)⟩
    · obtain rfl : k = cl.length := by omega
      rw [List.take_length] at HKC
      obtain ⟨wc, rfl⟩ : ∃ x, x = wr := ⟨_, rfl⟩
      replace c0 := below_cell hb c0
      replace c1 := below_cell hb c1
      replace m0 := below_cell hb m0
      replace m1 := below_cell hb m1
      replace m2 := below_cell hb m2
      replace HG := Lib.hid (HG.out.below hb)
      replace HR := Lib.hid (HR.out.below hb)
      replace HO := Lib.hid (HO.out.below hb)
      replace HS := Lib.hid (HS.out.below hb)
      replace HM := Lib.hid (HM.out.below hb)
      replace HU := Lib.hid (HU.out.below hb)
      replace HD := Lib.hid (HD.out.below hb)
      replace HC := Lib.hid (HC.out.below hb)
      replace HK := Lib.hid (HK.out.below hb)
      replace HXC := Lib.hid (HXC.out.below hb)
      replace HXP := Lib.hid (HXP.out.below hb)
      replace HB := Lib.hid (HB.out.trans (hb.mono HB.out.size))
      clear hb
      obtain ⟨zd, hzd⟩ : ∃ z : DV, z = (D, (.slice xa D.cs.length xk, .slice ya D.ps.length yk)) := ⟨_, rfl⟩
      have HZD := Lib.hid hzd
      clear hzd
      go_wp2_with fail
      go_loopw [26, 27, 157] (fun x m i Y => ∃ (k : Nat) (sl : List DV) (sb : Bool), k ≤ l.length ∧ i = .int .i64 k ∧ m = .bool sb ∧ Hid (putsH dealer zd (xsH l vs k) = (sl, sb)) ∧ Y.ownsRow wc.heap.size 28 3 x sl.length (sl.flatMap dvC) ∧ Below wc.heap.size wc Y) (fun _ _ i _ => l.length - (intOf i).toNat)
      case atStart => exact ⟨0, [], false, Nat.zero_le _, rfl, rfl, Lib.hid rfl, World.ownsRow_nil _ _ _ _, Below.refl _ _⟩
      case round =>
        obtain ⟨k, sl, sb, hkl, rfl, rfl, HPS, hown, hb⟩ := hrel
        by_cases hlt : k < l.length
        · obtain ⟨b, off, ea, hat⟩ := (HD.out.below hb).at hlt
          subst ea
          have hgd : l.getD k noD = l[k] := getD_at hlt _
          have hnx := xsH_put (n := dealer) (zd := zd) (l := l) (vs := vs) HPS.out
          have hsl := putsH_len dealer zd (xsH l vs k)
          rw [HPS.out, xsH_len] at hsl
          simp only at hsl
          rw [hgd] at hnx
          obtain ⟨d, hd⟩ : ∃ d, d = l[k] := ⟨_, rfl⟩
          rw [← hd] at hat hnx
          obtain ⟨zv, hzv⟩ : ∃ z, z = vs k := ⟨_, rfl⟩
          rw [← hzv] at hat hnx
          obtain ⟨v1, v2⟩ := zv
          simp only at hat
          obtain ⟨ca, cc, rfl, -⟩ := id hat.cs
          obtain ⟨pa, pc, rfl, -⟩ := id hat.ps
          have y0 := hat.c0
          have y1 := hat.c1
          have y2 := hat.c2
          obtain ⟨W7, hW7, hb7, hr7⟩ := newB wr d.dealer (.slice ca d.cs.length cc) (.slice pa d.ps.length pc)
          have x0 := row_cell hr7 (k := 0) (v := .int .i64 d.dealer) rfl
          have x1 := row_cell hr7 (k := 1) (v := .slice ca d.cs.length cc) rfl
          have x2 := row_cell hr7 (k := 2) (v := .slice pa d.ps.length pc) rfl
          have HR7 := Lib.hid hr7
          have HW7 := Lib.hid hW7
          have HOW := Lib.hid (own_keep hown hb7)
          have HBW := Lib.hid (hb.trans (hb7.mono hb.size))
          have HNX := Lib.hid hnx
          have i0 : (0 : Int) ≤ (k : Int) := Int.natCast_nonneg k
          have i1 : (k : Int) < (l.length : Int) := by omega
          have HZL : Hid (sl.length ≤ 1000 ∧ sl.length + 1 ≤ 1000000) := Lib.hid (by omega)
          have HLT := Lib.hid hlt
          have hne := own_ne hown (.inl (Nat.le_refl wr.heap.size))
          obtain ⟨sa, sn, sc, rfl⟩ := own_sl hown
          have HNE := Lib.hid hne
          have z0 := below_cell HBW.out m0
          have z1 := below_cell HBW.out m1
          have z2 := below_cell HBW.out m2
          clear hW7 hb7 hr7 hown hb hgd hd hzv hat hnx hsl HPS hne
          by_cases h5 : d.dealer = dealer
          · have e9 : (d.dealer == dealer) = true := beq_iff_eq.2 h5
            have HN2 := Lib.hid (HNX.out.trans (stepH_same (s := (sl, sb)) h5))
            clear h5 HNX
            go_wp2_with (rw [← HW7.out])
            go_roundw
            case rel => exact ⟨k + 1, _, _, HLT.out, by go_num, rfl, HN2, HOW.out, HBW.out⟩
            case measure =>
              have h9 := HLT.out
              simp [intOf]; omega
          have e9 : (d.dealer == dealer) = false := beq_eq_false_iff_ne.2 h5
          by_cases h6 : dealer < d.dealer
          rotate_left
          · have d9 : decide (dealer < d.dealer) = false := decide_eq_false h6
            have HN2 := Lib.hid (HNX.out.trans (stepH_more (s := (sl, sb)) h5 (fun h9 => h6 h9.1)))
            clear h5 h6 HNX
            obtain ⟨W10, hW10, hb10, hr10⟩ := newB W7 d.dealer (.slice ca d.cs.length cc) (.slice pa d.ps.length pc)
            have HW10 := Lib.hid hW10
            have HO10 := Lib.hid (own_keep HOW.out hb10)
            have HB10 := Lib.hid (HBW.out.trans (hb10.mono HBW.out.size))
            have HC10 : Hid (∀ j u, (dvC (d, (.slice ca d.cs.length cc, .slice pa d.ps.length pc)))[j]? = some u → W10.cell? ⟨W7.heap.size, j, none⟩ = some u) := Lib.hid (dv_cells hr10)
            have HS10 : Hid (wc.heap.size ≤ W10.heap.size) := Lib.hid HB10.out.size
            clear hW10 hb10 hr10
            go_wp2_with (first | rw [← HW7.out] | rw [← HW10.out] | (at_builtin; refine app_dlg rfl _ _ rfl wc.heap.size _ sl sl.length rfl HO10.out W7.heap.size 1 (d, (.slice ca d.cs.length cc, .slice pa d.ps.length pc)) rfl ⟨⟨_, _, _, rfl⟩, ⟨_, _, _, rfl⟩⟩ HC10.out (by have := HZL.out; omega) HS10.out ?_; intro g9 c9 w9 h9 o9; have H9 := Lib.hid h9; have B9 := Lib.hid (own_below HO10.out o9.1 HS10.out); clear h9 o9))
            go_roundw
            case rel => exact ⟨k + 1, _, _, HLT.out, by go_num, rfl, HN2, by rw [List.length_append]; exact H9.out, HB10.out.trans B9.out⟩
            case measure =>
              have h9 := HLT.out
              simp [intOf]; omega
          have d9 : decide (dealer < d.dealer) = true := decide_eq_true h6
          cases sb with
          | true =>
            have HN2 := Lib.hid (HNX.out.trans (stepH_more (s := (sl, true)) h5 (fun h9 => by cases h9.2)))
            clear h5 h6 HNX
            obtain ⟨W10, hW10, hb10, hr10⟩ := newB W7 d.dealer (.slice ca d.cs.length cc) (.slice pa d.ps.length pc)
            have HW10 := Lib.hid hW10
            have HO10 := Lib.hid (own_keep HOW.out hb10)
            have HB10 := Lib.hid (HBW.out.trans (hb10.mono HBW.out.size))
            have HC10 : Hid (∀ j u, (dvC (d, (.slice ca d.cs.length cc, .slice pa d.ps.length pc)))[j]? = some u → W10.cell? ⟨W7.heap.size, j, none⟩ = some u) := Lib.hid (dv_cells hr10)
            have HS10 : Hid (wc.heap.size ≤ W10.heap.size) := Lib.hid HB10.out.size
            clear hW10 hb10 hr10
            go_wp2_with (first | rw [← HW7.out] | rw [← HW10.out] | (at_builtin; refine app_dlg rfl _ _ rfl wc.heap.size _ sl sl.length rfl HO10.out W7.heap.size 1 (d, (.slice ca d.cs.length cc, .slice pa d.ps.length pc)) rfl ⟨⟨_, _, _, rfl⟩, ⟨_, _, _, rfl⟩⟩ HC10.out (by have := HZL.out; omega) HS10.out ?_; intro g9 c9 w9 h9 o9; have H9 := Lib.hid h9; have B9 := Lib.hid (own_below HO10.out o9.1 HS10.out); clear h9 o9))
            go_roundw
            case rel => exact ⟨k + 1, _, _, HLT.out, by go_num, rfl, HN2, by rw [List.length_append]; exact H9.out, HB10.out.trans B9.out⟩
            case measure =>
              have h9 := HLT.out
              simp [intOf]; omega
          | false =>
            have HN2 : Hid (putsH dealer zd (xsH l vs (k + 1)) = (sl ++ [((D, (.slice xa D.cs.length xk, .slice ya D.ps.length yk)) : DV)] ++ [((d, (.slice ca d.cs.length cc, .slice pa d.ps.length pc)) : DV)], true)) := Lib.hid (HNX.out.trans ((stepH_first (s := (sl, false)) h5 h6 rfl).trans (by rw [HZD.out])))
            clear h5 h6 HNX
            obtain ⟨W10, hW10, hb10, hr10⟩ := newB W7 D.dealer (.slice xa D.cs.length xk) (.slice ya D.ps.length yk)
            have HW10 := Lib.hid hW10
            have HO10 := Lib.hid (own_keep HOW.out hb10)
            have HB10 := Lib.hid (HBW.out.trans (hb10.mono HBW.out.size))
            have HC10 : Hid (∀ j u, (dvC (D, (.slice xa D.cs.length xk, .slice ya D.ps.length yk)))[j]? = some u → W10.cell? ⟨W7.heap.size, j, none⟩ = some u) := Lib.hid (dv_cells hr10)
            have HS10 : Hid (wc.heap.size ≤ W10.heap.size) := Lib.hid HB10.out.size
            have HSW : Hid (wr.heap.size < W10.heap.size) := Lib.hid (row_lt ((hb10.block _ (row_lt HR7.out)).trans HR7.out))
            have x10 := below_cell hb10 x0
            have x11 := below_cell hb10 x1
            have x12 := below_cell hb10 x2
            clear hW10 hb10 hr10
            go_wp2_with (first | rw [← HW7.out] | rw [← HW10.out] | rw [← HW11.out] | (at_builtin; refine app_dlg rfl _ _ rfl wc.heap.size _ (sl ++ [((D, (.slice xa D.cs.length xk, .slice ya D.ps.length yk)) : DV)]) (sl.length + 1) rfl HO11.out w9.heap.size 1 (d, (.slice ca d.cs.length cc, .slice pa d.ps.length pc)) rfl ⟨⟨_, _, _, rfl⟩, ⟨_, _, _, rfl⟩⟩ HC11.out (by have := HZL.out; omega) HS11.out ?_; intro g8 c8 w8 h8 o8; have H8 := Lib.hid h8; have B8 := Lib.hid (own_below HO11.out o8.1 HS11.out); clear h8 o8) | (at_builtin; refine app_dlg rfl _ _ rfl wc.heap.size _ sl sl.length rfl HO10.out W7.heap.size 1 (D, (.slice xa D.cs.length xk, .slice ya D.ps.length yk)) rfl ⟨⟨_, _, _, rfl⟩, ⟨_, _, _, rfl⟩⟩ HC10.out (by have := HZL.out; omega) HS10.out ?_; intro g9 c9 w9 h9 o9; have x20 := (onto_far o9 HSW.out HNE.out 0).trans x10; have x21 := (onto_far o9 HSW.out HNE.out 1).trans x11; have x22 := (onto_far o9 HSW.out HNE.out 2).trans x12; have b9 := own_below HO10.out o9.1 HS10.out; obtain ⟨W11, hW11, hb11, hr11⟩ := newB w9 d.dealer (.slice ca d.cs.length cc) (.slice pa d.ps.length pc); have HW11 := Lib.hid hW11; have HO11 := Lib.hid (own_keep h9 hb11); have HS11 := Lib.hid (Nat.le_trans HS10.out (Nat.le_trans b9.size hb11.size)); have HB11 := Lib.hid (HB10.out.trans (b9.trans (hb11.mono (Nat.le_trans HS10.out b9.size)))); have HC11 := Lib.hid (dv_cells hr11); clear h9 o9 b9 hW11 hb11 hr11))
            go_roundw
            case rel => exact ⟨k + 1, _, _, HLT.out, by go_num, rfl, HN2, by rw [List.length_append, List.length_append]; exact H8.out, HB11.out.trans B8.out⟩
            case measure =>
              have h9 := HLT.out
              simp [intOf]; omega
        · obtain rfl : k = l.length := by omega
          have hmem := allH_mem dealer zd (xsH l vs l.length)
          have hof := fun z (h9 : z ∈ allH dealer zd (xsH l vs l.length)) => allH_of h9
          have hln : (allH dealer zd (xsH l vs l.length)).length ≤ 5 := by
            have h8 := putsH_len dealer zd (xsH l vs l.length)
            rw [xsH_len] at h8
            unfold allH
            split
            · omega
            · rw [List.length_append, List.length_singleton]; omega
          have hall : allH dealer zd (xsH l vs l.length) = if sb = true then sl else sl ++ [zd] := by unfold allH; rw [HPS.out]
          have hsl : sl.length ≤ 5 := by
            rw [hall] at hln
            split at hln
            · exact hln
            · rw [List.length_append] at hln; omega
          have hok : ∀ W, Below wc.heap.size wc W → ∀ z ∈ allH dealer zd (xsH l vs l.length), DvOK W z := fun W hW z hz => by
            rcases hof z hz with rfl | h4
            · rw [HZD.out]; exact ⟨HXR.out, HXC.out.below hW, HXP.out.below hW⟩
            · obtain ⟨i, h3, rfl⟩ := List.mem_map.1 (show z ∈ (List.range l.length).map (fun i => ((l.getD i noD, vs i) : DV)) from h4)
              have hi := List.mem_range.1 h3
              obtain ⟨_, _, -, hat⟩ := (HD.out.below hW).at hi
              have hg : l.getD i noD = l[i] := getD_at hi _
              exact ⟨by show R64 (l.getD i noD).dealer; rw [hg]; exact hat.r, by show Ints W (vs i).1 (l.getD i noD).cs; rw [hg]; exact hat.cs, by show Parcels W (vs i).2 (l.getD i noD).ps; rw [hg]; exact hat.ps⟩
          generalize allH dealer zd (xsH l vs l.length) = zs at *
          have hin : D ∈ zs.map (·.1) := List.mem_map.2 ⟨zd, hmem, by rw [HZD.out]⟩
          rw [HDE.out] at hin
          have HIN := Lib.hid hin
          have hzl : (zs.map (·.1)).length ≤ 5 := by rw [List.length_map]; exact hln
          have HZ5 := Lib.hid hzl
          have HON := Lib.hid (fun ho => honest_in HKD.out HKO.out HKC.out HIN.out ho (by have := HZ5.out; omega) (show cl.length ≤ 4096 by omega))
          have HOK := Lib.hid hok
          have hbn : wc.heap.size ≤ wr.heap.size := hb.size
          have HBN := Lib.hid hbn
          have HSL := Lib.hid hsl
          clear hmem hof hln hin hzl hok hbn hsl
          cases sb with
          | true =>
            obtain rfl : zs = sl := by rw [hall, if_pos rfl]
            have HX := Lib.hid (Dlgs.own hown (HOK.out wr hb) (by have := HSL.out; omega))
            obtain ⟨sa, sc, rfl, -⟩ := id HX.out
            rw [List.length_map] at HX ⊢
            clear hown HPS hall
            replace c0 := below_cell hb c0
            replace c1 := below_cell hb c1
            replace m0 := below_cell hb m0
            replace m1 := below_cell hb m1
            replace m2 := below_cell hb m2
            replace HG := Lib.hid (HG.out.below hb)
            replace HR := Lib.hid (HR.out.below hb)
            replace HO := Lib.hid (HO.out.below hb)
            replace HS := Lib.hid (HS.out.below hb)
            replace HM := Lib.hid (HM.out.below hb)
            replace HU := Lib.hid (HU.out.below hb)
            replace HD := Lib.hid (HD.out.below hb)
            replace HC := Lib.hid (HC.out.below hb)
            replace HK := Lib.hid (HK.out.below hb)
            replace HXC := Lib.hid (HXC.out.below hb)
            replace HXP := Lib.hid (HXP.out.below hb)
            replace HB := Lib.hid (HB.out.trans (hb.mono HB.out.size))
            clear hb
            go_wp2_with fail
            with_reducible refine (rDealers37_any _ (zs.map (·.1)) (dvV zs) _ HX.out).mono ?_
            rintro e w7 ⟨rfl, hb7⟩
            replace c0 := below_cell hb7 c0
            replace c1 := below_cell hb7 c1
            replace m0 := below_cell hb7 m0
            replace m1 := below_cell hb7 m1
            replace m2 := below_cell hb7 m2
            replace HG := Lib.hid (HG.out.below hb7)
            replace HR := Lib.hid (HR.out.below hb7)
            replace HO := Lib.hid (HO.out.below hb7)
            replace HS := Lib.hid (HS.out.below hb7)
            replace HM := Lib.hid (HM.out.below hb7)
            replace HU := Lib.hid (HU.out.below hb7)
            replace HD := Lib.hid (HD.out.below hb7)
            replace HC := Lib.hid (HC.out.below hb7)
            replace HK := Lib.hid (HK.out.below hb7)
            replace HXC := Lib.hid (HXC.out.below hb7)
            replace HXP := Lib.hid (HXP.out.below hb7)
            replace HX := Lib.hid (HX.out.below hb7)
            replace HB := Lib.hid (HB.out.trans (hb7.mono HB.out.size))
            clear hb7
            cases hob : ordB (zs.map (·.1)) with
            | false =>
              clear hob HON
              go_wp2_with fail
              go_ret
              exact ⟨rfl, HB.out⟩
            | true =>
            replace HON := Lib.hid (HON.out hob)
            clear hob
            obtain ⟨zvx, hzvx⟩ : ∃ z, z = dvV zs := ⟨_, rfl⟩
            rw [← hzvx] at HX
            obtain ⟨zl, hzl⟩ : ∃ z, z = zs.map (·.1) := ⟨_, rfl⟩
            rw [← hzl] at HX HON HZ5
            clear hzl hzvx
            go_wp2_with fail
            with_reducible refine (kQualified_any _ _ _ _ _ rows owners keys zl zvx cl _ HG.out HR.out HO.out HK.out HX.out HC.out).mono ?_
            rintro e w8 ⟨v, kv, rfl, hb8, -, hon⟩
            rw [HON.out.1] at hon ⊢
            obtain ⟨hvi, cv2, rfl, hci⟩ := hon rfl
            obtain ⟨va, vc, rfl, -⟩ := id hvi
            obtain ⟨za, zc, rfl, -⟩ := id hci
            replace c0 := below_cell hb8 c0
            replace c1 := below_cell hb8 c1
            replace m0 := below_cell hb8 m0
            replace m1 := below_cell hb8 m1
            replace m2 := below_cell hb8 m2
            replace HG := Lib.hid (HG.out.below hb8)
            replace HR := Lib.hid (HR.out.below hb8)
            replace HO := Lib.hid (HO.out.below hb8)
            replace HS := Lib.hid (HS.out.below hb8)
            replace HM := Lib.hid (HM.out.below hb8)
            replace HU := Lib.hid (HU.out.below hb8)
            replace HD := Lib.hid (HD.out.below hb8)
            replace HC := Lib.hid (HC.out.below hb8)
            replace HK := Lib.hid (HK.out.below hb8)
            replace HXC := Lib.hid (HXC.out.below hb8)
            replace HXP := Lib.hid (HXP.out.below hb8)
            replace HX := Lib.hid (HX.out.below hb8)
            replace HB := Lib.hid (HB.out.trans (hb8.mono HB.out.size))
            clear hb8
            obtain ⟨W9, hW9, hb9, hr9⟩ := newK w8 (.int .i64 0) (.slice a1 rows.length k1) (.slice a2 owners.length k2) (.slice za (comL (qualL rows owners keys cl zl)).length zc)
            have HW9 := Lib.hid hW9
            have HVI := Lib.hid (hvi.below hb9)
            have HBZ := Lib.hid (HB.out.trans (hb9.mono HB.out.size))
            have hdm : decide (dealer ∈ dlrL (qualL rows owners keys cl zl)) = true := decide_eq_true HON.out.2
            generalize dlrL (qualL rows owners keys cl zl) = q at *
            generalize comL (qualL rows owners keys cl zl) = cq at *
            clear hW9 hr9 hvi hci hon hb9 HON
            go_wp2_with (rw [← HW9.out])
            with_reducible refine (rHas_any _ q dealer _ HVI.out).mono ?_
            rintro e w10 ⟨rfl, rfl⟩
            rw [hdm]
            go_wp2_with fail
            go_ret
            exact ⟨rfl, HBZ.out⟩
          | false =>
            have hall : zs = sl ++ [zd] := hall
            obtain ⟨W10, hW10, hb10, hr10⟩ := newB wr D.dealer (.slice xa D.cs.length xk) (.slice ya D.ps.length yk)
            obtain ⟨sa, sn, sc, rfl⟩ := own_sl hown
            have HW10 := Lib.hid hW10
            have HO10 := Lib.hid (own_keep hown hb10)
            have HC10 : Hid (∀ j u, (dvC (D, (.slice xa D.cs.length xk, .slice ya D.ps.length yk)))[j]? = some u → W10.cell? ⟨wr.heap.size, j, none⟩ = some u) := Lib.hid (dv_cells hr10)
            have HS10 : Hid (wc.heap.size ≤ W10.heap.size) := Lib.hid (Nat.le_trans hb.size hb10.size)
            have HB10 := Lib.hid hb10
            have HBW := Lib.hid hb
            have z0 := below_cell hb m0
            have z1 := below_cell hb m1
            have z2 := below_cell hb m2
            clear hW10 hb10 hr10 hown hb HPS
            go_wp2_with (first | rw [← HW10.out] | (at_builtin; refine app_dlg rfl _ _ rfl wc.heap.size _ sl sl.length rfl HO10.out wr.heap.size 1 (D, (.slice xa D.cs.length xk, .slice ya D.ps.length yk)) rfl ⟨⟨_, _, _, rfl⟩, ⟨_, _, _, rfl⟩⟩ HC10.out (by have := HSL.out; omega) HS10.out ?_; intro g9 c9 w9 h9 o9; have H9 := Lib.hid h9; have b9 := own_below HO10.out o9.1 HS10.out; have O9 := Lib.hid o9; have B9 := Lib.hid b9; clear h9 o9 b9))
            have hb9 : Below wc.heap.size wc w9 := (HBW.out.trans (HB10.out.mono HBW.out.size)).trans B9.out
            clear B9 HBW HB10 HW10 HO10 HC10 HS10 O9 z0 z1 z2
            have hzx : (sl ++ [(D, (.slice xa D.cs.length xk, .slice ya D.ps.length yk))] : List DV) = zs := by rw [hall, HZD.out]
            have h10 := H9.out
            rw [hzx] at h10
            have HX := Lib.hid (Dlgs.own h10 (HOK.out w9 hb9) (by have := HZ5.out; rw [List.length_map] at this; omega))
            clear H9 h10 hall hzx
            replace c0 := below_cell hb9 c0
            replace c1 := below_cell hb9 c1
            replace m0 := below_cell hb9 m0
            replace m1 := below_cell hb9 m1
            replace m2 := below_cell hb9 m2
            replace HG := Lib.hid (HG.out.below hb9)
            replace HR := Lib.hid (HR.out.below hb9)
            replace HO := Lib.hid (HO.out.below hb9)
            replace HS := Lib.hid (HS.out.below hb9)
            replace HM := Lib.hid (HM.out.below hb9)
            replace HU := Lib.hid (HU.out.below hb9)
            replace HD := Lib.hid (HD.out.below hb9)
            replace HC := Lib.hid (HC.out.below hb9)
            replace HK := Lib.hid (HK.out.below hb9)
            replace HXC := Lib.hid (HXC.out.below hb9)
            replace HXP := Lib.hid (HXP.out.below hb9)
            replace HB := Lib.hid (HB.out.trans (hb9.mono HB.out.size))
            clear hb9
            go_wp2_with fail
            with_reducible refine (rDealers37_any _ (zs.map (·.1)) (dvV zs) _ HX.out).mono ?_
            rintro e w7 ⟨rfl, hb7⟩
            replace c0 := below_cell hb7 c0
            replace c1 := below_cell hb7 c1
            replace m0 := below_cell hb7 m0
            replace m1 := below_cell hb7 m1
            replace m2 := below_cell hb7 m2
            replace HG := Lib.hid (HG.out.below hb7)
            replace HR := Lib.hid (HR.out.below hb7)
            replace HO := Lib.hid (HO.out.below hb7)
            replace HS := Lib.hid (HS.out.below hb7)
            replace HM := Lib.hid (HM.out.below hb7)
            replace HU := Lib.hid (HU.out.below hb7)
            replace HD := Lib.hid (HD.out.below hb7)
            replace HC := Lib.hid (HC.out.below hb7)
            replace HK := Lib.hid (HK.out.below hb7)
            replace HXC := Lib.hid (HXC.out.below hb7)
            replace HXP := Lib.hid (HXP.out.below hb7)
            replace HX := Lib.hid (HX.out.below hb7)
            replace HB := Lib.hid (HB.out.trans (hb7.mono HB.out.size))
            clear hb7
            cases hob : ordB (zs.map (·.1)) with
            | false =>
              clear hob HON
              go_wp2_with fail
              go_ret
              exact ⟨rfl, HB.out⟩
            | true =>
            replace HON := Lib.hid (HON.out hob)
            clear hob
            obtain ⟨zvx, hzvx⟩ : ∃ z, z = dvV zs := ⟨_, rfl⟩
            rw [← hzvx] at HX
            obtain ⟨zl, hzl⟩ : ∃ z, z = zs.map (·.1) := ⟨_, rfl⟩
            rw [← hzl] at HX HON HZ5
            clear hzl hzvx
            go_wp2_with fail
            with_reducible refine (kQualified_any _ _ _ _ _ rows owners keys zl zvx cl _ HG.out HR.out HO.out HK.out HX.out HC.out).mono ?_
            rintro e w8 ⟨v, kv, rfl, hb8, -, hon⟩
            rw [HON.out.1] at hon ⊢
            obtain ⟨hvi, cv2, rfl, hci⟩ := hon rfl
            obtain ⟨va, vc, rfl, -⟩ := id hvi
            obtain ⟨za, zc, rfl, -⟩ := id hci
            replace c0 := below_cell hb8 c0
            replace c1 := below_cell hb8 c1
            replace m0 := below_cell hb8 m0
            replace m1 := below_cell hb8 m1
            replace m2 := below_cell hb8 m2
            replace HG := Lib.hid (HG.out.below hb8)
            replace HR := Lib.hid (HR.out.below hb8)
            replace HO := Lib.hid (HO.out.below hb8)
            replace HS := Lib.hid (HS.out.below hb8)
            replace HM := Lib.hid (HM.out.below hb8)
            replace HU := Lib.hid (HU.out.below hb8)
            replace HD := Lib.hid (HD.out.below hb8)
            replace HC := Lib.hid (HC.out.below hb8)
            replace HK := Lib.hid (HK.out.below hb8)
            replace HXC := Lib.hid (HXC.out.below hb8)
            replace HXP := Lib.hid (HXP.out.below hb8)
            replace HX := Lib.hid (HX.out.below hb8)
            replace HB := Lib.hid (HB.out.trans (hb8.mono HB.out.size))
            clear hb8
            obtain ⟨W9, hW9, hb9, hr9⟩ := newK w8 (.int .i64 0) (.slice a1 rows.length k1) (.slice a2 owners.length k2) (.slice za (comL (qualL rows owners keys cl zl)).length zc)
            have HW9 := Lib.hid hW9
            have HVI := Lib.hid (hvi.below hb9)
            have HBZ := Lib.hid (HB.out.trans (hb9.mono HB.out.size))
            have hdm : decide (dealer ∈ dlrL (qualL rows owners keys cl zl)) = true := decide_eq_true HON.out.2
            generalize dlrL (qualL rows owners keys cl zl) = q at *
            generalize comL (qualL rows owners keys cl zl) = cq at *
            clear hW9 hr9 hvi hci hon hb9 HON
            go_wp2_with (rw [← HW9.out])
            with_reducible refine (rHas_any _ q dealer _ HVI.out).mono ?_
            rintro e w10 ⟨rfl, rfl⟩
            rw [hdm]
            go_wp2_with fail
            go_ret
            exact ⟨rfl, HBZ.out⟩

set_option maxRecDepth 100000 in
theorem keygenHonest_all (rv ov sv mv uv dv cv : Value) (rows : List (List Int)) (owners secrets : List Int) (dealer x : Int) (rnd us : List Int) (l : List Dlg) (vs : DVals) (cl : List Cmp) (w : World) (hR : Rows2 w rv rows) (hO : Ints w ov owners) (hS : Ints w sv secrets) (hd : R64 dealer) (hx : R64 x) (hM : Ints w mv rnd) (hU : Ints w uv us) (hD : Dlgs w dv l vs) (hC : Cmps w cv cl) (hG : Glob w) :
    Calls Tryz.prog 9 #[.agg #[rv, ov], sv, .int .i64 dealer, .int .i64 x, mv, uv, dv, cv] w fun r w' => r = .returned (.bool true) ∧ Below w.heap.size w w' :=
  keygenHonest_any rv ov sv mv uv dv cv rows owners secrets dealer x rnd us l vs cl w hG hR hO hS hd hx hM hU hD hC

end Go.Proofs.YtggnipkfliompaaGreatDoor
