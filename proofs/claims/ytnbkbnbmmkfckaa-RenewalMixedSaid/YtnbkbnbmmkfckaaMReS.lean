/- The reference of renewing: SameKey. The laws of renewing: RenewalOrder. -/
import Derived.Test.YtnbkbnbmmkfckaaMReQ
import Derived.Test.YtnbkbnbmmkfckaaMPmA
import Derived.Test.YtnbkbnbmmkfckaaMRdE
import Derived.Test.YtnbkbnbmmkfckaaMDeaS
import Derived.Test.YtnbkbnbmmkfckaaMOpen
namespace Go.Proofs.Ytnbkbnbmmkfckaa
open Go.RowKit FP

set_option maxRecDepth 100000 in
theorem rSame34_is (v u : Value) (a b : List Int) (c : Bool) (w : World) (hI : Ints w v a) (hJ : Ints w u b) (hc : sameQ a b = c) :
    Calls Try.prog 73 #[v, u] w fun r w' => r = .returned (.bool c) ∧ Below w.heap.size w w' :=
  (rSameInts34_any v u a b w hI hJ).mono fun r w' ⟨h1, h2⟩ => ⟨by rw [h1, hc], h2⟩


set_option maxRecDepth 100000 in
set_option maxHeartbeats 4000000 in
theorem rSameP38_any (rv ov rv2 ov2 : Value) (r s : List (List Int)) (o p : List Int) (w : World) (hR : Rows2 w rv r) (hO : Ints w ov o) (hS : Rows2 w rv2 s) (hP : Ints w ov2 p) :
    Calls Try.prog 85 #[.agg #[rv, ov], .agg #[rv2, ov2]] w fun e w' => e = .returned (.bool (sameP r s o p)) ∧ Below w.heap.size w w' := by
  obtain ⟨W1, hW1, hb1, hr1, hz⟩ := box_prog w rv ov 25
  obtain ⟨W2, hW2, hb2, hr2, hz2⟩ := box_prog W1 rv2 ov2 25
  have hs1 : W1.heap.size = w.heap.size + 1 := by rw [hW1]; simp
  have hb := hb1.trans (hb2.mono hb1.size)
  have HR := Lib.hid (hR.below hb)
  have HO := Lib.hid (hO.below hb)
  have HS := Lib.hid (hS.below hb)
  have HP := Lib.hid (hP.below hb)
  have hr1' := (hb2.block _ hz).trans hr1
  rw [hs1] at hr2
  obtain ⟨ar, cr, rfl, -, hlr, hkr⟩ := hR
  obtain ⟨ao, co, rfl, -, hlo, -⟩ := hO
  obtain ⟨a5, cs, rfl, -, hls, hks⟩ := hS
  obtain ⟨a6, cp, rfl, -, hlp, -⟩ := hP
  have c0 : W2.cell? ⟨w.heap.size, 0, none⟩ = some (.slice ar r.length cr) := row_cell hr1' rfl
  have c1 : W2.cell? ⟨w.heap.size, 1, none⟩ = some (.slice ao o.length co) := row_cell hr1' rfl
  have c2 : W2.cell? ⟨w.heap.size + 1, 0, none⟩ = some (.slice a5 s.length cs) := row_cell hr2 rfl
  have c3 : W2.cell? ⟨w.heap.size + 1, 1, none⟩ = some (.slice a6 p.length cp) := row_cell hr2 rfl
  have HB := Lib.hid hb
  have HW : Hid (W2 = (w.alloc (.cells #[.slice ar r.length cr, .slice ao o.length co] 25)).alloc (.cells #[.slice a5 s.length cs, .slice a6 p.length cp] 25)) := Lib.hid (by rw [hW2, hW1])
  clear hkr hks hr1 hr1' hr2 hb1 hb2 hb hz hz2 hW1 hW2 hs1
  by_cases hl : r.length = s.length
  rotate_left
  · have hq : ((r.length : Int) != (s.length : Int)) = true := by rw [bne_iff_ne]; omega
    have HV := Lib.hid (sameP_len (o := o) (p := p) hl)
    clear hl
    go_enter Try.func85, Try.ntmps85
    go_wp2_with (rw [← HW.out])
    go_ret
    exact ⟨ret_bool HV.out.symm, HB.out⟩
  · have hq : ((r.length : Int) != (s.length : Int)) = false := by rw [hl]; simp
    have HL := Lib.hid hl
    clear hl
    cases hso : sameQ o p with
    | false =>
      have HV := Lib.hid (sameP_own (r := r) (s := s) hso)
      have HSO := Lib.hid hso
      clear hso
      go_enter Try.func85, Try.ntmps85
      go_wp2_with (rw [← HW.out])
      with_reducible refine (rSame34_is _ _ o p false W2 HO.out HP.out HSO.out).mono ?_
      rintro e w3 ⟨rfl, hb3⟩
      have HB3 := Lib.hid (below_later HB.out (Nat.le_refl _) hb3)
      clear hb3
      go_wp2_with fail
      go_ret
      exact ⟨ret_bool HV.out.symm, HB3.out⟩
    | true =>
      have HSO := Lib.hid hso
      clear hso
      go_enter Try.func85, Try.ntmps85
      go_wp2_with (rw [← HW.out])
      with_reducible refine (rSame34_is _ _ o p true W2 HO.out HP.out HSO.out).mono ?_
      rintro e w3 ⟨rfl, hb3⟩
      have HB3 := Lib.hid hb3
      have HB4 := Lib.hid (below_later HB.out (Nat.le_refl _) hb3)
      have c0 := below_cell hb3 c0
      have c2 := below_cell hb3 c2
      have HR := Lib.hid (HR.out.below hb3)
      have HS := Lib.hid (HS.out.below hb3)
      clear hb3 c1 c3
      go_wp2_with fail
      go_loopw [5] (fun i W => ∃ k : Nat, k ≤ r.length ∧ i = .int .i64 k ∧ Hid (∀ j (h1 : j < r.length) (h2 : j < s.length), j < k → r[j] = s[j]) ∧ Below w3.heap.size w3 W) (fun i _ => r.length - (intOf i).toNat)
      case atStart => exact ⟨0, Nat.zero_le _, rfl, Lib.hid fun j _ _ h => absurd h (Nat.not_lt_zero _), Below.refl _ _⟩
      case round =>
        obtain ⟨k, hkl, rfl, HPR, hb⟩ := hrel
        have HBW := Lib.hid hb
        have y0 := below_cell hb c0
        have y2 := below_cell hb c2
        by_cases hlt : k < r.length
        · obtain ⟨a1, cc1, e1, -, -, hk1⟩ := HR.out
          obtain ⟨b1, o1, v1, ea1, q1, i1⟩ := hk1 k hlt
          simp only [Value.slice.injEq] at e1
          obtain ⟨rfl, -, -⟩ := e1
          subst ea1
          have hls2 : k < s.length := by rw [← HL.out]; exact hlt
          obtain ⟨a2, cc2, e2, -, -, hk2⟩ := HS.out
          obtain ⟨b2, o2, v2, ea2, q2, i2⟩ := hk2 k hls2
          simp only [Value.slice.injEq] at e2
          obtain ⟨rfl, -, -⟩ := e2
          subst ea2
          have y1 := below_cell hb q1
          have y3 := below_cell hb q2
          have HI1 := Lib.hid (i1.below hb)
          have HI2 := Lib.hid (i2.below hb)
          have j0 : (0 : Int) ≤ (k : Int) := by omega
          have j1 : (k : Int) < (r.length : Int) := by omega
          have j2 : (k : Int) < (s.length : Int) := by omega
          clear hk1 hk2 i1 i2 q1 q2 hb
          cases he : sameQ r[k] s[k] with
          | false =>
            have HV := Lib.hid (sameP_at (o := o) (p := p) hlt hls2 he)
            have HE := Lib.hid he
            clear he
            have y0d : wr.drew.cell? ⟨w.heap.size, 0, none⟩ = some (.slice (some ⟨b1, o1, none⟩) r.length cr) := y0
            have y1d : wr.drew.cell? ⟨b1, o1 + k, none⟩ = some v1 := y1
            have y2d : wr.drew.cell? ⟨w.heap.size + 1, 0, none⟩ = some (.slice (some ⟨b2, o2, none⟩) s.length cs) := y2
            have y3d : wr.drew.cell? ⟨b2, o2 + k, none⟩ = some v2 := y3
            have HBD := Lib.hid (below_later HB4.out (Nat.le_refl _) HBW.out.drew)
            go_wp2_with fail
            go_region_held3 (fun w' => w'.cell? ⟨w.heap.size, 0, none⟩ = some (.slice (some ⟨b1, o1, none⟩) r.length cr) ∧ w'.cell? ⟨w.heap.size + 1, 0, none⟩ = some (.slice (some ⟨b2, o2, none⟩) s.length cs) ∧ w'.cell? ⟨b1, o1 + k, none⟩ = some v1 ∧ w'.cell? ⟨b2, o2 + k, none⟩ = some v2) (go_keep)
              ((go_at_call 73; with_reducible refine (rSame34_is _ _ r[k] s[k] false _ HI1.out.drew HI2.out.drew HE.out).mono ?_; rintro e w6 ⟨rfl, hb7⟩; have k0 := below_cell hb7 y0d; have k1 := below_cell hb7 y1d; have k2 := below_cell hb7 y2d; have k3 := below_cell hb7 y3d))
            go_wp2_with fail
            go_ret
            exact ⟨ret_bool HV.out.symm, below_later HBD.out (Nat.le_refl _) hb7⟩
          | true =>
            have HN := Lib.hid (show ∀ j (h1 : j < r.length) (h2 : j < s.length), j < k + 1 → r[j] = s[j] from fun j h1 h2 h3 => by
              by_cases e : j = k
              · subst e; exact of_decide_eq_true he
              · exact HPR.out j h1 h2 (by omega))
            have HE := Lib.hid he
            clear he
            have y0d : wr.drew.cell? ⟨w.heap.size, 0, none⟩ = some (.slice (some ⟨b1, o1, none⟩) r.length cr) := y0
            have y1d : wr.drew.cell? ⟨b1, o1 + k, none⟩ = some v1 := y1
            have y2d : wr.drew.cell? ⟨w.heap.size + 1, 0, none⟩ = some (.slice (some ⟨b2, o2, none⟩) s.length cs) := y2
            have y3d : wr.drew.cell? ⟨b2, o2 + k, none⟩ = some v2 := y3
            have HBD := Lib.hid HBW.out.drew
            go_wp2_with fail
            go_region_held3 (fun w' => w'.cell? ⟨w.heap.size, 0, none⟩ = some (.slice (some ⟨b1, o1, none⟩) r.length cr) ∧ w'.cell? ⟨w.heap.size + 1, 0, none⟩ = some (.slice (some ⟨b2, o2, none⟩) s.length cs) ∧ w'.cell? ⟨b1, o1 + k, none⟩ = some v1 ∧ w'.cell? ⟨b2, o2 + k, none⟩ = some v2) (go_keep)
              ((go_at_call 73; with_reducible refine (rSame34_is _ _ r[k] s[k] true _ HI1.out.drew HI2.out.drew HE.out).mono ?_; rintro e w6 ⟨rfl, hb7⟩; have k0 := below_cell hb7 y0d; have k1 := below_cell hb7 y1d; have k2 := below_cell hb7 y2d; have k3 := below_cell hb7 y3d))
            go_wp2_with fail
            go_roundw
            case rel => exact ⟨k + 1, by omega, by go_num, HN, below_later HBD.out (Nat.le_refl _) hb7⟩
            case measure => simp [intOf]; omega
        · have HV := Lib.hid (sameP_all (o := o) (p := p) HL.out HSO.out fun j h1 h2 => HPR.out j h1 h2 (by omega))
          have HF := Lib.hid (below_later HB4.out (Nat.le_refl _) HBW.out)
          obtain rfl : k = r.length := by omega
          clear hb
          go_wp2_with fail
          go_ret
          exact ⟨ret_bool HV.out.symm, HF.out⟩


def sameKey (e e2 : Int) (r s : List (List Int)) (o p c d : List Int) : Bool := (e == e2) && (sameP r s o p && sameQ c d)
set_option maxRecDepth 100000 in
set_option maxHeartbeats 4000000 in
theorem rSameKey_any (e e2 : Int) (rv ov cv rv2 ov2 cv2 : Value) (r s : List (List Int)) (o p c d : List Int) (w : World) (hR : Rows2 w rv r) (hO : Ints w ov o) (hC : Ints w cv c) (hS : Rows2 w rv2 s) (hP : Ints w ov2 p) (hD : Ints w cv2 d) :
    Calls Try.prog 36 #[.agg #[.int .i64 e, rv, ov, cv], .agg #[.int .i64 e2, rv2, ov2, cv2]] w fun q w' => q = .returned (.bool (sameKey e e2 r s o p c d)) ∧ Below w.heap.size w w' := by
  obtain ⟨W1, hW1, hb1, hr1, hs1⟩ := box_key w (.int .i64 e) rv ov cv 38
  obtain ⟨W2, hW2, hb2, hr2, hs2⟩ := box_key W1 (.int .i64 e2) rv2 ov2 cv2 38
  have hb := hb1.trans (hb2.mono hb1.size)
  have HR := Lib.hid (hR.below hb)
  have HO := Lib.hid (hO.below hb)
  have HC := Lib.hid (hC.below hb)
  have HS := Lib.hid (hS.below hb)
  have HP := Lib.hid (hP.below hb)
  have HD := Lib.hid (hD.below hb)
  obtain ⟨a1, k1, rfl, -, hl1, -⟩ := id hR
  obtain ⟨a2, k2, rfl, -, hl2, -⟩ := id hO
  obtain ⟨a3, k3, rfl, -, hl3, -⟩ := id hC
  obtain ⟨a4, k4, rfl, -, hl4, -⟩ := id hS
  obtain ⟨a5, k5, rfl, -, hl5, -⟩ := id hP
  obtain ⟨a6, k6, rfl, -, hl6, -⟩ := id hD
  have Q1 := Lib.hid ((hb2.block _ (row_lt hr1)).trans hr1)
  rw [hs1] at hr2
  have Q2 := Lib.hid hr2
  rw [hW1] at hW2
  have HW2 := Lib.hid hW2
  have HB := Lib.hid hb
  clear hR hO hC hS hP hD hb hb1 hb2 hr1 hr2 hW1 hW2 hs1 hs2
  have u0 := row_cell Q1.out (k := 0) (v := .int .i64 e) rfl
  have u1 := row_cell Q1.out (k := 1) rfl
  have u2 := row_cell Q1.out (k := 2) rfl
  have v0 := row_cell Q2.out (k := 0) (v := .int .i64 e2) rfl
  have v1 := row_cell Q2.out (k := 1) rfl
  have v2 := row_cell Q2.out (k := 2) rfl
  go_enter Try.func36, Try.ntmps36
  by_cases he : e = e2
  rotate_left
  · have d0 : (e == e2) = false := beq_eq_false_iff_ne.2 he
    have HV : Hid (sameKey e e2 r s o p c d = false) := Lib.hid (by unfold sameKey; rw [d0]; rfl)
    clear he
    go_wp2_with (rw [← HW2.out])
    go_ret
    exact ⟨ret_bool HV.out.symm, HB.out⟩
  have d0 : (e == e2) = true := by rw [he]; exact beq_self_eq_true _
  have HV : Hid (sameKey e e2 r s o p c d = (sameP r s o p && sameQ c d)) := Lib.hid (by unfold sameKey; rw [d0]; rfl)
  clear he
  go_wp2_with (rw [← HW2.out])
  clear u0 u1 u2 v0 v1 v2
  with_reducible refine (rSameP38_any _ _ _ _ r s o p _ HR.out HO.out HS.out HP.out).mono ?_
  rintro e w3 ⟨rfl, hb3⟩
  replace HR := Lib.hid (HR.out.below hb3)
  replace HO := Lib.hid (HO.out.below hb3)
  replace HC := Lib.hid (HC.out.below hb3)
  replace HS := Lib.hid (HS.out.below hb3)
  replace HP := Lib.hid (HP.out.below hb3)
  replace HD := Lib.hid (HD.out.below hb3)
  replace Q1 := Lib.hid ((hb3.block _ (row_lt Q1.out)).trans Q1.out)
  replace Q2 := Lib.hid ((hb3.block _ (row_lt Q2.out)).trans Q2.out)
  replace HB := Lib.hid (HB.out.trans (hb3.mono HB.out.size))
  clear hb3
  cases hs : sameP r s o p with
  | false =>
    rw [hs] at HV
    go_wp2_with fail
    go_ret
    exact ⟨ret_bool HV.out.symm, HB.out⟩
  | true =>
    rw [hs, Bool.true_and] at HV
    have u3 := row_cell Q1.out (k := 3) rfl
    have v3 := row_cell Q2.out (k := 3) rfl
    go_wp2_with fail
    clear u3 v3
    with_reducible refine (rSameInts34_any _ _ c d _ HC.out HD.out).mono ?_
    rintro e w4 ⟨rfl, hb4⟩
    replace HR := Lib.hid (HR.out.below hb4)
    replace HO := Lib.hid (HO.out.below hb4)
    replace HC := Lib.hid (HC.out.below hb4)
    replace HS := Lib.hid (HS.out.below hb4)
    replace HP := Lib.hid (HP.out.below hb4)
    replace HD := Lib.hid (HD.out.below hb4)
    replace Q1 := Lib.hid ((hb4.block _ (row_lt Q1.out)).trans Q1.out)
    replace Q2 := Lib.hid ((hb4.block _ (row_lt Q2.out)).trans Q2.out)
    replace HB := Lib.hid (HB.out.trans (hb4.mono HB.out.size))
    clear hb4
    go_wp2_with fail
    go_ret
    exact ⟨ret_bool HV.out.symm, HB.out⟩

end Go.Proofs.Ytnbkbnbmmkfckaa

namespace Go.Proofs.Ytnbkbnbmmkfckaa
open Go.RowKit FP

theorem addQ_swap (r u v : List Int) : addQ (addQ r u) v = addQ (addQ r v) u := by
  refine List.ext_getElem (by simp [addQ]) fun k h1 h2 => ?_
  have hk : k < r.length := by simpa [addQ] using h1
  have e1 : ∀ u v : List Int, (h : k < (addQ (addQ r u) v).length) → (addQ (addQ r u) v)[k] = ((nth r k + nth u k) % 1073741789 + nth v k) % 1073741789 := fun u v h => by
    have e : (addQ (addQ r u) v)[k] = addF (addQ r u) v k := by simp [addQ]
    rw [e]
    unfold addF
    rw [nth_addQ hk]
  rw [e1, e1]
  omega
theorem box_key2 (w : World) (e rv ov cv e2 rv2 ov2 cv2 : Value) (t : TypeId) : ∃ W, W = (w.alloc (.cells #[e, rv, ov, cv] t)).alloc (.cells #[e2, rv2, ov2, cv2] t) ∧ Below w.heap.size w W ∧ W.heap[w.heap.size]? = some (.cells #[e, rv, ov, cv] t (0, 0)) ∧ W.heap[w.heap.size + 1]? = some (.cells #[e2, rv2, ov2, cv2] t (0, 0)) := by
  obtain ⟨W1, hW1, hb1, hr1, hs1⟩ := box_key w e rv ov cv t
  obtain ⟨W2, hW2, hb2, hr2, hs2⟩ := box_key W1 e2 rv2 ov2 cv2 t
  refine ⟨W2, by rw [hW2, hW1], hb1.trans (hb2.mono hb1.size), (hb2.block _ (row_lt hr1)).trans hr1, ?_⟩
  rw [hs1] at hr2
  exact hr2
set_option maxRecDepth 100000 in
theorem renew_to (ep ep' : Int) (he : ep' = ep + 1) (rv ov cv lv ccv mcv : Value) (rows : List (List Int)) (owners : List Int) (x : Int) (u : List Int) (zs : List (List Int)) (w : World) (hR : Rows2 w rv rows) (hO : Ints w ov owners) (hC : Ints w cv (dealC (x :: u))) (hL : Shares w lv (dealL rows (x :: u))) (hCC : Rows2 w ccv (zerC zs)) (hMM : SRows w mcv (zerL rows zs))
    (h : DealOK rows owners x u) (hp : progE rows owners = 0) (hz : ∀ z ∈ zs, DealOK rows owners 0 z) (h0 : 0 ≤ ep) (h1 : ep < 64) (hl : zs.length ≤ 64) :
    Calls Try.prog 35 #[.agg #[.int .i64 ep, rv, ov, cv], lv, ccv, mcv] w fun r w' => ∃ ac cc ay cy, r = .returned (.tuple #[.agg #[.int .i64 ep', rv, ov, .slice ac (colsQ rows) cc], .slice ay rows.length cy, .int .i64 0]) ∧ Ints w' (.slice ac (colsQ rows) cc) (dealC (x :: sumZ u zs)) ∧ Shares w' (.slice ay rows.length cy) (dealL rows (x :: sumZ u zs)) ∧ Below w.heap.size w w' := by
  subst he
  exact renew_ok ep rv ov cv lv ccv mcv rows owners x u zs w hR hO hC hL hCC hMM h hp hz h0 h1 hl
theorem rand_zero {rows : List (List Int)} {owners : List Int} (hp : progE rows owners = 0) (l : List Int) : DealOK rows owners 0 (randQ rows l) := rand_ok hp l (by decide)

set_option maxRecDepth 100000 in
set_option maxHeartbeats 16000000 in
theorem renewalOrder_any (rv ov lv1 lv2 lv3 : Value) (rows : List (List Int)) (owners : List Int) (a : Int) (l1 l2 l3 : List Int) (w : World) (hR : Rows2 w rv rows) (hO : Ints w ov owners) (ha : 0 ≤ a ∧ a < 4294967296) (hL1 : Words w lv1 l1) (hL2 : Words w lv2 l2) (hL3 : Words w lv3 l3) :
    Calls Try.prog 8 #[.agg #[rv, ov], .int .u32 a, lv1, lv2, lv3] w fun e w' => e = .returned (.bool true) ∧ Below w.heap.size w w' := by
  obtain ⟨W1, hW1, hb1, hr1, hz⟩ := box_prog w rv ov 25
  have HR := Lib.hid (hR.below hb1)
  have HO := Lib.hid (hO.below hb1)
  have HX1 := Lib.hid (hL1.below hb1)
  have HX2 := Lib.hid (hL2.below hb1)
  have HX3 := Lib.hid (hL3.below hb1)
  obtain ⟨ar, cap, rfl, -, hlen, -⟩ := id hR
  obtain ⟨a2, cap2, rfl, -, hlen2, -⟩ := id hO
  obtain ⟨a3, cap3, rfl, -⟩ := id hL1
  obtain ⟨a4, cap4, rfl, -⟩ := id hL2
  obtain ⟨a5, cap5, rfl, -⟩ := id hL3
  have c0 : W1.cell? ⟨w.heap.size, 0, none⟩ = some (.slice ar rows.length cap) := row_cell hr1 rfl
  have c1 : W1.cell? ⟨w.heap.size, 1, none⟩ = some (.slice a2 owners.length cap2) := row_cell hr1 rfl
  have HW1 := Lib.hid hW1
  have HB := Lib.hid hb1
  have HS := Lib.hid (sane38_any W1)
  clear hR hO hL1 hL2 hL3 hr1 hW1 hb1
  cases hsm : smallQ rows owners with
  | false =>
    have HSM := Lib.hid hsm
    clear hsm
    go_enter Try.func8, Try.ntmps8
    go_wp2_with fail
    rw [← HW1.out]
    with_reducible refine (HS.out).mono ?_
    rintro e w2 ⟨rfl, hb2⟩
    replace c0 := below_cell hb2 c0
    replace c1 := below_cell hb2 c1
    replace HR := Lib.hid (HR.out.below hb2)
    replace HO := Lib.hid (HO.out.below hb2)
    replace HX1 := Lib.hid (HX1.out.below hb2)
    replace HX2 := Lib.hid (HX2.out.below hb2)
    replace HX3 := Lib.hid (HX3.out.below hb2)
    replace HB := Lib.hid (HB.out.trans (hb2.mono HB.out.size))
    clear hb2
    go_wp2_with fail
    with_reducible refine (rsmall_any _ _ rows owners _ HR.out HO.out).mono ?_
    rintro e w3 ⟨rfl, hb3⟩
    replace c0 := below_cell hb3 c0
    replace c1 := below_cell hb3 c1
    replace HR := Lib.hid (HR.out.below hb3)
    replace HO := Lib.hid (HO.out.below hb3)
    replace HX1 := Lib.hid (HX1.out.below hb3)
    replace HX2 := Lib.hid (HX2.out.below hb3)
    replace HX3 := Lib.hid (HX3.out.below hb3)
    replace HB := Lib.hid (HB.out.trans (hb3.mono HB.out.size))
    clear hb3
    rw [HSM.out]
    go_wp2_with fail
    go_ret
    exact ⟨rfl, HB.out⟩
  | true =>
    have HSM := Lib.hid hsm
    obtain ⟨hrl, hp0, hcl⟩ := small_ok hsm
    obtain ⟨s, hs⟩ : ∃ s, s = a % 1073741789 := ⟨_, rfl⟩
    have hsn : 0 ≤ s ∧ s < 1073741789 := by omega
    have hP := progE_ok hp0
    obtain ⟨R, hRR⟩ : ∃ R, R = randQ rows l1 := ⟨_, rfl⟩
    obtain ⟨U, hUU⟩ : ∃ U, U = randQ rows l2 := ⟨_, rfl⟩
    obtain ⟨V, hVV⟩ : ∃ V, V = randQ rows l3 := ⟨_, rfl⟩
    have hD : DealOK rows owners s R := hRR ▸ rand_ok hp0 l1 hsn
    have hU : DealOK rows owners 0 U := hUU ▸ rand_zero hp0 l2
    have hV : DealOK rows owners 0 V := hVV ▸ rand_zero hp0 l3
    have HD1 := Lib.hid (fun ww h1 h2 h3 => numbers38_any (.slice ar rows.length cap) (.slice a2 owners.length cap2) (.slice a3 l1.length cap3) rows owners l1 ww h1 h2 h3 hP)
    have HD2 := Lib.hid (fun ww h1 h2 h3 => numbers38_any (.slice ar rows.length cap) (.slice a2 owners.length cap2) (.slice a4 l2.length cap4) rows owners l2 ww h1 h2 h3 hP)
    have HD3 := Lib.hid (fun ww h1 h2 h3 => numbers38_any (.slice ar rows.length cap) (.slice a2 owners.length cap2) (.slice a5 l3.length cap5) rows owners l3 ww h1 h2 h3 hP)
    rw [← hRR] at HD1
    rw [← hUU] at HD2
    rw [← hVV] at HD3
    have HN1 := Lib.hid (fun mv zv ww h1 h2 h3 h4 => renewed_any (.slice ar rows.length cap) (.slice a2 owners.length cap2) mv zv rows owners s R [U, V] ww h1 h2 h3 h4 hD hp0 (by simp [hU, hV]) (by simp))
    have HN2 := Lib.hid (fun mv zv ww h1 h2 h3 h4 => renewed_any (.slice ar rows.length cap) (.slice a2 owners.length cap2) mv zv rows owners s R [V, U] ww h1 h2 h3 h4 hD hp0 (by simp [hU, hV]) (by simp))
    have HN3 := Lib.hid (fun mv zv ww h1 h2 h3 h4 => renewed_any (.slice ar rows.length cap) (.slice a2 owners.length cap2) mv zv rows owners s R [U] ww h1 h2 h3 h4 hD hp0 (by simp [hU]) (by simp))
    have HZ := Lib.hid (fun mv ww h1 h2 h3 => zero_typed (.slice ar rows.length cap) (.slice a2 owners.length cap2) mv rows owners V ww h1 h2 h3 hV hp0)
    have HRN := Lib.hid (fun cv lv ccv mcv ww h1 h2 h3 h4 (h5 : Rows2 ww ccv [dealC (0 :: V)]) (h6 : SRows ww mcv [dealL rows (0 :: V)]) => renew_to 1 2 rfl (.slice ar rows.length cap) (.slice a2 owners.length cap2) cv lv ccv mcv rows owners s (sumZ R [U]) [V] ww h1 h2 h3 h4 h5 h6 (sumZ_ok hD) hp0 (by simp [hV]) (by decide) (by decide) (by simp))
    have e2 : sumZ R [V, U] = sumZ R [U, V] := addQ_swap R V U
    have e3 : sumZ (sumZ R [U]) [V] = sumZ R [U, V] := rfl
    rw [e2] at HN2
    rw [e3] at HRN
    obtain ⟨T, hT⟩ : ∃ T, T = sumZ R [U, V] := ⟨_, rfl⟩
    obtain ⟨T1, hT1⟩ : ∃ T, T = sumZ R [U] := ⟨_, rfl⟩
    obtain ⟨C, hC⟩ : ∃ C, C = dealC (s :: T) := ⟨_, rfl⟩
    obtain ⟨D, hDD⟩ : ∃ D, D = dealL rows (s :: T) := ⟨_, rfl⟩
    obtain ⟨C1, hC1⟩ : ∃ C, C = dealC (s :: T1) := ⟨_, rfl⟩
    obtain ⟨D1, hD1⟩ : ∃ D, D = dealL rows (s :: T1) := ⟨_, rfl⟩
    obtain ⟨cq, hcq⟩ : ∃ cq, cq = colsQ rows := ⟨_, rfl⟩
    rw [← hT, ← hC, ← hDD, ← hcq] at HN1 HN2
    rw [← hT1, ← hC1, ← hD1, ← hcq] at HN3
    rw [← hT, ← hT1, ← hC, ← hDD, ← hC1, ← hD1, ← hcq] at HRN
    rw [← hcq] at HZ
    have HSK : Hid (sameKey 1 1 rows rows owners owners C C = true) := Lib.hid (by simp [sameKey, sameP, sameQ])
    have HSS : Hid (sameS D D = true) := Lib.hid (decide_eq_true rfl)
    have hm1 : a.tmod 1073741789 = s := by rw [hs, Int.tmod_eq_emod_of_nonneg ha.1]
    have hw1 : IntKind.i64.wrap a = a := IntWalk.i64_in _ (by omega)
    have ha0 := ha.1
    have ha1 := ha.2
    have HS1 := Lib.hid hs
    clear hsm hs hsn hP hRR hUU hVV hD hU hV hT hT1 hC hDD hC1 hD1 hcq e2 e3 ha hp0
    go_enter Try.func8, Try.ntmps8
    go_wp2_with fail
    rw [← HW1.out]
    with_reducible refine (HS.out).mono ?_
    rintro e w2 ⟨rfl, hb2⟩
    replace c0 := below_cell hb2 c0
    replace c1 := below_cell hb2 c1
    replace HR := Lib.hid (HR.out.below hb2)
    replace HO := Lib.hid (HO.out.below hb2)
    replace HX1 := Lib.hid (HX1.out.below hb2)
    replace HX2 := Lib.hid (HX2.out.below hb2)
    replace HX3 := Lib.hid (HX3.out.below hb2)
    replace HB := Lib.hid (HB.out.trans (hb2.mono HB.out.size))
    clear hb2
    go_wp2_with fail
    with_reducible refine (rsmall_any _ _ rows owners _ HR.out HO.out).mono ?_
    rintro e w3 ⟨rfl, hb3⟩
    replace c0 := below_cell hb3 c0
    replace c1 := below_cell hb3 c1
    replace HR := Lib.hid (HR.out.below hb3)
    replace HO := Lib.hid (HO.out.below hb3)
    replace HX1 := Lib.hid (HX1.out.below hb3)
    replace HX2 := Lib.hid (HX2.out.below hb3)
    replace HX3 := Lib.hid (HX3.out.below hb3)
    replace HB := Lib.hid (HB.out.trans (hb3.mono HB.out.size))
    clear hb3
    rw [HSM.out]
    go_upto_region 5 with fail
    go_cut [11, 12, 13, 14] from 41 to 52 (fun q r u v W => ∃ ra rc ua uc va vc, q = .int .i64 s ∧ r = .slice ra R.length rc ∧ u = .slice ua U.length uc ∧ v = .slice va V.length vc ∧ Ints W (.slice ra R.length rc) R ∧ Ints W (.slice ua U.length uc) U ∧ Ints W (.slice va V.length vc) V ∧ Below w3.heap.size w3 W)
    case first =>
      have HBX := Lib.hid (Below.refl w3.heap.size w3)
      have hbd : Below w3.heap.size w3 w3.drew := (Below.refl _ _).drew
      replace HR := Lib.hid (HR.out.below hbd)
      replace HO := Lib.hid (HO.out.below hbd)
      replace HX1 := Lib.hid (HX1.out.below hbd)
      replace HX2 := Lib.hid (HX2.out.below hbd)
      replace HX3 := Lib.hid (HX3.out.below hbd)
      replace HB := Lib.hid (HB.out.drew)
      replace HBX := Lib.hid (HBX.out.drew)
      clear hbd
      try rw [← HS1.out]
      go_region_held3 (fun w' => w'.cell? ⟨w.heap.size, 0, none⟩ = some (.slice ar rows.length cap) ∧ w'.cell? ⟨w.heap.size, 1, none⟩ = some (.slice a2 owners.length cap2)) (first | go_keep | exact ⟨c0, c1⟩)
        (first
          | (go_at_call 32; (with_reducible refine (HD1.out _ HR.out HO.out HX1.out).mono ?_); rintro e wq ⟨v, rfl, hrn, hbq⟩; have H1 := Lib.hid hrn; obtain ⟨ra, rc, rfl, -⟩ := id hrn; clear hrn; (try replace H2 := Lib.hid (H2.out.below hbq)); (try replace H3 := Lib.hid (H3.out.below hbq)); replace c0 := below_cell hbq c0; replace c1 := below_cell hbq c1; replace HR := Lib.hid (HR.out.below hbq); replace HO := Lib.hid (HO.out.below hbq); replace HX1 := Lib.hid (HX1.out.below hbq); replace HX2 := Lib.hid (HX2.out.below hbq); replace HX3 := Lib.hid (HX3.out.below hbq); replace HB := Lib.hid (HB.out.trans (hbq.mono HB.out.size)); replace HBX := Lib.hid (HBX.out.trans (hbq.mono HBX.out.size)); clear hbq)
          | (go_at_call 32; (with_reducible refine (HD2.out _ HR.out HO.out HX2.out).mono ?_); rintro e wq ⟨v, rfl, hrn, hbq⟩; have H2 := Lib.hid hrn; obtain ⟨ua, uc, rfl, -⟩ := id hrn; clear hrn; (try replace H1 := Lib.hid (H1.out.below hbq)); (try replace H3 := Lib.hid (H3.out.below hbq)); replace c0 := below_cell hbq c0; replace c1 := below_cell hbq c1; replace HR := Lib.hid (HR.out.below hbq); replace HO := Lib.hid (HO.out.below hbq); replace HX1 := Lib.hid (HX1.out.below hbq); replace HX2 := Lib.hid (HX2.out.below hbq); replace HX3 := Lib.hid (HX3.out.below hbq); replace HB := Lib.hid (HB.out.trans (hbq.mono HB.out.size)); replace HBX := Lib.hid (HBX.out.trans (hbq.mono HBX.out.size)); clear hbq)
          | (go_at_call 32; (with_reducible refine (HD3.out _ HR.out HO.out HX3.out).mono ?_); rintro e wq ⟨v, rfl, hrn, hbq⟩; have H3 := Lib.hid hrn; obtain ⟨va, vc, rfl, -⟩ := id hrn; clear hrn; (try replace H1 := Lib.hid (H1.out.below hbq)); (try replace H2 := Lib.hid (H2.out.below hbq)); replace c0 := below_cell hbq c0; replace c1 := below_cell hbq c1; replace HR := Lib.hid (HR.out.below hbq); replace HO := Lib.hid (HO.out.below hbq); replace HX1 := Lib.hid (HX1.out.below hbq); replace HX2 := Lib.hid (HX2.out.below hbq); replace HX3 := Lib.hid (HX3.out.below hbq); replace HB := Lib.hid (HB.out.trans (hbq.mono HB.out.size)); replace HBX := Lib.hid (HBX.out.trans (hbq.mono HBX.out.size)); clear hbq))
      all_goals
        go_wp2_with fail
        go_meet
        exact ⟨ra, rc, ua, uc, va, vc, rfl, rfl, rfl, rfl, H1.out, H2.out, H3.out, HBX.out⟩
    case rest =>
    obtain ⟨ra, rc, ua, uc, va, vc, rfl, rfl, rfl, rfl, h1, h2, h3, hb4⟩ := hcut
    have H1 := Lib.hid h1
    have H2 := Lib.hid h2
    have H3 := Lib.hid h3
    clear h1 h2 h3
    replace c0 := below_cell hb4 c0
    replace c1 := below_cell hb4 c1
    replace HR := Lib.hid (HR.out.below hb4)
    replace HO := Lib.hid (HO.out.below hb4)
    replace HX1 := Lib.hid (HX1.out.below hb4)
    replace HX2 := Lib.hid (HX2.out.below hb4)
    replace HX3 := Lib.hid (HX3.out.below hb4)
    replace HB := Lib.hid (HB.out.trans (hb4.mono HB.out.size))
    clear hb4
    clear HX1 HX2 HX3 HD1 HD2 HD3
    obtain ⟨W5, hW5, hb5, hz5⟩ : ∃ W, W = wc.alloc (.cells #[.slice ua U.length uc, .slice va V.length vc] 23) ∧ Below wc.heap.size wc W ∧ Rows2 W (.slice (some ⟨wc.heap.size, 0, none⟩) 2 2) [U, V] := ⟨_, rfl, below_new _ _ _, rows_of2 (row_cell (World.alloc_heap_new _ _) rfl) (row_cell (World.alloc_heap_new _ _) rfl) (H2.out.below (below_new _ _ _)) (H3.out.below (below_new _ _ _)) (Nat.le_refl _)⟩
    have HW5 := Lib.hid hW5
    have HZ5 := Lib.hid hz5
    have x0 := c0
    have x1 := c1
    clear hW5 hz5
    replace c0 := below_cell hb5 c0
    replace c1 := below_cell hb5 c1
    replace HR := Lib.hid (HR.out.below hb5)
    replace HO := Lib.hid (HO.out.below hb5)
    replace H1 := Lib.hid (H1.out.below hb5)
    replace H2 := Lib.hid (H2.out.below hb5)
    replace H3 := Lib.hid (H3.out.below hb5)
    replace HB := Lib.hid (HB.out.trans (hb5.mono HB.out.size))
    clear hb5
    go_wp2_with (rw [← HW5.out])
    clear x0 x1
    with_reducible refine (HN1.out _ _ _ HR.out HO.out H1.out HZ5.out).mono ?_
    rintro e w6 ⟨al, cl, ac, cc, ad, cd, ay, cy, rfl, -, hc2, -, hs2, hb6⟩
    replace c0 := below_cell hb6 c0
    replace c1 := below_cell hb6 c1
    replace HR := Lib.hid (HR.out.below hb6)
    replace HO := Lib.hid (HO.out.below hb6)
    replace H1 := Lib.hid (H1.out.below hb6)
    replace H2 := Lib.hid (H2.out.below hb6)
    replace H3 := Lib.hid (H3.out.below hb6)
    replace HB := Lib.hid (HB.out.trans (hb6.mono HB.out.size))
    clear hb6
    have HC1 := Lib.hid hc2
    have HY1 := Lib.hid hs2
    clear hc2 hs2 HZ5 HN1
    obtain ⟨W7, hW7, hb7, -, hq7⟩ := box_key2 w6 (.int .i64 0) (.slice ar rows.length cap) (.slice a2 owners.length cap2) (.slice ac cq cc) (.int .i64 1) (.slice ar rows.length cap) (.slice a2 owners.length cap2) (.slice ad cq cd) 38
    have HW7 := Lib.hid hW7
    have Q1 := Lib.hid hq7
    have x0 := below_cell hb7 c0
    have x1 := below_cell hb7 c1
    clear hW7 hq7
    replace c0 := below_cell hb7 c0
    replace c1 := below_cell hb7 c1
    replace HR := Lib.hid (HR.out.below hb7)
    replace HO := Lib.hid (HO.out.below hb7)
    replace H1 := Lib.hid (H1.out.below hb7)
    replace H2 := Lib.hid (H2.out.below hb7)
    replace H3 := Lib.hid (H3.out.below hb7)
    replace HC1 := Lib.hid (HC1.out.below hb7)
    replace HY1 := Lib.hid (HY1.out.below hb7)
    replace HB := Lib.hid (HB.out.trans (hb7.mono HB.out.size))
    clear hb7
    obtain ⟨W8, hW8, hb8, hz8⟩ : ∃ W, W = W7.alloc (.cells #[.slice va V.length vc, .slice ua U.length uc] 23) ∧ Below W7.heap.size W7 W ∧ Rows2 W (.slice (some ⟨W7.heap.size, 0, none⟩) 2 2) [V, U] := ⟨_, rfl, below_new _ _ _, rows_of2 (row_cell (World.alloc_heap_new _ _) rfl) (row_cell (World.alloc_heap_new _ _) rfl) (H3.out.below (below_new _ _ _)) (H2.out.below (below_new _ _ _)) (Nat.le_refl _)⟩
    have HW8 := Lib.hid hW8
    have HZ8 := Lib.hid hz8
    clear hW8 hz8
    replace c0 := below_cell hb8 c0
    replace c1 := below_cell hb8 c1
    replace HR := Lib.hid (HR.out.below hb8)
    replace HO := Lib.hid (HO.out.below hb8)
    replace H1 := Lib.hid (H1.out.below hb8)
    replace H2 := Lib.hid (H2.out.below hb8)
    replace H3 := Lib.hid (H3.out.below hb8)
    replace HC1 := Lib.hid (HC1.out.below hb8)
    replace HY1 := Lib.hid (HY1.out.below hb8)
    replace Q1 := Lib.hid ((hb8.block _ (row_lt Q1.out)).trans Q1.out)
    replace HB := Lib.hid (HB.out.trans (hb8.mono HB.out.size))
    clear hb8
    go_wp2_with (first | rw [← HW7.out] | rw [← HW8.out])
    clear x0 x1
    with_reducible refine (HN2.out _ _ _ HR.out HO.out H1.out HZ8.out).mono ?_
    rintro e w9 ⟨al, cl, ac, cc, ad', cd', ay', cy', rfl, -, hc2, -, hs2, hb9⟩
    replace c0 := below_cell hb9 c0
    replace c1 := below_cell hb9 c1
    replace HR := Lib.hid (HR.out.below hb9)
    replace HO := Lib.hid (HO.out.below hb9)
    replace H1 := Lib.hid (H1.out.below hb9)
    replace H2 := Lib.hid (H2.out.below hb9)
    replace H3 := Lib.hid (H3.out.below hb9)
    replace HC1 := Lib.hid (HC1.out.below hb9)
    replace HY1 := Lib.hid (HY1.out.below hb9)
    replace Q1 := Lib.hid ((hb9.block _ (row_lt Q1.out)).trans Q1.out)
    replace HB := Lib.hid (HB.out.trans (hb9.mono HB.out.size))
    clear hb9
    have HC2 := Lib.hid hc2
    have HY2 := Lib.hid hs2
    clear hc2 hs2 HZ8 HN2
    obtain ⟨W10, hW10, hb10, -, hq10⟩ := box_key2 w9 (.int .i64 0) (.slice ar rows.length cap) (.slice a2 owners.length cap2) (.slice ac cq cc) (.int .i64 1) (.slice ar rows.length cap) (.slice a2 owners.length cap2) (.slice ad' cq cd') 38
    have HW10 := Lib.hid hW10
    have Q2 := Lib.hid hq10
    have x0 := below_cell hb10 c0
    have x1 := below_cell hb10 c1
    clear hW10 hq10
    replace c0 := below_cell hb10 c0
    replace c1 := below_cell hb10 c1
    replace HR := Lib.hid (HR.out.below hb10)
    replace HO := Lib.hid (HO.out.below hb10)
    replace H1 := Lib.hid (H1.out.below hb10)
    replace H2 := Lib.hid (H2.out.below hb10)
    replace H3 := Lib.hid (H3.out.below hb10)
    replace HC1 := Lib.hid (HC1.out.below hb10)
    replace HY1 := Lib.hid (HY1.out.below hb10)
    replace HC2 := Lib.hid (HC2.out.below hb10)
    replace HY2 := Lib.hid (HY2.out.below hb10)
    replace Q1 := Lib.hid ((hb10.block _ (row_lt Q1.out)).trans Q1.out)
    replace HB := Lib.hid (HB.out.trans (hb10.mono HB.out.size))
    clear hb10
    obtain ⟨W11, hW11, hb11, hz11⟩ : ∃ W, W = W10.alloc (.cells #[.slice ua U.length uc] 23) ∧ Below W10.heap.size W10 W ∧ Rows2 W (.slice (some ⟨W10.heap.size, 0, none⟩) 1 1) [U] := ⟨_, rfl, below_new _ _ _, Rows2.one H2.out _⟩
    have HW11 := Lib.hid hW11
    have HZ11 := Lib.hid hz11
    clear hW11 hz11
    replace c0 := below_cell hb11 c0
    replace c1 := below_cell hb11 c1
    replace HR := Lib.hid (HR.out.below hb11)
    replace HO := Lib.hid (HO.out.below hb11)
    replace H1 := Lib.hid (H1.out.below hb11)
    replace H2 := Lib.hid (H2.out.below hb11)
    replace H3 := Lib.hid (H3.out.below hb11)
    replace HC1 := Lib.hid (HC1.out.below hb11)
    replace HY1 := Lib.hid (HY1.out.below hb11)
    replace HC2 := Lib.hid (HC2.out.below hb11)
    replace HY2 := Lib.hid (HY2.out.below hb11)
    replace Q1 := Lib.hid ((hb11.block _ (row_lt Q1.out)).trans Q1.out)
    replace Q2 := Lib.hid ((hb11.block _ (row_lt Q2.out)).trans Q2.out)
    replace HB := Lib.hid (HB.out.trans (hb11.mono HB.out.size))
    clear hb11
    go_wp2_with (first | rw [← HW10.out] | rw [← HW11.out])
    clear x0 x1
    with_reducible refine (HN3.out _ _ _ HR.out HO.out H1.out HZ11.out).mono ?_
    rintro e w12 ⟨al, cl, ac, cc, ae, ce, az, cz, rfl, -, hc2, -, hs2, hb12⟩
    replace c0 := below_cell hb12 c0
    replace c1 := below_cell hb12 c1
    replace HR := Lib.hid (HR.out.below hb12)
    replace HO := Lib.hid (HO.out.below hb12)
    replace H1 := Lib.hid (H1.out.below hb12)
    replace H2 := Lib.hid (H2.out.below hb12)
    replace H3 := Lib.hid (H3.out.below hb12)
    replace HC1 := Lib.hid (HC1.out.below hb12)
    replace HY1 := Lib.hid (HY1.out.below hb12)
    replace HC2 := Lib.hid (HC2.out.below hb12)
    replace HY2 := Lib.hid (HY2.out.below hb12)
    replace Q1 := Lib.hid ((hb12.block _ (row_lt Q1.out)).trans Q1.out)
    replace Q2 := Lib.hid ((hb12.block _ (row_lt Q2.out)).trans Q2.out)
    replace HB := Lib.hid (HB.out.trans (hb12.mono HB.out.size))
    clear hb12
    have HC3 := Lib.hid hc2
    have HY3 := Lib.hid hs2
    clear hc2 hs2 HZ11 HN3
    obtain ⟨W13, hW13, hb13, -, hq13⟩ := box_key2 w12 (.int .i64 0) (.slice ar rows.length cap) (.slice a2 owners.length cap2) (.slice ac cq cc) (.int .i64 1) (.slice ar rows.length cap) (.slice a2 owners.length cap2) (.slice ae cq ce) 38
    have HW13 := Lib.hid hW13
    have Q3 := Lib.hid hq13
    clear hW13 hq13
    replace c0 := below_cell hb13 c0
    replace c1 := below_cell hb13 c1
    replace HR := Lib.hid (HR.out.below hb13)
    replace HO := Lib.hid (HO.out.below hb13)
    replace H1 := Lib.hid (H1.out.below hb13)
    replace H2 := Lib.hid (H2.out.below hb13)
    replace H3 := Lib.hid (H3.out.below hb13)
    replace HC1 := Lib.hid (HC1.out.below hb13)
    replace HY1 := Lib.hid (HY1.out.below hb13)
    replace HC2 := Lib.hid (HC2.out.below hb13)
    replace HY2 := Lib.hid (HY2.out.below hb13)
    replace HC3 := Lib.hid (HC3.out.below hb13)
    replace HY3 := Lib.hid (HY3.out.below hb13)
    replace Q1 := Lib.hid ((hb13.block _ (row_lt Q1.out)).trans Q1.out)
    replace Q2 := Lib.hid ((hb13.block _ (row_lt Q2.out)).trans Q2.out)
    replace HB := Lib.hid (HB.out.trans (hb13.mono HB.out.size))
    clear hb13
    go_wp2_with (rw [← HW13.out])
    with_reducible refine (HZ.out _ _ HR.out HO.out H3.out).mono ?_
    rintro e w14 ⟨am, cm, ao, co, rfl, hm, hn, hb14⟩
    replace c0 := below_cell hb14 c0
    replace c1 := below_cell hb14 c1
    replace HR := Lib.hid (HR.out.below hb14)
    replace HO := Lib.hid (HO.out.below hb14)
    replace H1 := Lib.hid (H1.out.below hb14)
    replace H2 := Lib.hid (H2.out.below hb14)
    replace H3 := Lib.hid (H3.out.below hb14)
    replace HC1 := Lib.hid (HC1.out.below hb14)
    replace HY1 := Lib.hid (HY1.out.below hb14)
    replace HC2 := Lib.hid (HC2.out.below hb14)
    replace HY2 := Lib.hid (HY2.out.below hb14)
    replace HC3 := Lib.hid (HC3.out.below hb14)
    replace HY3 := Lib.hid (HY3.out.below hb14)
    replace Q1 := Lib.hid ((hb14.block _ (row_lt Q1.out)).trans Q1.out)
    replace Q2 := Lib.hid ((hb14.block _ (row_lt Q2.out)).trans Q2.out)
    replace Q3 := Lib.hid ((hb14.block _ (row_lt Q3.out)).trans Q3.out)
    replace HB := Lib.hid (HB.out.trans (hb14.mono HB.out.size))
    clear hb14
    have HM0 := Lib.hid hm.shares
    have HM1 := Lib.hid hn.ints
    clear hm hn H1 H2 H3 HZ c0 c1
    obtain ⟨W15, hW15, hb15, hz15⟩ : ∃ W, W = w14.alloc (.cells #[.slice ao cq co] 23) ∧ Below w14.heap.size w14 W ∧ Rows2 W (.slice (some ⟨w14.heap.size, 0, none⟩) 1 1) [dealC (0 :: V)] := ⟨_, rfl, below_new _ _ _, Rows2.one HM1.out _⟩
    have HW15 := Lib.hid hW15
    have HZ15 := Lib.hid hz15
    have x0 := row_cell Q3.out (k := 0) (v := .int .i64 1) rfl
    have x1 := row_cell Q3.out (k := 1) rfl
    have x2 := row_cell Q3.out (k := 2) rfl
    have x3 := row_cell Q3.out (k := 3) rfl
    clear hW15 hz15
    replace HR := Lib.hid (HR.out.below hb15)
    replace HO := Lib.hid (HO.out.below hb15)
    replace HC1 := Lib.hid (HC1.out.below hb15)
    replace HY1 := Lib.hid (HY1.out.below hb15)
    replace HC2 := Lib.hid (HC2.out.below hb15)
    replace HY2 := Lib.hid (HY2.out.below hb15)
    replace HC3 := Lib.hid (HC3.out.below hb15)
    replace HY3 := Lib.hid (HY3.out.below hb15)
    replace HM0 := Lib.hid (HM0.out.below hb15)
    replace HM1 := Lib.hid (HM1.out.below hb15)
    replace Q1 := Lib.hid ((hb15.block _ (row_lt Q1.out)).trans Q1.out)
    replace Q2 := Lib.hid ((hb15.block _ (row_lt Q2.out)).trans Q2.out)
    replace Q3 := Lib.hid ((hb15.block _ (row_lt Q3.out)).trans Q3.out)
    replace HB := Lib.hid (HB.out.trans (hb15.mono HB.out.size))
    clear hb15
    obtain ⟨W16, hW16, hb16, hz16⟩ : ∃ W, W = W15.alloc (.cells #[.slice am rows.length cm] 45) ∧ Below W15.heap.size W15 W ∧ SRows W (.slice (some ⟨W15.heap.size, 0, none⟩) 1 1) [dealL rows (0 :: V)] := ⟨_, rfl, below_new _ _ _, SRows.one HM0.out _⟩
    have HW16 := Lib.hid hW16
    have HZ16 := Lib.hid hz16
    clear hW16 hz16
    replace HR := Lib.hid (HR.out.below hb16)
    replace HO := Lib.hid (HO.out.below hb16)
    replace HC1 := Lib.hid (HC1.out.below hb16)
    replace HY1 := Lib.hid (HY1.out.below hb16)
    replace HC2 := Lib.hid (HC2.out.below hb16)
    replace HY2 := Lib.hid (HY2.out.below hb16)
    replace HC3 := Lib.hid (HC3.out.below hb16)
    replace HY3 := Lib.hid (HY3.out.below hb16)
    replace HM0 := Lib.hid (HM0.out.below hb16)
    replace HM1 := Lib.hid (HM1.out.below hb16)
    replace HZ15 := Lib.hid (HZ15.out.below hb16)
    replace Q1 := Lib.hid ((hb16.block _ (row_lt Q1.out)).trans Q1.out)
    replace Q2 := Lib.hid ((hb16.block _ (row_lt Q2.out)).trans Q2.out)
    replace Q3 := Lib.hid ((hb16.block _ (row_lt Q3.out)).trans Q3.out)
    replace HB := Lib.hid (HB.out.trans (hb16.mono HB.out.size))
    clear hb16
    go_wp2_with (first | rw [← HW15.out] | rw [← HW16.out])
    clear x0 x1 x2 x3
    with_reducible refine (HRN.out _ _ _ _ _ HR.out HO.out HC3.out HY3.out HZ15.out HZ16.out).mono ?_
    rintro e w17 ⟨af, cf, ag, cg, rfl, hc2, hs2, hb17⟩
    replace HR := Lib.hid (HR.out.below hb17)
    replace HO := Lib.hid (HO.out.below hb17)
    replace HC1 := Lib.hid (HC1.out.below hb17)
    replace HY1 := Lib.hid (HY1.out.below hb17)
    replace HC2 := Lib.hid (HC2.out.below hb17)
    replace HY2 := Lib.hid (HY2.out.below hb17)
    replace HC3 := Lib.hid (HC3.out.below hb17)
    replace HY3 := Lib.hid (HY3.out.below hb17)
    replace HM0 := Lib.hid (HM0.out.below hb17)
    replace HM1 := Lib.hid (HM1.out.below hb17)
    replace HZ15 := Lib.hid (HZ15.out.below hb17)
    replace Q1 := Lib.hid ((hb17.block _ (row_lt Q1.out)).trans Q1.out)
    replace Q2 := Lib.hid ((hb17.block _ (row_lt Q2.out)).trans Q2.out)
    replace Q3 := Lib.hid ((hb17.block _ (row_lt Q3.out)).trans Q3.out)
    replace HB := Lib.hid (HB.out.trans (hb17.mono HB.out.size))
    clear hb17
    have HC4 := Lib.hid hc2
    have HY4 := Lib.hid hs2
    clear hc2 hs2 HZ15 HZ16 HM0 HM1 HC3 HY3 HRN Q3
    obtain ⟨W18, hW18, hb18, hq18, -⟩ := box_key w17 (.int .i64 1) (.slice ar rows.length cap) (.slice a2 owners.length cap2) (.slice af cq cf) 38
    have HW18 := Lib.hid hW18
    have Q4 := Lib.hid hq18
    clear hW18 hq18
    replace HR := Lib.hid (HR.out.below hb18)
    replace HO := Lib.hid (HO.out.below hb18)
    replace HC1 := Lib.hid (HC1.out.below hb18)
    replace HY1 := Lib.hid (HY1.out.below hb18)
    replace HC2 := Lib.hid (HC2.out.below hb18)
    replace HY2 := Lib.hid (HY2.out.below hb18)
    replace HC4 := Lib.hid (HC4.out.below hb18)
    replace HY4 := Lib.hid (HY4.out.below hb18)
    replace Q1 := Lib.hid ((hb18.block _ (row_lt Q1.out)).trans Q1.out)
    replace Q2 := Lib.hid ((hb18.block _ (row_lt Q2.out)).trans Q2.out)
    replace HB := Lib.hid (HB.out.trans (hb18.mono HB.out.size))
    clear hb18
    have x0 := row_cell Q1.out (k := 0) (v := .int .i64 1) rfl
    have x1 := row_cell Q1.out (k := 1) rfl
    have x2 := row_cell Q1.out (k := 2) rfl
    have x3 := row_cell Q1.out (k := 3) rfl
    have y0 := row_cell Q2.out (k := 0) (v := .int .i64 1) rfl
    have y1 := row_cell Q2.out (k := 1) rfl
    have y2 := row_cell Q2.out (k := 2) rfl
    have y3 := row_cell Q2.out (k := 3) rfl
    go_wp2_with (rw [← HW18.out])
    clear x0 x1 x2 x3 y0 y1 y2 y3
    with_reducible refine (rSameKey_any 1 1 _ _ _ _ _ _ rows rows owners owners C C _ HR.out HO.out HC1.out HR.out HO.out HC2.out).mono ?_
    rintro e w19 ⟨rfl, hb19⟩
    replace HR := Lib.hid (HR.out.below hb19)
    replace HO := Lib.hid (HO.out.below hb19)
    replace HC1 := Lib.hid (HC1.out.below hb19)
    replace HY1 := Lib.hid (HY1.out.below hb19)
    replace HC2 := Lib.hid (HC2.out.below hb19)
    replace HY2 := Lib.hid (HY2.out.below hb19)
    replace HC4 := Lib.hid (HC4.out.below hb19)
    replace HY4 := Lib.hid (HY4.out.below hb19)
    replace Q1 := Lib.hid ((hb19.block _ (row_lt Q1.out)).trans Q1.out)
    replace Q2 := Lib.hid ((hb19.block _ (row_lt Q2.out)).trans Q2.out)
    replace Q4 := Lib.hid ((hb19.block _ (row_lt Q4.out)).trans Q4.out)
    replace HB := Lib.hid (HB.out.trans (hb19.mono HB.out.size))
    clear hb19
    rw [HSK.out]
    go_wp2_with fail
    with_reducible refine (rsame_any _ _ D D _ HY1.out HY2.out).mono ?_
    rintro e w20 ⟨rfl, hb20⟩
    replace HR := Lib.hid (HR.out.below hb20)
    replace HO := Lib.hid (HO.out.below hb20)
    replace HC1 := Lib.hid (HC1.out.below hb20)
    replace HY1 := Lib.hid (HY1.out.below hb20)
    replace HC2 := Lib.hid (HC2.out.below hb20)
    replace HY2 := Lib.hid (HY2.out.below hb20)
    replace HC4 := Lib.hid (HC4.out.below hb20)
    replace HY4 := Lib.hid (HY4.out.below hb20)
    replace Q1 := Lib.hid ((hb20.block _ (row_lt Q1.out)).trans Q1.out)
    replace Q2 := Lib.hid ((hb20.block _ (row_lt Q2.out)).trans Q2.out)
    replace Q4 := Lib.hid ((hb20.block _ (row_lt Q4.out)).trans Q4.out)
    replace HB := Lib.hid (HB.out.trans (hb20.mono HB.out.size))
    clear hb20
    rw [HSS.out]
    have x0 := row_cell Q1.out (k := 0) (v := .int .i64 1) rfl
    have x1 := row_cell Q1.out (k := 1) rfl
    have x2 := row_cell Q1.out (k := 2) rfl
    have x3 := row_cell Q1.out (k := 3) rfl
    have y0 := row_cell Q4.out (k := 0) (v := .int .i64 1) rfl
    have y1 := row_cell Q4.out (k := 1) rfl
    have y2 := row_cell Q4.out (k := 2) rfl
    have y3 := row_cell Q4.out (k := 3) rfl
    go_wp2_with fail
    clear x0 x1 x2 x3 y0 y1 y2 y3
    with_reducible refine (rSameKey_any 1 1 _ _ _ _ _ _ rows rows owners owners C C _ HR.out HO.out HC4.out HR.out HO.out HC1.out).mono ?_
    rintro e w21 ⟨rfl, hb21⟩
    replace HR := Lib.hid (HR.out.below hb21)
    replace HO := Lib.hid (HO.out.below hb21)
    replace HC1 := Lib.hid (HC1.out.below hb21)
    replace HY1 := Lib.hid (HY1.out.below hb21)
    replace HC2 := Lib.hid (HC2.out.below hb21)
    replace HY2 := Lib.hid (HY2.out.below hb21)
    replace HC4 := Lib.hid (HC4.out.below hb21)
    replace HY4 := Lib.hid (HY4.out.below hb21)
    replace Q1 := Lib.hid ((hb21.block _ (row_lt Q1.out)).trans Q1.out)
    replace Q2 := Lib.hid ((hb21.block _ (row_lt Q2.out)).trans Q2.out)
    replace Q4 := Lib.hid ((hb21.block _ (row_lt Q4.out)).trans Q4.out)
    replace HB := Lib.hid (HB.out.trans (hb21.mono HB.out.size))
    clear hb21
    rw [HSK.out]
    go_wp2_with fail
    with_reducible refine (rsame_any _ _ D D _ HY4.out HY1.out).mono ?_
    rintro e w22 ⟨rfl, hb22⟩
    replace HR := Lib.hid (HR.out.below hb22)
    replace HO := Lib.hid (HO.out.below hb22)
    replace HC1 := Lib.hid (HC1.out.below hb22)
    replace HY1 := Lib.hid (HY1.out.below hb22)
    replace HC2 := Lib.hid (HC2.out.below hb22)
    replace HY2 := Lib.hid (HY2.out.below hb22)
    replace HC4 := Lib.hid (HC4.out.below hb22)
    replace HY4 := Lib.hid (HY4.out.below hb22)
    replace Q1 := Lib.hid ((hb22.block _ (row_lt Q1.out)).trans Q1.out)
    replace Q2 := Lib.hid ((hb22.block _ (row_lt Q2.out)).trans Q2.out)
    replace Q4 := Lib.hid ((hb22.block _ (row_lt Q4.out)).trans Q4.out)
    replace HB := Lib.hid (HB.out.trans (hb22.mono HB.out.size))
    clear hb22
    rw [HSS.out]
    go_wp2_with fail
    go_ret
    exact ⟨rfl, HB.out⟩

end Go.Proofs.Ytnbkbnbmmkfckaa
