/- The laws of dealing: DealingSpec, the walk. The law of dealing: DealingSpec. -/
import Derived.Test.YtikoggmoidomaaaMRdH
import Derived.Test.YtikoggmoidomaaaMOpenD
import Derived.Test.YtikoggmoidomaaaMSane
namespace Go.Proofs.Ytikoggmoidomaaa
open Go.RowKit FP

set_option maxRecDepth 100000 in
set_option maxHeartbeats 8000000 in
theorem dealingSpec_any (rv ov mv lv : Value) (rows : List (List Int)) (owners : List Int) (x : Int) (rnd : List Int) (l : List (Int × Int)) (w : World) (hR : Rows2 w rv rows) (hO : Ints w ov owners) (hx : R64 x) (hM : Ints w mv rnd) (hL : Shares w lv l) :
    Calls Try.prog 3 #[.agg #[rv, ov], .int .i64 x, mv, lv] w fun e w' => e = .returned (.bool true) ∧ Below w.heap.size w w' := by
  obtain ⟨W1, hW1, hb1, hr1, hz⟩ := box_prog w rv ov 25
  have HR2 := Lib.hid (hR.below hb1)
  have HO2 := Lib.hid (hO.below hb1)
  have HM2 := Lib.hid (hM.below hb1)
  have HL2 := Lib.hid (hL.below hb1)
  obtain ⟨a, cap, rfl, -, hlen, -⟩ := id hR
  obtain ⟨a2, cap2, rfl, -, hlen2, -⟩ := id hO
  obtain ⟨a3, cap3, rfl, -, hlen3, -⟩ := id hM
  obtain ⟨a4, cap4, rfl, -, hlen4, -⟩ := id hL
  have c0 : W1.cell? ⟨w.heap.size, 0, none⟩ = some (.slice a rows.length cap) := row_cell hr1 rfl
  have c1 : W1.cell? ⟨w.heap.size, 1, none⟩ = some (.slice a2 owners.length cap2) := row_cell hr1 rfl
  have HW1 := Lib.hid hW1
  have HB := Lib.hid hb1
  have HS := Lib.hid (sane34_any W1)
  have HF := Lib.hid (fun W h1 h2 => rfew_any (.slice a rows.length cap) (.slice a2 owners.length cap2) rows owners W h1 h2)
  have HD1 := Lib.hid (fun W h1 h2 h3 => deal_any (.slice a rows.length cap) (.slice a2 owners.length cap2) (.slice a3 rnd.length cap3) rows owners x rnd W h1 h2 h3 hx)
  have HD2 := Lib.hid (fun W h1 h2 h3 => rDeal_any (.slice a rows.length cap) (.slice a2 owners.length cap2) (.slice a3 rnd.length cap3) rows owners x rnd W h1 h2 h3)
  have HC1 := Lib.hid (fun W h1 h2 h3 => recover_any (.slice a rows.length cap) (.slice a2 owners.length cap2) (.slice a4 l.length cap4) rows owners l W h1 h2 h3)
  have HC2 := Lib.hid (fun W h1 h2 h3 => rRecover_any (.slice a rows.length cap) (.slice a2 owners.length cap2) (.slice a4 l.length cap4) rows owners l W h1 h2 h3)
  clear hR hO hM hL hr1 hW1 hb1 hx
  generalize (if dealE rows owners x rnd = 0 then dealL rows (x :: rnd) else []) = D at *
  generalize (if dealE rows owners x rnd = 0 then dealC (x :: rnd) else []) = C at *
  generalize dealE rows owners x rnd = de at *
  generalize recV rows owners l = rV at *
  generalize recB rows owners l = rB at *
  generalize recE rows owners l = rE at *
  go_enter Try.func3, Try.ntmps3
  go_wp2_with fail
  rw [← HW1.out]
  refine HS.out.mono ?_
  rintro e w3 ⟨rfl, hb3⟩
  have d0 := below_cell hb3 c0
  have d1 := below_cell hb3 c1
  have HR3 := Lib.hid (HR2.out.below hb3)
  have HO3 := Lib.hid (HO2.out.below hb3)
  have HM3 := Lib.hid (HM2.out.below hb3)
  have HL3 := Lib.hid (HL2.out.below hb3)
  have HB3 := Lib.hid (HB.out.trans (hb3.mono HB.out.size))
  clear hb3 c0 c1 HR2 HO2 HM2 HL2 HS
  go_wp2_with fail
  refine (HF.out _ HR3.out HO3.out).mono ?_
  rintro e w4 ⟨b, rfl, hb4⟩
  have x0 := below_cell hb4 d0
  have x1 := below_cell hb4 d1
  have HR4 := Lib.hid (HR3.out.below hb4)
  have HO4 := Lib.hid (HO3.out.below hb4)
  have HM4 := Lib.hid (HM3.out.below hb4)
  have HL4 := Lib.hid (HL3.out.below hb4)
  have HB4 := Lib.hid (HB3.out.trans (hb4.mono HB3.out.size))
  clear hb4 d0 d1 HR3 HO3 HM3 HL3 HF
  cases b with
  | false =>
    go_wp2_with fail
    go_ret
    exact ⟨rfl, HB4.out⟩
  | true =>
    by_cases h80 : 80 < rnd.length
    · have q1 : decide ((rnd.length : Int) > 80) = true := decide_eq_true (by omega)
      have q2 : decide ((80 : Int) < (rnd.length : Int)) = true := decide_eq_true (by omega)
      go_wp2_with fail
      go_ret
      exact ⟨rfl, HB4.out⟩
    · have q1 : decide ((rnd.length : Int) > 80) = false := decide_eq_false (by omega)
      have q2 : decide ((80 : Int) < (rnd.length : Int)) = false := decide_eq_false (by omega)
      by_cases h81 : 80 < l.length
      · have q3 : decide ((l.length : Int) > 80) = true := decide_eq_true (by omega)
        have q4 : decide ((80 : Int) < (l.length : Int)) = true := decide_eq_true (by omega)
        go_wp2_with fail
        go_ret
        exact ⟨rfl, HB4.out⟩
      · have q3 : decide ((l.length : Int) > 80) = false := decide_eq_false (by omega)
        have q4 : decide ((80 : Int) < (l.length : Int)) = false := decide_eq_false (by omega)
        go_wp2_with fail
        refine (HD1.out _ HR4.out HO4.out HM4.out).mono ?_
        rintro e w5 ⟨l1, k1, rfl, hl1, hk1, hb5⟩
        have HLA := Lib.hid hl1
        have HKA := Lib.hid hk1
        obtain ⟨la1, lc1, rfl, -⟩ := id hl1
        obtain ⟨ka1, kc1, rfl, -⟩ := id hk1
        have d0 := below_cell hb5 x0
        have d1 := below_cell hb5 x1
        have HR5 := Lib.hid (HR4.out.below hb5)
        have HO5 := Lib.hid (HO4.out.below hb5)
        have HM5 := Lib.hid (HM4.out.below hb5)
        have HL5 := Lib.hid (HL4.out.below hb5)
        have HB5 := Lib.hid (HB4.out.trans (hb5.mono HB4.out.size))
        clear hb5 x0 x1 HR4 HO4 HM4 HL4 hl1 hk1
        go_wp2_with fail
        refine (HD2.out _ HR5.out HO5.out HM5.out).mono ?_
        rintro e w6 ⟨l2, k2, rfl, hl2, hk2, hb6⟩
        have HLB := Lib.hid hl2
        have HKB := Lib.hid hk2
        obtain ⟨la2, lc2, rfl, -⟩ := id hl2
        obtain ⟨ka2, kc2, rfl, -⟩ := id hk2
        have x0 := below_cell hb6 d0
        have x1 := below_cell hb6 d1
        have HLA6 := Lib.hid (HLA.out.below hb6)
        have HKA6 := Lib.hid (HKA.out.below hb6)
        have HR6 := Lib.hid (HR5.out.below hb6)
        have HO6 := Lib.hid (HO5.out.below hb6)
        have HL6 := Lib.hid (HL5.out.below hb6)
        have HB6 := Lib.hid (HB5.out.trans (hb6.mono HB5.out.size))
        clear hb6 d0 d1 HR5 HO5 HM5 HL5 HLA HKA hl2 hk2
        go_wp2_with fail
        refine (HC1.out _ HR6.out HO6.out HL6.out).mono ?_
        rintro e w7 ⟨rfl, hb7⟩
        have d0 := below_cell hb7 x0
        have d1 := below_cell hb7 x1
        have HLA7 := Lib.hid (HLA6.out.below hb7)
        have HKA7 := Lib.hid (HKA6.out.below hb7)
        have HLB7 := Lib.hid (HLB.out.below hb7)
        have HKB7 := Lib.hid (HKB.out.below hb7)
        have HR7 := Lib.hid (HR6.out.below hb7)
        have HO7 := Lib.hid (HO6.out.below hb7)
        have HL7 := Lib.hid (HL6.out.below hb7)
        have HB7 := Lib.hid (HB6.out.trans (hb7.mono HB6.out.size))
        clear hb7 x0 x1 HR6 HO6 HL6 HLA6 HKA6 HLB HKB
        go_wp2_with fail
        refine (HC2.out _ HR7.out HO7.out HL7.out).mono ?_
        rintro e w8 ⟨rfl, hb8⟩
        have HLA8 := Lib.hid (HLA7.out.below hb8)
        have HKA8 := Lib.hid (HKA7.out.below hb8)
        have HLB8 := Lib.hid (HLB7.out.below hb8)
        have HKB8 := Lib.hid (HKB7.out.below hb8)
        have HB8 := Lib.hid (HB7.out.trans (hb8.mono HB7.out.size))
        clear hb8 d0 d1 HR7 HO7 HL7 HLA7 HKA7 HLB7 HKB7
        go_wp2_with fail
        refine (rsame_any _ _ D D _ HLA8.out HLB8.out).mono ?_
        rintro e w9 ⟨rfl, hb9⟩
        rw [show sameS D D = true from decide_eq_true rfl]
        have HKA9 := Lib.hid (HKA8.out.below hb9)
        have HKB9 := Lib.hid (HKB8.out.below hb9)
        have HB9 := Lib.hid (HB8.out.trans (hb9.mono HB8.out.size))
        clear hb9
        go_wp2_with fail
        refine (rSameInts34_any _ _ C C _ HKA9.out HKB9.out).mono ?_
        rintro e w10 ⟨rfl, hb10⟩
        rw [show sameQ C C = true from decide_eq_true rfl]
        have HB10 := Lib.hid (HB9.out.trans (hb10.mono HB9.out.size))
        clear hb10
        go_wp2_with fail
        go_ret
        exact ⟨rfl, HB10.out⟩

end Go.Proofs.Ytikoggmoidomaaa

namespace Go.Proofs.Ytikoggmoidomaaa
open Go.ChangeShapes Go.WideShapes Go.ChangeAt Go.RowKit Go.Deep

set_option maxRecDepth 100000 in
/-- What the row asks, from what the call leaves. -/
theorem dealingSpec_contract (H : Type) (enc : TypeId × Value → H) (W : World) (base : Nat) (args : Array Value) (ds gs : List (DataW H)) (before : List MemPlace)
    (hval : ∀ (j : Nat) t v, Try.f3.params[j]? = some t → args[j]? = some v → Value.okWide Try.prog W .any base t v)
    (hW : DataW.Whole enc Try.prog Try.f3.params.toList Rows.dealingSpecSpec.vars false W args.toList ds gs before)
    (hreach : (DataW.weightsEach Try.prog (Try.f3.params.toList ++ Rows.dealingSpecSpec.plain.varTypes Try.prog) (ds ++ gs)).all (· ≤ reachBytes) = true) :
    Calls Try.prog 3 args W fun e W' => ∃ v, e = .returned v ∧ Rows.dealingSpecSpec.post enc Try.prog Try.f3 false true false false W args v W' := by
  obtain ⟨p, q, hA0, hV, rfl, hfz, hnd⟩ := id hW
  have hA : DataW.TrodAll enc Try.prog W 0 (fun _ => true) true Try.f3.params.toList args.toList ds p := hA0
  have hA2 := hA
  rw [Try.params3] at hA hval hreach
  obtain ⟨v0, vs0, d0, ds0, p0, q0, hargs, rfl, rfl, h0, r0⟩ := trodAll_cons hA
  obtain ⟨v1, vs1, d1, ds1, p1, q1, rfl, rfl, rfl, h1, r1⟩ := trodAll_cons r0
  obtain ⟨v2, vs2, d2, ds2, p2, q2, rfl, rfl, rfl, h2, r2⟩ := trodAll_cons r1
  obtain ⟨v3, vs3, d3, ds3, p3, q3, rfl, rfl, rfl, h3, r3⟩ := trodAll_cons r2
  obtain ⟨rfl, rfl, rfl⟩ := trodAll_nil r3
  obtain rfl : args = #[v0, v1, v2, v3] := by cases args; simp_all
  obtain ⟨rfl, rfl⟩ := trodVars_none hV
  simp only [List.append_nil] at hW hA2
  obtain ⟨r0', o0', x0, y0, rfl, kr0, ko0⟩ := open_program (hval 0 25 v0 rfl rfl) h0 (light_of hreach (j := 0) rfl rfl)
  obtain ⟨x1, rfl, rfl, -, k1⟩ := open_int Try.underlying3 (hval 1 3 v1 rfl rfl) h1
  obtain ⟨x2, k2⟩ := open_list (okWide_slice Try.underlying23 (hval 2 23 v2 rfl rfl)) h2 (light_of hreach (j := 2) rfl rfl)
  obtain ⟨x3, k3⟩ := open_shares (okWide_slice Try.underlying26 (hval 3 26 v3 rfl rfl)) h3 (light_of hreach (j := 3) rfl rfl)
  refine (dealingSpec_any r0' o0' v2 v3 x0 y0 x1 x2 x3 W kr0 ko0 (wf_r64 k1) k2 k3).mono fun e W' ⟨he, hb⟩ => ⟨_, he, ?_⟩
  exact law_post rfl rfl (by kernel_rfl) hA2 hW hb rfl

set_option maxRecDepth 100000 in
theorem dealingSpec_lifted (os : Os) (started : os.Started) (H : Type) (enc : TypeId × Value → H) :
    ReturnsInHanded {} Try.checked os 3 .any (Rows.dealingSpecSpec.pre6 enc Try.prog Try.f3 Rows.dealingSpecRow.domain false) (Rows.dealingSpecSpec.post enc Try.prog Try.f3 false true false false) := by
  refine returnsInHanded_of_change_sized (C := Try.checked) ownKnobP started (by kernel_rfl) Try.func3
    (ChangeSpec.witness6 (enc := enc) (C := Try.checked) false ⟨#[], #[.agg #[.slice none 0 0, .slice none 0 0], .int .i64 0, .slice none 0 0, .slice none 0 0], []⟩ 8 (by kernel_rfl) (by kernel_rfl) (by kernel_rfl) (by kernel_rfl)) ?_
  intro W base args ds gs before hval hW _ hreach _
  exact dealingSpec_contract H enc W base args ds gs before hval hW hreach

set_option maxRecDepth 100000 in
theorem dealingSpec_holds : Rows.DealingSpecSaid :=
  OpenClaim.holds_of_wide 3 Try.f3 rfl rfl rfl rfl rfl rfl rfl ⟨rfl, rfl, rfl, rfl, rfl⟩ rfl rfl rfl rfl rfl (by kernel_rfl) Try.func3 (by kernel_rfl)
    (of_decide_eq_true (by kernel_rfl)) (by unfold Func.isWrapper; first | (rw [if_pos (by decide +kernel)]; kernel_rfl) | (rw [if_neg (by decide +kernel)]; exact ⟨rfl, rfl⟩))
    (fun os started H enc _ => dealingSpec_lifted os started H enc)
#print axioms dealingSpec_holds

end Go.Proofs.Ytikoggmoidomaaa
