/- The laws of dealing: DealingFitsSpec, the walk. The law of dealing: DealingFitsSpec. -/
import Derived.Test.YtikoggmoidomaaaMRdA
import Derived.Test.YtikoggmoidomaaaMOpenD
import Derived.Test.YtikoggmoidomaaaMSane
namespace Go.Proofs.Ytikoggmoidomaaa
open Go.RowKit FP

set_option maxRecDepth 100000 in
set_option maxHeartbeats 8000000 in
theorem dealingFitsSpec_any (rv ov cv : Value) (rows : List (List Int)) (owners cs : List Int) (r sr sv : Int) (w : World) (hR : Rows2 w rv rows) (hO : Ints w ov owners) (hC : Ints w cv cs) (hr : R64 r) (hsr : R64 sr) (hsv : R64 sv) :
    Calls Try.prog 4 #[.agg #[rv, ov], cv, .int .i64 r, .agg #[.int .i64 sr, .int .i64 sv]] w fun e w' => e = .returned (.bool true) ∧ Below w.heap.size w w' := by
  obtain ⟨W1, hW1, hb1, hr1, hz⟩ := box_prog w rv ov 25
  obtain ⟨W2, hW2, hb2, hr2, hz2⟩ := box_prog W1 (.int .i64 sr) (.int .i64 sv) 38
  have hsz : W1.heap.size = w.heap.size + 1 := by rw [hW1]; simp
  have hb := hb1.trans (hb2.mono hb1.size)
  have HR2 := Lib.hid (hR.below hb)
  have HO2 := Lib.hid (hO.below hb)
  have HC2 := Lib.hid (hC.below hb)
  obtain ⟨a, cap, rfl, -, hlen, -⟩ := id hR
  obtain ⟨a2, cap2, rfl, -, hlen2, -⟩ := id hO
  obtain ⟨a3, cap3, rfl, -, hlen3, -⟩ := id hC
  have c0 : W2.cell? ⟨w.heap.size, 0, none⟩ = some (.slice a rows.length cap) := below_cell hb2 (row_cell hr1 rfl)
  have c1 : W2.cell? ⟨w.heap.size, 1, none⟩ = some (.slice a2 owners.length cap2) := below_cell hb2 (row_cell hr1 rfl)
  have s0 : W2.cell? ⟨w.heap.size + 1, 0, none⟩ = some (.int .i64 sr) := by rw [← hsz]; exact row_cell hr2 rfl
  have s1 : W2.cell? ⟨w.heap.size + 1, 1, none⟩ = some (.int .i64 sv) := by rw [← hsz]; exact row_cell hr2 rfl
  have HW2 : Hid ((w.alloc (.cells #[.slice a rows.length cap, .slice a2 owners.length cap2] 25)).alloc (.cells #[.int .i64 sr, .int .i64 sv] 38) = W2) := Lib.hid (by rw [hW2, hW1])
  have HB := Lib.hid hb
  have HS := Lib.hid (sane34_any W2)
  have HF := Lib.hid (fun W h1 h2 => rfew_any (.slice a rows.length cap) (.slice a2 owners.length cap2) rows owners W h1 h2)
  have HP1 := Lib.hid (fun W h1 h2 h3 => public_any (.slice a rows.length cap) (.slice a2 owners.length cap2) (.slice a3 cs.length cap3) rows owners cs r W h1 h2 h3 hr)
  have HP2 := Lib.hid (fun W h1 h2 h3 => rPublic_any (.slice a rows.length cap) (.slice a2 owners.length cap2) (.slice a3 cs.length cap3) rows owners cs r W h1 h2 h3 hr)
  have HF1 := Lib.hid (fun W h1 h2 h3 => fits_any (.slice a rows.length cap) (.slice a2 owners.length cap2) (.slice a3 cs.length cap3) rows owners cs sr sv W h1 h2 h3 hsr hsv)
  have HF2 := Lib.hid (fun W h1 h2 h3 => rFits_any (.slice a rows.length cap) (.slice a2 owners.length cap2) (.slice a3 cs.length cap3) rows owners cs sr sv W h1 h2 h3 hsr hsv)
  clear hR hO hC hr1 hr2 hW1 hW2 hb1 hb2 hsz hz hz2 hb hr hsr hsv
  generalize pubR rows owners cs r = pr at *
  generalize pubE rows owners cs r = pe at *
  generalize fitB rows owners cs sr sv = fb at *
  generalize fitE rows owners cs sr sv = fe at *
  go_enter Try.func4, Try.ntmps4
  go_wp2_with fail
  rw [HW2.out]
  refine HS.out.mono ?_
  rintro e w3 ⟨rfl, hb3⟩
  have d0 := below_cell hb3 c0
  have d1 := below_cell hb3 c1
  have t0 := below_cell hb3 s0
  have t1 := below_cell hb3 s1
  have HR3 := Lib.hid (HR2.out.below hb3)
  have HO3 := Lib.hid (HO2.out.below hb3)
  have HC3 := Lib.hid (HC2.out.below hb3)
  have HB3 := Lib.hid (HB.out.trans (hb3.mono HB.out.size))
  clear hb3 c0 c1 s0 s1 HR2 HO2 HC2 HS
  go_wp2_with fail
  refine (HF.out _ HR3.out HO3.out).mono ?_
  rintro e w4 ⟨b, rfl, hb4⟩
  have x0 := below_cell hb4 d0
  have x1 := below_cell hb4 d1
  have v0 := below_cell hb4 t0
  have v1 := below_cell hb4 t1
  have HR4 := Lib.hid (HR3.out.below hb4)
  have HO4 := Lib.hid (HO3.out.below hb4)
  have HC4 := Lib.hid (HC3.out.below hb4)
  have HB4 := Lib.hid (HB3.out.trans (hb4.mono HB3.out.size))
  clear hb4 d0 d1 t0 t1 HR3 HO3 HC3 HF
  cases b with
  | false =>
    go_wp2_with fail
    go_ret
    exact ⟨rfl, HB4.out⟩
  | true =>
    by_cases h80 : 80 < cs.length
    · have q1 : decide ((cs.length : Int) > 80) = true := decide_eq_true (by omega)
      have q2 : decide ((80 : Int) < (cs.length : Int)) = true := decide_eq_true (by omega)
      go_wp2_with fail
      go_ret
      exact ⟨rfl, HB4.out⟩
    · have q1 : decide ((cs.length : Int) > 80) = false := decide_eq_false (by omega)
      have q2 : decide ((80 : Int) < (cs.length : Int)) = false := decide_eq_false (by omega)
      go_wp2_with fail
      refine (HP1.out _ HR4.out HO4.out HC4.out).mono ?_
      rintro e w5 ⟨rfl, hb5⟩
      have d0 := below_cell hb5 x0
      have d1 := below_cell hb5 x1
      have t0 := below_cell hb5 v0
      have t1 := below_cell hb5 v1
      have HR5 := Lib.hid (HR4.out.below hb5)
      have HO5 := Lib.hid (HO4.out.below hb5)
      have HC5 := Lib.hid (HC4.out.below hb5)
      have HB5 := Lib.hid (HB4.out.trans (hb5.mono HB4.out.size))
      clear hb5 x0 x1 v0 v1 HR4 HO4 HC4
      go_wp2_with fail
      refine (HP2.out _ HR5.out HO5.out HC5.out).mono ?_
      rintro e w6 ⟨rfl, hb6⟩
      have x0 := below_cell hb6 d0
      have x1 := below_cell hb6 d1
      have v0 := below_cell hb6 t0
      have v1 := below_cell hb6 t1
      have HR6 := Lib.hid (HR5.out.below hb6)
      have HO6 := Lib.hid (HO5.out.below hb6)
      have HC6 := Lib.hid (HC5.out.below hb6)
      have HB6 := Lib.hid (HB5.out.trans (hb6.mono HB5.out.size))
      clear hb6 d0 d1 t0 t1 HR5 HO5 HC5
      go_wp2_with fail
      refine (HF1.out _ HR6.out HO6.out HC6.out).mono ?_
      rintro e w7 ⟨rfl, hb7⟩
      have d0 := below_cell hb7 x0
      have d1 := below_cell hb7 x1
      have t0 := below_cell hb7 v0
      have t1 := below_cell hb7 v1
      have HR7 := Lib.hid (HR6.out.below hb7)
      have HO7 := Lib.hid (HO6.out.below hb7)
      have HC7 := Lib.hid (HC6.out.below hb7)
      have HB7 := Lib.hid (HB6.out.trans (hb7.mono HB6.out.size))
      clear hb7 x0 x1 v0 v1 HR6 HO6 HC6
      go_wp2_with fail
      refine (HF2.out _ HR7.out HO7.out HC7.out).mono ?_
      rintro e w8 ⟨rfl, hb8⟩
      have HB8 := Lib.hid (HB7.out.trans (hb8.mono HB7.out.size))
      clear hb8 d0 d1 t0 t1 HR7 HO7 HC7
      go_wp2_with fail
      go_ret
      exact ⟨rfl, HB8.out⟩

end Go.Proofs.Ytikoggmoidomaaa

namespace Go.Proofs.Ytikoggmoidomaaa
open Go.ChangeShapes Go.WideShapes Go.ChangeAt Go.RowKit Go.Deep

set_option maxRecDepth 100000 in
/-- What the row asks, from what the call leaves. -/
theorem dealingFitsSpec_contract (H : Type) (enc : TypeId × Value → H) (W : World) (base : Nat) (args : Array Value) (ds gs : List (DataW H)) (before : List MemPlace)
    (hval : ∀ (j : Nat) t v, Try.f4.params[j]? = some t → args[j]? = some v → Value.okWide Try.prog W .any base t v)
    (hW : DataW.Whole enc Try.prog Try.f4.params.toList Rows.dealingFitsSpecSpec.vars false W args.toList ds gs before)
    (hreach : (DataW.weightsEach Try.prog (Try.f4.params.toList ++ Rows.dealingFitsSpecSpec.plain.varTypes Try.prog) (ds ++ gs)).all (· ≤ reachBytes) = true) :
    Calls Try.prog 4 args W fun e W' => ∃ v, e = .returned v ∧ Rows.dealingFitsSpecSpec.post enc Try.prog Try.f4 false true false false W args v W' := by
  obtain ⟨p, q, hA0, hV, rfl, hfz, hnd⟩ := id hW
  have hA : DataW.TrodAll enc Try.prog W 0 (fun _ => true) true Try.f4.params.toList args.toList ds p := hA0
  have hA2 := hA
  rw [Try.params4] at hA hval hreach
  obtain ⟨v0, vs0, d0, ds0, p0, q0, hargs, rfl, rfl, h0, r0⟩ := trodAll_cons hA
  obtain ⟨v1, vs1, d1, ds1, p1, q1, rfl, rfl, rfl, h1, r1⟩ := trodAll_cons r0
  obtain ⟨v2, vs2, d2, ds2, p2, q2, rfl, rfl, rfl, h2, r2⟩ := trodAll_cons r1
  obtain ⟨v3, vs3, d3, ds3, p3, q3, rfl, rfl, rfl, h3, r3⟩ := trodAll_cons r2
  obtain ⟨rfl, rfl, rfl⟩ := trodAll_nil r3
  obtain rfl : args = #[v0, v1, v2, v3] := by cases args; simp_all
  obtain ⟨rfl, rfl⟩ := trodVars_none hV
  simp only [List.append_nil] at hW hA2
  obtain ⟨r0', o0', x0, y0, rfl, kr0, ko0⟩ := open_program (hval 0 25 v0 rfl rfl) h0 (light_of hreach (j := 0) rfl rfl)
  obtain ⟨x1, k1⟩ := open_list (okWide_slice Try.underlying23 (hval 1 23 v1 rfl rfl)) h1 (light_of hreach (j := 1) rfl rfl)
  obtain ⟨x2, rfl, rfl, -, k2⟩ := open_int Try.underlying3 (hval 2 3 v2 rfl rfl) h2
  obtain ⟨x3, y3, rfl, kx3, ky3⟩ := open_share (hval 3 38 v3 rfl rfl) h3
  refine (dealingFitsSpec_any r0' o0' v1 x0 y0 x1 x2 x3 y3 W kr0 ko0 k1 (wf_r64 k2) kx3 ky3).mono fun e W' ⟨he, hb⟩ => ⟨_, he, ?_⟩
  exact law_post rfl rfl (by kernel_rfl) hA2 hW hb rfl

set_option maxRecDepth 100000 in
theorem dealingFitsSpec_lifted (os : Os) (started : os.Started) (H : Type) (enc : TypeId × Value → H) :
    ReturnsInHanded {} Try.checked os 4 .any (Rows.dealingFitsSpecSpec.pre6 enc Try.prog Try.f4 Rows.dealingFitsSpecRow.domain false) (Rows.dealingFitsSpecSpec.post enc Try.prog Try.f4 false true false false) := by
  refine returnsInHanded_of_change_sized (C := Try.checked) ownKnobP started (by kernel_rfl) Try.func4
    (ChangeSpec.witness6 (enc := enc) (C := Try.checked) false ⟨#[], #[.agg #[.slice none 0 0, .slice none 0 0], .slice none 0 0, .int .i64 0, .agg #[.int .i64 0, .int .i64 0]], []⟩ 8 (by kernel_rfl) (by kernel_rfl) (by kernel_rfl) (by kernel_rfl)) ?_
  intro W base args ds gs before hval hW _ hreach _
  exact dealingFitsSpec_contract H enc W base args ds gs before hval hW hreach

set_option maxRecDepth 100000 in
theorem dealingFitsSpec_holds : Rows.DealingFitsSpecSaid :=
  OpenClaim.holds_of_wide 4 Try.f4 rfl rfl rfl rfl rfl rfl rfl ⟨rfl, rfl, rfl, rfl, rfl⟩ rfl rfl rfl rfl rfl (by kernel_rfl) Try.func4 (by kernel_rfl)
    (of_decide_eq_true (by kernel_rfl)) (by unfold Func.isWrapper; first | (rw [if_pos (by decide +kernel)]; kernel_rfl) | (rw [if_neg (by decide +kernel)]; exact ⟨rfl, rfl⟩))
    (fun os started H enc _ => dealingFitsSpec_lifted os started H enc)
#print axioms dealingFitsSpec_holds

end Go.Proofs.Ytikoggmoidomaaa
