/- The law MovingSome. -/
import Derived.Test.YtjjoadmkpbmhpaaMMvY
import Derived.Test.YtjjoadmkpbmhpaaMReP
namespace Go.Proofs.Ytjjoadmkpbmhpaa
open Go.ChangeShapes Go.WideShapes Go.ChangeAt Go.RowKit Go.Deep

set_option maxRecDepth 100000 in
/-- What the row asks, from what the call leaves. -/
theorem movingSome_contract (H : Type) (enc : TypeId × Value → H) (W : World) (base : Nat) (args : Array Value) (ds gs : List (DataW H)) (before : List MemPlace)
    (hval : ∀ (j : Nat) t v, Try.f4.params[j]? = some t → args[j]? = some v → Value.okWide Try.prog W .any base t v)
    (hW : DataW.Whole enc Try.prog Try.f4.params.toList Rows.movingSomeSpec.vars false W args.toList ds gs before)
    (hreach : (DataW.weightsEach Try.prog (Try.f4.params.toList ++ Rows.movingSomeSpec.plain.varTypes Try.prog) (ds ++ gs)).all (· ≤ reachBytes) = true) :
    Calls Try.prog 4 args W fun e W' => ∃ v, e = .returned v ∧ Rows.movingSomeSpec.post enc Try.prog Try.f4 false true false false W args v W' := by
  obtain ⟨p, q, hA0, hV, rfl, hfz, hnd⟩ := id hW
  have hA : DataW.TrodAll enc Try.prog W 0 (fun _ => true) true Try.f4.params.toList args.toList ds p := hA0
  have hA2 := hA
  rw [Try.params4] at hA hval hreach
  obtain ⟨v0, vs0, d0, ds0, p0, q0, hargs, rfl, rfl, h0, r0⟩ := trodAll_cons hA
  obtain ⟨v1, vs1, d1, ds1, p1, q1, rfl, rfl, rfl, h1, r1⟩ := trodAll_cons r0
  obtain ⟨v2, vs2, d2, ds2, p2, q2, rfl, rfl, rfl, h2, r2⟩ := trodAll_cons r1
  obtain ⟨v3, vs3, d3, ds3, p3, q3, rfl, rfl, rfl, h3, r3⟩ := trodAll_cons r2
  obtain ⟨v4, vs4, d4, ds4, p4, q4, rfl, rfl, rfl, h4, r4⟩ := trodAll_cons r3
  obtain ⟨v5, vs5, d5, ds5, p5, q5, rfl, rfl, rfl, h5, r5⟩ := trodAll_cons r4
  obtain ⟨v6, vs6, d6, ds6, p6, q6, rfl, rfl, rfl, h6, r6⟩ := trodAll_cons r5
  obtain ⟨rfl, rfl, rfl⟩ := trodAll_nil r6
  obtain rfl : args = #[v0, v1, v2, v3, v4, v5, v6] := by cases args; simp_all
  obtain ⟨rfl, rfl⟩ := trodVars_none hV
  simp only [List.append_nil] at hW hA2
  obtain ⟨r0', o0', x0, y0, rfl, kr0, ko0⟩ := open_program (hval 0 25 v0 rfl rfl) h0 (light_of hreach (j := 0) rfl rfl)
  obtain ⟨r1', o1', x1, y1, rfl, kr1, ko1⟩ := open_program (hval 1 25 v1 rfl rfl) h1 (light_of hreach (j := 1) rfl rfl)
  obtain ⟨x2, rfl, rfl, -, k2⟩ := open_int Try.underlying3 (hval 2 3 v2 rfl rfl) h2
  obtain ⟨x3, k3⟩ := open_list (okWide_slice Try.underlying23 (hval 3 23 v3 rfl rfl)) h3 (light_of hreach (j := 3) rfl rfl)
  obtain ⟨x4, k4⟩ := open_list (okWide_slice Try.underlying23 (hval 4 23 v4 rfl rfl)) h4 (light_of hreach (j := 4) rfl rfl)
  obtain ⟨x5, k5⟩ := open_words (okWide_slice Try.underlying26 (hval 5 26 v5 rfl rfl)) h5 (light_of hreach (j := 5) rfl rfl)
  obtain ⟨x6, rfl, rfl, -, k6⟩ := open_int Try.underlying48 (hval 6 48 v6 rfl rfl) h6
  refine (movingSome_any r0' o0' r1' o1' v3 v4 v5 x0 y0 x1 y1 x2 x3 x4 x5 x6 W kr0 ko0 kr1 ko1 (wf_r64 k2) k3 k4 k5 (wf_u16 k6)).mono fun e W' ⟨he, hb⟩ => ⟨_, he, ?_⟩
  exact law_post rfl rfl (by kernel_rfl) hA2 hW hb rfl

set_option maxRecDepth 100000 in
theorem movingSome_lifted (os : Os) (started : os.Started) (H : Type) (enc : TypeId × Value → H) :
    ReturnsInHanded {} Try.checked os 4 .any (Rows.movingSomeSpec.pre6 enc Try.prog Try.f4 Rows.movingSomeRow.domain false) (Rows.movingSomeSpec.post enc Try.prog Try.f4 false true false false) := by
  refine returnsInHanded_of_change_sized (C := Try.checked) ownKnobP started (by kernel_rfl) Try.func4
    (ChangeSpec.witness6 (enc := enc) (C := Try.checked) false ⟨#[], #[.agg #[.slice none 0 0, .slice none 0 0], .agg #[.slice none 0 0, .slice none 0 0], .int .i64 0, .slice none 0 0, .slice none 0 0, .slice none 0 0, .int .u16 0], []⟩ 8 (by kernel_rfl) (by kernel_rfl) (by kernel_rfl) (by kernel_rfl)) ?_
  intro W base args ds gs before hval hW _ hreach _
  exact movingSome_contract H enc W base args ds gs before hval hW hreach

set_option maxRecDepth 100000 in
theorem movingSome_holds : Rows.MovingSomeSaid :=
  OpenClaim.holds_of_wide 4 Try.f4 rfl rfl rfl rfl rfl rfl rfl ⟨rfl, rfl, rfl, rfl, rfl⟩ rfl rfl rfl rfl rfl (by kernel_rfl) Try.func4 (by kernel_rfl)
    (of_decide_eq_true (by kernel_rfl)) (by unfold Func.isWrapper; first | (rw [if_pos (by decide +kernel)]; kernel_rfl) | (rw [if_neg (by decide +kernel)]; exact ⟨rfl, rfl⟩))
    (fun os started H enc _ => movingSome_lifted os started H enc)
#print axioms movingSome_holds

end Go.Proofs.Ytjjoadmkpbmhpaa
