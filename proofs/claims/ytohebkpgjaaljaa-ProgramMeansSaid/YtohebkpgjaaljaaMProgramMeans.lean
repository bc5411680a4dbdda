/- The law of package program: the rows of people make the target exactly if the formula holds (ProgramMeans). -/
import Derived.Test.YtohebkpgjaaljaaMHoD
import Derived.Test.YtohebkpgjaaljaaMDeaV
import Derived.Test.YtohebkpgjaaljaaMGrA
import Derived.Test.YtohebkpgjaaljaaMSane
namespace Go.Proofs.Ytohebkpgjaaljaa
open Go.ChangeShapes Go.WideShapes Go.ChangeAt Go.RowKit Go.Deep

set_option maxRecDepth 100000 in
/-- What the row asks, from what the call leaves. -/
theorem programMeans_contract (H : Type) (enc : TypeId × Value → H) (W : World) (base : Nat) (args : Array Value) (ds gs : List (DataW H)) (before : List MemPlace)
    (hval : ∀ (j : Nat) t v, Try.f8.params[j]? = some t → args[j]? = some v → Value.okWide Try.prog W .any base t v)
    (hW : DataW.Whole enc Try.prog Try.f8.params.toList Rows.programMeansSpec.vars false W args.toList ds gs before)
    (hreach : (DataW.weightsEach Try.prog (Try.f8.params.toList ++ Rows.programMeansSpec.plain.varTypes Try.prog) (ds ++ gs)).all (· ≤ reachBytes) = true) :
    Calls Try.prog 8 args W fun e W' => ∃ v, e = .returned v ∧ Rows.programMeansSpec.post enc Try.prog Try.f8 false true false false W args v W' := by
  obtain ⟨p, q, hA0, hV, rfl, hfz, hnd⟩ := id hW
  have hA : DataW.TrodAll enc Try.prog W 0 (fun _ => true) true Try.f8.params.toList args.toList ds p := hA0
  have hA2 := hA
  rw [Try.params8] at hA hval hreach
  obtain ⟨v0, vs0, d0, ds0, p0, q0, hargs, rfl, rfl, h0, r0⟩ := trodAll_cons hA
  obtain ⟨v1, vs1, d1, ds1, p1, q1, rfl, rfl, rfl, h1, r1⟩ := trodAll_cons r0
  obtain ⟨rfl, rfl, rfl⟩ := trodAll_nil r1
  obtain rfl : args = #[v0, v1] := by cases args; simp_all
  obtain ⟨rfl, rfl⟩ := trodVars_none hV
  simp only [List.append_nil] at hW hA2
  obtain ⟨x0, k0⟩ := open_gate (hval 0 28 v0 rfl rfl) h0 (light_of hreach (j := 0) rfl rfl)
  obtain ⟨x1, k1⟩ := open_list (okWide_slice Try.underlying23 (hval 1 23 v1 rfl rfl)) h1 (light_of hreach (j := 1) rfl rfl)
  refine (programMeans_any v0 v1 x0 x1 W k0 k1).mono fun e W' ⟨he, hb⟩ => ⟨_, he, ?_⟩
  exact law_post rfl rfl (by kernel_rfl) hA2 hW hb rfl

set_option maxRecDepth 100000 in
theorem programMeans_lifted (os : Os) (started : os.Started) (H : Type) (enc : TypeId × Value → H) :
    ReturnsInHanded {} Try.checked os 8 .any (Rows.programMeansSpec.pre6 enc Try.prog Try.f8 Rows.programMeansRow.domain false) (Rows.programMeansSpec.post enc Try.prog Try.f8 false true false false) := by
  refine returnsInHanded_of_change_sized (C := Try.checked) ownKnobP started (by kernel_rfl) Try.func8
    (ChangeSpec.witness6 (enc := enc) (C := Try.checked) false ⟨#[], #[.agg #[.int .i64 0, .int .i64 0, .slice none 0 0], .slice none 0 0], []⟩ 8 (by kernel_rfl) (by kernel_rfl) (by kernel_rfl) (by kernel_rfl)) ?_
  intro W base args ds gs before hval hW _ hreach _
  exact programMeans_contract H enc W base args ds gs before hval hW hreach

set_option maxRecDepth 100000 in
theorem programMeans_holds : Rows.ProgramMeansSaid :=
  OpenClaim.holds_of_wide 8 Try.f8 rfl rfl rfl rfl rfl rfl rfl ⟨rfl, rfl, rfl, rfl, rfl⟩ rfl rfl rfl rfl rfl (by kernel_rfl) Try.func8 (by kernel_rfl)
    (of_decide_eq_true (by kernel_rfl)) (by unfold Func.isWrapper; first | (rw [if_pos (by decide +kernel)]; kernel_rfl) | (rw [if_neg (by decide +kernel)]; exact ⟨rfl, rfl⟩))
    (fun os started H enc _ => programMeans_lifted os started H enc)
#print axioms programMeans_holds

end Go.Proofs.Ytohebkpgjaaljaa
