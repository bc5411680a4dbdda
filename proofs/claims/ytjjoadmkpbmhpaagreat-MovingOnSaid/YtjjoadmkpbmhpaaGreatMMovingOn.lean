/- The law MovingOn. -/
import Derived.Test.YtjjoadmkpbmhpaaGreatMMvR
import Derived.Test.YtjjoadmkpbmhpaaGreatMReP
namespace Go.Proofs.YtjjoadmkpbmhpaaGreat
open Go.ChangeShapes Go.WideShapes Go.ChangeAt Go.RowKit Go.Deep

set_option maxRecDepth 100000 in
/-- What the row asks, from what the call leaves. -/
theorem movingOn_contract (H : Type) (enc : TypeId × Value → H) (W : World) (base : Nat) (args : Array Value) (ds gs : List (DataW H)) (before : List MemPlace)
    (hval : ∀ (j : Nat) t v, Tryz.f6.params[j]? = some t → args[j]? = some v → Value.okWide Tryz.prog W .any base t v)
    (hW : DataW.Whole enc Tryz.prog Tryz.f6.params.toList Rows.movingOnSpec.vars false W args.toList ds gs before)
    (hreach : (DataW.weightsEach Tryz.prog (Tryz.f6.params.toList ++ Rows.movingOnSpec.plain.varTypes Tryz.prog) (ds ++ gs)).all (· ≤ reachBytes) = true) :
    Calls Tryz.prog 6 args W fun e W' => ∃ v, e = .returned v ∧ Rows.movingOnSpec.post enc Tryz.prog Tryz.f6 false true false false W args v W' := by
  obtain ⟨p, q, hA0, hV, rfl, hfz, hnd⟩ := id hW
  have hA : DataW.TrodAll enc Tryz.prog W 0 (fun _ => true) true Tryz.f6.params.toList args.toList ds p := hA0
  have hA2 := hA
  rw [Tryz.params6] at hA hval hreach
  obtain ⟨v0, vs0, d0, ds0, p0, q0, hargs, rfl, rfl, h0, r0⟩ := trodAll_cons hA
  obtain ⟨v1, vs1, d1, ds1, p1, q1, rfl, rfl, rfl, h1, r1⟩ := trodAll_cons r0
  obtain ⟨v2, vs2, d2, ds2, p2, q2, rfl, rfl, rfl, h2, r2⟩ := trodAll_cons r1
  obtain ⟨v3, vs3, d3, ds3, p3, q3, rfl, rfl, rfl, h3, r3⟩ := trodAll_cons r2
  obtain ⟨v4, vs4, d4, ds4, p4, q4, rfl, rfl, rfl, h4, r4⟩ := trodAll_cons r3
  obtain ⟨v5, vs5, d5, ds5, p5, q5, rfl, rfl, rfl, h5, r5⟩ := trodAll_cons r4
  obtain ⟨v6, vs6, d6, ds6, p6, q6, rfl, rfl, rfl, h6, r6⟩ := trodAll_cons r5
  obtain ⟨v7, vs7, d7, ds7, p7, q7, rfl, rfl, rfl, h7, r7⟩ := trodAll_cons r6
  obtain ⟨rfl, rfl, rfl⟩ := trodAll_nil r7
  obtain rfl : args = #[v0, v1, v2, v3, v4, v5, v6, v7] := by cases args; simp_all
  obtain ⟨rfl, rfl⟩ := trodVars_none hV
  simp only [List.append_nil] at hW hA2
  obtain ⟨r0', o0', x0, y0, rfl, kr0, ko0⟩ := open_program (hval 0 25 v0 rfl rfl) h0 (light_of hreach (j := 0) rfl rfl)
  obtain ⟨r1', o1', x1, y1, rfl, kr1, ko1⟩ := open_program (hval 1 25 v1 rfl rfl) h1 (light_of hreach (j := 1) rfl rfl)
  obtain ⟨r2', o2', x2, y2, rfl, kr2, ko2⟩ := open_program (hval 2 25 v2 rfl rfl) h2 (light_of hreach (j := 2) rfl rfl)
  obtain ⟨x3, rfl, rfl, -, k3⟩ := open_int Tryz.underlying3 (hval 3 3 v3 rfl rfl) h3
  obtain ⟨x4, k4⟩ := open_list (okWide_slice Tryz.underlying23 (hval 4 23 v4 rfl rfl)) h4 (light_of hreach (j := 4) rfl rfl)
  obtain ⟨x5, k5⟩ := open_list (okWide_slice Tryz.underlying23 (hval 5 23 v5 rfl rfl)) h5 (light_of hreach (j := 5) rfl rfl)
  obtain ⟨x6, k6⟩ := open_list (okWide_slice Tryz.underlying23 (hval 6 23 v6 rfl rfl)) h6 (light_of hreach (j := 6) rfl rfl)
  obtain ⟨x7, k7⟩ := open_words (okWide_slice Tryz.underlying46 (hval 7 46 v7 rfl rfl)) h7 (light_of hreach (j := 7) rfl rfl)
  refine (movingOn_any r0' o0' r1' o1' r2' o2' v4 v5 v6 v7 x0 y0 x1 y1 x2 y2 x3 x4 x5 x6 x7 W kr0 ko0 kr1 ko1 kr2 ko2 (wf_r64 k3) k4 k5 k6 k7).mono fun e W' ⟨he, hb⟩ => ⟨_, he, ?_⟩
  exact law_post rfl rfl (by kernel_rfl) hA2 hW hb rfl

set_option maxRecDepth 100000 in
theorem movingOn_lifted (os : Os) (started : os.Started) (H : Type) (enc : TypeId × Value → H) :
    ReturnsInHanded {} Tryz.checked os 6 .any (Rows.movingOnSpec.pre6 enc Tryz.prog Tryz.f6 Rows.movingOnRow.domain false) (Rows.movingOnSpec.post enc Tryz.prog Tryz.f6 false true false false) := by
  refine returnsInHanded_of_change_sized (C := Tryz.checked) ownKnobP started (by kernel_rfl) Tryz.func6
    (ChangeSpec.witness6 (enc := enc) (C := Tryz.checked) false ⟨#[], #[.agg #[.slice none 0 0, .slice none 0 0], .agg #[.slice none 0 0, .slice none 0 0], .agg #[.slice none 0 0, .slice none 0 0], .int .i64 0, .slice none 0 0, .slice none 0 0, .slice none 0 0, .slice none 0 0], []⟩ 8 (by kernel_rfl) (by kernel_rfl) (by kernel_rfl) (by kernel_rfl)) ?_
  intro W base args ds gs before hval hW _ hreach _
  exact movingOn_contract H enc W base args ds gs before hval hW hreach

set_option maxRecDepth 100000 in
theorem movingOn_holds : Rows.MovingOnSaid :=
  OpenClaim.holds_of_wide 6 Tryz.f6 rfl rfl rfl rfl rfl rfl rfl ⟨rfl, rfl, rfl, rfl, rfl⟩ rfl rfl rfl rfl rfl (by kernel_rfl) Tryz.func6 (by kernel_rfl)
    (of_decide_eq_true (by kernel_rfl)) (by unfold Func.isWrapper; first | (rw [if_pos (by decide +kernel)]; kernel_rfl) | (rw [if_neg (by decide +kernel)]; exact ⟨rfl, rfl⟩))
    (fun os started H enc _ => movingOn_lifted os started H enc)
#print axioms movingOn_holds

end Go.Proofs.YtjjoadmkpbmhpaaGreat
