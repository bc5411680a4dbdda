/- The law RenewalMixesSpec. -/
import Derived.Test.YtnbkbnbmmkfckaaGreatMRzG
import Derived.Test.YtnbkbnbmmkfckaaGreatMOpen
namespace Go.Proofs.YtnbkbnbmmkfckaaGreat
open Go.ChangeShapes Go.WideShapes Go.ChangeAt Go.RowKit Go.Deep

set_option maxRecDepth 100000 in
/-- What the row asks, from what the call leaves. -/
theorem renewalMixesSpec_contract (H : Type) (enc : TypeId × Value → H) (W : World) (base : Nat) (args : Array Value) (ds gs : List (DataW H)) (before : List MemPlace)
    (hval : ∀ (j : Nat) t v, Tryz.f4.params[j]? = some t → args[j]? = some v → Value.okWide Tryz.prog W .any base t v)
    (hW : DataW.Whole enc Tryz.prog Tryz.f4.params.toList Rows.renewalMixesSpecSpec.vars false W args.toList ds gs before)
    (hreach : (DataW.weightsEach Tryz.prog (Tryz.f4.params.toList ++ Rows.renewalMixesSpecSpec.plain.varTypes Tryz.prog) (ds ++ gs)).all (· ≤ reachBytes) = true) :
    Calls Tryz.prog 4 args W fun e W' => ∃ v, e = .returned v ∧ Rows.renewalMixesSpecSpec.post enc Tryz.prog Tryz.f4 false true false false W args v W' := by
  obtain ⟨p, q, hA0, hV, rfl, hfz, hnd⟩ := id hW
  have hA : DataW.TrodAll enc Tryz.prog W 0 (fun _ => true) true Tryz.f4.params.toList args.toList ds p := hA0
  have hA2 := hA
  rw [Tryz.params4] at hA hval hreach
  obtain ⟨v0, vs0, d0, ds0, p0, q0, hargs, rfl, rfl, h0, r0⟩ := trodAll_cons hA
  obtain ⟨v1, vs1, d1, ds1, p1, q1, rfl, rfl, rfl, h1, r1⟩ := trodAll_cons r0
  obtain ⟨v2, vs2, d2, ds2, p2, q2, rfl, rfl, rfl, h2, r2⟩ := trodAll_cons r1
  obtain ⟨v3, vs3, d3, ds3, p3, q3, rfl, rfl, rfl, h3, r3⟩ := trodAll_cons r2
  obtain ⟨rfl, rfl, rfl⟩ := trodAll_nil r3
  obtain rfl : args = #[v0, v1, v2, v3] := by cases args; simp_all
  obtain ⟨rfl, rfl⟩ := trodVars_none hV
  simp only [List.append_nil] at hW hA2
  obtain ⟨e0, r0', o0', c0', x0, y0, z0, rfl, ke0, kr0, ko0, kc0⟩ := open_key (hval 0 27 v0 rfl rfl) h0 (light_of hreach (j := 0) rfl rfl)
  obtain ⟨e1, r1', o1', c1', x1, y1, z1, rfl, ke1, kr1, ko1, kc1⟩ := open_key (hval 1 27 v1 rfl rfl) h1 (light_of hreach (j := 1) rfl rfl)
  obtain ⟨x2, k2⟩ := open_shares (okWide_slice Tryz.underlying28 (hval 2 28 v2 rfl rfl)) h2 (light_of hreach (j := 2) rfl rfl)
  obtain ⟨x3, k3⟩ := open_shares (okWide_slice Tryz.underlying28 (hval 3 28 v3 rfl rfl)) h3 (light_of hreach (j := 3) rfl rfl)
  refine (renewalMixesSpec_any r0' o0' c0' r1' o1' c1' v2 v3 e0 x0 y0 z0 e1 x1 y1 z1 x2 x3 W ke0 kr0 ko0 kc0 ke1 kr1 ko1 kc1 k2 k3).mono fun e W' ⟨he, hb⟩ => ⟨_, he, ?_⟩
  exact law_post rfl rfl (by kernel_rfl) hA2 hW hb rfl

set_option maxRecDepth 100000 in
theorem renewalMixesSpec_lifted (os : Os) (started : os.Started) (H : Type) (enc : TypeId × Value → H) :
    ReturnsInHanded {} Tryz.checked os 4 .any (Rows.renewalMixesSpecSpec.pre6 enc Tryz.prog Tryz.f4 Rows.renewalMixesSpecRow.domain false) (Rows.renewalMixesSpecSpec.post enc Tryz.prog Tryz.f4 false true false false) := by
  refine returnsInHanded_of_change_sized (C := Tryz.checked) ownKnobP started (by kernel_rfl) Tryz.func4
    (ChangeSpec.witness6 (enc := enc) (C := Tryz.checked) false ⟨#[], #[.agg #[.int .i64 0, .slice none 0 0, .slice none 0 0, .slice none 0 0], .agg #[.int .i64 0, .slice none 0 0, .slice none 0 0, .slice none 0 0], .slice none 0 0, .slice none 0 0], []⟩ 8 (by kernel_rfl) (by kernel_rfl) (by kernel_rfl) (by kernel_rfl)) ?_
  intro W base args ds gs before hval hW _ hreach _
  exact renewalMixesSpec_contract H enc W base args ds gs before hval hW hreach

set_option maxRecDepth 100000 in
theorem renewalMixesSpec_holds : Rows.RenewalMixesSpecSaid :=
  OpenClaim.holds_of_wide 4 Tryz.f4 rfl rfl rfl rfl rfl rfl rfl ⟨rfl, rfl, rfl, rfl, rfl⟩ rfl rfl rfl rfl rfl (by kernel_rfl) Tryz.func4 (by kernel_rfl)
    (of_decide_eq_true (by kernel_rfl)) (by unfold Func.isWrapper; first | (rw [if_pos (by decide +kernel)]; kernel_rfl) | (rw [if_neg (by decide +kernel)]; exact ⟨rfl, rfl⟩))
    (fun os started H enc _ => renewalMixesSpec_lifted os started H enc)
#print axioms renewalMixesSpec_holds

end Go.Proofs.YtnbkbnbmmkfckaaGreat
