/- The row and the card of KeygenHonest. -/
import Derived.Test.YtggnipkfliompaaGreatDoorMKhB
import Derived.Test.YtggnipkfliompaaGreatDoorMOpen
import Derived.Test.YtggnipkfliompaaGreatDoorCards
import Derived.Test.YtggnipkfliompaaGreatDoorTie
import Derived.SevenTiedAt
namespace Go.Proofs.YtggnipkfliompaaGreatDoor
open Go.ChangeShapes Go.WideShapes Go.ChangeAt Go.RowKit Go.Deep

set_option maxRecDepth 100000 in
theorem keygenHonest_contract (H : Type) (enc : TypeId × Value → H) (W : World) (base : Nat) (args : Array Value) (ds gs : List (DataW H)) (before : List MemPlace)
    (hval : ∀ (j : Nat) t v, Tryz.f9.params[j]? = some t → args[j]? = some v → Value.okWide Tryz.prog W .any base t v)
    (hW : DataW.Whole enc Tryz.prog Tryz.f9.params.toList Rows.keygenHonestSpec.vars false W args.toList ds gs before) (hL : Glob W)
    (hreach : (DataW.weightsEach Tryz.prog (Tryz.f9.params.toList ++ Rows.keygenHonestSpec.plain.varTypes Tryz.prog) (ds ++ gs)).all (· ≤ reachBytes) = true) :
    Calls Tryz.prog 9 args W fun e W' => ∃ v, e = .returned v ∧ Rows.keygenHonestSpec.post enc Tryz.prog Tryz.f9 false true false false W args v W' := by
  obtain ⟨p, q, hA0, hV, rfl, hfz, hnd⟩ := id hW
  have hA : DataW.TrodAll enc Tryz.prog W 0 (fun _ => true) true Tryz.f9.params.toList args.toList ds p := hA0
  have hA2 := hA
  rw [Tryz.params9] at hA hval hreach
  obtain ⟨v0, vs0, d0, ds0, p0, q0, hargs, rfl, rfl, h0, r0⟩ := trodAll_cons hA
  obtain ⟨v1, vs1, d1, ds1, p1, q1, rfl, rfl, rfl, h1, r1⟩ := trodAll_cons r0
  obtain ⟨v2, vs2, d2, ds2, p2, q2, rfl, rfl, rfl, h2, r2⟩ := trodAll_cons r1
  obtain ⟨v3, vs3, d3, ds3, p3, q3, rfl, rfl, rfl, h3, r3⟩ := trodAll_cons r2
  obtain ⟨v4, vs4, d4, ds4, p4, q4, rfl, rfl, rfl, h4, r4⟩ := trodAll_cons r3
  obtain ⟨v5, vs5, d5, ds5, p5, q5, rfl, rfl, rfl, h5, r5⟩ := trodAll_cons r4
  obtain ⟨v6, vs6, d6, ds6, p6, q6, rfl, rfl, rfl, h6, r6⟩ := trodAll_cons r5
  obtain ⟨v7, vs7, d7, ds7, p7, q7, rfl, rfl, rfl, h7, r7⟩ := trodAll_cons r6
  obtain ⟨rfl, rfl, rfl⟩ := trodAll_nil r7
  obtain rfl : args = #[v0, v1, v2, v3, v4, v5, v6, v7] := by cases args; simp_all
  obtain ⟨rfl, rfl⟩ := trodVars_none hV
  simp only [List.append_nil] at hW hA2
  obtain ⟨r0', o0', x0, y0, rfl, kr0, ko0⟩ := open_program (hval 0 25 v0 rfl rfl) h0 (light_of hreach (j := 0) rfl rfl)
  obtain ⟨x1, k1⟩ := open_list (okWide_slice Tryz.underlying23 (hval 1 23 v1 rfl rfl)) h1 (light_of hreach (j := 1) rfl rfl)
  obtain ⟨x2, rfl, rfl, -, k2⟩ := open_int Tryz.underlying3 (hval 2 3 v2 rfl rfl) h2
  obtain ⟨x3, rfl, rfl, -, k3⟩ := open_int Tryz.underlying3 (hval 3 3 v3 rfl rfl) h3
  obtain ⟨x4, k4⟩ := open_list (okWide_slice Tryz.underlying23 (hval 4 23 v4 rfl rfl)) h4 (light_of hreach (j := 4) rfl rfl)
  obtain ⟨x5, k5⟩ := open_list (okWide_slice Tryz.underlying23 (hval 5 23 v5 rfl rfl)) h5 (light_of hreach (j := 5) rfl rfl)
  obtain ⟨x6, y6, k6⟩ := open_dealings (okWide_slice Tryz.underlying55 (hval 6 55 v6 rfl rfl)) h6 (light_of hreach (j := 6) rfl rfl)
  obtain ⟨x7, k7⟩ := open_complaints (okWide_slice Tryz.underlying62 (hval 7 62 v7 rfl rfl)) h7 (light_of hreach (j := 7) rfl rfl)
  refine (keygenHonest_all r0' o0' v1 v4 v5 v6 v7 x0 y0 x1 x2 x3 x4 x5 x6 y6 x7 W kr0 ko0 k1 (wf_r64 k2) (wf_r64 k3) k4 k5 k6 k7 hL).mono fun e W' ⟨he, hb⟩ => ⟨_, he, ?_⟩
  exact law_post rfl rfl (by kernel_rfl) hA2 hW hb rfl

set_option maxRecDepth 100000 in
theorem keygenHonest_lifted (os : Os) (started : os.Started) (H : Type) (enc : TypeId × Value → H) :
    ReturnsInHanded {} Tryz.checked os 9 .any (fun w args => (Rows.keygenHonestSpec.pre enc Tryz.prog Tryz.f9 [] false w args ∧ laidMetH Tryz.prog Rows.keygenHonestRow.laid w) ∧ sizedMet enc Tryz.prog Tryz.f9 (OpenSpec.ofChange Rows.keygenHonestSpec) false w args)
      (Rows.keygenHonestSpec.post enc Tryz.prog Tryz.f9 false true false false) := by
  refine returnsInHanded_of_change_and (C := Tryz.checked) (X := fun w _ => laidMetH Tryz.prog Rows.keygenHonestRow.laid w) (fun _ _ _ hh h => h.of_heap hh) ownKnobP started (by kernel_rfl) Tryz.func9
    (ChangeSpec.witness_shaped (enc := enc) (C := Tryz.checked) (os := os) (X := fun w _ => laidMetH Tryz.prog Rows.keygenHonestRow.laid w) false (World.doorLaid Tryz.prog 4000 os) #[.agg #[.slice none 0 0, .slice none 0 0], .slice none 0 0, .int .i64 0, .int .i64 0, .slice none 0 0, .slice none 0 0, .slice none 0 0, .slice none 0 0] 8 rfl (World.shaped_of_RefB (by kernel_rfl) (by kernel_rfl)) (by kernel_rfl) (by kernel_rfl) (by kernel_rfl) (door_met os _)) ?_
  intro W base args ds gs before hval hW _ hreach hL _
  exact keygenHonest_contract H enc W base args ds gs before hval hW (glob_of_laid hL) hreach

set_option maxRecDepth 100000 in
theorem keygenHonest_row : Rows.KeygenHonestSaid :=
  OpenClaim.holds_of_wide 9 Tryz.f9 rfl rfl rfl rfl rfl rfl rfl ⟨rfl, rfl, rfl, rfl, rfl⟩ rfl rfl rfl rfl rfl (by kernel_rfl) Tryz.func9 (by kernel_rfl)
    (of_decide_eq_true (by kernel_rfl)) (by unfold Func.isWrapper; first | (rw [if_pos (by decide +kernel)]; kernel_rfl) | (rw [if_neg (by decide +kernel)]; exact ⟨rfl, rfl⟩))
    (fun os started H enc _ => keygenHonest_lifted os started H enc)

set_option maxRecDepth 100000 in
theorem keygenHonest_holds : Rows.KeygenHonestCardSaid :=
  Claim7.holds_tied_plain_at .later [] [.data, .data] true Rows.keygenHonestCard.stood.harness true
    keygenHonest_row (fun _ h => by cases h) (by kernel_rfl) (fun _ h => by cases h) keygenHonest_row_tie rfl ⟨rfl, rfl⟩ (by kernel_rfl) rfl
    (fun f fn hf hfn => by
      obtain rfl : f = 9 := Option.some.inj ((show Tryz.prog.funcNamed "signatory/signatorylaw37.KeygenHonest" = some 9 by kernel_rfl).symm.trans hf) |>.symm
      obtain rfl : fn = Tryz.f9 := (Option.some.inj (Tryz.func9.symm.trans hfn)).symm
      exact ⟨by kernel_rfl, fun j t ht => by
        rw [Tryz.params9] at ht
        have hall : (#[25, 23, 3, 3, 23, 23, 55, 62] : Array TypeId).all (fun t => !Tryz.prog.wantsStandIn t) = true := by kernel_rfl
        have := Array.all_eq_true_iff_forall_mem.1 hall t (Array.mem_of_getElem? ht)
        have h2 : Tryz.prog.wantsStandIn t = false := by simpa using this
        exact h2⟩)
    (by kernel_rfl)
#print axioms keygenHonest_holds

end Go.Proofs.YtggnipkfliompaaGreatDoor
