/- The row and the card of KeygenTogether. -/
import Derived.Test.YtggnipkfliompaaGreatDoorMKhG
import Derived.Test.YtggnipkfliompaaGreatDoorMOpen
import Derived.Test.YtggnipkfliompaaGreatDoorCards
import Derived.Test.YtggnipkfliompaaGreatDoorTie
import Derived.SevenTiedAt
set_option maxRecDepth 100000
namespace Go.Proofs.YtggnipkfliompaaGreatDoor
open Go.ChangeShapes Go.WideShapes Go.ChangeAt Go.RowKit Go.Deep
theorem keygenTogether_contract (H : Type) (enc : TypeId × Value → H) (W : World) (base : Nat) (args : Array Value) (ds gs : List (DataW H)) (before : List MemPlace)
  (hval : ∀ (j : Nat) t v, Tryz.f12.params[j]? = some t → args[j]? = some v → Value.okWide Tryz.prog W .any base t v)
  (hW : DataW.Whole enc Tryz.prog Tryz.f12.params.toList Rows.keygenTogetherSpec.vars false W args.toList ds gs before) (hL : Glob W)
  (hreach : (DataW.weightsEach Tryz.prog (Tryz.f12.params.toList ++ Rows.keygenTogetherSpec.plain.varTypes Tryz.prog) (ds ++ gs)).all (· ≤ reachBytes) = true) :
  Calls Tryz.prog 12 args W fun e W' => ∃ v, e = .returned v ∧ Rows.keygenTogetherSpec.post enc Tryz.prog Tryz.f12 false true false false W args v W' := by
 obtain ⟨p, q, hA0, hV, rfl, hfz, hnd⟩ := id hW
 have hA : DataW.TrodAll enc Tryz.prog W 0 (fun _ => true) true Tryz.f12.params.toList args.toList ds p := hA0
 have hA2 := hA
 rw [Tryz.params12] at hA hval hreach
 obtain ⟨v0, vs0, d0, ds0, p0, q0, hargs, rfl, rfl, h0, r0⟩ := trodAll_cons hA
 obtain ⟨v1, vs1, d1, ds1, p1, q1, rfl, rfl, rfl, h1, r1⟩ := trodAll_cons r0
 obtain ⟨v2, vs2, d2, ds2, p2, q2, rfl, rfl, rfl, h2, r2⟩ := trodAll_cons r1
 obtain ⟨v3, vs3, d3, ds3, p3, q3, rfl, rfl, rfl, h3, r3⟩ := trodAll_cons r2
 obtain ⟨rfl, rfl, rfl⟩ := trodAll_nil r3
 obtain rfl : args = #[v0, v1, v2, v3] := by cases args; simp_all
 obtain ⟨rfl, rfl⟩ := trodVars_none hV
 simp only [List.append_nil] at hW hA2
 obtain ⟨r0', o0', x0, y0, rfl, kr0, ko0⟩ := open_program (hval 0 25 v0 rfl rfl) h0 (light_of hreach (j := 0) rfl rfl)
 obtain ⟨x1, k1⟩ := open_list (okWide_slice Tryz.underlying23 (hval 1 23 v1 rfl rfl)) h1 (light_of hreach (j := 1) rfl rfl)
 obtain ⟨x2, k2⟩ := open_duos (okWide_slice Tryz.underlying80 (hval 2 80 v2 rfl rfl)) h2 (light_of hreach (j := 2) rfl rfl)
 obtain ⟨x3, k3⟩ := open_list (okWide_slice Tryz.underlying23 (hval 3 23 v3 rfl rfl)) h3 (light_of hreach (j := 3) rfl rfl)
 refine (keygenTogether_all r0' o0' v1 v2 v3 x0 y0 x1 x2 x3 W kr0 ko0 k1 k2 k3 hL).mono fun e W' ⟨he, hb⟩ => ⟨_, he, ?_⟩
 exact law_post rfl rfl (by kernel_rfl) hA2 hW hb rfl
theorem keygenTogether_lifted (os : Os) (started : os.Started) (H : Type) (enc : TypeId × Value → H) :
  ReturnsInHanded {} Tryz.checked os 12 .any (fun w args => (Rows.keygenTogetherSpec.pre enc Tryz.prog Tryz.f12 [] false w args ∧ laidMetH Tryz.prog Rows.keygenTogetherRow.laid w) ∧ sizedMet enc Tryz.prog Tryz.f12 (OpenSpec.ofChange Rows.keygenTogetherSpec) false w args)
   (Rows.keygenTogetherSpec.post enc Tryz.prog Tryz.f12 false true false false) := by
 refine returnsInHanded_of_change_and (C := Tryz.checked) (X := fun w _ => laidMetH Tryz.prog Rows.keygenTogetherRow.laid w) (fun _ _ _ hh h => h.of_heap hh) ownKnobP started (by kernel_rfl) Tryz.func12
  (ChangeSpec.witness_shaped (enc := enc) (C := Tryz.checked) (os := os) (X := fun w _ => laidMetH Tryz.prog Rows.keygenTogetherRow.laid w) false (World.doorLaid Tryz.prog 4000 os) #[.agg #[.slice none 0 0, .slice none 0 0], .slice none 0 0, .slice none 0 0, .slice none 0 0] 8 rfl (World.shaped_of_RefB (by kernel_rfl) (by kernel_rfl)) (by kernel_rfl) (by kernel_rfl) (by kernel_rfl) (door_met os _)) ?_
 intro W base args ds gs before hval hW _ hreach hL _
 exact keygenTogether_contract H enc W base args ds gs before hval hW (glob_of_laid hL) hreach
theorem keygenTogether_row : Rows.KeygenTogetherSaid :=
 OpenClaim.holds_of_wide 12 Tryz.f12 rfl rfl rfl rfl rfl rfl rfl ⟨rfl, rfl, rfl, rfl, rfl⟩ rfl rfl rfl rfl rfl (by kernel_rfl) Tryz.func12 (by kernel_rfl)
  (of_decide_eq_true (by kernel_rfl)) (by unfold Func.isWrapper; first | (rw [if_pos (by decide +kernel)]; kernel_rfl) | (rw [if_neg (by decide +kernel)]; exact ⟨rfl, rfl⟩))
  (fun os started H enc _ => keygenTogether_lifted os started H enc)
theorem keygenTogether_holds : Rows.KeygenTogetherCardSaid :=
 Claim7.holds_tied_plain_at .later [] [.data, .data] true Rows.keygenTogetherCard.stood.harness true
  keygenTogether_row (fun _ h => by cases h) (by kernel_rfl) (fun _ h => by cases h) keygenTogether_row_tie rfl ⟨rfl, rfl⟩ (by kernel_rfl) rfl
  (fun f fn hf hfn => by
   obtain rfl : f = 12 := Option.some.inj ((show Tryz.prog.funcNamed "signatory/signatorylaw37.KeygenTogether" = some 12 by kernel_rfl).symm.trans hf) |>.symm
   obtain rfl : fn = Tryz.f12 := (Option.some.inj (Tryz.func12.symm.trans hfn)).symm
   exact ⟨by kernel_rfl, fun j t ht => by
    rw [Tryz.params12] at ht
    have hall : (#[25, 23, 80, 23] : Array TypeId).all (fun t => !Tryz.prog.wantsStandIn t) = true := by kernel_rfl
    have := Array.all_eq_true_iff_forall_mem.1 hall t (Array.mem_of_getElem? ht)
    have h2 : Tryz.prog.wantsStandIn t = false := by simpa using this
    exact h2⟩)
  (by kernel_rfl)
#print axioms keygenTogether_holds
end Go.Proofs.YtggnipkfliompaaGreatDoor
