/- Combine and Separate of package linear match the specification: LinearSolveSpec returns true for every input, and leaves its arguments as they were. -/
import Derived.Test.YtjjdgphjkoppgaaSane
import Derived.Test.YtjjdgphjkoppgaaOpen
namespace Go.Proofs.Ytjjdgphjkoppgaa
open Go.ChangeShapes Go.WideShapes Go.ChangeAt Go.RowKit Go.Deep

/-- A call that returns a list, whether there is one, and an error. -/
def Gives (f : FuncId) (v u : Value) (y : List Int) (ok : Bool) (c : Int) (w : World) : Prop :=
  Calls Try.prog f #[v, u] w fun r w' => ∃ yv, r = .returned (.tuple #[yv, .bool ok, .int .i64 c]) ∧ Ints w' yv y ∧ Below w.heap.size w w'

theorem solve_same (rows : List (List Int)) (t : List Int) : ∃ (y z : List Int) (ok is : Bool) (c : Int), ∀ v u w, Rows2 w v rows → Ints w u t →
    Gives 16 v u y ok c w ∧ Gives 17 v u y ok c w ∧ Gives 18 v u z is c w ∧ Gives 19 v u z is c w := by
  refine ⟨_, _, _, _, _, fun v u w hI hU => ⟨?_, rCombine_any v u rows t w hI hU, ?_, rSeparate_any v u rows t w hI hU⟩⟩
  · refine (Combine_any v u rows t w hI hU).mono fun r w' ⟨yv, h1, h2, h3⟩ => ⟨yv, ?_, ?_, h3⟩
    · rw [h1, comb_err.1]
    · rw [← comb_err.2]; exact h2
  · refine (Separate_any v u rows t w hI hU).mono fun r w' ⟨yv, h1, h2, h3⟩ => ⟨yv, ?_, ?_, h3⟩
    · rw [h1, sep_err.1]
    · rw [← sep_err.2]; exact h2

theorem same_self (v u : Value) (y : List Int) (w : World) (hI : Ints w v y) (hJ : Ints w u y) :
    Calls Try.prog 20 #[v, u] w fun r w' => r = .returned (.bool true) ∧ Below w.heap.size w w' :=
  SameInts_is v u y y true w hI hJ (by simp [sameQ])

set_option maxRecDepth 100000 in
set_option maxHeartbeats 4000000 in
theorem linearSolveSpec_any (v u : Value) (rows : List (List Int)) (t : List Int) (w : World) (hI : Rows2 w v rows) (hU : Ints w u t) :
    Calls Try.prog 4 #[v, u] w fun e w' => e = .returned (.bool true) ∧ Below w.heap.size w w' := by
  have hI0 := hI
  have hU0 := hU
  obtain ⟨a, cap, rfl, -⟩ := hI
  obtain ⟨a2, cap2, rfl, -⟩ := hU
  cases hf : fewQ rows with
  | false =>
    have HF := Lib.hid hf
    clear hf
    go_enter Try.func4, Try.ntmps4
    go_wp2_with fail
    with_reducible refine (sane_any _).mono ?_
    rintro e w1 ⟨rfl, b1⟩
    go_wp2_with fail
    with_reducible refine (Few_any _ rows _ (hI0.below b1)).mono ?_
    rintro e w2 ⟨rfl, rfl⟩
    rw [HF.out]
    go_wp2_with fail
    go_ret
    exact ⟨rfl, b1⟩
  | true =>
    have HF := Lib.hid hf
    clear hf
    by_cases h100 : t.length ≤ 100
    · have d100 : decide ((100 : Int) < (t.length : Int)) = false := decide_eq_false (by omega)
      obtain ⟨y, z, ok, is, c, hs⟩ := solve_same rows t
      have HS := Lib.hid hs
      clear hs
      go_enter Try.func4, Try.ntmps4
      go_wp2_with fail
      with_reducible refine (sane_any _).mono ?_
      rintro e w1 ⟨rfl, b1⟩
      have hI1 := hI0.below b1
      have hU1 := hU0.below b1
      go_wp2_with fail
      with_reducible refine (Few_any _ rows _ hI1).mono ?_
      rintro e w2 ⟨rfl, rfl⟩
      rw [HF.out]
      go_wp2_with fail
      have hq := (HS.out _ _ _ hI1 hU1).1
      unfold Gives at hq
      have HQ := Lib.hid hq
      clear hq
      with_reducible refine HQ.out.mono ?_
      rintro e w3 ⟨y3, rfl, i3, b3⟩
      have hI3 := hI1.below b3
      have hU3 := hU1.below b3
      clear HQ
      go_wp2_with fail
      have hq := (HS.out _ _ _ hI3 hU3).2.1
      unfold Gives at hq
      have HQ := Lib.hid hq
      clear hq
      with_reducible refine HQ.out.mono ?_
      rintro e w4 ⟨y4, rfl, i4, b4⟩
      have hI4 := hI3.below b4
      have hU4 := hU3.below b4
      clear HQ
      go_wp2_with fail
      have hq := (HS.out _ _ _ hI4 hU4).2.2.1
      unfold Gives at hq
      have HQ := Lib.hid hq
      clear hq
      with_reducible refine HQ.out.mono ?_
      rintro e w5 ⟨y5, rfl, i5, b5⟩
      have hI5 := hI4.below b5
      have hU5 := hU4.below b5
      clear HQ
      go_wp2_with fail
      have hq := (HS.out _ _ _ hI5 hU5).2.2.2
      unfold Gives at hq
      have HQ := Lib.hid hq
      clear hq
      with_reducible refine HQ.out.mono ?_
      rintro e w6 ⟨y6, rfl, i6, b6⟩
      clear HQ
      go_wp2_with fail
      with_reducible refine (same_self _ _ y _ (((i3.below b4).below b5).below b6) ((i4.below b5).below b6)).mono ?_
      rintro e w7 ⟨rfl, b7⟩
      go_wp2_with fail
      with_reducible refine (same_self _ _ z _ ((i5.below b6).below b7) (i6.below b7)).mono ?_
      rintro e w8 ⟨rfl, b8⟩
      go_wp2_with fail
      go_ret
      refine ⟨rfl, ?_⟩
      have t3 := b1.trans (b3.mono b1.size)
      have t4 := t3.trans (b4.mono t3.size)
      have t5 := t4.trans (b5.mono t4.size)
      have t6 := t5.trans (b6.mono t5.size)
      have t7 := t6.trans (b7.mono t6.size)
      exact t7.trans (b8.mono t7.size)
    · have d100 : decide ((100 : Int) < (t.length : Int)) = true := decide_eq_true (by omega)
      go_enter Try.func4, Try.ntmps4
      go_wp2_with fail
      with_reducible refine (sane_any _).mono ?_
      rintro e w1 ⟨rfl, b1⟩
      go_wp2_with fail
      with_reducible refine (Few_any _ rows _ (hI0.below b1)).mono ?_
      rintro e w2 ⟨rfl, rfl⟩
      rw [HF.out]
      go_wp2_with fail
      go_ret
      exact ⟨rfl, b1⟩

/-- What the row asks, from what the call leaves. -/
theorem linearSolveSpec_contract (H : Type) (enc : TypeId × Value → H) (W : World) (base : Nat) (args : Array Value) (ds gs : List (DataW H)) (before : List MemPlace)
    (hval : ∀ (j : Nat) t v, Try.f4.params[j]? = some t → args[j]? = some v → Value.okWide Try.prog W .any base t v)
    (hW : DataW.Whole enc Try.prog Try.f4.params.toList Rows.linearSolveSpecSpec.vars false W args.toList ds gs before)
    (hreach : (DataW.weightsEach Try.prog (Try.f4.params.toList ++ Rows.linearSolveSpecSpec.plain.varTypes Try.prog) (ds ++ gs)).all (· ≤ reachBytes) = true) :
    Calls Try.prog 4 args W fun e W' => ∃ v, e = .returned v ∧ Rows.linearSolveSpecSpec.post enc Try.prog Try.f4 false true false false W args v W' := by
  obtain ⟨p, q, hA0, hV, rfl, hfz, hnd⟩ := id hW
  have hA : DataW.TrodAll enc Try.prog W 0 (fun _ => true) true Try.f4.params.toList args.toList ds p := hA0
  have hA2 := hA
  rw [Try.params4] at hA hval hreach
  obtain ⟨v0, vs0, d0, ds0, p0, q0, hargs, rfl, rfl, h0, r0⟩ := trodAll_cons hA
  obtain ⟨v1, vs1, d1, ds1, p1, q1, rfl, rfl, rfl, h1, r1⟩ := trodAll_cons r0
  obtain ⟨rfl, rfl, rfl⟩ := trodAll_nil r1
  obtain rfl : args = #[v0, v1] := by cases args; simp_all
  obtain ⟨rfl, rfl⟩ := trodVars_none hV
  simp only [List.append_nil] at hW hA2
  obtain ⟨x0, k0⟩ := open_rows (okWide_slice Try.underlying22 (hval 0 22 v0 rfl rfl)) h0 (light_of hreach (j := 0) rfl rfl)
  obtain ⟨x1, k1⟩ := open_list (okWide_slice Try.underlying29 (hval 1 29 v1 rfl rfl)) h1 (light_of hreach (j := 1) rfl rfl)
  refine (linearSolveSpec_any v0 v1 x0 x1 W k0 k1).mono fun e W' ⟨he, hb⟩ => ⟨_, he, ?_⟩
  exact law_post rfl rfl (by kernel_rfl) hA2 hW hb rfl

set_option maxRecDepth 100000 in
theorem linearSolveSpec_lifted (os : Os) (started : os.Started) (H : Type) (enc : TypeId × Value → H) :
    ReturnsInHanded {} Try.checked os 4 .any (Rows.linearSolveSpecSpec.pre6 enc Try.prog Try.f4 Rows.linearSolveSpecRow.domain false) (Rows.linearSolveSpecSpec.post enc Try.prog Try.f4 false true false false) := by
  refine returnsInHanded_of_change_sized (C := Try.checked) ownKnobP started (by kernel_rfl) Try.func4
    (ChangeSpec.witness6 (enc := enc) (C := Try.checked) false ⟨#[], #[.slice none 0 0, .slice none 0 0], []⟩ 8 (by kernel_rfl) (by kernel_rfl) (by kernel_rfl) (by kernel_rfl)) ?_
  intro W base args ds gs before hval hW _ hreach _
  exact linearSolveSpec_contract H enc W base args ds gs before hval hW hreach

theorem linearSolveSpec_holds : Rows.LinearSolveSpecSaid :=
  OpenClaim.holds_of_wide 4 Try.f4 rfl rfl rfl rfl rfl rfl rfl ⟨rfl, rfl, rfl, rfl, rfl⟩ rfl rfl rfl rfl rfl (by kernel_rfl) Try.func4 (by kernel_rfl)
    (of_decide_eq_true (by kernel_rfl)) (by unfold Func.isWrapper; first | (rw [if_pos (by decide +kernel)]; kernel_rfl) | (rw [if_neg (by decide +kernel)]; exact ⟨rfl, rfl⟩))
    (fun os started H enc _ => linearSolveSpec_lifted os started H enc)
#print axioms linearSolveSpec_holds

end Go.Proofs.Ytjjdgphjkoppgaa
