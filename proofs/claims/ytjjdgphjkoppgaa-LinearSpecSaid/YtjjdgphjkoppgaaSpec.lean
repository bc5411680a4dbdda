/- Check and Rank of package linear match the specification: LinearSpec returns true for every input, and leaves its argument as it was. -/
import Derived.Test.YtjjdgphjkoppgaaSane
import Derived.Test.YtjjdgphjkoppgaaOpen
namespace Go.Proofs.Ytjjdgphjkoppgaa
open Go.ChangeShapes Go.WideShapes Go.ChangeAt Go.RowKit Go.Deep

theorem Rank_r (v : Value) (rows : List (List Int)) (w : World) (hI : Rows2 w v rows) :
    Calls Try.prog 12 #[v] w fun r w' => r = .returned (.tuple #[.int .i64 (rrankQ rows), .int .i64 (checkErr rows)]) ∧ Below w.heap.size w w' :=
  rank_same rows ▸ Rank_any v rows w hI

set_option maxRecDepth 100000 in
set_option maxHeartbeats 4000000 in
theorem linearSpec_any (v : Value) (rows : List (List Int)) (w : World) (hI : Rows2 w v rows) :
    Calls Try.prog 3 #[v] w fun e w' => e = .returned (.bool true) ∧ Below w.heap.size w w' := by
  have hI0 := hI
  obtain ⟨a, cap, rfl, -⟩ := hI
  cases hf : fewQ rows with
  | false =>
    have HF := Lib.hid hf
    clear hf
    go_enter Try.func3, Try.ntmps3
    go_wp2_with fail
    with_reducible refine (sane_any _).mono ?_
    rintro e w1 ⟨rfl, b1⟩
    go_wp2_with fail
    with_reducible refine (Few_any _ rows _ (hI0.below b1)).mono ?_
    rintro e w2 ⟨rfl, rfl⟩
    rw [HF.out]
    go_wp2_with fail
    go_ret
    exact ⟨rfl, b1⟩
  | true =>
    have HF := Lib.hid hf
    clear hf
    go_enter Try.func3, Try.ntmps3
    go_wp2_with fail
    with_reducible refine (sane_any _).mono ?_
    rintro e w1 ⟨rfl, b1⟩
    have hI1 := hI0.below b1
    go_wp2_with fail
    with_reducible refine (Few_any _ rows _ hI1).mono ?_
    rintro e w2 ⟨rfl, rfl⟩
    rw [HF.out]
    go_wp2_with fail
    with_reducible refine (Rank_r _ rows _ hI1).mono ?_
    rintro e w3 ⟨rfl, b3⟩
    have hI3 := hI1.below b3
    obtain ⟨n, hn⟩ : ∃ n : Int, n = (rrankQ rows : Int) := ⟨_, rfl⟩
    obtain ⟨c, hc⟩ : ∃ c : Int, c = checkErr rows := ⟨_, rfl⟩
    have HC := Lib.hid (fun v w h => (hc ▸ Check_any v rows w h : Calls Try.prog 14 #[v] w fun r w' => r = .returned (.int .i64 c) ∧ Below w.heap.size w w'))
    have HR := Lib.hid (fun v w h => (hc ▸ hn ▸ rRank_any v rows w h : Calls Try.prog 13 #[v] w fun r w' => r = .returned (.tuple #[.int .i64 n, .int .i64 c]) ∧ Below w.heap.size w w'))
    have HK := Lib.hid (fun v w h => (hc ▸ rCheck_any v rows w h : Calls Try.prog 15 #[v] w fun r w' => r = .returned (.int .i64 c) ∧ Below w.heap.size w w'))
    rw [← hn, ← hc]
    clear hn hc
    go_wp2_with fail
    with_reducible refine (HR.out _ _ hI3).mono ?_
    rintro e w4 ⟨rfl, b4⟩
    have hI4 := hI3.below b4
    go_wp2_with fail
    with_reducible refine (HC.out _ _ hI4).mono ?_
    rintro e w5 ⟨rfl, b5⟩
    have hI5 := hI4.below b5
    go_wp2_with fail
    with_reducible refine (HK.out _ _ hI5).mono ?_
    rintro e w6 ⟨rfl, b6⟩
    go_wp2_with fail
    go_ret
    refine ⟨rfl, ?_⟩
    have t3 := b1.trans (b3.mono b1.size)
    have t4 := t3.trans (b4.mono t3.size)
    have t5 := t4.trans (b5.mono t4.size)
    exact t5.trans (b6.mono t5.size)

/-- What the row asks, from what the call leaves. -/
theorem linearSpec_contract (H : Type) (enc : TypeId × Value → H) (W : World) (base : Nat) (args : Array Value) (ds gs : List (DataW H)) (before : List MemPlace)
    (hval : ∀ (j : Nat) t v, Try.f3.params[j]? = some t → args[j]? = some v → Value.okWide Try.prog W .any base t v)
    (hW : DataW.Whole enc Try.prog Try.f3.params.toList Rows.linearSpecSpec.vars false W args.toList ds gs before)
    (hreach : (DataW.weightsEach Try.prog (Try.f3.params.toList ++ Rows.linearSpecSpec.plain.varTypes Try.prog) (ds ++ gs)).all (· ≤ reachBytes) = true) :
    Calls Try.prog 3 args W fun e W' => ∃ v, e = .returned v ∧ Rows.linearSpecSpec.post enc Try.prog Try.f3 false true false false W args v W' := by
  obtain ⟨p, q, hA0, hV, rfl, hfz, hnd⟩ := id hW
  have hA : DataW.TrodAll enc Try.prog W 0 (fun _ => true) true Try.f3.params.toList args.toList ds p := hA0
  have hA2 := hA
  rw [Try.params3] at hA hval hreach
  obtain ⟨v0, d0, rfl, rfl, h0⟩ := trodAll_one hA
  obtain ⟨rfl, rfl⟩ := trodVars_none hV
  simp only [List.append_nil] at hW
  obtain ⟨rows, hR⟩ := open_rows (okWide_slice Try.underlying22 (hval 0 22 v0 rfl rfl)) h0 (light_of hreach (j := 0) rfl rfl)
  refine (linearSpec_any v0 rows W hR).mono fun e W' ⟨he, hb⟩ => ⟨_, he, ?_⟩
  exact law_post rfl rfl (by kernel_rfl) hA2 hW hb rfl

set_option maxRecDepth 100000 in
theorem linearSpec_lifted (os : Os) (started : os.Started) (H : Type) (enc : TypeId × Value → H) :
    ReturnsInHanded {} Try.checked os 3 .any (Rows.linearSpecSpec.pre6 enc Try.prog Try.f3 Rows.linearSpecRow.domain false) (Rows.linearSpecSpec.post enc Try.prog Try.f3 false true false false) := by
  refine returnsInHanded_of_change_sized (C := Try.checked) ownKnobP started (by kernel_rfl) Try.func3
    (ChangeSpec.witness6 (enc := enc) (C := Try.checked) false ⟨#[], #[.slice none 0 0], []⟩ 8 (by kernel_rfl) (by kernel_rfl) (by kernel_rfl) (by kernel_rfl)) ?_
  intro W base args ds gs before hval hW _ hreach _
  exact linearSpec_contract H enc W base args ds gs before hval hW hreach

theorem linearSpec_holds : Rows.LinearSpecSaid :=
  OpenClaim.holds_of_wide 3 Try.f3 rfl rfl rfl rfl rfl rfl rfl ⟨rfl, rfl, rfl, rfl, rfl⟩ rfl rfl rfl rfl rfl (by kernel_rfl) Try.func3 (by kernel_rfl)
    (of_decide_eq_true (by kernel_rfl)) (by unfold Func.isWrapper; first | (rw [if_pos (by decide +kernel)]; kernel_rfl) | (rw [if_neg (by decide +kernel)]; exact ⟨rfl, rfl⟩))
    (fun os started H enc _ => linearSpec_lifted os started H enc)
#print axioms linearSpec_holds

end Go.Proofs.Ytjjdgphjkoppgaa
