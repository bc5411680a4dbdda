/- A law's argument that is a program, a word or a list of words. The law of dealing: DealingFits. -/
import Derived.Test.YtikoggmoidomaaaMOpen
import Derived.Test.YtikoggmoidomaaaMDeaV
import Derived.Test.YtikoggmoidomaaaMDeaY
import Derived.Test.YtikoggmoidomaaaMSane
import Derived.Lib.SmallJoins
namespace Go.Proofs.Ytikoggmoidomaaa
open Go.ChangeShapes Go.WideShapes Go.ChangeAt Go.RowKit Go.Deep Go.Joins

theorem wf_u32 {n : Int} (h : (Lit.int .u32 n).wf = true) : 0 ≤ n ∧ n < 4294967296 := by
  simp [Lit.wf, IntKind.min, IntKind.max, IntKind.signed, IntKind.bits] at h
  omega
set_option maxRecDepth 100000 in
theorem cellsWord : Try.prog.cellsOf 44 = 1 := by kernel_rfl
set_option maxRecDepth 100000 in
theorem bytesWord : Try.prog.bytesOf 44 = 4 := by kernel_rfl
set_option maxRecDepth 100000 in
theorem cellsProgram : Try.prog.cellsOf 25 = 2 := by kernel_rfl

section
variable {H : Type} {enc : TypeId × Value → H} {W : World} {base : Nat}

set_option maxRecDepth 100000 in
/-- A list of words as an argument. -/
theorem open_words {v : Value} {d : DataW H} {ps : List MemPlace} (hs : ∃ a n c, v = .slice a n c) (h : DataW.Trod enc Try.prog W 0 (fun _ => true) true 45 v d ps) (hl : Light 45 d) : ∃ zs, Words W v zs := by
  obtain ⟨a0, len, cap, rfl⟩ := hs
  obtain ⟨fuel, hf⟩ := h
  rcases open_ints Try.underlying45 Try.underlying44 cellsWord hf with ⟨hcs, -⟩ | ⟨a, len', cap', zs, hcs, -, hle, hm, hz, hx, hcell, hwf⟩
  · simp [Value.cells] at hcs
    obtain ⟨rfl, rfl, rfl⟩ := hcs
    exact ⟨[], Words.nil _ _ _⟩
  · simp [Value.cells] at hcs
    obtain ⟨rfl, rfl, rfl⟩ := hcs
    simp only [if_true] at hz
    simp only [Prod.mk.injEq] at hx
    have hlen : cap ≤ 35184372088832 := by
      have := hl ((zs.take len).length + (zs.drop len).length |>.mul 4) (by
        rw [hx.1]
        simp only [DataW.weights, Try.underlying45, bytesWord, lits, List.length_map]
        exact List.mem_cons_self ..)
      have h2 : ((zs.take len).length + (zs.drop len).length) * 4 ≤ reachBytes := this
      rw [reach_is] at h2
      simp at h2
      omega
    refine ⟨zs.take len, some a, cap, by simp [hz, hle], by simp; omega, by simp; omega, fun z hzz => wf_u32 (hwf z (List.mem_of_mem_take hzz)), fun k hk => ?_⟩
    simp at hk
    have hc := hcell k (by omega)
    obtain ⟨b, o, sp⟩ := a
    have hsp : sp = none := by
      have h0 := World.cell?_spot (hcell 0 (by omega))
      simpa [Addr.add] using h0
    subst hsp
    refine ⟨b, o, rfl, ?_⟩
    rw [← add_plain, hc]
    simp [List.getD, List.getElem?_eq_getElem (show k < zs.length by omega)]

set_option maxRecDepth 100000 in
/-- A program as an argument. -/
theorem open_program {v : Value} {d : DataW H} {ps : List MemPlace} (hv : Value.okWide Try.prog W .any base 25 v) (h : DataW.Trod enc Try.prog W 0 (fun _ => true) true 25 v d ps) (hl : Light 25 d) :
    ∃ rv ov rows owners, v = .agg #[rv, ov] ∧ Rows2 W rv rows ∧ Ints W ov owners := by
  obtain ⟨v0, v1, y0, y1, n, rfl, rfl, -, h0, h1⟩ := open_agg2 Try.underlying25 (by kernel_rfl) cellsProgram hv h
  obtain ⟨a0, l0, c0, e0⟩ := slice_form Try.underlying22 h0
  obtain ⟨a1, l1, c1, e1⟩ := slice_form Try.underlying23 h1
  simp only [List.cons.injEq, and_true] at e0 e1
  subst e0 e1
  have hw : ∀ m, m ∈ y0.1.weights Try.prog 22 ++ (y1.1.weights Try.prog 23 ++ []) → m ≤ reachBytes := fun m hm => hl m (by
    simp only [DataW.weights, Try.underlying25]
    exact hm)
  obtain ⟨rows, hr⟩ := open_rows ⟨_, _, _, rfl⟩ (v := .slice a0 l0 c0) (d := y0.1) (ps := y0.2) ⟨n, h0⟩ (fun m hm => hw m (List.mem_append_left _ hm))
  obtain ⟨owners, ho⟩ := open_list ⟨_, _, _, rfl⟩ (v := .slice a1 l1 c1) (d := y1.1) (ps := y1.2) ⟨n, h1⟩ (fun m hm => hw m (List.mem_append_right _ (List.mem_append_left _ hm)))
  exact ⟨_, _, rows, owners, rfl, hr, ho⟩
end

end Go.Proofs.Ytikoggmoidomaaa

namespace Go.Proofs.Ytikoggmoidomaaa
open Go.ChangeShapes Go.WideShapes Go.ChangeAt Go.RowKit Go.Deep

set_option maxRecDepth 100000 in
/-- What the row asks, from what the call leaves. -/
theorem dealingFits_contract (H : Type) (enc : TypeId × Value → H) (W : World) (base : Nat) (args : Array Value) (ds gs : List (DataW H)) (before : List MemPlace)
    (hval : ∀ (j : Nat) t v, Try.f5.params[j]? = some t → args[j]? = some v → Value.okWide Try.prog W .any base t v)
    (hW : DataW.Whole enc Try.prog Try.f5.params.toList Rows.dealingFitsSpec.vars false W args.toList ds gs before)
    (hreach : (DataW.weightsEach Try.prog (Try.f5.params.toList ++ Rows.dealingFitsSpec.plain.varTypes Try.prog) (ds ++ gs)).all (· ≤ reachBytes) = true) :
    Calls Try.prog 5 args W fun e W' => ∃ v, e = .returned v ∧ Rows.dealingFitsSpec.post enc Try.prog Try.f5 false true false false W args v W' := by
  obtain ⟨p, q, hA0, hV, rfl, hfz, hnd⟩ := id hW
  have hA : DataW.TrodAll enc Try.prog W 0 (fun _ => true) true Try.f5.params.toList args.toList ds p := hA0
  have hA2 := hA
  rw [Try.params5] at hA hval hreach
  obtain ⟨v0, vs0, d0, ds0, p0, q0, hargs, rfl, rfl, h0, r0⟩ := trodAll_cons hA
  obtain ⟨v1, vs1, d1, ds1, p1, q1, rfl, rfl, rfl, h1, r1⟩ := trodAll_cons r0
  obtain ⟨v2, vs2, d2, ds2, p2, q2, rfl, rfl, rfl, h2, r2⟩ := trodAll_cons r1
  obtain ⟨v3, vs3, d3, ds3, p3, q3, rfl, rfl, rfl, h3, r3⟩ := trodAll_cons r2
  obtain ⟨rfl, rfl, rfl⟩ := trodAll_nil r3
  obtain rfl : args = #[v0, v1, v2, v3] := by cases args; simp_all
  obtain ⟨rfl, rfl⟩ := trodVars_none hV
  simp only [List.append_nil] at hW hA2
  obtain ⟨r0', o0', x0, y0, rfl, kr0, ko0⟩ := open_program (hval 0 25 v0 rfl rfl) h0 (light_of hreach (j := 0) rfl rfl)
  obtain ⟨x1, rfl, rfl, -, k1⟩ := open_int Try.underlying44 (hval 1 44 v1 rfl rfl) h1
  obtain ⟨x2, k2⟩ := open_words (okWide_slice Try.underlying45 (hval 2 45 v2 rfl rfl)) h2 (light_of hreach (j := 2) rfl rfl)
  obtain ⟨x3, rfl, rfl, -, k3⟩ := open_int Try.underlying44 (hval 3 44 v3 rfl rfl) h3
  refine (dealingFits_any r0' o0' v2 x0 y0 x1 x2 x3 W kr0 ko0 (wf_u32 k1) k2 (wf_u32 k3)).mono fun e W' ⟨he, hb⟩ => ⟨_, he, ?_⟩
  exact law_post rfl rfl (by kernel_rfl) hA2 hW hb rfl

set_option maxRecDepth 100000 in
theorem dealingFits_lifted (os : Os) (started : os.Started) (H : Type) (enc : TypeId × Value → H) :
    ReturnsInHanded {} Try.checked os 5 .any (Rows.dealingFitsSpec.pre6 enc Try.prog Try.f5 Rows.dealingFitsRow.domain false) (Rows.dealingFitsSpec.post enc Try.prog Try.f5 false true false false) := by
  refine returnsInHanded_of_change_sized (C := Try.checked) ownKnobP started (by kernel_rfl) Try.func5
    (ChangeSpec.witness6 (enc := enc) (C := Try.checked) false ⟨#[], #[.agg #[.slice none 0 0, .slice none 0 0], .int .u32 0, .slice none 0 0, .int .u32 0], []⟩ 8 (by kernel_rfl) (by kernel_rfl) (by kernel_rfl) (by kernel_rfl)) ?_
  intro W base args ds gs before hval hW _ hreach _
  exact dealingFits_contract H enc W base args ds gs before hval hW hreach

set_option maxRecDepth 100000 in
theorem dealingFits_holds : Rows.DealingFitsSaid :=
  OpenClaim.holds_of_wide 5 Try.f5 rfl rfl rfl rfl rfl rfl rfl ⟨rfl, rfl, rfl, rfl, rfl⟩ rfl rfl rfl rfl rfl (by kernel_rfl) Try.func5 (by kernel_rfl)
    (of_decide_eq_true (by kernel_rfl)) (by unfold Func.isWrapper; first | (rw [if_pos (by decide +kernel)]; kernel_rfl) | (rw [if_neg (by decide +kernel)]; exact ⟨rfl, rfl⟩))
    (fun os started H enc _ => dealingFits_lifted os started H enc)
#print axioms dealingFits_holds

end Go.Proofs.Ytikoggmoidomaaa
