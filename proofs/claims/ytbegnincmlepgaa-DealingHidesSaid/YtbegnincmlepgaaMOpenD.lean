/- A law's argument that is a program, a word or a list of words. -/
import Derived.Test.YtbegnincmlepgaaMOpen
import Derived.Test.YtbegnincmlepgaaMDeaV
import Derived.Lib.SmallJoins
namespace Go.Proofs.Ytbegnincmlepgaa
open Go.ChangeShapes Go.WideShapes Go.ChangeAt Go.RowKit Go.Deep Go.Joins

theorem wf_u32 {n : Int} (h : (Lit.int .u32 n).wf = true) : 0 ≤ n ∧ n < 4294967296 := by
  simp [Lit.wf, IntKind.min, IntKind.max, IntKind.signed, IntKind.bits] at h
  omega
theorem wf_u64 {n : Int} (h : (Lit.int .u64 n).wf = true) : 0 ≤ n ∧ n < 18446744073709551616 := by
  simp [Lit.wf, IntKind.min, IntKind.max, IntKind.signed, IntKind.bits] at h
  omega
set_option maxRecDepth 100000 in
theorem cellsWord : Try.prog.cellsOf 26 = 1 := by kernel_rfl
set_option maxRecDepth 100000 in
theorem bytesWord : Try.prog.bytesOf 26 = 4 := by kernel_rfl
set_option maxRecDepth 100000 in
theorem cellsProgram : Try.prog.cellsOf 25 = 2 := by kernel_rfl

section
variable {H : Type} {enc : TypeId × Value → H} {W : World} {base : Nat}

set_option maxRecDepth 100000 in
/-- A list of words as an argument. -/
theorem open_words {v : Value} {d : DataW H} {ps : List MemPlace} (hs : ∃ a n c, v = .slice a n c) (h : DataW.Trod enc Try.prog W 0 (fun _ => true) true 27 v d ps) (hl : Light 27 d) : ∃ zs, Words W v zs := by
  obtain ⟨a0, len, cap, rfl⟩ := hs
  obtain ⟨fuel, hf⟩ := h
  rcases open_ints Try.underlying27 Try.underlying26 cellsWord hf with ⟨hcs, -⟩ | ⟨a, len', cap', zs, hcs, -, hle, hm, hz, hx, hcell, hwf⟩
  · simp [Value.cells] at hcs
    obtain ⟨rfl, rfl, rfl⟩ := hcs
    exact ⟨[], Words.nil _ _ _⟩
  · simp [Value.cells] at hcs
    obtain ⟨rfl, rfl, rfl⟩ := hcs
    simp only [if_true] at hz
    simp only [Prod.mk.injEq] at hx
    have hlen : cap ≤ 35184372088832 := by
      have := hl ((zs.take len).length + (zs.drop len).length |>.mul 4) (by
        rw [hx.1]
        simp only [DataW.weights, Try.underlying27, bytesWord, lits, List.length_map]
        exact List.mem_cons_self ..)
      have h2 : ((zs.take len).length + (zs.drop len).length) * 4 ≤ reachBytes := this
      rw [reach_is] at h2
      simp at h2
      omega
    refine ⟨zs.take len, some a, cap, by simp [hz, hle], by simp; omega, by simp; omega, fun z hzz => wf_u32 (hwf z (List.mem_of_mem_take hzz)), fun k hk => ?_⟩
    simp at hk
    have hc := hcell k (by omega)
    obtain ⟨b, o, sp⟩ := a
    have hsp : sp = none := by
      have h0 := World.cell?_spot (hcell 0 (by omega))
      simpa [Addr.add] using h0
    subst hsp
    refine ⟨b, o, rfl, ?_⟩
    rw [← add_plain, hc]
    simp [List.getD, List.getElem?_eq_getElem (show k < zs.length by omega)]

set_option maxRecDepth 100000 in
/-- A program as an argument. -/
theorem open_program {v : Value} {d : DataW H} {ps : List MemPlace} (hv : Value.okWide Try.prog W .any base 25 v) (h : DataW.Trod enc Try.prog W 0 (fun _ => true) true 25 v d ps) (hl : Light 25 d) :
    ∃ rv ov rows owners, v = .agg #[rv, ov] ∧ Rows2 W rv rows ∧ Ints W ov owners := by
  obtain ⟨v0, v1, y0, y1, n, rfl, rfl, -, h0, h1⟩ := open_agg2 Try.underlying25 (by kernel_rfl) cellsProgram hv h
  obtain ⟨a0, l0, c0, e0⟩ := slice_form Try.underlying22 h0
  obtain ⟨a1, l1, c1, e1⟩ := slice_form Try.underlying23 h1
  simp only [List.cons.injEq, and_true] at e0 e1
  subst e0 e1
  have hw : ∀ m, m ∈ y0.1.weights Try.prog 22 ++ (y1.1.weights Try.prog 23 ++ []) → m ≤ reachBytes := fun m hm => hl m (by
    simp only [DataW.weights, Try.underlying25]
    exact hm)
  obtain ⟨rows, hr⟩ := open_rows ⟨_, _, _, rfl⟩ (v := .slice a0 l0 c0) (d := y0.1) (ps := y0.2) ⟨n, h0⟩ (fun m hm => hw m (List.mem_append_left _ hm))
  obtain ⟨owners, ho⟩ := open_list ⟨_, _, _, rfl⟩ (v := .slice a1 l1 c1) (d := y1.1) (ps := y1.2) ⟨n, h1⟩ (fun m hm => hw m (List.mem_append_right _ (List.mem_append_left _ hm)))
  exact ⟨_, _, rows, owners, rfl, hr, ho⟩
end

end Go.Proofs.Ytbegnincmlepgaa
