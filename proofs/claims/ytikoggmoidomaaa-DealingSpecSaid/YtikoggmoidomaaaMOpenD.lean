/- A law's argument that is a program, a word or a list of words. A law's argument that is a share or a list of shares. A law's argument that is a list of shares. -/
import Derived.Test.YtikoggmoidomaaaMOpen
import Derived.Test.YtikoggmoidomaaaMDeaV
import Derived.Test.YtikoggmoidomaaaMDeaD
import Derived.Lib.SmallJoins
import Derived.ChangeSame
namespace Go.Proofs.Ytikoggmoidomaaa
open Go.ChangeShapes Go.WideShapes Go.ChangeAt Go.RowKit Go.Deep Go.Joins

theorem wf_u32 {n : Int} (h : (Lit.int .u32 n).wf = true) : 0 ≤ n ∧ n < 4294967296 := by
  simp [Lit.wf, IntKind.min, IntKind.max, IntKind.signed, IntKind.bits] at h
  omega
set_option maxRecDepth 100000 in
theorem cellsWord : Try.prog.cellsOf 44 = 1 := by kernel_rfl
set_option maxRecDepth 100000 in
theorem bytesWord : Try.prog.bytesOf 44 = 4 := by kernel_rfl
set_option maxRecDepth 100000 in
theorem cellsProgram : Try.prog.cellsOf 25 = 2 := by kernel_rfl

section
variable {H : Type} {enc : TypeId × Value → H} {W : World} {base : Nat}

set_option maxRecDepth 100000 in
/-- A list of words as an argument. -/
theorem open_words {v : Value} {d : DataW H} {ps : List MemPlace} (hs : ∃ a n c, v = .slice a n c) (h : DataW.Trod enc Try.prog W 0 (fun _ => true) true 45 v d ps) (hl : Light 45 d) : ∃ zs, Words W v zs := by
  obtain ⟨a0, len, cap, rfl⟩ := hs
  obtain ⟨fuel, hf⟩ := h
  rcases open_ints Try.underlying45 Try.underlying44 cellsWord hf with ⟨hcs, -⟩ | ⟨a, len', cap', zs, hcs, -, hle, hm, hz, hx, hcell, hwf⟩
  · simp [Value.cells] at hcs
    obtain ⟨rfl, rfl, rfl⟩ := hcs
    exact ⟨[], Words.nil _ _ _⟩
  · simp [Value.cells] at hcs
    obtain ⟨rfl, rfl, rfl⟩ := hcs
    simp only [if_true] at hz
    simp only [Prod.mk.injEq] at hx
    have hlen : cap ≤ 35184372088832 := by
      have := hl ((zs.take len).length + (zs.drop len).length |>.mul 4) (by
        rw [hx.1]
        simp only [DataW.weights, Try.underlying45, bytesWord, lits, List.length_map]
        exact List.mem_cons_self ..)
      have h2 : ((zs.take len).length + (zs.drop len).length) * 4 ≤ reachBytes := this
      rw [reach_is] at h2
      simp at h2
      omega
    refine ⟨zs.take len, some a, cap, by simp [hz, hle], by simp; omega, by simp; omega, fun z hzz => wf_u32 (hwf z (List.mem_of_mem_take hzz)), fun k hk => ?_⟩
    simp at hk
    have hc := hcell k (by omega)
    obtain ⟨b, o, sp⟩ := a
    have hsp : sp = none := by
      have h0 := World.cell?_spot (hcell 0 (by omega))
      simpa [Addr.add] using h0
    subst hsp
    refine ⟨b, o, rfl, ?_⟩
    rw [← add_plain, hc]
    simp [List.getD, List.getElem?_eq_getElem (show k < zs.length by omega)]

set_option maxRecDepth 100000 in
/-- A program as an argument. -/
theorem open_program {v : Value} {d : DataW H} {ps : List MemPlace} (hv : Value.okWide Try.prog W .any base 25 v) (h : DataW.Trod enc Try.prog W 0 (fun _ => true) true 25 v d ps) (hl : Light 25 d) :
    ∃ rv ov rows owners, v = .agg #[rv, ov] ∧ Rows2 W rv rows ∧ Ints W ov owners := by
  obtain ⟨v0, v1, y0, y1, n, rfl, rfl, -, h0, h1⟩ := open_agg2 Try.underlying25 (by kernel_rfl) cellsProgram hv h
  obtain ⟨a0, l0, c0, e0⟩ := slice_form Try.underlying22 h0
  obtain ⟨a1, l1, c1, e1⟩ := slice_form Try.underlying23 h1
  simp only [List.cons.injEq, and_true] at e0 e1
  subst e0 e1
  have hw : ∀ m, m ∈ y0.1.weights Try.prog 22 ++ (y1.1.weights Try.prog 23 ++ []) → m ≤ reachBytes := fun m hm => hl m (by
    simp only [DataW.weights, Try.underlying25]
    exact hm)
  obtain ⟨rows, hr⟩ := open_rows ⟨_, _, _, rfl⟩ (v := .slice a0 l0 c0) (d := y0.1) (ps := y0.2) ⟨n, h0⟩ (fun m hm => hw m (List.mem_append_left _ hm))
  obtain ⟨owners, ho⟩ := open_list ⟨_, _, _, rfl⟩ (v := .slice a1 l1 c1) (d := y1.1) (ps := y1.2) ⟨n, h1⟩ (fun m hm => hw m (List.mem_append_right _ (List.mem_append_left _ hm)))
  exact ⟨_, _, rows, owners, rfl, hr, ho⟩
end

end Go.Proofs.Ytikoggmoidomaaa

namespace Go.Proofs.Ytikoggmoidomaaa
open Go.ChangeShapes Go.WideShapes Go.ChangeAt Go.RowKit Go.Deep Go.Joins

set_option maxRecDepth 100000 in
theorem cellsShare : Try.prog.cellsOf 38 = 2 := by kernel_rfl
set_option maxRecDepth 100000 in
theorem bytesShare : Try.prog.bytesOf 38 = 16 := by kernel_rfl

section
variable {H : Type} {enc : TypeId × Value → H} {W : World} {base : Nat}
set_option maxRecDepth 100000 in
/-- A share as an argument. -/
theorem open_share {v : Value} {d : DataW H} {ps : List MemPlace} (hv : Value.okWide Try.prog W .any base 38 v) (h : DataW.Trod enc Try.prog W 0 (fun _ => true) true 38 v d ps) : ∃ x y : Int, v = .agg #[.int .i64 x, .int .i64 y] ∧ R64 x ∧ R64 y := by
  obtain ⟨v0, v1, y0, y1, n, rfl, -, -, h0, h1⟩ := open_agg2 Try.underlying38 (by kernel_rfl) cellsShare hv h
  obtain ⟨E, e0, -, w0⟩ := DataW.trod_int Try.underlying3 h0
  obtain ⟨S, e1, -, w1⟩ := DataW.trod_int Try.underlying3 h1
  simp at e0 e1
  subst e0 e1
  exact ⟨E, S, rfl, wf_r64 w0, wf_r64 w1⟩
end

end Go.Proofs.Ytikoggmoidomaaa

namespace Go.Proofs.Ytikoggmoidomaaa
open Go.ChangeShapes Go.WideShapes Go.ChangeAt Go.RowKit Go.Deep Go.Joins

section
variable {H : Type} {enc : TypeId × Value → H} {W : World}
set_option maxRecDepth 100000 in
theorem share_cells {fuel : Nat} {cs : List Value} {y : DataW H × List MemPlace} (h : DataW.trod enc Try.prog W 0 (fun _ => true) true fuel 38 cs = some y) : ∃ x z : Int, cs = [.int .i64 x, .int .i64 z] ∧ R64 x ∧ R64 z := by
  obtain ⟨y0, y1, n, -, hl, h0, h1⟩ := trod_struct2 Try.underlying38 h
  rw [cellsShare] at hl
  match cs, hl with
  | [c0, c1], _ =>
    have h0' : DataW.trod enc Try.prog W 0 (fun _ => true) true n 3 [c0] = some y0 := by simpa [cellsInt] using h0
    have h1' : DataW.trod enc Try.prog W 0 (fun _ => true) true n 3 [c1] = some y1 := by simpa [cellsInt] using h1
    obtain ⟨E, e0, -, w0⟩ := DataW.trod_int Try.underlying3 h0'
    obtain ⟨S, e1, -, w1⟩ := DataW.trod_int Try.underlying3 h1'
    simp at e0 e1
    subst e0 e1
    exact ⟨E, S, rfl, wf_r64 w0, wf_r64 w1⟩

set_option maxRecDepth 100000 in
theorem open_shares {v : Value} {d : DataW H} {ps : List MemPlace} (hs : ∃ a n c, v = .slice a n c) (h : DataW.Trod enc Try.prog W 0 (fun _ => true) true 26 v d ps) (hl : Light 26 d) : ∃ l, Shares W v l := by
  obtain ⟨a0, len0, cap0, rfl⟩ := hs
  obtain ⟨fuel, hf⟩ := h
  rcases DataW.trod_slice Try.underlying26 hf with ⟨hcs, -⟩ | ⟨a, len, cap, elems, rest, n, -, hcs, hx, -, hle, hm, hlen, hel, hsp, -⟩
  · simp [Value.cells] at hcs
    obtain ⟨rfl, rfl, rfl⟩ := hcs
    exact ⟨[], Shares.nil _ _ _⟩
  · simp [Value.cells] at hcs
    obtain ⟨rfl, rfl, rfl⟩ := hcs
    simp only [Prod.mk.injEq] at hx
    obtain ⟨hrl, -⟩ := hsp rfl
    have hcap : len0 * 16 ≤ reachBytes := by
      have := hl ((elems.length + rest.length) * 16) (by
        rw [hx.1]
        simp only [DataW.weights, Try.underlying26, bytesShare, List.length_map]
        exact List.mem_cons_self ..)
      rw [hlen] at this
      exact Nat.le_trans (Nat.mul_le_mul_right _ (Nat.le_add_right _ _)) this
    rw [reach_is] at hcap
    have hrow : ∀ i, i < len0 → ∃ p : Int × Int, (R64 p.1 ∧ R64 p.2) ∧ W.cell? (a.add (i * 2)) = some (.int .i64 p.1) ∧ W.cell? (a.add (i * 2 + 1)) = some (.int .i64 p.2) := fun i hi => by
      have h1 := hel i hi
      rw [cellsShare, List.getElem?_eq_getElem (by omega)] at h1
      obtain ⟨cs, hc, ht⟩ := Option.bind_eq_some_iff.1 h1
      obtain ⟨x, z, rfl, hx, hz⟩ := share_cells ht
      obtain ⟨-, -, hcell⟩ := World.cells?_some hc
      refine ⟨(x, z), ⟨hx, hz⟩, ?_, ?_⟩
      · have := hcell 0 (by omega); simpa [Addr.add] using this
      · have := hcell 1 (by omega)
        have e : (a.add (i * 2)).add 1 = a.add (i * 2 + 1) := by
          unfold Addr.add
          by_cases h : i * 2 = 0 <;> simp [h, Nat.add_assoc]
        rw [e] at this
        simpa using this
    obtain ⟨f, hf2⟩ : ∃ f : Nat → Int × Int, ∀ i, i < len0 → (R64 (f i).1 ∧ R64 (f i).2) ∧ W.cell? (a.add (i * 2)) = some (.int .i64 (f i).1) ∧ W.cell? (a.add (i * 2 + 1)) = some (.int .i64 (f i).2) :=
      ⟨fun i => if hi : i < len0 then (hrow i hi).choose else (0, 0), fun i hi => by simp only [dif_pos hi]; exact (hrow i hi).choose_spec⟩
    refine ⟨(List.range len0).map f, some a, cap0, by simp, by simp [hle], by simp; omega, ?_, fun k hk => ?_⟩
    · intro p hp
      obtain ⟨i, hi, rfl⟩ := List.mem_map.1 hp
      exact (hf2 i (List.mem_range.1 hi)).1
    · simp at hk
      obtain ⟨b, o, sp⟩ := a
      have hsp2 : sp = none := by
        have h0 := World.cell?_spot (hf2 0 (by omega)).2.1
        simpa [Addr.add] using h0
      subst hsp2
      obtain ⟨-, h1, h2⟩ := hf2 k hk
      refine ⟨b, o, rfl, ?_, ?_⟩
      · rw [← add_plain]; simpa using h1
      · rw [Nat.add_assoc, ← add_plain]; simpa using h2
end

end Go.Proofs.Ytikoggmoidomaaa
