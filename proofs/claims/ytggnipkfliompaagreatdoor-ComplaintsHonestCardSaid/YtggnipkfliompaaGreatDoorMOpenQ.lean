/- A law's argument that is a complaint. -/
import Derived.Test.YtggnipkfliompaaGreatDoorMRegH
import Derived.Test.YtggnipkfliompaaGreatDoorMCoG
import Derived.ChangeSame
import Derived.ChangeArms
namespace Go.Proofs.YtggnipkfliompaaGreatDoor
open Go.ChangeShapes Go.WideShapes Go.ChangeAt Go.RowKit Go.Deep Go.Joins

set_option maxRecDepth 100000 in
theorem cellsEqual : Tryz.prog.cellsOf 32 = 2 := by kernel_rfl
set_option maxRecDepth 100000 in
theorem cellsComplaint : Tryz.prog.cellsOf 34 = 5 := by kernel_rfl

section
variable {H : Type} {enc : TypeId × Value → H} {W : World} {base : Nat}
set_option maxRecDepth 100000 in
theorem complaint_parts {n : Nat} {cs : List Value} {y : DataW H × List MemPlace} (h : DataW.trod enc Tryz.prog W 0 (fun _ => true) true n 34 cs = some y) :
    ∃ m c0 c1 c2 c3 c4 y0 y1 y2 y3, cs = [c0, c1, c2, c3, c4] ∧
      DataW.trod enc Tryz.prog W 0 (fun _ => true) true m 3 [c0] = some y0 ∧ DataW.trod enc Tryz.prog W 0 (fun _ => true) true m 3 [c1] = some y1 ∧ DataW.trod enc Tryz.prog W 0 (fun _ => true) true m 3 [c2] = some y2 ∧ DataW.trod enc Tryz.prog W 0 (fun _ => true) true m 32 [c3, c4] = some y3 := by
  obtain ⟨xs, m, -, rfl, hl, hlen, hf⟩ := DataW.trod_struct Tryz.underlying34 h
  rw [cellsComplaint] at hl
  match xs, hlen with
  | [y0, y1, y2, y3], _ =>
    match cs, hl with
    | [c0, c1, c2, c3, c4], _ =>
      have h0 := hf 0 _ rfl
      have h1 := hf 1 _ rfl
      have h2 := hf 2 _ rfl
      have h3 := hf 3 _ rfl
      exact ⟨m, c0, c1, c2, c3, c4, y0, y1, y2, y3, rfl, by simpa [cellsInt] using h0, by simpa [cellsInt] using h1, by simpa [cellsInt] using h2, by simpa [cellsInt, cellsEqual] using h3⟩
set_option maxRecDepth 100000 in
theorem equal_cells {n : Nat} {c1 c2 : Value} {y : DataW H × List MemPlace} (h : DataW.trod enc Tryz.prog W 0 (fun _ => true) true n 32 [c1, c2] = some y) : ∃ E S : Int, c1 = .int .i64 E ∧ c2 = .int .i64 S ∧ R64 E ∧ R64 S := by
  obtain ⟨xs, m, -, rfl, -, hlen, hf⟩ := DataW.trod_struct Tryz.underlying32 h
  match xs, hlen with
  | [y0, y1], _ =>
    have h0 := hf 0 _ rfl
    have h1 := hf 1 _ rfl
    have h0' : DataW.trod enc Tryz.prog W 0 (fun _ => true) true m 3 [c1] = some y0 := by simpa [cellsInt] using h0
    have h1' : DataW.trod enc Tryz.prog W 0 (fun _ => true) true m 3 [c2] = some y1 := by simpa [cellsInt] using h1
    obtain ⟨E, e0, -, w0⟩ := DataW.trod_int Tryz.underlying3 h0'
    obtain ⟨S, e1, -, w1⟩ := DataW.trod_int Tryz.underlying3 h1'
    simp only [List.cons.injEq, and_true] at e0 e1
    exact ⟨E, S, e0, e1, wf_r64 w0, wf_r64 w1⟩
set_option maxRecDepth 100000 in
theorem open_complaint {v : Value} {d : DataW H} {ps : List MemPlace} (hv : Value.okWide Tryz.prog W .any base 34 v) (h : DataW.Trod enc Tryz.prog W 0 (fun _ => true) true 34 v d ps) :
    ∃ c : Cmp, v = cmpV c ∧ CmpR c := by
  obtain ⟨cs, rfl, hsz⟩ := okWide_struct Tryz.underlying34 hv
  obtain ⟨fuel, hf⟩ := h
  obtain ⟨m, c0, c1, c2, c3, c4, y0, y1, y2, y3, e, h0, h1, h2, h3⟩ := complaint_parts hf
  have e2 : cs = #[c0, c1, c2, c3, c4] := by
    apply Array.ext'
    simpa [Value.cells] using e
  obtain ⟨x0, e0, -, w0⟩ := DataW.trod_int Tryz.underlying3 h0
  obtain ⟨x1, e1, -, w1⟩ := DataW.trod_int Tryz.underlying3 h1
  obtain ⟨x2, e3, -, w2⟩ := DataW.trod_int Tryz.underlying3 h2
  obtain ⟨E, S, rfl, rfl, r0, r1⟩ := equal_cells h3
  simp only [List.cons.injEq, and_true] at e0 e1 e3
  subst e0 e1 e3
  exact ⟨⟨x0, x1, x2, E, S⟩, by rw [e2]; rfl, ⟨wf_r64 w0, wf_r64 w1, wf_r64 w2, r0, r1⟩⟩
end

end Go.Proofs.YtggnipkfliompaaGreatDoor
