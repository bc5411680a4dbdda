/- A law's argument that is a parcel. -/
import Derived.Test.YtjnnnciifjajmaaDoorOpenI
namespace Go.Proofs.YtjnnnciifjajmaaDoor
open Go.ChangeShapes Go.WideShapes Go.ChangeAt Go.RowKit Go.Deep Go.Joins

section
variable {H : Type} {enc : TypeId × Value → H} {W : World} {base : Nat}
set_option maxRecDepth 100000 in
theorem cells_parcel : Tryd.prog.cellsOf 31 = 3 := by kernel_rfl
set_option maxRecDepth 100000 in
/-- A parcel as an argument. -/
theorem open_parcel {v : Value} {d : DataW H} {ps : List MemPlace} (hv : Value.okWide Tryd.prog W .any base 31 v) (h : DataW.Trod enc Tryd.prog W 0 (fun _ => true) true 31 v d ps) : ∃ a b c : Int, v = .agg #[.int .i64 a, .int .i64 b, .int .i64 c] ∧ R64 a ∧ R64 b ∧ R64 c := by
  obtain ⟨v0, v1, v2, y0, y1, y2, n, rfl, -, -, h0, h1, h2⟩ := open_agg3 Tryd.underlying31 (by kernel_rfl) cells_parcel hv h
  obtain ⟨a, e0, -, w0⟩ := DataW.trod_int Tryd.underlying3 h0
  obtain ⟨b, e1, -, w1⟩ := DataW.trod_int Tryd.underlying3 h1
  obtain ⟨c, e2, -, w2⟩ := DataW.trod_int Tryd.underlying3 h2
  simp at e0 e1 e2
  subst e0 e1 e2
  exact ⟨a, b, c, rfl, wf_r64 w0, wf_r64 w1, wf_r64 w2⟩
end

end Go.Proofs.YtjnnnciifjajmaaDoor
