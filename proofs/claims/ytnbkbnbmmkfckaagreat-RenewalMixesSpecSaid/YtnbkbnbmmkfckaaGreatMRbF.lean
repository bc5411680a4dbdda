/- Package rebuild and its reference: Part. Package rebuild and its reference: Finish. The reference of rebuilding a share: Rows, Some. -/
import Derived.Test.YtnbkbnbmmkfckaaGreatMRbC
import Derived.Test.YtnbkbnbmmkfckaaGreatMDeaN
import Derived.Test.YtnbkbnbmmkfckaaGreatMDeaS
import Derived.Test.YtnbkbnbmmkfckaaGreatMRdA
import Derived.Test.YtnbkbnbmmkfckaaGreatMRdH
import Derived.Laws.ResultCell
namespace Go.Proofs.YtnbkbnbmmkfckaaGreat
open Go.RowKit FP

end Go.Proofs.YtnbkbnbmmkfckaaGreat

namespace Go.Proofs.YtnbkbnbmmkfckaaGreat
open Go.RowKit FP

theorem results_cell_tmp2 {fn : Func} {p u v : Tmp} {ty : TypeId} (h : fn.results = #[.cell p ty, .tmp u, .tmp v]) (tmps : Array Value) (P : Program) (w : World) :
    (results fn tmps).run P w = ((asAddr (tmps.getD p undef)).run P w).andThen fun a w₁ => ((loadVar ty a).run P w₁).andThen fun x w₂ => .ok (.tuple #[x, tmps.getD u undef, tmps.getD v undef]) w₂ := by
  simp only [results, h]
  simp [Sem.run_bind, Result.andThen]
/-- A key in a box. -/
theorem box_key (w : World) (e rv ov cv : Value) (t : TypeId) : ∃ W, W = w.alloc (.cells #[e, rv, ov, cv] t) ∧ Below w.heap.size w W ∧ W.heap[w.heap.size]? = some (.cells #[e, rv, ov, cv] t (0, 0)) ∧ W.heap.size = w.heap.size + 1 :=
  ⟨_, rfl, below_new _ _ _, World.alloc_heap_new _ _, by simp⟩
end Go.Proofs.YtnbkbnbmmkfckaaGreat

namespace Go.Proofs.YtnbkbnbmmkfckaaGreat
open Go.RowKit FP

end Go.Proofs.YtnbkbnbmmkfckaaGreat
