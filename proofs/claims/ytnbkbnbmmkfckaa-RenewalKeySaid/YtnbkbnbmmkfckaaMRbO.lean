/- The laws of rebuilding: RebuildSpec, RebuildFinishSpec. The laws of rebuilding: RebuildWhole, in plain Lean; calls whose values are known. -/
import Derived.Test.YtnbkbnbmmkfckaaMRbM
import Derived.Test.YtnbkbnbmmkfckaaMSane
namespace Go.Proofs.Ytnbkbnbmmkfckaa
open Go.RowKit FP

end Go.Proofs.Ytnbkbnbmmkfckaa

namespace Go.Proofs.Ytnbkbnbmmkfckaa
open Go.RowKit FP

theorem own_shape {W : World} {base size n : Nat} {e : TypeId} {v : Value} {xs : List Value} (h : W.ownsRow base e size v n xs) : ∃ a c, v = .slice a n c := by
  rcases h.2 with ⟨rfl, rfl⟩ | ⟨g, cap, cur, rfl, -⟩
  · exact ⟨_, _, rfl⟩
  · exact ⟨_, _, rfl⟩
end Go.Proofs.Ytnbkbnbmmkfckaa
