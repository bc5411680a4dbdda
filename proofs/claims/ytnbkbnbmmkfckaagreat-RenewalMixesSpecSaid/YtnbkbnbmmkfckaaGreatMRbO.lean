/- The laws of rebuilding: RebuildSpec, RebuildFinishSpec. The laws of rebuilding: RebuildWhole, in plain Lean; calls whose values are known. -/
import Derived.Test.YtnbkbnbmmkfckaaGreatMRbM
import Derived.Test.YtnbkbnbmmkfckaaGreatMSane
namespace Go.Proofs.YtnbkbnbmmkfckaaGreat
open Go.RowKit FP

end Go.Proofs.YtnbkbnbmmkfckaaGreat

namespace Go.Proofs.YtnbkbnbmmkfckaaGreat
open Go.RowKit FP

theorem own_shape {W : World} {base size n : Nat} {e : TypeId} {v : Value} {xs : List Value} (h : W.ownsRow base e size v n xs) : ∃ a c, v = .slice a n c := by
  rcases h.2 with ⟨rfl, rfl⟩ | ⟨g, cap, cur, rfl, -⟩
  · exact ⟨_, _, rfl⟩
  · exact ⟨_, _, rfl⟩
end Go.Proofs.YtnbkbnbmmkfckaaGreat
