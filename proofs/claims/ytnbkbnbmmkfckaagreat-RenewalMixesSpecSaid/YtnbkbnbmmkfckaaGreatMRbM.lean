/- The laws of rebuilding: few, right, masked. The laws of rebuilding: shares. -/
import Derived.Test.YtnbkbnbmmkfckaaGreatMRbK
import Derived.Test.YtnbkbnbmmkfckaaGreatMPmA
namespace Go.Proofs.YtnbkbnbmmkfckaaGreat
open Go.RowKit FP

end Go.Proofs.YtnbkbnbmmkfckaaGreat

namespace Go.Proofs.YtnbkbnbmmkfckaaGreat
open Go.RowKit FP

/-- The tail of a list in memory. -/
theorem Ints.tail {w : World} {b off c : Nat} {x : Int} {zs : List Int} (h : Ints w (.slice (some ⟨b, off, none⟩) (zs.length + 1) c) (x :: zs)) : Ints w (.slice (if c = 1 then some ⟨b, off, none⟩ else some ⟨b, off + 1, none⟩) zs.length (c - 1)) zs := by
  obtain ⟨a, cap, h1, h2, h3, h4, h5⟩ := h
  simp only [Value.slice.injEq] at h1
  obtain ⟨rfl, -, rfl⟩ := h1
  simp only [List.length_cons] at h2 h3
  by_cases e : c = 1
  · have hz : zs = [] := List.length_eq_zero_iff.1 (by omega)
    subst hz
    exact Ints.nil _ _ _
  · rw [if_neg e]
    refine ⟨_, _, rfl, by omega, by omega, fun z hz => h4 z (List.mem_cons_of_mem _ hz), fun k hk => ⟨b, off + 1, rfl, ?_⟩⟩
    obtain ⟨b2, o2, h6, h7⟩ := h5 (k + 1) (by simp; omega)
    simp only [Option.some.injEq, Addr.mk.injEq] at h6
    obtain ⟨rfl, rfl, -⟩ := h6
    rw [show off + 1 + k = off + (k + 1) by omega]
    simpa using h7

end Go.Proofs.YtnbkbnbmmkfckaaGreat
