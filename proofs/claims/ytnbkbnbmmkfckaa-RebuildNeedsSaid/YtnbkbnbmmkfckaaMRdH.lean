/- The reference of dealing: Deal, whatever comes of it. The reference of dealing: Recover, where it refuses; the append of a row in a drawn region. The reference of dealing: two rows of a call's own, side by side. -/
import Derived.Test.YtnbkbnbmmkfckaaMRdE
import Derived.Test.YtnbkbnbmmkfckaaMRegIn
namespace Go.Proofs.Ytnbkbnbmmkfckaa
open Go.RowKit FP

end Go.Proofs.Ytnbkbnbmmkfckaa

namespace Go.Proofs.Ytnbkbnbmmkfckaa
open Go.RowKit FP

end Go.Proofs.Ytnbkbnbmmkfckaa

namespace Go.Proofs.Ytnbkbnbmmkfckaa
open Go.RowKit FP

set_option maxRecDepth 100000 in
/-- One integer is appended; where the row lies then. -/
theorem app_int_lies {ops : Array Oper} {rest : List Oper} {o : Oper} {a : Act} {Q : Exit → Act → World → Prop} {W : World} (hgd : o.guard = none) (s x : Operand) (ho : o.op = .call { callee := .builtin .append, args := #[s, x], argTypes := #[23, 23] })
    (base n : Nat) (v : Value) (xs : List Value) (hs : a.eval s = v) (hown : W.ownsRow base 3 1 v n xs) (b c : Nat) (z : Int) (hx : a.eval x = .slice (some ⟨b, 0, none⟩) 1 c) (hcell : W.cell? ⟨b, 0, none⟩ = some (.int .i64 z)) (hn : n ≤ 1000000) (hbase : base ≤ W.heap.size)
    (h : ∀ g cap w', w'.ownsRow base 3 1 (.slice (some ⟨g, 0, none⟩) (n + 1) cap) (n + 1) (xs ++ [.int .i64 z]) → W.grownBy w' v.ownBlock → (v.ownBlock = some g ∨ g = W.heap.size) → wpList Try.prog ops Q rest (a.put o.dst (.slice (some ⟨g, 0, none⟩) (n + 1) cap)) w') : wpList Try.prog ops Q (o :: rest) a W := by
  obtain ⟨i0, hi0, hz0, hz1, hz2⟩ := info_parts infoInt
  refine wpList_append_lies _ hgd s x 23 ho base 3 i0 (.int .i64 0) 1 8 Try.underlying23 hi0 hz0 hz1 hz2 rfl (by decide) v n xs hs hown ⟨b, 0, none⟩ 1 c [.int .i64 z] hx rfl ?_ ?_ (by decide) ?_ ?_ hbase W.heap.size rfl ?_
  · intro j u hu
    cases j with
    | zero => simp at hu; subst hu; rw [add_off]; exact hcell
    | succ j => simp at hu
  · simp [Value.oneCell']
  · unfold maxLen; omega
  · omega
  · intro g cap w' h1 h2 h3 _
    exact h g cap w' h1 h2 h3

end Go.Proofs.Ytnbkbnbmmkfckaa
