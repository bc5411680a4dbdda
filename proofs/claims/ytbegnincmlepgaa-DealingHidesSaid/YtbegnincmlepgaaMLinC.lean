/- Package linear: the iterator over a row, from a column on. -/
import Derived.Test.YtbegnincmlepgaaMRange
import Derived.Test.YtbegnincmlepgaaMBase
import Derived.Shelf.Abstract
import Derived.OwnWalkIn
import Derived.TacticsInMore
import Derived.LoopNIn
import Derived.LoopIn
namespace Go.Proofs.Ytbegnincmlepgaa
open Go.RowKit

attribute [local go_sem] Oper.semAt_some

/-- What the iterator reads: its two variables, and the element that comes next. -/
structure Reads (cb rb : Nat) (c n : Nat) (ra : Option Addr) (rc : Nat) (x : Nat → Int) (j : Nat) (W : World) : Prop where
  col : W.cell? ⟨cb, 0, none⟩ = some (.int .i64 c)
  row : W.cell? ⟨rb, 0, none⟩ = some (.slice ra n rc)
  elem : c + j < n → ∃ b, ra = some ⟨b, 0, none⟩ ∧ W.cell? ⟨b, c + j, none⟩ = some (.int .i64 (x (c + j)))

set_option maxRecDepth 100000 in
set_option maxHeartbeats 1000000 in
theorem after1_iterates (cb rb c n : Nat) (ra : Option Addr) (rc : Nat) (x : Nat → Int) (hc : c ≤ n) (hn : n ≤ 17592186044416) (I : Nat → World → Prop) (hI : ∀ j W, I j W → Reads cb rb c n ra rc x j W) :
    Iterates Try.prog 139 #[.pointer (some ⟨cb, 0, none⟩), .pointer (some ⟨rb, 0, none⟩)] (n - c) (fun j => #[.int .i64 ((c : Int) + (j : Int)), .int .i64 (x (c + j))]) I := by
  intro l J Jx W hJ hY h0
  refine callsIn_of_wp Try.func139 rfl trivial ?_ rfl
  simp only [Try.ntmps139, List.size_toArray, List.length_cons, List.length_nil, Nat.reduceAdd, Nat.reduceSub, Array.replicate_succ, Array.replicate_zero, List.push_toArray, List.append_toArray, List.nil_append, List.cons_append]
  have hR0 := hJ 0 W h0
  obtain ⟨hr1, hr2, -⟩ := hI 0 W hR0
  gi_wp2
  gi_loopw [4] (fun i wr => ∃ j : Nat, j ≤ n - c ∧ i = .int .i64 ((c + j : Nat) : Int) ∧ J j wr) (fun i _ => n - (intOf i).toNat)
  case atStart => exact ⟨0, Nat.zero_le _, rfl, h0⟩
  case round =>
    obtain ⟨j, hj, rfl, hJj⟩ := hrel
    obtain ⟨hc1, hc2, hel⟩ := hI j wr (hJ j wr hJj)
    by_cases hlt : c + j < n
    · obtain ⟨b, rfl, hx⟩ := hel hlt
      obtain ⟨fn, tmps, assign, body, hy, hR⟩ := hY j wr hJj (by omega)
      gi_wp2
      refine ⟨rfl, hR.mono ?_⟩
      rintro e W3 (⟨rfl, hJ3⟩ | ⟨rfl, hJx3⟩)
      · gi_wp2
        go_roundw
        case rel => exact ⟨j + 1, by omega, by go_num, hJ3⟩
        case measure => simp [intOf]; omega
      · gi_wp2
        refine bodyPost_ret (results_none rfl _ _ _) rfl ?_
        exact ⟨⟨_, rfl⟩, .inr ⟨j + 1, by omega, hJx3⟩⟩
    · obtain rfl : j = n - c := by omega
      gi_wp2
      go_end0
      exact ⟨⟨_, rfl⟩, .inl hJj⟩

set_option maxRecDepth 100000 in
set_option maxHeartbeats 400000 in
/-- The iterator's making: a new variable for the row, a new one for the column. -/
theorem after_any (v : Value) (c : Int) (w : World) (hv : ∃ a n rc, v = .slice a n rc) :
    Calls Try.prog 124 #[v, .int .i64 c] w fun e w' =>
      e = .returned (.func (.func 139) #[] #[.pointer (some ⟨w.heap.size + 1, 0, none⟩), .pointer (some ⟨w.heap.size, 0, none⟩)]) ∧ w' = (w.alloc (.cells #[v] 23)).alloc (.cells #[.int .i64 c] 3) := by
  obtain ⟨a, n, rc, rfl⟩ := hv
  have hmf : ∀ (fn : Fn) (first cap : Array Value) (w : World), (Instr.makeFunc fn first cap).run Try.prog w = .ok (.func fn first cap) w := fun _ _ _ _ => rfl
  go_enter Try.func124, Try.ntmps124
  go_wp2
  go_ret
  exact ⟨rfl, rfl⟩

end Go.Proofs.Ytbegnincmlepgaa
