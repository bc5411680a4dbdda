/- The words in which the contracts of this claim are stated: slices of integers that read as lists, worlds that only grew. -/
import Derived.Test.YtjnnnciifjajmaaDoorProg
import Derived.WalkKit
import Derived.BigQuiet
import Derived.Lib.Hide
namespace Go.Proofs.YtjnnnciifjajmaaDoor
open Go.RowKit

theorem ret_int {k : IntKind} {a b : Int} (h : a = b) : Ending.returned (.int k a) = .returned (.int k b) := by rw [h]

theorem ret_bool {a b : Bool} (h : a = b) : Ending.returned (.bool a) = .returned (.bool b) := by rw [h]

/-- A call of the function enters it. -/
def Goes (P : Program) (f : FuncId) : Prop := ∀ (args : Array Value) (w : World), (callFunc f args).run P w = .ok (.enter f args) w
theorem goes_of {P : Program} {f : FuncId} {fn : Func} {c : Code} (hf : P.funcs[f]? = some fn) (hname : (fn.name == "runtime.NumGoroutine") = false) (hb : fn.body = some c) : Goes P f := by
  intro args w
  have h1 : fn.name ≠ "runtime.NumGoroutine" := by simpa using hname
  simp [callFunc, hf, h1, hb, mark]

/-- The range of an int. -/
def R64 (n : Int) : Prop := -9223372036854775808 ≤ n ∧ n ≤ 9223372036854775807
theorem R64.mk {n : Int} (h : -4611686018427387904 ≤ n) (h' : n ≤ 4611686018427387904) : R64 n := ⟨by omega, by omega⟩

/-- A number of the field. -/
def Num (n : Int) : Prop := 0 ≤ n ∧ n < 1073741789
theorem Num.r64 {n : Int} (h : Num n) : R64 n := ⟨by unfold Num at h; omega, by unfold Num at h; omega⟩

/-- A cell of a block that lies there. -/
theorem lt_of_cell {w : World} {b o : Nat} {v : Value} (h : w.cell? ⟨b, o, none⟩ = some v) : b < w.heap.size := by
  by_cases hb : b < w.heap.size
  · exact hb
  · simp [World.cell?, Array.getElem?_eq_none (Nat.le_of_not_lt hb)] at h

theorem below_cell {w w' : World} (h : Below w.heap.size w w') {b o : Nat} {v : Value} (hc : w.cell? ⟨b, o, none⟩ = some v) : w'.cell? ⟨b, o, none⟩ = some v := by
  rw [h.cell (p := ⟨b, o, none⟩) (lt_of_cell hc)]; exact hc

theorem below_later {w a b : World} {B : Nat} (h : Below B w a) (hB : B ≤ w.heap.size) (k : Below a.heap.size a b) : Below B w b :=
  h.trans (k.mono (Nat.le_trans hB h.size))

/-- The slice v reads as the integers zs. -/
def Ints (w : World) (v : Value) (zs : List Int) : Prop :=
  ∃ a cap, v = .slice a zs.length cap ∧ zs.length ≤ cap ∧ zs.length ≤ 17592186044416 ∧ (∀ z ∈ zs, R64 z) ∧
    ∀ k (h : k < zs.length), ∃ b off, a = some ⟨b, off, none⟩ ∧ w.cell? ⟨b, off + k, none⟩ = some (.int .i64 zs[k])

theorem Ints.below {w w' : World} {v : Value} {zs : List Int} (h : Ints w v zs) (hb : Below w.heap.size w w') : Ints w' v zs := by
  obtain ⟨a, cap, rfl, hc, hl, hr, hk⟩ := h
  refine ⟨a, cap, rfl, hc, hl, hr, fun k hlt => ?_⟩
  obtain ⟨b, off, ha, hcell⟩ := hk k hlt
  exact ⟨b, off, ha, below_cell hb hcell⟩

theorem Ints.nil (w : World) (a : Option Addr) (cap : Nat) : Ints w (.slice a 0 cap) [] :=
  ⟨a, cap, rfl, Nat.zero_le _, by simp, by simp, fun k h => absurd h (Nat.not_lt_zero _)⟩

/-- The slice v reads as the rows. -/
def Rows2 (w : World) (v : Value) (rows : List (List Int)) : Prop :=
  ∃ a cap, v = .slice a rows.length cap ∧ rows.length ≤ cap ∧ rows.length ≤ 17592186044416 ∧
    ∀ k (h : k < rows.length), ∃ b off r, a = some ⟨b, off, none⟩ ∧ w.cell? ⟨b, off + k, none⟩ = some r ∧ Ints w r rows[k]

theorem Rows2.below {w w' : World} {v : Value} {rows : List (List Int)} (h : Rows2 w v rows) (hb : Below w.heap.size w w') : Rows2 w' v rows := by
  obtain ⟨a, cap, rfl, hc, hl, hk⟩ := h
  refine ⟨a, cap, rfl, hc, hl, fun k hlt => ?_⟩
  obtain ⟨b, off, r, ha, hcell, hr⟩ := hk k hlt
  exact ⟨b, off, r, ha, below_cell hb hcell, hr.below hb⟩

theorem Rows2.nil (w : World) (a : Option Addr) (cap : Nat) : Rows2 w (.slice a 0 cap) [] :=
  ⟨a, cap, rfl, Nat.zero_le _, by simp, fun k h => absurd h (Nat.not_lt_zero _)⟩

end Go.Proofs.YtjnnnciifjajmaaDoor
