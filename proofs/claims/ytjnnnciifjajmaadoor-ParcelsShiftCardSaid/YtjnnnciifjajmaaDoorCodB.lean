/- Package codec: values that are lists of integers are well-formed. -/
import Derived.Test.YtjnnnciifjajmaaDoorCodA
namespace Go.Proofs.YtjnnnciifjajmaaDoor
open Go.RowKit

/-- The value of an integer, and of a list. -/
def vInt (n : Int) : Value := .agg #[.int .i64 1, .int .i64 n, .string ⟨#[]⟩, .slice none 0 0]
def vList (v : Value) : Value := .agg #[.int .i64 3, .int .i64 0, .string ⟨#[]⟩, v]
/-- The slice v reads as the values of the integers. -/
def Vals (w : World) (v : Value) (zs : List Int) : Prop :=
  ∃ a cap, v = .slice a zs.length cap ∧ zs.length ≤ cap ∧ zs.length ≤ 1000000 ∧ (∀ z ∈ zs, R64 z) ∧
    ∀ k (h : k < zs.length), ∃ b off, a = some ⟨b, off, none⟩ ∧ w.cell? ⟨b, off + k * 4, none⟩ = some (.int .i64 1) ∧ w.cell? ⟨b, off + k * 4 + 1, none⟩ = some (.int .i64 zs[k]) ∧
      w.cell? ⟨b, off + k * 4 + 2, none⟩ = some (.string ⟨#[]⟩) ∧ w.cell? ⟨b, off + k * 4 + 3, none⟩ = some (.slice none 0 0)
theorem Vals.below {w w' : World} {v : Value} {zs : List Int} (h : Vals w v zs) (hb : Below w.heap.size w w') : Vals w' v zs := by
  obtain ⟨a, cap, rfl, hc, hl, hr, hk⟩ := h
  refine ⟨a, cap, rfl, hc, hl, hr, fun k hlt => ?_⟩
  obtain ⟨b, off, ha, h1, h2, h3, h4⟩ := hk k hlt
  exact ⟨b, off, ha, below_cell hb h1, below_cell hb h2, below_cell hb h3, below_cell hb h4⟩

theorem below_pair (w : World) (c d : Array Value) (t u : TypeId) : Below w.heap.size w ((w.alloc (.cells c t)).alloc (.cells d u)) := ((Below.refl _ _).alloc (Nat.le_refl _) _).alloc (by simp) _
set_option maxRecDepth 100000 in
set_option maxHeartbeats 1000000 in
theorem formed_int (n : Int) (w : World) (hn : R64 n) :
    Calls Tryd.prog 84 #[vInt n] w fun e w' => e = .returned (.tuple #[.int .i64 0, .bool true]) ∧ Below w.heap.size w w' := by
  obtain ⟨n1, n2⟩ := hn
  unfold vInt
  by_cases h0 : n = 0
  · subst h0
    go_enter Tryd.func84, Tryd.ntmps84
    go_wp2_with fail
    go_ret2
    exact ⟨rfl, below_pair w _ _ _ _⟩
  · have hz : (n == 0) = false := by simpa using h0
    go_enter Tryd.func84, Tryd.ntmps84
    go_wp2_with fail
    go_ret2
    exact ⟨rfl, below_pair w _ _ _ _⟩

set_option maxRecDepth 100000 in
set_option maxHeartbeats 2000000 in
theorem formed_list (v : Value) (zs : List Int) (w : World) (hV : Vals w v zs) :
    Calls Tryd.prog 84 #[vList v] w fun e w' => e = .returned (.tuple #[.int .i64 1, .bool true]) ∧ Below w.heap.size w w' := by
  obtain ⟨a, cap, rfl, hcap, hlen, hr, hk⟩ := hV
  have HK := Lib.hid hk
  have HR := Lib.hid hr
  clear hk hr
  unfold vList
  go_enter Tryd.func84, Tryd.ntmps84
  go_wp2_with fail
  go_loopw [2, 57] (fun d i W => ∃ k : Nat, k ≤ zs.length ∧ i = .int .i64 k ∧ d = .int .i64 0 ∧ Below w.heap.size w W) (fun _ i _ => zs.length - (intOf i).toNat)
  case atStart => exact ⟨0, Nat.zero_le _, rfl, rfl, below_pair w _ _ _ _⟩
  case round =>
    obtain ⟨k, hkl, rfl, rfl, hb⟩ := hrel
    by_cases hlt : k < zs.length
    · obtain ⟨b, off, rfl, q1, q2, q3, q4⟩ := HK.out k hlt
      have hz := HR.out _ (List.getElem_mem hlt)
      have c1 := below_cell hb q1
      have c2 := below_cell hb q2
      have c3 := below_cell hb q3
      have c4 := below_cell hb q4
      generalize zs[k] = z at *
      clear q1 q2 q3 q4
      go_wp2_with fail
      refine (formed_int z _ hz).mono ?_
      rintro e w1 ⟨rfl, hb1⟩
      go_wp2_with fail
      go_roundw
      case rel => exact ⟨k + 1, by omega, by go_num, rfl, hb.trans (((Below.refl _ _).alloc (Nat.le_refl _) _ |>.trans (hb1.mono (by simp))).mono hb.size)⟩
      case measure => simp [intOf]; omega
    · obtain rfl : k = zs.length := by omega
      go_wp2_with fail
      go_ret2
      exact ⟨rfl, hb⟩

set_option maxRecDepth 100000 in
set_option maxHeartbeats 1000000 in
theorem check_list (v : Value) (zs : List Int) (w : World) (hV : Vals w v zs) :
    Calls Tryd.prog 76 #[vList v] w fun e w' => e = .returned (.int .i64 0) ∧ Below w.heap.size w w' := by
  have hb0 : Below w.heap.size w (w.alloc (.cells #[.int .i64 3, .int .i64 0, .string ⟨#[]⟩, v] 72)) := (Below.refl _ _).alloc (Nat.le_refl _) _
  have HF := Lib.hid (formed_list v zs _ (hV.below hb0))
  obtain ⟨a, cap, rfl, -⟩ := hV
  unfold vList at HF ⊢
  go_enter Tryd.func76, Tryd.ntmps76
  go_wp2_with fail
  refine HF.out.mono ?_
  rintro e w1 ⟨rfl, hb1⟩
  go_wp2_with fail
  go_ret
  exact ⟨rfl, hb0.trans (hb1.mono hb0.size)⟩

end Go.Proofs.YtjnnnciifjajmaaDoor
