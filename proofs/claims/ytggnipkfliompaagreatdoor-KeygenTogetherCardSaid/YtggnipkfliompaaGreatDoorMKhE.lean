/- The laws of keygen: what KeygenTogether goes through: pairs of words, dealings whose slices are typed, its closure. The laws of keygen, in plain Lean: a dealing is put among others (KeygenHonest). The reference of digest: ror, word. The reference of digest: numbers. The reference of digest: padded. The reference of digest: a block, the schedule. The reference of digest: Sum. The reference of digest: Tagged. The reference of group: Hash. The references' small functions: numerals, unsigned, mod. The reference of codec: lists of integers are well-formed, and not deep. The reference of codec: the bytes of lists of integers. The reference of codec: Encode at lists of integers, Int. The reference of parcels: Pad. The reference of parcels: With, Open. The reference of parcels: Seal. The reference of keygen: Deal. The laws of keygen: KeygenSpec. Package keygen: what Qualified gives, inside a drawn region: its result, the key's box. -/
import Derived.Test.YtggnipkfliompaaGreatDoorMKgE
import Derived.Test.YtggnipkfliompaaGreatDoorMKgD
import Derived.Test.YtggnipkfliompaaGreatDoorMDeT
import Derived.Test.YtggnipkfliompaaGreatDoorMRegL
import Derived.Test.YtggnipkfliompaaGreatDoorMMapZ
import Derived.Test.YtggnipkfliompaaGreatDoorMKgP
import Derived.Test.YtggnipkfliompaaGreatDoorMDigD
import Derived.Test.YtggnipkfliompaaGreatDoorMCodD
import Derived.Test.YtggnipkfliompaaGreatDoorMLinJ
import Derived.Test.YtggnipkfliompaaGreatDoorMRange3
import Derived.Test.YtggnipkfliompaaGreatDoorMDeaW
import Derived.Test.YtggnipkfliompaaGreatDoorMKgU
import Derived.Test.YtggnipkfliompaaGreatDoorMKgJ
import Derived.BigQuiet
import Derived.Great.BuildSlice
import Derived.Lib.MinMax
set_option maxHeartbeats 4000000
set_option maxRecDepth 100000
namespace Go.Proofs.YtggnipkfliompaaGreatDoor
open Go.RowKit FP
def Duos (w : World) (v : Value) (l : List (Int × Int)) : Prop :=
 ∃ a cap, v = .slice a l.length cap ∧ l.length ≤ cap ∧ l.length ≤ 17592186044416 ∧ (∀ p ∈ l, (0 ≤ p.1 ∧ p.1 < 4294967296) ∧ (0 ≤ p.2 ∧ p.2 < 4294967296)) ∧
  ∀ k (h : k < l.length), ∃ b off, a = some ⟨b, off, none⟩ ∧ w.cell? ⟨b, off + k * 2, none⟩ = some (.int .u32 l[k].1) ∧ w.cell? ⟨b, off + k * 2 + 1, none⟩ = some (.int .u32 l[k].2)
theorem Duos.below {w w' : World} {v : Value} {l : List (Int × Int)} (h : Duos w v l) (hb : Below w.heap.size w w') : Duos w' v l := by
 obtain ⟨a, cap, rfl, hc, hl, hr, hk⟩ := h
 refine ⟨a, cap, rfl, hc, hl, hr, fun k hlt => ?_⟩
 obtain ⟨b, off, ha, h1, h2⟩ := hk k hlt
 exact ⟨b, off, ha, below_cell hb h1, below_cell hb h2⟩
theorem Duos.at {w : World} {a : Option Addr} {n c : Nat} {l : List (Int × Int)} (h : Duos w (.slice a n c) l) {k : Nat} (hk : k < l.length) : ∃ b off, a = some ⟨b, off, none⟩ ∧ ((0 ≤ l[k].1 ∧ l[k].1 < 4294967296) ∧ (0 ≤ l[k].2 ∧ l[k].2 < 4294967296)) ∧ w.cell? ⟨b, off + k * 2, none⟩ = some (.int .u32 l[k].1) ∧ w.cell? ⟨b, off + k * 2 + 1, none⟩ = some (.int .u32 l[k].2) := by
 obtain ⟨a', cap, h1, -, -, h4, h5⟩ := h
 cases h1
 obtain ⟨b, off, e, h6, h7⟩ := h5 k hk
 exact ⟨b, off, e, h4 _ (List.getElem_mem hk), h6, h7⟩
structure DvT (w : World) (z : DV) : Prop where
 ok : DvOK w z
 tc : RowT w 3 z.2.1
 tp : RowT w 49 z.2.2
theorem DvT.below {w w' : World} {z : DV} (h : DvT w z) (hb : Below w.heap.size w w') : DvT w' z := ⟨h.ok.below hb, h.tc.below hb, h.tp.below hb⟩
theorem DvT.grown {W W' : World} {base n : Nat} {u : Value} {xs : List Value} {z : DV} (h : DvT W z) (ho : W.ownsRow base 28 3 u n xs) (hg : W.grownBy W' u.ownBlock) : DvT W' z := by
 have n1 : (3 : TypeId) ≠ 28 := by decide
 have n2 : (49 : TypeId) ≠ 28 := by decide
 refine ⟨⟨h.ok.r, (RI.grown ⟨h.ok.cs, h.tc⟩ ho n1 hg).1, ?_⟩, h.tc.grown ho n1 hg, h.tp.grown ho n2 hg⟩
 have hT := h.tp
 obtain ⟨a, cap, e, h2, h3, h4, h5⟩ := h.ok.ps
 refine ⟨a, cap, e, h2, h3, h4, fun k hk => ?_⟩
 obtain ⟨b, off, ea, h6, h7, h8⟩ := h5 k hk
 have hne : u.ownBlock ≠ some b := hT.ne ho n2 b (by rw [e, ea]; rfl)
 exact ⟨b, off, ea, hg.cell h6 (fun e2 => hne e2.symm), hg.cell h7 (fun e2 => hne e2.symm), hg.cell h8 (fun e2 => hne e2.symm)⟩
theorem own_keepB {W W' : World} {B base size n : Nat} {e : TypeId} {v : Value} {xs : List Value} (h : W.ownsRow base e size v n xs) (hb : Below B W W') (hlt : ∀ g, v.ownBlock = some g → g < B) : W'.ownsRow base e size v n xs := by
 obtain ⟨h1, h2⟩ := h
 refine ⟨h1, ?_⟩
 rcases h2 with h2 | ⟨g, cap, cur, a, b, c, d⟩
 ·exact .inl h2
 ·exact .inr ⟨g, cap, cur, a, b, (hb.block g (hlt g (by rw [a]; rfl))).trans c, d⟩
structure TogI (w : World) (k a b z : Int) (W : World) : Prop where
 be : Below w.heap.size w W
 ci : W.heap[w.heap.size]? = some (.cells #[.int .i64 k] 3 (0, 0))
 cx : W.heap[w.heap.size + 1]? = some (.cells #[.int .u32 a, .int .u32 b] 82 (0, 0))
 cn : W.heap[w.heap.size + 2]? = some (.cells #[.int .i64 z] 3 (0, 0))
theorem TogI.below {w W W' : World} {k a b z : Int} (h : TogI w k a b z W) (hb : Below (w.heap.size + 3) W W') : TogI w k a b z W' :=
 ⟨h.be.trans (hb.mono (by omega)), (hb.block _ (by omega)).trans h.ci, (hb.block _ (by omega)).trans h.cx, (hb.block _ (by omega)).trans h.cn⟩
theorem TogI.size {w W : World} {k a b z : Int} (h : TogI w k a b z W) : w.heap.size + 3 ≤ W.heap.size := row_lt h.cn
theorem TogI.set {w W : World} {k a b z : Int} (h : TogI w k a b z W) (y : Int) : TogI w k a b y (W.setCell ⟨w.heap.size + 2, 0, none⟩ (.int .i64 y)) :=
 ⟨h.be.setCell (by show w.heap.size ≤ w.heap.size + 2; omega) _, (Below.heap_setCell _ _ _ _ (by show w.heap.size ≠ w.heap.size + 2; omega)).trans h.ci, (Below.heap_setCell _ _ _ _ (by show w.heap.size + 1 ≠ w.heap.size + 2; omega)).trans h.cx, row_set h.cn 0 _⟩
theorem TogI.boxes (w : World) (k a b z : Int) : ∃ W1 W, W1 = (w.alloc (.cells #[.int .i64 k] 3)).alloc (.cells #[.int .u32 a, .int .u32 b] 82) ∧ W = W1.alloc (.cells #[.int .i64 z] 3) ∧ TogI w k a b z W ∧ W1.heap.size = w.heap.size + 2 ∧ Below w.heap.size w W1 ∧ W1.heap[w.heap.size]? = some (.cells #[.int .i64 k] 3 (0, 0)) ∧ W1.heap[w.heap.size + 1]? = some (.cells #[.int .u32 a, .int .u32 b] 82 (0, 0)) := by
 obtain ⟨W0, hW0⟩ : ∃ W0, W0 = w.alloc (.cells #[.int .i64 k] 3) := ⟨_, rfl⟩
 have b0 : Below w.heap.size w W0 := by rw [hW0]; exact below_new _ _ _
 have s0 : W0.heap.size = w.heap.size + 1 := by rw [hW0]; simp
 have r0 : W0.heap[w.heap.size]? = some (.cells #[.int .i64 k] 3 (0, 0)) := by rw [hW0]; exact World.alloc_heap_new _ _
 obtain ⟨W1, hW1⟩ : ∃ W1, W1 = W0.alloc (.cells #[.int .u32 a, .int .u32 b] 82) := ⟨_, rfl⟩
 have b1 : Below W0.heap.size W0 W1 := by rw [hW1]; exact below_new _ _ _
 have s1 : W1.heap.size = w.heap.size + 2 := by rw [hW1]; simp [s0]
 have r1 : W1.heap[w.heap.size + 1]? = some (.cells #[.int .u32 a, .int .u32 b] 82 (0, 0)) := by rw [hW1, ← s0]; exact World.alloc_heap_new _ _
 have q0 := (b1.block _ (row_lt r0)).trans r0
 have b01 := b0.trans (b1.mono b0.size)
 refine ⟨W1, W1.alloc (.cells #[.int .i64 z] 3), by rw [hW1, hW0], rfl, ?_, s1, b01, q0, r1⟩
 have b2 := below_new W1 #[.int .i64 z] 3
 have r2 : (W1.alloc (.cells #[.int .i64 z] 3)).heap[w.heap.size + 2]? = some (.cells #[.int .i64 z] 3 (0, 0)) := by rw [← s1]; exact World.alloc_heap_new _ _
 exact ⟨b01.trans (b2.mono b01.size), (b2.block _ (row_lt q0)).trans q0, (b2.block _ (row_lt r1)).trans r1, r2⟩
theorem tog1_any (w : World) (k a b z : Int) (W : World) (h : TogI w k a b z W) (hk : 0 ≤ k ∧ k ≤ 3) (hz : 0 ≤ z ∧ z < 4294967296) :
  Calls Tryz.prog 43 #[.pointer (some ⟨w.heap.size + 2, 0, none⟩), .pointer (some ⟨w.heap.size, 0, none⟩)] W fun r W' => ∃ y, r = .returned (.int .i64 y) ∧ (0 ≤ y ∧ y < 1073741789) ∧ TogI w k a b y W' ∧ ∃ W1, Below W.heap.size W W1 ∧ W' = W1.setCell ⟨w.heap.size + 2, 0, none⟩ (.int .i64 y) := by
 have HT := Lib.hid h
 have hr : R64 z := R64.mk (by omega) (by omega)
 have hk7 : R64 (k + 7) := R64.mk (by omega) (by omega)
 have wk : IntKind.i64.wrap (k + 7) = k + 7 := IntWalk.i64_in _ (by omega)
 have hmr : R64 (z * z % 1073741789) := num_r64 ⟨by omega, by omega⟩
 have n0 := row_cell h.cn (k := 0) (v := .int .i64 z) rfl
 have i0 := row_cell h.ci (k := 0) (v := .int .i64 k) rfl
 have f0 := row_free h.cn 0
 have n0d : W.drew.cell? ⟨w.heap.size + 2, 0, none⟩ = some (.int .i64 z) := n0
 have i0d : W.drew.cell? ⟨w.heap.size, 0, none⟩ = some (.int .i64 k) := i0
 have f0d : W.drew.frozen? ⟨w.heap.size + 2, 0, none⟩ = false := f0
 have HN := Lib.hid (show 0 ≤ (z * z % 1073741789 + (k + 7)) % 1073741789 ∧ (z * z % 1073741789 + (k + 7)) % 1073741789 < 1073741789 by omega)
 have hsz : w.heap.size + 2 < W.drew.heap.size := row_lt h.cn
 have HA := Lib.hid (fun W => add_any (z * z % 1073741789) (k + 7) W hmr hk7)
 have HM := Lib.hid (fun W => mul_any z z W hr hr)
 obtain ⟨y, hy⟩ : ∃ y, y = (z * z % 1073741789 + (k + 7)) % 1073741789 := ⟨_, rfl⟩
 obtain ⟨m, hm⟩ : ∃ m, m = z * z % 1073741789 := ⟨_, rfl⟩
 rw [← hy] at HA HN
 rw [← hm] at HA HM hmr
 clear hy hm hmr
 clear h hk hz hr hk7
 go_enter Tryz.func43, Tryz.ntmps43
 go_wp2_with fail
 go_region_with (first
  | (go_at_call 45; refine (HM.out _).mono ?_; rintro e w7 ⟨rfl, rfl⟩)
  | (go_at_call 44; refine (HA.out _).mono ?_; rintro e w8 ⟨rfl, hb8⟩; have n1 := below_cell hb8 n0d; have f1 := (hb8.frozen (p := ⟨w.heap.size + 2, 0, none⟩) hsz).trans f0d; have HB8 := Lib.hid (((Below.refl W.heap.size W).drew).trans hb8); clear hb8))
 all_goals
  have hcn : w8.heap[w.heap.size + 2]? = some (.cells #[.int .i64 z] 3 (0, 0)) := (HB8.out.block _ hsz).trans HT.out.cn
  have q0 := row_cell (row_set hcn 0 (.int .i64 y)) (k := 0) rfl
  go_wp2_with fail
  go_ret
  exact ⟨_, rfl, HN.out, (HT.out.below (HB8.out.mono HT.out.size)).set _, w8, HB8.out, rfl⟩
end Go.Proofs.YtggnipkfliompaaGreatDoor
namespace Go.Proofs.YtggnipkfliompaaGreatDoor
open Go.RowKit FP
theorem dv_cells {W : World} {b : Nat} {d : Dlg} {cv pv : Value} (h : W.heap[b]? = some (.cells #[.int .i64 d.dealer, cv, pv] 28 (0, 0))) : ∀ j u, (dvC (d, (cv, pv)))[j]? = some u → W.cell? ⟨b, j, none⟩ = some u := fun j u hj => row_cell h (by
 match j with
 | 0 | 1 | 2 => exact hj
 | n + 3 => simp [dvC] at hj)
end Go.Proofs.YtggnipkfliompaaGreatDoor
namespace Go.Proofs.YtggnipkfliompaaGreatDoor
open Go.RowKit
end Go.Proofs.YtggnipkfliompaaGreatDoor
namespace Go.Proofs.YtggnipkfliompaaGreatDoor
open Go.RowKit
end Go.Proofs.YtggnipkfliompaaGreatDoor
namespace Go.Proofs.YtggnipkfliompaaGreatDoor
open Go.RowKit
end Go.Proofs.YtggnipkfliompaaGreatDoor
namespace Go.Proofs.YtggnipkfliompaaGreatDoor
open Go.RowKit
end Go.Proofs.YtggnipkfliompaaGreatDoor
namespace Go.Proofs.YtggnipkfliompaaGreatDoor
open Go.RowKit
end Go.Proofs.YtggnipkfliompaaGreatDoor
namespace Go.Proofs.YtggnipkfliompaaGreatDoor
open Go.RowKit
end Go.Proofs.YtggnipkfliompaaGreatDoor
namespace Go.Proofs.YtggnipkfliompaaGreatDoor
open Go.RowKit
end Go.Proofs.YtggnipkfliompaaGreatDoor
namespace Go.Proofs.YtggnipkfliompaaGreatDoor
open Go.RowKit
end Go.Proofs.YtggnipkfliompaaGreatDoor
namespace Go.Proofs.YtggnipkfliompaaGreatDoor
open Go.RowKit
end Go.Proofs.YtggnipkfliompaaGreatDoor
namespace Go.Proofs.YtggnipkfliompaaGreatDoor
open Go.RowKit
end Go.Proofs.YtggnipkfliompaaGreatDoor
namespace Go.Proofs.YtggnipkfliompaaGreatDoor
open Go.RowKit
end Go.Proofs.YtggnipkfliompaaGreatDoor
namespace Go.Proofs.YtggnipkfliompaaGreatDoor
open Go.RowKit
end Go.Proofs.YtggnipkfliompaaGreatDoor
namespace Go.Proofs.YtggnipkfliompaaGreatDoor
open Go.RowKit
end Go.Proofs.YtggnipkfliompaaGreatDoor
namespace Go.Proofs.YtggnipkfliompaaGreatDoor
open Go.RowKit
end Go.Proofs.YtggnipkfliompaaGreatDoor
namespace Go.Proofs.YtggnipkfliompaaGreatDoor
open Go.RowKit FP
end Go.Proofs.YtggnipkfliompaaGreatDoor
namespace Go.Proofs.YtggnipkfliompaaGreatDoor
open Go.RowKit FP
theorem newB (w : World) (d : Int) (cv pv : Value) : ∃ W, W = w.alloc (.cells #[.int .i64 d, cv, pv] 28) ∧ Below w.heap.size w W ∧ W.heap[w.heap.size]? = some (.cells #[.int .i64 d, cv, pv] 28 (0, 0)) := ⟨_, rfl, below_new _ _ _, World.alloc_heap_new _ _⟩
end Go.Proofs.YtggnipkfliompaaGreatDoor
namespace Go.Proofs.YtggnipkfliompaaGreatDoor
open Go.RowKit FP
section
variable {n0 : Nat} {w w' : World} {d s : Bool} {v rv ov : Value} {cs : List Int}
end
end Go.Proofs.YtggnipkfliompaaGreatDoor
