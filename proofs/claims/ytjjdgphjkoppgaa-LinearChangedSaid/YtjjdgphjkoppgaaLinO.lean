/- The reference of package linear: rows less multiples of rows, and products. -/
import Derived.Test.YtjjdgphjkoppgaaLinN
import Derived.IntWalk
namespace Go.Proofs.Ytjjdgphjkoppgaa
open Go.RowKit

/-- The element of a list, or 0. -/
def nth (l : List Int) (i : Nat) : Int := l[i]?.getD 0
theorem nth_at {l : List Int} {i : Nat} (h : i < l.length) : nth l i = l[i] := by unfold nth; rw [List.getElem?_eq_getElem h]; rfl
theorem nth_out {l : List Int} {i : Nat} (h : ¬ i < l.length) : nth l i = 0 := by unfold nth; rw [List.getElem?_eq_none (by omega)]; rfl

/-- A row less a multiple of another one. -/
def lessF (a b : List Int) (n : Int) : Nat → Int := fun i => (nth a i + -(n * nth b i % 1073741789)) % 1073741789
def lessQ (a b : List Int) (n : Int) : List Int := (List.range a.length).map (lessF a b n)
/-- The first K elements of a function, 0 behind. -/
def upTo (f : Nat → Int) (K : Nat) : Nat → Int := fun i => if i < K then f i else 0
theorem upTo_0 (f : Nat → Int) : upTo f 0 = fun _ => 0 := by funext i; unfold upTo; rw [if_neg (by omega)]
theorem upTo_s (f : Nat → Int) (K : Nat) : upTo f (K + 1) = fun i => if i = K then f K else upTo f K i := by
  funext i; unfold upTo
  by_cases e : i = K
  · rw [if_pos (by omega), if_pos e, e]
  · rw [if_neg e]
    by_cases h : i < K
    · rw [if_pos (by omega), if_pos h]
    · rw [if_neg (by omega), if_neg h]
theorem upTo_list (f : Nat → Int) (K : Nat) : (List.range K).map (upTo f K) = (List.range K).map f :=
  List.map_congr_left fun i hi => by unfold upTo; rw [if_pos (by simpa using hi)]

theorem Ints.get {w : World} {v : Value} {zs : List Int} (h : Ints w v zs) {k : Nat} (hk : k < zs.length) : R64 (nth zs k) ∧ ∃ b off n c, v = .slice (some ⟨b, off, none⟩) n c ∧ w.cell? ⟨b, off + k, none⟩ = some (.int .i64 (nth zs k)) := by
  obtain ⟨a, cap, rfl, h1, h2, h3, h4⟩ := h
  obtain ⟨b, off, rfl, hc⟩ := h4 k hk
  rw [nth_at hk]
  exact ⟨h3 _ (List.getElem_mem hk), b, off, _, _, rfl, hc⟩

set_option maxRecDepth 100000 in
set_option maxHeartbeats 4000000 in
theorem less_any (v u : Value) (a b : List Int) (n : Int) (w : World) (hI : Ints w v a) (hJ : Ints w u b) (hl : a.length ≤ b.length) (hn : R64 n) (hm : a.length ≤ 1000000) :
    Calls Try.prog 49 #[v, u, .int .i64 n] w fun e w' => e = .returned (.slice (some ⟨w.heap.size, 0, none⟩) a.length a.length) ∧ IBlk w' w.heap.size a.length (lessF a b n) ∧ Ints w' (.slice (some ⟨w.heap.size, 0, none⟩) a.length a.length) (lessQ a b n) ∧ Below w.heap.size w w' ∧ w.heap.size < w'.heap.size := by
  have HA := Lib.hid (fun k (hk : k < a.length) => hI.get hk)
  have HB := Lib.hid (fun k (hk : k < b.length) => hJ.get hk)
  obtain ⟨pa, ca, rfl, ha1, ha2, -, -⟩ := hI
  obtain ⟨pb, cb, rfl, hb1, hb2, -, -⟩ := hJ
  obtain ⟨H, hH⟩ : ∃ H, H = w.heap.size := ⟨_, rfl⟩
  have hmk := run_ints a.length hm
  go_enter Try.func49, Try.ntmps49
  go_wp2_with fail
  obtain ⟨W1, hW1⟩ : ∃ W1, w.alloc (.cells (madeCells #[.int .i64 0] a.length) 3) = W1 := ⟨_, rfl⟩
  have hI1 : IBlk W1 H a.length (upTo (lessF a b n) 0) := by rw [← hW1, hH, upTo_0]; exact IBlk.made _ _ _
  have hb1' : Below H w W1 := by rw [← hW1, hH]; exact (Below.refl _ _).alloc (Nat.le_refl _) _
  have hs1 : H < W1.heap.size := by rw [← hW1, hH]; simp
  rw [hW1, ← hH]
  have HH := Lib.hid hH
  clear hH hW1 hmk
  go_loopw [8] (fun i wr => ∃ k : Nat, k ≤ a.length ∧ i = .int .i64 k ∧ IBlk wr H a.length (upTo (lessF a b n) k) ∧ Below H w wr ∧ H < wr.heap.size) (fun i _ => a.length - (intOf i).toNat)
  case atStart => exact ⟨0, Nat.zero_le _, rfl, hI1, hb1', hs1⟩
  case round =>
    obtain ⟨k, hkl, rfl, hIk, hb, hs⟩ := hrel
    by_cases hlt : k < a.length
    · obtain ⟨hra, ba, oa, _, _, e1, hca⟩ := HA.out k hlt
      cases e1
      obtain ⟨hrb, bb, ob, _, _, e2, hcb⟩ := HB.out k (by omega)
      cases e2
      have hba : ba < H := by rw [HH.out]; exact lt_of_cell hca
      have hbb : bb < H := by rw [HH.out]; exact lt_of_cell hcb
      have hca : wr.cell? ⟨ba, oa + k, none⟩ = some (.int .i64 (nth a k)) := by rw [hb.cell (p := ⟨ba, oa + k, none⟩) hba]; exact hca
      have hcb : wr.cell? ⟨bb, ob + k, none⟩ = some (.int .i64 (nth b k)) := by rw [hb.cell (p := ⟨bb, ob + k, none⟩) hbb]; exact hcb
      have HF := Lib.hid (show lessF a b n k = (nth a k + -(n * nth b k % 1073741789)) % 1073741789 from rfl)
      have HU := Lib.hid (upTo_s (lessF a b n) k)
      obtain ⟨x, hx⟩ : ∃ x, x = nth a k := ⟨_, rfl⟩
      obtain ⟨y, hy⟩ : ∃ y, y = nth b k := ⟨_, rfl⟩
      rw [← hx] at hra hca HF
      rw [← hy] at hrb hcb HF
      have hyc := hIk.cell k hlt
      have hyf := hIk.fro k hlt
      have i1 : (0 : Int) ≤ (k : Int) := by omega
      have i2 : (k : Int) < (a.length : Int) := by omega
      have i3 : (k : Int) < (b.length : Int) := by omega
      have hm0 := mod_num (n * y)
      have hneg : R64 (-(n * y % 1073741789)) := by unfold R64; omega
      obtain ⟨z, hz⟩ : ∃ z, z = upTo (lessF a b n) k k := ⟨_, rfl⟩
      rw [← hz] at hyc
      clear hx hy hz
      go_wp2_with fail
      have hsx : ∀ v, (wr.setCell ⟨H, k, none⟩ v).drew.cell? ⟨ba, oa + k, none⟩ = some (.int .i64 x) := fun v => (set_other (W := wr) (u := v) (.inl (by omega))).trans hca
      have hsy : ∀ v, (wr.setCell ⟨H, k, none⟩ v).drew.cell? ⟨bb, ob + k, none⟩ = some (.int .i64 y) := fun v => (set_other (W := wr) (u := v) (.inl (by omega))).trans hcb
      have hwr : IntKind.i64.wrap (-(n * y % 1073741789)) = -(n * y % 1073741789) := IntWalk.i64_in _ (by omega)
      go_region_held3 (fun w' => w'.cell? ⟨ba, oa + k, none⟩ = some (.int .i64 x) ∧ w'.cell? ⟨bb, ob + k, none⟩ = some (.int .i64 y)) (first | go_keep | exact ⟨hsx _, hsy _⟩)
        (first
          | (go_at_call 54; with_reducible refine (rmul_any n y _ hn hrb).mono ?_; rintro e w6 ⟨rfl, rfl⟩)
          | (go_at_call 53; with_reducible refine (radd_any x (-(n * y % 1073741789)) _ hra hneg).mono ?_; rintro e w6 ⟨rfl, rfl⟩))
      clear hwr
      go_wp2_with fail
      have hI' := hIk.set (k := k) ((x + -(n * y % 1073741789)) % 1073741789)
      rw [← HF.out, ← HU.out] at hI'
      rw [HF.out] at hI'
      go_roundw
      case rel => exact ⟨k + 1, by omega, by go_num, ⟨hI'.cell, hI'.fro⟩, (hb.setCell (Nat.le_refl _) _).drew, by simp [World.setCell]; exact hs⟩
      case measure => simp [intOf]; omega
    · obtain rfl : k = a.length := by omega
      have hI' := hIk.ints (Nat.le_refl _) ha2 (fun i hi => by unfold upTo; rw [if_pos hi]; exact mod_r64 _)
      rw [upTo_list] at hI'
      go_wp2_with fail
      go_ret
      rw [← HH.out]
      refine ⟨rfl, ⟨fun i hi => by rw [hIk.cell i hi]; unfold upTo; rw [if_pos hi], hIk.fro⟩, hI', hb, hs⟩

/-- A row times a number. -/
def timesQ (a : List Int) (n : Int) : List Int := (List.range a.length).map fun i => n * nth a i % 1073741789
theorem zeros_len (k : Nat) : ((List.range k).map fun _ => (0 : Int)).length = k := by simp
theorem nth_zeros (k i : Nat) : nth ((List.range k).map fun _ => (0 : Int)) i = 0 := by
  unfold nth
  by_cases h : i < k
  · simp [h]
  · rw [List.getElem?_eq_none (by simpa using h)]; rfl
theorem less_zeros (a : List Int) (n : Int) : lessQ ((List.range a.length).map fun _ => (0 : Int)) a (-n) = timesQ a n := by
  unfold lessQ timesQ
  rw [zeros_len]
  refine List.map_congr_left fun i _ => ?_
  unfold lessF
  rw [nth_zeros, Int.neg_mul]; omega

set_option maxRecDepth 100000 in
set_option maxHeartbeats 4000000 in
theorem times_any (v : Value) (a : List Int) (n : Int) (w : World) (hI : Ints w v a) (hn : 0 ≤ n ∧ n < 1073741789) (hm : a.length ≤ 1000000) :
    Calls Try.prog 43 #[v, .int .i64 n] w fun e w' => (∃ b, e = .returned (.slice (some ⟨b, 0, none⟩) a.length a.length) ∧ w.heap.size < b ∧ Ints w' (.slice (some ⟨b, 0, none⟩) a.length a.length) (timesQ a n)) ∧ Below w.heap.size w w' := by
  have hI0 := hI
  obtain ⟨pa, ca, rfl, ha1, ha2, -, -⟩ := hI
  have HZ := Lib.hid (less_zeros a n)
  have hmk := run_ints a.length hm
  have hneg : R64 (-n) := by unfold R64; omega
  go_enter Try.func43, Try.ntmps43
  go_wp2_with fail
  obtain ⟨W1, hW1⟩ : ∃ W1, w.alloc (.cells (madeCells #[.int .i64 0] a.length) 3) = W1 := ⟨_, rfl⟩
  have hI1 : Ints W1 (.slice (some ⟨w.heap.size, 0, none⟩) a.length a.length) ((List.range a.length).map fun _ => (0 : Int)) := by
    rw [← hW1]; exact (IBlk.made _ _ _).ints (Nat.le_refl _) ha2 (fun _ _ => by unfold R64; omega)
  have hb1 : Below w.heap.size w W1 := by rw [← hW1]; exact (Below.refl _ _).alloc (Nat.le_refl _) _
  have hs1 : W1.heap.size = w.heap.size + 1 := by rw [← hW1]; simp
  have HS := Lib.hid hs1
  rw [hW1]
  clear hW1 hmk hs1
  have hz := zeros_len a.length
  have HL := Lib.hid hz
  have hJ1 := hI0.below hb1
  have hc := less_any _ _ _ a (-n) W1 hI1 hJ1 (by rw [hz]; exact Nat.le_refl _) hneg (by rw [hz]; exact hm)
  rw [hz] at hc
  clear hz
  have HC := Lib.hid hc
  clear hc
  with_reducible refine HC.out.mono ?_
  rintro e w2 ⟨rfl, -, hI2, hb2, hs2⟩
  rw [HZ.out] at hI2
  go_wp2_with fail
  go_ret
  refine ⟨⟨_, rfl, by rw [HS.out]; omega, hI2⟩, hb1.trans (hb2.mono (by rw [HS.out]; omega))⟩

/-- The product of two lists, after K elements. -/
def prodF (a b : List Int) : Nat → Int
  | 0 => 0
  | k + 1 => (prodF a b k + nth a k * nth b k % 1073741789) % 1073741789
def prodQ (a b : List Int) : Int := prodF a b a.length
theorem prodF_num (a b : List Int) : ∀ k, 0 ≤ prodF a b k ∧ prodF a b k < 1073741789
  | 0 => by simp [prodF]
  | k + 1 => mod_num _

set_option maxRecDepth 100000 in
set_option maxHeartbeats 4000000 in
theorem rProduct_any (v u : Value) (a b : List Int) (w : World) (hI : Ints w v a) (hJ : Ints w u b) (hl : a.length ≤ b.length) :
    Calls Try.prog 41 #[v, u] w fun e w' => e = .returned (.int .i64 (prodQ a b)) ∧ Below w.heap.size w w' := by
  have HA := Lib.hid (fun k (hk : k < a.length) => hI.get hk)
  have HB := Lib.hid (fun k (hk : k < b.length) => hJ.get hk)
  obtain ⟨pa, ca, rfl, ha1, ha2, -, -⟩ := hI
  obtain ⟨pb, cb, rfl, hb1, hb2, -, -⟩ := hJ
  go_enter Try.func41, Try.ntmps41
  go_wp2_with fail
  go_loopw [5, 6] (fun s i wr => ∃ k : Nat, k ≤ a.length ∧ i = .int .i64 k ∧ s = .int .i64 (prodF a b k) ∧ Below w.heap.size w wr) (fun _ i _ => a.length - (intOf i).toNat)
  case atStart => exact ⟨0, Nat.zero_le _, rfl, rfl, Below.refl _ _⟩
  case round =>
    obtain ⟨k, hkl, rfl, rfl, hb⟩ := hrel
    by_cases hlt : k < a.length
    · obtain ⟨hra, ba, oa, _, _, e1, hca⟩ := HA.out k hlt
      cases e1
      obtain ⟨hrb, bb, ob, _, _, e2, hcb⟩ := HB.out k (by omega)
      cases e2
      have hca := below_cell hb hca
      have hcb := below_cell hb hcb
      have HF := Lib.hid (show prodF a b (k + 1) = (prodF a b k + nth a k * nth b k % 1073741789) % 1073741789 from rfl)
      have hsr := num_r64 (prodF_num a b k)
      obtain ⟨x, hx⟩ : ∃ x, x = nth a k := ⟨_, rfl⟩
      obtain ⟨y, hy⟩ : ∃ y, y = nth b k := ⟨_, rfl⟩
      obtain ⟨s, hs⟩ : ∃ s, s = prodF a b k := ⟨_, rfl⟩
      rw [← hx] at hra hca HF
      rw [← hy] at hrb hcb HF
      rw [← hs] at hsr HF ⊢
      have i1 : (0 : Int) ≤ (k : Int) := by omega
      have i2 : (k : Int) < (a.length : Int) := by omega
      have i3 : (k : Int) < (b.length : Int) := by omega
      have hmr := mod_r64 (x * y)
      have hcad : wr.drew.cell? ⟨ba, oa + k, none⟩ = some (.int .i64 x) := hca
      have hcbd : wr.drew.cell? ⟨bb, ob + k, none⟩ = some (.int .i64 y) := hcb
      clear hx hy hs
      go_wp2_with fail
      go_region_held3 (fun w' => w'.cell? ⟨ba, oa + k, none⟩ = some (.int .i64 x) ∧ w'.cell? ⟨bb, ob + k, none⟩ = some (.int .i64 y)) (go_keep)
        (first
          | (go_at_call 54; with_reducible refine (rmul_any x y _ hra hrb).mono ?_; rintro e w6 ⟨rfl, rfl⟩)
          | (go_at_call 53; with_reducible refine (radd_any s (x * y % 1073741789) _ hsr hmr).mono ?_; rintro e w6 ⟨rfl, rfl⟩))
      go_wp2_with fail
      go_roundw
      case rel => exact ⟨k + 1, by omega, by go_num, by rw [HF.out]; congr 1; omega, hb.drew⟩
      case measure => simp [intOf]; omega
    · obtain rfl : k = a.length := by omega
      go_wp2_with fail
      go_ret
      exact ⟨rfl, hb⟩

set_option maxRecDepth 100000 in
set_option maxHeartbeats 4000000 in
theorem product_any (v u : Value) (a b : List Int) (w : World) (hI : Ints w v a) (hJ : Ints w u b) (hl : a.length ≤ b.length) :
    Calls Try.prog 44 #[v, u] w fun e w' => e = .returned (.int .i64 (prodQ a b)) ∧ Below w.heap.size w w' := by
  have HA := Lib.hid (fun k (hk : k < a.length) => hI.get hk)
  have HB := Lib.hid (fun k (hk : k < b.length) => hJ.get hk)
  obtain ⟨pa, ca, rfl, ha1, ha2, -, -⟩ := hI
  obtain ⟨pb, cb, rfl, hb1, hb2, -, -⟩ := hJ
  go_enter Try.func44, Try.ntmps44
  go_wp2_with fail
  go_loopw [5, 6, 9] (fun s _ i wr => ∃ k : Nat, k ≤ a.length ∧ i = .int .i64 k ∧ s = .int .i64 (prodF a b k) ∧ Below w.heap.size w wr) (fun _ _ i _ => a.length - (intOf i).toNat)
  case atStart => exact ⟨0, Nat.zero_le _, rfl, rfl, Below.refl _ _⟩
  case round =>
    obtain ⟨k, hkl, rfl, rfl, hb⟩ := hrel
    by_cases hlt : k < a.length
    · obtain ⟨hra, ba, oa, _, _, e1, hca⟩ := HA.out k hlt
      cases e1
      obtain ⟨hrb, bb, ob, _, _, e2, hcb⟩ := HB.out k (by omega)
      cases e2
      have hca := below_cell hb hca
      have hcb := below_cell hb hcb
      have HF := Lib.hid (show prodF a b (k + 1) = (prodF a b k + nth a k * nth b k % 1073741789) % 1073741789 from rfl)
      have hsr := num_r64 (prodF_num a b k)
      obtain ⟨x, hx⟩ : ∃ x, x = nth a k := ⟨_, rfl⟩
      obtain ⟨y, hy⟩ : ∃ y, y = nth b k := ⟨_, rfl⟩
      obtain ⟨s, hs⟩ : ∃ s, s = prodF a b k := ⟨_, rfl⟩
      rw [← hx] at hra hca HF
      rw [← hy] at hrb hcb HF
      rw [← hs] at hsr HF ⊢
      have i1 : (0 : Int) ≤ (k : Int) := by omega
      have i2 : (k : Int) < (a.length : Int) := by omega
      have i3 : (k : Int) < (b.length : Int) := by omega
      have hmr := mod_r64 (x * y)
      have hcad : wr.drew.cell? ⟨ba, oa + k, none⟩ = some (.int .i64 x) := hca
      have hcbd : wr.drew.cell? ⟨bb, ob + k, none⟩ = some (.int .i64 y) := hcb
      clear hx hy hs
      go_wp2_with fail
      go_region_held3 (fun w' => w'.cell? ⟨ba, oa + k, none⟩ = some (.int .i64 x) ∧ w'.cell? ⟨bb, ob + k, none⟩ = some (.int .i64 y)) (go_keep)
        (first
          | (go_at_call 25; with_reducible refine (mul_any x y _ hra hrb).mono ?_; rintro e w6 ⟨rfl, rfl⟩)
          | (go_at_call 24; with_reducible refine (add_any s (x * y % 1073741789) _ hsr hmr).mono ?_; rintro e w6 ⟨rfl, hb7⟩; have hk1 := below_cell hb7 hcad; have hk2 := below_cell hb7 hcbd))
      go_wp2_with fail
      go_roundw
      case rel => exact ⟨k + 1, by omega, by go_num, by rw [HF.out]; congr 1; omega, hb.drew.trans (hb7.mono hb.size)⟩
      case measure => simp [intOf]; omega
    · obtain rfl : k = a.length := by omega
      go_wp2_with fail
      go_ret
      exact ⟨rfl, hb⟩

end Go.Proofs.Ytjjdgphjkoppgaa
