/- The reference of package linear: rows less multiples of rows, and products. The reference's reduction: tables whose rows are lists that are read. -/
import Derived.Test.YtbegnincmlepgaaMLinM
import Derived.IntWalk
import Derived.Maps.AppendAt
namespace Go.Proofs.Ytbegnincmlepgaa
open Go.RowKit

/-- The element of a list, or 0. -/
def nth (l : List Int) (i : Nat) : Int := l[i]?.getD 0
theorem nth_at {l : List Int} {i : Nat} (h : i < l.length) : nth l i = l[i] := by unfold nth; rw [List.getElem?_eq_getElem h]; rfl
theorem nth_out {l : List Int} {i : Nat} (h : ¬ i < l.length) : nth l i = 0 := by unfold nth; rw [List.getElem?_eq_none (by omega)]; rfl

/-- A row less a multiple of another one. -/
def lessF (a b : List Int) (n : Int) : Nat → Int := fun i => (nth a i + -(n * nth b i % 1073741789)) % 1073741789
def lessQ (a b : List Int) (n : Int) : List Int := (List.range a.length).map (lessF a b n)
/-- The first K elements of a function, 0 behind. -/
def upTo (f : Nat → Int) (K : Nat) : Nat → Int := fun i => if i < K then f i else 0
theorem upTo_0 (f : Nat → Int) : upTo f 0 = fun _ => 0 := by funext i; unfold upTo; rw [if_neg (by omega)]
theorem upTo_s (f : Nat → Int) (K : Nat) : upTo f (K + 1) = fun i => if i = K then f K else upTo f K i := by
  funext i; unfold upTo
  by_cases e : i = K
  · rw [if_pos (by omega), if_pos e, e]
  · rw [if_neg e]
    by_cases h : i < K
    · rw [if_pos (by omega), if_pos h]
    · rw [if_neg (by omega), if_neg h]
theorem upTo_list (f : Nat → Int) (K : Nat) : (List.range K).map (upTo f K) = (List.range K).map f :=
  List.map_congr_left fun i hi => by unfold upTo; rw [if_pos (by simpa using hi)]

theorem Ints.get {w : World} {v : Value} {zs : List Int} (h : Ints w v zs) {k : Nat} (hk : k < zs.length) : R64 (nth zs k) ∧ ∃ b off n c, v = .slice (some ⟨b, off, none⟩) n c ∧ w.cell? ⟨b, off + k, none⟩ = some (.int .i64 (nth zs k)) := by
  obtain ⟨a, cap, rfl, h1, h2, h3, h4⟩ := h
  obtain ⟨b, off, rfl, hc⟩ := h4 k hk
  rw [nth_at hk]
  exact ⟨h3 _ (List.getElem_mem hk), b, off, _, _, rfl, hc⟩

set_option maxRecDepth 100000 in
set_option maxHeartbeats 4000000 in
theorem less_any (v u : Value) (a b : List Int) (n : Int) (w : World) (hI : Ints w v a) (hJ : Ints w u b) (hl : a.length ≤ b.length) (hn : R64 n) (hm : a.length ≤ 1000000) :
    Calls Try.prog 133 #[v, u, .int .i64 n] w fun e w' => e = .returned (.slice (some ⟨w.heap.size, 0, none⟩) a.length a.length) ∧ IBlk w' w.heap.size a.length (lessF a b n) ∧ Ints w' (.slice (some ⟨w.heap.size, 0, none⟩) a.length a.length) (lessQ a b n) ∧ Below w.heap.size w w' ∧ w.heap.size < w'.heap.size := by
  have HA := Lib.hid (fun k (hk : k < a.length) => hI.get hk)
  have HB := Lib.hid (fun k (hk : k < b.length) => hJ.get hk)
  obtain ⟨pa, ca, rfl, ha1, ha2, -, -⟩ := hI
  obtain ⟨pb, cb, rfl, hb1, hb2, -, -⟩ := hJ
  obtain ⟨H, hH⟩ : ∃ H, H = w.heap.size := ⟨_, rfl⟩
  have hmk := run_ints a.length hm
  go_enter Try.func133, Try.ntmps133
  go_wp2_with fail
  obtain ⟨W1, hW1⟩ : ∃ W1, w.alloc (.cells (madeCells #[.int .i64 0] a.length) 3) = W1 := ⟨_, rfl⟩
  have hI1 : IBlk W1 H a.length (upTo (lessF a b n) 0) := by rw [← hW1, hH, upTo_0]; exact IBlk.made _ _ _
  have hb1' : Below H w W1 := by rw [← hW1, hH]; exact (Below.refl _ _).alloc (Nat.le_refl _) _
  have hs1 : H < W1.heap.size := by rw [← hW1, hH]; simp
  rw [hW1, ← hH]
  have HH := Lib.hid hH
  clear hH hW1 hmk
  go_loopw [8] (fun i wr => ∃ k : Nat, k ≤ a.length ∧ i = .int .i64 k ∧ IBlk wr H a.length (upTo (lessF a b n) k) ∧ Below H w wr ∧ H < wr.heap.size) (fun i _ => a.length - (intOf i).toNat)
  case atStart => exact ⟨0, Nat.zero_le _, rfl, hI1, hb1', hs1⟩
  case round =>
    obtain ⟨k, hkl, rfl, hIk, hb, hs⟩ := hrel
    by_cases hlt : k < a.length
    · obtain ⟨hra, ba, oa, _, _, e1, hca⟩ := HA.out k hlt
      cases e1
      obtain ⟨hrb, bb, ob, _, _, e2, hcb⟩ := HB.out k (by omega)
      cases e2
      have hba : ba < H := by rw [HH.out]; exact lt_of_cell hca
      have hbb : bb < H := by rw [HH.out]; exact lt_of_cell hcb
      have hca : wr.cell? ⟨ba, oa + k, none⟩ = some (.int .i64 (nth a k)) := by rw [hb.cell (p := ⟨ba, oa + k, none⟩) hba]; exact hca
      have hcb : wr.cell? ⟨bb, ob + k, none⟩ = some (.int .i64 (nth b k)) := by rw [hb.cell (p := ⟨bb, ob + k, none⟩) hbb]; exact hcb
      have HF := Lib.hid (show lessF a b n k = (nth a k + -(n * nth b k % 1073741789)) % 1073741789 from rfl)
      have HU := Lib.hid (upTo_s (lessF a b n) k)
      obtain ⟨x, hx⟩ : ∃ x, x = nth a k := ⟨_, rfl⟩
      obtain ⟨y, hy⟩ : ∃ y, y = nth b k := ⟨_, rfl⟩
      rw [← hx] at hra hca HF
      rw [← hy] at hrb hcb HF
      have hyc := hIk.cell k hlt
      have hyf := hIk.fro k hlt
      have i1 : (0 : Int) ≤ (k : Int) := by omega
      have i2 : (k : Int) < (a.length : Int) := by omega
      have i3 : (k : Int) < (b.length : Int) := by omega
      have hm0 := mod_num (n * y)
      have hneg : R64 (-(n * y % 1073741789)) := by unfold R64; omega
      obtain ⟨z, hz⟩ : ∃ z, z = upTo (lessF a b n) k k := ⟨_, rfl⟩
      rw [← hz] at hyc
      clear hx hy hz
      go_wp2_with fail
      have hsx : ∀ v, (wr.setCell ⟨H, k, none⟩ v).drew.cell? ⟨ba, oa + k, none⟩ = some (.int .i64 x) := fun v => (set_other (W := wr) (u := v) (.inl (by omega))).trans hca
      have hsy : ∀ v, (wr.setCell ⟨H, k, none⟩ v).drew.cell? ⟨bb, ob + k, none⟩ = some (.int .i64 y) := fun v => (set_other (W := wr) (u := v) (.inl (by omega))).trans hcb
      have hwr : IntKind.i64.wrap (-(n * y % 1073741789)) = -(n * y % 1073741789) := IntWalk.i64_in _ (by omega)
      go_region_held3 (fun w' => w'.cell? ⟨ba, oa + k, none⟩ = some (.int .i64 x) ∧ w'.cell? ⟨bb, ob + k, none⟩ = some (.int .i64 y)) (first | go_keep | exact ⟨hsx _, hsy _⟩)
        (first
          | (go_at_call 104; with_reducible refine (rmul_any n y _ hn hrb).mono ?_; rintro e w6 ⟨rfl, rfl⟩)
          | (go_at_call 135; with_reducible refine (radd_any x (-(n * y % 1073741789)) _ hra hneg).mono ?_; rintro e w6 ⟨rfl, rfl⟩))
      clear hwr
      go_wp2_with fail
      have hI' := hIk.set (k := k) ((x + -(n * y % 1073741789)) % 1073741789)
      rw [← HF.out, ← HU.out] at hI'
      rw [HF.out] at hI'
      go_roundw
      case rel => exact ⟨k + 1, by omega, by go_num, ⟨hI'.cell, hI'.fro⟩, (hb.setCell (Nat.le_refl _) _).drew, by simp [World.setCell]; exact hs⟩
      case measure => simp [intOf]; omega
    · obtain rfl : k = a.length := by omega
      have hI' := hIk.ints (Nat.le_refl _) ha2 (fun i hi => by unfold upTo; rw [if_pos hi]; exact mod_r64 _)
      rw [upTo_list] at hI'
      go_wp2_with fail
      go_ret
      rw [← HH.out]
      refine ⟨rfl, ⟨fun i hi => by rw [hIk.cell i hi]; unfold upTo; rw [if_pos hi], hIk.fro⟩, hI', hb, hs⟩

/-- A row times a number. -/
def timesQ (a : List Int) (n : Int) : List Int := (List.range a.length).map fun i => n * nth a i % 1073741789
theorem zeros_len (k : Nat) : ((List.range k).map fun _ => (0 : Int)).length = k := by simp
theorem nth_zeros (k i : Nat) : nth ((List.range k).map fun _ => (0 : Int)) i = 0 := by
  unfold nth
  by_cases h : i < k
  · simp [h]
  · rw [List.getElem?_eq_none (by simpa using h)]; rfl
theorem less_zeros (a : List Int) (n : Int) : lessQ ((List.range a.length).map fun _ => (0 : Int)) a (-n) = timesQ a n := by
  unfold lessQ timesQ
  rw [zeros_len]
  refine List.map_congr_left fun i _ => ?_
  unfold lessF
  rw [nth_zeros, Int.neg_mul]; omega

set_option maxRecDepth 100000 in
set_option maxHeartbeats 4000000 in
theorem times_any (v : Value) (a : List Int) (n : Int) (w : World) (hI : Ints w v a) (hn : 0 ≤ n ∧ n < 1073741789) (hm : a.length ≤ 1000000) :
    Calls Try.prog 116 #[v, .int .i64 n] w fun e w' => (∃ b, e = .returned (.slice (some ⟨b, 0, none⟩) a.length a.length) ∧ w.heap.size < b ∧ Ints w' (.slice (some ⟨b, 0, none⟩) a.length a.length) (timesQ a n)) ∧ Below w.heap.size w w' := by
  have hI0 := hI
  obtain ⟨pa, ca, rfl, ha1, ha2, -, -⟩ := hI
  have HZ := Lib.hid (less_zeros a n)
  have hmk := run_ints a.length hm
  have hneg : R64 (-n) := by unfold R64; omega
  go_enter Try.func116, Try.ntmps116
  go_wp2_with fail
  obtain ⟨W1, hW1⟩ : ∃ W1, w.alloc (.cells (madeCells #[.int .i64 0] a.length) 3) = W1 := ⟨_, rfl⟩
  have hI1 : Ints W1 (.slice (some ⟨w.heap.size, 0, none⟩) a.length a.length) ((List.range a.length).map fun _ => (0 : Int)) := by
    rw [← hW1]; exact (IBlk.made _ _ _).ints (Nat.le_refl _) ha2 (fun _ _ => by unfold R64; omega)
  have hb1 : Below w.heap.size w W1 := by rw [← hW1]; exact (Below.refl _ _).alloc (Nat.le_refl _) _
  have hs1 : W1.heap.size = w.heap.size + 1 := by rw [← hW1]; simp
  have HS := Lib.hid hs1
  rw [hW1]
  clear hW1 hmk hs1
  have hz := zeros_len a.length
  have HL := Lib.hid hz
  have hJ1 := hI0.below hb1
  have hc := less_any _ _ _ a (-n) W1 hI1 hJ1 (by rw [hz]; exact Nat.le_refl _) hneg (by rw [hz]; exact hm)
  rw [hz] at hc
  clear hz
  have HC := Lib.hid hc
  clear hc
  with_reducible refine HC.out.mono ?_
  rintro e w2 ⟨rfl, -, hI2, hb2, hs2⟩
  rw [HZ.out] at hI2
  go_wp2_with fail
  go_ret
  refine ⟨⟨_, rfl, by rw [HS.out]; omega, hI2⟩, hb1.trans (hb2.mono (by rw [HS.out]; omega))⟩

/-- The product of two lists, after K elements. -/
def prodF (a b : List Int) : Nat → Int
  | 0 => 0
  | k + 1 => (prodF a b k + nth a k * nth b k % 1073741789) % 1073741789
def prodQ (a b : List Int) : Int := prodF a b a.length
theorem prodF_num (a b : List Int) : ∀ k, 0 ≤ prodF a b k ∧ prodF a b k < 1073741789
  | 0 => by simp [prodF]
  | k + 1 => mod_num _

set_option maxRecDepth 100000 in
set_option maxHeartbeats 4000000 in
theorem rProduct_any (v u : Value) (a b : List Int) (w : World) (hI : Ints w v a) (hJ : Ints w u b) (hl : a.length ≤ b.length) :
    Calls Try.prog 114 #[v, u] w fun e w' => e = .returned (.int .i64 (prodQ a b)) ∧ Below w.heap.size w w' := by
  have HA := Lib.hid (fun k (hk : k < a.length) => hI.get hk)
  have HB := Lib.hid (fun k (hk : k < b.length) => hJ.get hk)
  obtain ⟨pa, ca, rfl, ha1, ha2, -, -⟩ := hI
  obtain ⟨pb, cb, rfl, hb1, hb2, -, -⟩ := hJ
  go_enter Try.func114, Try.ntmps114
  go_wp2_with fail
  go_loopw [5, 6] (fun s i wr => ∃ k : Nat, k ≤ a.length ∧ i = .int .i64 k ∧ s = .int .i64 (prodF a b k) ∧ Below w.heap.size w wr) (fun _ i _ => a.length - (intOf i).toNat)
  case atStart => exact ⟨0, Nat.zero_le _, rfl, rfl, Below.refl _ _⟩
  case round =>
    obtain ⟨k, hkl, rfl, rfl, hb⟩ := hrel
    by_cases hlt : k < a.length
    · obtain ⟨hra, ba, oa, _, _, e1, hca⟩ := HA.out k hlt
      cases e1
      obtain ⟨hrb, bb, ob, _, _, e2, hcb⟩ := HB.out k (by omega)
      cases e2
      have hca := below_cell hb hca
      have hcb := below_cell hb hcb
      have HF := Lib.hid (show prodF a b (k + 1) = (prodF a b k + nth a k * nth b k % 1073741789) % 1073741789 from rfl)
      have hsr := num_r64 (prodF_num a b k)
      obtain ⟨x, hx⟩ : ∃ x, x = nth a k := ⟨_, rfl⟩
      obtain ⟨y, hy⟩ : ∃ y, y = nth b k := ⟨_, rfl⟩
      obtain ⟨s, hs⟩ : ∃ s, s = prodF a b k := ⟨_, rfl⟩
      rw [← hx] at hra hca HF
      rw [← hy] at hrb hcb HF
      rw [← hs] at hsr HF ⊢
      have i1 : (0 : Int) ≤ (k : Int) := by omega
      have i2 : (k : Int) < (a.length : Int) := by omega
      have i3 : (k : Int) < (b.length : Int) := by omega
      have hmr := mod_r64 (x * y)
      have hcad : wr.drew.cell? ⟨ba, oa + k, none⟩ = some (.int .i64 x) := hca
      have hcbd : wr.drew.cell? ⟨bb, ob + k, none⟩ = some (.int .i64 y) := hcb
      clear hx hy hs
      go_wp2_with fail
      go_region_held3 (fun w' => w'.cell? ⟨ba, oa + k, none⟩ = some (.int .i64 x) ∧ w'.cell? ⟨bb, ob + k, none⟩ = some (.int .i64 y)) (go_keep)
        (first
          | (go_at_call 104; with_reducible refine (rmul_any x y _ hra hrb).mono ?_; rintro e w6 ⟨rfl, rfl⟩)
          | (go_at_call 135; with_reducible refine (radd_any s (x * y % 1073741789) _ hsr hmr).mono ?_; rintro e w6 ⟨rfl, rfl⟩))
      go_wp2_with fail
      go_roundw
      case rel => exact ⟨k + 1, by omega, by go_num, by rw [HF.out]; congr 1; omega, hb.drew⟩
      case measure => simp [intOf]; omega
    · obtain rfl : k = a.length := by omega
      go_wp2_with fail
      go_ret
      exact ⟨rfl, hb⟩

end Go.Proofs.Ytbegnincmlepgaa

namespace Go.Proofs.Ytbegnincmlepgaa
open Go.RowKit

/-- The first m elements of a row. -/
def rowM (m : Nat) (f : Nat → Int) : List Int := (List.range m).map f
theorem rowM_len (m : Nat) (f : Nat → Int) : (rowM m f).length = m := by simp [rowM]
theorem nth_rowM {m : Nat} {f : Nat → Int} {i : Nat} (h : i < m) : nth (rowM m f) i = f i := by unfold nth rowM; simp [h]
theorem rowM_congr {m : Nat} {f g : Nat → Int} (h : ∀ j, j < m → f j = g j) : rowM m f = rowM m g := List.map_congr_left fun j hj => h j (by simpa using hj)
theorem rowM_of (l : List Int) : rowM l.length (nth l) = l := by
  apply List.ext_getElem
  · simp [rowM]
  · intro i h1 h2
    simp [rowM, nth_at h2]
theorem less_rowM (m : Nat) (f g : Nat → Int) (n : Int) : lessQ (rowM m f) (rowM m g) n = rowM m fun j => (f j + -(n * g j % 1073741789)) % 1073741789 := by
  unfold lessQ
  rw [rowM_len]
  exact rowM_congr fun j hj => by unfold lessF; rw [nth_rowM hj, nth_rowM hj]
theorem times_rowM (m : Nat) (f : Nat → Int) (n : Int) : timesQ (rowM m f) n = rowM m fun j => n * f j % 1073741789 := by
  unfold timesQ
  rw [rowM_len]
  exact rowM_congr fun j hj => by rw [nth_rowM hj]

/-! The reference's reduction, as a function. -/
def ownR (X : Mat) (c k : Nat) : Nat → Int := fun j => invQ (X k c) * X k j % 1073741789
def putM (X : Mat) (i : Nat) (f : Nat → Int) : Mat := fun i' j => if i' = i then f j else X i' j
def lessA (X : Mat) (f : Nat → Int) (c q : Nat) : Mat := fun i j => if i < q then (X i j + -(X i c * f j % 1073741789)) % 1073741789 else X i j
def pivR (X : Mat) (n r c k : Nat) : Mat := putM (lessA (putM X k (X r)) (ownR X c k) c n) r (ownR X c k)
def stepR (n : Nat) (s : Mat × List Nat) (c : Nat) : Mat × List Nat :=
  if findP s.1 n c s.2.length < n then (pivR s.1 n s.2.length c (findP s.1 n c s.2.length), s.2 ++ [c]) else s
def redR (n : Nat) (X : Mat) (many : Nat) : Mat × List Nat := (List.range many).foldl (stepR n) (X, [])
theorem redR_succ (n : Nat) (x : Mat) (many : Nat) : redR n x (many + 1) = stepR n (redR n x many) many := by
  unfold redR; rw [List.range_succ, List.foldl_append]; rfl
theorem stepR_none {n : Nat} {x : Mat} {piv : List Nat} {c : Nat} (h : findP x n c piv.length = n) : stepR n (x, piv) c = (x, piv) := by
  unfold stepR; rw [if_neg]; show ¬ findP x n c piv.length < n; omega
theorem stepR_some {n : Nat} {x : Mat} {piv : List Nat} {c k : Nat} (h : findP x n c piv.length = k) (hk : k < n) : stepR n (x, piv) c = (pivR x n piv.length c k, piv ++ [c]) := by
  unfold stepR
  have h' : findP (x, piv).1 n c (x, piv).2.length = k := h
  rw [h', if_pos hk]
theorem redR_len (n : Nat) (x : Mat) : ∀ c, (redR n x c).2.length ≤ n
  | 0 => by simp [redR]
  | c + 1 => by
    rw [redR_succ]
    have ih := redR_len n x c
    generalize redR n x c = s at ih
    unfold stepR
    split
    · have := findP_ge s.1 n c s.2.length
      simp; omega
    · exact ih
theorem lessA_step (X : Mat) (f : Nat → Int) (c q : Nat) : lessA X f c (q + 1) = putM (lessA X f c q) q (fun j => (lessA X f c q q j + -(lessA X f c q q c * f j % 1073741789)) % 1073741789) := by
  funext i j
  simp only [lessA, putM]
  by_cases e : i = q
  · subst e; simp
  · rw [if_neg e]
    by_cases h : i < q
    · rw [if_pos (by omega), if_pos h]
    · rw [if_neg (by omega), if_neg h]
theorem lessA_0 (X : Mat) (f : Nat → Int) (c : Nat) : lessA X f c 0 = X := by funext i j; unfold lessA; rw [if_neg (by omega)]

/-! Numbers stay numbers. -/
def NumM (n m : Nat) (X : Mat) : Prop := ∀ i j, i < n → j < m → 0 ≤ X i j ∧ X i j < 1073741789
theorem NumM.put {n m : Nat} {X : Mat} (h : NumM n m X) {i : Nat} {f : Nat → Int} (hf : ∀ j, j < m → 0 ≤ f j ∧ f j < 1073741789) : NumM n m (putM X i f) := fun i' j hi hj => by
  unfold putM; split
  · exact hf j hj
  · exact h i' j hi hj
theorem NumM.less {n m : Nat} {X : Mat} (h : NumM n m X) (f : Nat → Int) (c q : Nat) : NumM n m (lessA X f c q) := fun i j hi hj => by
  unfold lessA; split
  · exact mod_num _
  · exact h i j hi hj
theorem NumM.pivR {n m : Nat} {X : Mat} (h : NumM n m X) {r c k : Nat} (hr : r < n) : NumM n m (pivR X n r c k) :=
  ((h.put fun j hj => h r j hr hj).less _ _ _).put fun _ _ => mod_num _
theorem redR_num {n m : Nat} {X : Mat} (h : NumM n m X) : ∀ c, NumM n m (redR n X c).1
  | 0 => h
  | c + 1 => by
    rw [redR_succ]
    have ih := redR_num h c
    generalize redR n X c = s at ih
    unfold stepR
    split
    · rename_i hk
      exact ih.pivR (Nat.lt_of_le_of_lt (findP_ge s.1 n c s.2.length) hk)
    · exact ih

/-! The table in memory. -/

/-- A store into a cell that holds a slice leaves all slices of integers as they were. -/
theorem Ints.store {W : World} {v : Value} {zs : List Int} (h : Ints W v zs) {b o : Nat} {a : Option Addr} {n c : Nat} (hp : W.cell? ⟨b, o, none⟩ = some (.slice a n c)) (u : Value) : Ints (W.setCell ⟨b, o, none⟩ u) v zs := by
  obtain ⟨p, cap, rfl, h1, h2, h3, h4⟩ := h
  refine ⟨p, cap, rfl, h1, h2, h3, fun k hk => ?_⟩
  obtain ⟨b', off, e, hc⟩ := h4 k hk
  refine ⟨b', off, e, ?_⟩
  by_cases e1 : b = b' ∧ o = off + k
  · obtain ⟨rfl, rfl⟩ := e1
    rw [hp] at hc; cases hc
  · rw [set_other (by
      by_cases e2 : b = b'
      · exact .inr fun e3 => e1 ⟨e2, e3⟩
      · exact .inl e2)]; exact hc

structure RTab (S B0 : Nat) (a : Option Addr) (n m : Nat) (X : Mat) (pv : Value) (W : World) : Prop where
  blk : 0 < n → ∃ B, a = some ⟨B, 0, none⟩ ∧ S ≤ B ∧ B < B0
  row : ∀ i B, a = some ⟨B, 0, none⟩ → i < n → ∃ p c, W.cell? ⟨B, i, none⟩ = some (.slice p m c) ∧ W.frozen? ⟨B, i, none⟩ = false ∧ Ints W (.slice p m c) (rowM m (X i)) ∧ (0 < m → ∀ g, pv.ownBlock = some g → (Value.slice p m c).ownBlock ≠ some g)

theorem RTab.below {S B0 : Nat} {a : Option Addr} {n m : Nat} {X : Mat} {pv : Value} {W W' : World} (h : RTab S B0 a n m X pv W) (hb : Below W.heap.size W W') : RTab S B0 a n m X pv W' :=
  ⟨h.blk, fun i B e hi => by
    obtain ⟨p, c, h1, h2, h3, h4⟩ := h.row i B e hi
    exact ⟨p, c, below_cell hb h1, by rw [hb.frozen (p := ⟨B, i, none⟩) (lt_of_cell h1)]; exact h2, h3.below hb, h4⟩⟩
theorem RTab.drew {S B0 : Nat} {a : Option Addr} {n m : Nat} {X : Mat} {pv : Value} {W : World} (h : RTab S B0 a n m X pv W) : RTab S B0 a n m X pv W.drew := h.below (Below.refl _ _).drew
theorem RTab.congr {S B0 : Nat} {a : Option Addr} {n m : Nat} {X Y : Mat} {pv : Value} {W : World} (h : RTab S B0 a n m X pv W) (e : ∀ i j, i < n → j < m → X i j = Y i j) : RTab S B0 a n m Y pv W :=
  ⟨h.blk, fun i B ea hi => by
    obtain ⟨p, c, h1, h2, h3, h4⟩ := h.row i B ea hi
    exact ⟨p, c, h1, h2, by rw [← rowM_congr (fun j hj => e i j hi hj)]; exact h3, h4⟩⟩
theorem RTab.store {S B0 B : Nat} {n m : Nat} {X : Mat} {pv : Value} {W : World} (h : RTab S B0 (some ⟨B, 0, none⟩) n m X pv W) {i : Nat} (hi : i < n) {p : Option Addr} {c : Nat} {f : Nat → Int} (hf : Ints W (.slice p m c) (rowM m f)) (ho : 0 < m → ∀ g, pv.ownBlock = some g → (Value.slice p m c).ownBlock ≠ some g) :
    RTab S B0 (some ⟨B, 0, none⟩) n m (putM X i f) pv (W.setCell ⟨B, i, none⟩ (.slice p m c)) :=
  ⟨h.blk, fun i' B' e hi' => by
    obtain rfl : B' = B := by cases e; rfl
    obtain ⟨p0, c0, h1, h2, h3, h4⟩ := h.row i B' rfl hi
    by_cases e : i' = i
    · subst e
      refine ⟨p, c, World.cell?_setCell_same' _ _ _ (by rw [h1]; rfl), by rw [World.frozen?_setCell]; exact h2, ?_, ho⟩
      have : putM X i' f i' = f := by funext j; unfold putM; rw [if_pos rfl]
      rw [this]; exact hf.store h1 _
    · obtain ⟨p', c', k1, k2, k3, k4⟩ := h.row i' B' rfl hi'
      refine ⟨p', c', by rw [set_other (.inr (fun e' => e e'.symm))]; exact k1, by rw [World.frozen?_setCell]; exact k2, ?_, k4⟩
      have : putM X i f i' = X i' := by funext j; unfold putM; rw [if_neg e]
      rw [this]; exact k3.store h1 _⟩

/-- The pivots grow. -/
theorem RTab.grown {S B0 : Nat} {a : Option Addr} {n m : Nat} {X : Mat} {pv pv' : Value} {W W' : World} (h : RTab S B0 a n m X pv W) (hg : W.grownBy W' pv.ownBlock) (hB : ∀ g, pv.ownBlock = some g → B0 ≤ g) (ho : pv'.ownBlock = pv.ownBlock ∨ pv'.ownBlock = some W.heap.size) : RTab S B0 a n m X pv' W' := by
  refine ⟨h.blk, fun i B e hi => ?_⟩
  obtain ⟨p, c, h1, h2, h3, h4⟩ := h.row i B e hi
  have hlt := lt_of_cell h1
  have hne : pv.ownBlock ≠ some B := fun e' => by
    obtain ⟨B', e2, _, h5⟩ := h.blk (by omega)
    rw [e] at e2
    obtain rfl : B = B' := by cases e2; rfl
    have := hB _ e'; omega
  have cellEq : ∀ (b o : Nat) (u : Value), pv.ownBlock ≠ some b → W.cell? ⟨b, o, none⟩ = some u → W'.cell? ⟨b, o, none⟩ = some u := fun b o u hne hc => by
    rw [World.cell?_of_block (w := W) (w' := W') (a := ⟨b, o, none⟩) (hg.block b (lt_of_cell hc) hne.symm)]; exact hc
  refine ⟨p, c, cellEq B i _ hne h1, ?_, ?_, ?_⟩
  · rw [World.frozen?_of_block (w := W) (w' := W') (a := ⟨B, i, none⟩) (hg.block B hlt hne.symm)]; exact h2
  · obtain ⟨p', c', e1, q1, q2, q3, q4⟩ := h3
    refine ⟨p', c', e1, q1, q2, q3, fun k hk => ?_⟩
    obtain ⟨b', off, e2, hc⟩ := q4 k hk
    refine ⟨b', off, e2, cellEq b' _ _ (fun e3 => ?_) hc⟩
    rw [rowM_len] at hk
    refine h4 (by omega) b' e3 ?_
    injection e1 with e5; subst e5; subst e2; rfl
  · intro hm g hgg
    rcases ho with ho | ho
    · rw [ho] at hgg; exact h4 hm g hgg
    · rw [ho] at hgg
      cases hgg
      obtain ⟨p', c', e1, q1, q2, q3, q4⟩ := h3
      obtain ⟨b', off, e2, hc⟩ := q4 0 (by rw [rowM_len]; exact hm)
      injection e1 with e5; subst e5; subst e2
      have := lt_of_cell hc
      intro e4
      have e5 : some b' = some W.heap.size := e4
      injection e5 with e6
      exact absurd this (by show ¬ b' < _; omega)

end Go.Proofs.Ytbegnincmlepgaa
