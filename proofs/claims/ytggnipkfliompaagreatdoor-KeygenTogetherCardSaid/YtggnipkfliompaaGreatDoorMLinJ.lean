/- Package linear: Combine. Package linear: Separate. Package linear: Separate, where there are columns. The reference of package linear: what its small functions compute. The reference of program: Check. The reference of package linear: Check, Error, Few. The reference of package linear: rows less multiples of rows, and products. -/
import Derived.Test.YtggnipkfliompaaGreatDoorMLinF
import Derived.Test.YtggnipkfliompaaGreatDoorMDeaA
import Derived.BigQuiet
import Derived.IntWalk
set_option maxHeartbeats 8000000
set_option maxRecDepth 100000
namespace Go.Proofs.YtggnipkfliompaaGreatDoor
open Go.RowKit
theorem Combine_err (v u : Value) (rows : List (List Int)) (t : List Int) (w : World) (hI : Rows2 w v rows) (hU : Ints w u t) (h0 : examErr rows t ≠ 0) :
  Calls Tryz.prog 117 #[v, u] w fun e w' => e = .returned (.tuple #[.slice none 0 0, .bool false, .int .i64 (examErr rows t)]) ∧ Below w.heap.size w w' := by
 have hb0 : Below w.heap.size w (w.alloc (.cells #[.int .i64 0] 35)) := (Below.refl _ _).alloc (Nat.le_refl _) _
 have hI1 := hI.below hb0
 have hU1 := hU.below hb0
 have H0 := Lib.hid h0
 clear h0
 go_enter_defers Tryz.func117, Tryz.ntmps117
 go_wp2_with fail
 with_reducible refine (mono_ending (examine_any _ _ rows t _ hI1 hU1) (raised_not H0.out)).mono ?_
 rintro e w1 ⟨rfl, hb⟩
 obtain ⟨hc1, hf1⟩ := box_later hb
 refine leaves_cons (f := 178) (args := #[.pointer (some ⟨w.heap.size, 0, none⟩)]) (by simp) (by simp [go_sem]) ?_
 refine (caught_panicking _ 0 (examErr rows t) [] _ hc1 hf1).mono ?_
 rintro e u' w'' ⟨rfl, rfl, rfl⟩
 have hx := World.cell?_setCell_same' w1 ⟨w.heap.size, 0, none⟩ (.int .i64 (examErr rows t)) (by rw [hc1]; rfl)
 simp [Leaves, settle, results, Tryz.results117, go_sem, hx, below_box hb]
theorem slice_tail (B n k : Nat) (hk : k ≤ n) : ∃ o, (k < n → o = k) ∧ ∀ W : World, (Instr.sliceAt 187 (.slice (some ⟨B, 0, none⟩) n n) (some (.int .i64 k)) none none).run Tryz.prog W = .ok (.slice (some ⟨B, o, none⟩) (n - k) (n - k)) W := by
 have hu := Tryz.underlying187
 have hs : ∀ W : World, (Instr.slice 187 (.slice (some ⟨B, 0, none⟩) n n) (some (.int .i64 k)) none none).run Tryz.prog W = ((sizeOf (Tryz.prog.elem 187)).run Tryz.prog W).andThen fun s w => .ok (sliced (some ⟨B, 0, none⟩) (k : Int).toNat n n s) w := fun W =>
  run_slice_l (P := Tryz.prog) (w := W) 187 (some ⟨B, 0, none⟩) n n hu .i64 k (by omega) (by omega)
 have h1 : ∀ W : World, (sizeOf (Tryz.prog.elem 187)).run Tryz.prog W = .ok 1 W := fun W => by kernel_rfl
 rcases Nat.lt_or_ge k n with h | h
 ·refine ⟨k, fun _ => rfl, fun W => ?_⟩
  rw [run_sliceAt_slice (P := Tryz.prog) (w := W) _ _ _ _ _ hu, hs, h1]
  have : n ≠ k := by omega
  simp [sliced, Result.andThen, this, Addr.add]
  omega
 ·obtain rfl : n = k := by omega
  refine ⟨0, fun h => absurd h (Nat.lt_irrefl _), fun W => ?_⟩
  rw [run_sliceAt_slice (P := Tryz.prog) (w := W) _ _ _ _ _ hu, hs, h1]
  simp [sliced, Result.andThen]
structure IBlk (W : World) (b n : Nat) (f : Nat → Int) : Prop where
 cell : ∀ i, i < n → W.cell? ⟨b, i, none⟩ = some (.int .i64 (f i))
 fro : ∀ i, i < n → W.frozen? ⟨b, i, none⟩ = false
theorem IBlk.below {W W' : World} {b n S : Nat} {f : Nat → Int} (h : IBlk W b n f) (hb : Below S W W') (hS : b < S) : IBlk W' b n f :=
 ⟨fun i hi => by rw [hb.cell (p := ⟨b, i, none⟩) hS]; exact h.cell i hi, fun i hi => by rw [hb.frozen (p := ⟨b, i, none⟩) hS]; exact h.fro i hi⟩
theorem IBlk.made (W : World) (n : Nat) (t : TypeId) : IBlk (W.alloc (.cells (madeCells #[.int .i64 0] n) t)) W.heap.size n (fun _ => 0) :=
 ⟨fun i hi => by rw [World.cell?_alloc_at _ _ _ _ rfl]; simp [madeCells, hi, Nat.mod_one], fun i _ => World.frozen?_alloc_at _ _ _ _ rfl⟩
theorem IBlk.set {W : World} {b n k : Nat} {f : Nat → Int} (h : IBlk W b n f) (z : Int) : IBlk (W.setCell ⟨b, k, none⟩ (.int .i64 z)) b n (fun i => if i = k then z else f i) :=
 ⟨fun i hi => by
  by_cases e : k = i
  ·subst e
   show _ = some (Value.int .i64 (if k = k then z else f k))
   rw [if_pos rfl]
   exact World.cell?_setCell_same' _ _ _ (by rw [h.cell k hi]; rfl)
  ·show _ = some (Value.int .i64 (if i = k then z else f i))
   rw [if_neg (fun e' => e e'.symm), set_other (.inr e)]; exact h.cell i hi, fun i hi => by rw [World.frozen?_setCell]; exact h.fro i hi⟩
theorem IBlk.other {W : World} {b n b' o : Nat} {f : Nat → Int} (h : IBlk W b n f) (hb : b' ≠ b) (v : Value) : IBlk (W.setCell ⟨b', o, none⟩ v) b n f :=
 ⟨fun i hi => by rw [set_other (.inl hb)]; exact h.cell i hi, fun i hi => by rw [World.frozen?_setCell]; exact h.fro i hi⟩
theorem IBlk.ints {W : World} {b n c : Nat} {f : Nat → Int} (h : IBlk W b n f) (hc : n ≤ c) (hn : n ≤ 17592186044416) (hr : ∀ i, i < n → R64 (f i)) : Ints W (.slice (some ⟨b, 0, none⟩) n c) ((List.range n).map f) := by
 refine ⟨_, c, by simp, by simpa using hc, by simpa using hn, fun z hz => ?_, fun k hk => ⟨b, 0, rfl, ?_⟩⟩
 ·obtain ⟨i, hi, rfl⟩ := List.mem_map.1 hz
  exact hr i (by simpa using hi)
 ·simp at hk; rw [Nat.zero_add, h.cell k hk]; simp
theorem infoI : (Tryz.prog.info? 3).map (fun i => (i.zero, i.size, i.bytes)) = some (some (.int .i64 0), 1, 8) := by kernel_rfl
theorem run_ints (n : Nat) (hn : n ≤ 1000000) (w : World) : (Instr.makeSlice 23 (.int .i64 (n : Int)) (.int .i64 (n : Int))).run Tryz.prog w = .ok (.slice (some ⟨w.heap.size, 0, none⟩) n n) (w.alloc (.cells (madeCells #[.int .i64 0] n) 3)) :=
 run_make_row' (P := Tryz.prog) 23 3 (.int .i64 0) 8 Tryz.underlying23 infoI rfl .i64 .i64 n (by omega) (by omega) w
theorem stepM_lt {n c : Nat} {s : Mat × List Nat} (h : ∀ p ∈ s.2, p < c) : ∀ p ∈ (stepM n s c).2, p < c + 1 := by
 unfold stepM
 split
 ·intro p hp
  rcases List.mem_append.1 hp with h1 | h1
  ·exact Nat.lt_succ_of_lt (h p h1)
  ·rw [List.mem_singleton.1 h1]; omega
 ·exact fun p hp => Nat.lt_succ_of_lt (h p hp)
theorem redM_lt (n : Nat) (x : Mat) : ∀ c, ∀ p ∈ (redM n x c).2, p < c
 | 0 => by simp [redM]
 | c + 1 => by rw [redM_succ]; exact stepM_lt (redM_lt n x c)
def combM (rows : List (List Int)) (t : List Int) : Mat × List Nat := redM t.length (turnMat rows t) rows.length
def combOk (rows : List (List Int)) (t : List Int) : Bool := (List.range (t.length - (combM rows t).2.length)).all fun j => (combM rows t).1 ((combM rows t).2.length + j) rows.length == 0
def combF (x : Mat) (piv : List Nat) (n : Nat) : Nat → Nat → Int
 | 0 => fun _ => 0
 | k + 1 => fun i => if i = piv[k]?.getD 0 then x k n else combF x piv n k i
def combY (rows : List (List Int)) (t : List Int) : List Int := (List.range rows.length).map (combF (combM rows t).1 (combM rows t).2 rows.length (combM rows t).2.length)
theorem combOk_no {x : Mat} {n m r q : Nat} (hq : q < m - r) (h : x (r + q) n ≠ 0) : (List.range (m - r)).all (fun j => x (r + j) n == 0) = false := by
 rw [List.all_eq_false]; exact ⟨q, by simpa using hq, by simpa using h⟩
theorem combOk_yes {x : Mat} {n m r : Nat} (h : ∀ j, j < m - r → x (r + j) n = 0) : (List.range (m - r)).all (fun j => x (r + j) n == 0) = true := by
 rw [List.all_eq_true]; intro j hj; simp at hj; simpa using h j hj
theorem combF_num {x : Mat} {piv : List Nat} {n m : Nat} (h : ∀ k, k < m → 0 ≤ x k n ∧ x k n < 1073741789) : ∀ K, K ≤ m → ∀ i, 0 ≤ combF x piv n K i ∧ combF x piv n K i < 1073741789
 | 0, _, i => by simp [combF]
 | K + 1, hK, i => by
  show 0 ≤ (if i = piv[K]?.getD 0 then x K n else combF x piv n K i) ∧ (if i = piv[K]?.getD 0 then x K n else combF x piv n K i) < 1073741789
  split
  ·exact h K (by omega)
  ·exact combF_num h K (by omega) i
theorem owns_pivots {W : World} {B : Nat} {pp : Option Addr} {pc n : Nat} {piv : List Nat} (h : W.ownsRow B 3 1 (.slice pp n pc) piv.length (piv.map fun (k : Nat) => Value.int .i64 (k : Int))) (hn : 0 < piv.length) :
  ∃ g, pp = some ⟨g, 0, none⟩ ∧ B ≤ g ∧ g < W.heap.size ∧ ∀ k (hk : k < piv.length), W.cell? ⟨g, k, none⟩ = some (.int .i64 (piv[k] : Nat)) := by
 have e : piv.map (fun (k : Nat) => Value.int .i64 (k : Int)) = (piv.map (fun k : Nat => (k : Int))).map (Value.int .i64) := by rw [List.map_map]; rfl
 have h' : W.ownsRow B 3 1 (.slice pp n pc) (piv.map (fun k : Nat => (k : Int))).length ((piv.map (fun k : Nat => (k : Int))).map (Value.int .i64)) := by rw [List.length_map, ← e]; exact h
 obtain ⟨g, c, he, h1, h2, h3⟩ := owns_cells h' (by simpa using hn)
 refine ⟨g, by cases he; rfl, h1, h2, fun k hk => ?_⟩
 have := (h3 k (by simpa using hk)).1
 simpa using this
def CombPost (rows : List (List Int)) (t : List Int) (w : World) (e : Ending) (w' : World) : Prop :=
 ∃ yv, e = .returned (.tuple #[yv, .bool (decide (examErr rows t = 0) && combOk rows t), .int .i64 (examErr rows t)]) ∧ Ints w' yv (if examErr rows t = 0 ∧ combOk rows t = true then combY rows t else []) ∧ Below w.heap.size w w'
theorem Combine_ok (v u : Value) (rows : List (List Int)) (t : List Int) (w : World) (hI : Rows2 w v rows) (hU : Ints w u t) (h0 : examErr rows t = 0) (hR : Right rows t.length) (hT : ∀ z ∈ t, 0 ≤ z ∧ z < 1073741789) (ht : t.length ≤ 64) :
  Calls Tryz.prog 117 #[v, u] w (CombPost rows t w) := by
 have hb0 : Below w.heap.size w (w.alloc (.cells #[.int .i64 0] 35)) := (Below.refl _ _).alloc (Nat.le_refl _) _
 have hI1 := hI.below hb0
 have hU1 := hU.below hb0
 have H0 := Lib.hid h0
 clear h0
 obtain ⟨a, cap, rfl, hcap, hlen, -⟩ := hI
 obtain ⟨a2, cap2, rfl, hcap2, hlen2, -⟩ := hU
 obtain ⟨hr1, hr2, hr3, hr4⟩ := hR
 have HL := Lib.hid hr3
 have HN := Lib.hid hr4
 have HT := Lib.hid hT
 clear hr3 hr4 hT
 go_enter_defers Tryz.func117, Tryz.ntmps117
 go_wp2_with fail
 with_reducible refine (mono_ending (examine_any _ _ rows t _ hI1 hU1) (raised_zero H0.out)).mono ?_
 rintro e w1 ⟨rfl, hb⟩
 obtain ⟨hc1, hf1⟩ := box_later hb
 have hI2 := hI1.below hb
 have hU2 := hU1.below hb
 go_wp2_with fail
 with_reducible refine (turned_any _ _ rows t _ hI2 hU2 HL.out HN.out HT.out (by omega) (by omega)).mono ?_
 rintro e w2 ⟨rb, rfl, hT2, hs2, hb2⟩
 have hc2 := below_cell hb2 hc1
 have hlt1 := lt_of_cell hc1
 have hf2 : w2.frozen? ⟨w.heap.size, 0, none⟩ = false := by rw [hb2.frozen (p := ⟨w.heap.size, 0, none⟩) hlt1]; exact hf1
 go_wp2_with fail
 with_reducible refine (reduce_any w1.heap.size w1.heap.size rb t.length (rows.length + 1) _ _ hT2 hs2 (Nat.le_of_lt hs2) _ rows.length (by omega) (by omega) (by omega) (by omega)).mono ?_
 rintro e w3 ⟨pv, rb', rfl, hown3, hT3, hb3⟩
 have hc3 : w3.cell? ⟨w.heap.size, 0, none⟩ = some (.int .i64 0) := by rw [hb3.cell (p := ⟨w.heap.size, 0, none⟩) hlt1]; exact hc2
 have hf3 : w3.frozen? ⟨w.heap.size, 0, none⟩ = false := by rw [hb3.frozen (p := ⟨w.heap.size, 0, none⟩) hlt1]; exact hf2
 have hbw : Below w.heap.size w w3 := (lbelow_new hb).trans (((hb2.mono (Nat.le_of_lt hlt1))).trans (hb3.mono (Nat.le_of_lt hlt1)))
 have hpl := redM_len t.length (turnMat rows t) rows.length
 have hpt := redM_lt t.length (turnMat rows t) rows.length
 have hcm : combM rows t = redM t.length (turnMat rows t) rows.length := rfl
 obtain ⟨x, hx⟩ : ∃ x, x = (combM rows t).1 := ⟨_, rfl⟩
 obtain ⟨piv, hpiv⟩ : ∃ piv, piv = (combM rows t).2 := ⟨_, rfl⟩
 rw [← hcm] at hT3 hown3 hpl hpt
 rw [← hpiv] at hown3 hpl hpt
 rw [← hx] at hT3
 have HX := Lib.hid hx
 have HP := Lib.hid hpiv
 have HPT := Lib.hid hpt
 clear hx hpiv hcm hpt
 obtain ⟨pp, pc, rfl⟩ := owns_slice hown3
 obtain ⟨o, ho, hsl⟩ := slice_tail w1.heap.size t.length piv.length hpl
 go_wp2_with fail
 go_loop [11, 30] (fun _ i => ∃ q : Nat, q ≤ t.length - piv.length ∧ i = .int .i64 q ∧ Hid (∀ j, j < q → x (piv.length + j) rows.length = 0)) (fun _ i => (t.length - piv.length) - (intOf i).toNat)
 case atStart => exact ⟨0, Nat.zero_le _, rfl, Lib.hid fun j hj => absurd hj (Nat.not_lt_zero _)⟩
 case round =>
  obtain ⟨q, hq, rfl, HZ⟩ := hrel
  by_cases hlt : q < t.length - piv.length
  ·have ho' : o = piv.length := ho (by omega)
   obtain ⟨rc, hrow⟩ := hT3.row (piv.length + q) (by omega)
   have hel := hT3.elem (piv.length + q) rows.length (by omega) (by omega)
   have hrow : w3.cell? ⟨w1.heap.size, o + q, none⟩ = some (.slice (some ⟨rb' (piv.length + q), 0, none⟩) (rows.length + 1) rc) := by rw [ho']; exact hrow
   have i1 : (0 : Int) ≤ (q : Int) := by omega
   have i2 : (q : Int) < ((t.length - piv.length : Nat) : Int) := by omega
   have i3 : (0 : Int) ≤ (rows.length : Int) := by omega
   have i4 : (rows.length : Int) < ((rows.length + 1 : Nat) : Int) := by omega
   clear ho'
   by_cases hz : x (piv.length + q) rows.length = 0
   ·rw [hz] at hel
    have HZ' := Lib.hid (show ∀ j, j < q + 1 → x (piv.length + j) rows.length = 0 from fun j hj => by
     by_cases e : j = q
     ·rw [e]; exact hz
     ·exact HZ.out j (by omega))
    clear hz
    go_wp2_with fail
    go_round
    case rel => exact ⟨q + 1, by omega, by go_num, HZ'⟩
    case measure => simp [intOf]; omega
   ·have HC := Lib.hid (show combOk rows t = false by
     unfold combOk; rw [← HX.out, ← HP.out]; exact combOk_no hlt hz)
    have hz' : (x (piv.length + q) rows.length != 0) = true := by simpa using hz
    clear hz
    go_wp2_with fail
    refine leaves_cons (f := 178) (args := #[.pointer (some ⟨w.heap.size, 0, none⟩)]) (by simp) (by simp [go_sem]) ?_
    refine (caught_idle _ _).mono ?_
    rintro e u' w'' ⟨rfl, rfl, rfl⟩
    have hx := World.cell?_setCell_same' w3 ⟨w.heap.size, 0, none⟩ (.int .i64 0) (by rw [hc3]; rfl)
    simp [Leaves, settle, results, Tryz.results117, go_sem, hx]
    refine ⟨.slice none 0 0, ?_, ?_, hbw.setCell (Nat.le_refl _) _⟩
    ·rw [HC.out, H0.out, Bool.and_false]
    ·rw [HC.out, if_neg (by simp)]; exact Ints.nil _ _ _
  ·obtain rfl : q = t.length - piv.length := by omega
   have HC := Lib.hid (show combOk rows t = true by
     unfold combOk; rw [← HX.out, ← HP.out]; exact combOk_yes HZ.out)
   have hmk := run_ints rows.length (by omega)
   go_wp2_with fail
   obtain ⟨w4, hw4⟩ : ∃ w4, w3.alloc (.cells (madeCells #[.int .i64 0] rows.length) 3) = w4 := ⟨_, rfl⟩
   have hI4 : IBlk w4 w3.heap.size rows.length (combF x piv rows.length 0) := by rw [← hw4]; exact IBlk.made _ _ _
   have hb4 : Below w3.heap.size w3 w4 := by rw [← hw4]; exact (Below.refl _ _).alloc (Nat.le_refl _) _
   rw [hw4]
   clear hw4 hmk hsl
   go_loopw [12, 13, 44] (fun _ _ i wr => ∃ K : Nat, K ≤ piv.length ∧ i = .int .i64 K ∧ IBlk wr w3.heap.size rows.length (combF x piv rows.length K) ∧ Below w3.heap.size w3 wr) (fun _ _ i _ => piv.length - (intOf i).toNat)
   case atStart => exact ⟨0, Nat.zero_le _, rfl, hI4, hb4⟩
   case round =>
    obtain ⟨K, hK, rfl, hIK, hbK⟩ := hrel
    by_cases hlt : K < piv.length
    ·obtain ⟨g, rfl, hg1, hg2, hg3⟩ := owns_pivots hown3 (by omega)
     have hpk := hg3 K hlt
     have hpl2 : piv[K] < rows.length := HPT.out _ (List.getElem_mem hlt)
     have HPK := Lib.hid (show piv[K]?.getD 0 = piv[K] by rw [List.getElem?_eq_getElem hlt]; rfl)
     obtain ⟨c, hc⟩ : ∃ c, c = piv[K] := ⟨_, rfl⟩
     rw [← hc] at hpk hpl2 HPK
     have hpk := below_cell hbK hpk
     obtain ⟨rc, hrow⟩ := hT3.row K (by omega)
     have hel := hT3.elem K rows.length (by omega) (by omega)
     have hrow := below_cell hbK hrow
     have hel := below_cell hbK hel
     have hyc := hIK.cell c hpl2
     have hyf := hIK.fro c hpl2
     have hI' : IBlk (wr.setCell ⟨w3.heap.size, c, none⟩ (.int .i64 (x K rows.length))) w3.heap.size rows.length (combF x piv rows.length (K + 1)) := by
      have := hIK.set (k := c) (x K rows.length)
      rw [← HPK.out] at this
      rw [← HPK.out]; exact this
     have hb' := hbK.setCell (p := ⟨w3.heap.size, c, none⟩) (Nat.le_refl _) (.int .i64 (x K rows.length))
     clear hc hg3
     go_wp2_with fail
     go_roundw
     case rel => exact ⟨K + 1, by omega, by go_num, hI', hb'⟩
     case measure => simp [intOf]; omega
    ·obtain rfl : K = piv.length := by omega
     have hlt3 : w.heap.size < w3.heap.size := lt_of_cell hc3
     have hc5 : wr.cell? ⟨w.heap.size, 0, none⟩ = some (.int .i64 0) := below_cell hbK hc3
     have hf5 : wr.frozen? ⟨w.heap.size, 0, none⟩ = false := by rw [hbK.frozen (p := ⟨w.heap.size, 0, none⟩) hlt3]; exact hf3
     go_wp2_with fail
     refine leaves_cons (f := 178) (args := #[.pointer (some ⟨w.heap.size, 0, none⟩)]) (by simp) (by simp [go_sem]) ?_
     refine (caught_idle _ _).mono ?_
     rintro e u' w'' ⟨rfl, rfl, rfl⟩
     have hx := World.cell?_setCell_same' wr ⟨w.heap.size, 0, none⟩ (.int .i64 0) (by rw [hc5]; rfl)
     simp [Leaves, settle, results, Tryz.results117, go_sem, hx]
     refine ⟨.slice (some ⟨w3.heap.size, 0, none⟩) rows.length rows.length, ?_, ?_, (hbw.trans (hbK.mono (Nat.le_of_lt hlt3))).setCell (Nat.le_refl _) _⟩
     ·rw [HC.out, H0.out]; rfl
     ·rw [HC.out, if_pos ⟨H0.out, rfl⟩]
      have hnum := combF_num (x := x) (piv := piv) (n := rows.length) (m := t.length) (fun k hk => hT3.num k rows.length hk (by omega)) piv.length hpl
      have := (hIK.other (b' := w.heap.size) (o := 0) (by omega) (.int .i64 0)).ints (Nat.le_refl _) hlen (fun i _ => num_r64 (hnum i))
      unfold combY
      rw [← HX.out, ← HP.out]; exact this
theorem examErr_ok_iff {rows : List (List Int)} {t : List Int} (h : examErr rows t = 0) : Right rows t.length ∧ (∀ z ∈ t, 0 ≤ z ∧ z < 1073741789) ∧ t.length ≤ 64 := by
 unfold examErr at h
 split at h
 ·rename_i h1
  split at h
  ·rename_i h2
   split at h
   ·rename_i h3
    obtain ⟨q1, q2⟩ := kindErr_ok_iff h2
    have q3 := rowOk_iff (q2 t (by simp))
    have q4 := q1 t (by simp)
    refine ⟨?_, q3.2, q4⟩
    rcases h3 with h3 | h3
    ·have : rows = [] := List.length_eq_zero_iff.1 h3
     subst this
     exact ⟨by simp, .inr rfl, by simp, by simp⟩
    ·rw [← h3]; exact checkErr_ok h1
   ·cases h
  ·exact absurd h (by assumption)
 ·exact absurd h (by assumption)
theorem Combine_any (v u : Value) (rows : List (List Int)) (t : List Int) (w : World) (hI : Rows2 w v rows) (hU : Ints w u t) :
  Calls Tryz.prog 117 #[v, u] w (CombPost rows t w) := by
 by_cases h0 : examErr rows t = 0
 ·obtain ⟨h1, h2, h3⟩ := examErr_ok_iff h0
  exact Combine_ok v u rows t w hI hU h0 h1 h2 h3
 ·refine (Combine_err v u rows t w hI hU h0).mono ?_
  rintro e w' ⟨rfl, hb⟩
  refine ⟨.slice none 0 0, ?_, ?_, hb⟩
  ·rw [decide_eq_false h0]; rfl
  ·rw [if_neg (fun h => h0 h.1)]; exact Ints.nil _ _ _
end Go.Proofs.YtggnipkfliompaaGreatDoor
namespace Go.Proofs.YtggnipkfliompaaGreatDoor
open Go.RowKit
end Go.Proofs.YtggnipkfliompaaGreatDoor
namespace Go.Proofs.YtggnipkfliompaaGreatDoor
open Go.RowKit
end Go.Proofs.YtggnipkfliompaaGreatDoor
namespace Go.Proofs.YtggnipkfliompaaGreatDoor
open Go.RowKit
theorem below_drewN {B : Nat} {a w : World} (h : Below B a w) (n : Nat) : Below B a (w.drewN n) := ⟨h.os, h.tape, h.output, h.size, h.block⟩
theorem any_no {l : List Int} (h : ∀ z ∈ l, oddQ z = false) : l.any oddQ = false := by
 rw [List.any_eq_false]; intro z hz; rw [h z hz]; simp
def sameQ (a b : List Int) : Bool := decide (a = b)
theorem sameQ_len {a b : List Int} (h : a.length ≠ b.length) : sameQ a b = false := decide_eq_false fun e => h (by rw [e])
theorem sameQ_at {a b : List Int} {k : Nat} (h1 : k < a.length) (h2 : k < b.length) (h : a[k] ≠ b[k]) : sameQ a b = false := decide_eq_false fun e => h (by subst e; rfl)
theorem sameQ_all {a b : List Int} (h : a.length = b.length) (h1 : ∀ k (h1 : k < a.length) (h2 : k < b.length), a[k] = b[k]) : sameQ a b = true := decide_eq_true (List.ext_getElem h h1)
end Go.Proofs.YtggnipkfliompaaGreatDoor
namespace Go.Proofs.YtggnipkfliompaaGreatDoor
open Go.RowKit
theorem any_of_take {α : Type} {p : α → Bool} {l : List α} {k : Nat} (h : ¬ k < l.length) (hp : ∀ x ∈ l.take k, p x = false) : l.any p = false := by
 have h2 : ∀ x ∈ l, p x = false := by rwa [List.take_of_length_le (by omega)] at hp
 cases e : l.any p with
 | false => rfl
 | true => obtain ⟨x, hx, hq⟩ := List.any_eq_true.1 e; rw [h2 x hx] at hq; cases hq
theorem take_next {α : Type} {p : α → Bool} {l : List α} {k : Nat} (h : k < l.length) (hp : ∀ x ∈ l.take k, p x = false) (hk : p l[k] = false) : ∀ x ∈ l.take (k + 1), p x = false := by
 rw [List.take_succ_eq_append_getElem h]
 intro x hx
 rcases List.mem_append.1 hx with hx | hx
 ·exact hp x hx
 ·rw [List.mem_singleton.1 hx]; exact hk
theorem any_here {α : Type} {p : α → Bool} {l : List α} {k : Nat} (h : k < l.length) (hk : p l[k] = true) : l.any p = true := List.any_eq_true.2 ⟨_, List.getElem_mem h, hk⟩
theorem rpCheck_any (rv ov : Value) (rows : List (List Int)) (owners : List Int) (w : World) (hR : Rows2 w rv rows) (hO : Ints w ov owners) :
  Calls Tryz.prog 68 #[.agg #[rv, ov]] w fun e w' => e = .returned (.int .i64 (progE rows owners)) ∧ Below w.heap.size w w' := by
 obtain ⟨W1, hW1, hb1, hr1, hz⟩ := box_prog w rv ov 25
 have HR1 := Lib.hid (hR.below hb1)
 have HO1 := Lib.hid (hO.below hb1)
 obtain ⟨a, cap, rfl, -, hlen, -⟩ := id hR
 obtain ⟨a2, cap2, rfl, -, hlen2, -⟩ := id hO
 have c0 : W1.cell? ⟨w.heap.size, 0, none⟩ = some (.slice a rows.length cap) := rowp_cell hr1 rfl
 have c1 : W1.cell? ⟨w.heap.size, 1, none⟩ = some (.slice a2 owners.length cap2) := rowp_cell hr1 rfl
 have HW1 := Lib.hid hW1
 have HB1 := Lib.hid hb1
 clear hR hO hr1 hW1 hb1
 by_cases h64 : rows.length ≤ 64
 ·go_enter Tryz.func68, Tryz.ntmps68
  go_wp2_with fail
  rw [← HW1.out]
  go_loopw [3] (fun i W => ∃ k : Nat, k ≤ rows.length ∧ i = .int .i64 k ∧ Hid (∀ r ∈ rows.take k, longR r = false) ∧ Below W1.heap.size W1 W) (fun i _ => rows.length - (intOf i).toNat)
  case atStart => exact ⟨0, Nat.zero_le _, rfl, Lib.hid (by simp), Below.refl _ _⟩
  case round =>
   obtain ⟨k, hkl, rfl, HP, hb⟩ := hrel
   have x0 := below_cell hb c0
   have x1 := below_cell hb c1
   have HBR := Lib.hid hb
   by_cases hlt : k < rows.length
   ·obtain ⟨aa, cc, e1, -, -, hk⟩ := HR1.out
    obtain ⟨b, off, r, ha, q1, hI⟩ := hk k hlt
    simp only [Value.slice.injEq] at e1
    obtain ⟨rfl, -, rfl⟩ := e1
    subst ha
    have y1 := below_cell hb q1
    obtain ⟨ra, rc, rfl, -⟩ := id hI
    clear hk hI q1
    cases el : longR rows[k] with
    | true =>
     have HV := Lib.hid (progE_long (owners := owners) (.inr (any_here hlt el)))
     have hd : decide ((64 : Int) < (rows[k].length : Int)) = true := decide_eq_true (by simp [longR] at el; omega)
     clear el
     generalize rows[k] = r at *
     go_wp2_with fail
     go_ret
     exact ⟨ret_int HV.out.symm, HB1.out.trans (HBR.out.mono HB1.out.size)⟩
    | false =>
     have HN := Lib.hid (take_next hlt HP.out el)
     have hd : decide ((64 : Int) < (rows[k].length : Int)) = false := decide_eq_false (by simp [longR] at el; omega)
     clear el
     generalize rows[k] = r at *
     go_wp2_with fail
     go_roundw
     case rel => exact ⟨k + 1, by omega, by go_num, HN, HBR.out⟩
     case measure => simp [intOf]; omega
   ·have HL := Lib.hid (any_of_take hlt HP.out)
    have HB2 := Lib.hid (HB1.out.trans (HBR.out.mono HB1.out.size))
    have HR2 := Lib.hid (HR1.out.below HBR.out)
    have HO2 := Lib.hid (HO1.out.below HBR.out)
    have hdk : decide (k < rows.length) = false := decide_eq_false hlt
    by_cases hne : rows.length = owners.length
    ·have hneI : ((rows.length : Int) != (owners.length : Int)) = false := by rw [hne]; exact bne_self_eq_false _
     have HNE := Lib.hid hne
     clear hne HP HR1 HO1 hb HBR
     go_wp2_with fail
     obtain ⟨wo, hwo⟩ : ∃ wo : World, wo = wr := ⟨_, rfl⟩
     rw [← hwo] at HR2 HO2 HB2 x0 x1 ⊢
     clear hwo
     go_loopw [4] (fun i W => ∃ k : Nat, k ≤ rows.length ∧ i = .int .i64 k ∧ Hid (∀ j (hj : j < rows.length), j < k → rowBad (wide rows) rows[j] (owners[j]'(by have := HNE.out; omega)) = false) ∧ Below wo.heap.size wo W) (fun i _ => rows.length - (intOf i).toNat)
     case atStart => exact ⟨0, Nat.zero_le _, rfl, Lib.hid (fun j _ h => absurd h (Nat.not_lt_zero _)), Below.refl _ _⟩
     case round =>
      obtain ⟨k, hkl, rfl, HP, hb⟩ := hrel
      have v0 := below_cell hb x0
      have v1 := below_cell hb x1
      have HB3 := Lib.hid (HB2.out.trans (hb.mono HB2.out.size))
      have HBR := Lib.hid hb
      by_cases hlt : k < rows.length
      ·have hko : k < owners.length := by have := HNE.out; omega
       obtain ⟨aa, cc, e1, -, -, hk⟩ := HR2.out
       obtain ⟨b, off, r, ha, q1, hI⟩ := hk k hlt
       obtain ⟨b0, off0, r0, ha0, q0, hI0⟩ := hk 0 (by omega)
       simp only [Value.slice.injEq] at e1
       obtain ⟨rfl, -, rfl⟩ := e1
       subst ha
       simp only [Option.some.injEq, Addr.mk.injEq, and_true] at ha0
       obtain ⟨rfl, rfl⟩ := ha0
       obtain ⟨aa2, cc2, e2, -, -, hr2, hk2⟩ := HO2.out
       obtain ⟨b2, off2, ha2, q2⟩ := hk2 k hko
       simp only [Value.slice.injEq] at e2
       obtain ⟨rfl, -, rfl⟩ := e2
       subst ha2
       have hor := hr2 _ (List.getElem_mem hko)
       rw [Nat.add_zero] at q0
       have y0 := below_cell hb q0
       have y1 := below_cell hb q1
       have y2 := below_cell hb q2
       have HI := Lib.hid (hI.below hb)
       obtain ⟨ra, rc, rfl, -, hrl, -⟩ := id hI
       obtain ⟨ra0, rc0, rfl, -⟩ := id hI0
       have HWD := Lib.hid (wide_at rows (by omega))
       have HBAD := Lib.hid (fun h => progE_bad h64 HL.out HNE.out hlt h)
       have HNX := Lib.hid (show rowBad (wide rows) rows[k] owners[k] = false → ∀ j (hj : j < rows.length), j < k + 1 → rowBad (wide rows) rows[j] (owners[j]'(by have := HNE.out; omega)) = false from fun h j hj hjk => by
        by_cases e : j = k
        ·subst e; exact h
        ·exact HP.out j hj (by omega))
       rw [HWD.out] at y0
       have i0 : 0 ≤ (k : Int) := by omega
       have i1 : (k : Int) < (rows.length : Int) := by omega
       have i2 : (k : Int) < (owners.length : Int) := by omega
       have i3 : (0 : Int) < (rows.length : Int) := by omega
       clear hI hI0 hk hk2 hr2 q0 q1 q2 HP hb HWD
       generalize rows[k] = r at *
       generalize owners[k] = o at *
       generalize wide rows = m at *
       by_cases e0 : r.length = 0
       ·have HV := Lib.hid (HBAD.out (bad_0 e0))
        have z0 : decide ((r.length : Int) < 1) = true := decide_eq_true (by omega)
        clear e0 HNX HBAD
        go_wp2_with fail
        go_quiet (fail)
        go_wp2_with fail
        go_ret
        exact ⟨ret_int HV.out.symm, below_drewN HB3.out _⟩
       ·have z0 : decide ((r.length : Int) < 1) = false := decide_eq_false (by omega)
        by_cases e1 : r.length = m
        ·have z1 : ((r.length : Int) != (m : Int)) = false := by rw [e1]; exact bne_self_eq_false _
         by_cases e2 : 0 ≤ o
         ·have z2 : decide (o < 0) = false := decide_eq_false (by omega)
          by_cases e3 : o < 64
          ·have z3 : decide (o ≥ 64) = false := decide_eq_false (by omega)
           have z4 : decide (64 ≤ o) = false := decide_eq_false (by omega)
           have HOK := Lib.hid (inB_iff.2 (show 0 ≤ o ∧ o ≤ 63 by omega))
           have HE1 := Lib.hid e1
           clear e1
           go_wp2_with fail
           go_quiet (fail)
           obtain ⟨wq, hwq⟩ : ∃ wq : World, wq = wr := ⟨_, rfl⟩
           rw [← hwq] at HI HB3 HBR v0 v1 y0 y1 y2 ⊢
           clear hwq y0 y2
           go_wp2_with fail
           go_loopw [5] (fun i W => ∃ j : Nat, j ≤ r.length ∧ i = .int .i64 j ∧ Hid (∀ z ∈ r.take j, oddQ z = false) ∧ Below wq.heap.size wq W) (fun i _ => r.length - (intOf i).toNat)
           case atStart => exact ⟨0, Nat.zero_le _, rfl, Lib.hid (by simp), below_drewN (Below.refl _ _) _⟩
           case round =>
            obtain ⟨j, hjl, rfl, HQ, hbq⟩ := hrel
            have s0 := below_cell hbq v0
            have s1 := below_cell hbq v1
            have s2 := below_cell hbq y1
            have HBQ := Lib.hid hbq
            by_cases hj : j < r.length
            ·obtain ⟨ab, ac, e5, -, -, hrr, hkk⟩ := HI.out
             obtain ⟨bb, oo, ha5, q5⟩ := hkk j hj
             simp only [Value.slice.injEq] at e5
             obtain ⟨rfl, -, rfl⟩ := e5
             subst ha5
             have s3 := below_cell hbq q5
             have hz64 := hrr _ (List.getElem_mem hj)
             have j0 : 0 ≤ (j : Int) := by omega
             have j1 : (j : Int) < (r.length : Int) := by omega
             clear hkk hrr hbq q5
             cases eo : oddQ r[j] with
             | true =>
              have HV := Lib.hid (HBAD.out (bad_3 (m := m) (o := o) (any_here hj eo)))
              by_cases hn : r[j] < 0
              ·clear eo HNX HBAD
               generalize r[j] = z at *
               go_wp2_with fail
               go_ret
               exact ⟨ret_int HV.out.symm, HB3.out.trans (HBQ.out.mono HB3.out.size)⟩
              ·have hq : decide (r[j] ≥ 1073741789) = true := decide_eq_true (by simp [oddQ] at eo; omega)
               have hq2 : decide (1073741789 ≤ r[j]) = true := decide_eq_true (by simp [oddQ] at eo; omega)
               have hn0 : 0 ≤ r[j] := by omega
               clear eo hn HNX HBAD
               generalize r[j] = z at *
               go_wp2_with fail
               go_ret
               exact ⟨ret_int HV.out.symm, HB3.out.trans (HBQ.out.mono HB3.out.size)⟩
             | false =>
              have HN := Lib.hid (take_next hj HQ.out eo)
              have hn0 : 0 ≤ r[j] := by simp [oddQ] at eo; omega
              have hn1 : r[j] < 1073741789 := by simp [oddQ] at eo; omega
              clear eo HNX HBAD
              generalize r[j] = z at *
              go_wp2_with fail
              go_roundw
              case rel => exact ⟨j + 1, by omega, by go_num, HN, HBQ.out⟩
              case measure => simp [intOf]; omega
            ·have HN := Lib.hid (HNX.out (bad_no e0 HE1.out HOK.out (any_of_take hj HQ.out)))
             have hdj : decide (j < r.length) = false := decide_eq_false hj
             clear HNX HBAD e0
             go_wp2_with fail
             go_roundw
             case rel => exact ⟨k + 1, by omega, by go_num, HN, HBR.out.trans (HBQ.out.mono HBR.out.size)⟩
             case measure => simp [intOf]; omega
          ·have HV := Lib.hid (HBAD.out (bad_2 (m := m) (r := r) (inB_false (show ¬ (0 ≤ o ∧ o ≤ 63) by omega))))
           have z3 : decide (o ≥ 64) = true := decide_eq_true (by omega)
           have z4 : decide (64 ≤ o) = true := decide_eq_true (by omega)
           clear e0 e1 HNX HBAD
           go_wp2_with fail
           go_quiet (fail)
           go_wp2_with fail
           go_ret
           exact ⟨ret_int HV.out.symm, below_drewN HB3.out _⟩
         ·have HV := Lib.hid (HBAD.out (bad_2 (m := m) (r := r) (inB_false (show ¬ (0 ≤ o ∧ o ≤ 63) by omega))))
          have z2 : decide (o < 0) = true := decide_eq_true (by omega)
          clear e0 e1 HNX HBAD
          go_wp2_with fail
          go_quiet (fail)
          go_wp2_with fail
          go_ret
          exact ⟨ret_int HV.out.symm, below_drewN HB3.out _⟩
        ·have HV := Lib.hid (HBAD.out (bad_1 (o := o) e1))
         have z1 : ((r.length : Int) != (m : Int)) = true := bne_iff_ne.2 (by omega)
         clear e0 e1 HNX HBAD
         go_wp2_with fail
         go_quiet (fail)
         go_wp2_with fail
         go_ret
         exact ⟨ret_int HV.out.symm, below_drewN HB3.out _⟩
      ·have HV := Lib.hid (progE_fine h64 HL.out HNE.out (fun j hj => HP.out j hj (by omega)))
       have hdk : decide (k < rows.length) = false := decide_eq_false hlt
       go_wp2_with fail
       go_ret
       exact ⟨ret_int HV.out.symm, HB3.out⟩
    ·have hneI : ((rows.length : Int) != (owners.length : Int)) = true := bne_iff_ne.2 (by omega)
     have HV := Lib.hid (progE_len h64 HL.out hne)
     clear hne
     go_wp2_with fail
     go_ret
     exact ⟨ret_int HV.out.symm, HB2.out⟩
 ·have HV := Lib.hid (progE_long (rows := rows) (owners := owners) (.inl (by omega)))
  have hd : decide ((rows.length : Int) ≤ 64) = false := decide_eq_false (by omega)
  go_enter Tryz.func68, Tryz.ntmps68
  go_wp2_with fail
  go_ret
  exact ⟨ret_int HV.out.symm, HW1.out ▸ HB1.out⟩
end Go.Proofs.YtggnipkfliompaaGreatDoor
namespace Go.Proofs.YtggnipkfliompaaGreatDoor
open Go.RowKit
theorem kind1_ok {t : List Int} (h1 : t.length ≤ 64) (h2 : t.any oddQ = false) : kindErr [t] = 0 :=
 kindErr_ok [t] (by simpa using h1) (by intro r hr; rw [List.mem_singleton.1 hr]; simp only [rowOk, h2]; simp [wide])
end Go.Proofs.YtggnipkfliompaaGreatDoor
namespace Go.Proofs.YtggnipkfliompaaGreatDoor
open Go.RowKit
def nth (l : List Int) (i : Nat) : Int := l[i]?.getD 0
theorem nth_at {l : List Int} {i : Nat} (h : i < l.length) : nth l i = l[i] := by unfold nth; rw [List.getElem?_eq_getElem h]; rfl
theorem nth_out {l : List Int} {i : Nat} (h : ¬ i < l.length) : nth l i = 0 := by unfold nth; rw [List.getElem?_eq_none (by omega)]; rfl
theorem Ints.get {w : World} {v : Value} {zs : List Int} (h : Ints w v zs) {k : Nat} (hk : k < zs.length) : R64 (nth zs k) ∧ ∃ b off n c, v = .slice (some ⟨b, off, none⟩) n c ∧ w.cell? ⟨b, off + k, none⟩ = some (.int .i64 (nth zs k)) := by
 obtain ⟨a, cap, rfl, h1, h2, h3, h4⟩ := h
 obtain ⟨b, off, rfl, hc⟩ := h4 k hk
 rw [nth_at hk]
 exact ⟨h3 _ (List.getElem_mem hk), b, off, _, _, rfl, hc⟩
def prodF (a b : List Int) : Nat → Int
 | 0 => 0
 | k + 1 => (prodF a b k + nth a k * nth b k % 1073741789) % 1073741789
def prodQ (a b : List Int) : Int := prodF a b a.length
theorem prodF_num (a b : List Int) : ∀ k, 0 ≤ prodF a b k ∧ prodF a b k < 1073741789
 | 0 => by simp [prodF]
 | k + 1 => mod_num _
end Go.Proofs.YtggnipkfliompaaGreatDoor
