/- Package linear: Combine. Package linear: Separate. Package linear: Separate, where there are columns. -/
import Derived.Test.YtnbkbnbmmkfckaaMLinG
namespace Go.Proofs.Ytnbkbnbmmkfckaa
open Go.RowKit

set_option maxRecDepth 100000 in
set_option maxHeartbeats 4000000 in
theorem Combine_err (v u : Value) (rows : List (List Int)) (t : List Int) (w : World) (hI : Rows2 w v rows) (hU : Ints w u t) (h0 : examErr rows t ≠ 0) :
    Calls Try.prog 54 #[v, u] w fun e w' => e = .returned (.tuple #[.slice none 0 0, .bool false, .int .i64 (examErr rows t)]) ∧ Below w.heap.size w w' := by
  have hb0 : Below w.heap.size w (w.alloc (.cells #[.int .i64 0] 30)) := (Below.refl _ _).alloc (Nat.le_refl _) _
  have hI1 := hI.below hb0
  have hU1 := hU.below hb0
  have H0 := Lib.hid h0
  clear h0
  go_enter_defers Try.func54, Try.ntmps54
  go_wp2_with fail
  with_reducible refine (mono_ending (examine_any _ _ rows t _ hI1 hU1) (raised_not H0.out)).mono ?_
  rintro e w1 ⟨rfl, hb⟩
  obtain ⟨hc1, hf1⟩ := box_later hb
  refine leaves_cons (f := 64) (args := #[.pointer (some ⟨w.heap.size, 0, none⟩)]) (by simp) (by simp [go_sem]) ?_
  refine (caught_panicking _ 0 (examErr rows t) [] _ hc1 hf1).mono ?_
  rintro e u' w'' ⟨rfl, rfl, rfl⟩
  have hx := World.cell?_setCell_same' w1 ⟨w.heap.size, 0, none⟩ (.int .i64 (examErr rows t)) (by rw [hc1]; rfl)
  simp [Leaves, settle, results, Try.results54, go_sem, hx, below_box hb]

set_option maxRecDepth 100000 in
theorem slice_tail (B n k : Nat) (hk : k ≤ n) : ∃ o, (k < n → o = k) ∧ ∀ W : World, (Instr.sliceAt 100 (.slice (some ⟨B, 0, none⟩) n n) (some (.int .i64 k)) none none).run Try.prog W = .ok (.slice (some ⟨B, o, none⟩) (n - k) (n - k)) W := by
  have hu := Try.underlying100
  have hs : ∀ W : World, (Instr.slice 100 (.slice (some ⟨B, 0, none⟩) n n) (some (.int .i64 k)) none none).run Try.prog W = ((sizeOf (Try.prog.elem 100)).run Try.prog W).andThen fun s w => .ok (sliced (some ⟨B, 0, none⟩) (k : Int).toNat n n s) w := fun W =>
    run_slice_l (P := Try.prog) (w := W) 100 (some ⟨B, 0, none⟩) n n hu .i64 k (by omega) (by omega)
  have h1 : ∀ W : World, (sizeOf (Try.prog.elem 100)).run Try.prog W = .ok 1 W := fun W => by kernel_rfl
  rcases Nat.lt_or_ge k n with h | h
  · refine ⟨k, fun _ => rfl, fun W => ?_⟩
    rw [run_sliceAt_slice (P := Try.prog) (w := W) _ _ _ _ _ hu, hs, h1]
    have : n ≠ k := by omega
    simp [sliced, Result.andThen, this, Addr.add]
    omega
  · obtain rfl : n = k := by omega
    refine ⟨0, fun h => absurd h (Nat.lt_irrefl _), fun W => ?_⟩
    rw [run_sliceAt_slice (P := Try.prog) (w := W) _ _ _ _ _ hu, hs, h1]
    simp [sliced, Result.andThen]

/-- A block of the call's own that holds n integers. -/
structure IBlk (W : World) (b n : Nat) (f : Nat → Int) : Prop where
  cell : ∀ i, i < n → W.cell? ⟨b, i, none⟩ = some (.int .i64 (f i))
  fro : ∀ i, i < n → W.frozen? ⟨b, i, none⟩ = false

theorem IBlk.below {W W' : World} {b n S : Nat} {f : Nat → Int} (h : IBlk W b n f) (hb : Below S W W') (hS : b < S) : IBlk W' b n f :=
  ⟨fun i hi => by rw [hb.cell (p := ⟨b, i, none⟩) hS]; exact h.cell i hi, fun i hi => by rw [hb.frozen (p := ⟨b, i, none⟩) hS]; exact h.fro i hi⟩
theorem IBlk.made (W : World) (n : Nat) (t : TypeId) : IBlk (W.alloc (.cells (madeCells #[.int .i64 0] n) t)) W.heap.size n (fun _ => 0) :=
  ⟨fun i hi => by rw [World.cell?_alloc_at _ _ _ _ rfl]; simp [madeCells, hi, Nat.mod_one], fun i _ => World.frozen?_alloc_at _ _ _ _ rfl⟩
theorem IBlk.set {W : World} {b n k : Nat} {f : Nat → Int} (h : IBlk W b n f) (z : Int) : IBlk (W.setCell ⟨b, k, none⟩ (.int .i64 z)) b n (fun i => if i = k then z else f i) :=
  ⟨fun i hi => by
    by_cases e : k = i
    · subst e
      show _ = some (Value.int .i64 (if k = k then z else f k))
      rw [if_pos rfl]
      exact World.cell?_setCell_same' _ _ _ (by rw [h.cell k hi]; rfl)
    · show _ = some (Value.int .i64 (if i = k then z else f i))
      rw [if_neg (fun e' => e e'.symm), set_other (.inr e)]; exact h.cell i hi, fun i hi => by rw [World.frozen?_setCell]; exact h.fro i hi⟩
theorem IBlk.other {W : World} {b n b' o : Nat} {f : Nat → Int} (h : IBlk W b n f) (hb : b' ≠ b) (v : Value) : IBlk (W.setCell ⟨b', o, none⟩ v) b n f :=
  ⟨fun i hi => by rw [set_other (.inl hb)]; exact h.cell i hi, fun i hi => by rw [World.frozen?_setCell]; exact h.fro i hi⟩
theorem IBlk.ints {W : World} {b n c : Nat} {f : Nat → Int} (h : IBlk W b n f) (hc : n ≤ c) (hn : n ≤ 17592186044416) (hr : ∀ i, i < n → R64 (f i)) : Ints W (.slice (some ⟨b, 0, none⟩) n c) ((List.range n).map f) := by
  refine ⟨_, c, by simp, by simpa using hc, by simpa using hn, fun z hz => ?_, fun k hk => ⟨b, 0, rfl, ?_⟩⟩
  · obtain ⟨i, hi, rfl⟩ := List.mem_map.1 hz
    exact hr i (by simpa using hi)
  · simp at hk; rw [Nat.zero_add, h.cell k hk]; simp

set_option maxRecDepth 100000 in
theorem infoI : (Try.prog.info? 3).map (fun i => (i.zero, i.size, i.bytes)) = some (some (.int .i64 0), 1, 8) := by kernel_rfl
set_option maxRecDepth 100000 in
theorem run_ints (n : Nat) (hn : n ≤ 1000000) (w : World) : (Instr.makeSlice 23 (.int .i64 (n : Int)) (.int .i64 (n : Int))).run Try.prog w = .ok (.slice (some ⟨w.heap.size, 0, none⟩) n n) (w.alloc (.cells (madeCells #[.int .i64 0] n) 3)) :=
  run_make_row' (P := Try.prog) 23 3 (.int .i64 0) 8 Try.underlying23 infoI rfl .i64 .i64 n (by omega) (by omega) w

theorem stepM_lt {n c : Nat} {s : Mat × List Nat} (h : ∀ p ∈ s.2, p < c) : ∀ p ∈ (stepM n s c).2, p < c + 1 := by
  unfold stepM
  split
  · intro p hp
    rcases List.mem_append.1 hp with h1 | h1
    · exact Nat.lt_succ_of_lt (h p h1)
    · rw [List.mem_singleton.1 h1]; omega
  · exact fun p hp => Nat.lt_succ_of_lt (h p hp)
theorem redM_lt (n : Nat) (x : Mat) : ∀ c, ∀ p ∈ (redM n x c).2, p < c
  | 0 => by simp [redM]
  | c + 1 => by rw [redM_succ]; exact stepM_lt (redM_lt n x c)

/-- The reduced equations of rows and a target. -/
def combM (rows : List (List Int)) (t : List Int) : Mat × List Nat := redM t.length (turnMat rows t) rows.length
/-- Are the right sides of the empty equations 0? -/
def combOk (rows : List (List Int)) (t : List Int) : Bool := (List.range (t.length - (combM rows t).2.length)).all fun j => (combM rows t).1 ((combM rows t).2.length + j) rows.length == 0
/-- The combination, after so many pivots. -/
def combF (x : Mat) (piv : List Nat) (n : Nat) : Nat → Nat → Int
  | 0 => fun _ => 0
  | k + 1 => fun i => if i = piv[k]?.getD 0 then x k n else combF x piv n k i
def combY (rows : List (List Int)) (t : List Int) : List Int := (List.range rows.length).map (combF (combM rows t).1 (combM rows t).2 rows.length (combM rows t).2.length)

theorem combOk_no {x : Mat} {n m r q : Nat} (hq : q < m - r) (h : x (r + q) n ≠ 0) : (List.range (m - r)).all (fun j => x (r + j) n == 0) = false := by
  rw [List.all_eq_false]; exact ⟨q, by simpa using hq, by simpa using h⟩
theorem combOk_yes {x : Mat} {n m r : Nat} (h : ∀ j, j < m - r → x (r + j) n = 0) : (List.range (m - r)).all (fun j => x (r + j) n == 0) = true := by
  rw [List.all_eq_true]; intro j hj; simp at hj; simpa using h j hj

theorem combF_num {x : Mat} {piv : List Nat} {n m : Nat} (h : ∀ k, k < m → 0 ≤ x k n ∧ x k n < 1073741789) : ∀ K, K ≤ m → ∀ i, 0 ≤ combF x piv n K i ∧ combF x piv n K i < 1073741789
  | 0, _, i => by simp [combF]
  | K + 1, hK, i => by
    show 0 ≤ (if i = piv[K]?.getD 0 then x K n else combF x piv n K i) ∧ (if i = piv[K]?.getD 0 then x K n else combF x piv n K i) < 1073741789
    split
    · exact h K (by omega)
    · exact combF_num h K (by omega) i

/-- The pivots that a reduction returns, as a slice that is read. -/
theorem owns_pivots {W : World} {B : Nat} {pp : Option Addr} {pc n : Nat} {piv : List Nat} (h : W.ownsRow B 3 1 (.slice pp n pc) piv.length (piv.map fun (k : Nat) => Value.int .i64 (k : Int))) (hn : 0 < piv.length) :
    ∃ g, pp = some ⟨g, 0, none⟩ ∧ B ≤ g ∧ g < W.heap.size ∧ ∀ k (hk : k < piv.length), W.cell? ⟨g, k, none⟩ = some (.int .i64 (piv[k] : Nat)) := by
  have e : piv.map (fun (k : Nat) => Value.int .i64 (k : Int)) = (piv.map (fun k : Nat => (k : Int))).map (Value.int .i64) := by rw [List.map_map]; rfl
  have h' : W.ownsRow B 3 1 (.slice pp n pc) (piv.map (fun k : Nat => (k : Int))).length ((piv.map (fun k : Nat => (k : Int))).map (Value.int .i64)) := by rw [List.length_map, ← e]; exact h
  obtain ⟨g, c, he, h1, h2, h3⟩ := owns_cells h' (by simpa using hn)
  refine ⟨g, by cases he; rfl, h1, h2, fun k hk => ?_⟩
  have := (h3 k (by simpa using hk)).1
  simpa using this

/-- What Combine returns. -/
def CombPost (rows : List (List Int)) (t : List Int) (w : World) (e : Ending) (w' : World) : Prop :=
  ∃ yv, e = .returned (.tuple #[yv, .bool (decide (examErr rows t = 0) && combOk rows t), .int .i64 (examErr rows t)]) ∧ Ints w' yv (if examErr rows t = 0 ∧ combOk rows t = true then combY rows t else []) ∧ Below w.heap.size w w'

set_option maxRecDepth 100000 in
set_option maxHeartbeats 8000000 in
theorem Combine_ok (v u : Value) (rows : List (List Int)) (t : List Int) (w : World) (hI : Rows2 w v rows) (hU : Ints w u t) (h0 : examErr rows t = 0) (hR : Right rows t.length) (hT : ∀ z ∈ t, 0 ≤ z ∧ z < 1073741789) (ht : t.length ≤ 64) :
    Calls Try.prog 54 #[v, u] w (CombPost rows t w) := by
  have hb0 : Below w.heap.size w (w.alloc (.cells #[.int .i64 0] 30)) := (Below.refl _ _).alloc (Nat.le_refl _) _
  have hI1 := hI.below hb0
  have hU1 := hU.below hb0
  have H0 := Lib.hid h0
  clear h0
  obtain ⟨a, cap, rfl, hcap, hlen, -⟩ := hI
  obtain ⟨a2, cap2, rfl, hcap2, hlen2, -⟩ := hU
  obtain ⟨hr1, hr2, hr3, hr4⟩ := hR
  have HL := Lib.hid hr3
  have HN := Lib.hid hr4
  have HT := Lib.hid hT
  clear hr3 hr4 hT
  go_enter_defers Try.func54, Try.ntmps54
  go_wp2_with fail
  with_reducible refine (mono_ending (examine_any _ _ rows t _ hI1 hU1) (raised_zero H0.out)).mono ?_
  rintro e w1 ⟨rfl, hb⟩
  obtain ⟨hc1, hf1⟩ := box_later hb
  have hI2 := hI1.below hb
  have hU2 := hU1.below hb
  go_wp2_with fail
  with_reducible refine (turned_any _ _ rows t _ hI2 hU2 HL.out HN.out HT.out (by omega) (by omega)).mono ?_
  rintro e w2 ⟨rb, rfl, hT2, hs2, hb2⟩
  have hc2 := below_cell hb2 hc1
  have hlt1 := lt_of_cell hc1
  have hf2 : w2.frozen? ⟨w.heap.size, 0, none⟩ = false := by rw [hb2.frozen (p := ⟨w.heap.size, 0, none⟩) hlt1]; exact hf1
  go_wp2_with fail
  with_reducible refine (reduce_any w1.heap.size w1.heap.size rb t.length (rows.length + 1) _ _ hT2 hs2 (Nat.le_of_lt hs2) _ rows.length (by omega) (by omega) (by omega) (by omega)).mono ?_
  rintro e w3 ⟨pv, rb', rfl, hown3, hT3, hb3⟩
  have hc3 : w3.cell? ⟨w.heap.size, 0, none⟩ = some (.int .i64 0) := by rw [hb3.cell (p := ⟨w.heap.size, 0, none⟩) hlt1]; exact hc2
  have hf3 : w3.frozen? ⟨w.heap.size, 0, none⟩ = false := by rw [hb3.frozen (p := ⟨w.heap.size, 0, none⟩) hlt1]; exact hf2
  have hbw : Below w.heap.size w w3 := (lbelow_new hb).trans (((hb2.mono (Nat.le_of_lt hlt1))).trans (hb3.mono (Nat.le_of_lt hlt1)))
  have hpl := redM_len t.length (turnMat rows t) rows.length
  have hpt := redM_lt t.length (turnMat rows t) rows.length
  have hcm : combM rows t = redM t.length (turnMat rows t) rows.length := rfl
  obtain ⟨x, hx⟩ : ∃ x, x = (combM rows t).1 := ⟨_, rfl⟩
  obtain ⟨piv, hpiv⟩ : ∃ piv, piv = (combM rows t).2 := ⟨_, rfl⟩
  rw [← hcm] at hT3 hown3 hpl hpt
  rw [← hpiv] at hown3 hpl hpt
  rw [← hx] at hT3
  have HX := Lib.hid hx
  have HP := Lib.hid hpiv
  have HPT := Lib.hid hpt
  clear hx hpiv hcm hpt
  obtain ⟨pp, pc, rfl⟩ := owns_slice hown3
  obtain ⟨o, ho, hsl⟩ := slice_tail w1.heap.size t.length piv.length hpl
  go_wp2_with fail
  go_loop [11, 30] (fun _ i => ∃ q : Nat, q ≤ t.length - piv.length ∧ i = .int .i64 q ∧ Hid (∀ j, j < q → x (piv.length + j) rows.length = 0)) (fun _ i => (t.length - piv.length) - (intOf i).toNat)
  case atStart => exact ⟨0, Nat.zero_le _, rfl, Lib.hid fun j hj => absurd hj (Nat.not_lt_zero _)⟩
  case round =>
    obtain ⟨q, hq, rfl, HZ⟩ := hrel
    by_cases hlt : q < t.length - piv.length
    · have ho' : o = piv.length := ho (by omega)
      obtain ⟨rc, hrow⟩ := hT3.row (piv.length + q) (by omega)
      have hel := hT3.elem (piv.length + q) rows.length (by omega) (by omega)
      have hrow : w3.cell? ⟨w1.heap.size, o + q, none⟩ = some (.slice (some ⟨rb' (piv.length + q), 0, none⟩) (rows.length + 1) rc) := by rw [ho']; exact hrow
      have i1 : (0 : Int) ≤ (q : Int) := by omega
      have i2 : (q : Int) < ((t.length - piv.length : Nat) : Int) := by omega
      have i3 : (0 : Int) ≤ (rows.length : Int) := by omega
      have i4 : (rows.length : Int) < ((rows.length + 1 : Nat) : Int) := by omega
      clear ho'
      by_cases hz : x (piv.length + q) rows.length = 0
      · rw [hz] at hel
        have HZ' := Lib.hid (show ∀ j, j < q + 1 → x (piv.length + j) rows.length = 0 from fun j hj => by
          by_cases e : j = q
          · rw [e]; exact hz
          · exact HZ.out j (by omega))
        clear hz
        go_wp2_with fail
        go_round
        case rel => exact ⟨q + 1, by omega, by go_num, HZ'⟩
        case measure => simp [intOf]; omega
      · have HC := Lib.hid (show combOk rows t = false by
          unfold combOk; rw [← HX.out, ← HP.out]; exact combOk_no hlt hz)
        have hz' : (x (piv.length + q) rows.length != 0) = true := by simpa using hz
        clear hz
        go_wp2_with fail
        refine leaves_cons (f := 64) (args := #[.pointer (some ⟨w.heap.size, 0, none⟩)]) (by simp) (by simp [go_sem]) ?_
        refine (caught_idle _ _).mono ?_
        rintro e u' w'' ⟨rfl, rfl, rfl⟩
        have hx := World.cell?_setCell_same' w3 ⟨w.heap.size, 0, none⟩ (.int .i64 0) (by rw [hc3]; rfl)
        simp [Leaves, settle, results, Try.results54, go_sem, hx]
        refine ⟨.slice none 0 0, ?_, ?_, hbw.setCell (Nat.le_refl _) _⟩
        · rw [HC.out, H0.out, Bool.and_false]
        · rw [HC.out, if_neg (by simp)]; exact Ints.nil _ _ _
    · obtain rfl : q = t.length - piv.length := by omega
      have HC := Lib.hid (show combOk rows t = true by
          unfold combOk; rw [← HX.out, ← HP.out]; exact combOk_yes HZ.out)
      have hmk := run_ints rows.length (by omega)
      go_wp2_with fail
      obtain ⟨w4, hw4⟩ : ∃ w4, w3.alloc (.cells (madeCells #[.int .i64 0] rows.length) 3) = w4 := ⟨_, rfl⟩
      have hI4 : IBlk w4 w3.heap.size rows.length (combF x piv rows.length 0) := by rw [← hw4]; exact IBlk.made _ _ _
      have hb4 : Below w3.heap.size w3 w4 := by rw [← hw4]; exact (Below.refl _ _).alloc (Nat.le_refl _) _
      rw [hw4]
      clear hw4 hmk hsl
      go_loopw [12, 13, 44] (fun _ _ i wr => ∃ K : Nat, K ≤ piv.length ∧ i = .int .i64 K ∧ IBlk wr w3.heap.size rows.length (combF x piv rows.length K) ∧ Below w3.heap.size w3 wr) (fun _ _ i _ => piv.length - (intOf i).toNat)
      case atStart => exact ⟨0, Nat.zero_le _, rfl, hI4, hb4⟩
      case round =>
        obtain ⟨K, hK, rfl, hIK, hbK⟩ := hrel
        by_cases hlt : K < piv.length
        · obtain ⟨g, rfl, hg1, hg2, hg3⟩ := owns_pivots hown3 (by omega)
          have hpk := hg3 K hlt
          have hpl2 : piv[K] < rows.length := HPT.out _ (List.getElem_mem hlt)
          have HPK := Lib.hid (show piv[K]?.getD 0 = piv[K] by rw [List.getElem?_eq_getElem hlt]; rfl)
          obtain ⟨c, hc⟩ : ∃ c, c = piv[K] := ⟨_, rfl⟩
          rw [← hc] at hpk hpl2 HPK
          have hpk := below_cell hbK hpk
          obtain ⟨rc, hrow⟩ := hT3.row K (by omega)
          have hel := hT3.elem K rows.length (by omega) (by omega)
          have hrow := below_cell hbK hrow
          have hel := below_cell hbK hel
          have hyc := hIK.cell c hpl2
          have hyf := hIK.fro c hpl2
          have hI' : IBlk (wr.setCell ⟨w3.heap.size, c, none⟩ (.int .i64 (x K rows.length))) w3.heap.size rows.length (combF x piv rows.length (K + 1)) := by
            have := hIK.set (k := c) (x K rows.length)
            rw [← HPK.out] at this
            rw [← HPK.out]; exact this
          have hb' := hbK.setCell (p := ⟨w3.heap.size, c, none⟩) (Nat.le_refl _) (.int .i64 (x K rows.length))
          clear hc hg3
          go_wp2_with fail
          go_roundw
          case rel => exact ⟨K + 1, by omega, by go_num, hI', hb'⟩
          case measure => simp [intOf]; omega
        · obtain rfl : K = piv.length := by omega
          have hlt3 : w.heap.size < w3.heap.size := lt_of_cell hc3
          have hc5 : wr.cell? ⟨w.heap.size, 0, none⟩ = some (.int .i64 0) := below_cell hbK hc3
          have hf5 : wr.frozen? ⟨w.heap.size, 0, none⟩ = false := by rw [hbK.frozen (p := ⟨w.heap.size, 0, none⟩) hlt3]; exact hf3
          go_wp2_with fail
          refine leaves_cons (f := 64) (args := #[.pointer (some ⟨w.heap.size, 0, none⟩)]) (by simp) (by simp [go_sem]) ?_
          refine (caught_idle _ _).mono ?_
          rintro e u' w'' ⟨rfl, rfl, rfl⟩
          have hx := World.cell?_setCell_same' wr ⟨w.heap.size, 0, none⟩ (.int .i64 0) (by rw [hc5]; rfl)
          simp [Leaves, settle, results, Try.results54, go_sem, hx]
          refine ⟨.slice (some ⟨w3.heap.size, 0, none⟩) rows.length rows.length, ?_, ?_, (hbw.trans (hbK.mono (Nat.le_of_lt hlt3))).setCell (Nat.le_refl _) _⟩
          · rw [HC.out, H0.out]; rfl
          · rw [HC.out, if_pos ⟨H0.out, rfl⟩]
            have hnum := combF_num (x := x) (piv := piv) (n := rows.length) (m := t.length) (fun k hk => hT3.num k rows.length hk (by omega)) piv.length hpl
            have := (hIK.other (b' := w.heap.size) (o := 0) (by omega) (.int .i64 0)).ints (Nat.le_refl _) hlen (fun i _ => num_r64 (hnum i))
            unfold combY
            rw [← HX.out, ← HP.out]; exact this

theorem examErr_ok_iff {rows : List (List Int)} {t : List Int} (h : examErr rows t = 0) : Right rows t.length ∧ (∀ z ∈ t, 0 ≤ z ∧ z < 1073741789) ∧ t.length ≤ 64 := by
  unfold examErr at h
  split at h
  · rename_i h1
    split at h
    · rename_i h2
      split at h
      · rename_i h3
        obtain ⟨q1, q2⟩ := kindErr_ok_iff h2
        have q3 := rowOk_iff (q2 t (by simp))
        have q4 := q1 t (by simp)
        refine ⟨?_, q3.2, q4⟩
        rcases h3 with h3 | h3
        · have : rows = [] := List.length_eq_zero_iff.1 h3
          subst this
          exact ⟨by simp, .inr rfl, by simp, by simp⟩
        · rw [← h3]; exact checkErr_ok h1
      · cases h
    · exact absurd h (by assumption)
  · exact absurd h (by assumption)

set_option maxRecDepth 100000 in
theorem Combine_any (v u : Value) (rows : List (List Int)) (t : List Int) (w : World) (hI : Rows2 w v rows) (hU : Ints w u t) :
    Calls Try.prog 54 #[v, u] w (CombPost rows t w) := by
  by_cases h0 : examErr rows t = 0
  · obtain ⟨h1, h2, h3⟩ := examErr_ok_iff h0
    exact Combine_ok v u rows t w hI hU h0 h1 h2 h3
  · refine (Combine_err v u rows t w hI hU h0).mono ?_
    rintro e w' ⟨rfl, hb⟩
    refine ⟨.slice none 0 0, ?_, ?_, hb⟩
    · rw [decide_eq_false h0]; rfl
    · rw [if_neg (fun h => h0 h.1)]; exact Ints.nil _ _ _

end Go.Proofs.Ytnbkbnbmmkfckaa

namespace Go.Proofs.Ytnbkbnbmmkfckaa
open Go.RowKit

set_option maxRecDepth 100000 in
set_option maxHeartbeats 1000000 in
theorem index_yes (v : Value) (zs : List Int) (c : Int) (w : World) (hI : Ints w v zs) (hc : c ∈ zs) :
    Calls Try.prog 126 #[v, .int .i64 c] w fun e w' => (∃ k : Nat, e = .returned (.int .i64 k)) ∧ w = w' := by
  obtain ⟨a, cap', rfl, hcap, hlen, hr, hk⟩ := hI
  have HC := Lib.hid hc
  clear hc
  go_enter Try.func126, Try.ntmps126
  go_wp2
  go_loop [5, 8] (fun _ i => ∃ k : Nat, k ≤ zs.length ∧ i = .int .i64 k ∧ Hid (∀ z ∈ zs.take k, z ≠ c)) (fun _ i => zs.length - (intOf i).toNat)
  case atStart => exact ⟨0, Nat.zero_le _, rfl, Lib.hid (by simp)⟩
  case round =>
    obtain ⟨k, hkl, rfl, HP⟩ := hrel
    by_cases hlt : k < zs.length
    · obtain ⟨b, off, rfl, hc⟩ := hk k hlt
      clear hk hr
      by_cases he : c = zs[k]
      · have he' : (c == zs[k]) = true := by simpa using he
        clear he
        go_wp2_with fail
        go_ret
        exact ⟨⟨k, rfl⟩, rfl⟩
      · have he' : (c == zs[k]) = false := by simpa using he
        have HN := Lib.hid (take_all hlt HP.out (fun e => he e.symm))
        clear he
        go_wp2_with fail
        go_round
        case rel => exact ⟨k + 1, by omega, by go_num, HN⟩
        case measure => simp [intOf]; omega
    · exact absurd rfl (take_whole hlt HP.out _ HC.out)

set_option maxRecDepth 100000 in
set_option maxHeartbeats 1000000 in
theorem index_no (v : Value) (zs : List Int) (c : Int) (w : World) (hI : Ints w v zs) (hc : c ∉ zs) :
    Calls Try.prog 126 #[v, .int .i64 c] w fun e w' => e = .returned (.int .i64 (-1)) ∧ w = w' := by
  obtain ⟨a, cap', rfl, hcap, hlen, hr, hk⟩ := hI
  have HC := Lib.hid hc
  clear hc
  go_enter Try.func126, Try.ntmps126
  go_wp2
  go_loop [5, 8] (fun _ i => ∃ k : Nat, k ≤ zs.length ∧ i = .int .i64 k) (fun _ i => zs.length - (intOf i).toNat)
  case atStart => exact ⟨0, Nat.zero_le _, rfl⟩
  case round =>
    obtain ⟨k, hkl, rfl⟩ := hrel
    by_cases hlt : k < zs.length
    · obtain ⟨b, off, rfl, hc⟩ := hk k hlt
      have he : (c == zs[k]) = false := by
        rw [beq_eq_false_iff_ne]; intro e; exact HC.out (e ▸ List.getElem_mem hlt)
      clear hk hr
      go_wp2_with fail
      go_round
      case rel => exact ⟨k + 1, by omega, by go_num⟩
      case measure => simp [intOf]; omega
    · go_wp2_with fail
      go_ret
      exact ⟨rfl, rfl⟩

set_option maxRecDepth 100000 in
theorem contains_yes (v : Value) (zs : List Int) (c : Int) (w : World) (hI : Ints w v zs) (hc : c ∈ zs) :
    Calls Try.prog 68 #[v, .int .i64 c] w fun e w' => e = .returned (.bool true) ∧ w = w' := by
  go_enter Try.func68, Try.ntmps68
  go_wp2_with fail
  with_reducible refine (index_yes _ zs c _ hI hc).mono ?_
  rintro e w' ⟨⟨k, rfl⟩, rfl⟩
  have : decide ((0 : Int) ≤ (k : Int)) = true := decide_eq_true (by omega)
  go_wp2_with fail
  go_ret
  exact ⟨rfl, rfl⟩
set_option maxRecDepth 100000 in
theorem contains_no (v : Value) (zs : List Int) (c : Int) (w : World) (hI : Ints w v zs) (hc : c ∉ zs) :
    Calls Try.prog 68 #[v, .int .i64 c] w fun e w' => e = .returned (.bool false) ∧ w = w' := by
  go_enter Try.func68, Try.ntmps68
  go_wp2_with fail
  with_reducible refine (index_no _ zs c _ hI hc).mono ?_
  rintro e w' ⟨rfl, rfl⟩
  go_wp2_with fail
  go_ret
  exact ⟨rfl, rfl⟩

/-- The reduced rows. -/
def sepM (rows : List (List Int)) (t : List Int) : Mat × List Nat := redM rows.length (matOf rows) t.length
/-- The list with 1 at column c, after so many pivots. -/
def sepW (x : Mat) (piv : List Nat) (c : Nat) : Nat → Nat → Int
  | 0 => fun i => if i = c then 1 else 0
  | k + 1 => fun i => if i = piv[k]?.getD 0 then -(x k c) % 1073741789 else sepW x piv c k i
/-- Its product with the target, after so many pivots. -/
def sepP (x : Mat) (piv : List Nat) (t : List Int) (c : Nat) : Nat → Int
  | 0 => t[c]?.getD 0
  | k + 1 => (sepP x piv t c k + (-(x k c) % 1073741789) * t[piv[k]?.getD 0]?.getD 0 % 1073741789) % 1073741789
def sepHit (x : Mat) (piv : List Nat) (t : List Int) (c : Nat) : Bool := !piv.contains c && !(sepP x piv t c piv.length % 1073741789 == 0)
def sepC (rows : List (List Int)) (t : List Int) : Option Nat := (List.range t.length).find? (sepHit (sepM rows t).1 (sepM rows t).2 t)
def sepL (x : Mat) (piv : List Nat) (t : List Int) (c : Nat) : List Int := (List.range t.length).map fun i => sepW x piv c piv.length i * invQ (sepP x piv t c piv.length) % 1073741789
def sepQ (rows : List (List Int)) (t : List Int) : Option (List Int) := (sepC rows t).map (sepL (sepM rows t).1 (sepM rows t).2 t)

/-- What Separate returns. -/
def SepPost (rows : List (List Int)) (t : List Int) (w : World) (e : Ending) (w' : World) : Prop :=
  ∃ yv, e = .returned (.tuple #[yv, .bool (decide (examErr rows t = 0) && (sepQ rows t).isSome), .int .i64 (examErr rows t)]) ∧ Ints w' yv (if examErr rows t = 0 then (sepQ rows t).getD [] else []) ∧ Below w.heap.size w w'

set_option maxRecDepth 100000 in
set_option maxHeartbeats 4000000 in
theorem Separate_err (v u : Value) (rows : List (List Int)) (t : List Int) (w : World) (hI : Rows2 w v rows) (hU : Ints w u t) (h0 : examErr rows t ≠ 0) :
    Calls Try.prog 28 #[v, u] w fun e w' => e = .returned (.tuple #[.slice none 0 0, .bool false, .int .i64 (examErr rows t)]) ∧ Below w.heap.size w w' := by
  have hb0 : Below w.heap.size w (w.alloc (.cells #[.int .i64 0] 30)) := (Below.refl _ _).alloc (Nat.le_refl _) _
  have hI1 := hI.below hb0
  have hU1 := hU.below hb0
  have H0 := Lib.hid h0
  clear h0
  go_enter_defers Try.func28, Try.ntmps28
  go_wp2_with fail
  with_reducible refine (mono_ending (examine_any _ _ rows t _ hI1 hU1) (raised_not H0.out)).mono ?_
  rintro e w1 ⟨rfl, hb⟩
  obtain ⟨hc1, hf1⟩ := box_later hb
  refine leaves_cons (f := 64) (args := #[.pointer (some ⟨w.heap.size, 0, none⟩)]) (by simp) (by simp [go_sem]) ?_
  refine (caught_panicking _ 0 (examErr rows t) [] _ hc1 hf1).mono ?_
  rintro e u' w'' ⟨rfl, rfl, rfl⟩
  have hx := World.cell?_setCell_same' w1 ⟨w.heap.size, 0, none⟩ (.int .i64 (examErr rows t)) (by rw [hc1]; rfl)
  simp [Leaves, settle, results, Try.results28, go_sem, hx, below_box hb]

set_option maxRecDepth 100000 in
set_option maxHeartbeats 4000000 in
theorem Separate_flat (v u : Value) (rows : List (List Int)) (w : World) (hI : Rows2 w v rows) (hU : Ints w u []) (h0 : examErr rows [] = 0) (hn : rows.length ≤ 64) (hF : Flat rows) :
    Calls Try.prog 28 #[v, u] w (SepPost rows [] w) := by
  have hb0 : Below w.heap.size w (w.alloc (.cells #[.int .i64 0] 30)) := (Below.refl _ _).alloc (Nat.le_refl _) _
  have hI1 := hI.below hb0
  have hU1 := hU.below hb0
  have H0 := Lib.hid h0
  have HF := Lib.hid hF
  clear h0 hF
  obtain ⟨a, cap, rfl, hcap, hlen, -⟩ := hI
  obtain ⟨a2, cap2, rfl⟩ := hU.nil_of
  clear hU
  go_enter_defers Try.func28, Try.ntmps28
  go_wp2_with fail
  with_reducible refine (mono_ending (examine_any _ _ rows [] _ hI1 hU1) (raised_zero H0.out)).mono ?_
  rintro e w1 ⟨rfl, hb⟩
  obtain ⟨hc1, hf1⟩ := box_later hb
  have hI2 := hI1.below hb
  go_wp2_with fail
  with_reducible refine (copyOf_flat _ rows _ hI2 HF.out (by omega)).mono ?_
  rintro e w2 ⟨rfl, hb2⟩
  have hc2 := below_cell hb2 hc1
  have hlt1 := lt_of_cell hc1
  have hf2 : w2.frozen? ⟨w.heap.size, 0, none⟩ = false := by rw [hb2.frozen (p := ⟨w.heap.size, 0, none⟩) hlt1]; exact hf1
  go_wp2_with fail
  with_reducible refine (reduce_flat _ _ ⟨_, _, _, rfl⟩).mono ?_
  rintro e w3 ⟨rfl, hb3⟩
  have hc3 := below_cell hb3 hc2
  have hf3 : w3.frozen? ⟨w.heap.size, 0, none⟩ = false := by rw [hb3.frozen (p := ⟨w.heap.size, 0, none⟩) (lt_of_cell hc2)]; exact hf2
  have hbw : Below w.heap.size w w3 := (lbelow_new hb).trans (((hb2.mono (Nat.le_of_lt hlt1))).trans (hb3.mono (Nat.le_of_lt (lt_of_cell hc2))))
  go_wp2_with fail
  refine wp_loop_rounds 1 ?_
  rw [rounds_succ]
  go_wp2_with fail
  refine leaves_cons (f := 64) (args := #[.pointer (some ⟨w.heap.size, 0, none⟩)]) (by simp) (by simp [go_sem]) ?_
  refine (caught_idle _ _).mono ?_
  rintro e u' w'' ⟨rfl, rfl, rfl⟩
  have hx := World.cell?_setCell_same' w3 ⟨w.heap.size, 0, none⟩ (.int .i64 0) (by rw [hc3]; rfl)
  simp [Leaves, settle, results, Try.results28, go_sem, hx]
  have hq : sepQ rows [] = none := rfl
  refine ⟨.slice none 0 0, ?_, ?_, hbw.setCell (Nat.le_refl _) _⟩
  · rw [hq, H0.out]; rfl
  · rw [hq, H0.out]; exact Ints.nil _ _ _

end Go.Proofs.Ytnbkbnbmmkfckaa

namespace Go.Proofs.Ytnbkbnbmmkfckaa
open Go.RowKit

theorem sepC_hit {rows : List (List Int)} {t : List Int} {x : Mat} {piv : List Nat} (hx : x = (sepM rows t).1) (hp : piv = (sepM rows t).2) {c : Nat} (hc : c < t.length) (h : ∀ j, j < c → sepHit x piv t j = false) (hh : sepHit x piv t c = true) : sepQ rows t = some (sepL x piv t c) := by
  have : sepC rows t = some c := by
    unfold sepC
    rw [← hx, ← hp, List.find?_eq_some_iff_getElem]
    refine ⟨hh, c, by simpa using hc, by simp, fun j hj => ?_⟩
    have := h j hj
    simp [this]
  unfold sepQ
  rw [this, ← hx, ← hp]; rfl
theorem sepC_none {rows : List (List Int)} {t : List Int} {x : Mat} {piv : List Nat} (hx : x = (sepM rows t).1) (hp : piv = (sepM rows t).2) (h : ∀ j, j < t.length → sepHit x piv t j = false) : sepQ rows t = none := by
  have : sepC rows t = none := by
    unfold sepC
    rw [← hx, ← hp, List.find?_eq_none]
    intro j hj
    rw [h j (by simpa using hj)]; simp
  unfold sepQ
  rw [this]; rfl

theorem sepW_num {x : Mat} {piv : List Nat} {c : Nat} : ∀ K i, 0 ≤ sepW x piv c K i ∧ sepW x piv c K i < 1073741789
  | 0, i => by
    show 0 ≤ (if i = c then (1 : Int) else 0) ∧ (if i = c then (1 : Int) else 0) < 1073741789
    split <;> omega
  | K + 1, i => by
    show 0 ≤ (if i = piv[K]?.getD 0 then -(x K c) % 1073741789 else sepW x piv c K i) ∧ (if i = piv[K]?.getD 0 then -(x K c) % 1073741789 else sepW x piv c K i) < 1073741789
    split
    · exact mod_num _
    · exact sepW_num K i
theorem sepP_num {x : Mat} {piv : List Nat} {t : List Int} {c : Nat} (ht : ∀ z ∈ t, 0 ≤ z ∧ z < 1073741789) : ∀ K, 0 ≤ sepP x piv t c K ∧ sepP x piv t c K < 1073741789
  | 0 => by
    show 0 ≤ t[c]?.getD 0 ∧ t[c]?.getD 0 < 1073741789
    by_cases h : c < t.length
    · rw [List.getElem?_eq_getElem h]; exact ht _ (List.getElem_mem h)
    · rw [List.getElem?_eq_none (by omega)]; simp
  | K + 1 => mod_num _

theorem owns_pivots_ints {W : World} {B : Nat} {pp : Option Addr} {pc : Nat} {piv : List Nat} {m : Nat} (h : W.ownsRow B 3 1 (.slice pp piv.length pc) piv.length (piv.map fun (k : Nat) => Value.int .i64 (k : Int))) (hn : piv.length ≤ 1000) (hc : piv.length ≤ pc) (hl : ∀ p ∈ piv, p < m) (hm : m ≤ 1000) :
    Ints W (.slice pp piv.length pc) (piv.map fun k : Nat => (k : Int)) := by
  refine ⟨pp, pc, by simp, by simpa using hc, by simp; omega, fun z hz => ?_, fun k hk => ?_⟩
  · obtain ⟨p, hp, rfl⟩ := List.mem_map.1 hz
    have := hl p hp
    unfold R64; omega
  · simp at hk
    obtain ⟨g, rfl, _, _, h3⟩ := owns_pivots h (by omega)
    exact ⟨g, 0, rfl, by rw [Nat.zero_add]; simpa using h3 k hk⟩

theorem owns_room {W : World} {B e z n : Nat} {pp : Option Addr} {pc k : Nat} {xs : List Value} (h : W.ownsRow B e z (.slice pp n pc) k xs) : n ≤ pc := by
  obtain ⟨-, ⟨e1, e2⟩ | ⟨g, cap, cur, e1, hB, hh, hr⟩⟩ := h
  · cases e1; exact Nat.zero_le _
  · cases e1; exact hr.1

/-- A list of which the first K elements are multiplied. -/
def scaleF (f : Nat → Int) (v : Int) (K : Nat) : Nat → Int := fun i => if i < K then f i * v % 1073741789 else f i
theorem scaleF_0 (f : Nat → Int) (v : Int) : scaleF f v 0 = f := by funext i; unfold scaleF; rw [if_neg (by omega)]
theorem scaleF_at (f : Nat → Int) (v : Int) (K : Nat) : scaleF f v K K = f K := by unfold scaleF; rw [if_neg (by omega)]
theorem scaleF_s (f : Nat → Int) (v : Int) (K : Nat) : scaleF f v (K + 1) = fun i => if i = K then scaleF f v K K * v % 1073741789 else scaleF f v K i := by
  funext i
  rw [scaleF_at]
  unfold scaleF
  by_cases e : i = K
  · rw [if_pos (by omega), if_pos e, e]
  · rw [if_neg e]
    by_cases h : i < K
    · rw [if_pos (by omega), if_pos h]
    · rw [if_neg (by omega), if_neg h]
theorem scaleF_end {f : Nat → Int} {v : Int} {K i : Nat} (h : i < K) : scaleF f v K i = f i * v % 1073741789 := by unfold scaleF; rw [if_pos h]
theorem scaleF_list {x : Mat} {piv : List Nat} {t : List Int} {c : Nat} {v : Int} : (List.range t.length).map (scaleF (sepW x piv c piv.length) v t.length) = (List.range t.length).map fun i => sepW x piv c piv.length i * v % 1073741789 :=
  List.map_congr_left fun i hi => scaleF_end (by simpa using hi)

set_option maxRecDepth 100000 in
set_option maxHeartbeats 8000000 in
theorem Separate_wide (v u : Value) (rows : List (List Int)) (t : List Int) (w : World) (hI : Rows2 w v rows) (hU : Ints w u t) (h0 : examErr rows t = 0) (hR : Right rows t.length) (hT : ∀ z ∈ t, 0 ≤ z ∧ z < 1073741789) (ht : t.length ≤ 64) (ht0 : 0 < t.length) :
    Calls Try.prog 28 #[v, u] w (SepPost rows t w) := by
  have hb0 : Below w.heap.size w (w.alloc (.cells #[.int .i64 0] 30)) := (Below.refl _ _).alloc (Nat.le_refl _) _
  have hI1 := hI.below hb0
  have hU1 := hU.below hb0
  have H0 := Lib.hid h0
  clear h0
  obtain ⟨a, cap, rfl, hcap, hlen, -⟩ := hI
  obtain ⟨a2, cap2, rfl, hcap2, hlen2, -⟩ := hU
  obtain ⟨hr1, hr2, hr3, hr4⟩ := hR
  have HL := Lib.hid hr3
  have HN := Lib.hid hr4
  have HT := Lib.hid hT
  clear hr3 hr4 hT
  go_enter_defers Try.func28, Try.ntmps28
  go_wp2_with fail
  with_reducible refine (mono_ending (examine_any _ _ rows t _ hI1 hU1) (raised_zero H0.out)).mono ?_
  rintro e w1 ⟨rfl, hb⟩
  obtain ⟨hc1, hf1⟩ := box_later hb
  have hI2 := hI1.below hb
  have hU2 := hU1.below hb
  go_wp2_with fail
  with_reducible refine (copyOf_any _ rows t.length _ hI2 ht0 HL.out HN.out (by omega)).mono ?_
  rintro e w2 ⟨rb, rfl, hT2, hs2, hb2⟩
  have hc2 := below_cell hb2 hc1
  have hlt1 := lt_of_cell hc1
  have hf2 : w2.frozen? ⟨w.heap.size, 0, none⟩ = false := by rw [hb2.frozen (p := ⟨w.heap.size, 0, none⟩) hlt1]; exact hf1
  go_wp2_with fail
  with_reducible refine (reduce_any w1.heap.size w1.heap.size rb rows.length t.length _ _ hT2 hs2 (Nat.le_of_lt hs2) _ t.length (Nat.le_refl _) ht0 (by omega) (by omega)).mono ?_
  rintro e w3 ⟨pv, rb', rfl, hown3, hT3, hb3⟩
  have hc3 : w3.cell? ⟨w.heap.size, 0, none⟩ = some (.int .i64 0) := by rw [hb3.cell (p := ⟨w.heap.size, 0, none⟩) hlt1]; exact hc2
  have hf3 : w3.frozen? ⟨w.heap.size, 0, none⟩ = false := by rw [hb3.frozen (p := ⟨w.heap.size, 0, none⟩) hlt1]; exact hf2
  have hlt3 : w.heap.size < w3.heap.size := lt_of_cell hc3
  have hU3 : Ints w3 (.slice a2 t.length cap2) t := hU2.below (hb2.trans hb3)
  have hbw : Below w.heap.size w w3 := (lbelow_new hb).trans (((hb2.mono (Nat.le_of_lt hlt1))).trans (hb3.mono (Nat.le_of_lt hlt1)))
  have hpl := redM_len rows.length (matOf rows) t.length
  have hpt := redM_lt rows.length (matOf rows) t.length
  have hcm : sepM rows t = redM rows.length (matOf rows) t.length := rfl
  obtain ⟨x, hx⟩ : ∃ x, x = (sepM rows t).1 := ⟨_, rfl⟩
  obtain ⟨piv, hpiv⟩ : ∃ piv, piv = (sepM rows t).2 := ⟨_, rfl⟩
  rw [← hcm] at hT3 hown3 hpl hpt
  rw [← hpiv] at hown3 hpl hpt
  rw [← hx] at hT3
  have HX := Lib.hid hx
  have HP := Lib.hid hpiv
  have HPT := Lib.hid hpt
  clear hx hpiv hcm hpt
  obtain ⟨pp, pc, rfl⟩ := owns_slice hown3
  have hPI := owns_pivots_ints hown3 (by omega) (owns_room hown3) HPT.out (by omega)
  go_wp2_with fail
  obtain ⟨a3, c3', e3, q1, q2, q3, hk3⟩ := hU3
  obtain ⟨rfl, rfl⟩ : a2 = a3 ∧ cap2 = c3' := by cases e3; exact ⟨rfl, rfl⟩
  clear e3 q1 q2 q3
  go_loopw [9, 29] (fun _ i wr => ∃ c : Nat, c ≤ t.length ∧ i = .int .i64 c ∧ Hid (∀ j, j < c → sepHit x piv t j = false) ∧ Below w3.heap.size w3 wr) (fun _ i _ => t.length - (intOf i).toNat)
  case atStart => exact ⟨0, Nat.zero_le _, rfl, Lib.hid fun j hj => absurd hj (Nat.not_lt_zero _), Below.refl _ _⟩
  case round =>
    obtain ⟨c, hcm, rfl, HZ, hbr⟩ := hrel
    by_cases hlt : c < t.length
    · obtain ⟨bt, offt, rfl, htc⟩ := hk3 c hlt
      by_cases hpc : c ∈ piv
      · have hpc' : (c : Int) ∈ piv.map (fun k : Nat => (k : Int)) := List.mem_map.2 ⟨c, hpc, rfl⟩
        have HZ' := Lib.hid (show ∀ j, j < c + 1 → sepHit x piv t j = false from fun j hj => by
          by_cases e : j = c
          · rw [e]; simp [sepHit, hpc]
          · exact HZ.out j (by omega))
        have HPC := Lib.hid hpc'
        clear hpc hpc'
        go_wp2_with fail
        with_reducible refine (contains_yes _ _ _ _ (hPI.below hbr) HPC.out).mono ?_
        rintro e w' ⟨rfl, rfl⟩
        go_wp2_with fail
        go_roundw
        case rel => exact ⟨c + 1, by omega, by go_num, HZ', hbr⟩
        case measure => simp [intOf]; omega
      · have hpc' : (c : Int) ∉ piv.map (fun k : Nat => (k : Int)) := fun h => by
          obtain ⟨k, hk, e⟩ := List.mem_map.1 h
          obtain rfl : k = c := by omega
          exact hpc hk
        have HPC := Lib.hid hpc'
        have HPN := Lib.hid hpc
        clear hpc hpc'
        go_wp2_with fail
        with_reducible refine (contains_no _ _ _ _ (hPI.below hbr) HPC.out).mono ?_
        rintro e w' ⟨rfl, rfl⟩
        obtain ⟨z, hz⟩ : ∃ z, z = t[c] := ⟨_, rfl⟩
        rw [← hz] at htc
        have htn : 0 ≤ z ∧ z < 1073741789 := by rw [hz]; exact HT.out _ (List.getElem_mem hlt)
        have HTC := Lib.hid (show z = t[c]?.getD 0 by rw [hz, List.getElem?_eq_getElem hlt]; rfl)
        clear hz
        have hbt0 : bt < w3.heap.size := lt_of_cell htc
        have htc := below_cell hbr htc
        have hmk := run_ints t.length (by omega)
        have i1 : (0 : Int) ≤ (c : Int) := by omega
        have i2 : (c : Int) < (t.length : Int) := by omega
        go_wp2_with fail
        go_region_held3 (fun w' => w'.cell? ⟨bt, offt + c, none⟩ = some (.int .i64 z)) (go_keep) (fail)
        obtain ⟨W4, hW4⟩ : ∃ W4, (wr.alloc (.cells (madeCells #[.int .i64 0] t.length) 3)).drew = W4 := ⟨_, rfl⟩
        obtain ⟨Y, hY⟩ : ∃ Y, Y = wr.heap.size := ⟨_, rfl⟩
        have hI4 : IBlk W4 Y t.length (fun _ => 0) := by
          rw [← hW4, hY]
          have h := IBlk.made wr t.length 3
          exact ⟨h.cell, h.fro⟩
        have hb4 : Below Y wr W4 := by rw [← hW4, hY]; exact ((Below.refl _ _).alloc (Nat.le_refl _) _).drew
        have hsY : Y < W4.heap.size := by rw [← hW4, hY]; simp
        rw [hW4, ← hY]
        have h3Y : w3.heap.size ≤ Y := by rw [hY]; exact hbr.size
        clear hW4 hmk hY
        have hyc := hI4.cell c hlt
        have hyf := hI4.fro c hlt
        go_wp2_with fail
        have hI5 := hI4.set (k := c) 1
        have hb5 := hb4.setCell (p := ⟨Y, c, none⟩) (Nat.le_refl _) (.int .i64 1)
        have hs5 : Y < (W4.setCell ⟨Y, c, none⟩ (.int .i64 1)).heap.size := by simp [World.setCell]; exact hsY
        obtain ⟨W5, hW5⟩ : ∃ W5, W4.setCell ⟨Y, c, none⟩ (.int .i64 1) = W5 := ⟨_, rfl⟩
        rw [hW5] at hI5 hb5 hs5 ⊢
        have hb5' : Below w3.heap.size w3 W5 := hbr.trans (hb5.mono h3Y)
        clear hW5 hyc hyf hI4 hb4 hb5 hsY
        go_loopw [11, 12, 13, 47] (fun pr _ _ i wq => ∃ K : Nat, K ≤ piv.length ∧ i = .int .i64 K ∧ pr = .int .i64 (sepP x piv t c K) ∧ IBlk wq Y t.length (sepW x piv c K) ∧ Y < wq.heap.size ∧ Below w3.heap.size w3 wq) (fun _ _ _ i _ => piv.length - (intOf i).toNat)
        case atStart => exact ⟨0, Nat.zero_le _, rfl, by rw [HTC.out]; rfl, hI5, hs5, hb5'⟩
        case round =>
          obtain ⟨K, hK, rfl, rfl, hIK, hsK, hbK⟩ := hrel
          by_cases hltK : K < piv.length
          · obtain ⟨g, rfl, hg1, hg2, hg3⟩ := owns_pivots hown3 (by omega)
            have hpk := below_cell hbK (hg3 K hltK)
            have hpl2 : piv[K] < t.length := HPT.out _ (List.getElem_mem hltK)
            have HPK := Lib.hid (show piv[K]?.getD 0 = piv[K] by rw [List.getElem?_eq_getElem hltK]; rfl)
            obtain ⟨p, hp⟩ : ∃ p, p = piv[K] := ⟨_, rfl⟩
            rw [← hp] at hpk hpl2 HPK
            obtain ⟨rc, hrow⟩ := hT3.row K (by omega)
            have hel := below_cell hbK (hT3.elem K c (by omega) hlt)
            have hen := hT3.num K c (by omega) hlt
            have hrow := below_cell hbK hrow
            obtain ⟨tp, htp⟩ : ∃ tp, tp = t[p] := ⟨_, rfl⟩
            have htpn : 0 ≤ tp ∧ tp < 1073741789 := by rw [htp]; exact HT.out _ (List.getElem_mem hpl2)
            obtain ⟨b', o', e', htc'⟩ := hk3 p hpl2
            obtain ⟨rfl, rfl⟩ : bt = b' ∧ offt = o' := by cases e'; exact ⟨rfl, rfl⟩
            rw [← htp] at htc'
            have htc' := below_cell hbK htc'
            have HTP := Lib.hid (show t[p]?.getD 0 = tp by rw [htp, List.getElem?_eq_getElem hpl2]; rfl)
            have hyc := hIK.cell p hpl2
            have hyf := hIK.fro p hpl2
            have hrr : R64 (-(x K c)) := by unfold R64; omega
            clear hp hg3 htp e'
            go_wp2_with fail
            with_reducible refine (mod_any _ _ hrr).mono ?_
            rintro e w' ⟨rfl, rfl⟩
            go_wp2_with fail
            obtain ⟨v, hv⟩ : ∃ v, v = -(x K c) % 1073741789 := ⟨_, rfl⟩
            rw [← hv]
            have hvn : 0 ≤ v ∧ v < 1073741789 := by rw [hv]; exact mod_num _
            have hvr := num_r64 hvn
            have htr := num_r64 htpn
            have hsr := num_r64 (sepP_num (x := x) (piv := piv) (c := c) HT.out K)
            have hmr := mod_r64 (v * tp)
            have hI6 : IBlk (wr.setCell ⟨Y, p, none⟩ (.int .i64 v)) Y t.length (sepW x piv c (K + 1)) := by
              have := hIK.set (k := p) v
              rw [← HPK.out, hv] at this
              rw [← HPK.out, hv]; exact this
            have hb6 := hbK.setCell (p := ⟨Y, p, none⟩) h3Y (.int .i64 v)
            have hs6 : Y < (wr.setCell ⟨Y, p, none⟩ (.int .i64 v)).heap.size := by simp [World.setCell]; exact hsK
            have hy6 : (wr.setCell ⟨Y, p, none⟩ (.int .i64 v)).cell? ⟨Y, p, none⟩ = some (.int .i64 v) := World.cell?_setCell_same' _ _ _ (by rw [hyc]; rfl)
            have hbt : bt < w3.heap.size := hbt0
            have ht6 : (wr.setCell ⟨Y, p, none⟩ (.int .i64 v)).cell? ⟨bt, offt + p, none⟩ = some (.int .i64 tp) := by rw [set_other (.inl (by omega))]; exact htc'
            have HSP := Lib.hid (show sepP x piv t c (K + 1) = (sepP x piv t c K + v * tp % 1073741789) % 1073741789 by
              show (sepP x piv t c K + (-(x K c) % 1073741789) * t[piv[K]?.getD 0]?.getD 0 % 1073741789) % 1073741789 = _
              rw [HPK.out, HTP.out, hv])
            obtain ⟨W6, hW6⟩ : ∃ W6, wr.setCell ⟨Y, p, none⟩ (.int .i64 v) = W6 := ⟨_, rfl⟩
            rw [hW6] at hI6 hb6 hs6 hy6 ht6 ⊢
            obtain ⟨sp, hsp⟩ : ∃ sp, sp = sepP x piv t c K := ⟨_, rfl⟩
            rw [← hsp] at hsr HSP ⊢
            have j1 : (0 : Int) ≤ (p : Int) := by omega
            have j2 : (p : Int) < (t.length : Int) := by omega
            clear hv hW6 hsp hyc hyf hel hrow htc'
            have hy6d : W6.drew.cell? ⟨Y, p, none⟩ = some (.int .i64 v) := hy6
            have ht6d : W6.drew.cell? ⟨bt, offt + p, none⟩ = some (.int .i64 tp) := ht6
            go_region_held3 (fun w' => w'.cell? ⟨Y, p, none⟩ = some (.int .i64 v) ∧ w'.cell? ⟨bt, offt + p, none⟩ = some (.int .i64 tp)) (go_keep)
              (first
                | (go_at_call 70; with_reducible refine (mul_any v tp _ hvr htr).mono ?_; rintro e w6 ⟨rfl, rfl⟩)
                | (go_at_call 46; with_reducible refine (add_any sp (v * tp % 1073741789) _ hsr hmr).mono ?_; rintro e w6 ⟨rfl, hb7⟩; have hk1 := below_cell hb7 hy6d; have hk2 := below_cell hb7 ht6d))
            go_wp2_with fail
            have hb8 : Below W6.heap.size W6 w6 := ((Below.refl W6.heap.size W6).drew).trans hb7
            go_roundw
            case rel => exact ⟨K + 1, by omega, by go_num, by rw [HSP.out]; congr 1; omega, hI6.below hb8 hs6, Nat.lt_of_lt_of_le hs6 hb8.size, hb6.trans (hb8.mono hb6.size)⟩
            case measure => simp [intOf]; omega
          · obtain rfl : K = piv.length := by omega
            have hpn := sepP_num (x := x) (piv := piv) (c := c) HT.out piv.length
            obtain ⟨sp, hsp⟩ : ∃ sp, sp = sepP x piv t c piv.length := ⟨_, rfl⟩
            rw [← hsp] at hpn ⊢
            have HSP := Lib.hid hsp
            clear hsp
            by_cases hz0 : sp % 1073741789 = 0
            · have HZ' := Lib.hid (show ∀ j, j < c + 1 → sepHit x piv t j = false from fun j hj => by
                by_cases e : j = c
                · rw [e]; unfold sepHit; rw [← HSP.out, hz0]; simp
                · exact HZ.out j (by omega))
              have HS0 := Lib.hid hz0
              clear hz0
              go_wp2_with fail
              with_reducible refine (inverse_zero _ _ (num_r64 hpn) HS0.out).mono ?_
              rintro e w' ⟨rfl, rfl⟩
              go_wp2_with fail
              go_roundw
              case rel => exact ⟨c + 1, by omega, by go_num, HZ', hbK⟩
              case measure => simp [intOf]; omega
            · have HS0 := Lib.hid hz0
              have HQ := Lib.hid (sepC_hit HX.out HP.out hlt HZ.out (by
                unfold sepHit; rw [← HSP.out]; simp [HPN.out, hz0]))
              clear hz0
              go_wp2_with fail
              with_reducible refine (inverse_any _ _ (num_r64 hpn) HS0.out).mono ?_
              rintro e w' ⟨rfl, rfl⟩
              have hvn : 0 ≤ invQ sp ∧ invQ sp < 1073741789 := mod_num _
              obtain ⟨v, hv⟩ : ∃ v, v = invQ sp := ⟨_, rfl⟩
              rw [← hv] at hvn ⊢
              have HV := Lib.hid hv
              clear hv
              go_wp2_with fail
              have hI0 : IBlk wr Y t.length (scaleF (sepW x piv c piv.length) v 0) := by rw [scaleF_0]; exact hIK
              go_loopw [16, 17, 85] (fun _ _ i wq => ∃ K : Nat, K ≤ t.length ∧ i = .int .i64 K ∧ IBlk wq Y t.length (scaleF (sepW x piv c piv.length) v K) ∧ Below w3.heap.size w3 wq) (fun _ _ i _ => t.length - (intOf i).toNat)
              case atStart => exact ⟨0, Nat.zero_le _, rfl, hI0, hbK⟩
              case round =>
                obtain ⟨K, hK2, rfl, hIQ, hbQ⟩ := hrel
                by_cases hltK : K < t.length
                · have hyc := hIQ.cell K hltK
                  have hyf := hIQ.fro K hltK
                  have hI' : IBlk (wr.setCell ⟨Y, K, none⟩ (.int .i64 (scaleF (sepW x piv c piv.length) v K K * v % 1073741789))) Y t.length (scaleF (sepW x piv c piv.length) v (K + 1)) := by
                    rw [scaleF_s]; exact hIQ.set _
                  have hb' := hbQ.setCell (p := ⟨Y, K, none⟩) h3Y (.int .i64 (scaleF (sepW x piv c piv.length) v K K * v % 1073741789))
                  obtain ⟨y, hy⟩ : ∃ y, y = scaleF (sepW x piv c piv.length) v K K := ⟨_, rfl⟩
                  have hyn : 0 ≤ y ∧ y < 1073741789 := by rw [hy, scaleF_at]; exact sepW_num _ _
                  rw [← hy] at hyc hI' hb'
                  clear hy
                  go_wp2_with fail
                  with_reducible refine (mul_any y v _ (num_r64 hyn) (num_r64 hvn)).mono ?_
                  rintro e w' ⟨rfl, rfl⟩
                  go_wp2_with fail
                  go_roundw
                  case rel => exact ⟨K + 1, by omega, by go_num, hI', hb'⟩
                  case measure => simp [intOf]; omega
                · obtain rfl : K = t.length := by omega
                  have hc5 : wr.cell? ⟨w.heap.size, 0, none⟩ = some (.int .i64 0) := below_cell hbQ hc3
                  have hf5 : wr.frozen? ⟨w.heap.size, 0, none⟩ = false := by rw [hbQ.frozen (p := ⟨w.heap.size, 0, none⟩) hlt3]; exact hf3
                  go_wp2_with fail
                  refine leaves_cons (f := 64) (args := #[.pointer (some ⟨w.heap.size, 0, none⟩)]) (by simp) (by simp [go_sem]) ?_
                  refine (caught_idle _ _).mono ?_
                  rintro e u' w'' ⟨rfl, rfl, rfl⟩
                  have hx := World.cell?_setCell_same' wr ⟨w.heap.size, 0, none⟩ (.int .i64 0) (by rw [hc5]; rfl)
                  simp [Leaves, settle, results, Try.results28, go_sem, hx]
                  refine ⟨.slice (some ⟨Y, 0, none⟩) t.length t.length, ?_, ?_, (hbw.trans (hbQ.mono (Nat.le_of_lt hlt3))).setCell (Nat.le_refl _) _⟩
                  · rw [HQ.out, H0.out]; rfl
                  · rw [HQ.out, if_pos H0.out]
                    have := (hIQ.other (b' := w.heap.size) (o := 0) (by omega) (.int .i64 0)).ints (Nat.le_refl _) hlen2 (fun i hi => by rw [scaleF_end hi]; exact mod_r64 _)
                    rw [scaleF_list, HV.out, HSP.out] at this
                    exact this
    · obtain rfl : c = t.length := by omega
      have HQ := Lib.hid (sepC_none HX.out HP.out HZ.out)
      have hc5 : wr.cell? ⟨w.heap.size, 0, none⟩ = some (.int .i64 0) := below_cell hbr hc3
      have hf5 : wr.frozen? ⟨w.heap.size, 0, none⟩ = false := by rw [hbr.frozen (p := ⟨w.heap.size, 0, none⟩) hlt3]; exact hf3
      go_wp2_with fail
      refine leaves_cons (f := 64) (args := #[.pointer (some ⟨w.heap.size, 0, none⟩)]) (by simp) (by simp [go_sem]) ?_
      refine (caught_idle _ _).mono ?_
      rintro e u' w'' ⟨rfl, rfl, rfl⟩
      have hx := World.cell?_setCell_same' wr ⟨w.heap.size, 0, none⟩ (.int .i64 0) (by rw [hc5]; rfl)
      simp [Leaves, settle, results, Try.results28, go_sem, hx]
      refine ⟨.slice none 0 0, ?_, ?_, (hbw.trans (hbr.mono (Nat.le_of_lt hlt3))).setCell (Nat.le_refl _) _⟩
      · rw [HQ.out, H0.out]; rfl
      · rw [HQ.out, H0.out]; exact Ints.nil _ _ _

set_option maxRecDepth 100000 in
theorem Separate_any (v u : Value) (rows : List (List Int)) (t : List Int) (w : World) (hI : Rows2 w v rows) (hU : Ints w u t) :
    Calls Try.prog 28 #[v, u] w (SepPost rows t w) := by
  by_cases h0 : examErr rows t = 0
  · obtain ⟨h1, h2, h3⟩ := examErr_ok_iff h0
    by_cases ht : t.length = 0
    · obtain rfl : t = [] := List.length_eq_zero_iff.1 ht
      exact Separate_flat v u rows w hI hU h0 h1.few (wide_zero h1)
    · exact Separate_wide v u rows t w hI hU h0 h1 h2 h3 (by omega)
  · refine (Separate_err v u rows t w hI hU h0).mono ?_
    rintro e w' ⟨rfl, hb⟩
    refine ⟨.slice none 0 0, ?_, ?_, hb⟩
    · rw [decide_eq_false h0]; rfl
    · rw [if_neg h0]; exact Ints.nil _ _ _

end Go.Proofs.Ytnbkbnbmmkfckaa
