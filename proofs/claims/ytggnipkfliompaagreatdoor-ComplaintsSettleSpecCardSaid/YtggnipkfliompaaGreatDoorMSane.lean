/- The laws' examples: sane returns true. What Combine and Separate say: a target is made of rows exactly if no list proves that it is not. Separate's proofs; and the rank, row by row. What the calls give, with their values known: for the laws. The rank, row by row; and that of the columns. Package dealing: the sum of shares. Package dealing: Recover. Dealing: the examples, reckoned; calls whose values are known. The reference of dealing: comparing; the laws' program of one row. The laws of dealing: the program of one row. The laws of dealing: the examples. The laws of dealing: small programs, columns, random numbers. The laws of dealing: every share that was dealt fits, and with no other value. The reference of dealing: Number, power, Commits, public, Public. Package complaints, in plain Lean: what Make and Settle compute. -/
import Derived.Test.YtggnipkfliompaaGreatDoorMDeaJ
import Derived.Test.YtggnipkfliompaaGreatDoorMEqD
import Derived.Test.YtggnipkfliompaaGreatDoorMHash
import Derived.Deep.RegionHeld3
import Derived.BigQuiet
namespace Go.Proofs.YtggnipkfliompaaGreatDoor
open Go.RowKit

theorem ints_lit (w : World) (zs : List Int) (cs : Array Value) (t : TypeId) (hc : cs = (zs.map (Value.int .i64)).toArray) (hr : ∀ z ∈ zs, R64 z) (hn : zs.length ≤ 1000) : Ints (w.alloc (.cells cs t)) (.slice (some ⟨w.heap.size, 0, none⟩) zs.length zs.length) zs := by
  refine ⟨_, _, rfl, Nat.le_refl _, by omega, hr, fun k hk => ⟨_, 0, rfl, ?_⟩⟩
  rw [World.cell?_alloc_at _ _ _ _ rfl, hc, Nat.zero_add]
  simp [hk]
theorem rows_lit (w : World) (rows : List (List Int)) (hs : List Value) (cs : Array Value) (t : TypeId) (hc : cs = hs.toArray) (hl : hs.length = rows.length) (hn : rows.length ≤ 1000) (hi : ∀ k (h1 : k < hs.length) (h2 : k < rows.length), Ints w hs[k] rows[k]) :
    Rows2 (w.alloc (.cells cs t)) (.slice (some ⟨w.heap.size, 0, none⟩) rows.length rows.length) rows := by
  refine ⟨_, _, rfl, Nat.le_refl _, by omega, fun k hk => ⟨_, 0, hs[k]'(by omega), rfl, ?_, (hi k (by omega) hk).below ((Below.refl _ _).alloc (Nat.le_refl _) _)⟩⟩
  rw [World.cell?_alloc_at _ _ _ _ rfl, hc, Nat.zero_add]
  simp [show k < hs.length by omega]

abbrev sl (b n : Nat) : Value := .slice (some ⟨b, 0, none⟩) n n
theorem below_a (w : World) (o : Obj) : Below w.heap.size w (w.alloc o) := (Below.refl _ _).alloc (Nat.le_refl _) o

theorem r2 (z : Int) (h : decide (-9223372036854775808 ≤ z ∧ z ≤ 9223372036854775807) = true) : R64 z := by unfold R64; simpa using h
theorem rall (zs : List Int) (h : (zs.all fun z => decide (-9223372036854775808 ≤ z ∧ z ≤ 9223372036854775807)) = true) : ∀ z ∈ zs, R64 z := fun z hz => r2 z (List.all_eq_true.1 h z hz)

/-- One row of literals. -/
theorem rows_1 (w : World) (a : List Int) (ca : Array Value) (t u : TypeId) (h1 : ca = (a.map (Value.int .i64)).toArray) (r1 : (a.all fun z => decide (-9223372036854775808 ≤ z ∧ z ≤ 9223372036854775807)) = true) (n1 : a.length ≤ 1000) :
    Rows2 ((w.alloc (.cells ca t)).alloc (.cells #[sl w.heap.size a.length] u)) (sl (w.heap.size + 1) 1) [a] := by
  have := rows_lit (w.alloc (.cells ca t)) [a] [sl w.heap.size a.length] #[sl w.heap.size a.length] u rfl rfl (by simp) (fun k k1 k2 => by
    obtain rfl : k = 0 := by simp at k1; omega
    exact ints_lit w a ca t h1 (rall a r1) n1)
  simpa using this
theorem rows_2 (w : World) (a b : List Int) (ca cb : Array Value) (t u : TypeId) (h1 : ca = (a.map (Value.int .i64)).toArray) (h2 : cb = (b.map (Value.int .i64)).toArray) (r1 : (a.all fun z => decide (-9223372036854775808 ≤ z ∧ z ≤ 9223372036854775807)) = true) (r2 : (b.all fun z => decide (-9223372036854775808 ≤ z ∧ z ≤ 9223372036854775807)) = true) (n1 : a.length ≤ 1000) (n2 : b.length ≤ 1000) :
    Rows2 (((w.alloc (.cells ca t)).alloc (.cells cb t)).alloc (.cells #[sl w.heap.size a.length, sl (w.heap.size + 1) b.length] u)) (sl (w.heap.size + 1 + 1) 2) [a, b] := by
  have ib := ints_lit (w.alloc (.cells ca t)) b cb t h2 (rall b r2) n2
  have ia := (ints_lit w a ca t h1 (rall a r1) n1).below (below_a _ (.cells cb t))
  have := rows_lit ((w.alloc (.cells ca t)).alloc (.cells cb t)) [a, b] [sl w.heap.size a.length, sl (w.heap.size + 1) b.length] _ u rfl rfl (by simp) (fun k k1 k2 => by
    have : k = 0 ∨ k = 1 := by simp at k1; omega
    rcases this with rfl | rfl
    · exact ia
    · simpa using ib)
  simpa using this
set_option maxRecDepth 100000 in
/-- Combine and Separate at rows whose result is known. -/
theorem Combine_is (v u : Value) (rows : List (List Int)) (t y : List Int) (ok : Bool) (e : Int) (w : World) (hI : Rows2 w v rows) (hU : Ints w u t) (he : examErr rows t = e) (hok : (decide (e = 0) && combOk rows t) = ok) (hy : (if e = 0 ∧ combOk rows t = true then combY rows t else []) = y) :
    Calls Tryz.prog 117 #[v, u] w fun r w' => ∃ yv, r = .returned (.tuple #[yv, .bool ok, .int .i64 e]) ∧ Ints w' yv y ∧ Below w.heap.size w w' :=
  (Combine_any v u rows t w hI hU).mono fun r w' ⟨yv, h1, h2, h3⟩ => ⟨yv, by rw [h1, he, hok], by rw [he, hy] at h2; exact h2, h3⟩
/-! The calls, one by one. -/
set_option maxRecDepth 100000 in
theorem s3 (w : World) : Calls Tryz.prog 117 #[sl (w.heap.size + 1 + 1) 2, sl (w.heap.size + 1 + 1 + 1) 2]
    ((((w.alloc (.cells #[.int .i64 1, .int .i64 1] 3)).alloc (.cells #[.int .i64 0, .int .i64 1] 3)).alloc (.cells #[sl w.heap.size 2, sl (w.heap.size + 1) 2] 23)).alloc (.cells #[.int .i64 1, .int .i64 0] 3))
    fun r w' => ∃ yv, r = .returned (.tuple #[yv, .bool true, .int .i64 0]) ∧ Ints w' yv [1, 1073741788] ∧ Below w.heap.size w w' := by
  have hT := ints_lit (((w.alloc (.cells #[.int .i64 1, .int .i64 1] 3)).alloc (.cells #[.int .i64 0, .int .i64 1] 3)).alloc (.cells #[sl w.heap.size 2, sl (w.heap.size + 1) 2] 23)) [1, 0] #[.int .i64 1, .int .i64 0] 3 rfl (rall _ (by decide)) (by decide)
  simp only [World.size_alloc] at hT
  exact (Combine_is _ _ [[1, 1], [0, 1]] [1, 0] [1, 1073741788] true 0 _ ((rows_2 w [1, 1] [0, 1] _ _ 3 23 rfl rfl (by decide) (by decide) (by decide) (by decide)).below (below_a _ _)) hT (by decide) (by rw [ex_comb1.1]; rfl) (by rw [ex_comb1.1, ex_comb1.2]; rfl)).mono
    fun r w' ⟨yv, h1, h2, h3⟩ => ⟨yv, h1, h2, ((below_three w _ _ _).alloc (by simp; omega) _).trans (h3.mono (by simp; omega))⟩

set_option maxRecDepth 100000 in
theorem s5 (w : World) : Calls Tryz.prog 117 #[sl (w.heap.size + 1) 1, sl (w.heap.size + 1 + 1) 2]
    (((w.alloc (.cells #[.int .i64 1, .int .i64 1] 3)).alloc (.cells #[sl w.heap.size 2] 23)).alloc (.cells #[.int .i64 1, .int .i64 0] 3))
    fun r w' => ∃ yv, r = .returned (.tuple #[yv, .bool false, .int .i64 0]) ∧ Ints w' yv [] ∧ Below w.heap.size w w' := by
  have hT := ints_lit ((w.alloc (.cells #[.int .i64 1, .int .i64 1] 3)).alloc (.cells #[sl w.heap.size 2] 23)) [1, 0] #[.int .i64 1, .int .i64 0] 3 rfl (rall _ (by decide)) (by decide)
  simp only [World.size_alloc] at hT
  exact (Combine_is _ _ [[1, 1]] [1, 0] [] false 0 _ ((rows_1 w [1, 1] _ 3 23 rfl (by decide) (by decide)).below (below_a _ _)) hT (by decide) (by rw [ex_comb2]; rfl) (by rw [ex_comb2]; rfl)).mono
    fun r w' ⟨yv, h1, h2, h3⟩ => ⟨yv, h1, h2, (below_three w _ _ _).trans (h3.mono (by simp; try omega))⟩
set_option maxRecDepth 100000 in
theorem s7 (w : World) : Calls Tryz.prog 117 #[.slice none 0 0, sl w.heap.size 2]
    (w.alloc (.cells #[.int .i64 0, .int .i64 0] 3))
    fun r w' => ∃ yv, r = .returned (.tuple #[yv, .bool true, .int .i64 0]) ∧ Ints w' yv [] ∧ Below w.heap.size w w' := by
  have hT := ints_lit w [0, 0] #[.int .i64 0, .int .i64 0] 3 rfl (rall _ (by decide)) (by decide)
  exact (Combine_is _ _ [] [0, 0] [] true 0 _ (Rows2.nil _ _ _) hT (by decide) (by rw [ex_comb3.1]; rfl) (by rw [ex_comb3.1, ex_comb3.2]; rfl)).mono
    fun r w' ⟨yv, h1, h2, h3⟩ => ⟨yv, h1, h2, (below_a w _).trans (h3.mono (by simp; try omega))⟩
set_option maxRecDepth 100000 in
theorem s10 (w : World) : Calls Tryz.prog 117 #[sl (w.heap.size + 1) 1, sl (w.heap.size + 1 + 1) 1]
    (((w.alloc (.cells #[.int .i64 1, .int .i64 1] 3)).alloc (.cells #[sl w.heap.size 2] 23)).alloc (.cells #[.int .i64 1] 3))
    fun r w' => ∃ yv, r = .returned (.tuple #[yv, .bool false, .int .i64 130]) ∧ Ints w' yv [] ∧ Below w.heap.size w w' := by
  have hT := ints_lit ((w.alloc (.cells #[.int .i64 1, .int .i64 1] 3)).alloc (.cells #[sl w.heap.size 2] 23)) [1] #[.int .i64 1] 3 rfl (rall _ (by decide)) (by decide)
  simp only [World.size_alloc] at hT
  exact (Combine_is _ _ [[1, 1]] [1] [] false 130 _ ((rows_1 w [1, 1] _ 3 23 rfl (by decide) (by decide)).below (below_a _ _)) hT (by decide) (by rfl) (by rfl)).mono
    fun r w' ⟨yv, h1, h2, h3⟩ => ⟨yv, h1, h2, (below_three w _ _ _).trans (h3.mono (by simp; try omega))⟩
end Go.Proofs.YtggnipkfliompaaGreatDoor

namespace Go.Proofs.YtggnipkfliompaaGreatDoor

/-- A vector, followed by -1. -/
def ext (n : Nat) (y : Nat → Fq) : Nat → Fq := fun j => if j = n then -1 else y j
end Go.Proofs.YtggnipkfliompaaGreatDoor

namespace Go.Proofs.YtggnipkfliompaaGreatDoor

end Go.Proofs.YtggnipkfliompaaGreatDoor

namespace Go.Proofs.YtggnipkfliompaaGreatDoor
open Go.RowKit

end Go.Proofs.YtggnipkfliompaaGreatDoor

namespace Go.Proofs.YtggnipkfliompaaGreatDoor

/-! Prefixes. -/
end Go.Proofs.YtggnipkfliompaaGreatDoor

namespace Go.Proofs.YtggnipkfliompaaGreatDoor
open Go.RowKit FP

end Go.Proofs.YtggnipkfliompaaGreatDoor

namespace Go.Proofs.YtggnipkfliompaaGreatDoor
open Go.RowKit FP

end Go.Proofs.YtggnipkfliompaaGreatDoor

namespace Go.Proofs.YtggnipkfliompaaGreatDoor
open Go.RowKit FP

end Go.Proofs.YtggnipkfliompaaGreatDoor

namespace Go.Proofs.YtggnipkfliompaaGreatDoor
open Go.RowKit FP

end Go.Proofs.YtggnipkfliompaaGreatDoor

namespace Go.Proofs.YtggnipkfliompaaGreatDoor
open Go.RowKit FP

theorem ints_of2 {w : World} {b c : Nat} {x y : Int} (h : w.cell? ⟨b, 0, none⟩ = some (.int .i64 x)) (h2 : w.cell? ⟨b, 1, none⟩ = some (.int .i64 y)) (hx : R64 x) (hy : R64 y) (hc : 2 ≤ c) : Ints w (.slice (some ⟨b, 0, none⟩) 2 c) [x, y] :=
  ⟨_, c, rfl, hc, by simp, by simp [hx, hy], fun k hk => ⟨b, 0, rfl, by
    match k, hk with
    | 0, _ => exact h
    | 1, _ => exact h2⟩⟩
theorem rows_of2 {w : World} {b c : Nat} {r s : Value} {x y : List Int} (h : w.cell? ⟨b, 0, none⟩ = some r) (h2 : w.cell? ⟨b, 1, none⟩ = some s) (hI : Ints w r x) (hJ : Ints w s y) (hc : 2 ≤ c) : Rows2 w (.slice (some ⟨b, 0, none⟩) 2 c) [x, y] :=
  ⟨_, c, rfl, hc, by simp, fun k hk => by
    match k, hk with
    | 0, _ => exact ⟨b, 0, r, rfl, h, hI⟩
    | 1, _ => exact ⟨b, 0, s, rfl, h2, hJ⟩⟩
end Go.Proofs.YtggnipkfliompaaGreatDoor

namespace Go.Proofs.YtggnipkfliompaaGreatDoor
open Go.RowKit FP

end Go.Proofs.YtggnipkfliompaaGreatDoor

namespace Go.Proofs.YtggnipkfliompaaGreatDoor
open Go.RowKit FP

/-- The slice v reads as words. -/
def Words (w : World) (v : Value) (l : List Int) : Prop :=
  ∃ a cap, v = .slice a l.length cap ∧ l.length ≤ cap ∧ l.length ≤ 1000000000000000 ∧ (∀ z ∈ l, 0 ≤ z ∧ z < 4294967296) ∧
    ∀ k (h : k < l.length), ∃ b off, a = some ⟨b, off, none⟩ ∧ w.cell? ⟨b, off + k, none⟩ = some (.int .u32 l[k])
theorem Words.below {w w' : World} {v : Value} {l : List Int} (h : Words w v l) (hb : Below w.heap.size w w') : Words w' v l := by
  obtain ⟨a, cap, rfl, hc, hl, hr, hk⟩ := h
  refine ⟨a, cap, rfl, hc, hl, hr, fun k hlt => ?_⟩
  obtain ⟨b, off, ha, h1⟩ := hk k hlt
  exact ⟨b, off, ha, below_cell hb h1⟩
theorem Words.nil (w : World) (a : Option Addr) (cap : Nat) : Words w (.slice a 0 cap) [] :=
  ⟨a, cap, rfl, Nat.zero_le _, by simp, by simp, fun k h => absurd h (Nat.not_lt_zero _)⟩

set_option maxRecDepth 100000 in
set_option maxHeartbeats 1000000 in
theorem rcolumns_any (rv ov : Value) (rows : List (List Int)) (owners : List Int) (w : World) (hR : Rows2 w rv rows) (hO : Ints w ov owners) :
    Calls Tryz.prog 105 #[.agg #[rv, ov]] w fun e w' => e = .returned (.int .i64 (colsQ rows)) ∧ Below w.heap.size w w' := by
  obtain ⟨W1, hW1, hb1, hr1, hz⟩ := box_prog w rv ov 25
  have HR1 := Lib.hid (hR.below hb1)
  obtain ⟨a, cap, rfl, -, hlen, -⟩ := id hR
  obtain ⟨a2, cap2, rfl, -, hlen2, -⟩ := id hO
  have c0 : W1.cell? ⟨w.heap.size, 0, none⟩ = some (.slice a rows.length cap) := rowp_cell hr1 rfl
  have HW1 := Lib.hid hW1
  have HB1 := Lib.hid hb1
  clear hR hO hr1 hW1 hb1
  by_cases h0 : rows.length = 0
  · have HV := Lib.hid (show colsQ rows = 1 by unfold colsQ; rw [if_pos h0])
    have z0 : ((rows.length : Int) == 0) = true := by rw [h0]; rfl
    clear h0
    go_enter Tryz.func105, Tryz.ntmps105
    go_wp2_with fail
    go_ret
    exact ⟨ret_int (by rw [HV.out]; rfl), HW1.out ▸ HB1.out⟩
  · have HV := Lib.hid (show colsQ rows = wide rows by unfold colsQ; rw [if_neg h0])
    have z0 : ((rows.length : Int) == 0) = false := beq_eq_false_iff_ne.2 (by omega)
    obtain ⟨aa, cc, e1, -, -, hk⟩ := HR1.out
    obtain ⟨b, off, r, ha, q1, hI⟩ := hk 0 (by omega)
    simp only [Value.slice.injEq] at e1
    obtain ⟨rfl, -, rfl⟩ := e1
    subst ha
    rw [Nat.add_zero] at q1
    obtain ⟨ra, rc, rfl, -⟩ := id hI
    rw [wide_at rows (by omega)] at q1
    have i3 : (0 : Int) < (rows.length : Int) := by omega
    clear hk hI h0
    generalize wide rows = m at *
    go_enter Tryz.func105, Tryz.ntmps105
    go_wp2_with (rw [← HW1.out])
    go_ret
    exact ⟨ret_int (by rw [HV.out]), HB1.out⟩

end Go.Proofs.YtggnipkfliompaaGreatDoor

namespace Go.Proofs.YtggnipkfliompaaGreatDoor
open Go.RowKit FP

theorem nth_mapv {f : Int → Int} {l : List Int} {k : Nat} (h : k < l.length) : nth (l.map f) k = f (nth l k) := by
  rw [nth_at (by simpa using h), nth_at h, List.getElem_map]
theorem pub_deal (row s : List Int) : ∀ j, j ≤ s.length → pubF row (dealC s) j = powE 4 (prodF row s j)
  | 0, _ => by show (1 : Int) = powE 4 0; rw [powE_0]
  | j + 1, hj => by
    show pubF row (dealC s) j * powE (nth (dealC s) j) (nth row j) % 2147483579 = powE 4 ((prodF row s j + nth row j * nth s j % 1073741789) % 1073741789)
    rw [pub_deal row s j (by omega), show nth (dealC s) j = powE 4 (nth s j) from nth_mapv (by omega), powE_mul el_four, ← powE_add el_four]
    refine powE_same ?_
    rw [Int.mul_comm (nth s j) (nth row j)]
    generalize nth row j * nth s j = q
    omega
theorem com_deal {rows : List (List Int)} {owners : List Int} {x : Int} {rnd : List Int} (h : DealOK rows owners x rnd) (hp : progE rows owners = 0) : ComOK rows owners (dealC (x :: rnd)) :=
  ⟨h.prog, hp, by simp [dealC, ← h.len], fun c hc => by
    obtain ⟨n, -, rfl⟩ := List.mem_map.1 hc
    exact el_powE el_four n⟩
theorem fit_deal {rows : List (List Int)} {owners : List Int} {x : Int} {rnd : List Int} (h : DealOK rows owners x rnd) (hp : progE rows owners = 0) {k : Nat} (hk : k < rows.length) {v : Int} (hv : 0 ≤ v ∧ v < 1073741789) :
    fitE rows owners (dealC (x :: rnd)) k v = 0 ∧ fitB rows owners (dealC (x :: rnd)) k v = decide (v = prodQ (rows.getD k []) (x :: rnd)) := by
  have hE : fitE rows owners (dealC (x :: rnd)) k v = 0 := by
    unfold fitE
    rw [dchkE_of (com_deal h hp), if_neg (by simp), if_pos (rightS_iff.2 ⟨⟨by omega, by omega⟩, hv⟩)]
  refine ⟨hE, ?_⟩
  have hr := h.prog.row hk
  have hl : (x :: rnd).length = colsQ rows := by rw [List.length_cons]; exact h.len
  unfold fitB
  rw [if_pos hE, Int.toNat_natCast]
  unfold pubQ prodQ
  rw [pub_deal _ _ _ (by simp [dealC]), getD_at hk, hr, show (dealC (x :: rnd)).length = colsQ rows by rw [← hl]; simp [dealC]]
  have hn := prodF_num rows[k] (x :: rnd) (colsQ rows)
  generalize prodF rows[k] (x :: rnd) (colsQ rows) = p at *
  by_cases e : v = p
  · subst e; simp
  · rw [decide_eq_false e]
    refine beq_eq_false_iff_ne.2 fun e2 => e ?_
    have := el_order2 el_four four_ne e2
    omega
end Go.Proofs.YtggnipkfliompaaGreatDoor

namespace Go.Proofs.YtggnipkfliompaaGreatDoor
open Go.RowKit FP

set_option maxRecDepth 100000 in
theorem rnumber34_any (z : Int) (w : World) : Calls Tryz.prog 145 #[.int .i64 z] w fun r w' => r = .returned (.bool (!oddQ z)) ∧ w = w' := by
  by_cases h1 : 0 ≤ z
  · have H := Lib.hid (show (!oddQ z) = decide (z < 1073741789) by
      unfold oddQ; rw [decide_eq_false (show ¬ z < 0 by omega), Bool.false_or]
      by_cases h : z < 1073741789
      · rw [decide_eq_true h, decide_eq_false (show ¬ 1073741789 ≤ z by omega)]; rfl
      · rw [decide_eq_false h, decide_eq_true (show 1073741789 ≤ z by omega)]; rfl)
    go_enter Tryz.func145, Tryz.ntmps145
    go_wp2_with fail
    go_ret
    exact ⟨ret_bool H.out.symm, rfl⟩
  · have H := Lib.hid (show (!oddQ z) = false by unfold oddQ; rw [decide_eq_true (show z < 0 by omega)]; rfl)
    go_enter Tryz.func145, Tryz.ntmps145
    go_wp2_with fail
    go_ret
    exact ⟨ret_bool H.out.symm, rfl⟩

set_option maxRecDepth 100000 in
theorem rpower34_any (x n : Int) (w : World) (hx : El x) (hn : R64 n) : Calls Tryz.prog 148 #[.int .i64 x, .int .i64 n] w fun r w' => r = .returned (.int .i64 (powE x n)) ∧ w = w' := by
  have HP := Lib.hid (rpow_yes x n w hx hn)
  clear hx hn
  generalize powE x n = p at *
  go_enter Tryz.func148, Tryz.ntmps148
  go_wp2_with fail
  refine HP.out.mono ?_
  rintro e w1 ⟨rfl, rfl⟩
  go_wp2_with fail
  go_ret
  exact ⟨rfl, rfl⟩

/-- Are numbers commitments? -/
def comB (rows : List (List Int)) (cs : List Int) : Bool := !cs.any notEl && decide (cs.length = colsQ rows)
theorem comB_E {rows : List (List Int)} {owners cs : List Int} (hp : progE rows owners = 0) : dchkE rows owners cs = if comB rows cs = true then 0 else 340 := by
  unfold dchkE comB
  rw [if_neg (by simp [hp])]
  by_cases h : cs.length = colsQ rows <;> cases e : cs.any notEl <;> simp [h]

set_option maxRecDepth 100000 in
set_option maxHeartbeats 2000000 in
theorem rcommits_any (rv ov cv : Value) (rows : List (List Int)) (owners cs : List Int) (w : World) (hR : Rows2 w rv rows) (hO : Ints w ov owners) (hC : Ints w cv cs) (hcq : colsQ rows ≤ 64) :
    Calls Tryz.prog 168 #[.agg #[rv, ov], cv] w fun r w' => r = .returned (.bool (comB rows cs)) ∧ Below w.heap.size w w' := by
  obtain ⟨W1, hW1, hb1, hr1, hz⟩ := box_prog w rv ov 25
  have HR1 := Lib.hid (hR.below hb1)
  have HO1 := Lib.hid (hO.below hb1)
  have HC1 := Lib.hid (hC.below hb1)
  obtain ⟨a, cap, rfl, -, hlen, -⟩ := id hR
  obtain ⟨a2, cap2, rfl, -, hlen2, -⟩ := id hO
  obtain ⟨a3, cap3, rfl, -, hlen3, hcr, -⟩ := id hC
  have c0 : W1.cell? ⟨w.heap.size, 0, none⟩ = some (.slice a rows.length cap) := row_cell hr1 rfl
  have c1 : W1.cell? ⟨w.heap.size, 1, none⟩ = some (.slice a2 owners.length cap2) := row_cell hr1 rfl
  have HW1 := Lib.hid hW1
  have HB1 := Lib.hid hb1
  have HCO := Lib.hid (fun W h1 h2 => rcolumns_any (.slice a rows.length cap) (.slice a2 owners.length cap2) rows owners W h1 h2)
  have HV : Hid (comB rows cs = (!cs.any notEl && decide (cs.length = colsQ rows))) := Lib.hid rfl
  clear hR hO hC hr1 hW1 hb1 hcr
  obtain ⟨q, hq⟩ : ∃ q, q = colsQ rows := ⟨_, rfl⟩
  rw [← hq] at hcq HV
  have HCO2 : Hid (∀ W, Rows2 W (.slice a rows.length cap) rows → Ints W (.slice a2 owners.length cap2) owners → Calls Tryz.prog 105 #[.agg #[.slice a rows.length cap, .slice a2 owners.length cap2]] W fun e w' => e = .returned (.int .i64 (q : Nat)) ∧ Below W.heap.size W w') := Lib.hid (by subst hq; exact HCO.out)
  clear HCO hq
  go_enter Tryz.func168, Tryz.ntmps168
  go_wp2_with fail
  rw [← HW1.out]
  go_loopw [5] (fun i W => ∃ k : Nat, k ≤ cs.length ∧ i = .int .i64 k ∧ Hid (∀ z ∈ cs.take k, notEl z = false) ∧ W = W1) (fun i _ => cs.length - (intOf i).toNat)
  case atStart => exact ⟨0, Nat.zero_le _, rfl, Lib.hid (by simp), rfl⟩
  case round =>
    obtain ⟨k, hkl, rfl, HP, rfl⟩ := hrel
    by_cases hlt : k < cs.length
    · obtain ⟨hr64, b, off, n9, k9, e9, q9⟩ := HC1.out.get hlt
      simp only [Value.slice.injEq] at e9
      obtain ⟨rfl, -, -⟩ := e9
      have i0 : (k : Int) < (cs.length : Int) := by omega
      have hnt : nth cs k = cs[k] := nth_at hlt
      rw [hnt] at q9 hr64
      cases en : notEl cs[k] with
      | true =>
        have HVV : Hid (comB rows cs = false) := Lib.hid (by rw [HV.out, any_here hlt en]; rfl)
        have he : elB cs[k] = false := by simpa [notEl] using en
        clear en hnt
        generalize cs[k] = z at *
        go_wp2_with fail
        with_reducible refine (rvalid_any z _ hr64).mono ?_
        rintro e w3 ⟨rfl, rfl⟩
        rw [he]
        go_wp2_with fail
        go_ret
        exact ⟨ret_bool HVV.out.symm, HB1.out⟩
      | false =>
        have HN := Lib.hid (take_next hlt HP.out en)
        have he : elB cs[k] = true := by simpa [notEl] using en
        clear en hnt
        generalize cs[k] = z at *
        go_wp2_with fail
        with_reducible refine (rvalid_any z _ hr64).mono ?_
        rintro e w3 ⟨rfl, rfl⟩
        rw [he]
        go_wp2_with fail
        go_roundw
        case rel => exact ⟨k + 1, by omega, by go_num, HN, by trivial⟩
        case measure => simp [intOf]; omega
    · have hdk : decide (k < cs.length) = false := decide_eq_false hlt
      have HL := Lib.hid (any_of_take hlt HP.out)
      go_wp2_with fail
      refine (HCO2.out _ HR1.out HO1.out).mono ?_
      rintro e w3 ⟨rfl, hb3⟩
      go_wp2_with fail
      go_ret
      refine ⟨ret_bool ?_, HB1.out.trans (hb3.mono HB1.out.size)⟩
      rw [HV.out, HL.out]
      by_cases h : cs.length = q
      · simp [h]
      · simp [h]; omega

set_option maxRecDepth 100000 in
set_option maxHeartbeats 4000000 in
theorem rpublic0_any (rv ov cv : Value) (rows : List (List Int)) (owners cs : List Int) (n : Nat) (w : World) (hR : Rows2 w rv rows) (hO : Ints w ov owners) (hC : Ints w cv cs) (hK : ComOK rows owners cs) (hn : n < rows.length) :
    Calls Tryz.prog 188 #[.agg #[rv, ov], cv, .int .i64 n] w fun e w' => e = .returned (.int .i64 (pubQ (rows.getD n []) cs)) ∧ Below w.heap.size w w' := by
  obtain ⟨W1, hW1, hb1, hr1, hz⟩ := box_prog w rv ov 25
  have HR1 := Lib.hid (hR.below hb1)
  have HC1 := Lib.hid (hC.below hb1)
  obtain ⟨a, cap, rfl, -, hlen, -⟩ := id hR
  obtain ⟨a2, cap2, rfl, -, hlen2, -⟩ := id hO
  obtain ⟨a3, cap3, rfl, -, hlen3, hcr, -⟩ := id hC
  have c0 : W1.cell? ⟨w.heap.size, 0, none⟩ = some (.slice a rows.length cap) := row_cell hr1 rfl
  have HW1 := Lib.hid hW1
  have HB1 := Lib.hid hb1
  have HK := Lib.hid hK
  have HV : Hid (pubQ (rows.getD n []) cs = pubF rows[n] cs cs.length) := Lib.hid (by rw [getD_at hn]; rfl)
  clear hR hO hC hr1 hW1 hb1 hcr hK
  obtain ⟨row, hrow⟩ : ∃ row, row = rows[n] := ⟨_, rfl⟩
  rw [← hrow] at HV
  have HROW := Lib.hid hrow
  clear hrow
  have hn1 : (n : Int) < (rows.length : Int) := by omega
  go_enter Tryz.func188, Tryz.ntmps188
  go_wp2_with fail
  rw [← HW1.out]
  go_loopw [7, 8] (fun x i W => ∃ j : Nat, j ≤ cs.length ∧ i = .int .i64 j ∧ x = .int .i64 (pubF row cs j) ∧ Below W1.heap.size W1 W) (fun _ i _ => cs.length - (intOf i).toNat)
  case atStart => exact ⟨0, Nat.zero_le _, rfl, rfl, Below.refl _ _⟩
  case round =>
    obtain ⟨j, hjl, rfl, rfl, hb⟩ := hrel
    have f0 := below_cell hb c0
    have HBW := Lib.hid hb
    by_cases hj : j < cs.length
    · obtain ⟨aa, cc, e1, -, -, hk⟩ := HR1.out
      obtain ⟨b, off, rr, ha, q1, hI⟩ := hk n hn
      simp only [Value.slice.injEq] at e1
      obtain ⟨rfl, -, rfl⟩ := e1
      subst ha
      have y1 := below_cell hb q1
      have hrl := HK.out.prog.row hn
      rw [← HROW.out] at hI hrl
      have hj2 : j < row.length := by rw [hrl, ← HK.out.len]; exact hj
      obtain ⟨hr2, b2, off2, n2, k2, e2, q2⟩ := (hI.below hb).get hj2
      obtain ⟨hr3, b3, off3, n3, k3, e3, q3⟩ := (HC1.out.below hb).get hj
      obtain ⟨ra, rc, e4, -, -, -, -⟩ := id hI
      rw [e4] at e2 y1
      simp only [Value.slice.injEq] at e2 e3
      obtain ⟨e2, -, -⟩ := e2
      obtain ⟨e3, -, -⟩ := e3
      subst e2 e3
      have hel : El (nth cs j) := HK.out.el _ (by rw [nth_at hj]; exact List.getElem_mem _)
      have hep := el_pubF (row := row) HK.out.el j (by omega)
      have HPW := Lib.hid (fun w => rpower34_any (nth cs j) (nth row j) w hel hr2)
      have HML := Lib.hid (fun w => rmul_yes (pubF row cs j) (powE (nth cs j) (nth row j)) w hep (el_powE hel _))
      have HNX := Lib.hid (show pubF row cs (j + 1) = pubF row cs j * powE (nth cs j) (nth row j) % 2147483579 from rfl)
      have i0 : 0 ≤ (j : Int) := by omega
      have i1 : (j : Int) < (row.length : Int) := by omega
      have i2 : (j : Int) < (cs.length : Int) := by omega
      have i3 : 0 ≤ (n : Int) := by omega
      clear hk q1 hI hb e4 hel hep hrl
      generalize pubF row cs j = p1 at *
      generalize powE (nth cs j) (nth row j) = pw at *
      generalize nth cs j = cj at *
      generalize nth row j = rj at *
      generalize hrl2 : row.length = rlen at *
      go_wp2_with fail
      go_region_held3 (fun w' => w'.cell? ⟨w.heap.size, 0, none⟩ = some (.slice (some ⟨b, off, none⟩) rows.length cap) ∧ w'.cell? ⟨b, off + n, none⟩ = some (.slice (some ⟨b2, off2, none⟩) rlen rc) ∧ w'.cell? ⟨b2, off2 + j, none⟩ = some (.int .i64 rj) ∧ w'.cell? ⟨b3, off3 + j, none⟩ = some (.int .i64 cj)) (go_keep)
        (first
          | (go_at_call 148; (with_reducible refine (HPW.out _).mono ?_); rintro e w2 ⟨rfl, rfl⟩)
          | (go_at_call 107; (with_reducible refine (HML.out _).mono ?_); rintro e w2 ⟨rfl, rfl⟩))
      go_wp2_with fail
      go_roundw
      case rel => exact ⟨j + 1, by omega, by go_num, by rw [HNX.out], below_drewN HBW.out _⟩
      case measure => simp [intOf]; omega
    · obtain rfl : j = cs.length := by omega
      have hdk : decide (cs.length < cs.length) = false := decide_eq_false (by omega)
      clear hb f0
      go_wp2_with fail
      go_ret
      exact ⟨ret_int HV.out.symm, HB1.out.trans (HBW.out.mono HB1.out.size)⟩

end Go.Proofs.YtggnipkfliompaaGreatDoor

namespace Go.Proofs.YtggnipkfliompaaGreatDoor
open Go.RowKit FP

/-- A dealing. -/
structure Dlg where
  dealer : Int
  cs : List Int
  ps : List Pcl
/-- Is a dealing complete for a right program? -/
def comQ (rows : List (List Int)) (d : Dlg) : Bool := inB d.dealer 0 63 && (decide (d.ps.length = rows.length) && (comB rows d.cs && numB d.ps))
/-- The error of a program and a dealing. -/
def cE (rows : List (List Int)) (owners : List Int) (d : Dlg) : Int :=
  if progE rows owners ≠ 0 then progE rows owners else if comQ rows d = true then 0 else 360
structure Complete (rows : List (List Int)) (owners : List Int) (d : Dlg) : Prop where
  prog : ProgOK rows owners
  prog0 : progE rows owners = 0
  dealer : 0 ≤ d.dealer ∧ d.dealer ≤ 63
  len : d.ps.length = rows.length
  com : ComOK rows owners d.cs
  num : ∀ k (h : k < d.ps.length), d.ps[k].1 = (k : Int)
theorem comB_ok {rows : List (List Int)} {owners cs : List Int} (hp : progE rows owners = 0) (h : comB rows cs = true) : ComOK rows owners cs :=
  dchkE_ok (by rw [comB_E hp, if_pos h])
theorem comB_of {rows : List (List Int)} {owners cs : List Int} (h : ComOK rows owners cs) : comB rows cs = true := by
  have e := dchkE_of h
  rw [comB_E h.prog0] at e
  cases e2 : comB rows cs with
  | true => rfl
  | false => rw [e2] at e; simp at e
theorem cE_ok {rows : List (List Int)} {owners : List Int} {d : Dlg} : cE rows owners d = 0 ↔ Complete rows owners d := by
  unfold cE
  constructor
  · intro h
    by_cases hp : progE rows owners = 0
    · rw [if_neg (by simp [hp])] at h
      have hq : comQ rows d = true := by
        cases e : comQ rows d with
        | true => rfl
        | false => rw [e] at h; simp at h
      unfold comQ at hq
      rw [Bool.and_eq_true, Bool.and_eq_true, Bool.and_eq_true, decide_eq_true_eq, inB_iff, numB_iff] at hq
      obtain ⟨h1, h2, h3, h4⟩ := hq
      exact ⟨progE_ok hp, hp, h1, h2, comB_ok hp h3, h4⟩
    · rw [if_pos hp] at h; exact absurd h hp
  · rintro ⟨-, h0, h1, h2, h3, h4⟩
    rw [if_neg (by simp [h0]), if_pos]
    unfold comQ
    rw [inB_iff.2 h1, decide_eq_true h2, comB_of h3, numB_iff.2 h4]; rfl
/-- Does a value fit as the share of a row of a complete dealing? -/
def fitV (rows : List (List Int)) (d : Dlg) (row v : Int) : Bool := powE 4 v == pubQ (rows.getD row.toNat []) d.cs
theorem fitE_com {rows : List (List Int)} {owners : List Int} {d : Dlg} (h : Complete rows owners d) {row v : Int} (hr : 0 ≤ row ∧ row < (d.ps.length : Int)) (hv : 0 ≤ v ∧ v < 1073741789) : fitE rows owners d.cs row v = 0 := by
  unfold fitE
  rw [dchkE_of h.com, if_neg (by simp), if_pos]
  rw [rightS_iff]
  have := h.len
  exact ⟨⟨hr.1, by omega⟩, hv⟩
theorem fitB_com {rows : List (List Int)} {owners : List Int} {d : Dlg} (h : Complete rows owners d) {row v : Int} (hr : 0 ≤ row ∧ row < (d.ps.length : Int)) (hv : 0 ≤ v ∧ v < 1073741789) : fitB rows owners d.cs row v = fitV rows d row v := by
  unfold fitB fitV
  rw [if_pos (fitE_com h hr hv)]

/-- The parcel of a row. -/
def parAt (d : Dlg) (row : Int) : Pcl := d.ps.getD row.toNat (0, 0, 0)
theorem parAt_mem {d : Dlg} {row : Int} (hr : 0 ≤ row ∧ row < (d.ps.length : Int)) : ∃ h : row.toNat < d.ps.length, parAt d row = d.ps[row.toNat] := by
  have h : row.toNat < d.ps.length := by omega
  exact ⟨h, by unfold parAt; rw [List.getD_eq_getElem?_getD, List.getElem?_eq_getElem h]; rfl⟩
/-- The error of Make. -/
def mkE (rows : List (List Int)) (owners : List Int) (s : Int) (d : Dlg) (row : Int) : Int :=
  if cE rows owners d ≠ 0 then cE rows owners d else if inB s 1 1073741788 = false then 110 else if row < 0 ∨ (d.ps.length : Int) ≤ row then 1 else
    openE s d.dealer (parAt d row).1 (parAt d row).2.1 (parAt d row).2.2
/-- The value that is opened. -/
def mkV (s : Int) (d : Dlg) (row : Int) : Int := opnV (powE (parAt d row).2.1 s) d.dealer (parAt d row).1 (parAt d row).2.2
/-- Is something wrong? -/
def mkB (rows : List (List Int)) (owners : List Int) (s : Int) (d : Dlg) (row : Int) : Bool := mkE rows owners s d row == 0 && !fitV rows d row (mkV s d row)
/-- A complaint: dealer, row, D, E, S. -/
structure Cmp where
  dealer : Int
  row : Int
  D : Int
  E : Int
  S : Int
/-- The cells of a complaint. -/
def cmpA (c : Cmp) : Array Value := #[.int .i64 c.dealer, .int .i64 c.row, .int .i64 c.D, .int .i64 c.E, .int .i64 c.S]
def cmpV (c : Cmp) : Value := .agg (cmpA c)
def mkC (rows : List (List Int)) (owners : List Int) (s : Int) (d : Dlg) (row : Int) : Cmp :=
  if mkB rows owners s d row = true then ⟨d.dealer, row, powE (parAt d row).2.1 s, prE s (parAt d row).2.1, prS s (parAt d row).2.1⟩ else ⟨0, 0, 0, 0, 0⟩
/-- The error of Settle. -/
def stE (rows : List (List Int)) (owners : List Int) (key : Int) (d : Dlg) (c : Cmp) : Int :=
  if cE rows owners d ≠ 0 then cE rows owners d else if c.dealer ≠ d.dealer ∨ c.row < 0 ∨ (d.ps.length : Int) ≤ c.row then 360 else
    if chkB key (parAt d c.row).2.1 c.D c.E c.S = false then 0 else withE c.D d.dealer (parAt d c.row).1 (parAt d c.row).2.1 (parAt d c.row).2.2
def stG (rows : List (List Int)) (owners : List Int) (key : Int) (d : Dlg) (c : Cmp) : Int :=
  if stE rows owners key d c ≠ 0 then 0 else if chkB key (parAt d c.row).2.1 c.D c.E c.S = false then 2 else
    if fitV rows d c.row (opnV c.D d.dealer (parAt d c.row).1 (parAt d c.row).2.2) = true then 2 else 1
theorem chkB_el {key a d E S : Int} (h : chkB key a d E S = true) : El key ∧ El a ∧ El d := by
  unfold chkB at h
  simp only [Bool.and_eq_true] at h
  exact ⟨elB_iff.1 h.1.1, elB_iff.1 h.1.2.1, elB_iff.1 h.1.2.2⟩

/-- The dealing in a value. -/
def DlgV (w : World) (v : Value) (d : Dlg) : Prop := ∃ cv pv, v = .agg #[.int .i64 d.dealer, cv, pv] ∧ R64 d.dealer ∧ Ints w cv d.cs ∧ Parcels w pv d.ps
theorem DlgV.below {w w' : World} {v : Value} {d : Dlg} (h : DlgV w v d) (hb : Below w.heap.size w w') : DlgV w' v d := by
  obtain ⟨cv, pv, e, hr, h1, h2⟩ := h
  exact ⟨cv, pv, e, hr, h1.below hb, h2.below hb⟩
/-- The program in a value. -/
def PrgV (w : World) (v : Value) (rows : List (List Int)) (owners : List Int) : Prop := ∃ rv ov, v = .agg #[rv, ov] ∧ Rows2 w rv rows ∧ Ints w ov owners
theorem PrgV.below {w w' : World} {v : Value} {rows : List (List Int)} {owners : List Int} (h : PrgV w v rows owners) (hb : Below w.heap.size w w') : PrgV w' v rows owners := by
  obtain ⟨rv, ov, e, h1, h2⟩ := h
  exact ⟨rv, ov, e, h1.below hb, h2.below hb⟩

end Go.Proofs.YtggnipkfliompaaGreatDoor
