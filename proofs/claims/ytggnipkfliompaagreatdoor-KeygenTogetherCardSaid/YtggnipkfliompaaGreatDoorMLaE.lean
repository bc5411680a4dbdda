/- The program's Separate and the reference's compute the same. The examples of the chapter, reckoned. The laws' own functions: right, made, proves. The laws' own functions: made. The laws' examples: sane returns true. What Combine and Separate say: a target is made of rows exactly if no list proves that it is not. Separate's proofs; and the rank, row by row. What the calls give, with their values known: for the laws. The rank, row by row; and that of the columns. Package dealing: the sum of shares. Package dealing: Recover. Dealing: the examples, reckoned; calls whose values are known. The reference of dealing: comparing; the laws' program of one row. The laws of dealing: the program of one row. The laws of dealing: the examples. The laws of dealing: small programs, columns, random numbers. -/
import Derived.Test.YtggnipkfliompaaGreatDoorMDeaL
import Derived.Deep.RegionHeld3
import Derived.BigQuiet
set_option maxHeartbeats 8000000
set_option maxRecDepth 100000
namespace Go.Proofs.YtggnipkfliompaaGreatDoor
theorem pf_mono {piv : List Nat} (h : Sorted piv) : ∀ k l, k < l → l < piv.length → pf piv k < pf piv l := fun k l h1 h2 => by
 unfold pf; rw [List.getElem?_eq_getElem (by omega), List.getElem?_eq_getElem h2]; exact h k l (by omega) h2 h1
theorem comb_err {rows : List (List Int)} {t : List Int} : (decide (examErr rows t = 0) && combOk rows t) = (decide (examErr rows t = 0) && rcombOk rows t) ∧ (if examErr rows t = 0 ∧ combOk rows t = true then combY rows t else []) = (if examErr rows t = 0 ∧ rcombOk rows t = true then rcombY rows t else []) := by
 by_cases h0 : examErr rows t = 0
 ·obtain ⟨h1, h2, h3⟩ := examErr_ok_iff h0
  obtain ⟨h4, h5⟩ := comb_same h1 h2
  rw [h4, h5]; exact ⟨rfl, rfl⟩
 ·rw [decide_eq_false h0, if_neg (fun h => h0 h.1), if_neg (fun h => h0 h.1)]; exact ⟨rfl, rfl⟩
end Go.Proofs.YtggnipkfliompaaGreatDoor
namespace Go.Proofs.YtggnipkfliompaaGreatDoor
end Go.Proofs.YtggnipkfliompaaGreatDoor
namespace Go.Proofs.YtggnipkfliompaaGreatDoor
open Go.RowKit
end Go.Proofs.YtggnipkfliompaaGreatDoor
namespace Go.Proofs.YtggnipkfliompaaGreatDoor
open Go.RowKit
end Go.Proofs.YtggnipkfliompaaGreatDoor
namespace Go.Proofs.YtggnipkfliompaaGreatDoor
open Go.RowKit
theorem Combine_is (v u : Value) (rows : List (List Int)) (t y : List Int) (ok : Bool) (e : Int) (w : World) (hI : Rows2 w v rows) (hU : Ints w u t) (he : examErr rows t = e) (hok : (decide (e = 0) && combOk rows t) = ok) (hy : (if e = 0 ∧ combOk rows t = true then combY rows t else []) = y) :
  Calls Tryz.prog 117 #[v, u] w fun r w' => ∃ yv, r = .returned (.tuple #[yv, .bool ok, .int .i64 e]) ∧ Ints w' yv y ∧ Below w.heap.size w w' :=
 (Combine_any v u rows t w hI hU).mono fun r w' ⟨yv, h1, h2, h3⟩ => ⟨yv, by rw [h1, he, hok], by rw [he, hy] at h2; exact h2, h3⟩
end Go.Proofs.YtggnipkfliompaaGreatDoor
namespace Go.Proofs.YtggnipkfliompaaGreatDoor
def fm (rows : List (List Int)) : FMat := cm (matOf rows)
theorem fm_row (rows : List (List Int)) {i : Nat} (hi : i < rows.length) (j : Nat) : fm rows i j = cv rows[i] j := by
 show cq (((rows[i]?).getD [])[j]?.getD 0) = cq (rows[i][j]?.getD 0)
 rw [List.getElem?_eq_getElem hi]; rfl
theorem eq_left (rows : List (List Int)) (t : List Int) {k i : Nat} (hk : k < t.length) (hi : i < rows.length) : cm (matOf (eqRows rows t)) k i = fm rows i k := by
 show cq (matOf (eqRows rows t) k i) = _
 rw [← turn_eq hk]
 show cq ((colOf rows k ++ [nth t k])[i]?.getD 0) = _
 rw [List.getElem?_append_left (by simpa [colOf] using hi)]
 unfold colOf
 rw [List.getElem?_map, List.getElem?_eq_getElem hi, fm_row rows hi]; rfl
theorem eq_right (rows : List (List Int)) (t : List Int) {k : Nat} (hk : k < t.length) : cm (matOf (eqRows rows t)) k rows.length = cv t k := by
 show cq (matOf (eqRows rows t) k rows.length) = _
 rw [← turn_eq hk]
 show cq ((colOf rows k ++ [nth t k])[rows.length]?.getD 0) = _
 rw [List.getElem?_append_right (by simp [colOf])]
 simp [colOf]; rfl
def ext (n : Nat) (y : Nat → Fq) : Nat → Fq := fun j => if j = n then -1 else y j
theorem ext_lt {n j : Nat} (y : Nat → Fq) (h : j < n) : ext n y j = y j := if_neg (by omega)
theorem ext_at (n : Nat) (y : Nat → Fq) : ext n y n = -1 := if_pos rfl
theorem dt_ext (n : Nat) (u y : Nat → Fq) : dt (n + 1) u (ext n y) = sm n (fun j => u j * y j) + u n * (-1) := by
 show sm n (fun j => u j * ext n y j) + u n * ext n y n = _
 rw [ext_at, sm_congr (fun j hj => by rw [ext_lt y hj])]
theorem ker_eq (rows : List (List Int)) (t : List Int) (y : Nat → Fq) : Ker t.length (rows.length + 1) (cm (matOf (eqRows rows t))) (ext rows.length y) ↔ ∀ k, k < t.length → cv t k = sm rows.length (fun i => y i * fm rows i k) := by
 have key : ∀ k, k < t.length → dt (rows.length + 1) (cm (matOf (eqRows rows t)) k) (ext rows.length y) = sm rows.length (fun i => y i * fm rows i k) - cv t k := fun k hk => by
  rw [dt_ext, eq_right rows t hk, sm_congr (g := fun i => y i * fm rows i k) (fun i hi => by rw [eq_left rows t hk hi]; exact Fin.mul_comm _ _)]
  grind
 constructor
 ·intro h k hk
  have := h k hk
  rw [key k hk] at this
  grind
 ·intro h k hk
  rw [key k hk, h k hk]; grind
theorem combF_at {x : Mat} {piv : List Nat} {n : Nat} (hs : ∀ k l, k < l → l < piv.length → pf piv k < pf piv l) : ∀ K, K ≤ piv.length → ∀ k, k < K → combF x piv n K (pf piv k) = x k n
 | 0, _, k, hk => absurd hk (Nat.not_lt_zero _)
 | K + 1, hK, k, hk => by
  show (if pf piv k = pf piv K then x K n else combF x piv n K (pf piv k)) = _
  by_cases e : k = K
  ·rw [if_pos (by rw [e]), e]
  ·have := hs k K (by omega) (by omega)
   rw [if_neg (by omega)]; exact combF_at hs K (by omega) k (by omega)
theorem combF_ne {x : Mat} {piv : List Nat} {n j : Nat} : ∀ K, (∀ k, k < K → pf piv k ≠ j) → combF x piv n K j = 0
 | 0, _ => rfl
 | K + 1, h => by
  show (if j = pf piv K then x K n else combF x piv n K j) = _
  rw [if_neg (fun e => h K (by omega) e.symm)]; exact combF_ne K (fun k hk => h k (by omega))
theorem comb_red {rows : List (List Int)} {t : List Int} (h : Right rows t.length) (ht : ∀ z ∈ t, 0 ≤ z ∧ z < 1073741789) : Red t.length (rows.length + 1) (cm (matOf (eqRows rows t))) (cm (rcombM rows t).1) (rcombM rows t).2.length (pf (rcombM rows t).2) rows.length :=
 redR_red (eq_num h ht) rows.length (by omega)
theorem nth_map (n : Nat) (f : Nat → Int) {i : Nat} (hi : i < n) : nth ((List.range n).map f) i = f i := by unfold nth; simp [hi]
theorem comb_makes {rows : List (List Int)} {t : List Int} (h : Right rows t.length) (ht : ∀ z ∈ t, 0 ≤ z ∧ z < 1073741789) (hok : rcombOk rows t = true) : ∀ k, k < t.length → cv t k = sm rows.length (fun i => cv (rcombY rows t) i * fm rows i k) := by
 have hR := comb_red h ht
 have hlt : (∀ p ∈ (rcombM rows t).2, p < rows.length) ∧ Sorted (rcombM rows t).2 := redR_lt _ _ _
 have hy : ∀ i, i < rows.length → cv (rcombY rows t) i = cq (combF (rcombM rows t).1 (rcombM rows t).2 rows.length (rcombM rows t).2.length i) := fun i hi => by
  unfold cv rcombY; rw [nth_map _ _ hi]
 have hz : ∀ q, (rcombM rows t).2.length ≤ q → q < t.length → (rcombM rows t).1 q rows.length = 0 := fun q h1 h2 => by
  have := List.all_eq_true.1 hok (q - (rcombM rows t).2.length) (List.mem_range.2 (by omega))
  rw [show (rcombM rows t).2.length + (q - (rcombM rows t).2.length) = q by omega] at this
  simpa using this
 generalize hx : (rcombM rows t).1 = x at *
 generalize hp : (rcombM rows t).2 = piv at *
 rw [← ker_eq]
 refine (hR.ker _).1 fun q hq => ?_
 rw [dt_ext]
 by_cases hqr : q < piv.length
 ·rw [sm_pivots (p := pf piv) (r := piv.length) (fun k hk => hR.pc k hk) hR.mono (fun j hj hno => by
   show cm x q j * cv (rcombY rows t) j = 0
   rw [hy j hj, combF_ne _ hno, cq_0]; grind), sm_one (k := q) hqr (fun k hk hne => by
   show cm x q (pf piv k) * cv (rcombY rows t) (pf piv k) = 0
   rw [hR.zero k q hk hq (fun e => hne e.symm)]; grind)]
  show cm x q (pf piv q) * cv (rcombY rows t) (pf piv q) + _ = 0
  rw [hR.one q hqr, hy _ (hR.pc q hqr), combF_at (pf_mono hlt.2) _ (Nat.le_refl _) q hqr]
  show 1 * cm x q rows.length + cm x q rows.length * (-1) = 0
  grind
 ·rw [sm_zero (fun j hj => by
   show cm x q j * cv (rcombY rows t) j = 0
   rw [hR.low q j (by omega) hq hj]; grind)]
  show 0 + cq (x q rows.length) * (-1) = 0
  rw [hz q (by omega) hq, cq_0]; grind
end Go.Proofs.YtggnipkfliompaaGreatDoor
namespace Go.Proofs.YtggnipkfliompaaGreatDoor
end Go.Proofs.YtggnipkfliompaaGreatDoor
namespace Go.Proofs.YtggnipkfliompaaGreatDoor
open Go.RowKit
theorem Comb_yes (v u : Value) (rows : List (List Int)) (t : List Int) (w : World) (hI : Rows2 w v rows) (hU : Ints w u t) (h0 : examErr rows t = 0) (hok : rcombOk rows t = true) :
  Calls Tryz.prog 117 #[v, u] w fun r w' => ∃ yv, r = .returned (.tuple #[yv, .bool true, .int .i64 0]) ∧ Ints w' yv (rcombY rows t) ∧ Below w.heap.size w w' := by
 refine Combine_is v u rows t _ _ _ w hI hU h0 ?_ ?_
 ·have := (comb_err (rows := rows) (t := t)).1
  rw [h0, hok] at this; exact this
 ·have := (comb_err (rows := rows) (t := t)).2
  rw [h0] at this
  rw [this, if_pos ⟨rfl, hok⟩]
theorem Comb_no (v u : Value) (rows : List (List Int)) (t : List Int) (w : World) (hI : Rows2 w v rows) (hU : Ints w u t) (h0 : examErr rows t = 0) (hok : rcombOk rows t = false) :
  Calls Tryz.prog 117 #[v, u] w fun r w' => ∃ yv, r = .returned (.tuple #[yv, .bool false, .int .i64 0]) ∧ Ints w' yv [] ∧ Below w.heap.size w w' := by
 refine Combine_is v u rows t _ _ _ w hI hU h0 ?_ ?_
 ·have := (comb_err (rows := rows) (t := t)).1
  rw [h0, hok] at this; exact this
 ·have := (comb_err (rows := rows) (t := t)).2
  rw [h0] at this
  rw [this, if_neg (by rw [hok]; simp)]
theorem rcombY_len (rows : List (List Int)) (t : List Int) : (rcombY rows t).length = rows.length := by simp [rcombY]
end Go.Proofs.YtggnipkfliompaaGreatDoor
namespace Go.Proofs.YtggnipkfliompaaGreatDoor
theorem right_wide {rows : List (List Int)} {m : Nat} (h : Right rows m) (hn : rows ≠ []) : wide rows = m := by
 cases rows with
 | nil => exact absurd rfl hn
 | cons r l => exact h.len r (by simp)
theorem right_check {rows : List (List Int)} {m : Nat} (h : Right rows m) : checkErr rows = 0 := by
 rw [checkErr_few h.few]
 by_cases hn : rows = []
 ·subst hn; rfl
 ·have hm : m ≤ 64 := by
   rcases h.narrow with h1 | h1
   ·exact h1
   ·exact absurd h1 hn
  refine kindErr_ok rows (fun r hr => by rw [h.len r hr]; exact hm) (fun r hr => ?_)
  unfold rowOk
  rw [right_wide h hn, decide_eq_true (h.len r hr), any_no (fun z hz => by
   have := h.num r hr z hz
   simp [oddQ]; omega)]; rfl
end Go.Proofs.YtggnipkfliompaaGreatDoor
namespace Go.Proofs.YtggnipkfliompaaGreatDoor
open Go.RowKit FP
theorem rec1_any (i : Nat) (r v : Int) (yb : Nat) (u : Value) (y : List Int) (w : World) (hc : w.cell? ⟨yb, 0, none⟩ = some u) (hJ : Ints w u y) (hi : i < y.length) (hv : R64 v) :
  Calls Tryz.prog 122 #[.int .i64 i, .agg #[.int .i64 r, .int .i64 v], .pointer (some ⟨yb, 0, none⟩)] w fun e w' => e = .returned (.int .i64 (nth y i * v % 1073741789)) ∧ Below w.heap.size w w' := by
 have hb := below_new w #[.int .i64 r, .int .i64 v] 68
 have s1 : (w.alloc (.cells #[.int .i64 r, .int .i64 v] 68)).cell? ⟨w.heap.size, 1, none⟩ = some (.int .i64 v) := row_cell (World.alloc_heap_new _ _) rfl
 obtain ⟨hr, b0, off, nn, c, e1, hcell⟩ := (hJ.below hb).get hi
 obtain ⟨a', c', e', -, hlen, -⟩ := id hJ
 rw [e'] at e1 hc
 simp only [Value.slice.injEq] at e1
 obtain ⟨e1, -, -⟩ := e1
 subst e1
 have c0 := below_cell hb hc
 have i0 : 0 ≤ (i : Int) := by omega
 have i1 : (i : Int) < (y.length : Int) := by omega
 have HB := Lib.hid hb
 clear hJ hc e' hb
 generalize nth y i = z at *
 generalize y.length = n at *
 obtain ⟨W1, hW1⟩ : ∃ W1, W1 = w.alloc (.cells #[.int .i64 r, .int .i64 v] 68) := ⟨_, rfl⟩
 rw [← hW1] at HB s1 hcell c0
 have HW1 := Lib.hid hW1
 clear hW1
 go_enter Tryz.func122, Tryz.ntmps122
 go_wp2_with fail
 rw [← HW1.out]
 go_region_held3 (fun w' => w'.cell? ⟨yb, 0, none⟩ = some (.slice (some ⟨b0, off, none⟩) n c') ∧ w'.cell? ⟨b0, off + i, none⟩ = some (.int .i64 z) ∧ w'.cell? ⟨w.heap.size, 1, none⟩ = some (.int .i64 v)) (go_keep)
  (first
   | (go_at_call 45; (with_reducible refine (mul_any z v _ hr hv).mono ?_); rintro e w2 ⟨rfl, rfl⟩))
 go_wp2_with fail
 go_ret
 exact ⟨rfl, HB.out.drew⟩
theorem rec1_goes : Goes Tryz.prog 122 := goes_of Tryz.func122 (by kernel_rfl) rfl
def valsOf (l : List (Int × Int)) : List Int := l.map Prod.snd
theorem nth_vals {l : List (Int × Int)} {k : Nat} (hk : k < l.length) : nth (valsOf l) k = l[k].2 := by
 unfold nth valsOf; rw [List.getElem?_map, List.getElem?_eq_getElem hk]; rfl
theorem ssum_any (v u : Value) (l : List (Int × Int)) (y : List Int) (yb : Nat) (w : World) (hL : Shares w v l) (hJ : Ints w u y) (hl : y.length = l.length) (hc : w.cell? ⟨yb, 0, none⟩ = some u) :
  Calls Tryz.prog 121 #[v, .func (.func 122) #[] #[.pointer (some ⟨yb, 0, none⟩)]] w fun e w' => e = .returned (.int .i64 (prodQ y (valsOf l))) ∧ Below w.heap.size w w' := by
 obtain ⟨al, cl, rfl, -, hll, hr64, hk⟩ := hL
 have HK := Lib.hid hk
 have HR := Lib.hid hr64
 have HY := Lib.hid hl
 have HT := Lib.hid (fun k (hk : k < y.length) (r v : Int) (hv : R64 v) W (hb : Below w.heap.size w W) => rec1_any k r v yb u y W (below_cell hb hc) (hJ.below hb) hk hv)
 have hE' : ∀ (args : Array Value) (w : World), (callFunc 122 args).run Tryz.prog w = .ok (.enter 122 args) w := rec1_goes
 clear hJ hc hk hr64 hl
 go_enter Tryz.func121, Tryz.ntmps121
 go_wp2_with fail
 go_loopw [4, 9] (fun s i W => ∃ k : Nat, k ≤ l.length ∧ i = .int .i64 k ∧ s = .int .i64 (prodF y (valsOf l) k) ∧ Below w.heap.size w W) (fun _ i _ => l.length - (intOf i).toNat)
 case atStart => exact ⟨0, Nat.zero_le _, rfl, rfl, Below.refl _ _⟩
 case round =>
  obtain ⟨k, hkl, rfl, rfl, hb⟩ := hrel
  have HP := Lib.hid (prodF_num y (valsOf l) k)
  by_cases hlt : k < l.length
  ·obtain ⟨b, off, e1, q0, q1⟩ := HK.out k hlt
   subst e1
   have y0 := below_cell hb q0
   have y1 := below_cell hb q1
   have hv64 := (HR.out _ (List.getElem_mem hlt)).2
   have hbn := hb.alloc hb.size (.cells #[.int .i64 l[k].1, .int .i64 l[k].2] 68)
   have HT2 := Lib.hid (HT.out k (by have := HY.out; omega) l[k].1 l[k].2 hv64 _ hbn)
   have HS := Lib.hid (show prodF y (valsOf l) (k + 1) = (prodF y (valsOf l) k + nth y k * l[k].2 % 1073741789) % 1073741789 by rw [← nth_vals hlt]; rfl)
   have z0 : (wr.alloc (.cells #[.int .i64 l[k].1, .int .i64 l[k].2] 68)).cell? ⟨wr.heap.size, 0, none⟩ = some (.int .i64 l[k].1) := row_cell (World.alloc_heap_new _ _) rfl
   have z1 : (wr.alloc (.cells #[.int .i64 l[k].1, .int .i64 l[k].2] 68)).cell? ⟨wr.heap.size, 1, none⟩ = some (.int .i64 l[k].2) := row_cell (World.alloc_heap_new _ _) rfl
   have HBN := Lib.hid hbn
   have hp64 : R64 (prodF y (valsOf l) k) := num_r64 HP.out
   have hm64 := mod_r64 (nth y k * l[k].2)
   clear q0 q1 hbn hb
   generalize nth y k * l[k].2 % 1073741789 = z at *
   generalize l[k].1 = r1 at *
   generalize l[k].2 = v1 at *
   go_wp2_with fail
   refine HT2.out.mono ?_
   rintro e w3 ⟨rfl, hb3⟩
   have hb4 := HBN.out.trans (hb3.mono HBN.out.size)
   go_wp2_with fail
   with_reducible refine (add_any _ z _ hp64 hm64).mono ?_
   rintro e w4 ⟨rfl, hb5⟩
   go_wp2_with fail
   go_roundw
   case rel => exact ⟨k + 1, by omega, by go_num, by rw [HS.out], hb4.trans (hb5.mono hb4.size)⟩
   case measure => simp [intOf]; omega
  ·have HV := Lib.hid (show prodF y (valsOf l) k = prodQ y (valsOf l) by unfold prodQ; rw [HY.out, show k = l.length by omega])
   go_wp2_with fail
   go_ret
   exact ⟨ret_int HV.out, hb⟩
def sharesB (rows : List (List Int)) (last : Int) : List (Int × Int) → Bool
 | [] => true
 | p :: l => rightS rows p.1 p.2 && (decide (last < p.1) && sharesB rows p.1 l)
def lastR (last : Int) (l : List (Int × Int)) : Int := (l.getLast?.map Prod.fst).getD last
theorem sharesB_snoc {rows : List (List Int)} {p : Int × Int} : ∀ {l : List (Int × Int)} {last : Int}, sharesB rows last (l ++ [p]) = (sharesB rows last l && (rightS rows p.1 p.2 && decide (lastR last l < p.1)))
 | [], last => by
  simp [sharesB, lastR]
  rfl
 | q :: l, last => by
  rw [List.cons_append, sharesB, sharesB_snoc, sharesB]
  have : lastR q.1 l = lastR last (q :: l) := by
   unfold lastR
   cases l with
   | nil => rfl
   | cons a t => rw [List.getLast?_cons_cons]; simp [List.getLast?_cons]
  rw [this]
  cases rightS rows q.1 q.2 <;> cases decide (last < q.1) <;> simp
theorem lastR_snoc (last : Int) (l : List (Int × Int)) (p : Int × Int) : lastR last (l ++ [p]) = p.1 := by unfold lastR; simp
theorem sharesB_take {rows : List (List Int)} {l : List (Int × Int)} {last : Int} {k : Nat} (hk : k < l.length) : sharesB rows last (l.take (k + 1)) = (sharesB rows last (l.take k) && (rightS rows l[k].1 l[k].2 && decide (lastR last (l.take k) < l[k].1))) := by
 rw [List.take_succ_eq_append_getElem hk, sharesB_snoc]
theorem lastR_take {l : List (Int × Int)} {last : Int} {k : Nat} (hk : k < l.length) : lastR last (l.take (k + 1)) = l[k].1 := by
 rw [List.take_succ_eq_append_getElem hk, lastR_snoc]
theorem sharesB_front {rows : List (List Int)} : ∀ {l : List (Int × Int)} {last : Int}, sharesB rows last l = true → ∀ k, sharesB rows last (l.take k) = true
 | [], _, _, k => by rw [List.take_nil]; rfl
 | p :: l, last, h, 0 => rfl
 | p :: l, last, h, k + 1 => by
  rw [List.take_succ_cons]
  unfold sharesB at h ⊢
  simp only [Bool.and_eq_true] at h ⊢
  exact ⟨h.1, h.2.1, sharesB_front h.2.2 k⟩
theorem sharesB_bad {rows : List (List Int)} {l : List (Int × Int)} {last : Int} {k : Nat} (h : sharesB rows last (l.take (k + 1)) = false) : sharesB rows last l = false := by
 cases e : sharesB rows last l with
 | false => rfl
 | true => rw [sharesB_front e] at h; cases h
theorem sharesB_all {rows : List (List Int)} : ∀ {l : List (Int × Int)} {last : Int}, sharesB rows last l = true → (∀ p ∈ l, rightS rows p.1 p.2 = true) ∧ (l ≠ [] → last + l.length < (rows.length : Int))
 | [], _, _ => ⟨by simp, fun h => absurd rfl h⟩
 | p :: l, last, h => by
  unfold sharesB at h
  simp only [Bool.and_eq_true, decide_eq_true_eq] at h
  obtain ⟨h1, h2, h3⟩ := h
  obtain ⟨i1, i2⟩ := sharesB_all h3
  refine ⟨fun q hq => ?_, fun _ => ?_⟩
  ·rcases List.mem_cons.1 hq with rfl | hq
   ·exact h1
   ·exact i1 q hq
  ·have h4 := (rightS_iff.1 h1).1
   by_cases hl : l = []
   ·subst hl; simp; omega
   ·have := i2 hl; rw [List.length_cons]; omega
theorem sharesB_len {rows : List (List Int)} {l : List (Int × Int)} (h : sharesB rows (-1) l = true) : l.length ≤ rows.length := by
 by_cases hl : l = []
 ·subst hl; simp
 ·have := (sharesB_all h).2 hl; omega
end Go.Proofs.YtggnipkfliompaaGreatDoor
namespace Go.Proofs.YtggnipkfliompaaGreatDoor
open Go.RowKit FP
def tgtF (i : Nat) : Int := if i = 0 then 1 else 0
def tgt (n : Nat) : List Int := (List.range n).map tgtF
theorem tgt_len (n : Nat) : (tgt n).length = n := by simp [tgt]
theorem tgt_num (n : Nat) : ∀ z ∈ tgt n, 0 ≤ z ∧ z < 1073741789 := by
 intro z hz
 obtain ⟨i, -, rfl⟩ := List.mem_map.1 hz
 unfold tgtF; split <;> omega
def recE (rows : List (List Int)) (owners : List Int) (l : List (Int × Int)) : Int :=
 if progE rows owners ≠ 0 then progE rows owners else if sharesB rows (-1) l = true then 0 else 340
def recY (rows : List (List Int)) (l : List (Int × Int)) : List Int := rcombY (rowsOf rows l) (tgt (colsQ rows))
def recOk (rows : List (List Int)) (l : List (Int × Int)) : Bool := rcombOk (rowsOf rows l) (tgt (colsQ rows))
def recB (rows : List (List Int)) (owners : List Int) (l : List (Int × Int)) : Bool := decide (recE rows owners l = 0) && recOk rows l
def recV (rows : List (List Int)) (owners : List Int) (l : List (Int × Int)) : Int := if recB rows owners l = true then prodQ (recY rows l) (valsOf l) else 0
theorem rowsOf_right {rows : List (List Int)} {owners : List Int} {l : List (Int × Int)} (hP : ProgOK rows owners) (hS : sharesB rows (-1) l = true) : Right (rowsOf rows l) (tgt (colsQ rows)).length := by
 rw [tgt_len]
 have hl := sharesB_len hS
 have hfew := hP.few
 have hall := (sharesB_all hS).1
 have hrow : ∀ r ∈ rowsOf rows l, ∃ k, ∃ hk : k < rows.length, r = rows[k] := by
  intro r hr
  obtain ⟨p, hp, rfl⟩ := List.mem_map.1 hr
  have h1 := (rightS_iff.1 (hall p hp)).1
  have hk : p.1.toNat < rows.length := by omega
  exact ⟨_, hk, getD_at hk []⟩
 refine ⟨by simp [rowsOf]; omega, .inl hP.cols_le, ?_, ?_⟩
 ·intro r hr
  obtain ⟨k, hk, rfl⟩ := hrow r hr
  exact hP.row hk
 ·intro r hr
  obtain ⟨k, hk, rfl⟩ := hrow r hr
  exact hP.right.num _ (List.getElem_mem hk)
theorem examErr_right {rows : List (List Int)} {t : List Int} (h : Right rows t.length) (ht : ∀ z ∈ t, 0 ≤ z ∧ z < 1073741789) (hl : t.length ≤ 64) : examErr rows t = 0 := by
 unfold examErr
 rw [if_pos (right_check h), if_pos (kind1_ok hl (any_odd_of ht)), if_pos]
 by_cases hr : rows = []
 ·exact .inl (by rw [hr]; rfl)
 ·exact .inr (right_wide h hr)
theorem recover_any (rv ov lv : Value) (rows : List (List Int)) (owners : List Int) (l : List (Int × Int)) (w : World) (hR : Rows2 w rv rows) (hO : Ints w ov owners) (hL : Shares w lv l) :
  Calls Tryz.prog 49 #[.agg #[rv, ov], lv] w fun r w' => r = .returned (.tuple #[.int .i64 (recV rows owners l), .bool (recB rows owners l), .int .i64 (recE rows owners l)]) ∧ Below w.heap.size w w' := by
 obtain ⟨W1, hW1, hb1, hr1, hz⟩ := box_prog w rv ov 25
 have HR1 := Lib.hid (hR.below hb1)
 have HO1 := Lib.hid (hO.below hb1)
 have HL1 := Lib.hid (hL.below hb1)
 have HPC := Lib.hid (pCheck_any rv ov rows owners W1 HR1.out HO1.out)
 obtain ⟨a, cap, rfl, -, hlen, -⟩ := id hR
 obtain ⟨a2, cap2, rfl, -, hlen2, -⟩ := id hO
 obtain ⟨a3, cap3, rfl, -, hlen3, -⟩ := id hL
 have c0 : W1.cell? ⟨w.heap.size, 0, none⟩ = some (.slice a rows.length cap) := row_cell hr1 rfl
 have c1 : W1.cell? ⟨w.heap.size, 1, none⟩ = some (.slice a2 owners.length cap2) := row_cell hr1 rfl
 have HW1 := Lib.hid hW1
 have HB1 := Lib.hid hb1
 clear hR hO hL hr1 hW1 hb1
 by_cases hp : progE rows owners = 0
 ·have HPO := Lib.hid (progE_ok hp)
  have HE := Lib.hid (show recE rows owners l = if sharesB rows (-1) l = true then 0 else 340 by unfold recE; rw [if_neg (by simp [hp])])
  rw [hp] at HPC
  clear hp
  go_enter Tryz.func49, Tryz.ntmps49
  go_wp2_with fail
  rw [← HW1.out]
  refine HPC.out.mono ?_
  rintro r w2 ⟨rfl, hb2⟩
  have d0 := below_cell hb2 c0
  have d1 := below_cell hb2 c1
  have HR2 := Lib.hid (HR1.out.below hb2)
  have HO2 := Lib.hid (HO1.out.below hb2)
  have HL2 := Lib.hid (HL1.out.below hb2)
  have HB2 := Lib.hid (HB1.out.trans (hb2.mono HB1.out.size))
  clear hb2 c0 c1 HPC HR1 HO1 HL1
  go_wp2_with fail
  go_loopw [8, 20] (fun last i W => ∃ k : Nat, k ≤ l.length ∧ i = .int .i64 k ∧ last = .int .i64 (lastR (-1) (l.take k)) ∧ Hid (sharesB rows (-1) (l.take k) = true) ∧ Below w2.heap.size w2 W) (fun _ i _ => l.length - (intOf i).toNat)
  case atStart => exact ⟨0, Nat.zero_le _, rfl, rfl, Lib.hid rfl, Below.refl _ _⟩
  case round =>
   obtain ⟨k, hkl, rfl, rfl, HS, hb⟩ := hrel
   have x0 := below_cell hb d0
   have x1 := below_cell hb d1
   have HRW := Lib.hid (HR2.out.below hb)
   have HOW := Lib.hid (HO2.out.below hb)
   by_cases hlt : k < l.length
   ·obtain ⟨al, cl, e1, -, -, hr64, hk⟩ := HL2.out
    obtain ⟨b, off, ha, q0, q1⟩ := hk k hlt
    simp only [Value.slice.injEq] at e1
    obtain ⟨rfl, -, rfl⟩ := e1
    subst ha
    obtain ⟨hr0, hv0⟩ := hr64 _ (List.getElem_mem hlt)
    have y0 := below_cell hb q0
    have y1 := below_cell hb q1
    have HTK := Lib.hid (sharesB_take (rows := rows) (last := -1) hlt)
    have HLT := Lib.hid (lastR_take (last := -1) hlt)
    have HBD := Lib.hid (fun h => sharesB_bad (rows := rows) (l := l) (last := -1) (k := k) h)
    have hbn := below_new wr #[.int .i64 l[k].1, .int .i64 l[k].2] 68
    have z0 : (wr.alloc (.cells #[.int .i64 l[k].1, .int .i64 l[k].2] 68)).cell? ⟨wr.heap.size, 0, none⟩ = some (.int .i64 l[k].1) := row_cell (World.alloc_heap_new _ _) rfl
    have z1 : (wr.alloc (.cells #[.int .i64 l[k].1, .int .i64 l[k].2] 68)).cell? ⟨wr.heap.size, 1, none⟩ = some (.int .i64 l[k].2) := row_cell (World.alloc_heap_new _ _) rfl
    have t0 := below_cell hbn x0
    have t1 := below_cell hbn x1
    have HRT := Lib.hid (dright_any _ _ rows owners l[k].1 l[k].2 _ (HRW.out.below hbn) (HOW.out.below hbn) hv0)
    have HBN := Lib.hid (hb.alloc hb.size (.cells #[.int .i64 l[k].1, .int .i64 l[k].2] 68))
    clear hk hr64 q0 q1 hbn hb
    generalize l[k].1 = r1 at *
    generalize l[k].2 = v1 at *
    cases er : rightS rows r1 v1 with
    | false =>
     have HV : Hid (recE rows owners l = 340) := Lib.hid (by
      rw [HE.out, if_neg]; rw [HBD.out (by rw [HTK.out, er]; simp)]; simp)
     have HW : Hid (recB rows owners l = false) := Lib.hid (by unfold recB; rw [HV.out]; rfl)
     have HX : Hid (recV rows owners l = 0) := Lib.hid (by unfold recV; rw [HW.out]; rfl)
     rw [er] at HRT
     clear er
     go_wp2_with fail
     refine HRT.out.mono ?_
     rintro e w3 ⟨rfl, hb3⟩
     go_wp2_with fail
     go_ret3
     exact ⟨by rw [HV.out, HW.out, HX.out]; rfl, HB2.out.trans ((HBN.out.trans (hb3.mono HBN.out.size)).mono HB2.out.size)⟩
    | true =>
     have HER := Lib.hid er
     rw [er] at HRT
     clear er
     obtain ⟨la, hla⟩ : ∃ la, la = lastR (-1) (l.take k) := ⟨_, rfl⟩
     rw [← hla] at HTK
     have HLA := Lib.hid hla.symm
     by_cases hlast : la < r1
     ·have hd : decide (r1 ≤ la) = false := decide_eq_false (by omega)
      have HNX : Hid (sharesB rows (-1) (l.take (k + 1)) = true) := Lib.hid (by rw [HTK.out, HS.out, HER.out, decide_eq_true hlast]; rfl)
      have hlast2 : lastR (-1) (l.take k) < r1 := by rw [← hla]; exact hlast
      clear hla
      go_wp2_with fail
      refine HRT.out.mono ?_
      rintro e w3 ⟨rfl, hb3⟩
      have s0 := below_cell hb3 z0
      have s1 := below_cell hb3 z1
      go_wp2_with fail
      go_roundw
      case rel => exact ⟨k + 1, by omega, by go_num, by rw [HLT.out], HNX, HBN.out.trans (hb3.mono HBN.out.size)⟩
      case measure => simp [intOf]; omega
     ·have hd : decide (r1 ≤ la) = true := decide_eq_true (by omega)
      have HV : Hid (recE rows owners l = 340) := Lib.hid (by
       rw [HE.out, if_neg]; rw [HBD.out (by rw [HTK.out, HER.out, decide_eq_false hlast]; simp)]; simp)
      have HW : Hid (recB rows owners l = false) := Lib.hid (by unfold recB; rw [HV.out]; rfl)
      have HX : Hid (recV rows owners l = 0) := Lib.hid (by unfold recV; rw [HW.out]; rfl)
      have hlast2 : r1 ≤ lastR (-1) (l.take k) := by rw [← hla]; omega
      clear hla
      go_wp2_with fail
      refine HRT.out.mono ?_
      rintro e w3 ⟨rfl, hb3⟩
      have s0 := below_cell hb3 z0
      have s1 := below_cell hb3 z1
      go_wp2_with fail
      go_ret3
      exact ⟨by rw [HV.out, HW.out, HX.out]; rfl, HB2.out.trans ((HBN.out.trans (hb3.mono HBN.out.size)).mono HB2.out.size)⟩
   ·have hk2 : k = l.length := by omega
    have HSA : Hid (sharesB rows (-1) l = true) := Lib.hid (by have := HS.out; rwa [hk2, List.take_length] at this)
    have HV : Hid (recE rows owners l = 0) := Lib.hid (by rw [HE.out, if_pos HSA.out])
    have HLW := Lib.hid (HL2.out.below hb)
    have HBW := Lib.hid (HB2.out.trans (hb.mono HB2.out.size))
    have hdk : decide (k < l.length) = false := decide_eq_false hlt
    obtain ⟨wl, hwl⟩ : ∃ wl : World, wl = wr := ⟨_, rfl⟩
    rw [← hwl] at HRW HOW HLW HBW x0 x1 ⊢
    clear hk2 hb hwl HS
    go_wp2_with fail
    refine (columns_any _ _ rows owners _ HRW.out HOW.out).mono ?_
    rintro e w3 ⟨rfl, hb3⟩
    have y0 := below_cell hb3 x0
    have y1 := below_cell hb3 x1
    have HR3 := Lib.hid (HRW.out.below hb3)
    have HO3 := Lib.hid (HOW.out.below hb3)
    have HL3 := Lib.hid (HLW.out.below hb3)
    have HB3 := Lib.hid (HBW.out.trans (hb3.mono HBW.out.size))
    have hc1 := HPO.out.cols
    have hc2 := HPO.out.cols_le
    have HOKN : Hid (1 ≤ colsQ rows ∧ colsQ rows ≤ 64) := Lib.hid ⟨hc1, hc2⟩
    obtain ⟨n, hn⟩ : ∃ n, n = colsQ rows := ⟨_, rfl⟩
    rw [← hn] at hc1 hc2 ⊢
    have HN := Lib.hid hn
    have hmk := run_ints n (by omega)
    have hm0 : (madeCells #[.int .i64 0] n)[0]? = some (.int .i64 0) := by
     have h := (IBlk.made w3 n 3).cell 0 (by omega)
     rwa [World.cell?_alloc_at _ _ _ _ rfl] at h
    have n1 : (0 : Int) < (n : Int) := by omega
    clear hb3 x0 x1 hn HRW HOW HLW HBW
    obtain ⟨C, hC⟩ : ∃ C, C = (madeCells #[.int .i64 0] n).setIfInBounds 0 (.int .i64 1) := ⟨_, rfl⟩
    have hib : IBlk (w3.alloc (.cells C 3)) w3.heap.size n tgtF := by
     have h1 := (IBlk.made w3 n 3).set (k := 0) 1
     have h2 : (w3.alloc (.cells (madeCells #[.int .i64 0] n) 3)).setCell ⟨w3.heap.size, 0, none⟩ (.int .i64 1) = w3.alloc (.cells C 3) := by rw [hC]; simp [go_sem]
     rw [h2] at h1
     exact h1
    have hti := hib.ints (c := n) (Nat.le_refl _) (by omega) (fun i _ => by unfold tgtF; split <;> exact R64.mk (by omega) (by omega))
    have hbm := below_new w3 C 3
    have HT4 : Hid (Ints (w3.alloc (.cells C 3)) (.slice (some ⟨w3.heap.size, 0, none⟩) n n) (tgt n)) := Lib.hid hti
    have z0 := below_cell hbm y0
    have z1 := below_cell hbm y1
    have HR4 := Lib.hid (HR3.out.below hbm)
    have HL4 := Lib.hid (HL3.out.below hbm)
    have HB4 := Lib.hid (HB3.out.trans (hbm.mono HB3.out.size))
    rw [hC] at z0 z1
    have HC := Lib.hid hC
    clear hib hti hbm hC
    go_wp2_with fail
    rw [← HC.out]
    obtain ⟨w4, hw4⟩ : ∃ w4, w4 = w3.alloc (.cells C 3) := ⟨_, rfl⟩
    rw [← hw4] at HT4 HR4 HL4 HB4 ⊢
    clear hw4 z0 z1 y0 y1 HC
    with_reducible refine (drows_any _ _ _ _ ⟨_, _, _, rfl⟩ ⟨_, _, _, rfl⟩ ⟨_, _, _, rfl⟩).mono ?_
    rintro e w5 ⟨rfl, hw5⟩
    have hb5 : Below w4.heap.size w4 w5 := by
     rw [hw5]
     have h1 := below_new w4 #[.slice a rows.length cap, .slice a2 owners.length cap2] 25
     exact h1.trans ((below_new _ _ _).mono h1.size)
    have hin : ∀ p ∈ l, 0 ≤ p.1 ∧ p.1 < (rows.length : Int) := fun p hp => (rightS_iff.1 ((sharesB_all HSA.out).1 p hp)).1
    have hll : l.length ≤ 1000000 := by have := sharesB_len HSA.out; have := HPO.out.few; omega
    have HCR := Lib.hid (crows_any _ (.slice a2 owners.length cap2) _ rows l w4 w5 hw5 HR4.out HL4.out hin hll)
    have HRT := Lib.hid (rowsOf_right HPO.out HSA.out)
    have HEX := Lib.hid (examErr_right HRT.out (tgt_num _) (by rw [tgt_len]; exact HPO.out.cols_le))
    have HT5 := Lib.hid (HT4.out.below hb5)
    have HL5 := Lib.hid (HL4.out.below hb5)
    have HB5 := Lib.hid (HB4.out.trans (hb5.mono HB4.out.size))
    clear hw5 hb5 hin HR4 HL4 HT4 hmk n1 hm0
    go_wp2_with fail
    refine HCR.out.mono ?_
    rintro e w6 ⟨v6, rfl, hr6, hb6⟩
    have HR6 := Lib.hid hr6
    have HT6 := Lib.hid (HT5.out.below hb6)
    have HL6 := Lib.hid (HL5.out.below hb6)
    have HB6 := Lib.hid (HB5.out.trans (hb6.mono HB5.out.size))
    clear hr6 hb6 HCR
    have HRO := Lib.hid (show recOk rows l = rcombOk (rowsOf rows l) (tgt n) by unfold recOk; rw [HN.out])
    have HRY := Lib.hid (show recY rows l = rcombY (rowsOf rows l) (tgt n) by unfold recY; rw [HN.out])
    rw [← HN.out] at HEX
    cases hok : recOk rows l with
    | false =>
     have HW : Hid (recB rows owners l = false) := Lib.hid (by unfold recB; rw [hok]; simp)
     have HX : Hid (recV rows owners l = 0) := Lib.hid (by unfold recV; rw [HW.out]; rfl)
     have HCM := Lib.hid (Comb_no _ _ (rowsOf rows l) (tgt n) _ HR6.out HT6.out HEX.out (by rw [← HRO.out]; exact hok))
     clear hok
     go_wp2_with fail
     refine HCM.out.mono ?_
     rintro e w7 ⟨yv, rfl, hy, hb7⟩
     obtain ⟨ya, yc, rfl, -⟩ := id hy
     have HB7 := Lib.hid (HB6.out.trans (hb7.mono HB6.out.size))
     have HB8 := Lib.hid (HB7.out.alloc HB7.out.size (.cells #[.slice ya ([] : List Int).length yc] 23))
     clear hy hb7
     go_wp2_with fail
     go_ret3
     exact ⟨by rw [HV.out, HW.out, HX.out]; rfl, HB8.out⟩
    | true =>
     have HW : Hid (recB rows owners l = true) := Lib.hid (by unfold recB; rw [hok, HV.out]; rfl)
     have HX : Hid (recV rows owners l = prodQ (rcombY (rowsOf rows l) (tgt n)) (valsOf l)) := Lib.hid (by unfold recV; rw [if_pos HW.out, HRY.out])
     have HCM := Lib.hid (Comb_yes _ _ (rowsOf rows l) (tgt n) _ HR6.out HT6.out HEX.out (by rw [← HRO.out]; exact hok))
     have HYL := Lib.hid (show (rcombY (rowsOf rows l) (tgt n)).length = l.length by rw [rcombY_len]; simp [rowsOf])
     have hmf : ∀ (fn : Fn) (first cap : Array Value) (w : World), (Instr.makeFunc fn first cap).run Tryz.prog w = .ok (.func fn first cap) w := fun _ _ _ _ => rfl
     generalize rcombY (rowsOf rows l) (tgt n) = y at *
     clear hok
     go_wp2_with fail
     refine HCM.out.mono ?_
     rintro e w7 ⟨yv, rfl, hy, hb7⟩
     have hbn := below_new w7 #[yv] 23
     have hcy : (w7.alloc (.cells #[yv] 23)).cell? ⟨w7.heap.size, 0, none⟩ = some yv := row_cell (World.alloc_heap_new _ _) rfl
     have HSM := Lib.hid (ssum_any _ yv l y w7.heap.size _ ((HL6.out.below hb7).below hbn) (hy.below hbn) HYL.out hcy)
     obtain ⟨ya, yc, rfl, -⟩ := id hy
     have HB7 := Lib.hid (HB6.out.trans (hb7.mono HB6.out.size))
     have HB8 := Lib.hid (HB7.out.trans (hbn.mono HB7.out.size))
     clear hy hb7 hbn hcy HYL
     go_wp2_with fail
     refine HSM.out.mono ?_
     rintro e w9 ⟨rfl, hb9⟩
     go_wp2_with fail
     go_ret3
     exact ⟨by rw [HV.out, HW.out, HX.out]; rfl, HB8.out.trans (hb9.mono HB8.out.size)⟩
 ·have HV : Hid (recE rows owners l = progE rows owners) := Lib.hid (by unfold recE; rw [if_pos hp])
  have HW : Hid (recB rows owners l = false) := Lib.hid (by unfold recB; rw [HV.out, decide_eq_false hp]; rfl)
  have HX : Hid (recV rows owners l = 0) := Lib.hid (by unfold recV; rw [HW.out]; rfl)
  have h2 : (progE rows owners != 0) = true := bne_iff_ne.2 hp
  go_enter Tryz.func49, Tryz.ntmps49
  go_wp2_with fail
  rw [← HW1.out]
  refine HPC.out.mono ?_
  rintro r w2 ⟨rfl, hb2⟩
  go_wp2_with fail
  go_ret3
  exact ⟨by rw [HV.out, HW.out, HX.out]; rfl, HB1.out.trans (hb2.mono HB1.out.size)⟩
end Go.Proofs.YtggnipkfliompaaGreatDoor
namespace Go.Proofs.YtggnipkfliompaaGreatDoor
open Go.RowKit FP
end Go.Proofs.YtggnipkfliompaaGreatDoor
namespace Go.Proofs.YtggnipkfliompaaGreatDoor
open Go.RowKit FP
end Go.Proofs.YtggnipkfliompaaGreatDoor
namespace Go.Proofs.YtggnipkfliompaaGreatDoor
open Go.RowKit FP
theorem rows_of1 {w : World} {b c : Nat} {r : Value} {x : List Int} (h : w.cell? ⟨b, 0, none⟩ = some r) (hI : Ints w r x) (hc : 1 ≤ c) : Rows2 w (.slice (some ⟨b, 0, none⟩) 1 c) [x] :=
 ⟨_, c, rfl, hc, by simp, fun k hk => ⟨b, 0, r, rfl, by obtain rfl : k = 0 := (by simp at hk; omega); exact h, by obtain rfl : k = 0 := (by simp at hk; omega); exact hI⟩⟩
theorem ints_of1 {w : World} {b c : Nat} {x : Int} (h : w.cell? ⟨b, 0, none⟩ = some (.int .i64 x)) (hx : R64 x) (hc : 1 ≤ c) : Ints w (.slice (some ⟨b, 0, none⟩) 1 c) [x] :=
 ⟨_, c, rfl, hc, by simp, by simpa using hx, fun k hk => ⟨b, 0, rfl, by obtain rfl : k = 0 := (by simp at hk; omega); exact h⟩⟩
end Go.Proofs.YtggnipkfliompaaGreatDoor
namespace Go.Proofs.YtggnipkfliompaaGreatDoor
open Go.RowKit FP
end Go.Proofs.YtggnipkfliompaaGreatDoor
namespace Go.Proofs.YtggnipkfliompaaGreatDoor
open Go.RowKit FP
def Words (w : World) (v : Value) (l : List Int) : Prop :=
 ∃ a cap, v = .slice a l.length cap ∧ l.length ≤ cap ∧ l.length ≤ 1000000000000000 ∧ (∀ z ∈ l, 0 ≤ z ∧ z < 4294967296) ∧
  ∀ k (h : k < l.length), ∃ b off, a = some ⟨b, off, none⟩ ∧ w.cell? ⟨b, off + k, none⟩ = some (.int .u32 l[k])
end Go.Proofs.YtggnipkfliompaaGreatDoor
