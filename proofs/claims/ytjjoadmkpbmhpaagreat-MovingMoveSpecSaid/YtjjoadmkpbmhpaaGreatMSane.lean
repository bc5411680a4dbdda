/- The laws' examples: sane returns true. What Combine and Separate say: a target is made of rows exactly if no list proves that it is not. Separate's proofs; and the rank, row by row. What the calls give, with their values known: for the laws. The rank, row by row; and that of the columns. Package dealing: the sum of shares. Package dealing: Recover. Dealing: the examples, reckoned; calls whose values are known. The reference of dealing: comparing; the laws' program of one row. The laws of dealing: the program of one row. The laws of dealing: the examples. The laws of dealing: small programs, columns, random numbers. -/
import Derived.Test.YtjjoadmkpbmhpaaGreatMLinU
import Derived.Test.YtjjoadmkpbmhpaaGreatMDeaJ
import Derived.Deep.RegionHeld3
import Derived.BigQuiet
namespace Go.Proofs.YtjjoadmkpbmhpaaGreat
open Go.RowKit

theorem ints_lit (w : World) (zs : List Int) (cs : Array Value) (t : TypeId) (hc : cs = (zs.map (Value.int .i64)).toArray) (hr : ∀ z ∈ zs, R64 z) (hn : zs.length ≤ 1000) : Ints (w.alloc (.cells cs t)) (.slice (some ⟨w.heap.size, 0, none⟩) zs.length zs.length) zs := by
  refine ⟨_, _, rfl, Nat.le_refl _, by omega, hr, fun k hk => ⟨_, 0, rfl, ?_⟩⟩
  rw [World.cell?_alloc_at _ _ _ _ rfl, hc, Nat.zero_add]
  simp [hk]
theorem rows_lit (w : World) (rows : List (List Int)) (hs : List Value) (cs : Array Value) (t : TypeId) (hc : cs = hs.toArray) (hl : hs.length = rows.length) (hn : rows.length ≤ 1000) (hi : ∀ k (h1 : k < hs.length) (h2 : k < rows.length), Ints w hs[k] rows[k]) :
    Rows2 (w.alloc (.cells cs t)) (.slice (some ⟨w.heap.size, 0, none⟩) rows.length rows.length) rows := by
  refine ⟨_, _, rfl, Nat.le_refl _, by omega, fun k hk => ⟨_, 0, hs[k]'(by omega), rfl, ?_, (hi k (by omega) hk).below ((Below.refl _ _).alloc (Nat.le_refl _) _)⟩⟩
  rw [World.cell?_alloc_at _ _ _ _ rfl, hc, Nat.zero_add]
  simp [show k < hs.length by omega]

abbrev sl (b n : Nat) : Value := .slice (some ⟨b, 0, none⟩) n n
theorem below_a (w : World) (o : Obj) : Below w.heap.size w (w.alloc o) := (Below.refl _ _).alloc (Nat.le_refl _) o

theorem r2 (z : Int) (h : decide (-9223372036854775808 ≤ z ∧ z ≤ 9223372036854775807) = true) : R64 z := by unfold R64; simpa using h
theorem rall (zs : List Int) (h : (zs.all fun z => decide (-9223372036854775808 ≤ z ∧ z ≤ 9223372036854775807)) = true) : ∀ z ∈ zs, R64 z := fun z hz => r2 z (List.all_eq_true.1 h z hz)

theorem rows_2 (w : World) (a b : List Int) (ca cb : Array Value) (t u : TypeId) (h1 : ca = (a.map (Value.int .i64)).toArray) (h2 : cb = (b.map (Value.int .i64)).toArray) (r1 : (a.all fun z => decide (-9223372036854775808 ≤ z ∧ z ≤ 9223372036854775807)) = true) (r2 : (b.all fun z => decide (-9223372036854775808 ≤ z ∧ z ≤ 9223372036854775807)) = true) (n1 : a.length ≤ 1000) (n2 : b.length ≤ 1000) :
    Rows2 (((w.alloc (.cells ca t)).alloc (.cells cb t)).alloc (.cells #[sl w.heap.size a.length, sl (w.heap.size + 1) b.length] u)) (sl (w.heap.size + 1 + 1) 2) [a, b] := by
  have ib := ints_lit (w.alloc (.cells ca t)) b cb t h2 (rall b r2) n2
  have ia := (ints_lit w a ca t h1 (rall a r1) n1).below (below_a _ (.cells cb t))
  have := rows_lit ((w.alloc (.cells ca t)).alloc (.cells cb t)) [a, b] [sl w.heap.size a.length, sl (w.heap.size + 1) b.length] _ u rfl rfl (by simp) (fun k k1 k2 => by
    have : k = 0 ∨ k = 1 := by simp at k1; omega
    rcases this with rfl | rfl
    · exact ia
    · simpa using ib)
  simpa using this
set_option maxRecDepth 100000 in
/-- Combine and Separate at rows whose result is known. -/
theorem Combine_is (v u : Value) (rows : List (List Int)) (t y : List Int) (ok : Bool) (e : Int) (w : World) (hI : Rows2 w v rows) (hU : Ints w u t) (he : examErr rows t = e) (hok : (decide (e = 0) && combOk rows t) = ok) (hy : (if e = 0 ∧ combOk rows t = true then combY rows t else []) = y) :
    Calls Tryz.prog 71 #[v, u] w fun r w' => ∃ yv, r = .returned (.tuple #[yv, .bool ok, .int .i64 e]) ∧ Ints w' yv y ∧ Below w.heap.size w w' :=
  (Combine_any v u rows t w hI hU).mono fun r w' ⟨yv, h1, h2, h3⟩ => ⟨yv, by rw [h1, he, hok], by rw [he, hy] at h2; exact h2, h3⟩
/-! The calls, one by one. -/
set_option maxRecDepth 100000 in
theorem s3 (w : World) : Calls Tryz.prog 71 #[sl (w.heap.size + 1 + 1) 2, sl (w.heap.size + 1 + 1 + 1) 2]
    ((((w.alloc (.cells #[.int .i64 1, .int .i64 1] 3)).alloc (.cells #[.int .i64 0, .int .i64 1] 3)).alloc (.cells #[sl w.heap.size 2, sl (w.heap.size + 1) 2] 23)).alloc (.cells #[.int .i64 1, .int .i64 0] 3))
    fun r w' => ∃ yv, r = .returned (.tuple #[yv, .bool true, .int .i64 0]) ∧ Ints w' yv [1, 1073741788] ∧ Below w.heap.size w w' := by
  have hT := ints_lit (((w.alloc (.cells #[.int .i64 1, .int .i64 1] 3)).alloc (.cells #[.int .i64 0, .int .i64 1] 3)).alloc (.cells #[sl w.heap.size 2, sl (w.heap.size + 1) 2] 23)) [1, 0] #[.int .i64 1, .int .i64 0] 3 rfl (rall _ (by decide)) (by decide)
  simp only [World.size_alloc] at hT
  exact (Combine_is _ _ [[1, 1], [0, 1]] [1, 0] [1, 1073741788] true 0 _ ((rows_2 w [1, 1] [0, 1] _ _ 3 23 rfl rfl (by decide) (by decide) (by decide) (by decide)).below (below_a _ _)) hT (by decide) (by rw [ex_comb1.1]; rfl) (by rw [ex_comb1.1, ex_comb1.2]; rfl)).mono
    fun r w' ⟨yv, h1, h2, h3⟩ => ⟨yv, h1, h2, ((below_three w _ _ _).alloc (by simp; omega) _).trans (h3.mono (by simp; omega))⟩

end Go.Proofs.YtjjoadmkpbmhpaaGreat

namespace Go.Proofs.YtjjoadmkpbmhpaaGreat

/-- Rows, in the field. -/
def fm (rows : List (List Int)) : FMat := cm (matOf rows)
theorem fm_row (rows : List (List Int)) {i : Nat} (hi : i < rows.length) (j : Nat) : fm rows i j = cv rows[i] j := by
  show cq (((rows[i]?).getD [])[j]?.getD 0) = cq (rows[i][j]?.getD 0)
  rw [List.getElem?_eq_getElem hi]; rfl

theorem eq_left (rows : List (List Int)) (t : List Int) {k i : Nat} (hk : k < t.length) (hi : i < rows.length) : cm (matOf (eqRows rows t)) k i = fm rows i k := by
  show cq (matOf (eqRows rows t) k i) = _
  rw [← turn_eq hk]
  show cq ((colOf rows k ++ [nth t k])[i]?.getD 0) = _
  rw [List.getElem?_append_left (by simpa [colOf] using hi)]
  unfold colOf
  rw [List.getElem?_map, List.getElem?_eq_getElem hi, fm_row rows hi]; rfl
theorem eq_right (rows : List (List Int)) (t : List Int) {k : Nat} (hk : k < t.length) : cm (matOf (eqRows rows t)) k rows.length = cv t k := by
  show cq (matOf (eqRows rows t) k rows.length) = _
  rw [← turn_eq hk]
  show cq ((colOf rows k ++ [nth t k])[rows.length]?.getD 0) = _
  rw [List.getElem?_append_right (by simp [colOf])]
  simp [colOf]; rfl

/-- A vector, followed by -1. -/
def ext (n : Nat) (y : Nat → Fq) : Nat → Fq := fun j => if j = n then -1 else y j
theorem ext_lt {n j : Nat} (y : Nat → Fq) (h : j < n) : ext n y j = y j := if_neg (by omega)
theorem ext_at (n : Nat) (y : Nat → Fq) : ext n y n = -1 := if_pos rfl
theorem dt_ext (n : Nat) (u y : Nat → Fq) : dt (n + 1) u (ext n y) = sm n (fun j => u j * y j) + u n * (-1) := by
  show sm n (fun j => u j * ext n y j) + u n * ext n y n = _
  rw [ext_at, sm_congr (fun j hj => by rw [ext_lt y hj])]

/-- What a combination makes, as a vector of the kernel of the equations. -/
theorem ker_eq (rows : List (List Int)) (t : List Int) (y : Nat → Fq) : Ker t.length (rows.length + 1) (cm (matOf (eqRows rows t))) (ext rows.length y) ↔ ∀ k, k < t.length → cv t k = sm rows.length (fun i => y i * fm rows i k) := by
  have key : ∀ k, k < t.length → dt (rows.length + 1) (cm (matOf (eqRows rows t)) k) (ext rows.length y) = sm rows.length (fun i => y i * fm rows i k) - cv t k := fun k hk => by
    rw [dt_ext, eq_right rows t hk, sm_congr (g := fun i => y i * fm rows i k) (fun i hi => by rw [eq_left rows t hk hi]; exact Fin.mul_comm _ _)]
    grind
  constructor
  · intro h k hk
    have := h k hk
    rw [key k hk] at this
    grind
  · intro h k hk
    rw [key k hk, h k hk]; grind

theorem combF_at {x : Mat} {piv : List Nat} {n : Nat} (hs : ∀ k l, k < l → l < piv.length → pf piv k < pf piv l) : ∀ K, K ≤ piv.length → ∀ k, k < K → combF x piv n K (pf piv k) = x k n
  | 0, _, k, hk => absurd hk (Nat.not_lt_zero _)
  | K + 1, hK, k, hk => by
    show (if pf piv k = pf piv K then x K n else combF x piv n K (pf piv k)) = _
    by_cases e : k = K
    · rw [if_pos (by rw [e]), e]
    · have := hs k K (by omega) (by omega)
      rw [if_neg (by omega)]; exact combF_at hs K (by omega) k (by omega)
theorem combF_ne {x : Mat} {piv : List Nat} {n j : Nat} : ∀ K, (∀ k, k < K → pf piv k ≠ j) → combF x piv n K j = 0
  | 0, _ => rfl
  | K + 1, h => by
    show (if j = pf piv K then x K n else combF x piv n K j) = _
    rw [if_neg (fun e => h K (by omega) e.symm)]; exact combF_ne K (fun k hk => h k (by omega))

theorem comb_red {rows : List (List Int)} {t : List Int} (h : Right rows t.length) (ht : ∀ z ∈ t, 0 ≤ z ∧ z < 1073741789) : Red t.length (rows.length + 1) (cm (matOf (eqRows rows t))) (cm (rcombM rows t).1) (rcombM rows t).2.length (pf (rcombM rows t).2) rows.length :=
  redR_red (eq_num h ht) rows.length (by omega)

theorem nth_map (n : Nat) (f : Nat → Int) {i : Nat} (hi : i < n) : nth ((List.range n).map f) i = f i := by unfold nth; simp [hi]

/-- The combination makes the target. -/
theorem comb_makes {rows : List (List Int)} {t : List Int} (h : Right rows t.length) (ht : ∀ z ∈ t, 0 ≤ z ∧ z < 1073741789) (hok : rcombOk rows t = true) : ∀ k, k < t.length → cv t k = sm rows.length (fun i => cv (rcombY rows t) i * fm rows i k) := by
  have hR := comb_red h ht
  have hlt : (∀ p ∈ (rcombM rows t).2, p < rows.length) ∧ Sorted (rcombM rows t).2 := redR_lt _ _ _
  have hy : ∀ i, i < rows.length → cv (rcombY rows t) i = cq (combF (rcombM rows t).1 (rcombM rows t).2 rows.length (rcombM rows t).2.length i) := fun i hi => by
    unfold cv rcombY; rw [nth_map _ _ hi]
  have hz : ∀ q, (rcombM rows t).2.length ≤ q → q < t.length → (rcombM rows t).1 q rows.length = 0 := fun q h1 h2 => by
    have := List.all_eq_true.1 hok (q - (rcombM rows t).2.length) (List.mem_range.2 (by omega))
    rw [show (rcombM rows t).2.length + (q - (rcombM rows t).2.length) = q by omega] at this
    simpa using this
  generalize hx : (rcombM rows t).1 = x at *
  generalize hp : (rcombM rows t).2 = piv at *
  rw [← ker_eq]
  refine (hR.ker _).1 fun q hq => ?_
  rw [dt_ext]
  by_cases hqr : q < piv.length
  · rw [sm_pivots (p := pf piv) (r := piv.length) (fun k hk => hR.pc k hk) hR.mono (fun j hj hno => by
      show cm x q j * cv (rcombY rows t) j = 0
      rw [hy j hj, combF_ne _ hno, cq_0]; grind), sm_one (k := q) hqr (fun k hk hne => by
      show cm x q (pf piv k) * cv (rcombY rows t) (pf piv k) = 0
      rw [hR.zero k q hk hq (fun e => hne e.symm)]; grind)]
    show cm x q (pf piv q) * cv (rcombY rows t) (pf piv q) + _ = 0
    rw [hR.one q hqr, hy _ (hR.pc q hqr), combF_at (pf_mono hlt.2) _ (Nat.le_refl _) q hqr]
    show 1 * cm x q rows.length + cm x q rows.length * (-1) = 0
    grind
  · rw [sm_zero (fun j hj => by
      show cm x q j * cv (rcombY rows t) j = 0
      rw [hR.low q j (by omega) hq hj]; grind)]
    show 0 + cq (x q rows.length) * (-1) = 0
    rw [hz q (by omega) hq, cq_0]; grind

end Go.Proofs.YtjjoadmkpbmhpaaGreat

namespace Go.Proofs.YtjjoadmkpbmhpaaGreat

end Go.Proofs.YtjjoadmkpbmhpaaGreat

namespace Go.Proofs.YtjjoadmkpbmhpaaGreat
open Go.RowKit

set_option maxRecDepth 100000 in
theorem Comb_yes (v u : Value) (rows : List (List Int)) (t : List Int) (w : World) (hI : Rows2 w v rows) (hU : Ints w u t) (h0 : examErr rows t = 0) (hok : rcombOk rows t = true) :
    Calls Tryz.prog 71 #[v, u] w fun r w' => ∃ yv, r = .returned (.tuple #[yv, .bool true, .int .i64 0]) ∧ Ints w' yv (rcombY rows t) ∧ Below w.heap.size w w' := by
  refine Combine_is v u rows t _ _ _ w hI hU h0 ?_ ?_
  · have := (comb_err (rows := rows) (t := t)).1
    rw [h0, hok] at this; exact this
  · have := (comb_err (rows := rows) (t := t)).2
    rw [h0] at this
    rw [this, if_pos ⟨rfl, hok⟩]
set_option maxRecDepth 100000 in
theorem Comb_no (v u : Value) (rows : List (List Int)) (t : List Int) (w : World) (hI : Rows2 w v rows) (hU : Ints w u t) (h0 : examErr rows t = 0) (hok : rcombOk rows t = false) :
    Calls Tryz.prog 71 #[v, u] w fun r w' => ∃ yv, r = .returned (.tuple #[yv, .bool false, .int .i64 0]) ∧ Ints w' yv [] ∧ Below w.heap.size w w' := by
  refine Combine_is v u rows t _ _ _ w hI hU h0 ?_ ?_
  · have := (comb_err (rows := rows) (t := t)).1
    rw [h0, hok] at this; exact this
  · have := (comb_err (rows := rows) (t := t)).2
    rw [h0] at this
    rw [this, if_neg (by rw [hok]; simp)]
theorem rcombY_len (rows : List (List Int)) (t : List Int) : (rcombY rows t).length = rows.length := by simp [rcombY]

end Go.Proofs.YtjjoadmkpbmhpaaGreat

namespace Go.Proofs.YtjjoadmkpbmhpaaGreat

theorem right_wide {rows : List (List Int)} {m : Nat} (h : Right rows m) (hn : rows ≠ []) : wide rows = m := by
  cases rows with
  | nil => exact absurd rfl hn
  | cons r l => exact h.len r (by simp)
theorem right_check {rows : List (List Int)} {m : Nat} (h : Right rows m) : checkErr rows = 0 := by
  rw [checkErr_few h.few]
  by_cases hn : rows = []
  · subst hn; rfl
  · have hm : m ≤ 64 := by
      rcases h.narrow with h1 | h1
      · exact h1
      · exact absurd h1 hn
    refine kindErr_ok rows (fun r hr => by rw [h.len r hr]; exact hm) (fun r hr => ?_)
    unfold rowOk
    rw [right_wide h hn, decide_eq_true (h.len r hr), any_no (fun z hz => by
      have := h.num r hr z hz
      simp [oddQ]; omega)]; rfl

/-! Prefixes. -/
end Go.Proofs.YtjjoadmkpbmhpaaGreat

namespace Go.Proofs.YtjjoadmkpbmhpaaGreat
open Go.RowKit FP

/-- Are shares right, and in order, behind a row? -/
def sharesB (rows : List (List Int)) (last : Int) : List (Int × Int) → Bool
  | [] => true
  | p :: l => rightS rows p.1 p.2 && (decide (last < p.1) && sharesB rows p.1 l)
/-- The last row. -/
def lastR (last : Int) (l : List (Int × Int)) : Int := (l.getLast?.map Prod.fst).getD last
theorem sharesB_snoc {rows : List (List Int)} {p : Int × Int} : ∀ {l : List (Int × Int)} {last : Int}, sharesB rows last (l ++ [p]) = (sharesB rows last l && (rightS rows p.1 p.2 && decide (lastR last l < p.1)))
  | [], last => by
    simp [sharesB, lastR]
    rfl
  | q :: l, last => by
    rw [List.cons_append, sharesB, sharesB_snoc, sharesB]
    have : lastR q.1 l = lastR last (q :: l) := by
      unfold lastR
      cases l with
      | nil => rfl
      | cons a t => rw [List.getLast?_cons_cons]; simp [List.getLast?_cons]
    rw [this]
    cases rightS rows q.1 q.2 <;> cases decide (last < q.1) <;> simp
theorem lastR_snoc (last : Int) (l : List (Int × Int)) (p : Int × Int) : lastR last (l ++ [p]) = p.1 := by unfold lastR; simp
theorem sharesB_take {rows : List (List Int)} {l : List (Int × Int)} {last : Int} {k : Nat} (hk : k < l.length) : sharesB rows last (l.take (k + 1)) = (sharesB rows last (l.take k) && (rightS rows l[k].1 l[k].2 && decide (lastR last (l.take k) < l[k].1))) := by
  rw [List.take_succ_eq_append_getElem hk, sharesB_snoc]
theorem lastR_take {l : List (Int × Int)} {last : Int} {k : Nat} (hk : k < l.length) : lastR last (l.take (k + 1)) = l[k].1 := by
  rw [List.take_succ_eq_append_getElem hk, lastR_snoc]
theorem sharesB_front {rows : List (List Int)} : ∀ {l : List (Int × Int)} {last : Int}, sharesB rows last l = true → ∀ k, sharesB rows last (l.take k) = true
  | [], _, _, k => by rw [List.take_nil]; rfl
  | p :: l, last, h, 0 => rfl
  | p :: l, last, h, k + 1 => by
    rw [List.take_succ_cons]
    unfold sharesB at h ⊢
    simp only [Bool.and_eq_true] at h ⊢
    exact ⟨h.1, h.2.1, sharesB_front h.2.2 k⟩
theorem sharesB_bad {rows : List (List Int)} {l : List (Int × Int)} {last : Int} {k : Nat} (h : sharesB rows last (l.take (k + 1)) = false) : sharesB rows last l = false := by
  cases e : sharesB rows last l with
  | false => rfl
  | true => rw [sharesB_front e] at h; cases h
theorem sharesB_all {rows : List (List Int)} : ∀ {l : List (Int × Int)} {last : Int}, sharesB rows last l = true → (∀ p ∈ l, rightS rows p.1 p.2 = true) ∧ (l ≠ [] → last + l.length < (rows.length : Int))
  | [], _, _ => ⟨by simp, fun h => absurd rfl h⟩
  | p :: l, last, h => by
    unfold sharesB at h
    simp only [Bool.and_eq_true, decide_eq_true_eq] at h
    obtain ⟨h1, h2, h3⟩ := h
    obtain ⟨i1, i2⟩ := sharesB_all h3
    refine ⟨fun q hq => ?_, fun _ => ?_⟩
    · rcases List.mem_cons.1 hq with rfl | hq
      · exact h1
      · exact i1 q hq
    · have h4 := (rightS_iff.1 h1).1
      by_cases hl : l = []
      · subst hl; simp; omega
      · have := i2 hl; rw [List.length_cons]; omega
theorem sharesB_len {rows : List (List Int)} {l : List (Int × Int)} (h : sharesB rows (-1) l = true) : l.length ≤ rows.length := by
  by_cases hl : l = []
  · subst hl; simp
  · have := (sharesB_all h).2 hl; omega

end Go.Proofs.YtjjoadmkpbmhpaaGreat

namespace Go.Proofs.YtjjoadmkpbmhpaaGreat
open Go.RowKit FP

/-- The target of a program. -/
def tgtF (i : Nat) : Int := if i = 0 then 1 else 0
def tgt (n : Nat) : List Int := (List.range n).map tgtF
theorem tgt_len (n : Nat) : (tgt n).length = n := by simp [tgt]
theorem tgt_num (n : Nat) : ∀ z ∈ tgt n, 0 ≤ z ∧ z < 1073741789 := by
  intro z hz
  obtain ⟨i, -, rfl⟩ := List.mem_map.1 hz
  unfold tgtF; split <;> omega
theorem examErr_right {rows : List (List Int)} {t : List Int} (h : Right rows t.length) (ht : ∀ z ∈ t, 0 ≤ z ∧ z < 1073741789) (hl : t.length ≤ 64) : examErr rows t = 0 := by
  unfold examErr
  rw [if_pos (right_check h), if_pos (kind1_ok hl (any_odd_of ht)), if_pos]
  by_cases hr : rows = []
  · exact .inl (by rw [hr]; rfl)
  · exact .inr (right_wide h hr)

end Go.Proofs.YtjjoadmkpbmhpaaGreat

namespace Go.Proofs.YtjjoadmkpbmhpaaGreat
open Go.RowKit FP

theorem right_lit (rows : List (List Int)) (m : Nat) (h : (decide (rows.length ≤ 64) && (decide (m ≤ 64) && rows.all fun r => decide (r.length = m) && r.all fun z => decide (0 ≤ z) && decide (z < 1073741789))) = true) : Right rows m := by
  simp only [Bool.and_eq_true, decide_eq_true_eq, List.all_eq_true] at h
  obtain ⟨h1, h2, h3⟩ := h
  exact ⟨h1, .inl h2, fun r hr => (h3 r hr).1, fun r hr z hz => (h3 r hr).2 z hz⟩
theorem num_lit (t : List Int) (h : (t.all fun z => decide (0 ≤ z) && decide (z < 1073741789)) = true) : ∀ z ∈ t, 0 ≤ z ∧ z < 1073741789 := by
  simp only [Bool.and_eq_true, decide_eq_true_eq, List.all_eq_true] at h
  exact h
end Go.Proofs.YtjjoadmkpbmhpaaGreat

namespace Go.Proofs.YtjjoadmkpbmhpaaGreat
open Go.RowKit FP

def sameS (a b : List (Int × Int)) : Bool := decide (a = b)
theorem take_eq_next {α : Type} {a b : List α} {k : Nat} (ha : k < a.length) (hb : k < b.length) (h : a.take k = b.take k) (he : a[k] = b[k]) : a.take (k + 1) = b.take (k + 1) := by
  rw [List.take_succ_eq_append_getElem ha, List.take_succ_eq_append_getElem hb, h, he]

set_option maxRecDepth 100000 in
set_option maxHeartbeats 4000000 in
theorem rsame_any (u v : Value) (a b : List (Int × Int)) (w : World) (hA : Shares w u a) (hB : Shares w v b) :
    Calls Tryz.prog 13 #[u, v] w fun r w' => r = .returned (.bool (sameS a b)) ∧ Below w.heap.size w w' := by
  obtain ⟨aa, ca, rfl, -, hla, -, hka⟩ := hA
  obtain ⟨ab, cb, rfl, -, hlb, -, hkb⟩ := hB
  have HA := Lib.hid hka
  have HB := Lib.hid hkb
  clear hka hkb
  by_cases hl : a.length = b.length
  · have hlI : ((a.length : Int) != (b.length : Int)) = false := by rw [hl]; exact bne_self_eq_false _
    have HLN := Lib.hid hl
    clear hl
    go_enter Tryz.func13, Tryz.ntmps13
    go_wp2_with fail
    go_loopw [5] (fun i W => ∃ k : Nat, k ≤ a.length ∧ i = .int .i64 k ∧ Hid (a.take k = b.take k) ∧ Below w.heap.size w W) (fun i _ => a.length - (intOf i).toNat)
    case atStart => exact ⟨0, Nat.zero_le _, rfl, Lib.hid rfl, Below.refl _ _⟩
    case round =>
      obtain ⟨k, hkl, rfl, HT, hb⟩ := hrel
      by_cases hlt : k < a.length
      · have hltb : k < b.length := by have := HLN.out; omega
        obtain ⟨b1, o1, e1, p0, p1⟩ := HA.out k hlt
        obtain ⟨b2, o2, e2, q0, q1⟩ := HB.out k hltb
        subst e1 e2
        have y0 := below_cell hb p0
        have y1 := below_cell hb p1
        have z0 := below_cell hb q0
        have z1 := below_cell hb q1
        have i0 : 0 ≤ (k : Int) := by omega
        have i1 : (k : Int) < (a.length : Int) := by omega
        have i2 : (k : Int) < (b.length : Int) := by omega
        have HBW := Lib.hid hb
        clear p0 p1 q0 q1 hb
        by_cases he : a[k] = b[k]
        · have HN := Lib.hid (take_eq_next hlt hltb HT.out he)
          have f1 : b[k].1 = a[k].1 := by rw [he]
          have f2 : b[k].2 = a[k].2 := by rw [he]
          rw [f1] at z0
          rw [f2] at z1
          clear he f1 f2
          generalize a[k].1 = x1 at *
          generalize a[k].2 = x2 at *
          go_wp2_with fail
          go_quiet (fail)
          go_wp2_with fail
          go_roundw
          case rel => exact ⟨k + 1, by omega, by go_num, HN, below_drewN HBW.out _⟩
          case measure => simp [intOf]; omega
        · have HV := Lib.hid (show sameS a b = false by
            unfold sameS; refine decide_eq_false (fun e => he ?_)
            subst e; rfl)
          by_cases h1 : a[k].1 = b[k].1
          · have n1 : (a[k].1 == b[k].1) = true := beq_iff_eq.2 h1
            have n2 : (a[k].2 == b[k].2) = false := beq_eq_false_iff_ne.2 (fun h2 => he (Prod.ext h1 h2))
            clear he h1
            generalize a[k].1 = x1 at *
            generalize a[k].2 = x2 at *
            generalize b[k].1 = x3 at *
            generalize b[k].2 = x4 at *
            go_wp2_with fail
            go_quiet (fail)
            go_wp2_with fail
            go_ret
            exact ⟨ret_bool HV.out.symm, below_drewN HBW.out _⟩
          · have n1 : (a[k].1 == b[k].1) = false := beq_eq_false_iff_ne.2 h1
            clear he h1
            generalize a[k].1 = x1 at *
            generalize a[k].2 = x2 at *
            generalize b[k].1 = x3 at *
            generalize b[k].2 = x4 at *
            go_wp2_with fail
            go_quiet (fail)
            go_wp2_with fail
            go_ret
            exact ⟨ret_bool HV.out.symm, below_drewN HBW.out _⟩
      · have HV := Lib.hid (show sameS a b = true by
          unfold sameS; refine decide_eq_true ?_
          have := HT.out
          rwa [List.take_of_length_le (by omega), List.take_of_length_le (by have := HLN.out; omega)] at this)
        have hdk : decide (k < a.length) = false := decide_eq_false hlt
        go_wp2_with fail
        go_ret
        exact ⟨ret_bool HV.out.symm, hb⟩
  · have hlI : ((a.length : Int) != (b.length : Int)) = true := bne_iff_ne.2 (by omega)
    have HV := Lib.hid (show sameS a b = false by unfold sameS; exact decide_eq_false (fun e => hl (by rw [e])))
    go_enter Tryz.func13, Tryz.ntmps13
    go_wp2_with fail
    go_ret
    exact ⟨ret_bool HV.out.symm, Below.refl _ _⟩

end Go.Proofs.YtjjoadmkpbmhpaaGreat

namespace Go.Proofs.YtjjoadmkpbmhpaaGreat
open Go.RowKit FP

theorem rows_of1 {w : World} {b c : Nat} {r : Value} {x : List Int} (h : w.cell? ⟨b, 0, none⟩ = some r) (hI : Ints w r x) (hc : 1 ≤ c) : Rows2 w (.slice (some ⟨b, 0, none⟩) 1 c) [x] :=
  ⟨_, c, rfl, hc, by simp, fun k hk => ⟨b, 0, r, rfl, by obtain rfl : k = 0 := (by simp at hk; omega); exact h, by obtain rfl : k = 0 := (by simp at hk; omega); exact hI⟩⟩
theorem ints_of1 {w : World} {b c : Nat} {x : Int} (h : w.cell? ⟨b, 0, none⟩ = some (.int .i64 x)) (hx : R64 x) (hc : 1 ≤ c) : Ints w (.slice (some ⟨b, 0, none⟩) 1 c) [x] :=
  ⟨_, c, rfl, hc, by simp, by simpa using hx, fun k hk => ⟨b, 0, rfl, by obtain rfl : k = 0 := (by simp at hk; omega); exact h⟩⟩
theorem ints_of2 {w : World} {b c : Nat} {x y : Int} (h : w.cell? ⟨b, 0, none⟩ = some (.int .i64 x)) (h2 : w.cell? ⟨b, 1, none⟩ = some (.int .i64 y)) (hx : R64 x) (hy : R64 y) (hc : 2 ≤ c) : Ints w (.slice (some ⟨b, 0, none⟩) 2 c) [x, y] :=
  ⟨_, c, rfl, hc, by simp, by simp [hx, hy], fun k hk => ⟨b, 0, rfl, by
    match k, hk with
    | 0, _ => exact h
    | 1, _ => exact h2⟩⟩
end Go.Proofs.YtjjoadmkpbmhpaaGreat

namespace Go.Proofs.YtjjoadmkpbmhpaaGreat
open Go.RowKit FP

end Go.Proofs.YtjjoadmkpbmhpaaGreat

namespace Go.Proofs.YtjjoadmkpbmhpaaGreat
open Go.RowKit FP

/-- The slice v reads as words. -/
def Words (w : World) (v : Value) (l : List Int) : Prop :=
  ∃ a cap, v = .slice a l.length cap ∧ l.length ≤ cap ∧ l.length ≤ 1000000000000000 ∧ (∀ z ∈ l, 0 ≤ z ∧ z < 4294967296) ∧
    ∀ k (h : k < l.length), ∃ b off, a = some ⟨b, off, none⟩ ∧ w.cell? ⟨b, off + k, none⟩ = some (.int .u32 l[k])
theorem Words.below {w w' : World} {v : Value} {l : List Int} (h : Words w v l) (hb : Below w.heap.size w w') : Words w' v l := by
  obtain ⟨a, cap, rfl, hc, hl, hr, hk⟩ := h
  refine ⟨a, cap, rfl, hc, hl, hr, fun k hlt => ?_⟩
  obtain ⟨b, off, ha, h1⟩ := hk k hlt
  exact ⟨b, off, ha, below_cell hb h1⟩
theorem Words.nil (w : World) (a : Option Addr) (cap : Nat) : Words w (.slice a 0 cap) [] :=
  ⟨a, cap, rfl, Nat.zero_le _, by simp, by simp, fun k h => absurd h (Nat.not_lt_zero _)⟩

set_option maxRecDepth 100000 in
set_option maxHeartbeats 1000000 in
theorem rcolumns_any (rv ov : Value) (rows : List (List Int)) (owners : List Int) (w : World) (hR : Rows2 w rv rows) (hO : Ints w ov owners) :
    Calls Tryz.prog 64 #[.agg #[rv, ov]] w fun e w' => e = .returned (.int .i64 (colsQ rows)) ∧ Below w.heap.size w w' := by
  obtain ⟨W1, hW1, hb1, hr1, hz⟩ := box_prog w rv ov 25
  have HR1 := Lib.hid (hR.below hb1)
  obtain ⟨a, cap, rfl, -, hlen, -⟩ := id hR
  obtain ⟨a2, cap2, rfl, -, hlen2, -⟩ := id hO
  have c0 : W1.cell? ⟨w.heap.size, 0, none⟩ = some (.slice a rows.length cap) := rowp_cell hr1 rfl
  have HW1 := Lib.hid hW1
  have HB1 := Lib.hid hb1
  clear hR hO hr1 hW1 hb1
  by_cases h0 : rows.length = 0
  · have HV := Lib.hid (show colsQ rows = 1 by unfold colsQ; rw [if_pos h0])
    have z0 : ((rows.length : Int) == 0) = true := by rw [h0]; rfl
    clear h0
    go_enter Tryz.func64, Tryz.ntmps64
    go_wp2_with fail
    go_ret
    exact ⟨ret_int (by rw [HV.out]; rfl), HW1.out ▸ HB1.out⟩
  · have HV := Lib.hid (show colsQ rows = wide rows by unfold colsQ; rw [if_neg h0])
    have z0 : ((rows.length : Int) == 0) = false := beq_eq_false_iff_ne.2 (by omega)
    obtain ⟨aa, cc, e1, -, -, hk⟩ := HR1.out
    obtain ⟨b, off, r, ha, q1, hI⟩ := hk 0 (by omega)
    simp only [Value.slice.injEq] at e1
    obtain ⟨rfl, -, rfl⟩ := e1
    subst ha
    rw [Nat.add_zero] at q1
    obtain ⟨ra, rc, rfl, -⟩ := id hI
    rw [wide_at rows (by omega)] at q1
    have i3 : (0 : Int) < (rows.length : Int) := by omega
    clear hk hI h0
    generalize wide rows = m at *
    go_enter Tryz.func64, Tryz.ntmps64
    go_wp2_with (rw [← HW1.out])
    go_ret
    exact ⟨ret_int (by rw [HV.out]), HB1.out⟩

end Go.Proofs.YtjjoadmkpbmhpaaGreat
