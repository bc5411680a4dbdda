/- The reference of package program: rows that are copied; long. The reference of package program: treat at a leaf, and what it gives back at once. -/
import Derived.Test.YtohebkpgjaaljaaMGrC
import Derived.Test.YtohebkpgjaaljaaMRegIn
import Derived.Test.YtohebkpgjaaljaaMGatE
import Derived.Lib.AppendZeros
import Derived.Laws.ResultCell
namespace Go.Proofs.Ytohebkpgjaaljaa
open Go.RowKit

theorem own_set {W : World} {base size n S : Nat} {e t : TypeId} {v : Value} {xs : List Value} {cs : Array Value} (h : W.ownsRow base e size v n xs) (hS : W.heap[S]? = some (.cells cs t (0, 0))) (hne : t ≠ e) (k : Nat) (u : Value) : (W.setCell ⟨S, k, none⟩ u).ownsRow base e size v n xs := by
  obtain ⟨h1, h2⟩ := h
  refine ⟨h1, ?_⟩
  rcases h2 with h2 | ⟨g, cap, cur, a, b, c, d⟩
  · exact .inl h2
  · refine .inr ⟨g, cap, cur, a, b, (Below.heap_setCell _ _ _ _ (fun h3 => ?_)).trans c, d⟩
    have h4 : g = S := h3
    subst h4
    rw [hS] at c
    injection c with c
    injection c with _ c2 _
    exact hne c2

set_option maxRecDepth 100000 in
/-- One row of the call's own, and another: appended. -/
theorem cat_run {W : World} (t e : TypeId) (i : TypeInfo) (z : Value) (bytes base C m n : Nat) (ht : Try.prog.underlying t = some (.slice e)) (hi : Try.prog.info? e = some i) (hz : i.zero = some z) (hs : i.size = 1) (hb : i.bytes = bytes) (hzs : z.cells.size = 1) (hby : bytes ≤ 100)
    (u v : Value) (us xs : List Value) (hu : W.ownsRow base e 1 u m us) (hv : W.ownsRow C e 1 v n xs) (h1 : ∀ x ∈ xs, x.oneCell' = true) (hn : m + n ≤ 1000000) (hbase : base ≤ W.heap.size) :
    ∃ u' W', (Builtin.append_ #[t, t] t #[u, v]).run Try.prog W = .ok u' W' ∧ W'.ownsRow base e 1 u' (m + n) (us ++ xs) ∧ W.grownBy W' u.ownBlock := by
  rcases hv.2 with ⟨rfl, rfl⟩ | ⟨g, cap, cur, rfl, -⟩
  · have hx : xs = [] := List.length_eq_zero_iff.1 (by rw [hv.1])
    subst hx
    refine ⟨u, W, ?_, by rw [List.append_nil]; exact hu, World.grownBy.refl _ _⟩
    rcases hu.2 with ⟨rfl, rfl⟩ | ⟨g, cap, cur, rfl, -, -, hc, -⟩ <;>
      simp [Builtin.append_, run_underlying ht, sizeOf, typeInfo, zeroValue, storeCells, Builtin.lenOf, Builtin.firstCells, *]
  · obtain ⟨u', W', h2, h3, h4, -⟩ := run_append_own (P := Try.prog) W base t t e i z 1 bytes ht hi hz hs hb hzs (by decide) u m us hu ⟨g, 0, none⟩ n cap xs (by rw [hv.1]) (fun j x hj => by
      rw [add_off, Nat.zero_add]
      have hlt : j < xs.length := (List.getElem?_eq_some_iff.1 hj).1
      rw [hv.cellAt j (by rw [← hv.1]; exact hlt)]
      exact hj) h1 (by unfold maxLen; omega) (by
        have : (m + n) * bytes ≤ 1000000 * 100 := Nat.mul_le_mul hn hby
        omega) hbase
    exact ⟨u', W', h2, h3, h4⟩
set_option maxRecDepth 100000 in
theorem cat_rows {W : World} (base C m n : Nat) (u v : Value) (us xs : List Value) (hu : W.ownsRow base 23 1 u m us) (hv : W.ownsRow C 23 1 v n xs) (h1 : ∀ x ∈ xs, x.oneCell' = true) (hn : m + n ≤ 1000000) (hbase : base ≤ W.heap.size) :
    ∃ u' W', (Builtin.append_ #[22, 22] 22 #[u, v]).run Try.prog W = .ok u' W' ∧ W'.ownsRow base 23 1 u' (m + n) (us ++ xs) ∧ W.grownBy W' u.ownBlock := by
  obtain ⟨i0, hi0, hz0, hz1, hz2⟩ := info_parts infoRw
  exact cat_run _ _ i0 (.slice none 0 0) 24 base C m n Try.underlying22 hi0 hz0 hz1 hz2 rfl (by decide) u v us xs hu hv h1 hn hbase
set_option maxRecDepth 100000 in
theorem cat_ints {W : World} (base C m n : Nat) (u v : Value) (us xs : List Value) (hu : W.ownsRow base 3 1 u m us) (hv : W.ownsRow C 3 1 v n xs) (h1 : ∀ x ∈ xs, x.oneCell' = true) (hn : m + n ≤ 1000000) (hbase : base ≤ W.heap.size) :
    ∃ u' W', (Builtin.append_ #[23, 23] 23 #[u, v]).run Try.prog W = .ok u' W' ∧ W'.ownsRow base 3 1 u' (m + n) (us ++ xs) ∧ W.grownBy W' u.ownBlock := by
  obtain ⟨i0, hi0, hz0, hz1, hz2⟩ := info_parts infoInt
  exact cat_run _ _ i0 (.int .i64 0) 8 base C m n Try.underlying23 hi0 hz0 hz1 hz2 rfl (by decide) u v us xs hu hv h1 hn hbase

/-- A row of integers in a block of integers. -/
def RowI (W : World) (x : Value) (zs : List Int) : Prop := Ints W x zs ∧ zs ≠ [] ∧ ∃ b o n c cs, x = .slice (some ⟨b, o, none⟩) n c ∧ W.heap[b]? = some (.cells cs 3 (0, 0))
theorem RowI.keep {W W' : World} {x : Value} {zs : List Int} (h : RowI W x zs) (hb : Below W.heap.size W W') : RowI W' x zs := by
  obtain ⟨h1, h0, b, o, n, c, cs, h2, h3⟩ := h
  exact ⟨h1.below hb, h0, b, o, n, c, cs, h2, (hb.block _ (row_lt h3)).trans h3⟩
theorem RowI.drew {W : World} {x : Value} {zs : List Int} (h : RowI W x zs) : RowI W.drew x zs := h.keep (Below.refl _ _).drew
theorem RowI.set {W : World} {x : Value} {zs : List Int} {S : Nat} {t : TypeId} {cs : Array Value} (h : RowI W x zs) (hS : W.heap[S]? = some (.cells cs t (0, 0))) (hne : t ≠ 3) (k : Nat) (u : Value) : RowI (W.setCell ⟨S, k, none⟩ u) x zs := by
  obtain ⟨h1, h0, b, o, n, c, cs2, h2, h3⟩ := h
  have hb : b ≠ S := fun e => by
    subst e
    rw [hS] at h3
    injection h3 with h3
    injection h3 with _ h4 _
    exact hne h4
  have hh : (W.setCell ⟨S, k, none⟩ u).heap[b]? = W.heap[b]? := Below.heap_setCell _ _ _ _ hb
  refine ⟨?_, h0, b, o, n, c, cs2, h2, hh.trans h3⟩
  obtain ⟨a, cap, e1, e2, e3, e4, e5⟩ := h1
  refine ⟨a, cap, e1, e2, e3, e4, fun q hq => ?_⟩
  obtain ⟨b', off, e6, e7⟩ := e5 q hq
  refine ⟨b', off, e6, ?_⟩
  rw [e1, e6] at h2
  simp only [Value.slice.injEq, Option.some.injEq, Addr.mk.injEq] at h2
  obtain ⟨⟨rfl, rfl, -⟩, -, -⟩ := h2
  rw [World.cell?_of_block (w := W) hh]; exact e7
theorem RowI.own {W : World} {base : Nat} {v : Value} {zs : List Int} (h : W.ownsRow base 3 1 v zs.length (zs.map (Value.int .i64))) (hne : zs ≠ []) (hr : ∀ z ∈ zs, R64 z) (hl : zs.length ≤ 1000000) : RowI W v zs := by
  refine ⟨Ints.own h hr (by omega), hne, ?_⟩
  rcases h.2 with ⟨rfl, h0⟩ | ⟨g, cap, cur, rfl, -, hg, -⟩
  · exact absurd (List.length_eq_zero_iff.1 h0) hne
  · exact ⟨g, 0, _, cap, cur, rfl, hg⟩

/-- What has been made: rows with their owners. -/
def StR (C : Nat) (R : List (List Int × Int)) (rv ov : Value) (W : World) : Prop :=
  ∃ xs, W.ownsRow C 23 1 rv R.length xs ∧ xs.length = R.length ∧ (∀ k (h1 : k < R.length) (h2 : k < xs.length), RowI W xs[k] R[k].1) ∧ W.ownsRow C 3 1 ov R.length (R.map fun r => .int .i64 r.2)
theorem StR.keep {C : Nat} {R : List (List Int × Int)} {rv ov : Value} {W W' : World} (h : StR C R rv ov W) (hb : Below W.heap.size W W') : StR C R rv ov W' := by
  obtain ⟨xs, h1, h2, h3, h4⟩ := h
  exact ⟨xs, own_keep h1 hb, h2, fun k a b => (h3 k a b).keep hb, own_keep h4 hb⟩
theorem StR.set {C : Nat} {R : List (List Int × Int)} {rv ov : Value} {W : World} {S : Nat} {t : TypeId} {cs : Array Value} (h : StR C R rv ov W) (hS : W.heap[S]? = some (.cells cs t (0, 0))) (h5 : t ≠ 3) (h6 : t ≠ 23) (k : Nat) (u : Value) : StR C R rv ov (W.setCell ⟨S, k, none⟩ u) := by
  obtain ⟨xs, h1, h2, h3, h4⟩ := h
  exact ⟨xs, own_set h1 hS h6 k u, h2, fun q a b => (h3 q a b).set hS h5 k u, own_set h4 hS h5 k u⟩
theorem StR.nil (C : Nat) (W : World) : StR C [] (.slice none 0 0) (.slice none 0 0) W := ⟨[], World.ownsRow_nil _ _ _ _, rfl, fun _ h => absurd h (Nat.not_lt_zero _), World.ownsRow_nil _ _ _ _⟩

def lenV : Value → Nat
  | .slice _ n _ => n
  | _ => 0

set_option maxRecDepth 100000 in
set_option maxHeartbeats 4000000 in
/-- A row with zeros behind it, in new memory. -/
theorem rlong_any (v : Value) (zs : List Int) (c : Nat) (w : World) (hI : Ints w v zs) (hne : zs ≠ []) (hz : zs.length ≤ 1000) (hc : c ≤ 1000) :
    Calls Try.prog 51 #[v, .int .i64 c] w fun e w' => ∃ u, e = .returned u ∧ w'.ownsRow w.heap.size 3 1 u (padTo c zs).length ((padTo c zs).map (Value.int .i64)) ∧ Below w.heap.size w w' := by
  obtain ⟨a, cap, rfl, -, -, -, hk⟩ := id hI
  obtain ⟨b0, o0, rfl, -⟩ := hk 0 (List.length_pos_iff.2 hne)
  have hb1 := below_new w #[] 3
  obtain ⟨W1, hW1⟩ : ∃ W1, W1 = w.alloc (.cells #[] 3) := ⟨_, rfl⟩
  have hown : W1.ownsRow w.heap.size 3 1 (.slice (some ⟨w.heap.size, 0, none⟩) 0 0) ([] : List Int).length (([] : List Int).map (Value.int .i64)) := by rw [hW1]; exact World.ownsRow_lit w #[] 0 (Nat.le_refl _) (by unfold maxLen; omega) rfl
  rw [← hW1] at hb1
  have HI := Lib.hid (hI.below hb1)
  have HW1 := Lib.hid hW1
  have HOW := Lib.hid hown
  have HB := Lib.hid hb1
  have HZ := Lib.hid hz
  have HC := Lib.hid hc
  have HN : Hid (NilOr (.slice (some ⟨b0, o0, none⟩) zs.length cap) zs) := Lib.hid (.inr ⟨_, _, rfl⟩)
  clear hI hk hb1 hW1 hown hne hz hc
  go_enter Try.func51, Try.ntmps51
  go_wp2_with (first
    | rw [← HW1.out]
    | (refine app_list rfl _ _ rfl rfl w.heap.size _ ([] : List Int) rfl HOW.out HB.out _ zs rfl HI.out HN.out (by have := HZ.out; simp; omega) HB.out.size ?_; intro v1 w1 h1 b1 s1; have H1 := Lib.hid h1; have B1 := Lib.hid b1; have S1 := Lib.hid s1; clear h1 b1 s1))
  rw [List.nil_append] at H1
  go_loopw [5] (fun L W => ∃ k : Nat, k ≤ c - zs.length ∧ W.ownsRow w.heap.size 3 1 L (zs ++ List.replicate k 0).length ((zs ++ List.replicate k 0).map (Value.int .i64)) ∧ Below w.heap.size w W ∧ w.heap.size ≤ W.heap.size) (fun L _ => c - lenV L)
  case atStart => exact ⟨0, Nat.zero_le _, by rw [List.replicate_zero, List.append_nil]; exact H1.out, B1.out, S1.out⟩
  case round =>
    obtain ⟨k, hkl, hown, hb, hs⟩ := hrel
    obtain ⟨va, vc, rfl⟩ := own_sl hown
    have HOW := Lib.hid hown
    have HBW := Lib.hid hb
    have HSW := Lib.hid hs
    obtain ⟨P, hP⟩ : ∃ P, P = zs ++ List.replicate k 0 := ⟨_, rfl⟩
    have hPl : P.length = zs.length + k := by rw [hP]; simp
    have hz := HZ.out
    have hc := HC.out
    have HP := Lib.hid hP
    rw [← hP] at HOW
    clear hown hb hs
    rw [← hP]
    by_cases hlt : P.length < c
    · have e1 : decide (P.length < c) = true := decide_eq_true hlt
      have e2 : decide ((P.length : Int) < (c : Int)) = true := decide_eq_true (by omega)
      have HPL : Hid (P.length ≤ 1000000) := Lib.hid (by omega)
      have HR : Hid (zs ++ List.replicate (k + 1) 0 = P ++ [0]) := Lib.hid (by rw [hP, List.replicate_succ', List.append_assoc])
      have hk1 : k + 1 ≤ c - zs.length := by omega
      have HPE := Lib.hid hPl
      clear hP hPl
      go_wp2_with (refine app_lit rfl _ _ rfl w.heap.size _ P rfl HOW.out HBW.out 1 0 rfl HPL.out HSW.out ?_; intro v9 w9 h9 b9 s9; obtain ⟨na, nc, en⟩ := own_sl h9; have H9 := Lib.hid h9; have B9 := Lib.hid b9; have S9 := Lib.hid s9; clear h9 b9 s9)
      subst en
      go_roundw
      case rel => exact ⟨k + 1, hk1, by rw [HR.out]; have h := H9.out; simp only [List.length_append, List.length_singleton] at h ⊢; exact h, B9.out, S9.out⟩
      case measure => have := HPE.out; simp [lenV]; omega
    · have e1 : decide (P.length < c) = false := decide_eq_false hlt
      have e2 : decide ((P.length : Int) < (c : Int)) = false := decide_eq_false (by omega)
      have HR : Hid (padTo c zs = P) := Lib.hid (by rw [hP]; unfold padTo; rw [show c - zs.length = k by omega])
      clear hP
      go_wp2_with fail
      go_ret
      exact ⟨_, rfl, by rw [HR.out]; exact HOW.out, HBW.out⟩

end Go.Proofs.Ytohebkpgjaaljaa

namespace Go.Proofs.Ytohebkpgjaaljaa
open Go.RowKit

theorem entry3 (W : World) (x0 x1 x2 p n s : Value) : ∃ W3, W3 = ((W.alloc (.cells #[x0, x1, x2] 79)).alloc (.cells #[p, n, s] 28)).alloc (.cells #[.slice none 0 0, .slice none 0 0, .int .i64 0] 79) ∧ Below W.heap.size W W3 ∧ W3.heap.size = W.heap.size + 1 + 1 + 1 ∧
    W3.heap[W.heap.size]? = some (.cells #[x0, x1, x2] 79 (0, 0)) ∧ W3.heap[W.heap.size + 1]? = some (.cells #[p, n, s] 28 (0, 0)) ∧ W3.heap[W.heap.size + 1 + 1]? = some (.cells #[.slice none 0 0, .slice none 0 0, .int .i64 0] 79 (0, 0)) := by
  obtain ⟨A, hA⟩ : ∃ A, A = W.alloc (.cells #[x0, x1, x2] 79) := ⟨_, rfl⟩
  obtain ⟨B, hB⟩ : ∃ B, B = A.alloc (.cells #[p, n, s] 28) := ⟨_, rfl⟩
  obtain ⟨D, hD⟩ : ∃ D, D = B.alloc (.cells #[.slice none 0 0, .slice none 0 0, .int .i64 0] 79) := ⟨_, rfl⟩
  have a1 : Below W.heap.size W A := hA ▸ below_new _ _ _
  have b1 : Below A.heap.size A B := hB ▸ below_new _ _ _
  have d1 : Below B.heap.size B D := hD ▸ below_new _ _ _
  have sa : A.heap.size = W.heap.size + 1 := by rw [hA]; simp
  have sb : B.heap.size = W.heap.size + 1 + 1 := by rw [hB]; simp [sa]
  have sd : D.heap.size = W.heap.size + 1 + 1 + 1 := by rw [hD]; simp [sb]
  have ra : A.heap[W.heap.size]? = some (.cells #[x0, x1, x2] 79 (0, 0)) := by rw [hA]; exact World.alloc_heap_new _ _
  have rb : B.heap[W.heap.size + 1]? = some (.cells #[p, n, s] 28 (0, 0)) := by rw [hB, ← sa]; exact World.alloc_heap_new _ _
  have rd : D.heap[W.heap.size + 1 + 1]? = some (.cells #[.slice none 0 0, .slice none 0 0, .int .i64 0] 79 (0, 0)) := by rw [hD, ← sb]; exact World.alloc_heap_new _ _
  refine ⟨D, by rw [hD, hB, hA], (a1.trans (b1.mono a1.size)).trans (d1.mono (Nat.le_trans a1.size b1.size)), sd, ?_, ?_, rd⟩
  · exact (d1.block _ (by omega)).trans ((b1.block _ (by omega)).trans ra)
  · exact (d1.block _ (by omega)).trans rb

theorem res_cell1 {fn : Func} {p : Tmp} {ty : TypeId} (h : fn.results = #[.cell p ty]) (tmps : Array Value) (P : Program) (w : World) :
    (results fn tmps).run P w = ((asAddr (tmps.getD p undef)).run P w).andThen fun a w₁ => (loadVar ty a).run P w₁ := by
  simp only [results, h]
  simp [Sem.run_bind, Result.andThen]
theorem res_cell1_of {fn : Func} {p : Tmp} {ty : TypeId} {tmps : Array Value} {P : Program} {w : World} {a : Addr} {v : Value} (h : fn.results = #[.cell p ty]) (hp : tmps.getD p undef = .pointer (some a)) (hld : (loadVar ty a).run P w = .ok v w) :
    (results fn tmps).run P w = .ok v w := by
  rw [res_cell1 h, hp]
  simp [asAddr, Result.andThen, hld]

set_option maxRecDepth 100000 in
theorem load_made {w : World} {b : Nat} {a1 a2 : Option Addr} {n1 n2 k1 k2 : Nat} {c : Int} (h : w.heap[b]? = some (.cells #[.slice a1 n1 k1, .slice a2 n2 k2, .int .i64 c] 79 (0, 0))) : (loadVar 79 ⟨b, 0, none⟩).run Try.prog w = .ok (.agg #[.slice a1 n1 k1, .slice a2 n2 k2, .int .i64 c]) w := by
  have c0 : w.cell? ⟨b, 0, none⟩ = some (.slice a1 n1 k1) := row_cell h rfl
  have c1 : w.cell? ⟨b, 1, none⟩ = some (.slice a2 n2 k2) := row_cell h rfl
  have c2 : w.cell? ⟨b, 2, none⟩ = some (.int .i64 c) := row_cell h rfl
  go_simp

set_option maxRecDepth 100000 in
/-- What was made is given back: it is laid into the result's variable. -/
theorem st_end {C : Nat} {R : List (List Int × Int)} {a1 a2 : Option Addr} {n1 n2 k1 k2 : Nat} {c : Int} {X : World} {B : Nat} {y0 y1 y2 : Value} (h : X.heap[B]? = some (.cells #[y0, y1, y2] 79 (0, 0))) (hs : StR C R (.slice a1 n1 k1) (.slice a2 n2 k2) X) :
    (loadVar 79 ⟨B, 0, none⟩).run Try.prog (((X.setCell ⟨B, 0, none⟩ (.slice a1 n1 k1)).setCell ⟨B, 1, none⟩ (.slice a2 n2 k2)).setCell ⟨B, 2, none⟩ (.int .i64 c)) = .ok (.agg #[.slice a1 n1 k1, .slice a2 n2 k2, .int .i64 c]) (((X.setCell ⟨B, 0, none⟩ (.slice a1 n1 k1)).setCell ⟨B, 1, none⟩ (.slice a2 n2 k2)).setCell ⟨B, 2, none⟩ (.int .i64 c)) ∧
    StR C R (.slice a1 n1 k1) (.slice a2 n2 k2) (((X.setCell ⟨B, 0, none⟩ (.slice a1 n1 k1)).setCell ⟨B, 1, none⟩ (.slice a2 n2 k2)).setCell ⟨B, 2, none⟩ (.int .i64 c)) ∧
    ∀ (base : Nat) (W : World), base ≤ B → Below base W X → Below base W (((X.setCell ⟨B, 0, none⟩ (.slice a1 n1 k1)).setCell ⟨B, 1, none⟩ (.slice a2 n2 k2)).setCell ⟨B, 2, none⟩ (.int .i64 c)) := by
  have h1 := row_set h 0 (.slice a1 n1 k1)
  have h2 := row_set h1 1 (.slice a2 n2 k2)
  have h3 := row_set h2 2 (.int .i64 c)
  exact ⟨load_made h3, ((hs.set h (by decide) (by decide) 0 _).set h1 (by decide) (by decide) 1 _).set h2 (by decide) (by decide) 2 _, fun base W hb hl => ((hl.setCell hb _).setCell hb _).setCell hb _⟩

def TPost (C : Nat) (R : List (List Int × Int)) (g : GT) (zs : List Int) (c : Nat) (W : World) (e : Ending) (w' : World) : Prop :=
  ∃ rv ov R', ∃ c' : Nat, e = .returned (.agg #[rv, ov, .int .i64 c']) ∧ StR C R' rv ov w' ∧ Below W.heap.size W w' ∧ R'.length ≤ 65 ∧ c' ≤ 5000 ∧ ((FitsM R g zs c ∧ R' = R ++ (genR g zs c).1 ∧ c' = (genR g zs c).2) ∨ (¬ FitsM R g zs c ∧ (64 < R'.length ∨ 64 < c')))

set_option maxRecDepth 100000 in
set_option maxHeartbeats 4000000 in
theorem rtreat_bad (C : Nat) (p n : Int) (l : List GT) (a : Option Addr) (cap : Nat) (R : List (List Int × Int)) (zs : List Int) (rv ov v : Value) (c : Nat) (W : World) (hbad : 64 < R.length ∨ 64 < c) (hR : R.length ≤ 65) (hc : c ≤ 5000) (hS : StR C R rv ov W) :
    Calls Try.prog 50 #[.agg #[rv, ov, .int .i64 c], .agg #[.int .i64 p, .int .i64 n, .slice a l.length cap], v] W (TPost C R (.mk p n l) zs c W) := by
  have hF : ¬ FitsM R (.mk p n l) zs c := fun h => by
    have h1 := gen_cols (.mk p n l) zs c
    have h2 := h.1
    have h3 := h.2
    omega
  obtain ⟨ra, rc, rfl⟩ : ∃ a c, rv = .slice a R.length c := by obtain ⟨xs, h, -⟩ := hS; exact own_sl h
  obtain ⟨oa, oc, rfl⟩ : ∃ a c, ov = .slice a R.length c := by obtain ⟨xs, -, -, -, h⟩ := hS; exact own_sl h
  obtain ⟨W3, hW3, hb, hs3, r0, r1, r2⟩ := entry3 W (.slice ra R.length rc) (.slice oa R.length oc) (.int .i64 c) (.int .i64 p) (.int .i64 n) (.slice a l.length cap)
  have c0 : W3.cell? ⟨W.heap.size, 0, none⟩ = some (.slice ra R.length rc) := row_cell r0 rfl
  have c1 : W3.cell? ⟨W.heap.size, 1, none⟩ = some (.slice oa R.length oc) := row_cell r0 rfl
  have c2 : W3.cell? ⟨W.heap.size, 2, none⟩ = some (.int .i64 c) := row_cell r0 rfl
  have x0 : W3.cell? ⟨W.heap.size + 1 + 1, 0, none⟩ = some (.slice none 0 0) := row_cell r2 rfl
  have x1 : W3.cell? ⟨W.heap.size + 1 + 1, 1, none⟩ = some (.slice none 0 0) := row_cell r2 rfl
  have x2 : W3.cell? ⟨W.heap.size + 1 + 1, 2, none⟩ = some (.int .i64 0) := row_cell r2 rfl
  have q0 := row_free r2 0
  have q1 := row_free r2 1
  have q2 := row_free r2 2
  have HEND := Lib.hid (st_end (c := c) r2 (hS.keep hb))
  have HB := Lib.hid hb
  have HW3 := Lib.hid hW3
  have HF := Lib.hid hF
  have HBD := Lib.hid hbad
  have HRC := Lib.hid (And.intro hR hc)
  clear hS hb hs3 r0 r1 r2 hW3 hF hbad hR hc
  by_cases h64 : 64 < c
  · have d0 : decide (64 < (c : Int)) = true := decide_eq_true (by omega)
    have d1 : decide (64 < c) = true := decide_eq_true h64
    go_enter Try.func50, Try.ntmps50
    go_wp2_with (rw [← HW3.out])
    try simp only [Exit.inBlock, Exit.then]
    refine bodyPost_ret (v := .agg #[.slice ra R.length rc, .slice oa R.length oc, .int .i64 c]) ?_ rfl ?_
    · exact res_cell1_of rfl rfl HEND.out.1
    exact ⟨_, _, R, c, rfl, HEND.out.2.1, HEND.out.2.2 _ _ (by omega) HB.out, HRC.out.1, HRC.out.2, .inr ⟨HF.out, HBD.out⟩⟩
  · have d0 : decide (64 < (c : Int)) = false := decide_eq_false (by omega)
    have d1 : decide (64 < c) = false := decide_eq_false h64
    have h65 : 64 < R.length := HBD.out.resolve_right h64
    have d2 : decide (64 < (R.length : Int)) = true := decide_eq_true (by omega)
    have d3 : decide (64 < R.length) = true := decide_eq_true h65
    clear h65
    go_enter Try.func50, Try.ntmps50
    go_wp2_with (rw [← HW3.out])
    try simp only [Exit.inBlock, Exit.then]
    refine bodyPost_ret (v := .agg #[.slice ra R.length rc, .slice oa R.length oc, .int .i64 c]) ?_ rfl ?_
    · exact res_cell1_of rfl rfl HEND.out.1
    exact ⟨_, _, R, c, rfl, HEND.out.2.1, HEND.out.2.2 _ _ (by omega) HB.out, HRC.out.1, HRC.out.2, .inr ⟨HF.out, HBD.out⟩⟩

set_option maxRecDepth 100000 in
theorem app_cat_rows {ops : Array Oper} {rest : List Oper} {o : Oper} {a : Act} {Q : Exit → Act → World → Prop} {W : World} (hgd : o.guard = none) (s x : Operand) (ho : o.op = .call { callee := .builtin .append, args := #[s, x], argTypes := #[22, 22] }) (hty : o.type = 22)
    (base C m n : Nat) (u v : Value) (us xs : List Value) (hs : a.eval s = u) (hx : a.eval x = v) (hu : W.ownsRow base 23 1 u m us) (hv : W.ownsRow C 23 1 v n xs) (h1 : ∀ x ∈ xs, x.oneCell' = true) (hn : m + n ≤ 1000000) (hbase : base ≤ W.heap.size)
    (h : ∀ u' W', W'.ownsRow base 23 1 u' (m + n) (us ++ xs) → Below base W W' → wpList Try.prog ops Q rest (a.put o.dst u') W') : wpList Try.prog ops Q (o :: rest) a W := by
  obtain ⟨u', W', hr, h2, h3⟩ := cat_rows base C m n u v us xs hu hv h1 hn hbase
  exact Lib.wpList_append_run _ hgd s x _ _ ho _ _ hs hx _ _ (by rw [hty]; exact hr) (h u' W' h2 (own_below hu h3 hbase))

set_option maxRecDepth 100000 in
set_option maxHeartbeats 16000000 in
theorem rtreat_leaf (C : Nat) (p n : Int) (l : List GT) (a : Option Addr) (cap : Nat) (R : List (List Int × Int)) (zs : List Int) (rv ov v : Value) (c : Nat) (W : World) (h0 : 0 ≤ p) (hR : R.length ≤ 64) (hc : c ≤ 64) (hS : StR C R rv ov W) (hv : RowI W v zs) (hC : C ≤ W.heap.size) :
    Calls Try.prog 50 #[.agg #[rv, ov, .int .i64 c], .agg #[.int .i64 p, .int .i64 n, .slice a l.length cap], v] W (TPost C R (.mk p n l) zs c W) := by
  have hG : genR (.mk p n l) zs c = ([(zs, p)], c) := by unfold genR; rw [if_pos h0]
  have hpost : (FitsM R (.mk p n l) zs c ∧ R ++ [(zs, p)] = R ++ (genR (.mk p n l) zs c).1 ∧ c = (genR (.mk p n l) zs c).2) ∨ (¬ FitsM R (.mk p n l) zs c ∧ (64 < (R ++ [(zs, p)]).length ∨ 64 < c)) := by
    unfold FitsM
    rw [hG]
    by_cases h : R.length + 1 ≤ 64
    · exact .inl ⟨⟨by simpa using h, hc⟩, rfl, rfl⟩
    · exact .inr ⟨fun h2 => h (by simpa using h2.1), .inl (by simp; omega)⟩
  obtain ⟨xs, hx1, hx2, hx3, hx4⟩ := hS
  obtain ⟨ra0, rc0, rfl⟩ := own_sl hx1
  obtain ⟨oa, oc, rfl⟩ := own_sl hx4
  obtain ⟨vb, vo, vn, vc0, vcs, rfl, -⟩ := id hv.2.2
  obtain ⟨W3, hW3, hb, hs3, r0, r1, r2⟩ := entry3 W (.slice ra0 R.length rc0) (.slice oa R.length oc) (.int .i64 c) (.int .i64 p) (.int .i64 n) (.slice a l.length cap)
  have c0 : W3.cell? ⟨W.heap.size, 0, none⟩ = some (.slice ra0 R.length rc0) := row_cell r0 rfl
  have c2 : W3.cell? ⟨W.heap.size, 2, none⟩ = some (.int .i64 c) := row_cell r0 rfl
  have g0 : W3.cell? ⟨W.heap.size + 1, 0, none⟩ = some (.int .i64 p) := row_cell r1 rfl
  have hone : ∀ x ∈ xs, x.oneCell' = true := fun x hx => by
    obtain ⟨k, hk, rfl⟩ := List.mem_iff_getElem.1 hx
    obtain ⟨-, -, b, o, n, c, cs, e, -⟩ := hx3 k (by omega) hk
    rw [e]; rfl
  have hbl := below_new W3 #[] 23
  have hl1 : (W3.alloc (.cells #[] 23)).ownsRow W3.heap.size 23 1 (.slice (some ⟨W3.heap.size, 0, none⟩) 0 0) 0 [] := World.ownsRow_lit W3 #[] 0 (Nat.le_refl _) (by unfold maxLen; omega) rfl
  have c0l := below_cell hbl c0
  have HL1 := Lib.hid hl1
  have HX1 := Lib.hid (own_keep (own_keep hx1 hb) hbl)
  have HX4 := Lib.hid (own_keep hx4 hb)
  have HX3 := Lib.hid (fun k a b => (hx3 k a b).keep hb)
  have HX2 := Lib.hid hx2
  have HV := Lib.hid (hv.keep hb)
  have HONE := Lib.hid hone
  have HBL := Lib.hid hbl
  have HB := Lib.hid hb
  have HR0 := Lib.hid r0
  have HR1 := Lib.hid r1
  have HR2 := Lib.hid r2
  have HS3 := Lib.hid hs3
  have HW3 := Lib.hid hW3
  have HPOST := Lib.hid hpost
  have HR6 := Lib.hid hR
  have HC6 := Lib.hid hc
  have HCC : Hid (c ≤ 5000) := Lib.hid (by omega)
  have HCW := Lib.hid hC
  have d0 : decide (64 < (c : Int)) = false := decide_eq_false (by omega)
  have d1 : decide (64 < c) = false := decide_eq_false (by omega)
  have d2 : decide (64 < (R.length : Int)) = false := decide_eq_false (by omega)
  have d3 : decide (64 < R.length) = false := decide_eq_false (by omega)
  have d4 : decide (p ≥ 0) = true := decide_eq_true h0
  clear hx1 hx2 hx3 hx4 hv hb hs3 r0 r1 r2 hone hbl hl1 hW3 hpost hR hc hC hG h0
  go_enter Try.func50, Try.ntmps50
  go_wp2_with (first
    | rw [← HW3.out]
    | (refine app_cat_rows rfl _ _ rfl rfl W3.heap.size C 0 R.length _ _ [] xs rfl rfl HL1.out HX1.out HONE.out (by have := HR6.out; omega) HBL.out.size ?_; intro u1 w1 h1 b1; rw [Nat.zero_add, List.nil_append] at h1; have H1 := Lib.hid h1; have B1 := Lib.hid (HBL.out.trans b1); have S1 := Lib.hid B1.out.size; clear h1 b1)
    | (refine app_cat_rows rfl _ _ rfl rfl W3.heap.size W3.heap.size R.length 1 _ _ xs [.slice (some ⟨vb, vo, none⟩) vn vc0] rfl rfl (own_keep H1.out (below_new _ _ _)) (World.ownsRow_lit w1 #[.slice (some ⟨vb, vo, none⟩) vn vc0] 1 S1.out (by unfold maxLen; omega) rfl) (by intro x hx; rw [List.mem_singleton.1 hx]; rfl) (by have := HR6.out; omega) (Nat.le_trans S1.out (below_new w1 _ _).size) ?_; intro u2 w2 h2 b2; obtain ⟨ra, rc, rfl⟩ := own_sl h2; have H2 := Lib.hid h2; have B2 := Lib.hid ((B1.out.trans ((below_new w1 _ _).mono S1.out)).trans b2); have K0 := Lib.hid ((B2.out.block _ (row_lt HR0.out)).trans HR0.out); have K1 := Lib.hid ((B2.out.block _ (row_lt HR1.out)).trans HR1.out); have K2 := Lib.hid ((B2.out.block _ (row_lt HR2.out)).trans HR2.out); have k0 : w2.cell? ⟨W.heap.size, 0, none⟩ = some (.slice ra0 R.length rc0) := row_cell K0.out rfl; have kf := row_free K0.out 0; clear h2 b2))
  obtain ⟨W5, hW5⟩ : ∃ X, X = w2.setCell ⟨W.heap.size, 0, none⟩ (.slice ra (R.length + 1) rc) := ⟨_, rfl⟩
  rw [← hW5]
  have rS5 : W5.heap[W.heap.size]? = some (.cells #[.slice ra (R.length + 1) rc, .slice oa R.length oc, .int .i64 c] 79 (0, 0)) := by rw [hW5]; exact row_set K0.out 0 _
  have r15 : W5.heap[W.heap.size + 1]? = some (.cells #[.int .i64 p, .int .i64 n, .slice a l.length cap] 28 (0, 0)) := by rw [hW5]; exact (Below.heap_setCell _ _ _ _ (by show W.heap.size + 1 ≠ W.heap.size; omega)).trans K1.out
  have r25 : W5.heap[W.heap.size + 1 + 1]? = some (.cells #[.slice none 0 0, .slice none 0 0, .int .i64 0] 79 (0, 0)) := by rw [hW5]; exact (Below.heap_setCell _ _ _ _ (by show W.heap.size + 1 + 1 ≠ W.heap.size; omega)).trans K2.out
  have hlow5 : Below W.heap.size W W5 := by rw [hW5]; exact (HB.out.trans (B2.out.mono HB.out.size)).setCell (Nat.le_refl _) _
  have hown5 : W5.ownsRow C 23 1 (.slice ra (R.length + 1) rc) (R.length + 1) (xs ++ [Value.slice (some ⟨vb, vo, none⟩) vn vc0]) := by
    rw [hW5]; exact own_set (own_low H2.out (by have := HS3.out; have := HCW.out; omega)) K0.out (by decide) 0 _
  have hov5 : W5.ownsRow C 3 1 (.slice oa R.length oc) R.length (R.map fun r => .int .i64 r.2) := by
    rw [hW5]; exact own_set (own_keep HX4.out B2.out) K0.out (by decide) 0 _
  have hrow5 : ∀ k (h1 : k < (R ++ [(zs, p)]).length) (h2 : k < (xs ++ [Value.slice (some ⟨vb, vo, none⟩) vn vc0]).length), RowI W5 (xs ++ [Value.slice (some ⟨vb, vo, none⟩) vn vc0])[k] (R ++ [(zs, p)])[k].1 := fun k h1 h2 => by
    rw [hW5]
    refine RowI.set ?_ K0.out (by decide) 0 _
    refine RowI.keep ?_ B2.out
    have e := HX2.out
    by_cases hk : k < R.length
    · rw [List.getElem_append_left (by omega), List.getElem_append_left hk]
      exact HX3.out k hk (by omega)
    · have hk2 : k = R.length := by rw [List.length_append] at h1; simp at h1; omega
      subst hk2
      rw [List.getElem_append_right (by omega), List.getElem_append_right (by omega)]
      simp only [e, Nat.sub_self, List.getElem_cons_zero]
      exact HV.out
  have e1 : W5.cell? ⟨W.heap.size, 1, none⟩ = some (.slice oa R.length oc) := row_cell rS5 rfl
  obtain ⟨X0, hX0⟩ : ∃ X, X = W5.drew := ⟨_, rfl⟩
  obtain ⟨B, hB⟩ : ∃ B, B = X0.heap.size := ⟨_, rfl⟩
  have hb0 : Below W5.heap.size W5 X0 := hX0 ▸ (Below.refl _ _).drew
  have hto : ∀ X, Below B X0 X → Below W5.heap.size W5 X := fun X hX => hb0.trans (hX.mono (by rw [hB]; exact hb0.size))
  have HRS : Hid (∀ X, Below B X0 X → X.heap[W.heap.size]? = some (.cells #[.slice ra (R.length + 1) rc, .slice oa R.length oc, .int .i64 c] 79 (0, 0)) ∧ X.heap[W.heap.size + 1 + 1]? = some (.cells #[.slice none 0 0, .slice none 0 0, .int .i64 0] 79 (0, 0))) := Lib.hid fun X hX => ⟨((hto X hX).block _ (row_lt rS5)).trans rS5, ((hto X hX).block _ (row_lt r25)).trans r25⟩
  have HSX : Hid (∀ X, Below B X0 X → X.cell? ⟨W.heap.size, 1, none⟩ = some (.slice oa R.length oc) ∧ X.cell? ⟨W.heap.size + 1, 0, none⟩ = some (.int .i64 p)) := Lib.hid fun X hX => ⟨row_cell (HRS.out X hX).1 rfl, row_cell (((hto X hX).block _ (row_lt r15)).trans r15) rfl⟩
  have HFX : Hid (∀ X, Below B X0 X → X.frozen? ⟨W.heap.size, 0, none⟩ = false ∧ X.frozen? ⟨W.heap.size, 1, none⟩ = false) := Lib.hid fun X hX => ⟨row_free (HRS.out X hX).1 0, row_free (HRS.out X hX).1 1⟩
  have HOV : Hid (∀ X, Below B X0 X → X.ownsRow C 3 1 (.slice oa R.length oc) R.length (R.map fun r => .int .i64 r.2)) := Lib.hid fun X hX => own_keep hov5 (hto X hX)
  have HST : Hid (∀ X va vc, Below B X0 X → X.ownsRow B 3 1 (.slice va (R.length + 1) vc) (R.length + 1) ((R.map fun r => .int .i64 r.2) ++ [.int .i64 p]) → StR C (R ++ [(zs, p)]) (.slice ra (R.length + 1) rc) (.slice va (R.length + 1) vc) (X.setCell ⟨W.heap.size, 1, none⟩ (.slice va (R.length + 1) vc))) := Lib.hid fun X va vc hX hU => by
    have hh := (HRS.out X hX).1
    refine ⟨_, ?_, ?_, fun k a b => ((hrow5 k a b).keep (hto X hX)).set hh (by decide) 1 _, ?_⟩
    · rw [List.length_append]; exact own_set (own_keep hown5 (hto X hX)) hh (by decide) 1 _
    · rw [List.length_append, List.length_append, HX2.out]; rfl
    · rw [List.length_append, List.map_append]
      exact own_set (own_low hU (by have := HCW.out; have := hlow5.size; have := hb0.size; omega)) hh (by decide) 1 _
  have HLW : Hid (∀ X, Below B X0 X → Below W.heap.size W X) := Lib.hid fun X hX => hlow5.trans ((hto X hX).mono hlow5.size)
  have HBX : Hid (Below B X0 X0) := Lib.hid (Below.refl _ _)
  have HBZ : Hid (B ≤ X0.heap.size) := Lib.hid (by rw [hB]; exact Nat.le_refl _)
  have hR64 := HR6.out
  have hS0 := HSX.out _ HBX.out
  clear rS5 r15 r25 hlow5 hown5 hov5 hrow5 hb0 hto hB hW5 e1 k0 kf
  refine wp_region_noPanic ?_
  refine wp_region_L (fun W' => W'.cell? ⟨W.heap.size, 1, none⟩ = some (.slice oa R.length oc) ∧ W'.cell? ⟨W.heap.size + 1, 0, none⟩ = some (.int .i64 p)) [11] (by kernel_rfl) ?_
  rw [← hX0]
  clear hX0
  refine takeL [2, 3, 4, 8, 9, 10, 11] (some 37) (.pointer (some ⟨W.heap.size, 0, none⟩)) (i := 1) rfl rfl (by kernel_rfl) (by kernel_rfl) (by kernel_rfl) (fun _ _ _ h => h) (by kernel_rfl) (by kernel_rfl) (by kernel_rfl) (by kernel_rfl) (by kernel_rfl) (fun w _ => by rfl) hS0 ?_
  simp only [Act.put, List.setIfInBounds_toArray, List.set_cons_zero, List.set_cons_succ]
  refine takeL [3, 4, 8, 9, 10, 11] (some 38) (.pointer (some ⟨W.heap.size, 1, none⟩)) (i := 2) rfl rfl (by kernel_rfl) (by kernel_rfl) (by kernel_rfl) (fun _ _ _ h => h) (by kernel_rfl) (by kernel_rfl) (by kernel_rfl) (by kernel_rfl) (by kernel_rfl) (fun w _ => by rfl) hS0 ?_
  simp only [Act.put, List.setIfInBounds_toArray, List.set_cons_zero, List.set_cons_succ]
  refine takeL [4, 8, 9, 10, 11] (some 39) (.slice oa R.length oc) (i := 3) rfl rfl (by kernel_rfl) (by kernel_rfl) (by kernel_rfl) (fun _ _ _ h => h) (by kernel_rfl) (by kernel_rfl) (by kernel_rfl) (by kernel_rfl) (by kernel_rfl) (fun w hSw => by obtain ⟨hS1, hS2⟩ := hSw; go_simp) hS0 ?_
  simp only [Act.put, List.setIfInBounds_toArray, List.set_cons_zero, List.set_cons_succ]
  refine takeL [6, 7, 8, 9, 10, 11] (some 41) (.pointer (some ⟨W.heap.size + 1, 0, none⟩)) (i := 5) rfl rfl (by kernel_rfl) (by kernel_rfl) (by kernel_rfl) (fun _ _ _ h => h) (by kernel_rfl) (by kernel_rfl) (by kernel_rfl) (by kernel_rfl) (by kernel_rfl) (fun w _ => by rfl) hS0 ?_
  simp only [Act.put, List.setIfInBounds_toArray, List.set_cons_zero, List.set_cons_succ]
  refine takeL [7, 8, 9, 10, 11] (some 42) (.int .i64 p) (i := 6) rfl rfl (by kernel_rfl) (by kernel_rfl) (by kernel_rfl) (fun _ _ _ h => h) (by kernel_rfl) (by kernel_rfl) (by kernel_rfl) (by kernel_rfl) (by kernel_rfl) (fun w hSw => by obtain ⟨hS1, hS2⟩ := hSw; go_simp) hS0 ?_
  simp only [Act.put, List.setIfInBounds_toArray, List.set_cons_zero, List.set_cons_succ]
  refine wpAnyL_ready (rs := [0, 7]) (by kernel_rfl) (by simp) ?_
  refine AllReadyL.cons rfl rfl (fun K hK => ?_) (AllReadyL.cons rfl rfl (fun K hK => ?_) AllReadyL.nil)
  · skip
    rw [if_pos (by rfl)]
    go_simp
    obtain ⟨X1, hX1⟩ : ∃ X, X = X0.alloc (.cells #[] 3) := ⟨_, rfl⟩
    rw [← hX1]
    have hbX1 : Below X0.heap.size X0 X1 := hX1 ▸ below_new _ _ _
    have HU : Hid (X1.ownsRow B 3 1 (.slice (some ⟨X0.heap.size, 0, none⟩) 0 0) 0 []) := Lib.hid (by rw [hX1]; exact World.ownsRow_lit X0 #[] 0 HBZ.out (by unfold maxLen; omega) rfl)
    have HSX1 : Hid (X1.heap.size = X0.heap.size + 1) := Lib.hid (by rw [hX1]; simp)
    replace HBX := Lib.hid (HBX.out.trans (hbX1.mono HBZ.out))
    replace HBZ : Hid (B ≤ X1.heap.size) := Lib.hid (Nat.le_trans HBZ.out hbX1.size)
    refine hK.out _ _ (HSX.out _ HBX.out) ?_
    clear hK K hX1 hbX1
    try simp only [Act.put, List.setIfInBounds_toArray, List.set_cons_zero, List.set_cons_succ]
    refine wpAnyL_ready (rs := [4, 7]) (by kernel_rfl) (by simp) ?_
    refine AllReadyL.cons rfl rfl (fun K hK => ?_) (AllReadyL.cons rfl rfl (fun K hK => ?_) AllReadyL.nil)
    · skip
      obtain ⟨u1, X2, hrun, h9, g9⟩ := cat_ints B C 0 R.length _ _ _ _ HU.out (HOV.out _ HBX.out) (by intro x hx; obtain ⟨r, -, rfl⟩ := List.mem_map.1 hx; rfl) (by omega) HBZ.out
      try simp only [Nat.zero_add, List.nil_append] at h9
      have hb9 := own_below HU.out g9 HBZ.out
      refine step_append_run (by rfl) _ _ _ _ (by rfl) _ _ (by rfl) (by rfl) u1 X2 hrun ?_
      replace HU := Lib.hid h9
      replace HBX := Lib.hid (HBX.out.trans hb9)
      replace HBZ : Hid (B ≤ X2.heap.size) := Lib.hid (Nat.le_trans HBZ.out hb9.size)
      refine hK.out _ _ (HSX.out _ HBX.out) ?_
      clear hK K h9 g9 hb9 hrun
      try simp only [Act.put, List.setIfInBounds_toArray]
      refine wpAnyL_ready (rs := [7]) (by kernel_rfl) (by simp) ?_
      refine AllReadyL.cons rfl rfl (fun K hK => ?_) AllReadyL.nil
      rw [if_pos (by rfl)]
      go_simp
      obtain ⟨X3, hX3⟩ : ∃ X, X = X2.alloc (.cells #[.int .i64 p] 3) := ⟨_, rfl⟩
      rw [← hX3]
      have hbX3 : Below X2.heap.size X2 X3 := hX3 ▸ below_new _ _ _
      have HQ : Hid (X3.ownsRow B 3 1 (.slice (some ⟨X2.heap.size, 0, none⟩) 1 1) 1 [.int .i64 p]) := Lib.hid (by rw [hX3]; exact World.ownsRow_lit X2 #[.int .i64 p] 1 HBZ.out (by unfold maxLen; omega) rfl)
      replace HU := Lib.hid (own_keep HU.out hbX3)
      have HSX3 : Hid (X3.heap.size = X2.heap.size + 1) := Lib.hid (by rw [hX3]; simp)
      replace HBX := Lib.hid (HBX.out.trans (hbX3.mono HBZ.out))
      replace HBZ : Hid (B ≤ X3.heap.size) := Lib.hid (Nat.le_trans HBZ.out hbX3.size)
      refine hK.out _ _ (HSX.out _ HBX.out) ?_
      clear hK K hX3 hbX3
      try simp only [Act.put, List.setIfInBounds_toArray, List.set_cons_zero, List.set_cons_succ]
      refine wpAnyL_ready (rs := [8]) (by kernel_rfl) (by simp) ?_
      refine AllReadyL.cons rfl rfl (fun K hK => ?_) AllReadyL.nil
      obtain ⟨u2, X4, hrun, h9, g9⟩ := cat_ints B B R.length 1 _ _ _ _ HU.out HQ.out (by intro x hx; rw [List.mem_singleton.1 hx]; rfl) (by omega) HBZ.out
      try simp only [Nat.zero_add, List.nil_append] at h9
      have hb9 := own_below HU.out g9 HBZ.out
      refine step_append_run (by rfl) _ _ _ _ (by rfl) _ _ (by rfl) (by rfl) u2 X4 hrun ?_
      replace HU := Lib.hid h9
      replace HBX := Lib.hid (HBX.out.trans hb9)
      replace HBZ : Hid (B ≤ X4.heap.size) := Lib.hid (Nat.le_trans HBZ.out hb9.size)
      refine hK.out _ _ (HSX.out _ HBX.out) ?_
      clear hK K h9 g9 hb9 hrun
      try simp only [Act.put, List.setIfInBounds_toArray]
      have hS0 := HSX.out _ HBX.out
      refine takeL [10, 11] (some 45) (.pointer (some ⟨W.heap.size, 0, none⟩)) (i := 9) rfl rfl (by kernel_rfl) (by kernel_rfl) (by kernel_rfl) (fun _ _ _ h => h) (by kernel_rfl) (by kernel_rfl) (by kernel_rfl) (by kernel_rfl) (by kernel_rfl) (fun w _ => by rfl) hS0 ?_
      simp only [Act.put]
      refine takeL [11] (some 46) (.pointer (some ⟨W.heap.size, 1, none⟩)) (i := 10) rfl rfl (by kernel_rfl) (by kernel_rfl) (by kernel_rfl) (fun _ _ _ h => h) (by kernel_rfl) (by kernel_rfl) (by kernel_rfl) (by kernel_rfl) (by kernel_rfl) (fun w _ => by rfl) hS0 ?_
      simp only [Act.put]
      refine wpAnyL_ready (rs := [11]) (by kernel_rfl) (by simp) ?_
      refine AllReadyL.late rfl rfl (fun K hK => ?_) AllReadyL.nil
      obtain ⟨va, vc, ve⟩ := own_sl HU.out
      subst ve
      obtain ⟨f0, f1⟩ := HFX.out _ HBX.out
      obtain ⟨y0, y1⟩ := HSX.out _ HBX.out
      rw [if_pos (by rfl)]
      go_simp
      refine hK.out _ _ ?_
      clear hK K
      try simp only [Act.put, List.setIfInBounds_toArray, List.set_cons_zero, List.set_cons_succ]
      refine wpAnyL_done (by kernel_rfl) ?_ _
      refine NoPanic.normal ?_
      obtain ⟨X5, hX5⟩ : ∃ X, X = X4.setCell ⟨W.heap.size, 1, none⟩ (.slice va (R.length + 1) vc) := ⟨_, rfl⟩
      try rw [← hX5]
      have rS : X5.heap[W.heap.size]? = some (.cells #[.slice ra (R.length + 1) rc, .slice va (R.length + 1) vc, .int .i64 c] 79 (0, 0)) := by rw [hX5]; exact row_set (HRS.out _ HBX.out).1 1 _
      have r6 : X5.heap[W.heap.size + 1 + 1]? = some (.cells #[.slice none 0 0, .slice none 0 0, .int .i64 0] 79 (0, 0)) := by rw [hX5]; exact (Below.heap_setCell _ _ _ _ (by show W.heap.size + 1 + 1 ≠ W.heap.size; omega)).trans (HRS.out _ HBX.out).2
      have hst : StR C (R ++ [(zs, p)]) (.slice ra (R.length + 1) rc) (.slice va (R.length + 1) vc) X5 := by rw [hX5]; exact HST.out _ _ _ HBX.out HU.out
      have hlow : Below W.heap.size W X5 := by rw [hX5]; exact (HLW.out _ HBX.out).setCell (Nat.le_refl _) _
      have e0 : X5.cell? ⟨W.heap.size, 0, none⟩ = some (.slice ra (R.length + 1) rc) := row_cell rS rfl
      have e1 : X5.cell? ⟨W.heap.size, 1, none⟩ = some (.slice va (R.length + 1) vc) := row_cell rS rfl
      have e2 : X5.cell? ⟨W.heap.size, 2, none⟩ = some (.int .i64 c) := row_cell rS rfl
      have x0 : X5.cell? ⟨W.heap.size + 1 + 1, 0, none⟩ = some (.slice none 0 0) := row_cell r6 rfl
      have x1 : X5.cell? ⟨W.heap.size + 1 + 1, 1, none⟩ = some (.slice none 0 0) := row_cell r6 rfl
      have x2 : X5.cell? ⟨W.heap.size + 1 + 1, 2, none⟩ = some (.int .i64 0) := row_cell r6 rfl
      have q0 := row_free r6 0
      have q1 := row_free r6 1
      have q2 := row_free r6 2
      have HEND := Lib.hid (st_end (c := c) r6 hst)
      have HLOW := Lib.hid hlow
      clear hX5 rS r6 hst hlow y0 y1 f0 f1
      go_wp2_with fail
      try simp only [Exit.inBlock, Exit.then]
      refine bodyPost_ret (v := .agg #[.slice ra (R.length + 1) rc, .slice va (R.length + 1) vc, .int .i64 c]) ?_ rfl ?_
      · exact res_cell1_of rfl rfl HEND.out.1
      exact ⟨_, _, _, _, rfl, HEND.out.2.1, HEND.out.2.2 _ _ (by omega) HLOW.out, by rw [List.length_append]; have := HR6.out; simp; omega, HCC.out, HPOST.out⟩
    · skip
      rw [if_pos (by rfl)]
      go_simp
      obtain ⟨X2, hX2⟩ : ∃ X, X = X1.alloc (.cells #[.int .i64 p] 3) := ⟨_, rfl⟩
      rw [← hX2]
      have hbX2 : Below X1.heap.size X1 X2 := hX2 ▸ below_new _ _ _
      have HQ : Hid (X2.ownsRow B 3 1 (.slice (some ⟨X1.heap.size, 0, none⟩) 1 1) 1 [.int .i64 p]) := Lib.hid (by rw [hX2]; exact World.ownsRow_lit X1 #[.int .i64 p] 1 HBZ.out (by unfold maxLen; omega) rfl)
      replace HU := Lib.hid (own_keep HU.out hbX2)
      have HSX2 : Hid (X2.heap.size = X1.heap.size + 1) := Lib.hid (by rw [hX2]; simp)
      replace HBX := Lib.hid (HBX.out.trans (hbX2.mono HBZ.out))
      replace HBZ : Hid (B ≤ X2.heap.size) := Lib.hid (Nat.le_trans HBZ.out hbX2.size)
      refine hK.out _ _ (HSX.out _ HBX.out) ?_
      clear hK K hX2 hbX2
      try simp only [Act.put, List.setIfInBounds_toArray, List.set_cons_zero, List.set_cons_succ]
      refine wpAnyL_ready (rs := [4]) (by kernel_rfl) (by simp) ?_
      refine AllReadyL.cons rfl rfl (fun K hK => ?_) AllReadyL.nil
      obtain ⟨u1, X3, hrun, h9, g9⟩ := cat_ints B C 0 R.length _ _ _ _ HU.out (HOV.out _ HBX.out) (by intro x hx; obtain ⟨r, -, rfl⟩ := List.mem_map.1 hx; rfl) (by omega) HBZ.out
      try simp only [Nat.zero_add, List.nil_append] at h9
      have hb9 := own_below HU.out g9 HBZ.out
      have hne9 : X1.heap.size ≠ X0.heap.size := by have := HSX1.out; omega
      replace HQ := Lib.hid (own_apart HQ.out g9 (fun g e1 e2 => hne9 (by injection e1 with e1; injection e2 with e2; exact e1.trans e2.symm)))
      clear hne9
      refine step_append_run (by rfl) _ _ _ _ (by rfl) _ _ (by rfl) (by rfl) u1 X3 hrun ?_
      replace HU := Lib.hid h9
      replace HBX := Lib.hid (HBX.out.trans hb9)
      replace HBZ : Hid (B ≤ X3.heap.size) := Lib.hid (Nat.le_trans HBZ.out hb9.size)
      refine hK.out _ _ (HSX.out _ HBX.out) ?_
      clear hK K h9 g9 hb9 hrun
      try simp only [Act.put, List.setIfInBounds_toArray]
      refine wpAnyL_ready (rs := [8]) (by kernel_rfl) (by simp) ?_
      refine AllReadyL.cons rfl rfl (fun K hK => ?_) AllReadyL.nil
      obtain ⟨u2, X4, hrun, h9, g9⟩ := cat_ints B B R.length 1 _ _ _ _ HU.out HQ.out (by intro x hx; rw [List.mem_singleton.1 hx]; rfl) (by omega) HBZ.out
      try simp only [Nat.zero_add, List.nil_append] at h9
      have hb9 := own_below HU.out g9 HBZ.out
      refine step_append_run (by rfl) _ _ _ _ (by rfl) _ _ (by rfl) (by rfl) u2 X4 hrun ?_
      replace HU := Lib.hid h9
      replace HBX := Lib.hid (HBX.out.trans hb9)
      replace HBZ : Hid (B ≤ X4.heap.size) := Lib.hid (Nat.le_trans HBZ.out hb9.size)
      refine hK.out _ _ (HSX.out _ HBX.out) ?_
      clear hK K h9 g9 hb9 hrun
      simp only [Act.put]
      have hS0 := HSX.out _ HBX.out
      refine takeL [10, 11] (some 45) (.pointer (some ⟨W.heap.size, 0, none⟩)) (i := 9) rfl rfl (by kernel_rfl) (by kernel_rfl) (by kernel_rfl) (fun _ _ _ h => h) (by kernel_rfl) (by kernel_rfl) (by kernel_rfl) (by kernel_rfl) (by kernel_rfl) (fun w _ => by rfl) hS0 ?_
      simp only [Act.put]
      refine takeL [11] (some 46) (.pointer (some ⟨W.heap.size, 1, none⟩)) (i := 10) rfl rfl (by kernel_rfl) (by kernel_rfl) (by kernel_rfl) (fun _ _ _ h => h) (by kernel_rfl) (by kernel_rfl) (by kernel_rfl) (by kernel_rfl) (by kernel_rfl) (fun w _ => by rfl) hS0 ?_
      simp only [Act.put]
      refine wpAnyL_ready (rs := [11]) (by kernel_rfl) (by simp) ?_
      refine AllReadyL.late rfl rfl (fun K hK => ?_) AllReadyL.nil
      obtain ⟨va, vc, ve⟩ := own_sl HU.out
      subst ve
      obtain ⟨f0, f1⟩ := HFX.out _ HBX.out
      obtain ⟨y0, y1⟩ := HSX.out _ HBX.out
      rw [if_pos (by rfl)]
      go_simp
      refine hK.out _ _ ?_
      clear hK K
      try simp only [Act.put, List.setIfInBounds_toArray, List.set_cons_zero, List.set_cons_succ]
      refine wpAnyL_done (by kernel_rfl) ?_ _
      refine NoPanic.normal ?_
      obtain ⟨X5, hX5⟩ : ∃ X, X = X4.setCell ⟨W.heap.size, 1, none⟩ (.slice va (R.length + 1) vc) := ⟨_, rfl⟩
      try rw [← hX5]
      have rS : X5.heap[W.heap.size]? = some (.cells #[.slice ra (R.length + 1) rc, .slice va (R.length + 1) vc, .int .i64 c] 79 (0, 0)) := by rw [hX5]; exact row_set (HRS.out _ HBX.out).1 1 _
      have r6 : X5.heap[W.heap.size + 1 + 1]? = some (.cells #[.slice none 0 0, .slice none 0 0, .int .i64 0] 79 (0, 0)) := by rw [hX5]; exact (Below.heap_setCell _ _ _ _ (by show W.heap.size + 1 + 1 ≠ W.heap.size; omega)).trans (HRS.out _ HBX.out).2
      have hst : StR C (R ++ [(zs, p)]) (.slice ra (R.length + 1) rc) (.slice va (R.length + 1) vc) X5 := by rw [hX5]; exact HST.out _ _ _ HBX.out HU.out
      have hlow : Below W.heap.size W X5 := by rw [hX5]; exact (HLW.out _ HBX.out).setCell (Nat.le_refl _) _
      have e0 : X5.cell? ⟨W.heap.size, 0, none⟩ = some (.slice ra (R.length + 1) rc) := row_cell rS rfl
      have e1 : X5.cell? ⟨W.heap.size, 1, none⟩ = some (.slice va (R.length + 1) vc) := row_cell rS rfl
      have e2 : X5.cell? ⟨W.heap.size, 2, none⟩ = some (.int .i64 c) := row_cell rS rfl
      have x0 : X5.cell? ⟨W.heap.size + 1 + 1, 0, none⟩ = some (.slice none 0 0) := row_cell r6 rfl
      have x1 : X5.cell? ⟨W.heap.size + 1 + 1, 1, none⟩ = some (.slice none 0 0) := row_cell r6 rfl
      have x2 : X5.cell? ⟨W.heap.size + 1 + 1, 2, none⟩ = some (.int .i64 0) := row_cell r6 rfl
      have q0 := row_free r6 0
      have q1 := row_free r6 1
      have q2 := row_free r6 2
      have HEND := Lib.hid (st_end (c := c) r6 hst)
      have HLOW := Lib.hid hlow
      clear hX5 rS r6 hst hlow y0 y1 f0 f1
      go_wp2_with fail
      try simp only [Exit.inBlock, Exit.then]
      refine bodyPost_ret (v := .agg #[.slice ra (R.length + 1) rc, .slice va (R.length + 1) vc, .int .i64 c]) ?_ rfl ?_
      · exact res_cell1_of rfl rfl HEND.out.1
      exact ⟨_, _, _, _, rfl, HEND.out.2.1, HEND.out.2.2 _ _ (by omega) HLOW.out, by rw [List.length_append]; have := HR6.out; simp; omega, HCC.out, HPOST.out⟩
  · skip
    rw [if_pos (by rfl)]
    go_simp
    obtain ⟨X1, hX1⟩ : ∃ X, X = X0.alloc (.cells #[.int .i64 p] 3) := ⟨_, rfl⟩
    rw [← hX1]
    have hbX1 : Below X0.heap.size X0 X1 := hX1 ▸ below_new _ _ _
    have HQ : Hid (X1.ownsRow B 3 1 (.slice (some ⟨X0.heap.size, 0, none⟩) 1 1) 1 [.int .i64 p]) := Lib.hid (by rw [hX1]; exact World.ownsRow_lit X0 #[.int .i64 p] 1 HBZ.out (by unfold maxLen; omega) rfl)
    have HSX1 : Hid (X1.heap.size = X0.heap.size + 1) := Lib.hid (by rw [hX1]; simp)
    replace HBX := Lib.hid (HBX.out.trans (hbX1.mono HBZ.out))
    replace HBZ : Hid (B ≤ X1.heap.size) := Lib.hid (Nat.le_trans HBZ.out hbX1.size)
    refine hK.out _ _ (HSX.out _ HBX.out) ?_
    clear hK K hX1 hbX1
    try simp only [Act.put, List.setIfInBounds_toArray, List.set_cons_zero, List.set_cons_succ]
    refine wpAnyL_ready (rs := [0]) (by kernel_rfl) (by simp) ?_
    refine AllReadyL.cons rfl rfl (fun K hK => ?_) AllReadyL.nil
    rw [if_pos (by rfl)]
    go_simp
    obtain ⟨X2, hX2⟩ : ∃ X, X = X1.alloc (.cells #[] 3) := ⟨_, rfl⟩
    rw [← hX2]
    have hbX2 : Below X1.heap.size X1 X2 := hX2 ▸ below_new _ _ _
    have HU : Hid (X2.ownsRow B 3 1 (.slice (some ⟨X1.heap.size, 0, none⟩) 0 0) 0 []) := Lib.hid (by rw [hX2]; exact World.ownsRow_lit X1 #[] 0 HBZ.out (by unfold maxLen; omega) rfl)
    replace HQ := Lib.hid (own_keep HQ.out hbX2)
    have HSX2 : Hid (X2.heap.size = X1.heap.size + 1) := Lib.hid (by rw [hX2]; simp)
    replace HBX := Lib.hid (HBX.out.trans (hbX2.mono HBZ.out))
    replace HBZ : Hid (B ≤ X2.heap.size) := Lib.hid (Nat.le_trans HBZ.out hbX2.size)
    refine hK.out _ _ (HSX.out _ HBX.out) ?_
    clear hK K hX2 hbX2
    try simp only [Act.put, List.setIfInBounds_toArray, List.set_cons_zero, List.set_cons_succ]
    refine wpAnyL_ready (rs := [4]) (by kernel_rfl) (by simp) ?_
    refine AllReadyL.cons rfl rfl (fun K hK => ?_) AllReadyL.nil
    obtain ⟨u1, X3, hrun, h9, g9⟩ := cat_ints B C 0 R.length _ _ _ _ HU.out (HOV.out _ HBX.out) (by intro x hx; obtain ⟨r, -, rfl⟩ := List.mem_map.1 hx; rfl) (by omega) HBZ.out
    try simp only [Nat.zero_add, List.nil_append] at h9
    have hb9 := own_below HU.out g9 HBZ.out
    have hne9 : X0.heap.size ≠ X1.heap.size := by have := HSX1.out; omega
    replace HQ := Lib.hid (own_apart HQ.out g9 (fun g e1 e2 => hne9 (by injection e1 with e1; injection e2 with e2; exact e1.trans e2.symm)))
    clear hne9
    refine step_append_run (by rfl) _ _ _ _ (by rfl) _ _ (by rfl) (by rfl) u1 X3 hrun ?_
    replace HU := Lib.hid h9
    replace HBX := Lib.hid (HBX.out.trans hb9)
    replace HBZ : Hid (B ≤ X3.heap.size) := Lib.hid (Nat.le_trans HBZ.out hb9.size)
    refine hK.out _ _ (HSX.out _ HBX.out) ?_
    clear hK K h9 g9 hb9 hrun
    try simp only [Act.put, List.setIfInBounds_toArray]
    refine wpAnyL_ready (rs := [8]) (by kernel_rfl) (by simp) ?_
    refine AllReadyL.cons rfl rfl (fun K hK => ?_) AllReadyL.nil
    obtain ⟨u2, X4, hrun, h9, g9⟩ := cat_ints B B R.length 1 _ _ _ _ HU.out HQ.out (by intro x hx; rw [List.mem_singleton.1 hx]; rfl) (by omega) HBZ.out
    try simp only [Nat.zero_add, List.nil_append] at h9
    have hb9 := own_below HU.out g9 HBZ.out
    refine step_append_run (by rfl) _ _ _ _ (by rfl) _ _ (by rfl) (by rfl) u2 X4 hrun ?_
    replace HU := Lib.hid h9
    replace HBX := Lib.hid (HBX.out.trans hb9)
    replace HBZ : Hid (B ≤ X4.heap.size) := Lib.hid (Nat.le_trans HBZ.out hb9.size)
    refine hK.out _ _ (HSX.out _ HBX.out) ?_
    clear hK K h9 g9 hb9 hrun
    simp only [Act.put]
    have hS0 := HSX.out _ HBX.out
    refine takeL [10, 11] (some 45) (.pointer (some ⟨W.heap.size, 0, none⟩)) (i := 9) rfl rfl (by kernel_rfl) (by kernel_rfl) (by kernel_rfl) (fun _ _ _ h => h) (by kernel_rfl) (by kernel_rfl) (by kernel_rfl) (by kernel_rfl) (by kernel_rfl) (fun w _ => by rfl) hS0 ?_
    simp only [Act.put]
    refine takeL [11] (some 46) (.pointer (some ⟨W.heap.size, 1, none⟩)) (i := 10) rfl rfl (by kernel_rfl) (by kernel_rfl) (by kernel_rfl) (fun _ _ _ h => h) (by kernel_rfl) (by kernel_rfl) (by kernel_rfl) (by kernel_rfl) (by kernel_rfl) (fun w _ => by rfl) hS0 ?_
    simp only [Act.put]
    refine wpAnyL_ready (rs := [11]) (by kernel_rfl) (by simp) ?_
    refine AllReadyL.late rfl rfl (fun K hK => ?_) AllReadyL.nil
    obtain ⟨va, vc, ve⟩ := own_sl HU.out
    subst ve
    obtain ⟨f0, f1⟩ := HFX.out _ HBX.out
    obtain ⟨y0, y1⟩ := HSX.out _ HBX.out
    rw [if_pos (by rfl)]
    go_simp
    refine hK.out _ _ ?_
    clear hK K
    try simp only [Act.put, List.setIfInBounds_toArray, List.set_cons_zero, List.set_cons_succ]
    refine wpAnyL_done (by kernel_rfl) ?_ _
    refine NoPanic.normal ?_
    obtain ⟨X5, hX5⟩ : ∃ X, X = X4.setCell ⟨W.heap.size, 1, none⟩ (.slice va (R.length + 1) vc) := ⟨_, rfl⟩
    try rw [← hX5]
    have rS : X5.heap[W.heap.size]? = some (.cells #[.slice ra (R.length + 1) rc, .slice va (R.length + 1) vc, .int .i64 c] 79 (0, 0)) := by rw [hX5]; exact row_set (HRS.out _ HBX.out).1 1 _
    have r6 : X5.heap[W.heap.size + 1 + 1]? = some (.cells #[.slice none 0 0, .slice none 0 0, .int .i64 0] 79 (0, 0)) := by rw [hX5]; exact (Below.heap_setCell _ _ _ _ (by show W.heap.size + 1 + 1 ≠ W.heap.size; omega)).trans (HRS.out _ HBX.out).2
    have hst : StR C (R ++ [(zs, p)]) (.slice ra (R.length + 1) rc) (.slice va (R.length + 1) vc) X5 := by rw [hX5]; exact HST.out _ _ _ HBX.out HU.out
    have hlow : Below W.heap.size W X5 := by rw [hX5]; exact (HLW.out _ HBX.out).setCell (Nat.le_refl _) _
    have e0 : X5.cell? ⟨W.heap.size, 0, none⟩ = some (.slice ra (R.length + 1) rc) := row_cell rS rfl
    have e1 : X5.cell? ⟨W.heap.size, 1, none⟩ = some (.slice va (R.length + 1) vc) := row_cell rS rfl
    have e2 : X5.cell? ⟨W.heap.size, 2, none⟩ = some (.int .i64 c) := row_cell rS rfl
    have x0 : X5.cell? ⟨W.heap.size + 1 + 1, 0, none⟩ = some (.slice none 0 0) := row_cell r6 rfl
    have x1 : X5.cell? ⟨W.heap.size + 1 + 1, 1, none⟩ = some (.slice none 0 0) := row_cell r6 rfl
    have x2 : X5.cell? ⟨W.heap.size + 1 + 1, 2, none⟩ = some (.int .i64 0) := row_cell r6 rfl
    have q0 := row_free r6 0
    have q1 := row_free r6 1
    have q2 := row_free r6 2
    have HEND := Lib.hid (st_end (c := c) r6 hst)
    have HLOW := Lib.hid hlow
    clear hX5 rS r6 hst hlow y0 y1 f0 f1
    go_wp2_with fail
    try simp only [Exit.inBlock, Exit.then]
    refine bodyPost_ret (v := .agg #[.slice ra (R.length + 1) rc, .slice va (R.length + 1) vc, .int .i64 c]) ?_ rfl ?_
    · exact res_cell1_of rfl rfl HEND.out.1
    exact ⟨_, _, _, _, rfl, HEND.out.2.1, HEND.out.2.2 _ _ (by omega) HLOW.out, by rw [List.length_append]; have := HR6.out; simp; omega, HCC.out, HPOST.out⟩

end Go.Proofs.Ytohebkpgjaaljaa
