/- The reference of package linear: what its small functions compute. The reference of package linear: Check, Error, Few. The reference of package linear: rows less multiples of rows, and products. The reference's reduction: tables whose rows are lists that are read. The reference's reduction: the walk. -/
import Derived.Test.YtnbkbnbmmkfckaaGreatMLinJ
import Derived.IntWalk
import Derived.Maps.AppendAt
namespace Go.Proofs.YtnbkbnbmmkfckaaGreat
open Go.RowKit

theorem below_drewN {B : Nat} {a w : World} (h : Below B a w) (n : Nat) : Below B a (w.drewN n) := ⟨h.os, h.tape, h.output, h.size, h.block⟩
theorem any_no {l : List Int} (h : ∀ z ∈ l, oddQ z = false) : l.any oddQ = false := by
  rw [List.any_eq_false]; intro z hz; rw [h z hz]; simp
/-- Are two lists equal? -/
def sameQ (a b : List Int) : Bool := decide (a = b)

theorem sameQ_len {a b : List Int} (h : a.length ≠ b.length) : sameQ a b = false := decide_eq_false fun e => h (by rw [e])
theorem sameQ_at {a b : List Int} {k : Nat} (h1 : k < a.length) (h2 : k < b.length) (h : a[k] ≠ b[k]) : sameQ a b = false := decide_eq_false fun e => h (by subst e; rfl)
theorem sameQ_all {a b : List Int} (h : a.length = b.length) (h1 : ∀ k (h1 : k < a.length) (h2 : k < b.length), a[k] = b[k]) : sameQ a b = true := decide_eq_true (List.ext_getElem h h1)

end Go.Proofs.YtnbkbnbmmkfckaaGreat

namespace Go.Proofs.YtnbkbnbmmkfckaaGreat
open Go.RowKit

theorem Ints.drewN {w : World} {v : Value} {zs : List Int} (h : Ints w v zs) (n : Nat) : Ints (w.drewN n) v zs := h.below (below_drewN (Below.refl _ _) n)
theorem Rows2.drewN {w : World} {v : Value} {rows : List (List Int)} (h : Rows2 w v rows) (n : Nat) : Rows2 (w.drewN n) v rows := h.below (below_drewN (Below.refl _ _) n)

theorem kind1_ok {t : List Int} (h1 : t.length ≤ 64) (h2 : t.any oddQ = false) : kindErr [t] = 0 :=
  kindErr_ok [t] (by simpa using h1) (by intro r hr; rw [List.mem_singleton.1 hr]; simp only [rowOk, h2]; simp [wide])
end Go.Proofs.YtnbkbnbmmkfckaaGreat

namespace Go.Proofs.YtnbkbnbmmkfckaaGreat
open Go.RowKit

/-- The element of a list, or 0. -/
def nth (l : List Int) (i : Nat) : Int := l[i]?.getD 0
theorem nth_at {l : List Int} {i : Nat} (h : i < l.length) : nth l i = l[i] := by unfold nth; rw [List.getElem?_eq_getElem h]; rfl
theorem Ints.get {w : World} {v : Value} {zs : List Int} (h : Ints w v zs) {k : Nat} (hk : k < zs.length) : R64 (nth zs k) ∧ ∃ b off n c, v = .slice (some ⟨b, off, none⟩) n c ∧ w.cell? ⟨b, off + k, none⟩ = some (.int .i64 (nth zs k)) := by
  obtain ⟨a, cap, rfl, h1, h2, h3, h4⟩ := h
  obtain ⟨b, off, rfl, hc⟩ := h4 k hk
  rw [nth_at hk]
  exact ⟨h3 _ (List.getElem_mem hk), b, off, _, _, rfl, hc⟩

/-- The product of two lists, after K elements. -/
def prodF (a b : List Int) : Nat → Int
  | 0 => 0
  | k + 1 => (prodF a b k + nth a k * nth b k % 1073741789) % 1073741789
def prodQ (a b : List Int) : Int := prodF a b a.length
theorem prodF_num (a b : List Int) : ∀ k, 0 ≤ prodF a b k ∧ prodF a b k < 1073741789
  | 0 => by simp [prodF]
  | k + 1 => mod_num _

end Go.Proofs.YtnbkbnbmmkfckaaGreat

namespace Go.Proofs.YtnbkbnbmmkfckaaGreat
open Go.RowKit

/-- The first m elements of a row. -/
def rowM (m : Nat) (f : Nat → Int) : List Int := (List.range m).map f
theorem rowM_len (m : Nat) (f : Nat → Int) : (rowM m f).length = m := by simp [rowM]
theorem rowM_congr {m : Nat} {f g : Nat → Int} (h : ∀ j, j < m → f j = g j) : rowM m f = rowM m g := List.map_congr_left fun j hj => h j (by simpa using hj)
/-! The reference's reduction, as a function. -/
def ownR (X : Mat) (c k : Nat) : Nat → Int := fun j => invQ (X k c) * X k j % 1073741789
def putM (X : Mat) (i : Nat) (f : Nat → Int) : Mat := fun i' j => if i' = i then f j else X i' j
def lessA (X : Mat) (f : Nat → Int) (c q : Nat) : Mat := fun i j => if i < q then (X i j + -(X i c * f j % 1073741789)) % 1073741789 else X i j
def pivR (X : Mat) (n r c k : Nat) : Mat := putM (lessA (putM X k (X r)) (ownR X c k) c n) r (ownR X c k)
def stepR (n : Nat) (s : Mat × List Nat) (c : Nat) : Mat × List Nat :=
  if findP s.1 n c s.2.length < n then (pivR s.1 n s.2.length c (findP s.1 n c s.2.length), s.2 ++ [c]) else s
def redR (n : Nat) (X : Mat) (many : Nat) : Mat × List Nat := (List.range many).foldl (stepR n) (X, [])
theorem redR_succ (n : Nat) (x : Mat) (many : Nat) : redR n x (many + 1) = stepR n (redR n x many) many := by
  unfold redR; rw [List.range_succ, List.foldl_append]; rfl
theorem stepR_none {n : Nat} {x : Mat} {piv : List Nat} {c : Nat} (h : findP x n c piv.length = n) : stepR n (x, piv) c = (x, piv) := by
  unfold stepR; rw [if_neg]; show ¬ findP x n c piv.length < n; omega
theorem stepR_some {n : Nat} {x : Mat} {piv : List Nat} {c k : Nat} (h : findP x n c piv.length = k) (hk : k < n) : stepR n (x, piv) c = (pivR x n piv.length c k, piv ++ [c]) := by
  unfold stepR
  have h' : findP (x, piv).1 n c (x, piv).2.length = k := h
  rw [h', if_pos hk]
theorem redR_len (n : Nat) (x : Mat) : ∀ c, (redR n x c).2.length ≤ n
  | 0 => by simp [redR]
  | c + 1 => by
    rw [redR_succ]
    have ih := redR_len n x c
    generalize redR n x c = s at ih
    unfold stepR
    split
    · have := findP_ge s.1 n c s.2.length
      simp; omega
    · exact ih
/-! Numbers stay numbers. -/
def NumM (n m : Nat) (X : Mat) : Prop := ∀ i j, i < n → j < m → 0 ≤ X i j ∧ X i j < 1073741789
theorem NumM.put {n m : Nat} {X : Mat} (h : NumM n m X) {i : Nat} {f : Nat → Int} (hf : ∀ j, j < m → 0 ≤ f j ∧ f j < 1073741789) : NumM n m (putM X i f) := fun i' j hi hj => by
  unfold putM; split
  · exact hf j hj
  · exact h i' j hi hj
theorem NumM.less {n m : Nat} {X : Mat} (h : NumM n m X) (f : Nat → Int) (c q : Nat) : NumM n m (lessA X f c q) := fun i j hi hj => by
  unfold lessA; split
  · exact mod_num _
  · exact h i j hi hj
theorem NumM.pivR {n m : Nat} {X : Mat} (h : NumM n m X) {r c k : Nat} (hr : r < n) : NumM n m (pivR X n r c k) :=
  ((h.put fun j hj => h r j hr hj).less _ _ _).put fun _ _ => mod_num _
theorem redR_num {n m : Nat} {X : Mat} (h : NumM n m X) : ∀ c, NumM n m (redR n X c).1
  | 0 => h
  | c + 1 => by
    rw [redR_succ]
    have ih := redR_num h c
    generalize redR n X c = s at ih
    unfold stepR
    split
    · rename_i hk
      exact ih.pivR (Nat.lt_of_le_of_lt (findP_ge s.1 n c s.2.length) hk)
    · exact ih

/-! The table in memory. -/

/-- A store into a cell that holds a slice leaves all slices of integers as they were. -/
theorem Ints.store {W : World} {v : Value} {zs : List Int} (h : Ints W v zs) {b o : Nat} {a : Option Addr} {n c : Nat} (hp : W.cell? ⟨b, o, none⟩ = some (.slice a n c)) (u : Value) : Ints (W.setCell ⟨b, o, none⟩ u) v zs := by
  obtain ⟨p, cap, rfl, h1, h2, h3, h4⟩ := h
  refine ⟨p, cap, rfl, h1, h2, h3, fun k hk => ?_⟩
  obtain ⟨b', off, e, hc⟩ := h4 k hk
  refine ⟨b', off, e, ?_⟩
  by_cases e1 : b = b' ∧ o = off + k
  · obtain ⟨rfl, rfl⟩ := e1
    rw [hp] at hc; cases hc
  · rw [set_other (by
      by_cases e2 : b = b'
      · exact .inr fun e3 => e1 ⟨e2, e3⟩
      · exact .inl e2)]; exact hc

structure RTab (S B0 : Nat) (a : Option Addr) (n m : Nat) (X : Mat) (pv : Value) (W : World) : Prop where
  blk : 0 < n → ∃ B, a = some ⟨B, 0, none⟩ ∧ S ≤ B ∧ B < B0
  row : ∀ i B, a = some ⟨B, 0, none⟩ → i < n → ∃ p c, W.cell? ⟨B, i, none⟩ = some (.slice p m c) ∧ W.frozen? ⟨B, i, none⟩ = false ∧ Ints W (.slice p m c) (rowM m (X i)) ∧ (0 < m → ∀ g, pv.ownBlock = some g → (Value.slice p m c).ownBlock ≠ some g)

theorem RTab.below {S B0 : Nat} {a : Option Addr} {n m : Nat} {X : Mat} {pv : Value} {W W' : World} (h : RTab S B0 a n m X pv W) (hb : Below W.heap.size W W') : RTab S B0 a n m X pv W' :=
  ⟨h.blk, fun i B e hi => by
    obtain ⟨p, c, h1, h2, h3, h4⟩ := h.row i B e hi
    exact ⟨p, c, below_cell hb h1, by rw [hb.frozen (p := ⟨B, i, none⟩) (lt_of_cell h1)]; exact h2, h3.below hb, h4⟩⟩
theorem RTab.drew {S B0 : Nat} {a : Option Addr} {n m : Nat} {X : Mat} {pv : Value} {W : World} (h : RTab S B0 a n m X pv W) : RTab S B0 a n m X pv W.drew := h.below (Below.refl _ _).drew
theorem RTab.congr {S B0 : Nat} {a : Option Addr} {n m : Nat} {X Y : Mat} {pv : Value} {W : World} (h : RTab S B0 a n m X pv W) (e : ∀ i j, i < n → j < m → X i j = Y i j) : RTab S B0 a n m Y pv W :=
  ⟨h.blk, fun i B ea hi => by
    obtain ⟨p, c, h1, h2, h3, h4⟩ := h.row i B ea hi
    exact ⟨p, c, h1, h2, by rw [← rowM_congr (fun j hj => e i j hi hj)]; exact h3, h4⟩⟩
theorem RTab.store {S B0 B : Nat} {n m : Nat} {X : Mat} {pv : Value} {W : World} (h : RTab S B0 (some ⟨B, 0, none⟩) n m X pv W) {i : Nat} (hi : i < n) {p : Option Addr} {c : Nat} {f : Nat → Int} (hf : Ints W (.slice p m c) (rowM m f)) (ho : 0 < m → ∀ g, pv.ownBlock = some g → (Value.slice p m c).ownBlock ≠ some g) :
    RTab S B0 (some ⟨B, 0, none⟩) n m (putM X i f) pv (W.setCell ⟨B, i, none⟩ (.slice p m c)) :=
  ⟨h.blk, fun i' B' e hi' => by
    obtain rfl : B' = B := by cases e; rfl
    obtain ⟨p0, c0, h1, h2, h3, h4⟩ := h.row i B' rfl hi
    by_cases e : i' = i
    · subst e
      refine ⟨p, c, World.cell?_setCell_same' _ _ _ (by rw [h1]; rfl), by rw [World.frozen?_setCell]; exact h2, ?_, ho⟩
      have : putM X i' f i' = f := by funext j; unfold putM; rw [if_pos rfl]
      rw [this]; exact hf.store h1 _
    · obtain ⟨p', c', k1, k2, k3, k4⟩ := h.row i' B' rfl hi'
      refine ⟨p', c', by rw [set_other (.inr (fun e' => e e'.symm))]; exact k1, by rw [World.frozen?_setCell]; exact k2, ?_, k4⟩
      have : putM X i f i' = X i' := by funext j; unfold putM; rw [if_neg e]
      rw [this]; exact k3.store h1 _⟩

/-- The pivots grow. -/
theorem RTab.grown {S B0 : Nat} {a : Option Addr} {n m : Nat} {X : Mat} {pv pv' : Value} {W W' : World} (h : RTab S B0 a n m X pv W) (hg : W.grownBy W' pv.ownBlock) (hB : ∀ g, pv.ownBlock = some g → B0 ≤ g) (ho : pv'.ownBlock = pv.ownBlock ∨ pv'.ownBlock = some W.heap.size) : RTab S B0 a n m X pv' W' := by
  refine ⟨h.blk, fun i B e hi => ?_⟩
  obtain ⟨p, c, h1, h2, h3, h4⟩ := h.row i B e hi
  have hlt := lt_of_cell h1
  have hne : pv.ownBlock ≠ some B := fun e' => by
    obtain ⟨B', e2, _, h5⟩ := h.blk (by omega)
    rw [e] at e2
    obtain rfl : B = B' := by cases e2; rfl
    have := hB _ e'; omega
  have cellEq : ∀ (b o : Nat) (u : Value), pv.ownBlock ≠ some b → W.cell? ⟨b, o, none⟩ = some u → W'.cell? ⟨b, o, none⟩ = some u := fun b o u hne hc => by
    rw [World.cell?_of_block (w := W) (w' := W') (a := ⟨b, o, none⟩) (hg.block b (lt_of_cell hc) hne.symm)]; exact hc
  refine ⟨p, c, cellEq B i _ hne h1, ?_, ?_, ?_⟩
  · rw [World.frozen?_of_block (w := W) (w' := W') (a := ⟨B, i, none⟩) (hg.block B hlt hne.symm)]; exact h2
  · obtain ⟨p', c', e1, q1, q2, q3, q4⟩ := h3
    refine ⟨p', c', e1, q1, q2, q3, fun k hk => ?_⟩
    obtain ⟨b', off, e2, hc⟩ := q4 k hk
    refine ⟨b', off, e2, cellEq b' _ _ (fun e3 => ?_) hc⟩
    rw [rowM_len] at hk
    refine h4 (by omega) b' e3 ?_
    injection e1 with e5; subst e5; subst e2; rfl
  · intro hm g hgg
    rcases ho with ho | ho
    · rw [ho] at hgg; exact h4 hm g hgg
    · rw [ho] at hgg
      cases hgg
      obtain ⟨p', c', e1, q1, q2, q3, q4⟩ := h3
      obtain ⟨b', off, e2, hc⟩ := q4 0 (by rw [rowM_len]; exact hm)
      injection e1 with e5; subst e5; subst e2
      have := lt_of_cell hc
      intro e4
      have e5 : some b' = some W.heap.size := e4
      injection e5 with e6
      exact absurd this (by show ¬ b' < _; omega)

end Go.Proofs.YtnbkbnbmmkfckaaGreat

namespace Go.Proofs.YtnbkbnbmmkfckaaGreat
open Go.RowKit

/-- An append of which the run is known. -/
theorem wpList_app_run {P : Program} {ops : Array Oper} {rest : List Oper} {o : Oper} {a : Act} {Q : Exit → Act → World → Prop} {W w' : World} (hgd : o.guard = none) (s x : Operand) (t : TypeId)
    (ho : o.op = .call { callee := .builtin .append, args := #[s, x], argTypes := #[t, t] }) (v u v' : Value) (hs : a.eval s = v) (hx : a.eval x = u)
    (hr : (Builtin.append_ #[t, t] o.type #[v, u]).run P W = .ok v' w') (h : wpList P ops Q rest (a.put o.dst v') w') : wpList P ops Q (o :: rest) a W := by
  refine wpList_plain hgd fun K hK => ?_
  unfold Oper.wp execOp
  simp only [ho, resolve, invoke, builtin, Sem.run_bind, Sem.run_pure, Result.andThen_ok, List.map_toArray, List.map_cons, List.map_nil, hs, hx, hr]
  exact hK _ _ h

end Go.Proofs.YtnbkbnbmmkfckaaGreat
