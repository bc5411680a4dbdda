/- The reference's reduction: tables whose rows are lists that are read. The reference's reduction: the walk. -/
import Derived.Test.YtjjoadmkpbmhpaaGreatMDeaC
import Derived.Maps.AppendAt
namespace Go.Proofs.YtjjoadmkpbmhpaaGreat
open Go.RowKit

/-- The first m elements of a row. -/
def rowM (m : Nat) (f : Nat → Int) : List Int := (List.range m).map f
theorem rowM_len (m : Nat) (f : Nat → Int) : (rowM m f).length = m := by simp [rowM]
theorem nth_rowM {m : Nat} {f : Nat → Int} {i : Nat} (h : i < m) : nth (rowM m f) i = f i := by unfold nth rowM; simp [h]
theorem rowM_congr {m : Nat} {f g : Nat → Int} (h : ∀ j, j < m → f j = g j) : rowM m f = rowM m g := List.map_congr_left fun j hj => h j (by simpa using hj)
theorem rowM_of (l : List Int) : rowM l.length (nth l) = l := by
  apply List.ext_getElem
  · simp [rowM]
  · intro i h1 h2
    simp [rowM, nth_at h2]
theorem less_rowM (m : Nat) (f g : Nat → Int) (n : Int) : lessQ (rowM m f) (rowM m g) n = rowM m fun j => (f j + -(n * g j % 1073741789)) % 1073741789 := by
  unfold lessQ
  rw [rowM_len]
  exact rowM_congr fun j hj => by unfold lessF; rw [nth_rowM hj, nth_rowM hj]
theorem times_rowM (m : Nat) (f : Nat → Int) (n : Int) : timesQ (rowM m f) n = rowM m fun j => n * f j % 1073741789 := by
  unfold timesQ
  rw [rowM_len]
  exact rowM_congr fun j hj => by rw [nth_rowM hj]

/-! The reference's reduction, as a function. -/
def ownR (X : Mat) (c k : Nat) : Nat → Int := fun j => invQ (X k c) * X k j % 1073741789
def putM (X : Mat) (i : Nat) (f : Nat → Int) : Mat := fun i' j => if i' = i then f j else X i' j
def lessA (X : Mat) (f : Nat → Int) (c q : Nat) : Mat := fun i j => if i < q then (X i j + -(X i c * f j % 1073741789)) % 1073741789 else X i j
def pivR (X : Mat) (n r c k : Nat) : Mat := putM (lessA (putM X k (X r)) (ownR X c k) c n) r (ownR X c k)
def stepR (n : Nat) (s : Mat × List Nat) (c : Nat) : Mat × List Nat :=
  if findP s.1 n c s.2.length < n then (pivR s.1 n s.2.length c (findP s.1 n c s.2.length), s.2 ++ [c]) else s
def redR (n : Nat) (X : Mat) (many : Nat) : Mat × List Nat := (List.range many).foldl (stepR n) (X, [])
theorem redR_succ (n : Nat) (x : Mat) (many : Nat) : redR n x (many + 1) = stepR n (redR n x many) many := by
  unfold redR; rw [List.range_succ, List.foldl_append]; rfl
theorem stepR_none {n : Nat} {x : Mat} {piv : List Nat} {c : Nat} (h : findP x n c piv.length = n) : stepR n (x, piv) c = (x, piv) := by
  unfold stepR; rw [if_neg]; show ¬ findP x n c piv.length < n; omega
theorem stepR_some {n : Nat} {x : Mat} {piv : List Nat} {c k : Nat} (h : findP x n c piv.length = k) (hk : k < n) : stepR n (x, piv) c = (pivR x n piv.length c k, piv ++ [c]) := by
  unfold stepR
  have h' : findP (x, piv).1 n c (x, piv).2.length = k := h
  rw [h', if_pos hk]
theorem redR_len (n : Nat) (x : Mat) : ∀ c, (redR n x c).2.length ≤ n
  | 0 => by simp [redR]
  | c + 1 => by
    rw [redR_succ]
    have ih := redR_len n x c
    generalize redR n x c = s at ih
    unfold stepR
    split
    · have := findP_ge s.1 n c s.2.length
      simp; omega
    · exact ih
theorem lessA_step (X : Mat) (f : Nat → Int) (c q : Nat) : lessA X f c (q + 1) = putM (lessA X f c q) q (fun j => (lessA X f c q q j + -(lessA X f c q q c * f j % 1073741789)) % 1073741789) := by
  funext i j
  simp only [lessA, putM]
  by_cases e : i = q
  · subst e; simp
  · rw [if_neg e]
    by_cases h : i < q
    · rw [if_pos (by omega), if_pos h]
    · rw [if_neg (by omega), if_neg h]
theorem lessA_0 (X : Mat) (f : Nat → Int) (c : Nat) : lessA X f c 0 = X := by funext i j; unfold lessA; rw [if_neg (by omega)]

/-! Numbers stay numbers. -/
def NumM (n m : Nat) (X : Mat) : Prop := ∀ i j, i < n → j < m → 0 ≤ X i j ∧ X i j < 1073741789
theorem NumM.put {n m : Nat} {X : Mat} (h : NumM n m X) {i : Nat} {f : Nat → Int} (hf : ∀ j, j < m → 0 ≤ f j ∧ f j < 1073741789) : NumM n m (putM X i f) := fun i' j hi hj => by
  unfold putM; split
  · exact hf j hj
  · exact h i' j hi hj
theorem NumM.less {n m : Nat} {X : Mat} (h : NumM n m X) (f : Nat → Int) (c q : Nat) : NumM n m (lessA X f c q) := fun i j hi hj => by
  unfold lessA; split
  · exact mod_num _
  · exact h i j hi hj
theorem NumM.pivR {n m : Nat} {X : Mat} (h : NumM n m X) {r c k : Nat} (hr : r < n) : NumM n m (pivR X n r c k) :=
  ((h.put fun j hj => h r j hr hj).less _ _ _).put fun _ _ => mod_num _
theorem redR_num {n m : Nat} {X : Mat} (h : NumM n m X) : ∀ c, NumM n m (redR n X c).1
  | 0 => h
  | c + 1 => by
    rw [redR_succ]
    have ih := redR_num h c
    generalize redR n X c = s at ih
    unfold stepR
    split
    · rename_i hk
      exact ih.pivR (Nat.lt_of_le_of_lt (findP_ge s.1 n c s.2.length) hk)
    · exact ih

/-! The table in memory. -/

/-- A store into a cell that holds a slice leaves all slices of integers as they were. -/
theorem Ints.store {W : World} {v : Value} {zs : List Int} (h : Ints W v zs) {b o : Nat} {a : Option Addr} {n c : Nat} (hp : W.cell? ⟨b, o, none⟩ = some (.slice a n c)) (u : Value) : Ints (W.setCell ⟨b, o, none⟩ u) v zs := by
  obtain ⟨p, cap, rfl, h1, h2, h3, h4⟩ := h
  refine ⟨p, cap, rfl, h1, h2, h3, fun k hk => ?_⟩
  obtain ⟨b', off, e, hc⟩ := h4 k hk
  refine ⟨b', off, e, ?_⟩
  by_cases e1 : b = b' ∧ o = off + k
  · obtain ⟨rfl, rfl⟩ := e1
    rw [hp] at hc; cases hc
  · rw [set_other (by
      by_cases e2 : b = b'
      · exact .inr fun e3 => e1 ⟨e2, e3⟩
      · exact .inl e2)]; exact hc

structure RTab (S B0 : Nat) (a : Option Addr) (n m : Nat) (X : Mat) (pv : Value) (W : World) : Prop where
  blk : 0 < n → ∃ B, a = some ⟨B, 0, none⟩ ∧ S ≤ B ∧ B < B0
  row : ∀ i B, a = some ⟨B, 0, none⟩ → i < n → ∃ p c, W.cell? ⟨B, i, none⟩ = some (.slice p m c) ∧ W.frozen? ⟨B, i, none⟩ = false ∧ Ints W (.slice p m c) (rowM m (X i)) ∧ (0 < m → ∀ g, pv.ownBlock = some g → (Value.slice p m c).ownBlock ≠ some g)

theorem RTab.below {S B0 : Nat} {a : Option Addr} {n m : Nat} {X : Mat} {pv : Value} {W W' : World} (h : RTab S B0 a n m X pv W) (hb : Below W.heap.size W W') : RTab S B0 a n m X pv W' :=
  ⟨h.blk, fun i B e hi => by
    obtain ⟨p, c, h1, h2, h3, h4⟩ := h.row i B e hi
    exact ⟨p, c, below_cell hb h1, by rw [hb.frozen (p := ⟨B, i, none⟩) (lt_of_cell h1)]; exact h2, h3.below hb, h4⟩⟩
theorem RTab.drew {S B0 : Nat} {a : Option Addr} {n m : Nat} {X : Mat} {pv : Value} {W : World} (h : RTab S B0 a n m X pv W) : RTab S B0 a n m X pv W.drew := h.below (Below.refl _ _).drew
theorem RTab.congr {S B0 : Nat} {a : Option Addr} {n m : Nat} {X Y : Mat} {pv : Value} {W : World} (h : RTab S B0 a n m X pv W) (e : ∀ i j, i < n → j < m → X i j = Y i j) : RTab S B0 a n m Y pv W :=
  ⟨h.blk, fun i B ea hi => by
    obtain ⟨p, c, h1, h2, h3, h4⟩ := h.row i B ea hi
    exact ⟨p, c, h1, h2, by rw [← rowM_congr (fun j hj => e i j hi hj)]; exact h3, h4⟩⟩
theorem RTab.store {S B0 B : Nat} {n m : Nat} {X : Mat} {pv : Value} {W : World} (h : RTab S B0 (some ⟨B, 0, none⟩) n m X pv W) {i : Nat} (hi : i < n) {p : Option Addr} {c : Nat} {f : Nat → Int} (hf : Ints W (.slice p m c) (rowM m f)) (ho : 0 < m → ∀ g, pv.ownBlock = some g → (Value.slice p m c).ownBlock ≠ some g) :
    RTab S B0 (some ⟨B, 0, none⟩) n m (putM X i f) pv (W.setCell ⟨B, i, none⟩ (.slice p m c)) :=
  ⟨h.blk, fun i' B' e hi' => by
    obtain rfl : B' = B := by cases e; rfl
    obtain ⟨p0, c0, h1, h2, h3, h4⟩ := h.row i B' rfl hi
    by_cases e : i' = i
    · subst e
      refine ⟨p, c, World.cell?_setCell_same' _ _ _ (by rw [h1]; rfl), by rw [World.frozen?_setCell]; exact h2, ?_, ho⟩
      have : putM X i' f i' = f := by funext j; unfold putM; rw [if_pos rfl]
      rw [this]; exact hf.store h1 _
    · obtain ⟨p', c', k1, k2, k3, k4⟩ := h.row i' B' rfl hi'
      refine ⟨p', c', by rw [set_other (.inr (fun e' => e e'.symm))]; exact k1, by rw [World.frozen?_setCell]; exact k2, ?_, k4⟩
      have : putM X i f i' = X i' := by funext j; unfold putM; rw [if_neg e]
      rw [this]; exact k3.store h1 _⟩

/-- The pivots grow. -/
theorem RTab.grown {S B0 : Nat} {a : Option Addr} {n m : Nat} {X : Mat} {pv pv' : Value} {W W' : World} (h : RTab S B0 a n m X pv W) (hg : W.grownBy W' pv.ownBlock) (hB : ∀ g, pv.ownBlock = some g → B0 ≤ g) (ho : pv'.ownBlock = pv.ownBlock ∨ pv'.ownBlock = some W.heap.size) : RTab S B0 a n m X pv' W' := by
  refine ⟨h.blk, fun i B e hi => ?_⟩
  obtain ⟨p, c, h1, h2, h3, h4⟩ := h.row i B e hi
  have hlt := lt_of_cell h1
  have hne : pv.ownBlock ≠ some B := fun e' => by
    obtain ⟨B', e2, _, h5⟩ := h.blk (by omega)
    rw [e] at e2
    obtain rfl : B = B' := by cases e2; rfl
    have := hB _ e'; omega
  have cellEq : ∀ (b o : Nat) (u : Value), pv.ownBlock ≠ some b → W.cell? ⟨b, o, none⟩ = some u → W'.cell? ⟨b, o, none⟩ = some u := fun b o u hne hc => by
    rw [World.cell?_of_block (w := W) (w' := W') (a := ⟨b, o, none⟩) (hg.block b (lt_of_cell hc) hne.symm)]; exact hc
  refine ⟨p, c, cellEq B i _ hne h1, ?_, ?_, ?_⟩
  · rw [World.frozen?_of_block (w := W) (w' := W') (a := ⟨B, i, none⟩) (hg.block B hlt hne.symm)]; exact h2
  · obtain ⟨p', c', e1, q1, q2, q3, q4⟩ := h3
    refine ⟨p', c', e1, q1, q2, q3, fun k hk => ?_⟩
    obtain ⟨b', off, e2, hc⟩ := q4 k hk
    refine ⟨b', off, e2, cellEq b' _ _ (fun e3 => ?_) hc⟩
    rw [rowM_len] at hk
    refine h4 (by omega) b' e3 ?_
    injection e1 with e5; subst e5; subst e2; rfl
  · intro hm g hgg
    rcases ho with ho | ho
    · rw [ho] at hgg; exact h4 hm g hgg
    · rw [ho] at hgg
      cases hgg
      obtain ⟨p', c', e1, q1, q2, q3, q4⟩ := h3
      obtain ⟨b', off, e2, hc⟩ := q4 0 (by rw [rowM_len]; exact hm)
      injection e1 with e5; subst e5; subst e2
      have := lt_of_cell hc
      intro e4
      have e5 : some b' = some W.heap.size := e4
      injection e5 with e6
      exact absurd this (by show ¬ b' < _; omega)

end Go.Proofs.YtjjoadmkpbmhpaaGreat

namespace Go.Proofs.YtjjoadmkpbmhpaaGreat
open Go.RowKit

set_option maxRecDepth 100000 in
theorem infoRw : (Tryz.prog.info? 23).map (fun i => (i.zero, i.size, i.bytes)) = some (some (.slice none 0 0), 1, 24) := by kernel_rfl

set_option maxRecDepth 100000 in
/-- A new slice of the headers of rows. -/
theorem app_rows (W : World) (v : Value) (rows : List (List Int)) (m : Nat) (hI : Rows2 W v rows) (hm : ∀ r ∈ rows, r.length = m) (hn : rows.length ≤ 1000000) :
    ∃ a' c' w', (Builtin.append_ #[22, 22] 22 #[.slice (some ⟨W.heap.size, 0, none⟩) 0 0, v]).run Tryz.prog (W.alloc (.cells #[] 23)) = .ok (.slice a' rows.length c') w' ∧ rows.length ≤ c' ∧
      (∀ pv : Value, pv.ownBlock = none → RTab W.heap.size w'.heap.size a' rows.length m (fun i => nth (rows[i]?.getD [])) pv w') ∧ Below W.heap.size W w' := by
  obtain ⟨a, cap, rfl, hcap, hlen, hk⟩ := hI
  by_cases hn0 : rows.length = 0
  · rw [hn0]
    have h0 : rows = [] := List.length_eq_zero_iff.1 hn0
    subst h0
    refine ⟨some ⟨W.heap.size, 0, none⟩, 0, W.alloc (.cells #[] 23), ?_, Nat.le_refl _, ?_, (Below.refl _ _).alloc (Nat.le_refl _) _⟩
    · cases a <;> simp [go_sem]
    · exact fun pv hpv => ⟨fun h => absurd h (Nat.lt_irrefl _), fun i B e hi => absurd hi (Nat.not_lt_zero _)⟩
  · obtain ⟨b0, off0, r0, rfl, -, -⟩ := hk 0 (by omega)
    obtain ⟨hd, hhd⟩ : ∃ hd : Nat → Value, ∀ k (h : k < rows.length), W.cell? ⟨b0, off0 + k, none⟩ = some (hd k) ∧ Ints W (hd k) rows[k] := by
      have hk' : ∀ k (h : k < rows.length), ∃ r, W.cell? ⟨b0, off0 + k, none⟩ = some r ∧ Ints W r rows[k] := fun k h => by
        obtain ⟨b, off, r, e1, e2, e3⟩ := hk k h
        injection e1 with e4
        injection e4 with e5 e6
        subst e5; subst e6
        exact ⟨r, e2, e3⟩
      refine ⟨fun k => if h : k < rows.length then (hk' k h).choose else undef, fun k h => ?_⟩
      simp only [dif_pos h]
      exact (hk' k h).choose_spec
    have hown : (W.alloc (.cells #[] 23)).ownsRow W.heap.size 23 1 (.slice (some ⟨W.heap.size, 0, none⟩) 0 0) 0 [] := World.ownsRow_lit W #[] 0 (Nat.le_refl _) (by simp) rfl
    obtain ⟨i0, hi0, hz0, hz1, hz2⟩ := info_parts infoRw
    have hb1 : Below W.heap.size W (W.alloc (.cells #[] 23)) := (Below.refl _ _).alloc (Nat.le_refl _) _
    obtain ⟨v', w', hr, hown', hgrow, -⟩ := run_append_own (P := Tryz.prog) (W.alloc (.cells #[] 23)) W.heap.size 22 22 23 i0 (.slice none 0 0) 1 24 Tryz.underlying22 hi0 hz0 hz1 hz2 rfl (by decide)
      _ 0 [] hown ⟨b0, off0, none⟩ rows.length cap ((List.range rows.length).map hd) (by simp) (by
        intro j u hu
        have hj : j < rows.length := by
          by_cases h : j < rows.length
          · exact h
          · rw [List.getElem?_eq_none (by simpa using h)] at hu; cases hu
        have : u = hd j := by simp [hj] at hu; exact hu.symm
        rw [this]
        have hc := below_cell hb1 (hhd j hj).1
        unfold Addr.add
        split
        · rename_i e; subst e; simpa using hc
        · exact hc) (by
        intro u hu
        obtain ⟨k, hk', rfl⟩ := List.mem_map.1 hu
        obtain ⟨p, c, e, -⟩ := (hhd k (by simpa using hk')).2
        rw [e]; rfl) (by unfold maxLen; omega) (by omega) (by simp)
    rw [Nat.zero_add, List.nil_append] at hown'
    have hb2 : Below W.heap.size W w' := hb1.grown hgrow (by simp) (fun k e => by cases e; exact Nat.le_refl _)
    have hown2 := hown'
    obtain ⟨-, ⟨-, e⟩ | ⟨g, cap', cur, rfl, hB, hh, hcc, -, -, -⟩⟩ := hown'
    · exact absurd e hn0
    · refine ⟨_, cap', w', hr, hcc, fun pv hpv => ⟨fun _ => ⟨g, rfl, hB, (Array.getElem?_eq_some_iff.1 hh).1⟩, fun i B e hi => ?_⟩, hb2⟩
      obtain rfl : g = B := by injection e with e1; injection e1
      have hrow : nth (rows[i]?.getD []) = nth rows[i] := by rw [List.getElem?_eq_getElem hi]; rfl
      have hc := hown2.cellAt i (by omega)
      rw [List.getElem?_map, List.getElem?_eq_getElem (by simpa using hi)] at hc
      have hint := (hhd i hi).2
      have hlen := hm _ (List.getElem_mem hi)
      obtain ⟨p, c, e, hrest⟩ := hint
      rw [hlen] at e
      refine ⟨p, c, ?_, hown2.frozenAt i, ?_, fun _ g' e' => by rw [hpv] at e'; cases e'⟩
      · rw [hc]; simp [e]
      · rw [hrow]
        have h1 := (hhd i hi).2.below hb2
        rw [e] at h1
        rw [← hlen, rowM_of] ; rw [hlen]; exact h1

/-- An append of which the run is known. -/
theorem wpList_app_run {P : Program} {ops : Array Oper} {rest : List Oper} {o : Oper} {a : Act} {Q : Exit → Act → World → Prop} {W w' : World} (hgd : o.guard = none) (s x : Operand) (t : TypeId)
    (ho : o.op = .call { callee := .builtin .append, args := #[s, x], argTypes := #[t, t] }) (v u v' : Value) (hs : a.eval s = v) (hx : a.eval x = u)
    (hr : (Builtin.append_ #[t, t] o.type #[v, u]).run P W = .ok v' w') (h : wpList P ops Q rest (a.put o.dst v') w') : wpList P ops Q (o :: rest) a W := by
  refine wpList_plain hgd fun K hK => ?_
  unfold Oper.wp execOp
  simp only [ho, resolve, invoke, builtin, Sem.run_bind, Sem.run_pure, Result.andThen_ok, List.map_toArray, List.map_cons, List.map_nil, hs, hx, hr]
  exact hK _ _ h

theorem rowM_cell {W : World} {p : Option Addr} {m c : Nat} {f : Nat → Int} (h : Ints W (.slice p m c) (rowM m f)) {j : Nat} (hj : j < m) : ∃ b off, p = some ⟨b, off, none⟩ ∧ W.cell? ⟨b, off + j, none⟩ = some (.int .i64 (f j)) := by
  obtain ⟨_, b, off, n', c', e, hc⟩ := h.get (k := j) (by rw [rowM_len]; exact hj)
  rw [nth_rowM hj] at hc
  injection e with e1
  exact ⟨b, off, e1, hc⟩

set_option maxRecDepth 100000 in
theorem app_int_at {ops : Array Oper} {rest : List Oper} {o : Oper} {a : Act} {Q : Exit → Act → World → Prop} {W : World} (hgd : o.guard = none) (s x : Operand) (ho : o.op = .call { callee := .builtin .append, args := #[s, x], argTypes := #[23, 23] })
    (base n : Nat) (v : Value) (xs : List Value) (hs : a.eval s = v) (hown : W.ownsRow base 3 1 v n xs) (b c : Nat) (z : Int) (hx : a.eval x = .slice (some ⟨b, 0, none⟩) 1 c) (hcell : W.cell? ⟨b, 0, none⟩ = some (.int .i64 z)) (hn : n ≤ 1000000) (hbase : base ≤ W.heap.size)
    (h : ∀ v' w', w'.ownsRow base 3 1 v' (n + 1) (xs ++ [.int .i64 z]) → W.grownBy w' v.ownBlock → (v'.ownBlock = v.ownBlock ∨ v'.ownBlock = some W.heap.size) → wpList Tryz.prog ops Q rest (a.put o.dst v') w') : wpList Tryz.prog ops Q (o :: rest) a W := by
  obtain ⟨i0, hi0, hz0, hz1, hz2⟩ := info_parts infoInt
  refine wpList_append_own_at _ hgd s x 23 ho base 3 i0 (.int .i64 0) 1 8 Tryz.underlying23 hi0 hz0 hz1 hz2 rfl (by decide) v n xs hs hown ⟨b, 0, none⟩ 1 c [.int .i64 z] hx rfl ?_ ?_ ?_ ?_ hbase ?_
  · intro j u hu
    cases j with
    | zero => simp at hu; subst hu; simpa [Addr.add] using hcell
    | succ j => simp at hu
  · simp [Value.oneCell']
  · unfold maxLen; omega
  · omega
  · intro v' w' h1 h2 _ h3; exact h v' w' h1 h2 h3

set_option maxRecDepth 100000 in
theorem times_row (p : Option Addr) (c m : Nat) (f : Nat → Int) (n : Int) (w : World) (hI : Ints w (.slice p m c) (rowM m f)) (hn : 0 ≤ n ∧ n < 1073741789) (hm : m ≤ 1000000) :
    Calls Tryz.prog 144 #[.slice p m c, .int .i64 n] w fun e w' => ∃ b, e = .returned (.slice (some ⟨b, 0, none⟩) m m) ∧ w.heap.size < b ∧ Ints w' (.slice (some ⟨b, 0, none⟩) m m) (rowM m fun j => n * f j % 1073741789) ∧ Below w.heap.size w w' := by
  have h := times_any _ _ n w hI hn (by rw [rowM_len]; exact hm)
  rw [rowM_len, times_rowM] at h
  exact h.mono fun e w' ⟨⟨b, h1, h2, h3⟩, h4⟩ => ⟨b, h1, h2, h3, h4⟩

set_option maxRecDepth 100000 in
theorem less_row (p q : Option Addr) (c d m : Nat) (f g : Nat → Int) (n : Int) (w : World) (hI : Ints w (.slice p m c) (rowM m f)) (hJ : Ints w (.slice q m d) (rowM m g)) (hn : R64 n) (hm : m ≤ 1000000) :
    Calls Tryz.prog 145 #[.slice p m c, .slice q m d, .int .i64 n] w fun e w' => e = .returned (.slice (some ⟨w.heap.size, 0, none⟩) m m) ∧ Ints w' (.slice (some ⟨w.heap.size, 0, none⟩) m m) (rowM m fun j => (f j + -(n * g j % 1073741789)) % 1073741789) ∧ Below w.heap.size w w' ∧ w.heap.size < w'.heap.size := by
  have h := less_any _ _ _ _ n w hI hJ (by rw [rowM_len, rowM_len]; exact Nat.le_refl _) hn (by rw [rowM_len]; exact hm)
  rw [rowM_len, less_rowM] at h
  exact h.mono fun e w' ⟨h1, _, h2, h3, h4⟩ => ⟨h1, h2, h3, h4⟩

/-- What holds at the head of the outer loop. -/
structure RedS (S B0 : Nat) (a : Option Addr) (n m : Nat) (X : Mat) (w : World) (c : Nat) (pv : Value) (W : World) : Prop where
  tab : RTab S B0 a n m (redR n X c).1 pv W
  own : W.ownsRow B0 3 1 pv (redR n X c).2.length ((redR n X c).2.map fun (k : Nat) => Value.int .i64 (k : Int))
  low : Below S w W
  top : B0 ≤ W.heap.size

set_option maxRecDepth 100000 in
set_option maxHeartbeats 8000000 in
theorem Reduced_any (v : Value) (rows : List (List Int)) (m many : Nat) (w : World) (hI : Rows2 w v rows) (hm : ∀ r ∈ rows, r.length = m) (hnum : ∀ r ∈ rows, ∀ z ∈ r, 0 ≤ z ∧ z < 1073741789) (hn : rows.length ≤ 1000000) (hm1 : m ≤ 1000000) (hmany : many ≤ m) :
    Calls Tryz.prog 128 #[v, .int .i64 many] w fun e w' => ∃ a c pv B0, e = .returned (.tuple #[.slice a rows.length c, pv]) ∧ rows.length ≤ c ∧ RedS w.heap.size B0 a rows.length m (fun i => nth (rows[i]?.getD [])) w many pv w' := by
  obtain ⟨a', c', w2, hrun, hc2, hT, hb2⟩ := app_rows w v rows m hI hm hn
  have hI0 := hI
  obtain ⟨a, cap, rfl, hcap, hlen, hk⟩ := hI
  have HT := Lib.hid hT
  have HM := Lib.hid hm
  have HN := Lib.hid hnum
  clear hT hm hnum hk
  obtain ⟨n, hn'⟩ : ∃ n, n = rows.length := ⟨_, rfl⟩
  rw [← hn'] at hrun hc2 hcap hlen hn
  have hI1 : Rows2 w (.slice a n cap) rows := by rw [hn']; exact hI0
  have HN' := Lib.hid hn'
  rw [← hn']
  clear hn' hI0
  go_enter Tryz.func128, Tryz.ntmps128
  go_wp2_with (at_builtin; refine wpList_app_run rfl _ _ _ rfl _ _ _ rfl rfl hrun ?_)
  obtain ⟨X, hX⟩ : ∃ X : Mat, X = (fun i => nth (rows[i]?.getD [])) := ⟨_, rfl⟩
  have hXn : NumM n m X := by
    rw [HN'.out, hX]
    intro i j hi hj
    show 0 ≤ nth (rows[i]?.getD []) j ∧ _
    rw [List.getElem?_eq_getElem hi, Option.getD_some]
    have hl := HM.out _ (List.getElem_mem hi)
    rw [nth_at (by omega)]
    show _ ∧ nth (rows[i]?.getD []) j < _
    rw [List.getElem?_eq_getElem hi, Option.getD_some, nth_at (by omega)]
    exact HN.out _ (List.getElem_mem hi) _ (List.getElem_mem _)
  obtain ⟨B0, hB0⟩ : ∃ B0, B0 = w2.heap.size := ⟨_, rfl⟩
  have hR0 : RedS w.heap.size B0 a' n m X w 0 (.slice (some ⟨B0, 0, none⟩) 0 0) (w2.alloc (.cells #[] 3)) := by
    have h1 : RTab w.heap.size w2.heap.size a' n m X (.slice none 0 0) w2 := by rw [HN'.out, hX]; exact HT.out _ rfl
    refine ⟨?_, ?_, hb2.alloc hb2.size _, by rw [hB0]; simp⟩
    · show RTab _ _ _ _ _ X _ _
      rw [hB0]
      have h2 := h1.below ((Below.refl _ _).alloc (Nat.le_refl _) (.cells #[] 3))
      refine ⟨h2.blk, fun i B e hi => ?_⟩
      obtain ⟨p, c, q1, q2, q3, q4⟩ := h1.row i B e hi
      have q3' := q3.below ((Below.refl _ _).alloc (Nat.le_refl _) (.cells #[] 3))
      refine ⟨p, c, below_cell ((Below.refl _ _).alloc (Nat.le_refl _) _) q1, by rw [((Below.refl _ w2).alloc (Nat.le_refl _) (.cells #[] 3)).frozen (p := ⟨B, i, none⟩) (lt_of_cell q1)]; exact q2, q3', fun hm0 g e2 e3 => ?_⟩
      obtain ⟨b, off, rfl, hc⟩ := rowM_cell q3 hm0
      have e2' : some w2.heap.size = some g := e2
      have e3' : some b = some g := e3
      have := lt_of_cell hc
      injection e2' with e4
      injection e3' with e5
      omega
    · rw [hB0]; exact World.ownsRow_lit w2 #[] 0 (Nat.le_refl _) (by simp) rfl
  have HX := Lib.hid hX
  rw [← hB0]
  have HB0 := Lib.hid hB0
  clear hX hB0 hrun HT
  go_loopw [7, 8] (fun s i wr => ∃ (c : Nat) (pv : Value), c ≤ many ∧ i = .int .i64 c ∧ s = pv ∧ RedS w.heap.size B0 a' n m X w c pv wr) (fun _ i _ => many - (intOf i).toNat)
  case atStart => exact ⟨0, _, Nat.zero_le _, rfl, rfl, hR0⟩
  case round =>
    obtain ⟨c, pv, hcm, rfl, rfl, hS⟩ := hrel
    by_cases hlt : c < many
    · obtain ⟨hT1, hown, hlow, htop⟩ := hS
      have hyn := redR_num hXn c
      have hpn := redR_len n X c
      have hst := redR_succ n X c
      generalize hx1 : redR n X c = st at hT1 hown hyn hpn hst
      obtain ⟨y, piv⟩ := st
      have HS := Lib.hid hst
      clear hst hx1
      obtain ⟨pa, pc, rfl⟩ := owns_slice hown
      simp only at hT1 hown hyn hpn
      go_wp2_with fail
      go_loop [10] (fun k => ∃ kk : Nat, kk ≤ n ∧ piv.length ≤ kk ∧ k = .int .i64 kk ∧ Hid (findP y n c piv.length = findF y c (n - kk) kk)) (fun k => n - (intOf k).toNat)
      case atStart => exact ⟨piv.length, hpn, Nat.le_refl _, rfl, Lib.hid rfl⟩
      case round =>
        obtain ⟨kk, hkn, hpk, rfl, HF⟩ := hrel
        by_cases hk : kk < n
        · obtain ⟨B, rfl, hB1, hB2⟩ := hT1.blk (by omega)
          obtain ⟨pk, ck, hck, hfk, hik, hok⟩ := hT1.row kk B rfl hk
          obtain ⟨bk, ok, rfl, hek⟩ := rowM_cell hik (j := c) (by omega)
          have i1 : (0 : Int) ≤ (kk : Int) := by omega
          have i2 : (kk : Int) < (n : Int) := by omega
          have hkd : decide ((kk : Int) < (n : Int)) = true := decide_eq_true (by omega)
          by_cases h0 : y kk c = 0
          · have HF2 := Lib.hid (findP_step HF.out hk h0)
            rw [h0] at hek
            clear h0
            go_wp2_with fail
            go_round
            case rel => exact ⟨kk + 1, by omega, by omega, by go_num, HF2⟩
            case measure => simp [intOf]; omega
          · have HF2 := Lib.hid (findP_here HF.out hk h0)
            have h0' : (y kk c == 0) = false := by simpa using h0
            have hyk := hyn kk c hk (by omega)
            have H0 := Lib.hid (show y kk c % 1073741789 ≠ 0 by omega)
            clear h0
            have hrn : piv.length < n := by omega
            obtain ⟨pr, cr, hcr, hfr, hir, hor⟩ := hT1.row piv.length B rfl hrn
            have i3 : (0 : Int) ≤ (piv.length : Int) := by omega
            have i4 : (piv.length : Int) < (n : Int) := by omega
            have hT2 := hT1.store hk hir hor
            have hiK := hik.store hck (.slice pr m cr)
            have hek2 : (wr.setCell ⟨B, kk, none⟩ (.slice pr m cr)).cell? ⟨bk, ok + c, none⟩ = some (.int .i64 (y kk c)) := by
              obtain ⟨b2, o2, e2, hc2⟩ := rowM_cell hiK (j := c) (by omega)
              cases e2; exact hc2
            have hown2 := ownsRow_setCell_below hown (a := ⟨B, kk, none⟩) hB2 (.slice pr m cr)
            have hlow2 := hlow.setCell (p := ⟨B, kk, none⟩) hB1 (.slice pr m cr)
            have htop2 : B0 ≤ (wr.setCell ⟨B, kk, none⟩ (.slice pr m cr)).heap.size := by simp [World.setCell]; exact htop
            go_wp2_with fail
            obtain ⟨W2, hW2⟩ : ∃ W2, wr.setCell ⟨B, kk, none⟩ (.slice pr m cr) = W2 := ⟨_, rfl⟩
            rw [hW2] at hT2 hiK hek2 hown2 hlow2 htop2 ⊢
            clear hW2 hek hfk hcr hfr hck
            go_wp2_with fail
            with_reducible refine (rinverse_any _ _ (num_r64 hyk) H0.out).mono ?_
            rintro e w' ⟨rfl, rfl⟩
            have hvn : 0 ≤ invQ (y kk c) ∧ invQ (y kk c) < 1073741789 := mod_num _
            obtain ⟨v, hv⟩ : ∃ v, v = invQ (y kk c) := ⟨_, rfl⟩
            rw [← hv] at hvn ⊢
            have HV := Lib.hid hv
            clear hv
            go_wp2_with fail
            with_reducible refine (times_row _ _ m (y kk) v _ hiK hvn hm1).mono ?_
            rintro e w3 ⟨bo, rfl, hbo, hio, hb3⟩
            have hT3 := hT2.below hb3
            have hown3 := owns_below hown2 hb3
            have hlow3 : Below w.heap.size w w3 := hlow2.trans (hb3.mono hlow2.size)
            have htop3 : B0 ≤ w3.heap.size := Nat.le_trans htop2 hb3.size
            have hpo : ∀ g, (Value.slice pa piv.length pc).ownBlock = some g → g < bo := fun g e => Nat.lt_trans (hown2.lt g e).2 hbo
            obtain ⟨f, hf⟩ : ∃ f : Nat → Int, f = fun j => v * y kk j % 1073741789 := ⟨_, rfl⟩
            have hfn : ∀ j, 0 ≤ f j ∧ f j < 1073741789 := fun j => by rw [hf]; exact mod_num _
            rw [← hf] at hio
            obtain ⟨X1, hX1⟩ : ∃ X1, X1 = putM y kk (y piv.length) := ⟨_, rfl⟩
            have hn1 : NumM n m X1 := by rw [hX1]; exact hyn.put fun j hj => hyn _ j hrn hj
            rw [← hX1] at hT3
            have HF1 := Lib.hid hf
            have HX1 := Lib.hid hX1
            clear hf hX1 hT2 hiK hek2 hown2 hlow2 htop2 hik hir
            go_wp2_with fail
            go_loopw [14] (fun i wr => ∃ q : Nat, q ≤ n ∧ i = .int .i64 q ∧ RTab w.heap.size B0 (some ⟨B, 0, none⟩) n m (lessA X1 f c q) (.slice pa piv.length pc) wr ∧ Ints wr (.slice (some ⟨bo, 0, none⟩) m m) (rowM m f) ∧ wr.ownsRow B0 3 1 (.slice pa piv.length pc) piv.length (piv.map fun (k : Nat) => Value.int .i64 (k : Int)) ∧ Below w.heap.size w wr ∧ B0 ≤ wr.heap.size) (fun i _ => n - (intOf i).toNat)
            case atStart => exact ⟨0, Nat.zero_le _, rfl, by rw [lessA_0]; exact hT3, hio, hown3, hlow3, htop3⟩
            case round =>
              obtain ⟨q, hqn, rfl, hT4, hio4, hown4, hlow4, htop4⟩ := hrel
              by_cases hq : q < n
              · obtain ⟨pq, cq, hcq, hfq, hiq, hoq⟩ := hT4.row q B rfl hq
                obtain ⟨bq, oq, rfl, heq⟩ := rowM_cell hiq (j := c) (by omega)
                have hz := hn1.less f c q q c hq (by omega)
                obtain ⟨z, hz'⟩ : ∃ z, z = lessA X1 f c q q c := ⟨_, rfl⟩
                rw [← hz'] at heq hz
                have HZ := Lib.hid hz'
                clear hz'
                have i5 : (0 : Int) ≤ (q : Int) := by omega
                have i6 : (q : Int) < (n : Int) := by omega
                have i7 : (0 : Int) ≤ (c : Int) := by omega
                have i8 : (c : Int) < (m : Int) := by omega
                have hzr := num_r64 hz
                go_wp2_with fail
                have hcqd : wr.drew.cell? ⟨B, q, none⟩ = some (.slice (some ⟨bq, oq, none⟩) m cq) := hcq
                have hfqd : wr.drew.frozen? ⟨B, q, none⟩ = false := hfq
                have hltq : B < wr.drew.heap.size := lt_of_cell hcqd
                go_region_with (go_at_call 145; with_reducible refine (less_row _ _ _ _ m _ f z _ (hiq.below (Below.refl _ _).drew) (hio4.below (Below.refl _ _).drew) hzr hm1).mono ?_; rintro e w5 ⟨rfl, hi5, hb5, hs5⟩; have hcq5 := below_cell hb5 hcqd; have hfq5 := (hb5.frozen (p := ⟨B, q, none⟩) hltq).trans hfqd)
                all_goals
                  have hb5' : Below wr.heap.size wr w5 := ((Below.refl wr.heap.size wr).drew).trans hb5
                  have hT5 := (hT4.below hb5').store hq hi5 (fun _ g e e2 => by
                    have h1 := (hown4.lt g e).2
                    have e3 : some wr.heap.size = some g := e2
                    injection e3 with e4
                    omega)
                  rw [HZ.out, ← lessA_step] at hT5
                  have hio5 := (hio4.below hb5').store hcq5 (.slice (some ⟨wr.heap.size, 0, none⟩) m m)
                  have hown5 := ownsRow_setCell_below (owns_below hown4 hb5') (a := ⟨B, q, none⟩) hB2 (.slice (some ⟨wr.heap.size, 0, none⟩) m m)
                  have hlow5 := (hlow4.trans (hb5'.mono hlow4.size)).setCell (p := ⟨B, q, none⟩) hB1 (.slice (some ⟨wr.heap.size, 0, none⟩) m m)
                  have htop5 : B0 ≤ (w5.setCell ⟨B, q, none⟩ (.slice (some ⟨wr.heap.size, 0, none⟩) m m)).heap.size := by have := hb5'.size; simp [World.setCell]; omega
                  go_wp2_with fail
                  go_roundw
                  case rel => exact ⟨q + 1, by omega, by go_num, hT5, hio5, hown5, hlow5, htop5⟩
                  case measure => simp [intOf]; omega
              · obtain rfl : q = n := by omega
                obtain ⟨p9, c9, hc9, hf9, hi9, ho9⟩ := hT4.row piv.length B rfl hrn
                have hT6 := hT4.store hrn hio4 (fun _ g e e2 => by
                  have h1 := hpo g e
                  have e3 : some bo = some g := e2
                  injection e3 with e4
                  omega)
                have hown6 := ownsRow_setCell_below hown4 (a := ⟨B, piv.length, none⟩) hB2 (.slice (some ⟨bo, 0, none⟩) m m)
                have hlow6 := hlow4.setCell (p := ⟨B, piv.length, none⟩) hB1 (.slice (some ⟨bo, 0, none⟩) m m)
                have htop6 : B0 ≤ (wr.setCell ⟨B, piv.length, none⟩ (.slice (some ⟨bo, 0, none⟩) m m)).heap.size := by simp [World.setCell]; exact htop4
                obtain ⟨W6, hW6⟩ : ∃ W6, wr.setCell ⟨B, piv.length, none⟩ (.slice (some ⟨bo, 0, none⟩) m m) = W6 := ⟨_, rfl⟩
                have hs6 : W6.heap.size = wr.heap.size := by rw [← hW6]; simp [World.setCell]
                have hcn6 : (W6.alloc (.cells #[.int .i64 (c : Int)] 3)).cell? ⟨wr.heap.size, 0, none⟩ = some (.int .i64 (c : Int)) := by rw [← hs6]; exact cell_new1 _ _ _
                have HS6 := Lib.hid hs6
                rw [hW6] at hT6 hown6 hlow6 htop6
                clear hs6
                have hT7 := hT6.below ((Below.refl _ _).alloc (Nat.le_refl _) (.cells #[.int .i64 (c : Int)] 3))
                have hown7 := hown6.alloc (.cells #[.int .i64 (c : Int)] 3)
                have HW6 := Lib.hid hW6
                clear hW6
                have hpl6 : piv.length ≤ 1000000 := by omega
                have hbs6 : B0 ≤ (W6.alloc (.cells #[.int .i64 (c : Int)] 3)).heap.size := by simp; omega
                go_wp2_with (at_builtin; rw [HW6.out]; refine app_int_at rfl _ _ rfl B0 _ _ _ rfl hown7 wr.heap.size 1 c rfl hcn6 hpl6 hbs6 ?_; intro v9 w9 hown9 hgrow9 hob9)
                have hT9 := hT7.grown hgrow9 (fun g e => (hown7.lt g e).1) hob9
                have hb9 : Below B0 W6 w9 := ((Below.refl _ _).alloc htop6 _).grown hgrow9 (by simp; omega) (fun g e => (hown7.lt g e).1)
                have hstep := stepR_some HF2.out hk
                rw [← HS.out] at hstep
                have hX9 : pivR y q piv.length c kk = putM (lessA X1 f c q) piv.length f := by
                  unfold pivR ownR; rw [HX1.out, HF1.out, HV.out]
                have hR9 : RedS w.heap.size B0 (some ⟨B, 0, none⟩) q m X w (c + 1) v9 w9 := by
                  refine ⟨?_, ?_, hlow6.trans (hb9.mono (Nat.le_trans hB1 (Nat.le_of_lt hB2))), Nat.le_trans htop6 hb9.size⟩
                  · rw [hstep]
                    show RTab _ _ _ _ _ (pivR y q piv.length c kk) _ _
                    rw [hX9]; exact hT9
                  · rw [hstep]
                    show w9.ownsRow B0 3 1 v9 (piv ++ [c]).length ((piv ++ [c]).map fun (k : Nat) => Value.int .i64 (k : Int))
                    rw [List.length_append, List.map_append]; exact hown9
                exact ⟨⟨c + 1, v9, by omega, by go_num, rfl, hR9⟩, by simp [intOf]; omega⟩
        · obtain rfl : kk = n := by omega
          have HF2 := Lib.hid (findP_end HF.out (by omega) (Nat.le_refl _))
          have hkd : decide ((kk : Int) < (kk : Int)) = false := by simp
          have hstep := stepR_none HF2.out
          rw [← HS.out] at hstep
          have HST := Lib.hid hstep
          clear hstep
          go_wp2_with fail
          have hR9 : RedS w.heap.size B0 a' kk m X w (c + 1) (.slice pa piv.length pc) wr := by
            refine ⟨?_, ?_, hlow, htop⟩
            · rw [HST.out]; exact hT1
            · rw [HST.out]; exact hown
          go_roundw
          case rel => exact ⟨c + 1, _, by omega, by go_num, rfl, hR9⟩
          case measure => simp [intOf]; omega
    · obtain rfl : c = many := by omega
      go_wp2_with fail
      go_ret2
      exact ⟨a', c', _, B0, rfl, hc2, by rw [← HX.out]; exact hS⟩

end Go.Proofs.YtjjoadmkpbmhpaaGreat
