/- Package linear: reduce. -/
import Derived.Test.YtggnipkfliompaaGreatDoorMField
import Derived.Test.YtggnipkfliompaaGreatDoorMFlow
set_option maxHeartbeats 8000000
set_option maxRecDepth 100000
namespace Go.Proofs.YtggnipkfliompaaGreatDoor
open Go.RowKit
attribute [local go_sem] Oper.semAt_some
structure RedI (B tb n m : Nat) (tcap : Nat) (x : Mat) (w : World) (c : Nat) (pv : Value) (ds : List Deferred) (W : World) : Prop where
 tab : ∃ rb, Tab B tb rb n m (redM n x c).1 W ∧ (∀ i, i < n → rb i < w.heap.size)
 low : Below B w W
 box : W.cell? ⟨w.heap.size, 0, none⟩ = some (.slice (some ⟨tb, 0, none⟩) n tcap)
 pivots : W.ownsRow (w.heap.size + 1) 3 1 pv (redM n x c).2.length ((redM n x c).2.map fun (k : Nat) => Value.int .i64 (k : Int))
 marks : Marks B W ds
theorem owns_sim {W W' : World} {B e z D : Nat} {v : Value} {k : Nat} {xs : List Value} (h : W.ownsRow B e z v k xs) (hs : Sim D W W') : W'.ownsRow B e z v k xs := by
 obtain ⟨h1, h2⟩ := h
 refine ⟨h1, h2.imp (fun h => h) ?_⟩
 rintro ⟨g, cap, cur, a1, a2, a3, a4⟩
 exact ⟨g, cap, cur, a1, a2, hs.cells g _ a3 rfl, a4⟩
theorem owns_slice {W : World} {B e z : Nat} {v : Value} {k : Nat} {xs : List Value} (h : W.ownsRow B e z v k xs) : ∃ a c, v = .slice a k c := by
 obtain ⟨-, ⟨rfl, rfl⟩ | ⟨g, cap, cur, a1, -⟩⟩ := h
 ·exact ⟨_, _, rfl⟩
 ·exact ⟨_, _, a1⟩
theorem owns_below {W W' : World} {B e z : Nat} {v : Value} {k : Nat} {xs : List Value} (h : W.ownsRow B e z v k xs) (hs : Below W.heap.size W W') : W'.ownsRow B e z v k xs := by
 obtain ⟨h1, h2⟩ := h
 refine ⟨h1, h2.imp (fun h => h) ?_⟩
 rintro ⟨g, cap, cur, a1, a2, a3, a4⟩
 exact ⟨g, cap, cur, a1, a2, (hs.block g (Array.getElem?_eq_some_iff.1 a3).1).trans a3, a4⟩
theorem owns_mono {W : World} {B B' e z : Nat} {v : Value} {k : Nat} {xs : List Value} (h : W.ownsRow B e z v k xs) (hB : B' ≤ B) : W.ownsRow B' e z v k xs := by
 obtain ⟨h1, h2⟩ := h
 refine ⟨h1, h2.imp (fun h => h) ?_⟩
 rintro ⟨g, cap, cur, a1, a2, a3, a4⟩
 exact ⟨g, cap, cur, a1, Nat.le_trans hB a2, a3, a4⟩
theorem below_sim {B D : Nat} {w W W' : World} (h : Below B w W) (hs : Sim D W W') (hD : B ≤ D) : Below B w W' := h.trans ((sim_below hs).mono hD)
def swapC (W1 : World) (tb r k : Nat) (hr hk : Value) (L : Nat → Bool) (W : World) : Prop :=
 W = if L 15 then (W1.setCell ⟨tb, r, none⟩ hk).setCell ⟨tb, k, none⟩ hr else if L 13 then W1.setCell ⟨tb, r, none⟩ hk else W1
theorem swapC_other {W1 : World} {tb r k : Nat} {hr hk : Value} {L : Nat → Bool} {W : World} (i : Nat) (h1 : (15 == i) = false) (h2 : (13 == i) = false) (h : swapC W1 tb r k hr hk L W) : swapC W1 tb r k hr hk (fun j => j == i || L j) W := by
 unfold swapC at *; simp only [h1, h2, Bool.false_or]; exact h
theorem swapC_pre {W1 : World} {tb r k : Nat} {hr hk : Value} {L : Nat → Bool} {W : World} (h : swapC W1 tb r k hr hk L W) (h1 : L 13 = false) (h2 : L 15 = false) : W = W1 := by
 unfold swapC at h; rw [h1, h2] at h; exact h
theorem swapC_cell {W1 : World} {tb r k : Nat} {hr hk : Value} {L : Nat → Bool} {W : World} (h : swapC W1 tb r k hr hk L W) {b : Nat} {u : Value} (hb : b ≠ tb) (hc : W1.cell? ⟨b, 0, none⟩ = some u) : W.cell? ⟨b, 0, none⟩ = some u := by
 unfold swapC at h
 subst h
 split
 ·rw [set_other (.inl (fun e => hb e.symm)), set_other (.inl (fun e => hb e.symm))]; exact hc
 ·split
  ·rw [set_other (.inl (fun e => hb e.symm))]; exact hc
  ·exact hc
theorem swapM_num {x : Mat} {n m r k : Nat} (h : ∀ i j, i < n → j < m → 0 ≤ x i j ∧ x i j < 1073741789) (hr : r < n) (hk : k < n) : ∀ i j, i < n → j < m → 0 ≤ swapM x r k i j ∧ swapM x r k i j < 1073741789 := by
 intro i j hi hj
 unfold swapM
 split
 ·exact h k j hk hj
 ·split
  ·exact h r j hr hj
  ·exact h i j hi hj
theorem tab_swap {B tb : Nat} {rb : Nat → Nat} {n m : Nat} {x : Mat} {W : World} (h : Tab B tb rb n m x W) {r k : Nat} (hr : r < n) (hk : k < n) {ra rc : Nat}
  (e1 : W.cell? ⟨tb, r, none⟩ = some (.slice (some ⟨rb r, 0, none⟩) m ra)) (e2 : W.cell? ⟨tb, k, none⟩ = some (.slice (some ⟨rb k, 0, none⟩) m rc)) :
  Tab B tb (fun i => if i = r then rb k else if i = k then rb r else rb i) n m (swapM x r k) ((W.setCell ⟨tb, r, none⟩ (.slice (some ⟨rb k, 0, none⟩) m rc)).setCell ⟨tb, k, none⟩ (.slice (some ⟨rb r, 0, none⟩) m ra)) where
 tbB := h.tbB
 rbB := fun i hi => by
  split
  ·exact h.rbB k hk
  ·split
   ·exact h.rbB r hr
   ·exact h.rbB i hi
 ne := fun i hi => by
  split
  ·exact h.ne k hk
  ·split
   ·exact h.ne r hr
   ·exact h.ne i hi
 inj := fun i j hi hj => by
  intro e
  by_cases i1 : i = r
  ·rw [if_pos i1] at e
   by_cases j1 : j = r
   ·omega
   ·rw [if_neg j1] at e
    by_cases j2 : j = k
    ·rw [if_pos j2] at e; have := h.inj k r hk hr e; omega
    ·rw [if_neg j2] at e; have := h.inj k j hk hj e; omega
  ·rw [if_neg i1] at e
   by_cases i2 : i = k
   ·rw [if_pos i2] at e
    by_cases j1 : j = r
    ·rw [if_pos j1] at e; have := h.inj r k hr hk e; omega
    ·rw [if_neg j1] at e
     by_cases j2 : j = k
     ·omega
     ·rw [if_neg j2] at e; have := h.inj r j hr hj e; omega
   ·rw [if_neg i2] at e
    by_cases j1 : j = r
    ·rw [if_pos j1] at e; have := h.inj i k hi hk e; omega
    ·rw [if_neg j1] at e
     by_cases j2 : j = k
     ·rw [if_pos j2] at e; have := h.inj i r hi hr e; omega
     ·rw [if_neg j2] at e; exact h.inj i j hi hj e
 row := fun i hi => by
  have c1 : ((W.setCell ⟨tb, r, none⟩ (.slice (some ⟨rb k, 0, none⟩) m rc)).setCell ⟨tb, k, none⟩ (.slice (some ⟨rb r, 0, none⟩) m ra)).cell? ⟨tb, k, none⟩ = some (.slice (some ⟨rb r, 0, none⟩) m ra) := by
   refine World.cell?_setCell_same' _ _ _ ?_
   by_cases e : r = k
   ·subst e; rw [World.cell?_setCell_same' _ _ _ (by rw [e1]; rfl)]; rfl
   ·rw [set_other (.inr e), e2]; rfl
  by_cases i1 : i = r
  ·subst i1
   rw [if_pos rfl]
   by_cases i2 : i = k
   ·subst i2; exact ⟨_, c1⟩
   ·rw [set_other (.inr (fun e => i2 e.symm)), World.cell?_setCell_same' _ _ _ (by rw [e1]; rfl)]; exact ⟨_, rfl⟩
  ·rw [if_neg i1]
   by_cases i2 : i = k
   ·subst i2; rw [if_pos rfl]; exact ⟨_, c1⟩
   ·rw [if_neg i2, set_other (.inr (fun e => i2 e.symm)), set_other (.inr (fun e => i1 e.symm))]; exact h.row i hi
 rowF := fun i hi => by rw [World.frozen?_setCell, World.frozen?_setCell]; exact h.rowF i hi
 elem := fun i j hi hj => by
  unfold swapM
  by_cases i1 : i = r
  ·rw [if_pos i1, if_pos i1, set_other (.inl (fun e => h.ne k hk e.symm)), set_other (.inl (fun e => h.ne k hk e.symm))]; exact h.elem k j hk hj
  ·rw [if_neg i1, if_neg i1]
   by_cases i2 : i = k
   ·rw [if_pos i2, if_pos i2, set_other (.inl (fun e => h.ne r hr e.symm)), set_other (.inl (fun e => h.ne r hr e.symm))]; exact h.elem r j hr hj
   ·rw [if_neg i2, if_neg i2, set_other (.inl (fun e => h.ne i hi e.symm)), set_other (.inl (fun e => h.ne i hi e.symm))]; exact h.elem i j hi hj
 elemF := fun i j hi hj => by
  rw [World.frozen?_setCell, World.frozen?_setCell]
  by_cases i1 : i = r
  ·rw [if_pos i1]; exact h.elemF k j hk hj
  ·rw [if_neg i1]
   by_cases i2 : i = k
   ·rw [if_pos i2]; exact h.elemF r j hr hj
   ·rw [if_neg i2]; exact h.elemF i j hi hj
 num := swapM_num h.num hr hk
theorem box3 (w : World) (a b c : Value) (ta tb tc : TypeId) : ∃ W, W = (((w.alloc (.cells #[a] ta)).alloc (.cells #[b] tb)).alloc (.cells #[c] tc)) ∧
  Below w.heap.size w W ∧ W.heap.size = w.heap.size + 1 + 1 + 1 ∧ W.cell? ⟨w.heap.size, 0, none⟩ = some a ∧ W.cell? ⟨w.heap.size + 1, 0, none⟩ = some b ∧ W.cell? ⟨w.heap.size + 1 + 1, 0, none⟩ = some c := by
 refine ⟨_, rfl, below_three w _ _ _, by simp, ?_, ?_, ?_⟩
 ·simp [go_sem]
 ·simp [go_sem]
 ·simp [go_sem]
def scaleJ (x : Mat) (r c : Nat) (v : Int) (j : Nat) : Mat := fun i k => if i = r ∧ c ≤ k ∧ k < c + j then x r k * v % 1073741789 else x i k
theorem scaleJ_at (x : Mat) (r c : Nat) (v : Int) (j : Nat) : scaleJ x r c v j r (c + j) = x r (c + j) := by unfold scaleJ; rw [if_neg (by omega)]
theorem scaleJ_succ (x : Mat) (r c : Nat) (v : Int) (j i k : Nat) : scaleJ x r c v (j + 1) i k = if i = r ∧ k = c + j then x r (c + j) * v % 1073741789 else scaleJ x r c v j i k := by
 unfold scaleJ
 by_cases e : i = r ∧ k = c + j
 ·obtain ⟨rfl, rfl⟩ := e
  rw [if_pos ⟨rfl, by omega, by omega⟩, if_pos ⟨rfl, rfl⟩]
 ·rw [if_neg e]
  by_cases e2 : i = r ∧ c ≤ k ∧ k < c + j
  ·rw [if_pos e2, if_pos ⟨e2.1, e2.2.1, by omega⟩]
  ·rw [if_neg e2, if_neg]
   rintro ⟨h1, h2, h3⟩
   apply e2
   refine ⟨h1, h2, ?_⟩
   by_cases h4 : k = c + j
   ·exact absurd ⟨h1, h4⟩ e
   ·omega
structure ScaleI (B tb : Nat) (rb : Nat → Nat) (n m : Nat) (x : Mat) (w0 : World) (s0 s1 s2 : Nat) (tv rv : Value) (r c : Nat) (v : Int) (j : Nat) (W : World) : Prop where
 tab : Tab B tb rb n m (scaleJ x r c v j) W
 but : w0.grownBy W (some (rb r))
 c1 : W.cell? ⟨s0, 0, none⟩ = some tv
 c2 : W.cell? ⟨s1, 0, none⟩ = some (.int .i64 r)
 c3 : W.cell? ⟨s2, 0, none⟩ = some (.int .i64 v)
 c4 : W.cell? ⟨s2 + 1, 0, none⟩ = some rv
 c5 : W.cell? ⟨s2 + 1 + 1, 0, none⟩ = some (.int .i64 c)
theorem scaleI_sim {B tb : Nat} {rb : Nat → Nat} {n m : Nat} {x : Mat} {w0 : World} {s0 s1 s2 : Nat} {tv rv : Value} {r c j D : Nat} {v : Int} {W W' : World} (h : ScaleI B tb rb n m x w0 s0 s1 s2 tv rv r c v j W) (hs : Sim D W W') (hD : w0.heap.size ≤ D) : ScaleI B tb rb n m x w0 s0 s1 s2 tv rv r c v j W' :=
 ⟨tab_sim h.tab hs, grown_sim h.but hs hD, sim_cell hs h.c1, sim_cell hs h.c2, sim_cell hs h.c3, sim_cell hs h.c4, sim_cell hs h.c5⟩
theorem owns_grown {W W' : World} {B e z : Nat} {v : Value} {k : Nat} {xs : List Value} {r : Nat} (h : W.ownsRow B e z v k xs) (hg : W.grownBy W' (some r)) (hr : r < B) : W'.ownsRow B e z v k xs := by
 refine h.kept hg ?_
 cases hb : v.ownBlock with
 | none => exact .inl rfl
 | some g =>
  right
  intro e
  have := (h.lt g hb).1
  cases e; omega
theorem others_grown {W W' : World} {r : Nat} {o : Nat} {u : Value} (hg : W.grownBy W' (some r)) (hc : W.cell? ⟨r, o, none⟩ = some u) : KeepsOthers W W' :=
 KeepsOthers.of_grownBy hg (fun j o' e ho => by
  cases e
  obtain ⟨o2, h1, h2⟩ := cells_of_cell hc
  rw [h1] at ho; cases ho; exact h2)
theorem grown_cell {W W' : World} {r b o : Nat} {v : Value} (hg : W.grownBy W' (some r)) (hb : b ≠ r) (hc : W.cell? ⟨b, o, none⟩ = some v) : W'.cell? ⟨b, o, none⟩ = some v := by
 rw [World.cell?_of_block (w := W) (hg.block b (lt_of_cell hc) (fun e => hb (by cases e; rfl)))]; exact hc
theorem clearA_step {x : Mat} {r c u : Nat} (h : u ≠ r) : clearM (clearA x r c u) u r c = clearA x r c (u + 1) := by
 funext i k
 have e1 : ∀ k, clearA x r c u u k = x u k := fun k => by unfold clearA; rw [if_neg (by omega)]
 have e2 : ∀ k, clearA x r c u r k = x r k := fun k => by unfold clearA; rw [if_neg (by omega)]
 unfold clearM
 rw [e1, e1, e2]
 by_cases h1 : i = u ∧ c ≤ k
 ·obtain ⟨rfl, h1⟩ := h1
  rw [if_pos ⟨rfl, h1⟩]; unfold clearA; rw [if_pos ⟨h, by omega, h1⟩]
 ·rw [if_neg h1]
  unfold clearA
  by_cases h2 : i ≠ r ∧ i < u ∧ c ≤ k
  ·rw [if_pos h2, if_pos ⟨h2.1, by omega, h2.2.2⟩]
  ·rw [if_neg h2, if_neg]
   rintro ⟨a1, a2, a3⟩
   have : i ≠ u := fun e => h1 ⟨e, a3⟩
   exact h2 ⟨a1, by omega, a3⟩
theorem clearA_skip {x : Mat} {r c : Nat} : clearA x r c r = clearA x r c (r + 1) := by
 funext i k
 unfold clearA
 by_cases h2 : i ≠ r ∧ i < r ∧ c ≤ k
 ·rw [if_pos h2, if_pos ⟨h2.1, by omega, h2.2.2⟩]
 ·rw [if_neg h2, if_neg (by rintro ⟨a1, a2, a3⟩; exact h2 ⟨a1, by omega, a3⟩)]
theorem clearA_zero {x : Mat} {r c : Nat} : clearA x r c 0 = x := by funext i k; unfold clearA; rw [if_neg (by omega)]
theorem clearA_congr {x y : Mat} {m r c u i k : Nat} (h : ∀ i k, k < m → x i k = y i k) (hc : c < m) (hk : k < m) : clearA x r c u i k = clearA y r c u i k := by
 unfold clearA; rw [h i k hk, h i c hc, h r k hk]
theorem tab_low {B tb : Nat} {rb : Nat → Nat} {n m S : Nat} {x : Mat} {W W' : World} (h : Tab B tb rb n m x W) (_hm0 : 0 < m) (hs : Below S W W') (h1 : tb < S) (h2 : ∀ i, i < n → rb i < S) : Tab B tb rb n m x W' where
 tbB := h.tbB
 rbB := h.rbB
 ne := h.ne
 inj := h.inj
 row := fun i hi => let ⟨rc, hc⟩ := h.row i hi; ⟨rc, by rw [hs.cell (p := ⟨tb, i, none⟩) h1]; exact hc⟩
 rowF := fun i hi => by rw [hs.frozen (p := ⟨tb, i, none⟩) h1]; exact h.rowF i hi
 elem := fun i k hi hk => by rw [hs.cell (p := ⟨rb i, k, none⟩) (h2 i hi)]; exact h.elem i k hi hk
 elemF := fun i k hi hk => by rw [hs.frozen (p := ⟨rb i, k, none⟩) (h2 i hi)]; exact h.elemF i k hi hk
 num := h.num
theorem marks_fresh {B : Nat} {W : World} {D : Nat} (hD : W.heap.size ≤ D) : ∀ {ds : List Deferred}, Marks B W ds → ∀ d' ∈ ds, d'.target ≠ .collected D
 | [], _, d', h => by cases h
 | d :: ds, ⟨⟨D', h1, _, h2, _⟩, hr⟩, d', h => by
  rcases List.mem_cons.1 h with e | h
  ·subst e
   rw [h1]
   intro e
   have e' : D' = D := by cases e; rfl
   have := (Array.getElem?_eq_some_iff.1 h2).1
   omega
  ·exact marks_fresh hD hr d' h
theorem others_owns {W W' : World} {B e z : Nat} {v : Value} {k : Nat} {xs : List Value} (h : W.ownsRow B e z v k xs) (hg : W.grownBy W' v.ownBlock) : KeepsOthers W W' :=
 KeepsOthers.of_grownBy hg (fun j o hj ho => by
  obtain ⟨-, ⟨rfl, -⟩ | ⟨g, cap, cur, rfl, -, hh, -⟩⟩ := h
  ·cases hj
  ·cases hj; rw [hh] at ho; cases ho; rfl)
structure AllI (B tb : Nat) (rb : Nat → Nat) (n m : Nat) (x : Mat) (w W3 : World) (s0 s1 : Nat) (tv : Value) (r c : Nat) (pv : Value) (piv : List Nat) (u : Nat) (W : World) : Prop where
 tab : Tab B tb rb n m (clearA x r c u) W
 low : Below B w W
 box : W.cell? ⟨s0, 0, none⟩ = some tv
 rbox : W.cell? ⟨s1, 0, none⟩ = some (.int .i64 r)
 pivots : W.ownsRow (s0 + 1) 3 1 pv piv.length (piv.map fun (k : Nat) => Value.int .i64 (k : Int))
 others : KeepsOthers W3 W
abbrev redFrame (S tb n tcap many c : Nat) (pv : Value) (u : Nat → Value) : Array Value := #[.slice (some ⟨tb, 0, none⟩) n tcap, .int .i64 many, .pointer (some ⟨S, 0, none⟩), u 3, pv, u 5, u 6, u 7, u 8, u 9, u 10, u 11, u 12, .int .i64 many, .int .i64 c, u 15, u 16, u 17, u 18, u 19, u 20, u 21, u 22, u 23, u 24, u 25, u 26, u 27, u 28, u 29, u 30, u 31, u 32, u 33, u 34, u 35, u 36, u 37, u 38, u 39, u 40, u 41, u 42, u 43, u 44, u 45, u 46, u 47, u 48, u 49, u 50, u 51, u 52, u 53, u 54, u 55, u 56, u 57, u 58, u 59, u 60, u 61, u 62, u 63, u 64, u 65, u 66, u 67, u 68, u 69, u 70, u 71, u 72, u 73, u 74, u 75, u 76, u 77, u 78, u 79, u 80, u 81, u 82, u 83, u 84, u 85, u 86, u 87, u 88, u 89, u 90, u 91, u 92, u 93, u 94, u 95, u 96, u 97, u 98, u 99, u 100, u 101]
def RedA (B tb n m tcap many : Nat) (x : Mat) (w : World) (a : Act) (W : World) : Prop :=
 ∃ (c : Nat) (pv : Value) (ds : List Deferred) (u : Nat → Value), c ≤ many ∧ a = { tmps := redFrame w.heap.size tb n tcap many c pv u, defers := ds } ∧ RedI B tb n m tcap x w c pv ds W
theorem redA_mk {B tb n m tcap many c : Nat} {x : Mat} {w W : World} {t : Array Value} {ds : List Deferred} {pv : Value} (hc : c ≤ many) (ht : t = redFrame w.heap.size tb n tcap many c pv (fun i => t.getD i undef)) (hI : RedI B tb n m tcap x w c pv ds W) :
  RedA B tb n m tcap many x w { tmps := t, defers := ds } W := ⟨c, pv, ds, _, hc, by rw [← ht], hI⟩
theorem reduce_any (B tb : Nat) (rb : Nat → Nat) (n m : Nat) (x : Mat) (w : World) (hT : Tab B tb rb n m x w) (htb : tb < w.heap.size) (hBw : B ≤ w.heap.size) (tcap many : Nat) (hmany : many ≤ m) (hm0 : 0 < m) (hn : n ≤ 1000000) (hm : m ≤ 1000000) :
  Calls Tryz.prog 181 #[.slice (some ⟨tb, 0, none⟩) n tcap, .int .i64 many] w fun e w' =>
   ∃ pv rb', e = .returned pv ∧ w'.ownsRow B 3 1 pv (redM n x many).2.length ((redM n x many).2.map fun (k : Nat) => Value.int .i64 (k : Int)) ∧ Tab B tb rb' n m (redM n x many).1 w' ∧ Below B w w' := by
 refine calls_of_range Tryz.func181 rfl ?_
 simp only [Tryz.ntmps181, List.size_toArray, List.length_cons, List.length_nil, Nat.reduceAdd, Nat.reduceSub, Array.replicate_succ, Array.replicate_zero, List.push_toArray, List.append_toArray, List.nil_append, List.cons_append]
 go_wp2_with fail
 have hb1 : Below w.heap.size w (w.alloc (.cells #[.slice (some ⟨tb, 0, none⟩) n tcap] 187)) := (Below.refl _ _).alloc (Nat.le_refl _) _
 refine wp_loop (RedA B tb n m tcap many x w) (fun a _ => many - (intOf (a.tmps.getD 14 undef)).toNat) ?start ?round
 case start =>
  refine redA_mk (Nat.zero_le _) rfl ⟨⟨rb, tab_below hT hb1, fun i hi => lt_of_cell (hT.elem i 0 hi hm0)⟩, hb1.mono hBw, ?_, World.ownsRow_nil _ _ _ _, trivial⟩
  rw [World.cell?_alloc_at _ _ _ _ rfl]; rfl
 case round =>
  intro a W hA
  obtain ⟨c, pv, ds, u, hcm, rfl, hI⟩ := hA
  by_cases hlt : c < many
  case neg =>
   obtain rfl : c = many := by omega
   go_wp2_with fail
   obtain ⟨⟨rb1, hT1, -⟩, hlow, -, hpv, hmk⟩ := hI
   refine leaves_marks (B := B) (v := pv) (fun w => results_tmp (t := 4) rfl _ _ _) ?_ ds W hmk ⟨pv, rb1, rfl, owns_mono hpv (by omega), hT1, hlow⟩
   rintro w1 w2 ⟨pv', rb', h1, h2, h3, h4⟩ hs
   exact ⟨pv', rb', h1, owns_sim h2 hs, tab_sim h3 hs, below_sim h4 hs (Nat.le_refl _)⟩
  obtain ⟨⟨rb1, hT1, hrbl⟩, hlow, hbx, hpv, hmk⟩ := hI
  generalize hx1 : redM n x c = st at hT1 hpv
  obtain ⟨y, piv⟩ := st
  have hpn : piv.length ≤ n := by have := redM_len n x c; rw [hx1] at this; exact this
  have hst := redM_succ n x c
  rw [hx1] at hst
  have HS := Lib.hid hst
  clear hst hx1
  obtain ⟨pa, pc, rfl⟩ := owns_slice hpv
  simp only at hT1 hpv
  have hb1' : Below W.heap.size W (W.alloc (.cells #[.int .i64 piv.length] 3)) := (Below.refl _ _).alloc (Nat.le_refl _) _
  have bx1 := below_cell hb1' hbx
  have hT1' := tab_below hT1 hb1'
  go_wp2_with fail
  obtain ⟨W1, hW1⟩ : ∃ W1, W.alloc (.cells #[.int .i64 piv.length] 3) = W1 := ⟨_, rfl⟩
  rw [hW1] at bx1 hT1' hb1' ⊢
  go_loop [7] (fun k => ∃ kk : Nat, kk ≤ n ∧ piv.length ≤ kk ∧ k = .int .i64 kk ∧ Hid (findP y n c piv.length = findF y c (n - kk) kk)) (fun k => n - (intOf k).toNat)
  case atStart => exact ⟨piv.length, hpn, Nat.le_refl _, rfl, Lib.hid rfl⟩
  case round =>
   obtain ⟨kk, hkn, hpk, rfl, HF⟩ := hrel
   by_cases hk : kk < n
   ·obtain ⟨rk, hrk⟩ := hT1'.row kk hk
    have hek := hT1'.elem kk c hk (by omega)
    by_cases h0 : y kk c = 0
    ·have HF2 := Lib.hid (findP_step HF.out hk h0)
     rw [h0] at hek
     clear h0
     go_wp2_with fail
     go_round
     case rel => exact ⟨kk + 1, by omega, by omega, by go_num, HF2⟩
     case measure => simp [intOf]; omega
    ·have HF2 := Lib.hid (findP_here HF.out hk h0)
     have h0' : (y kk c == 0) = false := by simpa using h0
     have hkne : ((kk : Int) == (n : Int)) = false := by rw [beq_eq_false_iff_ne]; omega
     clear h0
     have hr1 : W1.cell? ⟨W.heap.size, 0, none⟩ = some (.int .i64 piv.length) := by rw [← hW1, World.cell?_alloc_at _ _ _ _ rfl]; rfl
     have hfk := hT1'.rowF kk hk
     have hrn : piv.length < n := by omega
     obtain ⟨rr, hrr⟩ := hT1'.row piv.length hrn
     have hfr := hT1'.rowF piv.length hrn
     go_wp2_with fail
     have hS : w.heap.size < W.heap.size := lt_of_cell hbx
     have ntb : w.heap.size ≠ tb := by omega
     have ntb2 : W.heap.size ≠ tb := by omega
     refine wp_flow (by kernel_rfl) (by kernel_rfl) (swapC W1.drew tb piv.length kk (.slice (some ⟨rb1 piv.length, 0, none⟩) m rr) (.slice (some ⟨rb1 kk, 0, none⟩) m rk)) (by unfold swapC; rfl) (fun os K hos hK => ?_)
     have HK := Lib.hid hK
     have HO := Lib.hid hos
     clear hK hos
     have wait : ∀ j i, waitsB _ j i = true → waitsB os j i = true := fun j i h => by rw [← HO.out]; exact h
     have w137 := Lib.hid (wait 13 7 (by kernel_rfl))
     have w1311 := Lib.hid (wait 13 11 (by kernel_rfl))
     have w1513 := Lib.hid (wait 15 13 (by kernel_rfl))
     have w157 := Lib.hid (wait 15 7 (by kernel_rfl))
     have w1511 := Lib.hid (wait 15 11 (by kernel_rfl))
     clear wait HO
     have bxd : W1.drew.cell? ⟨w.heap.size, 0, none⟩ = some (.slice (some ⟨tb, 0, none⟩) n tcap) := bx1
     have hrd : W1.drew.cell? ⟨W.heap.size, 0, none⟩ = some (.int .i64 piv.length) := hr1
     have hkd : W1.drew.cell? ⟨tb, kk, none⟩ = some (.slice (some ⟨rb1 kk, 0, none⟩) m rk) := hrk
     have hqd : W1.drew.cell? ⟨tb, piv.length, none⟩ = some (.slice (some ⟨rb1 piv.length, 0, none⟩) m rr) := hrr
     apply flow_step
     ·intro L W2 hcl hLi _ hC
      have f1 := swapC_cell hC ntb bxd
      have f2 := swapC_cell hC ntb2 hrd
      have hC' := swapC_other 0 rfl rfl hC
      clear hC hcl hLi
      go_simp
      exact ⟨hC', rfl⟩
     go_simp
     apply flow_step
     ·intro L W2 hcl hLi _ hC
      have f1 := swapC_cell hC ntb bxd
      have f2 := swapC_cell hC ntb2 hrd
      have hC' := swapC_other 1 rfl rfl hC
      clear hC hcl hLi
      go_simp
      exact ⟨hC', rfl⟩
     go_simp
     apply flow_step
     ·intro L W2 hcl hLi _ hC
      have f1 := swapC_cell hC ntb bxd
      have f2 := swapC_cell hC ntb2 hrd
      have hC' := swapC_other 2 rfl rfl hC
      clear hC hcl hLi
      go_simp
      exact ⟨hC', rfl⟩
     go_simp
     apply flow_step
     ·intro L W2 hcl hLi _ hC
      have f1 := swapC_cell hC ntb bxd
      have f2 := swapC_cell hC ntb2 hrd
      have hC' := swapC_other 3 rfl rfl hC
      clear hC hcl hLi
      go_simp
      exact ⟨hC', rfl⟩
     go_simp
     apply flow_step
     ·intro L W2 hcl hLi _ hC
      have f1 := swapC_cell hC ntb bxd
      have f2 := swapC_cell hC ntb2 hrd
      have hC' := swapC_other 4 rfl rfl hC
      clear hC hcl hLi
      go_simp
      exact ⟨hC', rfl⟩
     go_simp
     apply flow_step
     ·intro L W2 hcl hLi _ hC
      have f1 := swapC_cell hC ntb bxd
      have f2 := swapC_cell hC ntb2 hrd
      have hC' := swapC_other 5 rfl rfl hC
      clear hC hcl hLi
      go_simp
      exact ⟨hC', rfl⟩
     go_simp
     apply flow_step
     ·intro L W2 hcl hLi _ hC
      have f1 := swapC_cell hC ntb bxd
      have f2 := swapC_cell hC ntb2 hrd
      have hC' := swapC_other 6 rfl rfl hC
      clear hC hcl hLi
      go_simp
      exact ⟨hC', rfl⟩
     go_simp
     apply flow_step
     ·intro L W2 hcl hLi _ hC
      have e2 := swapC_pre hC (not_yet hcl 13 7 w137.out hLi) (not_yet hcl 15 7 w157.out hLi)
      have hC' := swapC_other 7 rfl rfl hC
      subst e2
      clear hC hcl hLi
      go_simp
      exact ⟨hC', rfl⟩
     go_simp
     apply flow_step
     ·intro L W2 hcl hLi _ hC
      have f1 := swapC_cell hC ntb bxd
      have f2 := swapC_cell hC ntb2 hrd
      have hC' := swapC_other 8 rfl rfl hC
      clear hC hcl hLi
      go_simp
      exact ⟨hC', rfl⟩
     go_simp
     apply flow_step
     ·intro L W2 hcl hLi _ hC
      have f1 := swapC_cell hC ntb bxd
      have f2 := swapC_cell hC ntb2 hrd
      have hC' := swapC_other 9 rfl rfl hC
      clear hC hcl hLi
      go_simp
      exact ⟨hC', rfl⟩
     go_simp
     apply flow_step
     ·intro L W2 hcl hLi _ hC
      have f1 := swapC_cell hC ntb bxd
      have f2 := swapC_cell hC ntb2 hrd
      have hC' := swapC_other 10 rfl rfl hC
      clear hC hcl hLi
      go_simp
      exact ⟨hC', rfl⟩
     go_simp
     apply flow_step
     ·intro L W2 hcl hLi _ hC
      have e2 := swapC_pre hC (not_yet hcl 13 11 w1311.out hLi) (not_yet hcl 15 11 w1511.out hLi)
      have hC' := swapC_other 11 rfl rfl hC
      subst e2
      clear hC hcl hLi
      go_simp
      exact ⟨hC', rfl⟩
     go_simp
     apply flow_step
     ·intro L W2 hcl hLi _ hC
      have f1 := swapC_cell hC ntb bxd
      have f2 := swapC_cell hC ntb2 hrd
      have hC' := swapC_other 12 rfl rfl hC
      clear hC hcl hLi
      go_simp
      exact ⟨hC', rfl⟩
     go_simp
     apply flow_step
     ·intro L W2 hcl hLi _ hC
      have e15 := not_yet hcl 15 13 w1513.out hLi
      have e2 := swapC_pre hC hLi e15
      subst e2
      have hC' : swapC W1.drew tb piv.length kk (.slice (some ⟨rb1 piv.length, 0, none⟩) m rr) (.slice (some ⟨rb1 kk, 0, none⟩) m rk) (fun j => j == 13 || L j) (W1.drew.setCell ⟨tb, piv.length, none⟩ (.slice (some ⟨rb1 kk, 0, none⟩) m rk)) := by
       unfold swapC; simp [e15]
      have hfd : W1.drew.frozen? ⟨tb, piv.length, none⟩ = false := hfr
      clear hC hcl hLi e15
      go_simp
      exact ⟨hC', rfl⟩
     go_simp
     apply flow_step
     ·intro L W2 hcl hLi _ hC
      have hC' := swapC_other 14 rfl rfl hC
      clear hC hcl hLi
      go_simp
      exact ⟨hC', rfl⟩
     go_simp
     apply flow_step
     ·intro L W2 hcl hLi hpre hC
      have e13 := hpre 13 w1513.out
      have e2 : W2 = W1.drew.setCell ⟨tb, piv.length, none⟩ (.slice (some ⟨rb1 kk, 0, none⟩) m rk) := by unfold swapC at hC; rw [hLi, e13] at hC; exact hC
      have hC' : swapC W1.drew tb piv.length kk (.slice (some ⟨rb1 piv.length, 0, none⟩) m rr) (.slice (some ⟨rb1 kk, 0, none⟩) m rk) (fun j => j == 15 || L j) (W2.setCell ⟨tb, kk, none⟩ (.slice (some ⟨rb1 piv.length, 0, none⟩) m rr)) := by
       unfold swapC; rw [e2]; simp
      have hfd : W2.frozen? ⟨tb, kk, none⟩ = false := by rw [e2, World.frozen?_setCell]; exact hfk
      have hcd : ∃ v, W2.cell? ⟨tb, kk, none⟩ = some v := by
       rw [e2]
       by_cases e : piv.length = kk
       ·rw [e]; exact ⟨_, World.cell?_setCell_same' _ _ _ (by rw [hkd]; rfl)⟩
       ·rw [set_other (.inr e)]; exact ⟨_, hkd⟩
      obtain ⟨v0, hcd⟩ := hcd
      clear hC hcl hLi e13 e2
      go_simp
      exact ⟨hC', rfl⟩
     go_simp
     apply flow_end
     apply HK.out
     intro W2 L hL hC
     have hC2 : W2 = (W1.drew.setCell ⟨tb, piv.length, none⟩ (.slice (some ⟨rb1 kk, 0, none⟩) m rk)).setCell ⟨tb, kk, none⟩ (.slice (some ⟨rb1 piv.length, 0, none⟩) m rr) := by
      unfold swapC at hC; rw [hL 15 (by decide)] at hC; exact hC
     have hT2 := hC2 ▸ tab_swap (tab_below hT1' (Below.refl _ _).drew) hrn hk hqd hkd
     have bx2 := swapC_cell hC ntb bxd
     have hr2 := swapC_cell hC ntb2 hrd
     have hlow2 : Below B w W2 := by
      rw [hC2]
      exact (((hlow.trans (hb1'.mono (Nat.le_trans hBw hlow.size))).drew).setCell hT.tbB _).setCell hT.tbB _
     have hpv2 := hC2 ▸ ownsRow_setCell_below (ownsRow_setCell_below ((owns_below hpv hb1').drew) (a := ⟨tb, piv.length, none⟩) (by show tb < _; omega) (.slice (some ⟨rb1 kk, 0, none⟩) m rk)) (a := ⟨tb, kk, none⟩) (by show tb < _; omega) (.slice (some ⟨rb1 piv.length, 0, none⟩) m rr)
     have hko2 : KeepsOthers W W2 := by
      rw [hC2]
      exact (((others_of_below hb1').trans (KeepsOthers.drew _)).trans (KeepsOthers.setCell _ _ _)).trans (KeepsOthers.setCell _ _ _)
     have hmk2 := marks_later hmk hko2
     have hsz2 : W.heap.size < W2.heap.size := lt_of_cell hr2
     clear hC2 hC hL hrd bxd hkd hqd w137 w1311 w1513 w157 w1511 hT1' bx1 hr1 hfk hfr hrr hrk hek hb1' HK hpv hmk hT1
     obtain ⟨rb2, hrb2⟩ : ∃ rb2 : Nat → Nat, rb2 = (fun i => if i = piv.length then rb1 kk else if i = kk then rb1 piv.length else rb1 i) := ⟨_, rfl⟩
     rw [← hrb2] at hT2
     have hrbl2 : ∀ i, i < n → rb2 i < w.heap.size := fun i hi => by
      rw [hrb2]
      show (if i = piv.length then rb1 kk else if i = kk then rb1 piv.length else rb1 i) < w.heap.size
      split
      ·exact hrbl kk hk
      ·split
       ·exact hrbl _ hrn
       ·exact hrbl i hi
     clear hrb2
     have hcm2 : c < m := by omega
     obtain ⟨r2, hrr2⟩ := hT2.row piv.length hrn
     have hev := hT2.elem piv.length c hrn hcm2
     have hnz : y kk c ≠ 0 := by intro e; rw [e] at h0'; cases h0'
     have hsw : swapM y piv.length kk piv.length c = y kk c := by unfold swapM; rw [if_pos rfl]
     rw [hsw] at hev
     have hyn := hT2.num piv.length c hrn hcm2
     rw [hsw] at hyn
     have hinv : (y kk c) % 1073741789 ≠ 0 := by omega
     have hinvH := Lib.hid hinv
     clear hinv hsw
     have hb3 : Below W2.heap.size W2 (W2.alloc (.cells #[.int .i64 (invQ (y kk c))] 3)) := (Below.refl _ _).alloc (Nat.le_refl _) _
     have bx3 := below_cell hb3 bx2
     have hr3 := below_cell hb3 hr2
     have hrr3 := below_cell hb3 hrr2
     go_wp2_with fail
     with_reducible refine (inverse_any _ _ (num_r64 hyn) hinvH.out).mono ?_
     rintro e w' ⟨rfl, rfl⟩
     go_wp2_with fail
     with_reducible refine (after_any _ _ _ ⟨_, _, _, rfl⟩).mono ?_
     rintro e w5 ⟨rfl, hw5⟩
     obtain ⟨W5, hW5, hb5, hs5, q1, q2, q3⟩ := box3 W2 (.int .i64 (invQ (y kk c))) (.slice (some ⟨rb2 piv.length, 0, none⟩) m r2) (.int .i64 c) 3 23 3
     obtain rfl : w5 = W5 := hw5.trans hW5.symm
     clear hw5 hW5
     go_wp2_with fail
     have hT5 : Tab B tb rb2 n m (scaleJ (swapM y piv.length kk) piv.length c (invQ (y kk c)) 0) w5 := by
      have : scaleJ (swapM y piv.length kk) piv.length c (invQ (y kk c)) 0 = swapM y piv.length kk := by funext i k; unfold scaleJ; rw [if_neg (by omega)]
      rw [this]; exact tab_below hT2 hb5
     have bx5 := below_cell hb5 bx2
     have hr5 := below_cell hb5 hr2
     have hvn : 0 ≤ invQ (y kk c) ∧ invQ (y kk c) < 1073741789 := mod_num _
     obtain ⟨v, hv⟩ : ∃ v, v = invQ (y kk c) := ⟨_, rfl⟩
     rw [← hv] at hT5 q1 hvn
     have HV := Lib.hid hv
     obtain ⟨z, hz⟩ : ∃ z, z = swapM y piv.length kk := ⟨_, rfl⟩
     rw [← hz] at hT5 hT2
     have HZ := Lib.hid hz
     clear hz bx3 hr3 hrr3 hb3 hev hrr2
     rw [← hv]
     clear hv
     have hrl := hrbl2 _ hrn
     refine wp_range2 (gf := 229) (lb := #[.pointer (some ⟨W2.heap.size + 1 + 1, 0, none⟩), .pointer (some ⟨W2.heap.size + 1, 0, none⟩)]) (N := m - c) (encs := fun j => #[.int .i64 ((c : Int) + (j : Int)), .int .i64 (z piv.length (c + j))]) rfl (goes_of Tryz.func229 (by kernel_rfl) rfl) (fun _ => rfl)
      (ScaleI B tb rb2 n m z w5 w.heap.size W.heap.size W2.heap.size (.slice (some ⟨tb, 0, none⟩) n tcap) (.slice (some ⟨rb2 piv.length, 0, none⟩) m r2) piv.length c v) (fun _ _ _ => False) ?seq ?simI (fun _ _ _ _ h _ => h) ⟨hT5, ⟨rfl, rfl, rfl, Nat.le_refl _, fun _ _ _ => rfl⟩, bx5, hr5, q1, q2, q3⟩
      (fun j t => (((t.setIfInBounds 71 (.int .i64 ((c : Int) + (j : Int)))).setIfInBounds 72 (.int .i64 (z piv.length (c + j)))).setIfInBounds 10 (.int .i64 ((c : Int) + (j : Int)))).setIfInBounds 11 (.int .i64 (z piv.length (c + j)))) ?assign ?body ?done (fun _ _ _ _ _ _ h => h.elim)
     case seq =>
      refine after1_iterates _ _ c m (some ⟨rb2 piv.length, 0, none⟩) r2 (fun k => z piv.length k) (by omega) (by omega) _ ?_
      intro j W' hI
      refine ⟨hI.c5, hI.c4, fun hlt => ⟨_, rfl, ?_⟩⟩
      have := hI.tab.elem piv.length (c + j) hrn hlt
      rwa [scaleJ_at] at this
     case simI => exact fun j W' W'' h hs => scaleI_sim h hs (Nat.le_refl _)
     case assign =>
      intro l j W' K hK
      gi_wp2
      exact hK
     case body =>
      intro l j W' hI hlt
      simp only [List.setIfInBounds_toArray, List.set_cons_succ, List.set_cons_zero]
      gi_wp2
      obtain ⟨rci, hri'⟩ := hI.tab.row piv.length hrn
      have hf : ∀ W1, Below W'.heap.size W' W1 → W1.cell? ⟨w.heap.size, 0, none⟩ = some (.slice (some ⟨tb, 0, none⟩) n tcap) ∧ W1.cell? ⟨W.heap.size, 0, none⟩ = some (.int .i64 piv.length) ∧
        W1.cell? ⟨W2.heap.size, 0, none⟩ = some (.int .i64 v) ∧ W1.cell? ⟨tb, piv.length, none⟩ = some (.slice (some ⟨rb2 piv.length, 0, none⟩) m rci) := fun W1 h1 =>
       ⟨below_cell h1 hI.c1, below_cell h1 hI.c2, below_cell h1 hI.c3, below_cell h1 hri'⟩
      have hcj : c + j < m := by omega
      have i1 : 0 ≤ (c : Int) + (j : Int) := by omega
      have i2 : (c : Int) + (j : Int) < (m : Int) := by omega
      have i3 : ((c : Int) + (j : Int)).toNat = c + j := by omega
      refine wpIn_calm_store 9 (by kernel_rfl) (by kernel_rfl) rfl rfl rfl (fun W1 => Below W'.heap.size W' W1) (Below.refl _ _).drew (fun K hK => ?_)
      simp only [List.take_succ_cons, List.take_zero]
      have HK := Lib.hid hK
      clear hK
      iterate 7
       apply calm_step
       ·intro W1 hW1
        obtain ⟨f1, f2, f3, f4⟩ := hf W1 hW1
        go_simp
        exact ⟨hW1, rfl⟩
       go_simp
      have r1 : R64 (z piv.length (c + j)) := num_r64 (hT2.num _ _ hrn hcj)
      apply calm_step
      ·intro W1 hW1
       go_simp
       refine (mul_any _ _ _ r1 (num_r64 hvn)).mono ?_
       rintro e w' ⟨rfl, rfl⟩
       exact ⟨rfl, hW1⟩
      go_simp
      apply calm_step
      ·intro W1 hW1
       go_simp
       exact ⟨hW1, rfl⟩
      go_simp
      apply calm_end
      apply HK.out
      intro W1 hW1
      have hTW := tab_below hI.tab hW1
      have hsc := hTW.elem piv.length (c + j) hrn hcj
      have hsf := hTW.elemF piv.length (c + j) hrn hcj
      refine upon_store (w := W1.setCell ⟨rb2 piv.length, c + j, none⟩ (.int .i64 (z piv.length (c + j) * v % 1073741789))) ?_ ?_
      ·go_simp
      ·refine ⟨(others_of_below hW1).trans (KeepsOthers.setCell _ _ _), ?_⟩
       exact ⟨tab_store hTW hrn hcj (mod_num _) (fun i' k' _ _ => scaleJ_succ z piv.length c v j i' k'), grown_set (grown_below hI.but hW1) _,
        by rw [set_other (.inl (by omega))]; exact below_cell hW1 hI.c1, by rw [set_other (.inl (by omega))]; exact below_cell hW1 hI.c2, by rw [set_other (.inl (by omega))]; exact below_cell hW1 hI.c3,
        by rw [set_other (.inl (by omega))]; exact below_cell hW1 hI.c4, by rw [set_other (.inl (by omega))]; exact below_cell hW1 hI.c5⟩
     case done =>
      intro D W3 hD hI3 hDW3 hO3
      obtain ⟨hT3, hg3, bx4, hr4, -, -, -⟩ := hI3
      have hlow3 : Below B w W3 := (hlow2.trans (hb5.mono (by have := hlow2.size; omega))).grown hg3 (by have := hlow2.size; have := hb5.size; omega) (fun k e => by cases e; exact hT2.rbB _ hrn)
      go_wp2_with fail
      obtain ⟨s0, hs0⟩ : ∃ s0, s0 = scaleJ z piv.length c v (m - c) := ⟨_, rfl⟩
      rw [← hs0] at hT3
      have HS0 := Lib.hid hs0
      clear hs0
      have hpv5 := owns_below hpv2 hb5
      have hpv3 := owns_grown hpv5 hg3 (by omega)
      obtain ⟨w3', hw3'⟩ : ∃ w3' : World, w3' = W3 := ⟨_, rfl⟩
      go_loopw [12, 84] (fun _ i wr => ∃ q : Nat, q ≤ n ∧ i = .int .i64 q ∧ AllI B tb rb2 n m s0 w W3 w.heap.size W.heap.size (.slice (some ⟨tb, 0, none⟩) n tcap) piv.length c (.slice pa piv.length pc) piv q wr) (fun _ i _ => n - (intOf i).toNat)
      case atStart => exact ⟨0, Nat.zero_le _, rfl, by rw [clearA_zero]; exact hT3, hlow3, bx4, hr4, hpv3, KeepsOthers.refl _⟩
      case round =>
       obtain ⟨q, hqn, rfl, hA⟩ := hrel
       have fb := hA.box
       have fr := hA.rbox
       by_cases hq : q < n
       ·by_cases hqr : q = piv.length
        ·have hqd : ((q : Int) != (piv.length : Int)) = false := by rw [hqr]; simp
         go_wp2_with fail
         go_roundw
         case rel => exact ⟨q + 1, by omega, by go_num, by have := hA.tab; rw [hqr] at this ⊢; rw [← clearA_skip]; exact this, hA.low, fb, fr, hA.pivots, hA.others⟩
         case measure => simp [intOf]; omega
        ·have hqd : ((q : Int) != (piv.length : Int)) = true := by rw [bne_iff_ne]; omega
         have hqb := hrbl2 q hq
         have hqc := hA.tab.elem q 0 hq hm0
         go_wp2_with fail
         with_reducible refine (clear_any B tb rb2 n m _ _ hA.tab tcap q piv.length c hq hrn hqr hcm2 hn hm).mono ?_
         rintro e w6 ⟨rfl, hg6, hT6⟩
         have fb6 := grown_cell hg6 (by omega) fb
         have fr6 := grown_cell hg6 (by omega) fr
         go_wp2_with fail
         go_roundw
         case rel => exact ⟨q + 1, by omega, by go_num, by rw [clearA_step hqr] at hT6; exact hT6, hA.low.grown hg6 (Nat.le_trans hBw hA.low.size) (fun k e => by cases e; exact hT6.rbB _ hq), fb6, fr6, owns_grown hA.pivots hg6 (by omega), hA.others.trans (others_grown hg6 hqc)⟩
         case measure => simp [intOf]; omega
       ·obtain rfl : q = n := by omega
        have hpl : piv.length ≤ 1000000 := by omega
        have hbs : w.heap.size + 1 ≤ (wr.alloc (.cells #[.int .i64 (c : Int)] 3)).heap.size := by have := lt_of_cell fb; have := lt_of_cell fr; simp; omega
        go_wp2_with (at_builtin; refine app_int rfl _ _ rfl (w.heap.size + 1) _ _ _ rfl (hA.pivots.alloc _) wr.heap.size 1 c rfl (cell_new1 _ _ _) hpl hbs ?_; intro v9 w9 hown9 hgrow9)
        have hgrow' : (wr.alloc (.cells #[.int .i64 (c : Int)] 3)).grownBy w9 (Value.slice pa piv.length pc).ownBlock := hgrow9
        have hown' := hA.pivots.alloc (.cells #[.int .i64 (c : Int)] 3)
        have hszr : w.heap.size + 1 ≤ wr.heap.size := by have := lt_of_cell fb; omega
        have hb9 : Below (w.heap.size + 1) wr w9 := (((Below.refl _ wr).alloc hszr _).grown hgrow' (by simp; omega) (fun k e => (hown'.lt k e).1))
        have ho9 : KeepsOthers wr w9 := (KeepsOthers.alloc _ _).trans (others_owns hown' hgrow')
        have hstep := stepM_some HF2.out hk
        rw [← HS.out] at hstep
        have hT9 : Tab B tb rb2 q m (redM q x (c + 1)).1 w9 := by
         rw [hstep]
         refine tab_congr (tab_low hA.tab hm0 hb9 (by omega) (fun i hi => Nat.lt_succ_of_lt (hrbl2 i hi))) (fun i k _ hk' => ?_)
         show clearA s0 piv.length c q i k = clearA (scaleM (swapM y piv.length kk) piv.length c (invQ (y kk c))) piv.length c q i k
         refine clearA_congr (m := m) (fun i k hk' => ?_) hcm2 hk'
         rw [HS0.out, HZ.out, HV.out]
         unfold scaleJ scaleM
         by_cases e : i = piv.length ∧ c ≤ k
         ·rw [if_pos e, if_pos ⟨e.1, e.2, by omega⟩]
         ·rw [if_neg e, if_neg (fun h => e ⟨h.1, h.2.1⟩)]
        have hpv9 : w9.ownsRow (w.heap.size + 1) 3 1 v9 (redM q x (c + 1)).2.length ((redM q x (c + 1)).2.map fun (k : Nat) => Value.int .i64 (k : Int)) := by
         rw [hstep]
         show w9.ownsRow (w.heap.size + 1) 3 1 v9 (piv ++ [c]).length ((piv ++ [c]).map fun (k : Nat) => Value.int .i64 (k : Int))
         rw [List.length_append, List.map_append]; exact hown9
        have ho29 : KeepsOthers W2 w9 := (((others_of_below hb5).trans hO3).trans hA.others).trans ho9
        have hDfresh : W2.heap.size ≤ D := Nat.le_trans hb5.size hD
        refine ⟨redA_mk (c := c + 1) (by omega) rfl ⟨⟨rb2, hT9, hrbl2⟩, hA.low.trans (hb9.mono (by omega)), ?_, hpv9, ⟨⟨D, rfl, ?_, ?_, marks_fresh hDfresh hmk2⟩, marks_later hmk2 ho29⟩⟩, ?_⟩
        ·rw [hb9.cell (p := ⟨w.heap.size, 0, none⟩) (by show w.heap.size < _; omega)]; exact fb
        ·have := hlow2.size; omega
        ·exact (hA.others.trans ho9).same D _ hDW3 rfl
        ·simp [intOf]; omega
   ·obtain rfl : kk = n := by omega
    have HF2 := Lib.hid (findP_end HF.out (by omega) (Nat.le_refl _))
    go_wp2_with fail
    have hstep := stepM_none HF2.out
    rw [← HS.out] at hstep
    refine ⟨redA_mk (c := c + 1) (by omega) rfl ⟨⟨rb1, ?_, hrbl⟩, hlow.trans (hb1'.mono (Nat.le_trans hBw hlow.size)), bx1, ?_, marks_later hmk (others_of_below hb1')⟩, ?_⟩
    ·rw [hstep]; exact hT1'
    ·rw [hstep]; exact owns_below hpv hb1'
    ·simp [intOf]; omega
end Go.Proofs.YtggnipkfliompaaGreatDoor
