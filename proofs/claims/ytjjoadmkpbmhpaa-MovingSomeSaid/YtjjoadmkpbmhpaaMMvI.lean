/- Package moving: Move. -/
import Derived.Test.YtjjoadmkpbmhpaaMPmH
import Derived.Test.YtjjoadmkpbmhpaaMRbP
import Derived.Test.YtjjoadmkpbmhpaaMReN
import Derived.Test.YtjjoadmkpbmhpaaMRegF
namespace Go.Proofs.Ytjjoadmkpbmhpaa
open Go.RowKit FP

/-- What Move has in memory. -/
structure MvM (B : Nat) (w0 : World) (ep : Int) (rv ov cv rv2 ov2 cmv lv wv rwv : Value) (rows : List (List Int)) (owners cs : List Int) (rows2 : List (List Int)) (owners2 who rws : List Int) (css : List (List Int)) (ls : List (List (Int × Int))) (W : World) : Prop where
  b : Below B w0 W
  q1 : W.heap[B]? = some (.cells #[.int .i64 ep, rv, ov, cv] 30 (0, 0))
  q2 : W.heap[B + 1]? = some (.cells #[rv2, ov2] 25 (0, 0))
  q3 : W.heap[B + 1 + 1]? = some (.cells #[cmv] 22 (0, 0))
  q4 : W.heap[B + 1 + 1 + 1]? = some (.cells #[lv] 45 (0, 0))
  qk : W.heap[B + 1 + 1 + 1 + 1]? = some (.cells #[.int .i64 0, .slice none 0 0, .slice none 0 0, .slice none 0 0] 30 (0, 0))
  qe : W.heap[B + 1 + 1 + 1 + 1 + 1]? = some (.cells #[.int .i64 0] 36 (0, 0))
  hR : Rows2 W rv rows
  hO : Ints W ov owners
  hC : Ints W cv cs
  hR2 : Rows2 W rv2 rows2
  hO2 : Ints W ov2 owners2
  hCS : Rows2 W cmv css
  hLS : SRows W lv ls
  hWH : Ints W wv who
  hRW : Ints W rwv rws
theorem MvM.below {B : Nat} {w0 : World} {ep : Int} {rv ov cv rv2 ov2 cmv lv wv rwv : Value} {rows : List (List Int)} {owners cs : List Int} {rows2 : List (List Int)} {owners2 who rws : List Int} {css : List (List Int)} {ls : List (List (Int × Int))} {W W' : World} (h : MvM B w0 ep rv ov cv rv2 ov2 cmv lv wv rwv rows owners cs rows2 owners2 who rws css ls W) (hB : B ≤ W.heap.size) (hb : Below W.heap.size W W') : MvM B w0 ep rv ov cv rv2 ov2 cmv lv wv rwv rows owners cs rows2 owners2 who rws css ls W' :=
  ⟨h.b.trans (hb.mono hB), (hb.block _ (row_lt h.q1)).trans h.q1, (hb.block _ (row_lt h.q2)).trans h.q2, (hb.block _ (row_lt h.q3)).trans h.q3, (hb.block _ (row_lt h.q4)).trans h.q4, (hb.block _ (row_lt h.qk)).trans h.qk, (hb.block _ (row_lt h.qe)).trans h.qe,
    h.hR.below hb, h.hO.below hb, h.hC.below hb, h.hR2.below hb, h.hO2.below hb, h.hCS.below hb, h.hLS.below hb, h.hWH.below hb, h.hRW.below hb⟩
theorem MvM.later {B : Nat} {w0 : World} {ep : Int} {rv ov cv rv2 ov2 cmv lv wv rwv : Value} {rows : List (List Int)} {owners cs : List Int} {rows2 : List (List Int)} {owners2 who rws : List Int} {css : List (List Int)} {ls : List (List (Int × Int))} {W W' : World} (h : MvM B w0 ep rv ov cv rv2 ov2 cmv lv wv rwv rows owners cs rows2 owners2 who rws css ls W) (hb : Below W.heap.size W W') : MvM B w0 ep rv ov cv rv2 ov2 cmv lv wv rwv rows owners cs rows2 owners2 who rws css ls W' :=
  h.below (by have := row_lt h.q1; omega) hb

theorem Rows2.getRow {w : World} {v : Value} {rows : List (List Int)} (h : Rows2 w v rows) {k : Nat} (hk : k < rows.length) : ∃ b off n c r, v = .slice (some ⟨b, off, none⟩) n c ∧ w.cell? ⟨b, off + k, none⟩ = some r ∧ Ints w r (rows.getD k []) := by
  obtain ⟨a, cap, rfl, -, -, h4⟩ := h
  obtain ⟨b, off, r, rfl, h5, h6⟩ := h4 k hk
  exact ⟨b, off, _, _, r, rfl, h5, by rw [List.getD_eq_getElem?_getD, List.getElem?_eq_getElem hk]; exact h6⟩
/-- How Move ends. -/
def MvPost (ep : Int) (rv2 ov2 : Value) (C : List Int) (L : List (Int × Int)) (ME : Int) (w : World) (e : Ending) (w' : World) : Prop :=
  ∃ E' rv' ov' kv lv', e = .returned (.tuple #[.agg #[.int .i64 E', rv', ov', kv], lv', .int .i64 ME]) ∧
    (ME = 0 → E' = ep + 1 ∧ rv' = rv2 ∧ ov' = ov2 ∧ RI w' kv C ∧ RS w' lv' L) ∧
    (ME ≠ 0 → E' = 0 ∧ rv' = .slice none 0 0 ∧ ov' = .slice none 0 0 ∧ kv = .slice none 0 0 ∧ lv' = .slice none 0 0) ∧ Below w.heap.size w w'
theorem mv_off {ep : Int} {rv2 ov2 : Value} {C : List Int} {L : List (Int × Int)} {ME q : Int} {w w' : World} (h : ME = q) (hq : q ≠ 0) (hb : Below w.heap.size w w') : MvPost ep rv2 ov2 C L ME w (.returned (.tuple #[.agg #[.int .i64 0, .slice none 0 0, .slice none 0 0, .slice none 0 0], .slice none 0 0, .int .i64 q])) w' := by
  subst h
  exact ⟨_, _, _, _, _, rfl, fun h => absurd h hq, fun _ => ⟨rfl, rfl, rfl, rfl, rfl⟩, hb⟩
theorem stop_endK {n0 K E : Nat} {w W : World} {x a b c d : Value} {T TK : TypeId} (hb : Below n0 w W) (hE : n0 ≤ E) (q : W.heap[E]? = some (.cells #[x] T (0, 0))) (hk : W.heap[K]? = some (.cells #[a, b, c, d] TK (0, 0))) (hne : K ≠ E) (e : Int) :
    ∃ Wf, Wf = (W.alloc (.cells #[.int .i64 e] 100)).setCell ⟨E, 0, none⟩ (.int .i64 e) ∧ Below n0 w Wf ∧ Wf.cell? ⟨E, 0, none⟩ = some (.int .i64 e) ∧ Wf.cell? ⟨K, 0, none⟩ = some a ∧ Wf.cell? ⟨K, 1, none⟩ = some b ∧ Wf.cell? ⟨K, 2, none⟩ = some c ∧ Wf.cell? ⟨K, 3, none⟩ = some d := by
  obtain ⟨Wf, h1, h2, h3⟩ := stop_end hb hE q e
  have hb1 := below_new W #[.int .i64 e] 100
  have hk1 : Wf.heap[K]? = some (.cells #[a, b, c, d] TK (0, 0)) := by
    rw [h1, Below.heap_setCell _ _ _ _ hne]; exact (hb1.block _ (row_lt hk)).trans hk
  exact ⟨Wf, h1, h2, h3, row_cell hk1 rfl, row_cell hk1 rfl, row_cell hk1 rfl, row_cell hk1 rfl⟩

structure FMv11 (w0 : World) (kv qv cmv lv rcv rlv rzv mf : Value) (row : Int) (k bC oC bL oL : Nat) (fb eb : Bool) (done : Nat → Bool) (v : Nat → Value) (w : World) : Prop where
  b : Below w0.heap.size w0 w
  f0 : done 0 = true → v 0 = kv
  f1 : done 1 = true → v 1 = qv
  f2 : done 2 = true → v 2 = .int .i64 row
  f3 : done 3 = true → v 3 = cmv
  f4 : done 4 = true → v 4 = .int .i64 (k : Int)
  f5 : done 5 = true → v 5 = .pointer (some ⟨bC, oC + k, none⟩)
  f6 : done 6 = true → v 6 = rcv
  f7 : done 7 = true → v 7 = .bool fb
  f8 : done 8 = true → v 8 = .bool fb
  f9 : done 9 = true → fb = true → v 9 = lv
  f10 : done 10 = true → fb = true → v 10 = .pointer (some ⟨bL, oL, none⟩)
  f11 : done 11 = true → fb = true → v 11 = rzv
  f12 : done 12 = true → fb = true → v 12 = lv
  f13 : done 13 = true → fb = true → v 13 = .int .i64 (k : Int)
  f14 : done 14 = true → fb = true → v 14 = .pointer (some ⟨bL, oL + k, none⟩)
  f15 : done 15 = true → fb = true → v 15 = rlv
  f16 : done 16 = true → fb = true → v 16 = mf
  f17 : done 17 = true → fb = true → v 17 = .bool eb
  f18 : done 18 = true → v 18 = .bool (fb && eb)
  n : done 19 = true → (fb && eb) = true

structure FMv16 (w0 : World) (qv cmv rcv : Value) (r x fe : Int) (k bC oC : Nat) (fb : Bool) (done : Nat → Bool) (v : Nat → Value) (w : World) : Prop where
  b : Below w0.heap.size w0 w
  f0 : done 0 = true → v 0 = qv
  f1 : done 1 = true → v 1 = cmv
  f2 : done 2 = true → v 2 = .int .i64 (k : Int)
  f3 : done 3 = true → v 3 = .pointer (some ⟨bC, oC + k, none⟩)
  f4 : done 4 = true → v 4 = rcv
  f5 : done 5 = true → v 5 = .agg #[.int .i64 r, .int .i64 x]
  f6 : done 6 = true → v 6 = .tuple #[.bool fb, .int .i64 fe]
  f7 : done 7 = true → v 7 = .tuple #[.bool fb, .int .i64 fe]
  f8 : done 8 = true → v 8 = .bool fb
  f9 : done 9 = true → v 9 = .int .i64 fe
  f10 : done 10 = true → v 10 = .bool fb
  f11 : done 11 = true → v 11 = .int .i64 fe

structure FMv25 (wk w0 : World) (e : Int) (rv ov L rwv yv : Value) (n jb cb : Nat) (rws y xs : List Int) (z : Int) (done : Nat → Bool) (v : Nat → Value) (w : World) : Prop where
  b : done 8 = false → Below w0.heap.size w0 w
  f0 : done 0 = true → v 0 = .pointer (some ⟨wk.heap.size, 3, none⟩)
  f1 : done 1 = true → v 1 = L
  f2 : done 2 = true → v 2 = rwv
  f3 : done 3 = true → v 3 = yv
  f4 : done 4 = true → done 6 = false → WFun rwv yv rws y (v 4) w
  f5 : done 5 = true → v 5 = .func (.func 48) #[] #[.pointer (some ⟨cb, 0, none⟩), .pointer (some ⟨jb, 0, none⟩)]
  f6 : done 6 = true → v 6 = .int .i64 z
  f7 : done 7 = true → done 8 = false → OneI z (v 7) w
  f8 : done 8 = true → done 10 = false → KeyA wk e rv ov L (n + 1) (xs ++ [z]) (v 8) w
  f9 : done 9 = true → v 9 = .pointer (some ⟨wk.heap.size, 3, none⟩)
  z : done 10 = true → ∃ L', KeyR wk e rv ov L' (n + 1) (xs ++ [z]) w

set_option maxRecDepth 100000 in
set_option maxHeartbeats 8000000 in
theorem mMove_any (ep : Int) (rv ov cv rv2 ov2 cmv lv wv rwv : Value) (rows : List (List Int)) (owners cs : List Int) (rows2 : List (List Int)) (owners2 who rws : List Int) (css : List (List Int)) (ls : List (List (Int × Int))) (w : World) (hR : Rows2 w rv rows) (hO : Ints w ov owners) (hC : Ints w cv cs) (hR2 : Rows2 w rv2 rows2) (hO2 : Ints w ov2 owners2) (hCS : Rows2 w cmv css) (hLS : SRows w lv ls) (hWH : Ints w wv who) (hRW : Ints w rwv rws) :
    Calls Try.prog 12 #[.agg #[.int .i64 ep, rv, ov, cv], .agg #[rv2, ov2], wv, rwv, cmv, lv] w (MvPost ep rv2 ov2 (mvC css rws (accY rows owners who) (colsQ rows2)) (mvL ls rws (accY rows owners who)) (mvE rows owners ep cs rows2 owners2 who rws css ls) w) := by
  obtain ⟨W0, hW0, hb0, hr0, hs0⟩ : ∃ W, W = w.alloc (.cells #[.int .i64 ep, rv, ov, cv] 30) ∧ Below w.heap.size w W ∧ W.heap[w.heap.size]? = some (.cells #[.int .i64 ep, rv, ov, cv] 30 (0, 0)) ∧ W.heap.size = w.heap.size + 1 := ⟨_, rfl, below_new _ _ _, World.alloc_heap_new _ _, by simp⟩
  obtain ⟨W1, hW1, hb1, hr1, hs1⟩ : ∃ W, W = W0.alloc (.cells #[rv2, ov2] 25) ∧ Below W0.heap.size W0 W ∧ W.heap[W0.heap.size]? = some (.cells #[rv2, ov2] 25 (0, 0)) ∧ W.heap.size = W0.heap.size + 1 := ⟨_, rfl, below_new _ _ _, World.alloc_heap_new _ _, by simp⟩
  obtain ⟨W2, hW2, hb2, hr2, hs2⟩ : ∃ W, W = W1.alloc (.cells #[cmv] 22) ∧ Below W1.heap.size W1 W ∧ W.heap[W1.heap.size]? = some (.cells #[cmv] 22 (0, 0)) ∧ W.heap.size = W1.heap.size + 1 := ⟨_, rfl, below_new _ _ _, World.alloc_heap_new _ _, by simp⟩
  obtain ⟨W3, hW3, hb3, hr3, hs3⟩ : ∃ W, W = W2.alloc (.cells #[lv] 45) ∧ Below W2.heap.size W2 W ∧ W.heap[W2.heap.size]? = some (.cells #[lv] 45 (0, 0)) ∧ W.heap.size = W2.heap.size + 1 := ⟨_, rfl, below_new _ _ _, World.alloc_heap_new _ _, by simp⟩
  obtain ⟨W4, hW4, hb4, hr4, hs4⟩ : ∃ W, W = W3.alloc (.cells #[.int .i64 0, .slice none 0 0, .slice none 0 0, .slice none 0 0] 30) ∧ Below W3.heap.size W3 W ∧ W.heap[W3.heap.size]? = some (.cells #[.int .i64 0, .slice none 0 0, .slice none 0 0, .slice none 0 0] 30 (0, 0)) ∧ W.heap.size = W3.heap.size + 1 := ⟨_, rfl, below_new _ _ _, World.alloc_heap_new _ _, by simp⟩
  obtain ⟨W5, hW5, hb5, hr5, hs5⟩ : ∃ W, W = W4.alloc (.cells #[.int .i64 0] 36) ∧ Below W4.heap.size W4 W ∧ W.heap[W4.heap.size]? = some (.cells #[.int .i64 0] 36 (0, 0)) ∧ W.heap.size = W4.heap.size + 1 := ⟨_, rfl, below_new _ _ _, World.alloc_heap_new _ _, by simp⟩
  -- 1
  -- 2
  -- 3
  -- 4
  -- 5
  have t45 : Below W4.heap.size W4 W5 := hb5
  have t35 : Below W3.heap.size W3 W5 := hb4.trans (t45.mono hb4.size)
  have t25 : Below W2.heap.size W2 W5 := hb3.trans (t35.mono hb3.size)
  have t15 : Below W1.heap.size W1 W5 := hb2.trans (t25.mono hb2.size)
  have t05 : Below W0.heap.size W0 W5 := hb1.trans (t15.mono hb1.size)
  have hb : Below w.heap.size w W5 := hb0.trans (t05.mono hb0.size)
  have e0 : W0.heap.size = w.heap.size + 1 := hs0
  have e1 : W1.heap.size = w.heap.size + 1 + 1 := by omega
  have e2 : W2.heap.size = w.heap.size + 1 + 1 + 1 := by omega
  have e3 : W3.heap.size = w.heap.size + 1 + 1 + 1 + 1 := by omega
  have e4 : W4.heap.size = w.heap.size + 1 + 1 + 1 + 1 + 1 := by omega
  rw [e0] at hr1
  rw [e1] at hr2
  rw [e2] at hr3
  rw [e3] at hr4
  rw [e4] at hr5
  have HM : Hid (MvM w.heap.size w ep rv ov cv rv2 ov2 cmv lv wv rwv rows owners cs rows2 owners2 who rws css ls W5) := Lib.hid ⟨hb, (t05.block _ (row_lt hr0)).trans hr0, (t15.block _ (row_lt hr1)).trans hr1, (t25.block _ (row_lt hr2)).trans hr2, (t35.block _ (row_lt hr3)).trans hr3, (t45.block _ (row_lt hr4)).trans hr4, hr5, hR.below hb, hO.below hb, hC.below hb, hR2.below hb, hO2.below hb, hCS.below hb, hLS.below hb, hWH.below hb, hRW.below hb⟩
  obtain ⟨a1, k1, rfl, -, hl1, -⟩ := id hR
  obtain ⟨a2, k2, rfl, -, hl2, -⟩ := id hO
  obtain ⟨a3, k3, rfl, -, hl3, -⟩ := id hC
  obtain ⟨a4, k4, rfl, -, hl4, -⟩ := id hR2
  obtain ⟨a5, k5, rfl, -, hl5, -⟩ := id hO2
  obtain ⟨a6, k6, rfl, -, hl6, -⟩ := id hCS
  obtain ⟨a7, k7, rfl, -, hl7, -⟩ := id hLS
  obtain ⟨a8, k8, rfl, -, hl8, -⟩ := id hWH
  obtain ⟨a9, k9, rfl, -, hl9, -⟩ := id hRW
  rw [hW4, hW3, hW2, hW1, hW0] at hW5
  have HW := Lib.hid hW5
  clear hR hO hC hR2 hO2 hCS hLS hWH hRW hb hb0 hb1 hb2 hb3 hb4 hb5 t05 t15 t25 t35 t45 hr0 hr1 hr2 hr3 hr4 hr5 hW0 hW1 hW2 hW3 hW4 hW5 hs0 hs1 hs2 hs3 hs4 hs5 e0 e1 e2 e3 e4
  have c0 := row_cell HM.out.q1 (k := 0) (v := .int .i64 ep) rfl
  have c1 := row_cell HM.out.q1 (k := 1) (v := .slice a1 rows.length k1) rfl
  have c2 := row_cell HM.out.q1 (k := 2) (v := .slice a2 owners.length k2) rfl
  have c3 := row_cell HM.out.q1 (k := 3) (v := .slice a3 cs.length k3) rfl
  have d0 := row_cell HM.out.q2 (k := 0) (v := .slice a4 rows2.length k4) rfl
  have d1 := row_cell HM.out.q2 (k := 1) (v := .slice a5 owners2.length k5) rfl
  have x3 := row_cell HM.out.q3 (k := 0) (v := .slice a6 css.length k6) rfl
  have x4 := row_cell HM.out.q4 (k := 0) (v := .slice a7 ls.length k7) rfl
  obtain ⟨ME, hME⟩ : ∃ x, x = mvE rows owners ep cs rows2 owners2 who rws css ls := ⟨_, rfl⟩
  rw [← hME]
  have HME := Lib.hid hME
  clear hME
  have HCK := Lib.hid (fun ww h1 h2 h3 h4 h5 => mcheck_any ep (.slice a1 rows.length k1) (.slice a2 owners.length k2) (.slice a3 cs.length k3) (.slice a4 rows2.length k4) (.slice a5 owners2.length k5) rows owners cs rows2 owners2 ww h1 h2 h3 h4 h5)
  by_cases hck : chkE rows owners ep cs rows2 owners2 = 0
  rotate_left
  · have HV : Hid (ME = chkE rows owners ep cs rows2 owners2) := Lib.hid (by rw [HME.out]; unfold mvE; rw [if_pos hck])
    have HNZ := Lib.hid hck
    clear hck HME
    generalize chkE rows owners ep cs rows2 owners2 = q at *
    go_enter_defers Try.func12, Try.ntmps12
    go_wp2_with (rw [← HW.out])
    with_reducible refine (mono_ending (HCK.out _ HM.out.hR HM.out.hO HM.out.hC HM.out.hR2 HM.out.hO2) (raised39_not HNZ.out)).mono ?_
    rintro e w4 ⟨rfl, hb4⟩
    replace HM := Lib.hid (HM.out.later hb4)
    replace c0 := row_cell HM.out.q1 (k := 0) (v := .int .i64 ep) rfl
    replace c1 := row_cell HM.out.q1 (k := 1) (v := .slice a1 rows.length k1) rfl
    replace c2 := row_cell HM.out.q1 (k := 2) (v := .slice a2 owners.length k2) rfl
    replace c3 := row_cell HM.out.q1 (k := 3) (v := .slice a3 cs.length k3) rfl
    replace d0 := row_cell HM.out.q2 (k := 0) (v := .slice a4 rows2.length k4) rfl
    replace d1 := row_cell HM.out.q2 (k := 1) (v := .slice a5 owners2.length k5) rfl
    replace x3 := row_cell HM.out.q3 (k := 0) (v := .slice a6 css.length k6) rfl
    replace x4 := row_cell HM.out.q4 (k := 0) (v := .slice a7 ls.length k7) rfl
    clear hb4
    refine leaves_cons (f := 34) (args := #[.pointer (some ⟨w.heap.size + 1 + 1 + 1 + 1 + 1, 0, none⟩)]) (by simp) (by simp [go_sem]) ?_
    refine (caught39_panicking (w.heap.size + 1 + 1 + 1 + 1 + 1) 0 0 (q) [] _ (row_cell HM.out.qe rfl) (row_free HM.out.qe 0) (row_lt HM.out.qe)).mono ?_
    rintro e u' w'' ⟨rfl, rfl, rfl⟩
    obtain ⟨Wf, hWf, hbf, hxf, h0, h1, h2, h3⟩ := stop_endK HM.out.b (show w.heap.size ≤ w.heap.size + 1 + 1 + 1 + 1 + 1 by omega) HM.out.qe HM.out.qk (by omega) (q)
    rw [← hWf]
    simp [Leaves, settle, results, Try.results12, go_sem, hxf, h0, h1, h2, h3]
    exact mv_off HV.out HNZ.out hbf
  have HCK0 := Lib.hid hck
  have HE1 : Hid (ME = if 64 ≤ ep then 2 else (if ¬ (peopleB (-1) who = true ∧ rws = ownN owners who owners.length) then 1 else (if ¬ (accOk rows owners who = true ∧ css.length = rws.length ∧ ls.length = rws.length) then 340 else (if dealtB rows owners cs rows2 rws css ls rws.length = true then 0 else 340)))) := Lib.hid (by rw [HME.out]; unfold mvE; rw [if_neg (by simp [hck])])
  clear hck
  obtain ⟨hp1, hky, hp2⟩ := chkE_prog HCK0.out
  have HKY := Lib.hid (keyB_ok hky)
  have HP1 := Lib.hid hp1
  have HP2 := Lib.hid hp2
  have HPO := Lib.hid (progE_ok hp1)
  clear hp1 hp2 hky HME
  go_enter_defers Try.func12, Try.ntmps12
  go_wp2_with (rw [← HW.out])
  with_reducible refine (mono_ending (HCK.out _ HM.out.hR HM.out.hO HM.out.hC HM.out.hR2 HM.out.hO2) (raised39_zero HCK0.out)).mono ?_
  rintro e w4 ⟨rfl, hb4⟩
  replace HM := Lib.hid (HM.out.later hb4)
  replace c0 := row_cell HM.out.q1 (k := 0) (v := .int .i64 ep) rfl
  replace c1 := row_cell HM.out.q1 (k := 1) (v := .slice a1 rows.length k1) rfl
  replace c2 := row_cell HM.out.q1 (k := 2) (v := .slice a2 owners.length k2) rfl
  replace c3 := row_cell HM.out.q1 (k := 3) (v := .slice a3 cs.length k3) rfl
  replace d0 := row_cell HM.out.q2 (k := 0) (v := .slice a4 rows2.length k4) rfl
  replace d1 := row_cell HM.out.q2 (k := 1) (v := .slice a5 owners2.length k5) rfl
  replace x3 := row_cell HM.out.q3 (k := 0) (v := .slice a6 css.length k6) rfl
  replace x4 := row_cell HM.out.q4 (k := 0) (v := .slice a7 ls.length k7) rfl
  clear hb4
  by_cases hep : ep < 64
  rotate_left
  · have HV : Hid (ME = 2) := Lib.hid (HE1.out.trans (if_pos (by omega)))
    have hd : decide (ep < 64) = false := decide_eq_false hep
    clear hep HE1
    go_wp2_with fail
    with_reducible refine (must_bad 2 _).mono ?_
    rintro e w5 ⟨rfl, rfl⟩
    refine leaves_cons (f := 34) (args := #[.pointer (some ⟨w.heap.size + 1 + 1 + 1 + 1 + 1, 0, none⟩)]) (by simp) (by simp [go_sem]) ?_
    refine (caught39_panicking (w.heap.size + 1 + 1 + 1 + 1 + 1) 0 0 (2) [] _ (row_cell HM.out.qe rfl) (row_free HM.out.qe 0) (row_lt HM.out.qe)).mono ?_
    rintro e u' w'' ⟨rfl, rfl, rfl⟩
    obtain ⟨Wf, hWf, hbf, hxf, h0, h1, h2, h3⟩ := stop_endK HM.out.b (show w.heap.size ≤ w.heap.size + 1 + 1 + 1 + 1 + 1 by omega) HM.out.qe HM.out.qk (by omega) (2)
    rw [← hWf]
    simp [Leaves, settle, results, Try.results12, go_sem, hxf, h0, h1, h2, h3]
    exact mv_off HV.out (by decide) hbf
  have HE2 : Hid (ME = (if ¬ (peopleB (-1) who = true ∧ rws = ownN owners who owners.length) then 1 else (if ¬ (accOk rows owners who = true ∧ css.length = rws.length ∧ ls.length = rws.length) then 340 else (if dealtB rows owners cs rows2 rws css ls rws.length = true then 0 else 340)))) := Lib.hid (HE1.out.trans (if_neg (by simp [hep])))
  have hd : decide (ep < 64) = true := decide_eq_true hep
  clear hep HE1
  go_wp2_with fail
  with_reducible refine (must_ok 2 _).mono ?_
  rintro e w5 ⟨rfl, rfl⟩
  clear hd
  have hol : owners.length ≤ 1000 := by have h1 := HPO.out.few; have h2 := HPO.out.len; omega
  cases hpe : peopleB (-1) who with
  | false =>
    have HV : Hid (ME = 1) := Lib.hid (HE2.out.trans (if_pos (by rw [hpe]; simp)))
    clear HE2 hol
    go_wp2_with fail
    with_reducible refine (mono_ending (misSet_any _ who _ HM.out.hWH) (show _ = Ending.returned (.bool false) by rw [hpe])).mono ?_
    rintro e w5 ⟨rfl, hb5⟩
    replace HM := Lib.hid (HM.out.later hb5)
    replace c0 := row_cell HM.out.q1 (k := 0) (v := .int .i64 ep) rfl
    replace c1 := row_cell HM.out.q1 (k := 1) (v := .slice a1 rows.length k1) rfl
    replace c2 := row_cell HM.out.q1 (k := 2) (v := .slice a2 owners.length k2) rfl
    replace c3 := row_cell HM.out.q1 (k := 3) (v := .slice a3 cs.length k3) rfl
    replace d0 := row_cell HM.out.q2 (k := 0) (v := .slice a4 rows2.length k4) rfl
    replace d1 := row_cell HM.out.q2 (k := 1) (v := .slice a5 owners2.length k5) rfl
    replace x3 := row_cell HM.out.q3 (k := 0) (v := .slice a6 css.length k6) rfl
    replace x4 := row_cell HM.out.q4 (k := 0) (v := .slice a7 ls.length k7) rfl
    clear hb5
    go_wp2_with fail
    with_reducible refine (must_bad 1 _).mono ?_
    rintro e w6 ⟨rfl, rfl⟩
    refine leaves_cons (f := 34) (args := #[.pointer (some ⟨w.heap.size + 1 + 1 + 1 + 1 + 1, 0, none⟩)]) (by simp) (by simp [go_sem]) ?_
    refine (caught39_panicking (w.heap.size + 1 + 1 + 1 + 1 + 1) 0 0 (1) [] _ (row_cell HM.out.qe rfl) (row_free HM.out.qe 0) (row_lt HM.out.qe)).mono ?_
    rintro e u' w'' ⟨rfl, rfl, rfl⟩
    obtain ⟨Wf, hWf, hbf, hxf, h0, h1, h2, h3⟩ := stop_endK HM.out.b (show w.heap.size ≤ w.heap.size + 1 + 1 + 1 + 1 + 1 by omega) HM.out.qe HM.out.qk (by omega) (1)
    rw [← hWf]
    simp [Leaves, settle, results, Try.results12, go_sem, hxf, h0, h1, h2, h3]
    exact mv_off HV.out (by decide) hbf
  | true =>
  go_wp2_with fail
  with_reducible refine (mono_ending (misSet_any _ who _ HM.out.hWH) (show _ = Ending.returned (.bool true) by rw [hpe])).mono ?_
  rintro e w5 ⟨rfl, hb5⟩
  replace HM := Lib.hid (HM.out.later hb5)
  replace c0 := row_cell HM.out.q1 (k := 0) (v := .int .i64 ep) rfl
  replace c1 := row_cell HM.out.q1 (k := 1) (v := .slice a1 rows.length k1) rfl
  replace c2 := row_cell HM.out.q1 (k := 2) (v := .slice a2 owners.length k2) rfl
  replace c3 := row_cell HM.out.q1 (k := 3) (v := .slice a3 cs.length k3) rfl
  replace d0 := row_cell HM.out.q2 (k := 0) (v := .slice a4 rows2.length k4) rfl
  replace d1 := row_cell HM.out.q2 (k := 1) (v := .slice a5 owners2.length k5) rfl
  replace x3 := row_cell HM.out.q3 (k := 0) (v := .slice a6 css.length k6) rfl
  replace x4 := row_cell HM.out.q4 (k := 0) (v := .slice a7 ls.length k7) rfl
  clear hb5
  go_wp2_with fail
  with_reducible refine (mowned_any _ _ _ owners who _ ⟨_, _, _, rfl⟩ HM.out.hO HM.out.hWH hol).mono ?_
  rintro e w6 ⟨vo, rfl, hvo, hb6⟩
  have HVO := Lib.hid hvo
  clear hvo
  replace HM := Lib.hid (HM.out.later hb6)
  replace c0 := row_cell HM.out.q1 (k := 0) (v := .int .i64 ep) rfl
  replace c1 := row_cell HM.out.q1 (k := 1) (v := .slice a1 rows.length k1) rfl
  replace c2 := row_cell HM.out.q1 (k := 2) (v := .slice a2 owners.length k2) rfl
  replace c3 := row_cell HM.out.q1 (k := 3) (v := .slice a3 cs.length k3) rfl
  replace d0 := row_cell HM.out.q2 (k := 0) (v := .slice a4 rows2.length k4) rfl
  replace d1 := row_cell HM.out.q2 (k := 1) (v := .slice a5 owners2.length k5) rfl
  replace x3 := row_cell HM.out.q3 (k := 0) (v := .slice a6 css.length k6) rfl
  replace x4 := row_cell HM.out.q4 (k := 0) (v := .slice a7 ls.length k7) rfl
  clear hb6
  go_wp2_with fail
  with_reducible refine (equalI_any _ _ rws (ownN owners who owners.length) _ HM.out.hRW HVO.out).mono ?_
  rintro e w7 ⟨rfl, hb7⟩
  replace HM := Lib.hid (HM.out.later hb7)
  replace c0 := row_cell HM.out.q1 (k := 0) (v := .int .i64 ep) rfl
  replace c1 := row_cell HM.out.q1 (k := 1) (v := .slice a1 rows.length k1) rfl
  replace c2 := row_cell HM.out.q1 (k := 2) (v := .slice a2 owners.length k2) rfl
  replace c3 := row_cell HM.out.q1 (k := 3) (v := .slice a3 cs.length k3) rfl
  replace d0 := row_cell HM.out.q2 (k := 0) (v := .slice a4 rows2.length k4) rfl
  replace d1 := row_cell HM.out.q2 (k := 1) (v := .slice a5 owners2.length k5) rfl
  replace x3 := row_cell HM.out.q3 (k := 0) (v := .slice a6 css.length k6) rfl
  replace x4 := row_cell HM.out.q4 (k := 0) (v := .slice a7 ls.length k7) rfl
  clear hb7
  clear HVO hol
  by_cases hro : rws = ownN owners who owners.length
  rotate_left
  · have HV : Hid (ME = 1) := Lib.hid (HE2.out.trans (if_pos (by simp [hro])))
    rw [decide_eq_false hro]
    clear HE2 hro
    go_wp2_with fail
    with_reducible refine (must_bad 1 _).mono ?_
    rintro e w8 ⟨rfl, rfl⟩
    refine leaves_cons (f := 34) (args := #[.pointer (some ⟨w.heap.size + 1 + 1 + 1 + 1 + 1, 0, none⟩)]) (by simp) (by simp [go_sem]) ?_
    refine (caught39_panicking (w.heap.size + 1 + 1 + 1 + 1 + 1) 0 0 (1) [] _ (row_cell HM.out.qe rfl) (row_free HM.out.qe 0) (row_lt HM.out.qe)).mono ?_
    rintro e u' w'' ⟨rfl, rfl, rfl⟩
    obtain ⟨Wf, hWf, hbf, hxf, h0, h1, h2, h3⟩ := stop_endK HM.out.b (show w.heap.size ≤ w.heap.size + 1 + 1 + 1 + 1 + 1 by omega) HM.out.qe HM.out.qk (by omega) (1)
    rw [← hWf]
    simp [Leaves, settle, results, Try.results12, go_sem, hxf, h0, h1, h2, h3]
    exact mv_off HV.out (by decide) hbf
  have HE3 : Hid (ME = (if ¬ (accOk rows owners who = true ∧ css.length = rws.length ∧ ls.length = rws.length) then 340 else (if dealtB rows owners cs rows2 rws css ls rws.length = true then 0 else 340))) := Lib.hid (HE2.out.trans (if_neg (by simp [hpe, hro])))
  have HRO := Lib.hid hro
  rw [decide_eq_true hro]
  clear HE2 hro
  go_wp2_with fail
  with_reducible refine (must_ok 1 _).mono ?_
  rintro e w8 ⟨rfl, rfl⟩
  have hqe : questE rows owners who = 0 := by unfold questE; rw [if_neg (by simp [HP1.out]), hpe]; rfl
  have HQE := Lib.hid hqe
  clear hqe hpe
  go_wp2_with fail
  with_reducible refine (accepts_any _ _ _ rows owners who _ HM.out.hR HM.out.hO HM.out.hWH).mono ?_
  rintro e w9 ⟨yv, rfl, hyv, hb9⟩
  have HY := Lib.hid hyv
  obtain ⟨ay, ky, rfl, -, hly, -⟩ := id hyv
  clear hyv
  replace HM := Lib.hid (HM.out.later hb9)
  replace c0 := row_cell HM.out.q1 (k := 0) (v := .int .i64 ep) rfl
  replace c1 := row_cell HM.out.q1 (k := 1) (v := .slice a1 rows.length k1) rfl
  replace c2 := row_cell HM.out.q1 (k := 2) (v := .slice a2 owners.length k2) rfl
  replace c3 := row_cell HM.out.q1 (k := 3) (v := .slice a3 cs.length k3) rfl
  replace d0 := row_cell HM.out.q2 (k := 0) (v := .slice a4 rows2.length k4) rfl
  replace d1 := row_cell HM.out.q2 (k := 1) (v := .slice a5 owners2.length k5) rfl
  replace x3 := row_cell HM.out.q3 (k := 0) (v := .slice a6 css.length k6) rfl
  replace x4 := row_cell HM.out.q4 (k := 0) (v := .slice a7 ls.length k7) rfl
  clear hb9
  rw [HQE.out]
  cases hok : accOk rows owners who with
  | false =>
    have HV : Hid (ME = 340) := Lib.hid (HE3.out.trans (if_pos (by rw [hok]; simp)))
    clear HE3
    go_wp2_with fail
    with_reducible refine (must_bad 340 _).mono ?_
    rintro e w10 ⟨rfl, rfl⟩
    refine leaves_cons (f := 34) (args := #[.pointer (some ⟨w.heap.size + 1 + 1 + 1 + 1 + 1, 0, none⟩)]) (by simp) (by simp [go_sem]) ?_
    refine (caught39_panicking (w.heap.size + 1 + 1 + 1 + 1 + 1) 0 0 (340) [] _ (row_cell HM.out.qe rfl) (row_free HM.out.qe 0) (row_lt HM.out.qe)).mono ?_
    rintro e u' w'' ⟨rfl, rfl, rfl⟩
    obtain ⟨Wf, hWf, hbf, hxf, h0, h1, h2, h3⟩ := stop_endK HM.out.b (show w.heap.size ≤ w.heap.size + 1 + 1 + 1 + 1 + 1 by omega) HM.out.qe HM.out.qk (by omega) (340)
    rw [← hWf]
    simp [Leaves, settle, results, Try.results12, go_sem, hxf, h0, h1, h2, h3]
    exact mv_off HV.out (by decide) hbf
  | true =>
  by_cases hl1 : css.length = rws.length
  rotate_left
  · have hd1 : ((css.length : Int) == (rws.length : Int)) = false := by rw [beq_eq_false_iff_ne]; omega
    have HV : Hid (ME = 340) := Lib.hid (HE3.out.trans (if_pos (by intro h; exact hl1 h.2.1)))
    clear HE3
    go_wp2_with fail
    with_reducible refine (must_bad 340 _).mono ?_
    rintro e w10 ⟨rfl, rfl⟩
    refine leaves_cons (f := 34) (args := #[.pointer (some ⟨w.heap.size + 1 + 1 + 1 + 1 + 1, 0, none⟩)]) (by simp) (by simp [go_sem]) ?_
    refine (caught39_panicking (w.heap.size + 1 + 1 + 1 + 1 + 1) 0 0 (340) [] _ (row_cell HM.out.qe rfl) (row_free HM.out.qe 0) (row_lt HM.out.qe)).mono ?_
    rintro e u' w'' ⟨rfl, rfl, rfl⟩
    obtain ⟨Wf, hWf, hbf, hxf, h0, h1, h2, h3⟩ := stop_endK HM.out.b (show w.heap.size ≤ w.heap.size + 1 + 1 + 1 + 1 + 1 by omega) HM.out.qe HM.out.qk (by omega) (340)
    rw [← hWf]
    simp [Leaves, settle, results, Try.results12, go_sem, hxf, h0, h1, h2, h3]
    exact mv_off HV.out (by decide) hbf
  by_cases hl2 : ls.length = rws.length
  rotate_left
  · have hd1 : ((css.length : Int) == (rws.length : Int)) = true := by rw [beq_iff_eq]; omega
    have hd2 : ((ls.length : Int) == (rws.length : Int)) = false := by rw [beq_eq_false_iff_ne]; omega
    have HV : Hid (ME = 340) := Lib.hid (HE3.out.trans (if_pos (by intro h; exact hl2 h.2.2)))
    clear HE3
    go_wp2_with fail
    with_reducible refine (must_bad 340 _).mono ?_
    rintro e w10 ⟨rfl, rfl⟩
    refine leaves_cons (f := 34) (args := #[.pointer (some ⟨w.heap.size + 1 + 1 + 1 + 1 + 1, 0, none⟩)]) (by simp) (by simp [go_sem]) ?_
    refine (caught39_panicking (w.heap.size + 1 + 1 + 1 + 1 + 1) 0 0 (340) [] _ (row_cell HM.out.qe rfl) (row_free HM.out.qe 0) (row_lt HM.out.qe)).mono ?_
    rintro e u' w'' ⟨rfl, rfl, rfl⟩
    obtain ⟨Wf, hWf, hbf, hxf, h0, h1, h2, h3⟩ := stop_endK HM.out.b (show w.heap.size ≤ w.heap.size + 1 + 1 + 1 + 1 + 1 by omega) HM.out.qe HM.out.qk (by omega) (340)
    rw [← hWf]
    simp [Leaves, settle, results, Try.results12, go_sem, hxf, h0, h1, h2, h3]
    exact mv_off HV.out (by decide) hbf
  have hd1 : ((css.length : Int) == (rws.length : Int)) = true := by rw [beq_iff_eq]; omega
  have hd2 : ((ls.length : Int) == (rws.length : Int)) = true := by rw [beq_iff_eq]; omega
  have HE4 : Hid (ME = (if dealtB rows owners cs rows2 rws css ls rws.length = true then 0 else 340)) := Lib.hid (HE3.out.trans (if_neg (fun h => h ⟨hok, hl1, hl2⟩)))
  have HL1 := Lib.hid hl1
  have HL2 := Lib.hid hl2
  have hpos : 0 < rws.length := by rw [HRO.out]; exact List.length_pos_iff.2 (acc_own HP1.out hok)
  have HPOS := Lib.hid hpos
  have HAP := Lib.hid (acc_pack HPO.out hok)
  have HOK := Lib.hid hok
  clear HE3 hl1 hl2 hpos
  go_wp2_with fail
  with_reducible refine (must_ok 340 _).mono ?_
  rintro e w10 ⟨rfl, rfl⟩
  clear hd1 hd2 hok
  go_wp2_with fail
  go_loopw [79] (fun i W => ∃ k : Nat, k ≤ rws.length ∧ i = .int .i64 k ∧ Hid (∀ j, j < k → oneB rows owners cs rows2 rws css ls j = true) ∧ Hid (Below w9.heap.size w9 W)) (fun i _ => rws.length - (intOf i).toNat)
  case atStart => exact ⟨0, Nat.zero_le _, rfl, Lib.hid fun j h => absurd h (Nat.not_lt_zero _), Lib.hid (Below.refl _ _)⟩
  case round =>
    obtain ⟨k, hkl, rfl, HD, HBK⟩ := hrel
    replace HM := Lib.hid (HM.out.later HBK.out)
    replace HY := Lib.hid (HY.out.below HBK.out)
    replace c0 := row_cell HM.out.q1 (k := 0) (v := .int .i64 ep) rfl
    replace c1 := row_cell HM.out.q1 (k := 1) (v := .slice a1 rows.length k1) rfl
    replace c2 := row_cell HM.out.q1 (k := 2) (v := .slice a2 owners.length k2) rfl
    replace c3 := row_cell HM.out.q1 (k := 3) (v := .slice a3 cs.length k3) rfl
    replace d0 := row_cell HM.out.q2 (k := 0) (v := .slice a4 rows2.length k4) rfl
    replace d1 := row_cell HM.out.q2 (k := 1) (v := .slice a5 owners2.length k5) rfl
    replace x3 := row_cell HM.out.q3 (k := 0) (v := .slice a6 css.length k6) rfl
    replace x4 := row_cell HM.out.q4 (k := 0) (v := .slice a7 ls.length k7) rfl
    by_cases hlt : k < rws.length
    · obtain ⟨hrk, bR, oR, nR, cR, eR, qR⟩ := HM.out.hRW.get hlt
      obtain ⟨bC, oC, nC, cC, rC, eC, qC, hIC⟩ := HM.out.hCS.getRow (k := k) (by rw [HL1.out]; exact hlt)
      obtain ⟨bL, oL, nL, cL, rL, eL, qL, hSL⟩ := HM.out.hLS.get (k := k) (by rw [HL2.out]; exact hlt)
      obtain ⟨bZ, oZ, nZ, cZ, rZ, eZ, qZ, hSZ⟩ := HM.out.hLS.get (k := 0) (by rw [HL2.out]; exact HPOS.out)
      simp only [Value.slice.injEq] at eR eC eL eZ
      obtain ⟨rfl, -, -⟩ := eR
      obtain ⟨rfl, -, -⟩ := eC
      obtain ⟨rfl, -, -⟩ := eL
      obtain ⟨eZ, -, -⟩ := eZ
      simp only [Option.some.injEq, Addr.mk.injEq] at eZ
      obtain ⟨rfl, rfl, -⟩ := eZ
      obtain ⟨aC, kC, rfl, -⟩ := id hIC
      obtain ⟨aL, kL, rfl, -⟩ := id hSL
      obtain ⟨aZ, kZ, rfl, -⟩ := id hSZ
      rw [Nat.add_zero] at qZ
      have HIC := Lib.hid hIC
      have HSL := Lib.hid hSL
      have HSZ := Lib.hid hSZ
      have HRK := Lib.hid hrk
      have i0 : 0 ≤ (k : Int) := by omega
      have i1 : (k : Int) < (rws.length : Int) := by omega
      have i2 : (k : Int) < (css.length : Int) := by have := HL1.out; omega
      have i3 : (k : Int) < (ls.length : Int) := by have := HL2.out; omega
      have i4 : (0 : Int) < (ls.length : Int) := by have := HL2.out; omega
      clear hIC hSL hSZ hrk
      obtain ⟨row, hrow⟩ : ∃ x, x = nth rws k := ⟨_, rfl⟩
      rw [← hrow] at qR HRK
      have HROW := Lib.hid hrow
      obtain ⟨lz, hlz⟩ : ∃ x, x = ls.getD 0 [] := ⟨_, rfl⟩
      rw [← hlz] at qZ HSZ
      have HLZ := Lib.hid hlz
      obtain ⟨lk, hlk⟩ : ∃ x, x = ls.getD k [] := ⟨_, rfl⟩
      rw [← hlk] at qL HSL
      have HLK := Lib.hid hlk
      obtain ⟨ck, hck⟩ : ∃ x, x = css.getD k [] := ⟨_, rfl⟩
      rw [← hck] at qC HIC
      have HCKK := Lib.hid hck
      clear hrow hlz hlk hck
      go_wp2_with fail
      have HF := Lib.hid (fun (W1 : World) (h1 : Below wr.heap.size wr W1) => show W1.cell? ⟨w.heap.size, 0, none⟩ = some (.int .i64 ep) ∧ W1.cell? ⟨w.heap.size, 1, none⟩ = some (.slice a1 rows.length k1) ∧ W1.cell? ⟨w.heap.size, 2, none⟩ = some (.slice a2 owners.length k2) ∧ W1.cell? ⟨w.heap.size, 3, none⟩ = some (.slice a3 cs.length k3) ∧ W1.cell? ⟨w.heap.size + 1, 0, none⟩ = some (.slice a4 rows2.length k4) ∧ W1.cell? ⟨w.heap.size + 1, 1, none⟩ = some (.slice a5 owners2.length k5) ∧ W1.cell? ⟨w.heap.size + 1 + 1, 0, none⟩ = some (.slice (some ⟨bC, oC, none⟩) css.length k6) ∧ W1.cell? ⟨w.heap.size + 1 + 1 + 1, 0, none⟩ = some (.slice (some ⟨bL, oL, none⟩) ls.length k7) ∧ W1.cell? ⟨bC, oC + k, none⟩ = some (.slice aC ck.length kC) ∧ W1.cell? ⟨bL, oL + k, none⟩ = some (.slice aL lk.length kL) ∧ W1.cell? ⟨bL, oL, none⟩ = some (.slice aZ lz.length kZ) from
        ⟨below_cell h1 c0, below_cell h1 c1, below_cell h1 c2, below_cell h1 c3, below_cell h1 d0, below_cell h1 d1, below_cell h1 x3, below_cell h1 x4, below_cell h1 qC, below_cell h1 qL, below_cell h1 qZ⟩)
      have HFT := Lib.hid (fun (W1 : World) (h1 : Below wr.heap.size wr W1) => mfits_any ep (.slice a1 rows.length k1) (.slice a2 owners.length k2) (.slice a3 cs.length k3) (.slice a4 rows2.length k4) (.slice a5 owners2.length k5) (.slice aC ck.length kC) row rows owners cs rows2 owners2 ck W1 (HM.out.later h1).hR (HM.out.later h1).hO (HM.out.later h1).hC (HM.out.later h1).hR2 (HM.out.later h1).hO2 (HIC.out.below h1) HRK.out HP2.out)
      have HEQ := Lib.hid (fun (W1 : World) (h1 : Below wr.heap.size wr W1) => mefRows_any (.slice aZ lz.length kZ) (.slice aL lk.length kL) lz lk W1 (HSZ.out.below h1) (HSL.out.below h1))
      obtain ⟨fb, hfb⟩ : ∃ x, x = fitM rows owners cs rows2 row ck := ⟨_, rfl⟩
      obtain ⟨eb, heb⟩ : ∃ x, x = decide (rowsS lz = rowsS lk) := ⟨_, rfl⟩
      rw [← hfb] at HFT
      rw [← heb] at HEQ
      have HFB := Lib.hid hfb
      have HEB := Lib.hid heb
      clear hfb heb
      have i5 : 0 < ls.length := by have := HL2.out; omega
      cases htb : (fb && eb) with
      | false =>
        have HV : Hid (ME = 340) := Lib.hid (HE4.out.trans (if_neg (by rw [dealtB_bad (i := k) (by omega) (by unfold oneB; rw [← HROW.out, ← HLZ.out, ← HLK.out, ← HCKK.out, ← HFB.out, ← HEB.out, htb, Bool.false_and])]; decide)))
        clear HE4 HD HBK HY
        refine wp_region_flowsG (by kernel_rfl) (by kernel_rfl) (by kernel_rfl) (by kernel_rfl) (fun done v W => FMv11 wr (.agg #[.int .i64 ep, .slice a1 rows.length k1, .slice a2 owners.length k2, .slice a3 cs.length k3]) (.agg #[.slice a4 rows2.length k4, .slice a5 owners2.length k5]) (.slice (some ⟨bC, oC, none⟩) css.length k6) (.slice (some ⟨bL, oL, none⟩) ls.length k7) (.slice aC ck.length kC) (.slice aL lk.length kL) (.slice aZ lz.length kZ) (.func (.func 42) #[] #[]) row k bC oC bL oL fb eb done v W) (fun v => ?_) ?_ (fun v W h => ?_)
        · exact ⟨(Below.refl _ _).drew, (fun h => by cases h), (fun h => by cases h), (fun h => by cases h), (fun h => by cases h), (fun h => by cases h), (fun h => by cases h), (fun h => by cases h), (fun h => by cases h), (fun h => by cases h), (fun h => by cases h), (fun h => by cases h), (fun h => by cases h), (fun h => by cases h), (fun h => by cases h), (fun h => by cases h), (fun h => by cases h), (fun h => by cases h), (fun h => by cases h), (fun h => by cases h), (fun h => by cases h)⟩
        · refine ⟨?_, ?_, ?_, ?_, ?_, ?_, ?_, ?_, ?_, ?_, ?_, ?_, ?_, ?_, ?_, ?_, ?_, ?_, ?_, ?_, trivial⟩
          · intro done v W A h hd hp hu hA hB hdf
            have e : A.tmps[6]?.getD undef = .pointer (some ⟨w.heap.size, 0, none⟩) := hB 6 rfl
            have y_c0 := below_cell h.b c0
            have y_c1 := below_cell h.b c1
            have y_c2 := below_cell h.b c2
            have y_c3 := below_cell h.b c3
            clear hA hB hp hu hdf
            go_simp
            exact ⟨_, rfl, { h with f0 := (fun _ => rfl) }⟩
          · intro done v W A h hd hp hu hA hB hdf
            have e : A.tmps[7]?.getD undef = .pointer (some ⟨w.heap.size + 1, 0, none⟩) := hB 7 rfl
            have y_d0 := below_cell h.b d0
            have y_d1 := below_cell h.b d1
            clear hA hB hp hu hdf
            go_simp
            exact ⟨_, rfl, { h with f1 := (fun _ => rfl) }⟩
          · intro done v W A h hd hp hu hA hB hdf
            have e : A.tmps[20]?.getD undef = .int .i64 row := hB 20 rfl
            clear hA hB hp hu hdf
            go_simp
            exact ⟨_, rfl, { h with f2 := (fun _ => rfl) }⟩
          · intro done v W A h hd hp hu hA hB hdf
            have e : A.tmps[10]?.getD undef = .pointer (some ⟨w.heap.size + 1 + 1, 0, none⟩) := hB 10 rfl
            have y_x3 := below_cell h.b x3
            clear hA hB hp hu hdf
            go_simp
            exact ⟨_, rfl, { h with f3 := (fun _ => rfl) }⟩
          · intro done v W A h hd hp hu hA hB hdf
            have e : A.tmps[19]?.getD undef = .int .i64 (k : Int) := hB 19 rfl
            clear hA hB hp hu hdf
            go_simp
            exact ⟨_, rfl, { h with f4 := (fun _ => rfl) }⟩
          · intro done v W A h hd hp hu hA hB hdf
            have hd3 : done 3 = true := hp 3 rfl
            have hd4 : done 4 = true := hp 4 rfl
            have e1 := (hA 3 87 rfl hd3).trans (h.f3 hd3)
            have e2 := (hA 4 88 rfl hd4).trans (h.f4 hd4)
            clear hA hB hp hu hdf
            go_simp
            exact ⟨_, rfl, { h with f5 := (fun _ => rfl) }⟩
          · intro done v W A h hd hp hu hA hB hdf
            have hd5 : done 5 = true := hp 5 rfl
            have e1 := (hA 5 89 rfl hd5).trans (h.f5 hd5)
            have y_qC := below_cell h.b qC
            clear hA hB hp hu hdf
            go_simp
            exact ⟨_, rfl, { h with f6 := (fun _ => rfl) }⟩
          · intro done v W A h hd hp hu hA hB hdf
            have hd0 : done 0 = true := hp 0 rfl
            have hd1 : done 1 = true := hp 1 rfl
            have hd2 : done 2 = true := hp 2 rfl
            have hd6 : done 6 = true := hp 6 rfl
            have e1 := (hA 0 84 rfl hd0).trans (h.f0 hd0)
            have e2 := (hA 1 85 rfl hd1).trans (h.f1 hd1)
            have e3 := (hA 2 86 rfl hd2).trans (h.f2 hd2)
            have e4 := (hA 6 90 rfl hd6).trans (h.f6 hd6)
            clear hA hB hp hu hdf
            go_simp
            refine (HFT.out W h.b).mono ?_
            rintro e wq ⟨rfl, hb⟩
            exact ⟨_, rfl, { h with b := h.b.trans (hb.mono h.b.size), f7 := (fun _ => rfl) }⟩
          · intro done v W A h hd hp hu hA hB hdf
            have hd7 : done 7 = true := hp 7 rfl
            have e1 := (hA 7 91 rfl hd7).trans (h.f7 hd7)
            clear hA hB hp hu hdf
            go_simp
            exact ⟨_, rfl, { h with f8 := (fun _ => rfl) }⟩
          · intro done v W A h hd hp hu hA hB hdf
            have hd8 : done 8 = true := hp 8 rfl
            refine ⟨fb, h.f8 hd8, fun hfb => ?_, fun hne => ?_⟩
            · have e : A.tmps[11]?.getD undef = .pointer (some ⟨w.heap.size + 1 + 1 + 1, 0, none⟩) := hB 11 rfl
              have y_x4 := below_cell h.b x4
              clear hA hB hp hu hdf hfb
              go_simp
              exact ⟨_, rfl, { h with f9 := (fun _ => fun _ => rfl) }⟩
            · exact { h with f9 := (fun _ => fun h2 => absurd h2 hne) }
          · intro done v W A h hd hp hu hA hB hdf
            have hd8 : done 8 = true := hp 8 rfl
            have hd9 : done 9 = true := hp 9 rfl
            refine ⟨fb, h.f8 hd8, fun hfb => ?_, fun hne => ?_⟩
            · have e1 := (hA 9 93 rfl hd9).trans (h.f9 hd9 hfb)
              clear hA hB hp hu hdf hfb
              go_simp
              exact ⟨_, rfl, { h with f10 := (fun _ => fun _ => rfl) }⟩
            · exact { h with f10 := (fun _ => fun h2 => absurd h2 hne) }
          · intro done v W A h hd hp hu hA hB hdf
            have hd8 : done 8 = true := hp 8 rfl
            have hd10 : done 10 = true := hp 10 rfl
            refine ⟨fb, h.f8 hd8, fun hfb => ?_, fun hne => ?_⟩
            · have e1 := (hA 10 94 rfl hd10).trans (h.f10 hd10 hfb)
              have y_qZ := below_cell h.b qZ
              clear hA hB hp hu hdf hfb
              go_simp
              exact ⟨_, rfl, { h with f11 := (fun _ => fun _ => rfl) }⟩
            · exact { h with f11 := (fun _ => fun h2 => absurd h2 hne) }
          · intro done v W A h hd hp hu hA hB hdf
            have hd8 : done 8 = true := hp 8 rfl
            refine ⟨fb, h.f8 hd8, fun hfb => ?_, fun hne => ?_⟩
            · have e : A.tmps[11]?.getD undef = .pointer (some ⟨w.heap.size + 1 + 1 + 1, 0, none⟩) := hB 11 rfl
              have y_x4 := below_cell h.b x4
              clear hA hB hp hu hdf hfb
              go_simp
              exact ⟨_, rfl, { h with f12 := (fun _ => fun _ => rfl) }⟩
            · exact { h with f12 := (fun _ => fun h2 => absurd h2 hne) }
          · intro done v W A h hd hp hu hA hB hdf
            have hd8 : done 8 = true := hp 8 rfl
            refine ⟨fb, h.f8 hd8, fun hfb => ?_, fun hne => ?_⟩
            · have e : A.tmps[19]?.getD undef = .int .i64 (k : Int) := hB 19 rfl
              clear hA hB hp hu hdf hfb
              go_simp
              exact ⟨_, rfl, { h with f13 := (fun _ => fun _ => rfl) }⟩
            · exact { h with f13 := (fun _ => fun h2 => absurd h2 hne) }
          · intro done v W A h hd hp hu hA hB hdf
            have hd8 : done 8 = true := hp 8 rfl
            have hd12 : done 12 = true := hp 12 rfl
            have hd13 : done 13 = true := hp 13 rfl
            refine ⟨fb, h.f8 hd8, fun hfb => ?_, fun hne => ?_⟩
            · have e1 := (hA 12 96 rfl hd12).trans (h.f12 hd12 hfb)
              have e2 := (hA 13 97 rfl hd13).trans (h.f13 hd13 hfb)
              clear hA hB hp hu hdf hfb
              go_simp
              exact ⟨_, rfl, { h with f14 := (fun _ => fun _ => rfl) }⟩
            · exact { h with f14 := (fun _ => fun h2 => absurd h2 hne) }
          · intro done v W A h hd hp hu hA hB hdf
            have hd8 : done 8 = true := hp 8 rfl
            have hd14 : done 14 = true := hp 14 rfl
            refine ⟨fb, h.f8 hd8, fun hfb => ?_, fun hne => ?_⟩
            · have e1 := (hA 14 98 rfl hd14).trans (h.f14 hd14 hfb)
              have y_qL := below_cell h.b qL
              clear hA hB hp hu hdf hfb
              go_simp
              exact ⟨_, rfl, { h with f15 := (fun _ => fun _ => rfl) }⟩
            · exact { h with f15 := (fun _ => fun h2 => absurd h2 hne) }
          · intro done v W A h hd hp hu hA hB hdf
            have hd8 : done 8 = true := hp 8 rfl
            refine ⟨fb, h.f8 hd8, fun hfb => ?_, fun hne => ?_⟩
            · have e : A.tmps[18]?.getD undef = .func (.func 42) #[] #[] := hB 18 rfl
              clear hA hB hp hu hdf hfb
              go_simp
              exact ⟨_, rfl, { h with f16 := (fun _ => fun _ => rfl) }⟩
            · exact { h with f16 := (fun _ => fun h2 => absurd h2 hne) }
          · intro done v W A h hd hp hu hA hB hdf
            have hd8 : done 8 = true := hp 8 rfl
            have hd11 : done 11 = true := hp 11 rfl
            have hd15 : done 15 = true := hp 15 rfl
            have hd16 : done 16 = true := hp 16 rfl
            refine ⟨fb, h.f8 hd8, fun hfb => ?_, fun hne => ?_⟩
            · have e1 := (hA 11 95 rfl hd11).trans (h.f11 hd11 hfb)
              have e2 := (hA 15 99 rfl hd15).trans (h.f15 hd15 hfb)
              have e3 := (hA 16 100 rfl hd16).trans (h.f16 hd16 hfb)
              clear hA hB hp hu hdf hfb
              go_simp
              refine (HEQ.out W h.b).mono ?_
              rintro e wq ⟨rfl, hb⟩
              exact ⟨_, rfl, { h with b := h.b.trans (hb.mono h.b.size), f17 := (fun _ => fun _ => rfl) }⟩
            · exact { h with f17 := (fun _ => fun h2 => absurd h2 hne) }
          · intro done v W A h hd hp hu hA hB hdf
            have hd8 : done 8 = true := hp 8 rfl
            have hd17 : done 17 = true := hp 17 rfl
            have e1 := (hA 8 92 rfl hd8).trans (h.f8 hd8)
            cases fb with
            | false => clear hA hB hp hu hdf htb; go_simp; exact ⟨_, rfl, { h with f18 := (fun _ => rfl) }⟩
            | true => have e2 := (hA 17 101 rfl hd17).trans (h.f17 hd17 rfl); clear hA hB hp hu hdf htb; go_simp; exact ⟨_, rfl, { h with f18 := (fun _ => rfl) }⟩
          · intro done v W A h hd hp hu hA hB hdf
            have hd18 : done 18 = true := hp 18 rfl
            have e1 := (hA 18 102 rfl hd18).trans (h.f18 hd18)
            rw [htb] at e1
            have h13 : A.tmps[13]?.getD undef = .slice none 0 0 := hB 13 rfl
            have h12 : A.tmps[12]?.getD undef = .pointer (some ⟨w.heap.size + 1 + 1 + 1 + 1, 0, none⟩) := hB 12 rfl
            have h14 : A.tmps[14]?.getD undef = .pointer (some ⟨w.heap.size + 1 + 1 + 1 + 1 + 1, 0, none⟩) := hB 14 rfl
            clear hA hB hp hu
            go_simp
            refine (must_bad 340 _).mono ?_
            rintro e wq ⟨rfl, rfl⟩
            obtain ⟨T, D⟩ := A
            simp only at hdf h12 h13 h14
            subst hdf
            replace HM := Lib.hid (HM.out.later h.b)
            refine leaves_cons (f := 34) (args := #[.pointer (some ⟨w.heap.size + 1 + 1 + 1 + 1 + 1, 0, none⟩)]) (by simp) (by simp [go_sem]) ?_
            refine (caught39_panicking (w.heap.size + 1 + 1 + 1 + 1 + 1) 0 0 (340) [] _ (row_cell HM.out.qe rfl) (row_free HM.out.qe 0) (row_lt HM.out.qe)).mono ?_
            rintro e u' w'' ⟨rfl, rfl, rfl⟩
            obtain ⟨Wf, hWf, hbf, hxf, h0, h1, h2, h3⟩ := stop_endK HM.out.b (show w.heap.size ≤ w.heap.size + 1 + 1 + 1 + 1 + 1 by omega) HM.out.qe HM.out.qk (by omega) (340)
            rw [← hWf]
            simp [Leaves, settle, results, Try.results12, go_sem, hxf, h0, h1, h2, h3, h12, h13, h14]
            exact mv_off HV.out (by decide) hbf
        exact absurd (htb.symm.trans (h.n rfl)) (by decide)
      | true =>
      refine wp_region_flowsG (by kernel_rfl) (by kernel_rfl) (by kernel_rfl) (by kernel_rfl) (fun done v W => FMv11 wr (.agg #[.int .i64 ep, .slice a1 rows.length k1, .slice a2 owners.length k2, .slice a3 cs.length k3]) (.agg #[.slice a4 rows2.length k4, .slice a5 owners2.length k5]) (.slice (some ⟨bC, oC, none⟩) css.length k6) (.slice (some ⟨bL, oL, none⟩) ls.length k7) (.slice aC ck.length kC) (.slice aL lk.length kL) (.slice aZ lz.length kZ) (.func (.func 42) #[] #[]) row k bC oC bL oL fb eb done v W) (fun v => ?_) ?_ (fun v W h => ?_)
      · exact ⟨(Below.refl _ _).drew, (fun h => by cases h), (fun h => by cases h), (fun h => by cases h), (fun h => by cases h), (fun h => by cases h), (fun h => by cases h), (fun h => by cases h), (fun h => by cases h), (fun h => by cases h), (fun h => by cases h), (fun h => by cases h), (fun h => by cases h), (fun h => by cases h), (fun h => by cases h), (fun h => by cases h), (fun h => by cases h), (fun h => by cases h), (fun h => by cases h), (fun h => by cases h), (fun h => by cases h)⟩
      · refine ⟨?_, ?_, ?_, ?_, ?_, ?_, ?_, ?_, ?_, ?_, ?_, ?_, ?_, ?_, ?_, ?_, ?_, ?_, ?_, ?_, trivial⟩
        · intro done v W A h hd hp hu hA hB hdf
          have e : A.tmps[6]?.getD undef = .pointer (some ⟨w.heap.size, 0, none⟩) := hB 6 rfl
          have y_c0 := below_cell h.b c0
          have y_c1 := below_cell h.b c1
          have y_c2 := below_cell h.b c2
          have y_c3 := below_cell h.b c3
          clear hA hB hp hu hdf
          go_simp
          exact ⟨_, rfl, { h with f0 := (fun _ => rfl) }⟩
        · intro done v W A h hd hp hu hA hB hdf
          have e : A.tmps[7]?.getD undef = .pointer (some ⟨w.heap.size + 1, 0, none⟩) := hB 7 rfl
          have y_d0 := below_cell h.b d0
          have y_d1 := below_cell h.b d1
          clear hA hB hp hu hdf
          go_simp
          exact ⟨_, rfl, { h with f1 := (fun _ => rfl) }⟩
        · intro done v W A h hd hp hu hA hB hdf
          have e : A.tmps[20]?.getD undef = .int .i64 row := hB 20 rfl
          clear hA hB hp hu hdf
          go_simp
          exact ⟨_, rfl, { h with f2 := (fun _ => rfl) }⟩
        · intro done v W A h hd hp hu hA hB hdf
          have e : A.tmps[10]?.getD undef = .pointer (some ⟨w.heap.size + 1 + 1, 0, none⟩) := hB 10 rfl
          have y_x3 := below_cell h.b x3
          clear hA hB hp hu hdf
          go_simp
          exact ⟨_, rfl, { h with f3 := (fun _ => rfl) }⟩
        · intro done v W A h hd hp hu hA hB hdf
          have e : A.tmps[19]?.getD undef = .int .i64 (k : Int) := hB 19 rfl
          clear hA hB hp hu hdf
          go_simp
          exact ⟨_, rfl, { h with f4 := (fun _ => rfl) }⟩
        · intro done v W A h hd hp hu hA hB hdf
          have hd3 : done 3 = true := hp 3 rfl
          have hd4 : done 4 = true := hp 4 rfl
          have e1 := (hA 3 87 rfl hd3).trans (h.f3 hd3)
          have e2 := (hA 4 88 rfl hd4).trans (h.f4 hd4)
          clear hA hB hp hu hdf
          go_simp
          exact ⟨_, rfl, { h with f5 := (fun _ => rfl) }⟩
        · intro done v W A h hd hp hu hA hB hdf
          have hd5 : done 5 = true := hp 5 rfl
          have e1 := (hA 5 89 rfl hd5).trans (h.f5 hd5)
          have y_qC := below_cell h.b qC
          clear hA hB hp hu hdf
          go_simp
          exact ⟨_, rfl, { h with f6 := (fun _ => rfl) }⟩
        · intro done v W A h hd hp hu hA hB hdf
          have hd0 : done 0 = true := hp 0 rfl
          have hd1 : done 1 = true := hp 1 rfl
          have hd2 : done 2 = true := hp 2 rfl
          have hd6 : done 6 = true := hp 6 rfl
          have e1 := (hA 0 84 rfl hd0).trans (h.f0 hd0)
          have e2 := (hA 1 85 rfl hd1).trans (h.f1 hd1)
          have e3 := (hA 2 86 rfl hd2).trans (h.f2 hd2)
          have e4 := (hA 6 90 rfl hd6).trans (h.f6 hd6)
          clear hA hB hp hu hdf
          go_simp
          refine (HFT.out W h.b).mono ?_
          rintro e wq ⟨rfl, hb⟩
          exact ⟨_, rfl, { h with b := h.b.trans (hb.mono h.b.size), f7 := (fun _ => rfl) }⟩
        · intro done v W A h hd hp hu hA hB hdf
          have hd7 : done 7 = true := hp 7 rfl
          have e1 := (hA 7 91 rfl hd7).trans (h.f7 hd7)
          clear hA hB hp hu hdf
          go_simp
          exact ⟨_, rfl, { h with f8 := (fun _ => rfl) }⟩
        · intro done v W A h hd hp hu hA hB hdf
          have hd8 : done 8 = true := hp 8 rfl
          refine ⟨fb, h.f8 hd8, fun hfb => ?_, fun hne => ?_⟩
          · have e : A.tmps[11]?.getD undef = .pointer (some ⟨w.heap.size + 1 + 1 + 1, 0, none⟩) := hB 11 rfl
            have y_x4 := below_cell h.b x4
            clear hA hB hp hu hdf hfb
            go_simp
            exact ⟨_, rfl, { h with f9 := (fun _ => fun _ => rfl) }⟩
          · exact { h with f9 := (fun _ => fun h2 => absurd h2 hne) }
        · intro done v W A h hd hp hu hA hB hdf
          have hd8 : done 8 = true := hp 8 rfl
          have hd9 : done 9 = true := hp 9 rfl
          refine ⟨fb, h.f8 hd8, fun hfb => ?_, fun hne => ?_⟩
          · have e1 := (hA 9 93 rfl hd9).trans (h.f9 hd9 hfb)
            clear hA hB hp hu hdf hfb
            go_simp
            exact ⟨_, rfl, { h with f10 := (fun _ => fun _ => rfl) }⟩
          · exact { h with f10 := (fun _ => fun h2 => absurd h2 hne) }
        · intro done v W A h hd hp hu hA hB hdf
          have hd8 : done 8 = true := hp 8 rfl
          have hd10 : done 10 = true := hp 10 rfl
          refine ⟨fb, h.f8 hd8, fun hfb => ?_, fun hne => ?_⟩
          · have e1 := (hA 10 94 rfl hd10).trans (h.f10 hd10 hfb)
            have y_qZ := below_cell h.b qZ
            clear hA hB hp hu hdf hfb
            go_simp
            exact ⟨_, rfl, { h with f11 := (fun _ => fun _ => rfl) }⟩
          · exact { h with f11 := (fun _ => fun h2 => absurd h2 hne) }
        · intro done v W A h hd hp hu hA hB hdf
          have hd8 : done 8 = true := hp 8 rfl
          refine ⟨fb, h.f8 hd8, fun hfb => ?_, fun hne => ?_⟩
          · have e : A.tmps[11]?.getD undef = .pointer (some ⟨w.heap.size + 1 + 1 + 1, 0, none⟩) := hB 11 rfl
            have y_x4 := below_cell h.b x4
            clear hA hB hp hu hdf hfb
            go_simp
            exact ⟨_, rfl, { h with f12 := (fun _ => fun _ => rfl) }⟩
          · exact { h with f12 := (fun _ => fun h2 => absurd h2 hne) }
        · intro done v W A h hd hp hu hA hB hdf
          have hd8 : done 8 = true := hp 8 rfl
          refine ⟨fb, h.f8 hd8, fun hfb => ?_, fun hne => ?_⟩
          · have e : A.tmps[19]?.getD undef = .int .i64 (k : Int) := hB 19 rfl
            clear hA hB hp hu hdf hfb
            go_simp
            exact ⟨_, rfl, { h with f13 := (fun _ => fun _ => rfl) }⟩
          · exact { h with f13 := (fun _ => fun h2 => absurd h2 hne) }
        · intro done v W A h hd hp hu hA hB hdf
          have hd8 : done 8 = true := hp 8 rfl
          have hd12 : done 12 = true := hp 12 rfl
          have hd13 : done 13 = true := hp 13 rfl
          refine ⟨fb, h.f8 hd8, fun hfb => ?_, fun hne => ?_⟩
          · have e1 := (hA 12 96 rfl hd12).trans (h.f12 hd12 hfb)
            have e2 := (hA 13 97 rfl hd13).trans (h.f13 hd13 hfb)
            clear hA hB hp hu hdf hfb
            go_simp
            exact ⟨_, rfl, { h with f14 := (fun _ => fun _ => rfl) }⟩
          · exact { h with f14 := (fun _ => fun h2 => absurd h2 hne) }
        · intro done v W A h hd hp hu hA hB hdf
          have hd8 : done 8 = true := hp 8 rfl
          have hd14 : done 14 = true := hp 14 rfl
          refine ⟨fb, h.f8 hd8, fun hfb => ?_, fun hne => ?_⟩
          · have e1 := (hA 14 98 rfl hd14).trans (h.f14 hd14 hfb)
            have y_qL := below_cell h.b qL
            clear hA hB hp hu hdf hfb
            go_simp
            exact ⟨_, rfl, { h with f15 := (fun _ => fun _ => rfl) }⟩
          · exact { h with f15 := (fun _ => fun h2 => absurd h2 hne) }
        · intro done v W A h hd hp hu hA hB hdf
          have hd8 : done 8 = true := hp 8 rfl
          refine ⟨fb, h.f8 hd8, fun hfb => ?_, fun hne => ?_⟩
          · have e : A.tmps[18]?.getD undef = .func (.func 42) #[] #[] := hB 18 rfl
            clear hA hB hp hu hdf hfb
            go_simp
            exact ⟨_, rfl, { h with f16 := (fun _ => fun _ => rfl) }⟩
          · exact { h with f16 := (fun _ => fun h2 => absurd h2 hne) }
        · intro done v W A h hd hp hu hA hB hdf
          have hd8 : done 8 = true := hp 8 rfl
          have hd11 : done 11 = true := hp 11 rfl
          have hd15 : done 15 = true := hp 15 rfl
          have hd16 : done 16 = true := hp 16 rfl
          refine ⟨fb, h.f8 hd8, fun hfb => ?_, fun hne => ?_⟩
          · have e1 := (hA 11 95 rfl hd11).trans (h.f11 hd11 hfb)
            have e2 := (hA 15 99 rfl hd15).trans (h.f15 hd15 hfb)
            have e3 := (hA 16 100 rfl hd16).trans (h.f16 hd16 hfb)
            clear hA hB hp hu hdf hfb
            go_simp
            refine (HEQ.out W h.b).mono ?_
            rintro e wq ⟨rfl, hb⟩
            exact ⟨_, rfl, { h with b := h.b.trans (hb.mono h.b.size), f17 := (fun _ => fun _ => rfl) }⟩
          · exact { h with f17 := (fun _ => fun h2 => absurd h2 hne) }
        · intro done v W A h hd hp hu hA hB hdf
          have hd8 : done 8 = true := hp 8 rfl
          have hd17 : done 17 = true := hp 17 rfl
          have e1 := (hA 8 92 rfl hd8).trans (h.f8 hd8)
          cases fb with
          | false => clear hA hB hp hu hdf htb; go_simp; exact ⟨_, rfl, { h with f18 := (fun _ => rfl) }⟩
          | true => have e2 := (hA 17 101 rfl hd17).trans (h.f17 hd17 rfl); clear hA hB hp hu hdf htb; go_simp; exact ⟨_, rfl, { h with f18 := (fun _ => rfl) }⟩
        · intro done v W A h hd hp hu hA hB hdf
          have hd18 : done 18 = true := hp 18 rfl
          have e1 := (hA 18 102 rfl hd18).trans (h.f18 hd18)
          rw [htb] at e1
          have h13 : A.tmps[13]?.getD undef = .slice none 0 0 := hB 13 rfl
          have h12 : A.tmps[12]?.getD undef = .pointer (some ⟨w.heap.size + 1 + 1 + 1 + 1, 0, none⟩) := hB 12 rfl
          have h14 : A.tmps[14]?.getD undef = .pointer (some ⟨w.heap.size + 1 + 1 + 1 + 1 + 1, 0, none⟩) := hB 14 rfl
          clear hA hB hp hu
          go_simp
          clear hdf h12 h13 h14
          refine (must_ok 340 _).mono ?_
          rintro e wq ⟨rfl, rfl⟩
          exact ⟨_, rfl, { h with n := (fun _ => htb) }⟩
      simp only [putL, Act.put, Nat.reduceAdd, List.setIfInBounds_toArray, List.set_cons_zero, List.set_cons_succ]
      have hbr := h.b
      replace HM := Lib.hid (HM.out.later hbr)
      replace HY := Lib.hid (HY.out.below hbr)
      replace HSL := Lib.hid (HSL.out.below hbr)
      replace HSZ := Lib.hid (HSZ.out.below hbr)
      replace HIC := Lib.hid (HIC.out.below hbr)
      replace HBK := Lib.hid (HBK.out.trans (hbr.mono HBK.out.size))
      replace qR := below_cell hbr qR
      replace qC := below_cell hbr qC
      replace qL := below_cell hbr qL
      replace qZ := below_cell hbr qZ
      replace c0 := row_cell HM.out.q1 (k := 0) (v := .int .i64 ep) rfl
      replace c1 := row_cell HM.out.q1 (k := 1) (v := .slice a1 rows.length k1) rfl
      replace c2 := row_cell HM.out.q1 (k := 2) (v := .slice a2 owners.length k2) rfl
      replace c3 := row_cell HM.out.q1 (k := 3) (v := .slice a3 cs.length k3) rfl
      replace d0 := row_cell HM.out.q2 (k := 0) (v := .slice a4 rows2.length k4) rfl
      replace d1 := row_cell HM.out.q2 (k := 1) (v := .slice a5 owners2.length k5) rfl
      replace x3 := row_cell HM.out.q3 (k := 0) (v := .slice (some ⟨bC, oC, none⟩) css.length k6) rfl
      replace x4 := row_cell HM.out.q4 (k := 0) (v := .slice (some ⟨bL, oL, none⟩) ls.length k7) rfl
      clear h hbr HF HFT HEQ
      obtain ⟨hfb1, heb1⟩ := Bool.and_eq_true_iff.1 htb
      have HFB1 := Lib.hid (HFB.out.symm.trans hfb1)
      have HEB1 := Lib.hid (HEB.out.symm.trans heb1)
      clear htb hfb1 heb1 HFB HEB
      have HCM := Lib.hid (show comB rows2 ck = true by have h := HFB1.out; unfold fitM at h; rw [Bool.and_eq_true, Bool.and_eq_true] at h; exact h.2.1)
      go_wp2_with fail
      go_loopw [21, 109] (fun last i V => ∃ q : Nat, q ≤ lk.length ∧ i = .int .i64 q ∧ last = .int .i64 (lastR (-1) (lk.take q)) ∧ Hid (fitL rows2 ck (lk.take q) = true) ∧ Hid (Below W.heap.size W V)) (fun _ i _ => lk.length - (intOf i).toNat)
      case atStart => exact ⟨0, Nat.zero_le _, rfl, rfl, Lib.hid rfl, Lib.hid (Below.refl _ _)⟩
      case round =>
        obtain ⟨q, hql, rfl, rfl, HFL, HBQ⟩ := hrel
        replace HM := Lib.hid (HM.out.later HBQ.out)
        replace HY := Lib.hid (HY.out.below HBQ.out)
        replace HSL := Lib.hid (HSL.out.below HBQ.out)
        replace HSZ := Lib.hid (HSZ.out.below HBQ.out)
        replace HIC := Lib.hid (HIC.out.below HBQ.out)
        replace HBK := Lib.hid (HBK.out.trans (HBQ.out.mono HBK.out.size))
        replace qR := below_cell HBQ.out qR
        replace qC := below_cell HBQ.out qC
        replace qL := below_cell HBQ.out qL
        replace qZ := below_cell HBQ.out qZ
        replace c0 := row_cell HM.out.q1 (k := 0) (v := .int .i64 ep) rfl
        replace c1 := row_cell HM.out.q1 (k := 1) (v := .slice a1 rows.length k1) rfl
        replace c2 := row_cell HM.out.q1 (k := 2) (v := .slice a2 owners.length k2) rfl
        replace c3 := row_cell HM.out.q1 (k := 3) (v := .slice a3 cs.length k3) rfl
        replace d0 := row_cell HM.out.q2 (k := 0) (v := .slice a4 rows2.length k4) rfl
        replace d1 := row_cell HM.out.q2 (k := 1) (v := .slice a5 owners2.length k5) rfl
        replace x3 := row_cell HM.out.q3 (k := 0) (v := .slice (some ⟨bC, oC, none⟩) css.length k6) rfl
        replace x4 := row_cell HM.out.q4 (k := 0) (v := .slice (some ⟨bL, oL, none⟩) ls.length k7) rfl
        by_cases hqt : q < lk.length
        · obtain ⟨aS, cS, eS, -, hlk, hrs, hk1⟩ := HSL.out
          obtain ⟨b1, o1, ea, y1, y2⟩ := hk1 q hqt
          simp only [Value.slice.injEq] at eS
          obtain ⟨rfl, -, -⟩ := eS
          subst ea
          have hr := hrs _ (List.getElem_mem hqt)
          have HST := Lib.hid (fitL_take hqt HFL.out)
          have HBD : Hid (fitOne rows2 ck (lastR (-1) (lk.take q)) lk[q] = false → fitL rows2 ck lk = false) := Lib.hid (fun h => fitL_bad (k := q + 1) ((fitL_take hqt HFL.out).trans h))
          have HLT := Lib.hid (lastR_take (last := -1) hqt)
          obtain ⟨r, hre⟩ : ∃ r, r = lk[q].1 := ⟨_, rfl⟩
          obtain ⟨x, hxe⟩ : ∃ x, x = lk[q].2 := ⟨_, rfl⟩
          have hp : lk[q] = (r, x) := by rw [hre, hxe]
          rw [hp] at HST HBD
          rw [← hre] at y1 hr HLT
          rw [← hxe] at y2 hr
          obtain ⟨la, hla⟩ : ∃ la, la = lastR (-1) (lk.take q) := ⟨_, rfl⟩
          rw [← hla] at HST HBD ⊢
          obtain ⟨W5, hW5, hb5, hr6, -⟩ := box_prog wr (.int .i64 r) (.int .i64 x) 35
          have s0 : W5.cell? ⟨wr.heap.size, 0, none⟩ = some (.int .i64 r) := row_cell hr6 rfl
          have s1 : W5.cell? ⟨wr.heap.size, 1, none⟩ = some (.int .i64 x) := row_cell hr6 rfl
          have HW5 := Lib.hid hW5
          have i0 : (0 : Int) ≤ (q : Int) := by omega
          have i1 : (q : Int) < (lk.length : Int) := by omega
          have HQ := Lib.hid hqt
          have HDC := Lib.hid (comB_dchk HP2.out HCM.out)
          clear hk1 hrs hre hxe hp hla hr6 hW5 hqt hql HFL HY HSL HSZ HBK qR qL qZ
          go_wp2_with (rw [← HW5.out])
          clear y1 y2 i0 i1
          replace HM := Lib.hid (HM.out.later hb5)
          replace HIC := Lib.hid (HIC.out.below hb5)
          replace HBQ := Lib.hid (HBQ.out.trans (hb5.mono HBQ.out.size))
          replace qC := below_cell hb5 qC
          replace c0 := row_cell HM.out.q1 (k := 0) (v := .int .i64 ep) rfl
          replace c1 := row_cell HM.out.q1 (k := 1) (v := .slice a1 rows.length k1) rfl
          replace c2 := row_cell HM.out.q1 (k := 2) (v := .slice a2 owners.length k2) rfl
          replace c3 := row_cell HM.out.q1 (k := 3) (v := .slice a3 cs.length k3) rfl
          replace d0 := row_cell HM.out.q2 (k := 0) (v := .slice a4 rows2.length k4) rfl
          replace d1 := row_cell HM.out.q2 (k := 1) (v := .slice a5 owners2.length k5) rfl
          replace x3 := row_cell HM.out.q3 (k := 0) (v := .slice (some ⟨bC, oC, none⟩) css.length k6) rfl
          replace x4 := row_cell HM.out.q4 (k := 0) (v := .slice (some ⟨bL, oL, none⟩) ls.length k7) rfl
          clear hb5
          obtain ⟨ok, hok⟩ : ∃ y, y = fitB rows2 owners2 ck r x := ⟨_, rfl⟩
          obtain ⟨fe, hfe⟩ : ∃ y, y = fitE rows2 owners2 ck r x := ⟨_, rfl⟩
          have HFS := Lib.hid (fun (W1 : World) (h1 : Below W5.heap.size W5 W1) => fits_any (.slice a4 rows2.length k4) (.slice a5 owners2.length k5) (.slice aC ck.length kC) rows2 owners2 ck r x W1 (HM.out.later h1).hR2 (HM.out.later h1).hO2 (HIC.out.below h1) hr.1 hr.2)
          rw [← hok, ← hfe] at HFS
          rw [(fitB_is HDC.out).2] at hok
          rw [(fitB_is HDC.out).1] at hfe
          have HOKK := Lib.hid hok
          have HFE := Lib.hid hfe
          clear hok hfe hr
          refine wp_region_flowsG (by kernel_rfl) (by kernel_rfl) (by kernel_rfl) (by kernel_rfl) (fun done v W => FMv16 W5 (.agg #[.slice a4 rows2.length k4, .slice a5 owners2.length k5]) (.slice (some ⟨bC, oC, none⟩) css.length k6) (.slice aC ck.length kC) r x fe k bC oC ok done v W) (fun v => ?_) ?_ (fun v W h => ?_)
          · exact ⟨(Below.refl _ _).drew, (fun h => by cases h), (fun h => by cases h), (fun h => by cases h), (fun h => by cases h), (fun h => by cases h), (fun h => by cases h), (fun h => by cases h), (fun h => by cases h), (fun h => by cases h), (fun h => by cases h), (fun h => by cases h), (fun h => by cases h)⟩
          · refine ⟨?_, ?_, ?_, ?_, ?_, ?_, ?_, ?_, ?_, ?_, ?_, ?_, trivial⟩
            · intro done v W A h hd hp hu hA hB hdf
              have e : A.tmps[7]?.getD undef = .pointer (some ⟨w.heap.size + 1, 0, none⟩) := hB 7 rfl
              have y_d0 := below_cell h.b d0
              have y_d1 := below_cell h.b d1
              clear hA hB hp hu hdf
              go_simp
              exact ⟨_, rfl, { h with f0 := (fun _ => rfl) }⟩
            · intro done v W A h hd hp hu hA hB hdf
              have e : A.tmps[10]?.getD undef = .pointer (some ⟨w.heap.size + 1 + 1, 0, none⟩) := hB 10 rfl
              have y_x3 := below_cell h.b x3
              clear hA hB hp hu hdf
              go_simp
              exact ⟨_, rfl, { h with f1 := (fun _ => rfl) }⟩
            · intro done v W A h hd hp hu hA hB hdf
              have e : A.tmps[19]?.getD undef = .int .i64 (k : Int) := hB 19 rfl
              clear hA hB hp hu hdf
              go_simp
              exact ⟨_, rfl, { h with f2 := (fun _ => rfl) }⟩
            · intro done v W A h hd hp hu hA hB hdf
              have hd1 : done 1 = true := hp 1 rfl
              have hd2 : done 2 = true := hp 2 rfl
              have e1 := (hA 1 115 rfl hd1).trans (h.f1 hd1)
              have e2 := (hA 2 116 rfl hd2).trans (h.f2 hd2)
              clear hA hB hp hu hdf
              go_simp
              exact ⟨_, rfl, { h with f3 := (fun _ => rfl) }⟩
            · intro done v W A h hd hp hu hA hB hdf
              have hd3 : done 3 = true := hp 3 rfl
              have e1 := (hA 3 117 rfl hd3).trans (h.f3 hd3)
              have y_qC := below_cell h.b qC
              clear hA hB hp hu hdf
              go_simp
              exact ⟨_, rfl, { h with f4 := (fun _ => rfl) }⟩
            · intro done v W A h hd hp hu hA hB hdf
              have e : A.tmps[23]?.getD undef = .pointer (some ⟨wr.heap.size, 0, none⟩) := hB 23 rfl
              have y_s0 := below_cell h.b s0
              have y_s1 := below_cell h.b s1
              clear hA hB hp hu hdf
              go_simp
              exact ⟨_, rfl, { h with f5 := (fun _ => rfl) }⟩
            · intro done v W A h hd hp hu hA hB hdf
              have hd0 : done 0 = true := hp 0 rfl
              have hd4 : done 4 = true := hp 4 rfl
              have hd5 : done 5 = true := hp 5 rfl
              have e1 := (hA 0 114 rfl hd0).trans (h.f0 hd0)
              have e2 := (hA 4 118 rfl hd4).trans (h.f4 hd4)
              have e3 := (hA 5 119 rfl hd5).trans (h.f5 hd5)
              clear hA hB hp hu hdf
              go_simp
              refine (HFS.out W h.b).mono ?_
              rintro e wq ⟨rfl, hb⟩
              exact ⟨_, rfl, { h with b := h.b.trans (hb.mono h.b.size), f6 := (fun _ => rfl) }⟩
            · intro done v W A h hd hp hu hA hB hdf
              have hd6 : done 6 = true := hp 6 rfl
              have e1 := (hA 6 120 rfl hd6).trans (h.f6 hd6)
              clear hA hB hp hu hdf
              go_simp
              exact ⟨_, rfl, { h with f7 := (fun _ => rfl) }⟩
            · intro done v W A h hd hp hu hA hB hdf
              have hd7 : done 7 = true := hp 7 rfl
              have e1 := (hA 7 113 rfl hd7).trans (h.f7 hd7)
              clear hA hB hp hu hdf
              go_simp
              exact ⟨_, rfl, { h with f8 := (fun _ => rfl) }⟩
            · intro done v W A h hd hp hu hA hB hdf
              have hd7 : done 7 = true := hp 7 rfl
              have e1 := (hA 7 113 rfl hd7).trans (h.f7 hd7)
              clear hA hB hp hu hdf
              go_simp
              exact ⟨_, rfl, { h with f9 := (fun _ => rfl) }⟩
            · intro done v W A h hd hp hu hA hB hdf
              have hd8 : done 8 = true := hp 8 rfl
              have e1 := (hA 8 121 rfl hd8).trans (h.f8 hd8)
              clear hA hB hp hu hdf
              go_simp
              exact ⟨_, rfl, { h with f10 := (fun _ => rfl) }⟩
            · intro done v W A h hd hp hu hA hB hdf
              have hd9 : done 9 = true := hp 9 rfl
              have e1 := (hA 9 122 rfl hd9).trans (h.f9 hd9)
              clear hA hB hp hu hdf
              go_simp
              exact ⟨_, rfl, { h with f11 := (fun _ => rfl) }⟩
          simp only [putL, Act.put, Nat.reduceAdd, List.setIfInBounds_toArray, List.set_cons_zero, List.set_cons_succ]
          rw [h.f10 rfl, h.f11 rfl]
          have hbr := h.b
          replace HM := Lib.hid (HM.out.later hbr)
          replace HBQ := Lib.hid (HBQ.out.trans (hbr.mono HBQ.out.size))
          replace s0 := below_cell hbr s0
          replace s1 := below_cell hbr s1
          clear h hbr HFS HIC qC HDC c0 c1 c2 c3 d0 d1 x3 x4
          cases her : rightS rows2 r x with
          | false =>
            obtain rfl : ok = false := HOKK.out.trans (by rw [her]; rfl)
            obtain rfl : fe = 340 := HFE.out.trans (by rw [her]; rfl)
            have HV : Hid (ME = 340) := Lib.hid (HE4.out.trans (if_neg (by rw [dealtB_bad (i := k) (by omega) (by unfold oneB; rw [← HROW.out, ← HLZ.out, ← HLK.out, ← HCKK.out, HFB1.out, HEB1.out, HBD.out (by unfold fitOne; rw [her]; rfl)]; rfl)]; decide)))
            clear HE4 HD HOKK HFE HST HBD HLT HQ her
            go_wp2_with fail
            clear s0 s1
            with_reducible refine (must_bad 340 _).mono ?_
            rintro e wq ⟨rfl, rfl⟩
            refine leaves_cons (f := 34) (args := #[.pointer (some ⟨w.heap.size + 1 + 1 + 1 + 1 + 1, 0, none⟩)]) (by simp) (by simp [go_sem]) ?_
            refine (caught39_panicking (w.heap.size + 1 + 1 + 1 + 1 + 1) 0 0 (340) [] _ (row_cell HM.out.qe rfl) (row_free HM.out.qe 0) (row_lt HM.out.qe)).mono ?_
            rintro e u' w'' ⟨rfl, rfl, rfl⟩
            obtain ⟨Wf, hWf, hbf, hxf, h0, h1, h2, h3⟩ := stop_endK HM.out.b (show w.heap.size ≤ w.heap.size + 1 + 1 + 1 + 1 + 1 by omega) HM.out.qe HM.out.qk (by omega) (340)
            rw [← hWf]
            simp [Leaves, settle, results, Try.results12, go_sem, hxf, h0, h1, h2, h3]
            exact mv_off HV.out (by decide) hbf
          | true =>
          obtain rfl : fe = 0 := HFE.out.trans (by rw [her]; rfl)
          cases hfp : fitP rows2 ck (r, x) with
          | false =>
            obtain rfl : ok = false := HOKK.out.trans (by rw [her, hfp]; rfl)
            have HV : Hid (ME = 340) := Lib.hid (HE4.out.trans (if_neg (by rw [dealtB_bad (i := k) (by omega) (by unfold oneB; rw [← HROW.out, ← HLZ.out, ← HLK.out, ← HCKK.out, HFB1.out, HEB1.out, HBD.out (by unfold fitOne; rw [hfp]; simp)]; rfl)]; decide)))
            clear HE4 HD HOKK HFE HST HBD HLT HQ her hfp
            go_wp2_with fail
            clear s0 s1
            with_reducible refine (must_bad 340 _).mono ?_
            rintro e wq ⟨rfl, rfl⟩
            refine leaves_cons (f := 34) (args := #[.pointer (some ⟨w.heap.size + 1 + 1 + 1 + 1 + 1, 0, none⟩)]) (by simp) (by simp [go_sem]) ?_
            refine (caught39_panicking (w.heap.size + 1 + 1 + 1 + 1 + 1) 0 0 (340) [] _ (row_cell HM.out.qe rfl) (row_free HM.out.qe 0) (row_lt HM.out.qe)).mono ?_
            rintro e u' w'' ⟨rfl, rfl, rfl⟩
            obtain ⟨Wf, hWf, hbf, hxf, h0, h1, h2, h3⟩ := stop_endK HM.out.b (show w.heap.size ≤ w.heap.size + 1 + 1 + 1 + 1 + 1 by omega) HM.out.qe HM.out.qk (by omega) (340)
            rw [← hWf]
            simp [Leaves, settle, results, Try.results12, go_sem, hxf, h0, h1, h2, h3]
            exact mv_off HV.out (by decide) hbf
          | true =>
          obtain rfl : ok = true := HOKK.out.trans (by rw [her, hfp]; rfl)
          by_cases hle : la < r
          rotate_left
          · have d9 : decide (la < r) = false := decide_eq_false hle
            have HV : Hid (ME = 340) := Lib.hid (HE4.out.trans (if_neg (by rw [dealtB_bad (i := k) (by omega) (by unfold oneB; rw [← HROW.out, ← HLZ.out, ← HLK.out, ← HCKK.out, HFB1.out, HEB1.out, HBD.out (by unfold fitOne; rw [d9]; simp)]; rfl)]; decide)))
            clear hle hfp
            clear HE4 HD HOKK HFE HST HBD HLT HQ her
            go_wp2_with fail
            clear s0 s1
            with_reducible refine (must_bad 340 _).mono ?_
            rintro e wq ⟨rfl, rfl⟩
            refine leaves_cons (f := 34) (args := #[.pointer (some ⟨w.heap.size + 1 + 1 + 1 + 1 + 1, 0, none⟩)]) (by simp) (by simp [go_sem]) ?_
            refine (caught39_panicking (w.heap.size + 1 + 1 + 1 + 1 + 1) 0 0 (340) [] _ (row_cell HM.out.qe rfl) (row_free HM.out.qe 0) (row_lt HM.out.qe)).mono ?_
            rintro e u' w'' ⟨rfl, rfl, rfl⟩
            obtain ⟨Wf, hWf, hbf, hxf, h0, h1, h2, h3⟩ := stop_endK HM.out.b (show w.heap.size ≤ w.heap.size + 1 + 1 + 1 + 1 + 1 by omega) HM.out.qe HM.out.qk (by omega) (340)
            rw [← hWf]
            simp [Leaves, settle, results, Try.results12, go_sem, hxf, h0, h1, h2, h3]
            exact mv_off HV.out (by decide) hbf
          have d9 : decide (la < r) = true := decide_eq_true hle
          have HN := Lib.hid (HST.out.trans (by unfold fitOne; rw [her, hfp, d9]; first | done | rfl))
          clear her hfp hle HOKK HFE HST HBD
          go_wp2_with fail
          clear d9
          with_reducible refine (must_ok 340 _).mono ?_
          rintro e wq ⟨rfl, rfl⟩
          have hqt := HQ.out
          go_wp2_with fail
          go_roundw
          case rel => exact ⟨q + 1, by omega, by go_num, by rw [HLT.out], HN, HBQ⟩
          case measure => simp [intOf]; omega
        · have HF1 : Hid (fitL rows2 ck lk = true) := Lib.hid (by have h := HFL.out; rwa [List.take_of_length_le (by omega)] at h)
          replace HD : Hid (∀ j, j < k + 1 → oneB rows owners cs rows2 rws css ls j = true) := Lib.hid (fun j hj => by
            by_cases hjk : j = k
            · subst hjk; unfold oneB; rw [← HROW.out, ← HLZ.out, ← HLK.out, ← HCKK.out, HFB1.out, HEB1.out, HF1.out]; rfl
            · exact HD.out j (by omega))
          clear HFL HSL HSZ HIC HFB1 HEB1 HF1 HCM HROW HLZ HLK HCKK qR qC qL qZ
          go_wp2_with fail
          go_roundw
          case rel => exact ⟨k + 1, by omega, by go_num, HD, HBK⟩
          case measure => simp [intOf]; omega
    · have HV : Hid (ME = 0) := Lib.hid (HE4.out.trans (if_pos (dealtB_all fun j hj => HD.out j (by omega))))
      replace HD : Hid (∀ j, j < rws.length → oneB rows owners cs rows2 rws css ls j = true) := Lib.hid fun j hj => HD.out j (by omega)
      obtain ⟨hep0, hep64, -⟩ := HKY.out
      have hwe : IntKind.i64.wrap (ep + 1) = ep + 1 := by rw [IntKind.wrap_i64]; omega
      have HIN := Lib.hid (fun k (hk : k < rws.length) => show 0 ≤ nth rws k ∧ nth rws k < (((accY rows owners who).length : Nat) : Int) from by
        have h := own_in (owners := owners) (who := who) (n := owners.length) (k := k) (by rw [← HRO.out]; exact hk)
        rw [← HRO.out] at h
        rw [HAP.out.len, HPO.out.len]; exact h)
      have HYR := Lib.hid (nth_r64' HAP.out.num)
      have HCL := Lib.hid (progE_ok HP2.out).cols_le
      obtain ⟨W6, hW6, hb6, hr6, hs6⟩ := box_key wr (.int .i64 (ep + 1)) (.slice a4 rows2.length k4) (.slice a5 owners2.length k5) (.slice none 0 0) 30
      have HW6 := Lib.hid hW6
      have HB6 := Lib.hid hb6
      have HKR : Hid (KeyR wr (ep + 1) (.slice a4 rows2.length k4) (.slice a5 owners2.length k5) (.slice none 0 0) 0 [] W6) := Lib.hid ⟨hb6, hr6, World.ownsRow_nil _ _ _ _⟩
      have z0 := below_cell hb6 d0
      have z1 := below_cell hb6 d1
      clear hW6 hb6 hr6 hs6 HE4 HBK hep0 hep64 hkl
      go_wp2_with (rw [← HW6.out])
      clear hwe d0 d1 c0 c1 c2 c3 x3 x4 z0 z1
      with_reducible refine (mcolumns_any _ _ rows2 _ (HM.out.hR2.below HB6.out) ⟨_, _, _, rfl⟩).mono ?_
      rintro e w20 ⟨rfl, hb20⟩
      replace HKR := Lib.hid (HKR.out.below hb20)
      clear hb20 HB6 HW6
      obtain ⟨wk, hwk⟩ : ∃ x, x = wr := ⟨_, rfl⟩
      subst hwk
      go_wp2_with fail
      go_loopw [146] (fun i V => ∃ j : Nat, j ≤ colsQ rows2 ∧ i = .int .i64 j ∧ Hid (∃ L, KeyR wk (ep + 1) (.slice a4 rows2.length k4) (.slice a5 owners2.length k5) L j ((List.range j).map fun q => comF css rws (accY rows owners who) q rws.length) V)) (fun i _ => colsQ rows2 - (intOf i).toNat)
      case atStart => exact ⟨0, Nat.zero_le _, rfl, Lib.hid ⟨_, HKR.out⟩⟩
      case round =>
        obtain ⟨j, hjl, rfl, HKX⟩ := hrel
        clear HKR
        obtain ⟨L, hkr⟩ := HKX.out
        have HKR := Lib.hid hkr
        clear hkr HKX
        by_cases hjt : j < colsQ rows2
        · obtain ⟨W7, hW7, hb7, hr7, hs7⟩ := box_err wr (.int .i64 (j : Nat)) 3
          have HW7 := Lib.hid hW7
          replace HKR := Lib.hid (HKR.out.below hb7)
          have HMJ := Lib.hid (HM.out.later HKR.out.b)
          have HYJ := Lib.hid (HY.out.below HKR.out.b)
          have XJ := Lib.hid (show W7.cell? ⟨wr.heap.size, 0, none⟩ = some (.int .i64 (j : Int)) from row_cell hr7 rfl)
          have HJM : Hid (j ≤ 1000000) := Lib.hid (by have := HCL.out; omega)
          have HJT := Lib.hid hjt
          obtain ⟨z, hz⟩ : ∃ z, z = comF css rws (accY rows owners who) j rws.length := ⟨_, rfl⟩
          have HT : Hid (((List.range (j + 1)).map fun q => comF css rws (accY rows owners who) q rws.length) = ((List.range j).map fun q => comF css rws (accY rows owners who) q rws.length) ++ [z]) := Lib.hid (by rw [List.range_succ, List.map_append, hz]; rfl)
          have HWF := Lib.hid (fun (W1 : World) (h1 : Below W7.heap.size W7 W1) => wfun_any (.slice a9 rws.length k9) (.slice ay (accY rows owners who).length ky) rws (accY rows owners who) W1 (HMJ.out.hRW.below h1) (HYJ.out.below h1))
          have HFO := Lib.hid (fun (W1 : World) (v1 : Value) (h1 : Below W7.heap.size W7 W1) (hv : WFun (.slice a9 rws.length k9) (.slice ay (accY rows owners who).length ky) rws (accY rows owners who) v1 W1) => fold2_any (w.heap.size + 1 + 1) wr.heap.size (.slice a9 rws.length k9) (.slice ay (accY rows owners who).length ky) (.slice a6 css.length k6) rws (accY rows owners who) css j v1 W1 hv (below_cell h1 (row_cell HMJ.out.q3 (k := 0) rfl)) (below_cell h1 XJ.out) (HMJ.out.hCS.below h1) HL1.out HIN.out (fun i hi => comB_col (oneB_ok (HD.out i hi)).1 HJT.out) HYR.out)
          rw [← hz] at HFO
          clear hW7 hb7 hr7 hs7 hz
          go_wp2_with (rw [← HW7.out])
          refine wp_region_flowsG (by kernel_rfl) (by kernel_rfl) (by kernel_rfl) (by kernel_rfl) (fun done v W => FMv25 wk W7 (ep + 1) (.slice a4 rows2.length k4) (.slice a5 owners2.length k5) L (.slice a9 rws.length k9) (.slice ay (accY rows owners who).length ky) j wr.heap.size (w.heap.size + 1 + 1) rws (accY rows owners who) ((List.range j).map fun q => comF css rws (accY rows owners who) q rws.length) z done v W) (fun v => ?_) ?_ (fun v W h => ?_)
          · exact ⟨fun _ => (Below.refl _ _).drew, (fun h => by cases h), (fun h => by cases h), (fun h => by cases h), (fun h => by cases h), (fun h => by cases h), (fun h => by cases h), (fun h => by cases h), (fun h => by cases h), (fun h => by cases h), (fun h => by cases h), (fun h => by cases h)⟩
          · refine ⟨?_, ?_, ?_, ?_, ?_, ?_, ?_, ?_, ?_, ?_, ?_, trivial⟩
            · intro done v W A h hd hp hu hA hB hdf
              have e : A.tmps[26]?.getD undef = .pointer (some ⟨wk.heap.size, 0, none⟩) := hB 26 rfl
              clear hA hB hp hu hdf
              go_simp
              exact ⟨_, rfl, { h with f0 := (fun _ => rfl) }⟩
            · intro done v W A h hd hp hu hA hB hdf
              have n8_1 : done 8 = false := flow_not (fun hj => hu 8 1 rfl (hj)) hd
              have hd0 : done 0 = true := hp 0 rfl
              have e1 := (hA 0 149 rfl hd0).trans (h.f0 hd0)
              have y3 := row_cell (HKR.out.below (h.b n8_1)).q (k := 3) rfl
              clear hA hB hp hu hdf
              go_simp
              exact ⟨_, rfl, { h with f1 := (fun _ => rfl) }⟩
            · intro done v W A h hd hp hu hA hB hdf
              have e : A.tmps[3]?.getD undef = .slice a9 rws.length k9 := hB 3 rfl
              clear hA hB hp hu hdf
              go_simp
              exact ⟨_, rfl, { h with f2 := (fun _ => rfl) }⟩
            · intro done v W A h hd hp hu hA hB hdf
              have e : A.tmps[15]?.getD undef = .slice ay (accY rows owners who).length ky := hB 15 rfl
              clear hA hB hp hu hdf
              go_simp
              exact ⟨_, rfl, { h with f3 := (fun _ => rfl) }⟩
            · intro done v W A h hd hp hu hA hB hdf
              have n8_4 : done 8 = false := flow_not (fun hj => hu 6 4 rfl (hu 8 6 rfl (hj))) hd
              have hd2 : done 2 = true := hp 2 rfl
              have hd3 : done 3 = true := hp 3 rfl
              have h8 := h.b n8_4
              have e1 := (hA 2 151 rfl hd2).trans (h.f2 hd2)
              have e2 := (hA 3 152 rfl hd3).trans (h.f3 hd3)
              clear hA hB hp hu hdf
              go_simp
              with_reducible refine (HWF.out W h8).mono ?_
              rintro e wq ⟨u, rfl, h4, hb⟩
              exact ⟨_, rfl, { h with b := (fun h8 => (h.b h8).trans (hb.mono (h.b h8).size)), f4 := (fun _ _ => h4), f7 := (fun h1 h2 => (h.f7 h1 h2).below hb), f8 := (fun h1 h2 => (h.f8 h1 h2).below hb), z := (fun h1 => (h.z h1).elim fun L1 k1 => ⟨L1, k1.below hb⟩) }⟩
            · intro done v W A h hd hp hu hA hB hdf
              have s1 : A.tmps[10]?.getD undef = .pointer (some ⟨w.heap.size + 1 + 1, 0, none⟩) := hB 10 rfl
              have s2 : A.tmps[27]?.getD undef = .pointer (some ⟨wr.heap.size, 0, none⟩) := hB 27 rfl
              have hmf : ∀ (fn : Fn) (first cap : Array Value) (w : World), (Instr.makeFunc fn first cap).run Try.prog w = .ok (.func fn first cap) w := fun _ _ _ _ => rfl
              clear hA hB hp hu hdf
              go_simp
              exact ⟨_, rfl, { h with f5 := (fun _ => rfl) }⟩
            · intro done v W A h hd hp hu hA hB hdf
              have n8_6 : done 8 = false := flow_not (fun hj => hu 8 6 rfl (hj)) hd
              have hd4 : done 4 = true := hp 4 rfl
              have hd5 : done 5 = true := hp 5 rfl
              have h8 := h.b n8_6
              have e1 := hA 4 153 rfl hd4
              have e2 := (hA 5 154 rfl hd5).trans (h.f5 hd5)
              have h4 := h.f4 hd4 hd
              clear hA hB hp hu hdf
              go_simp
              with_reducible refine (HFO.out W _ h8 h4).mono ?_
              rintro e wq ⟨rfl, hb⟩
              exact ⟨_, rfl, { h with b := (fun h8 => (h.b h8).trans (hb.mono (h.b h8).size)), f4 := (fun _ h2 => absurd (show true = false from h2) (by decide)), f6 := (fun _ => rfl), f7 := (fun h1 h2 => (h.f7 h1 h2).below hb), f8 := (fun h1 h2 => (h.f8 h1 h2).below hb), z := (fun h1 => (h.z h1).elim fun L1 k1 => ⟨L1, k1.below hb⟩) }⟩
            · intro done v W A h hd hp hu hA hB hdf
              have hd6 : done 6 = true := hp 6 rfl
              have e1 := (hA 6 155 rfl hd6).trans (h.f6 hd6)
              have hb := below_new W #[.int .i64 z] 3
              clear hA hB hp hu hdf
              go_simp
              exact ⟨_, rfl, { h with b := (fun h8 => (h.b h8).trans (hb.mono (h.b h8).size)), f4 := (fun h1 h2 => (h.f4 h1 h2).below hb), f7 := (fun _ _ => OneI.new z W _), f8 := (fun h1 h2 => (h.f8 h1 h2).below hb), z := (fun h1 => (h.z h1).elim fun L1 k1 => ⟨L1, k1.below hb⟩) }⟩
            · intro done v W A h hd hp hu hA hB hdf
              have n10_8 : done 10 = false := flow_not (fun hj => hu 10 8 rfl (hj)) hd
              have hd1 : done 1 = true := hp 1 rfl
              have hd6 : done 6 = true := hp 6 rfl
              have hd7 : done 7 = true := hp 7 rfl
              have e1 := (hA 1 150 rfl hd1).trans (h.f1 hd1)
              have e2 := hA 7 156 rfl hd7
              have h7 := h.f7 hd7 hd
              have HKW := HKR.out.below (h.b hd)
              refine wp_app_int rfl _ _ rfl (wk.heap.size + 1) j L _ ((Array.getD_eq_getD_getElem? ..).trans e1) HKW.o (v 7) z ((Array.getD_eq_getD_getElem? ..).trans e2) h7 HJM.out (row_lt HKW.q) ?_
              intro g c w2 ho hg
              have HKA := HKW.app ho hg
              exact ⟨_, rfl, { h with b := (fun h2 => absurd (show true = false from h2) (by decide)), f4 := (fun _ h2 => absurd (hd6.symm.trans h2) (by decide)), f7 := (fun _ h2 => absurd (show true = false from h2) (by decide)), f8 := (fun _ _ => HKA), z := (fun hj => absurd (hj.symm.trans n10_8) (by decide)) }⟩
            · intro done v W A h hd hp hu hA hB hdf
              have e : A.tmps[26]?.getD undef = .pointer (some ⟨wk.heap.size, 0, none⟩) := hB 26 rfl
              clear hA hB hp hu hdf
              go_simp
              exact ⟨_, rfl, { h with f9 := (fun _ => rfl) }⟩
            · intro done v W A h hd hp hu hA hB hdf
              have hd6 : done 6 = true := hp 6 rfl
              have hd8 : done 8 = true := hp 8 rfl
              have hd9 : done 9 = true := hp 9 rfl
              have e1 := (hA 9 158 rfl hd9).trans (h.f9 hd9)
              have e2 := hA 8 157 rfl hd8
              have h8 := h.f8 hd8 hd
              obtain ⟨g, c, e8⟩ := h8.sl
              rw [e8] at e2 h8
              have u3 := row_cell h8.q (k := 3) rfl
              have g3 := row_free h8.q 3
              clear hA hB hp hu hdf
              go_simp
              exact ⟨undef, { h with b := (fun h2 => absurd (hd8.symm.trans h2) (by decide)), f4 := (fun _ h2 => absurd (hd6.symm.trans h2) (by decide)), f7 := (fun _ h2 => absurd (hd8.symm.trans h2) (by decide)), f8 := (fun _ h2 => absurd (show true = false from h2) (by decide)), z := (fun _ => ⟨_, h8.store⟩) }⟩
          simp only [putL, Act.put, Nat.reduceAdd, List.setIfInBounds_toArray, List.set_cons_zero, List.set_cons_succ]
          obtain ⟨L2, hk2⟩ := h.z rfl
          replace HKR := Lib.hid hk2
          clear h hk2 HFO HWF HMJ HYJ HW7 XJ HJM hjt
          have hjt := HJT.out
          have hcl := HCL.out
          go_wp2_with fail
          go_roundw
          case rel => exact ⟨j + 1, by omega, by go_num, Lib.hid ⟨L2, by rw [HT.out]; exact HKR.out⟩⟩
          case measure => simp [intOf]; omega
        · obtain rfl : j = colsQ rows2 := by omega
          replace HKR : Hid (KeyR wk (ep + 1) (.slice a4 rows2.length k4) (.slice a5 owners2.length k5) L (colsQ rows2) (mvC css rws (accY rows owners who) (colsQ rows2)) wr) := HKR
          have HMJ := Lib.hid (HM.out.later HKR.out.b)
          have HYJ := Lib.hid (HY.out.below HKR.out.b)
          obtain ⟨bZ, oZ, nZ, cZ, rZ, eZ, qZ, hSZ⟩ := HMJ.out.hLS.get (k := 0) (by rw [HL2.out]; exact HPOS.out)
          simp only [Value.slice.injEq] at eZ
          obtain ⟨rfl, -, -⟩ := eZ
          obtain ⟨aZ, kZ, rfl, -, -, hrz, -⟩ := id hSZ
          rw [Nat.add_zero] at qZ
          have x4 := row_cell HMJ.out.q4 (k := 0) rfl
          have i4 : (0 : Int) < (ls.length : Int) := by have h1 := HL2.out; have h2 := HPOS.out; omega
          have i5 : 0 < ls.length := by have h1 := HL2.out; have h2 := HPOS.out; omega
          have HLL : Hid ((ls.getD 0 []).length ≤ 64) := Lib.hid (by have h1 := sharesB_len (fitL_shares (oneB_ok (HD.out 0 HPOS.out)).2.2); have h2 := (progE_ok HP2.out).few; omega)
          obtain ⟨lz, hlz⟩ : ∃ x, x = ls.getD 0 [] := ⟨_, rfl⟩
          rw [← hlz] at qZ hSZ hrz HLL
          have HLZ := Lib.hid hlz
          have HSZ := Lib.hid hSZ
          have HRZ := Lib.hid hrz
          clear hSZ hlz hrz hjl
          obtain ⟨wl, hwl⟩ : ∃ x, x = wr := ⟨_, rfl⟩
          subst hwl
          go_wp2_with fail
          clear x4 i4 i5 qZ hjt
          go_loopw [28, 164] (fun T0 i V => ∃ (j : Nat) (T : Value), j ≤ lz.length ∧ T = T0 ∧ i = .int .i64 j ∧ Hid (V.ownsRow wl.heap.size 35 2 T j (((List.range j).map (mvS ls rws (accY rows owners who))).flatMap shaC)) ∧ Hid (Below wl.heap.size wl V)) (fun _ i _ => lz.length - (intOf i).toNat)
          case atStart => exact ⟨0, _, Nat.zero_le _, rfl, rfl, Lib.hid (World.ownsRow_nil _ _ _ _), Lib.hid (Below.refl _ _)⟩
          case round =>
            obtain ⟨j, T, hjl, rfl, rfl, HOW, HBW⟩ := hrel
            replace HMJ := Lib.hid (HMJ.out.later HBW.out)
            replace HYJ := Lib.hid (HYJ.out.below HBW.out)
            replace HKR := Lib.hid (HKR.out.below HBW.out)
            by_cases hjt : j < lz.length
            · obtain ⟨aS, cS, eS, -, -, hrs, hk1⟩ := HSZ.out
              obtain ⟨b1, o1, ea, qa, qb⟩ := hk1 j hjt
              simp only [Value.slice.injEq] at eS
              obtain ⟨rfl, -, -⟩ := eS
              subst ea
              have y1 := below_cell HBW.out qa
              have y2 := below_cell HBW.out qb
              obtain ⟨r, hre⟩ : ∃ r, r = lz[j].1 := ⟨_, rfl⟩
              obtain ⟨x, hxe⟩ : ∃ x, x = lz[j].2 := ⟨_, rfl⟩
              rw [← hre] at y1
              rw [← hxe] at y2
              obtain ⟨z, hz⟩ : ∃ z, z = valF ls rws (accY rows owners who) j rws.length := ⟨_, rfl⟩
              have HT : Hid (((List.range (j + 1)).map (mvS ls rws (accY rows owners who))) = ((List.range j).map (mvS ls rws (accY rows owners who))) ++ [(r, z)]) := Lib.hid (by rw [List.range_succ, List.map_append, hz, hre]; unfold mvS; rw [← HLZ.out]; simp only [List.map_cons, List.map_nil]; rw [pnth_at hjt])
              obtain ⟨W8, hW8, hb8, hr8, hs8⟩ := box_err wr (.int .i64 (j : Nat)) 3
              obtain ⟨W9, hW9, hb9, hr9, hs9⟩ := box_prog W8 (.int .i64 r) (.int .i64 x) 35
              have hb := hb8.trans (hb9.mono hb8.size)
              have hj9 := (hb9.block _ (row_lt hr8)).trans hr8
              rw [hW8] at hW9
              rw [hs8] at hr9
              have HW9 := Lib.hid hW9
              have XJ := Lib.hid (show W9.cell? ⟨wr.heap.size, 0, none⟩ = some (.int .i64 (j : Int)) from row_cell hj9 rfl)
              have QS := Lib.hid hr9
              have HJT := Lib.hid hjt
              have i0 : (0 : Int) ≤ (j : Int) := by omega
              have i1 : (j : Int) < (lz.length : Int) := by omega
              have HLW : Hid (∀ g, T.ownBlock = some g → g < wr.heap.size) := Lib.hid fun g hg => (own_lt HOW.out g hg).2
              have HBX := Lib.hid (HBW.out.trans (hb.mono HBW.out.size))
              replace HOW := Lib.hid (own_keep HOW.out hb)
              replace HMJ := Lib.hid (HMJ.out.later hb)
              replace HYJ := Lib.hid (HYJ.out.below hb)
              have HHS : Hid (wr.heap.size + 2 ≤ W9.heap.size) := Lib.hid (by omega)
              clear hk1 hrs qa qb hre hxe hW8 hb8 hr8 hs8 hW9 hb9 hr9 hs9 hb hj9 hjt hjl HKR HSZ
              go_wp2_with (rw [← HW9.out])
              clear y1 y2 i0 i1
              with_reducible refine (wfun_any (.slice a9 rws.length k9) (.slice ay (accY rows owners who).length ky) rws (accY rows owners who) _ HMJ.out.hRW HYJ.out).mono ?_
              rintro e w31 ⟨fv, rfl, hfv, hb31⟩
              have HFV := Lib.hid hfv
              replace QS := Lib.hid ((hb31.block _ (row_lt QS.out)).trans QS.out)
              replace HBX := Lib.hid (HBX.out.trans (hb31.mono HBX.out.size))
              replace HOW := Lib.hid (own_keep HOW.out hb31)
              replace HMJ := Lib.hid (HMJ.out.later hb31)
              replace XJ := Lib.hid (below_cell hb31 XJ.out)
              clear hfv hb31 HYJ HW9
              have hmf : ∀ (fn : Fn) (first cap : Array Value) (w : World), (Instr.makeFunc fn first cap).run Try.prog w = .ok (.func fn first cap) w := fun _ _ _ _ => rfl
              go_wp2_with fail
              clear hmf
              with_reducible refine (fold3_any (w.heap.size + 1 + 1 + 1) wr.heap.size (.slice a9 rws.length k9) (.slice ay (accY rows owners who).length ky) (.slice (some ⟨bZ, oZ, none⟩) ls.length k7) rws (accY rows owners who) ls j fv _ HFV.out (row_cell HMJ.out.q4 (k := 0) rfl) XJ.out HMJ.out.hLS HL2.out HIN.out (fun i hi => by rw [(oneB_ok (HD.out i hi)).2.1, ← HLZ.out]; exact HJT.out) HYR.out).mono ?_
              rintro e w32 ⟨rfl, hb32⟩
              replace QS := Lib.hid ((hb32.block _ (row_lt QS.out)).trans QS.out)
              replace HBX := Lib.hid (HBX.out.trans (hb32.mono HBX.out.size))
              replace HOW := Lib.hid (own_keep HOW.out hb32)
              replace HMJ := Lib.hid (HMJ.out.later hb32)
              replace XJ := Lib.hid (below_cell hb32 XJ.out)
              clear hb32 HFV
              rw [← hz]
              clear hz
              have s1 := row_cell QS.out (k := 1) rfl
              have f1 := row_free QS.out 1
              obtain ⟨W12, hW12⟩ : ∃ W, W = w32.setCell ⟨wr.heap.size + 1, 1, none⟩ (.int .i64 z) := ⟨_, rfl⟩
              have q12 : W12.heap[wr.heap.size + 1]? = some (.cells #[.int .i64 r, .int .i64 z] 35 (0, 0)) := by rw [hW12]; exact row_set QS.out 1 _
              have t0 := row_cell q12 (k := 0) rfl
              have t1 := row_cell q12 (k := 1) rfl
              have o12 : W12.ownsRow wl.heap.size 35 2 T j (((List.range j).map (mvS ls rws (accY rows owners who))).flatMap shaC) := by rw [hW12]; exact ownsRow_setCell_other HOW.out (a := ⟨wr.heap.size + 1, 1, none⟩) (fun hc => by have := HLW.out _ hc; simp only at this; omega) _
              have b12 : Below wl.heap.size wl W12 := by rw [hW12]; exact HBX.out.setCell (show wl.heap.size ≤ wr.heap.size + 1 by have := HBW.out.size; omega) _
              have HN := Lib.hid (below_new W12 #[.int .i64 r, .int .i64 z] 35)
              have HOX := Lib.hid (own_keep o12 HN.out)
              have hq0 := World.alloc_heap_new W12 (.cells #[.int .i64 r, .int .i64 z] 35)
              have HQ0 := Lib.hid (row_cell hq0 (k := 0) rfl)
              have HQ1 := Lib.hid (row_cell hq0 (k := 1) rfl)
              have HB9 := Lib.hid (b12.trans (HN.out.mono b12.size))
              have HBS := Lib.hid HB9.out.size
              have HW12 := Lib.hid hW12
              have hij : j ≤ 1000000 := by have h1 := HLL.out; have h2 := HJT.out; omega
              clear hq0 o12 b12 q12 hW12 HOW HBW HBX QS XJ
              have hjt := HJT.out
              have hll := HLL.out
              go_wp2_with (first | rw [← HW12.out] | (refine app_share rfl _ _ rfl wl.heap.size _ ((List.range j).map (mvS ls rws (accY rows owners who))) j rfl HOX.out W12.heap.size 0 1 (r, z) rfl HQ0.out HQ1.out hij HBS.out ?_; intro g8 cap8 w9 h9 o9; have H9 := Lib.hid h9; have O9 := Lib.hid o9; clear h9 o9))
              go_roundw
              case rel => exact ⟨j + 1, _, by omega, rfl, by go_num, by rw [HT.out]; exact H9, Lib.hid (HB9.out.trans (own_below HOX.out O9.out.1 HBS.out))⟩
              case measure => simp [intOf]; omega
            · obtain rfl : j = lz.length := by omega
              have hdj : decide ((lz.length : Int) < (lz.length : Int)) = false := decide_eq_false (by omega)
              have HRI : Hid (RI wr L (mvC css rws (accY rows owners who) (colsQ rows2))) := Lib.hid (RI.own HKR.out.o (mvC_r64 fun i j hi hj => (comB_col (oneB_ok (HD.out i hi)).1 hj).2) (by rw [mvC_len]; have := HCL.out; omega))
              have HRS : Hid (RS wr T (mvL ls rws (accY rows owners who))) := Lib.hid (RS.own (n := lz.length) (by have h := HOW.out; rw [HLZ.out] at h ⊢; exact h) (mvL_r64 (by rw [← HLZ.out]; exact HRZ.out)) (by rw [mvL_len, ← HLZ.out]; have := HLL.out; omega))
              obtain ⟨aL, nL, kL, rfl⟩ : ∃ a n k, L = .slice a n k := by obtain ⟨a, k, h, -⟩ := HRI.out.1; exact ⟨_, _, _, h⟩
              obtain ⟨aT, nT, kT, rfl⟩ : ∃ a n k, T = .slice a n k := by obtain ⟨a, k, h, -⟩ := HRS.out.1; exact ⟨_, _, _, h⟩
              have u0 := row_cell HMJ.out.qk (k := 0) rfl
              have u1 := row_cell HMJ.out.qk (k := 1) rfl
              have u2 := row_cell HMJ.out.qk (k := 2) rfl
              have u3 := row_cell HMJ.out.qk (k := 3) rfl
              have f0 := row_free HMJ.out.qk 0
              have f1 := row_free HMJ.out.qk 1
              have f2 := row_free HMJ.out.qk 2
              have f3 := row_free HMJ.out.qk 3
              have v0 := row_cell HMJ.out.qe (k := 0) rfl
              have g0 := row_free HMJ.out.qe 0
              have k0_ := row_cell HKR.out.q (k := 0) rfl
              have k1_ := row_cell HKR.out.q (k := 1) rfl
              have k2_ := row_cell HKR.out.q (k := 2) rfl
              have k3_ := row_cell HKR.out.q (k := 3) rfl
              obtain ⟨W14, hW14⟩ : ∃ W, W = putKey wr (w.heap.size + 1 + 1 + 1 + 1) (.int .i64 (ep + 1)) (.slice a4 rows2.length k4) (.slice a5 owners2.length k5) (.slice aL nL kL) := ⟨_, rfl⟩
              have HRI2 := Lib.hid (hW14 ▸ HRI.out.keyW HMJ.out.qk (by decide) _ _ _ _)
              have HRS2 := Lib.hid (hW14 ▸ HRS.out.keyW HMJ.out.qk (by decide) _ _ _ _)
              have HB14 := Lib.hid (hW14 ▸ keyW_below HMJ.out.b (show w.heap.size ≤ w.heap.size + 1 + 1 + 1 + 1 by omega) _ _ _ _)
              have hk14 := hW14 ▸ keyW_heap HMJ.out.qk (.int .i64 (ep + 1)) (.slice a4 rows2.length k4) (.slice a5 owners2.length k5) (.slice aL nL kL)
              have he14 := hW14 ▸ (keyW_other wr (show w.heap.size + 1 + 1 + 1 + 1 + 1 ≠ w.heap.size + 1 + 1 + 1 + 1 by omega) (.int .i64 (ep + 1)) (.slice a4 rows2.length k4) (.slice a5 owners2.length k5) (.slice aL nL kL)).trans HMJ.out.qe
              have QK := Lib.hid hk14
              have QE := Lib.hid he14
              have y0 := row_cell he14 (k := 0) rfl
              have yf := row_free he14 0
              unfold putKey at hW14
              have HW14 := Lib.hid hW14
              have HS14 := Lib.hid (show W14.setCell ⟨w.heap.size + 1 + 1 + 1 + 1 + 1, 0, none⟩ (.int .i64 0) = W14 from set_same y0)
              clear hW14 hk14 he14 HRI HRS
              go_wp2_with (first | rw [← HW14.out] | rw [HS14.out])
              refine leaves_cons (f := 34) (args := #[.pointer (some ⟨w.heap.size + 1 + 1 + 1 + 1 + 1, 0, none⟩)]) (by simp) (by simp [go_sem]) ?_
              refine (caught39_idle _ _).mono ?_
              rintro e u' w'' ⟨rfl, rfl, rfl⟩
              have h0 := row_cell QK.out (k := 0) rfl
              have h1 := row_cell QK.out (k := 1) rfl
              have h2 := row_cell QK.out (k := 2) rfl
              have h3 := row_cell QK.out (k := 3) rfl
              have hxf := row_cell QE.out (k := 0) rfl
              simp [Leaves, settle, results, Try.results12, go_sem, hxf, h0, h1, h2, h3]
              exact ⟨_, _, _, _, _, by rw [HV.out], fun _ => ⟨rfl, rfl, rfl, HRI2.out, HRS2.out⟩, fun h => absurd HV.out h, HB14.out⟩
end Go.Proofs.Ytjjoadmkpbmhpaa
