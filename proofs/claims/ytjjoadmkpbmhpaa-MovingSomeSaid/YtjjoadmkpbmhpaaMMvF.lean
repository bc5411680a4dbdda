/- Package moving: weighted, fold. Package moving: what Move folds with. Polynomials over the field, in plain Lean: too many roots; a polynomial with given roots. Formulas and their rows, in plain Lean: the rows of people make the target exactly if the formula holds. Formulas in the world; slices.ContainsFunc at formulas; formulas.right. formulas.large. Appends to a slice that is full; program.powers. program.Make's rows: the state of treat. program.Make's rows: treat at a leaf. program.Make's rows: treat at a gate, the parts. program.Make's rows: treat at a gate. program.Make's rows: treat at any formula. program.Make: the rows, padded to one length. program.Make at any formula. The laws of package program: the formulas of the examples. The laws of package program: the examples, reckoned. The laws of package program: the examples hold (sane). The laws of package program: ProgramMore. -/
import Derived.Test.YtjjoadmkpbmhpaaMMvD
import Derived.Test.YtjjoadmkpbmhpaaMRange4
import Derived.Test.YtjjoadmkpbmhpaaMCalm
import Derived.Test.YtjjoadmkpbmhpaaMRbP
import Derived.Test.YtjjoadmkpbmhpaaMLaC
import Derived.Test.YtjjoadmkpbmhpaaMDeaA
import Derived.Test.YtjjoadmkpbmhpaaMRegL
import Derived.Test.YtjjoadmkpbmhpaaMDeaE
import Derived.Test.YtjjoadmkpbmhpaaMProF
import Derived.Test.YtjjoadmkpbmhpaaMLaI
import Derived.OwnWalkIn
import Derived.Laws.EntriesVeiled
import Derived.Lib.AppendZerosOnto
import Derived.Laws.Append
import Derived.Laws.ResultCell
namespace Go.Proofs.Ytjjoadmkpbmhpaa
open Go.RowKit FP

attribute [local go_sem] Oper.semAt_some

structure FoldI (w : World) (f : Nat → Int) (fv : Value) (j : Nat) (W : World) : Prop where
  be : Below w.heap.size w W
  bx : W.heap[w.heap.size]? = some (.cells #[.int .i64 (f j)] 3 (0, 0))
  bf : W.heap[w.heap.size + 1]? = some (.cells #[fv] 85 (0, 0))
theorem foldI_sim {w : World} {f : Nat → Int} {fv : Value} {j B : Nat} {W W' : World} (h : FoldI w f fv j W) (hB : w.heap.size ≤ B) (hs : Sim B W W') : FoldI w f fv j W' :=
  ⟨h.be.trans ((sim_below hs).mono hB), hs.cells _ _ h.bx rfl, hs.cells _ _ h.bf rfl⟩

set_option maxRecDepth 100000 in
set_option maxHeartbeats 4000000 in
theorem mfold2_any (gf : FuncId) (lb : Array Value) (N : Nat) (ii nn : Nat → Int) (p1 p2 : Value) (f : Nat → Int) (w : World) (hgo : Goes Try.prog gf)
    (hseq : ∀ I : Nat → World → Prop, (∀ j W, I j W → Below w.heap.size w W) → Iterates4 Try.prog gf lb N (fun j => #[.int .i64 (ii j), .int .i64 (nn j)]) I)
    (hadd : ∀ j, j < N → ∀ W, Below w.heap.size w W → Calls Try.prog 48 #[.int .i64 (f j), .int .i64 (ii j), .int .i64 (nn j), p1, p2] W fun e W' => e = .returned (.int .i64 (f (j + 1))) ∧ Below W.heap.size W W') :
    Calls Try.prog 46 #[.func (.func gf) #[] lb, .int .i64 (f 0), .func (.func 48) #[] #[p1, p2]] w fun e w' => e = .returned (.int .i64 (f N)) ∧ Below w.heap.size w w' := by
  have HADD := Lib.hid hadd
  clear hadd
  refine calls_of_range Try.func46 rfl ?_
  simp only [Try.ntmps46, List.size_toArray, List.length_cons, List.length_nil, Nat.reduceAdd, Nat.reduceSub, Array.replicate_succ, Array.replicate_zero, List.push_toArray, List.append_toArray, List.nil_append, List.cons_append]
  obtain ⟨W1, hW1, hb1, hr1, hs1⟩ := box_err w (.int .i64 (f 0)) 3
  obtain ⟨W2, hW2, hb2, hr2, hs2⟩ := box_err W1 (.func (.func 48) #[] #[p1, p2]) 85
  have h0 : FoldI w f (.func (.func 48) #[] #[p1, p2]) 0 W2 := ⟨hb1.trans (hb2.mono hb1.size), (hb2.block _ (row_lt hr1)).trans hr1, by rw [← hs1]; exact hr2⟩
  have hsz : w.heap.size ≤ W2.heap.size := by omega
  rw [hW1] at hW2
  have HW2 := Lib.hid hW2
  clear hW2 hW1 hb1 hb2 hr1 hr2 hs1 hs2
  go_wp2_with (rw [← HW2.out])
  refine wp_range42 (gf := gf) (lb := lb) (N := N) (encs := fun j => #[.int .i64 (ii j), .int .i64 (nn j)]) rfl hgo (fun _ => rfl)
    (fun j => FoldI w f (.func (.func 48) #[] #[p1, p2]) j) (fun _ _ _ => False) ?seq ?simI (fun _ _ _ _ h _ => h) h0
    (fun j t => (((t.setIfInBounds 10 (.int .i64 (ii j))).setIfInBounds 11 (.int .i64 (nn j))).setIfInBounds 7 (.int .i64 (ii j))).setIfInBounds 8 (.int .i64 (nn j))) ?assign ?body ?done (fun _ _ _ _ _ _ h => h.elim)
  case seq => exact hseq _ (fun j W h => h.be)
  case simI => exact fun j W W' h hs => foldI_sim h hsz hs
  case assign =>
    intro l j W K hK
    gi_wp2
    exact hK
  case body =>
    intro l j W hI hlt
    simp only [List.setIfInBounds_toArray, List.set_cons_succ, List.set_cons_zero]
    have x0 : W.cell? ⟨w.heap.size, 0, none⟩ = some (.int .i64 (f j)) := row_cell hI.bx rfl
    have x1 : W.cell? ⟨w.heap.size + 1, 0, none⟩ = some (.func (.func 48) #[] #[p1, p2]) := row_cell hI.bf rfl
    have HI := Lib.hid hI
    have HC := Lib.hid (HADD.out j hlt W hI.be)
    clear hI
    gi_wp2
    refine ⟨trivial, rfl, CallsIn.mono (CallsIn.inRound l ((callsIn_wide (n := 0)).2 HC.out)) ?_⟩
    rintro e W3 ⟨rfl, hb3⟩
    have r3 := (hb3.block _ (row_lt HI.out.bx)).trans HI.out.bx
    have f3 := (hb3.block _ (row_lt HI.out.bf)).trans HI.out.bf
    have HB3 := Lib.hid hb3
    have y0 : W3.cell? ⟨w.heap.size, 0, none⟩ = some (.int .i64 (f j)) := row_cell r3 rfl
    have z0 : W3.frozen? ⟨w.heap.size, 0, none⟩ = false := row_free r3 0
    clear hb3
    gi_wp2
    refine ⟨(keeps_of_below HB3.out).trans (KeepsOthers.setCell _ _ _), ⟨?_, row_set r3 0 _, ?_⟩⟩
    · exact (HI.out.be.trans (HB3.out.mono HI.out.be.size)).setCell (Nat.le_refl _) _
    · exact (Below.heap_setCell _ _ _ _ (by simp)).trans f3
  case done =>
    intro D W hD hI hDW hO
    have x0 : W.cell? ⟨w.heap.size, 0, none⟩ = some (.int .i64 (f N)) := row_cell hI.bx rfl
    go_wp2_with fail
    refine leaves_marks (B := w.heap.size) (v := .int .i64 (f N)) ?_ ?_ _ _ ⟨⟨D, rfl, Nat.le_trans hsz hD, hDW, fun _ h => by cases h⟩, trivial⟩ ⟨rfl, hI.be⟩
    · intro W1
      simp [results, Try.results46, go_sem]
    · rintro W1 W2 ⟨h1, h3⟩ hs
      exact ⟨h1, h3.trans (sim_below hs)⟩

set_option maxRecDepth 100000 in
set_option maxHeartbeats 4000000 in
theorem mfold3_any (gf : FuncId) (lb : Array Value) (N : Nat) (ii nn : Nat → Int) (p1 p2 : Value) (f : Nat → Int) (w : World) (hgo : Goes Try.prog gf)
    (hseq : ∀ I : Nat → World → Prop, (∀ j W, I j W → Below w.heap.size w W) → Iterates4 Try.prog gf lb N (fun j => #[.int .i64 (ii j), .int .i64 (nn j)]) I)
    (hadd : ∀ j, j < N → ∀ W, Below w.heap.size w W → Calls Try.prog 50 #[.int .i64 (f j), .int .i64 (ii j), .int .i64 (nn j), p1, p2] W fun e W' => e = .returned (.int .i64 (f (j + 1))) ∧ Below W.heap.size W W') :
    Calls Try.prog 46 #[.func (.func gf) #[] lb, .int .i64 (f 0), .func (.func 50) #[] #[p1, p2]] w fun e w' => e = .returned (.int .i64 (f N)) ∧ Below w.heap.size w w' := by
  have HADD := Lib.hid hadd
  clear hadd
  refine calls_of_range Try.func46 rfl ?_
  simp only [Try.ntmps46, List.size_toArray, List.length_cons, List.length_nil, Nat.reduceAdd, Nat.reduceSub, Array.replicate_succ, Array.replicate_zero, List.push_toArray, List.append_toArray, List.nil_append, List.cons_append]
  obtain ⟨W1, hW1, hb1, hr1, hs1⟩ := box_err w (.int .i64 (f 0)) 3
  obtain ⟨W2, hW2, hb2, hr2, hs2⟩ := box_err W1 (.func (.func 50) #[] #[p1, p2]) 85
  have h0 : FoldI w f (.func (.func 50) #[] #[p1, p2]) 0 W2 := ⟨hb1.trans (hb2.mono hb1.size), (hb2.block _ (row_lt hr1)).trans hr1, by rw [← hs1]; exact hr2⟩
  have hsz : w.heap.size ≤ W2.heap.size := by omega
  rw [hW1] at hW2
  have HW2 := Lib.hid hW2
  clear hW2 hW1 hb1 hb2 hr1 hr2 hs1 hs2
  go_wp2_with (rw [← HW2.out])
  refine wp_range42 (gf := gf) (lb := lb) (N := N) (encs := fun j => #[.int .i64 (ii j), .int .i64 (nn j)]) rfl hgo (fun _ => rfl)
    (fun j => FoldI w f (.func (.func 50) #[] #[p1, p2]) j) (fun _ _ _ => False) ?seq ?simI (fun _ _ _ _ h _ => h) h0
    (fun j t => (((t.setIfInBounds 10 (.int .i64 (ii j))).setIfInBounds 11 (.int .i64 (nn j))).setIfInBounds 7 (.int .i64 (ii j))).setIfInBounds 8 (.int .i64 (nn j))) ?assign ?body ?done (fun _ _ _ _ _ _ h => h.elim)
  case seq => exact hseq _ (fun j W h => h.be)
  case simI => exact fun j W W' h hs => foldI_sim h hsz hs
  case assign =>
    intro l j W K hK
    gi_wp2
    exact hK
  case body =>
    intro l j W hI hlt
    simp only [List.setIfInBounds_toArray, List.set_cons_succ, List.set_cons_zero]
    have x0 : W.cell? ⟨w.heap.size, 0, none⟩ = some (.int .i64 (f j)) := row_cell hI.bx rfl
    have x1 : W.cell? ⟨w.heap.size + 1, 0, none⟩ = some (.func (.func 50) #[] #[p1, p2]) := row_cell hI.bf rfl
    have HI := Lib.hid hI
    have HC := Lib.hid (HADD.out j hlt W hI.be)
    clear hI
    gi_wp2
    refine ⟨trivial, rfl, CallsIn.mono (CallsIn.inRound l ((callsIn_wide (n := 0)).2 HC.out)) ?_⟩
    rintro e W3 ⟨rfl, hb3⟩
    have r3 := (hb3.block _ (row_lt HI.out.bx)).trans HI.out.bx
    have f3 := (hb3.block _ (row_lt HI.out.bf)).trans HI.out.bf
    have HB3 := Lib.hid hb3
    have y0 : W3.cell? ⟨w.heap.size, 0, none⟩ = some (.int .i64 (f j)) := row_cell r3 rfl
    have z0 : W3.frozen? ⟨w.heap.size, 0, none⟩ = false := row_free r3 0
    clear hb3
    gi_wp2
    refine ⟨(keeps_of_below HB3.out).trans (KeepsOthers.setCell _ _ _), ⟨?_, row_set r3 0 _, ?_⟩⟩
    · exact (HI.out.be.trans (HB3.out.mono HI.out.be.size)).setCell (Nat.le_refl _) _
    · exact (Below.heap_setCell _ _ _ _ (by simp)).trans f3
  case done =>
    intro D W hD hI hDW hO
    have x0 : W.cell? ⟨w.heap.size, 0, none⟩ = some (.int .i64 (f N)) := row_cell hI.bx rfl
    go_wp2_with fail
    refine leaves_marks (B := w.heap.size) (v := .int .i64 (f N)) ?_ ?_ _ _ ⟨⟨D, rfl, Nat.le_trans hsz hD, hDW, fun _ h => by cases h⟩, trivial⟩ ⟨rfl, hI.be⟩
    · intro W1
      simp [results, Try.results46, go_sem]
    · rintro W1 W2 ⟨h1, h3⟩ hs
      exact ⟨h1, h3.trans (sim_below hs)⟩


/-- What the iterator of weighted reads. -/
structure WReads (rb yb : Nat) (rv yv : Value) (rows y : List Int) (W : World) : Prop where
  row : W.cell? ⟨rb, 0, none⟩ = some rv
  num : W.cell? ⟨yb, 0, none⟩ = some yv
  rs : Ints W rv rows
  ys : Ints W yv y

set_option maxRecDepth 100000 in
set_option maxHeartbeats 4000000 in
theorem weighted1_iterates (rb yb : Nat) (rv yv : Value) (rows y : List Int) (hin : ∀ k, k < rows.length → 0 ≤ nth rows k ∧ nth rows k < y.length) (I : Nat → World → Prop) (hI : ∀ j W, I j W → WReads rb yb rv yv rows y W) :
    Iterates4 Try.prog 74 #[.pointer (some ⟨rb, 0, none⟩), .pointer (some ⟨yb, 0, none⟩)] rows.length (fun j => #[.int .i64 (j : Int), .int .i64 (nth y (nth rows j).toNat)]) I := by
  intro l J Jx W hJ _ hY h0
  have HIN := Lib.hid hin
  have HY := Lib.hid hY
  clear hin hY
  obtain ⟨hr1, hr2, hr3, hr4⟩ := hI 0 W (hJ 0 W h0)
  obtain ⟨a, c, rfl, hc1, hc2, -, -⟩ := id hr3
  obtain ⟨a2, c2, rfl, -, -, -, -⟩ := id hr4
  clear hr3 hr4
  refine callsIn_of_wp Try.func74 rfl trivial ?_ rfl
  simp only [Try.ntmps74, List.size_toArray, List.length_cons, List.length_nil, Nat.reduceAdd, Nat.reduceSub, Array.replicate_succ, Array.replicate_zero, List.push_toArray, List.append_toArray, List.nil_append, List.cons_append]
  gi_wp2
  gi_loopw [8] (fun i wr => ∃ j : Nat, j ≤ rows.length ∧ i = .int .i64 (j : Int) ∧ J j wr) (fun i _ => rows.length - (intOf i).toNat)
  case atStart => exact ⟨0, Nat.zero_le _, rfl, h0⟩
  case round =>
    obtain ⟨j, hj, rfl, hJj⟩ := hrel
    obtain ⟨q1, q2, q3, q4⟩ := hI j wr (hJ j wr hJj)
    by_cases hlt : j < rows.length
    · obtain ⟨-, b, o, n, c', e1, x1⟩ := q3.get hlt
      simp only [Value.slice.injEq] at e1
      obtain ⟨rfl, -, -⟩ := e1
      obtain ⟨g1, g2⟩ := HIN.out j hlt
      obtain ⟨-, b2, o2, n2, c2', e2, x2⟩ := q4.get (k := (nth rows j).toNat) (by omega)
      simp only [Value.slice.injEq] at e2
      obtain ⟨rfl, -, -⟩ := e2
      obtain ⟨fn, tmps, assign, body, hy, hR⟩ := HY.out j wr hJj hlt
      have i1 : (j : Int) < (rows.length : Int) := by omega
      clear q3 q4
      generalize nth rows j = r at *
      generalize nth y r.toNat = q at *
      gi_wp2
      refine ⟨rfl, hR.mono ?_⟩
      rintro e W3 (⟨rfl, hJ3⟩ | ⟨rfl, hJx3⟩)
      · gi_wp2
        go_roundw
        case rel => exact ⟨j + 1, by omega, by go_num, hJ3⟩
        case measure => simp [intOf]; omega
      · gi_wp2
        refine bodyPost_ret (results_none rfl _ _ _) rfl ?_
        exact ⟨⟨_, rfl⟩, .inr ⟨j + 1, by omega, hJx3⟩⟩
    · obtain rfl : j = rows.length := by omega
      clear q3 q4
      gi_wp2
      go_end0
      exact ⟨⟨_, rfl⟩, .inl hJj⟩
set_option maxRecDepth 100000 in
theorem weighted1_goes : Goes Try.prog 74 := goes_of Try.func74 (by kernel_rfl) rfl

set_option maxRecDepth 100000 in
theorem weighted_any (rv yv : Value) (w : World) (hr : ∃ a n c, rv = .slice a n c) (hy : ∃ a n c, yv = .slice a n c) :
    Calls Try.prog 47 #[rv, yv] w fun e w' =>
      e = .returned (.func (.func 74) #[] #[.pointer (some ⟨w.heap.size, 0, none⟩), .pointer (some ⟨w.heap.size + 1, 0, none⟩)]) ∧ w' = (w.alloc (.cells #[rv] 23)).alloc (.cells #[yv] 23) := by
  obtain ⟨a, n, c, rfl⟩ := hr
  obtain ⟨a2, n2, c2, rfl⟩ := hy
  have hmf : ∀ (fn : Fn) (first cap : Array Value) (w : World), (Instr.makeFunc fn first cap).run Try.prog w = .ok (.func fn first cap) w := fun _ _ _ _ => rfl
  go_enter Try.func47, Try.ntmps47
  go_wp2
  go_ret
  exact ⟨rfl, rfl⟩

end Go.Proofs.Ytjjoadmkpbmhpaa

namespace Go.Proofs.Ytjjoadmkpbmhpaa
open Go.RowKit FP

theorem Rows2.get2 {w : World} {v : Value} {rows : List (List Int)} (h : Rows2 w v rows) {i j : Nat} (hi : i < rows.length) (hj : j < (rows.getD i []).length) :
    ∃ b off n c b2 off2 n2 c2, v = .slice (some ⟨b, off, none⟩) n c ∧ w.cell? ⟨b, off + i, none⟩ = some (.slice (some ⟨b2, off2, none⟩) n2 c2) ∧ w.cell? ⟨b2, off2 + j, none⟩ = some (.int .i64 (nth (rows.getD i []) j)) ∧ n = rows.length ∧ n2 = (rows.getD i []).length := by
  obtain ⟨a, cap, rfl, -, -, hk⟩ := h
  obtain ⟨b, off, r, rfl, hc, hI⟩ := hk i hi
  have e : rows.getD i [] = rows[i] := by rw [List.getD_eq_getElem?_getD, List.getElem?_eq_getElem hi]; rfl
  rw [e] at hj ⊢
  obtain ⟨a2, cap2, rfl, -, -, -, hk2⟩ := hI
  obtain ⟨b2, off2, rfl, hc2⟩ := hk2 j hj
  exact ⟨b, off, _, _, b2, off2, _, _, rfl, hc, by rw [nth_at hj]; exact hc2, rfl, rfl⟩

set_option maxRecDepth 100000 in
set_option maxHeartbeats 4000000 in
theorem move2_any (cb jb : Nat) (cv : Value) (css : List (List Int)) (i j : Nat) (c n : Int) (w : World) (x0 : w.cell? ⟨cb, 0, none⟩ = some cv) (xj : w.cell? ⟨jb, 0, none⟩ = some (.int .i64 (j : Int)))
    (hC : Rows2 w cv css) (hi : i < css.length) (hj : j < (css.getD i []).length) (hel : El (nth (css.getD i []) j)) (hc : El c) (hn : R64 n) :
    Calls Try.prog 48 #[.int .i64 c, .int .i64 (i : Int), .int .i64 n, .pointer (some ⟨cb, 0, none⟩), .pointer (some ⟨jb, 0, none⟩)] w fun e w' =>
      e = .returned (.int .i64 (c * powE (nth (css.getD i []) j) n % 2147483579)) ∧ Below w.heap.size w w' := by
  obtain ⟨b, off, m1, k1, b2, off2, m2, k2, rfl, y1, y2, e1, e2⟩ := hC.get2 hi hj
  clear hC
  generalize css.getD i [] = row at *
  generalize hg : nth row j = g at *
  clear hg
  have HP := Lib.hid (fun W => pow_yes g n W hel hn)
  obtain ⟨q, hq⟩ : ∃ q, q = powE g n := ⟨_, rfl⟩
  have HM := Lib.hid (fun W => mul_yes c q W hc (by rw [hq]; exact el_powE hel n))
  rw [← hq] at HP ⊢
  generalize hz : c * q % 2147483579 = z at *
  clear hz hq
  have i1 : (i : Int) < (m1 : Int) := by omega
  have j1 : (j : Int) < (m2 : Int) := by omega
  have i0 : 0 ≤ (i : Int) := by omega
  have j0 : 0 ≤ (j : Int) := by omega
  have x0d : w.drew.cell? ⟨cb, 0, none⟩ = some (.slice (some ⟨b, off, none⟩) m1 k1) := x0
  have xjd : w.drew.cell? ⟨jb, 0, none⟩ = some (.int .i64 (j : Int)) := xj
  have y1d : w.drew.cell? ⟨b, off + i, none⟩ = some (.slice (some ⟨b2, off2, none⟩) m2 k2) := y1
  have y2d : w.drew.cell? ⟨b2, off2 + j, none⟩ = some (.int .i64 g) := y2
  have HB := Lib.hid ((Below.refl w.heap.size w).drew)
  clear x0 xj y1 y2 e1 e2 hi hj
  go_enter Try.func48, Try.ntmps48
  go_wp2_with fail
  go_region_held3 (fun w' => w'.cell? ⟨cb, 0, none⟩ = some (.slice (some ⟨b, off, none⟩) m1 k1) ∧ w'.cell? ⟨jb, 0, none⟩ = some (.int .i64 (j : Int)) ∧ w'.cell? ⟨b, off + i, none⟩ = some (.slice (some ⟨b2, off2, none⟩) m2 k2) ∧ w'.cell? ⟨b2, off2 + j, none⟩ = some (.int .i64 g)) (first | go_keep | exact ⟨x0d, xjd, y1d, y2d⟩ | exact ⟨z0, z1, z2, z3⟩)
    ((go_at_call 33; (with_reducible refine (HP.out _).mono ?_); rintro e w6 ⟨rfl, hb6⟩; have z0 := below_cell hb6 x0d; have z1 := below_cell hb6 xjd; have z2 := below_cell hb6 y1d; have z3 := below_cell hb6 y2d; have HB6 := Lib.hid (HB.out.trans (hb6.mono HB.out.size)); clear hb6))
  all_goals
    go_wp2_with fail
    refine (must_ok _ _).mono ?_
    rintro e w7 ⟨rfl, rfl⟩
    go_wp2_with fail
    refine (HM.out _).mono ?_
    rintro e w7 ⟨rfl, rfl⟩
    go_wp2_with fail
    refine (must_ok _ _).mono ?_
    rintro e w7 ⟨rfl, rfl⟩
    go_wp2_with fail
    go_ret
    exact ⟨rfl, HB6.out⟩

set_option maxRecDepth 100000 in
set_option maxHeartbeats 4000000 in
theorem move3_any (cb jb : Nat) (cv : Value) (ls : List (List (Int × Int))) (i j : Nat) (c n : Int) (w : World) (x0 : w.cell? ⟨cb, 0, none⟩ = some cv) (xj : w.cell? ⟨jb, 0, none⟩ = some (.int .i64 (j : Int)))
    (hC : SRows w cv ls) (hi : i < ls.length) (hj : j < (ls.getD i []).length) (hc : R64 c) (hn : R64 n) :
    Calls Try.prog 50 #[.int .i64 c, .int .i64 (i : Int), .int .i64 n, .pointer (some ⟨cb, 0, none⟩), .pointer (some ⟨jb, 0, none⟩)] w fun e w' =>
      e = .returned (.int .i64 ((c + n * ((ls.getD i [])[j]).2 % 1073741789) % 1073741789)) ∧ Below w.heap.size w w' := by
  obtain ⟨b, off, m1, k1, r, e0, y1, hS⟩ := hC.get hi
  have e1 : m1 = ls.length := by
    obtain ⟨a, cap, h, -⟩ := hC
    rw [e0] at h; simp only [Value.slice.injEq] at h; exact h.2.1
  subst e0
  clear hC
  generalize ls.getD i [] = row at *
  obtain ⟨a2, k2, rfl, -, -, hr, hk⟩ := hS
  obtain ⟨b2, off2, rfl, -, y2⟩ := hk j hj
  have hg : R64 row[j].2 := (hr _ (List.getElem_mem hj)).2
  generalize row[j].2 = g at *
  clear hk hr
  have HM := Lib.hid (fun W => mul_any n g W hn hg)
  obtain ⟨q, hq⟩ : ∃ q, q = n * g % 1073741789 := ⟨_, rfl⟩
  have HA := Lib.hid (fun W => add_any c q W hc (by rw [hq]; exact mod_r64 _))
  rw [← hq] at HM ⊢
  generalize hz : (c + q) % 1073741789 = z at *
  clear hz hq
  have i1 : (i : Int) < (m1 : Int) := by omega
  have j1 : (j : Int) < (row.length : Int) := by omega
  have i0 : 0 ≤ (i : Int) := by omega
  have j0 : 0 ≤ (j : Int) := by omega
  have x0d : w.drew.cell? ⟨cb, 0, none⟩ = some (.slice (some ⟨b, off, none⟩) m1 k1) := x0
  have xjd : w.drew.cell? ⟨jb, 0, none⟩ = some (.int .i64 (j : Int)) := xj
  have y1d : w.drew.cell? ⟨b, off + i, none⟩ = some (.slice (some ⟨b2, off2, none⟩) row.length k2) := y1
  have y2d : w.drew.cell? ⟨b2, off2 + j * 2 + 1, none⟩ = some (.int .i64 g) := y2
  have HB := Lib.hid ((Below.refl w.heap.size w).drew)
  clear x0 xj y1 y2 e1 hi hj
  go_enter Try.func50, Try.ntmps50
  go_wp2_with fail
  go_region_held3 (fun w' => w'.cell? ⟨cb, 0, none⟩ = some (.slice (some ⟨b, off, none⟩) m1 k1) ∧ w'.cell? ⟨jb, 0, none⟩ = some (.int .i64 (j : Int)) ∧ w'.cell? ⟨b, off + i, none⟩ = some (.slice (some ⟨b2, off2, none⟩) row.length k2) ∧ w'.cell? ⟨b2, off2 + j * 2 + 1, none⟩ = some (.int .i64 g)) (first | go_keep | exact ⟨x0d, xjd, y1d, y2d⟩ | exact ⟨z0, z1, z2, z3⟩)
    (first
      | (go_at_call 52; (with_reducible refine (HM.out _).mono ?_); rintro e w6 ⟨rfl, rfl⟩)
      | (go_at_call 51; (with_reducible refine (HA.out _).mono ?_); rintro e w6 ⟨rfl, hb6⟩; have z0 := below_cell hb6 x0d; have z1 := below_cell hb6 xjd; have z2 := below_cell hb6 y1d; have z3 := below_cell hb6 y2d; have HB6 := Lib.hid (HB.out.trans (hb6.mono HB.out.size)); clear hb6))
  all_goals
    go_wp2_with fail
    go_ret
    exact ⟨rfl, HB6.out⟩

end Go.Proofs.Ytjjoadmkpbmhpaa

namespace Go.Proofs.Ytjjoadmkpbmhpaa

/-- The value of a polynomial. -/
def pv (m : Nat) (a : Nat → Fq) (x : Fq) : Fq := sm m (fun j => a j * x ^ j)
end Go.Proofs.Ytjjoadmkpbmhpaa

namespace Go.Proofs.Ytjjoadmkpbmhpaa

/-- A formula: a leaf (person, at least 0), or a gate. -/
inductive GT where
  | mk (p n : Int) (l : List GT)

theorem natq_inj {a b : Nat} (ha : a < 1073741789) (hb : b < 1073741789) (h : natq a = natq b) : a = b := by
  have := cq_inj (a := (a : Int)) (b := (b : Int)) (by omega) (by omega) h
  omega
theorem natq_ne {a : Nat} (h0 : 0 < a) (ha : a < 1073741789) : natq a ≠ 0 := fun h => by
  have := natq_inj ha (by omega) (h.trans (show (0 : Fq) = natq 0 from cq_0.symm))
  omega

end Go.Proofs.Ytjjoadmkpbmhpaa

namespace Go.Proofs.Ytjjoadmkpbmhpaa
open Go.RowKit

/-- The value v reads as a formula. -/
inductive GateV (w : World) : Value → GT → Prop
  | mk (p n : Int) (l : List GT) (a : Option Addr) (cap : Nat) (sub : Nat → Value) (hp : R64 p) (hn : R64 n) (hc : l.length ≤ cap) (hl : l.length ≤ 17592186044416)
    (hk : ∀ k, k < l.length → ∃ b off x y za zn zc, a = some ⟨b, off, none⟩ ∧ sub k = .agg #[.int .i64 x, .int .i64 y, .slice za zn zc] ∧ w.cell? ⟨b, off + k * 3, none⟩ = some (.int .i64 x) ∧ w.cell? ⟨b, off + k * 3 + 1, none⟩ = some (.int .i64 y) ∧ w.cell? ⟨b, off + k * 3 + 2, none⟩ = some (.slice za zn zc))
    (hs : ∀ k (h : k < l.length), GateV w (sub k) l[k]) : GateV w (.agg #[.int .i64 p, .int .i64 n, .slice a l.length cap]) (.mk p n l)
theorem GateV.later {w w' : World} {v : Value} {g : GT} (h : GateV w v g) (hb : Below w.heap.size w w') : GateV w' v g := by
  induction h with
  | mk p n l a cap sub hp hn hc hl hk hs ih =>
    exact .mk p n l a cap sub hp hn hc hl (fun k h => by
      obtain ⟨b, off, x, y, za, zn, zc, h1, h2, h3, h4, h5⟩ := hk k h
      exact ⟨b, off, x, y, za, zn, zc, h1, h2, below_cell hb h3, below_cell hb h4, below_cell hb h5⟩) ih

def GatW (w : World) (v : Value) (g : GT) : Prop := GateV w v g
theorem GatW.below {w w' : World} {v : Value} {g : GT} (h : GatW w v g) (hb : Below w.heap.size w w') : GatW w' v g := GateV.later h hb

end Go.Proofs.Ytjjoadmkpbmhpaa

namespace Go.Proofs.Ytjjoadmkpbmhpaa
open Go.RowKit

/-- All blocks but one are as they were. -/
def ButL (LB : Nat) (W W' : World) : Prop := W.heap.size ≤ W'.heap.size ∧ ∀ k, k < W.heap.size → k ≠ LB → W'.heap[k]? = W.heap[k]?
theorem ButL.of_below {LB : Nat} {W W' : World} (h : Below W.heap.size W W') : ButL LB W W' := ⟨h.size, fun k hk _ => h.block k hk⟩
theorem ButL.trans {LB : Nat} {A B C : World} (h : ButL LB A B) (k : ButL LB B C) : ButL LB A C := ⟨Nat.le_trans h.1 k.1, fun i hi hn => (k.2 i (Nat.lt_of_lt_of_le hi h.1) hn).trans (h.2 i hi hn)⟩
theorem ButL.set (LB : Nat) (W : World) (v : Value) : ButL LB W (W.setCell ⟨LB, 0, none⟩ v) := ⟨by simp [World.setCell], fun k _ hn => Below.heap_setCell _ _ _ _ hn⟩
end Go.Proofs.Ytjjoadmkpbmhpaa

namespace Go.Proofs.Ytjjoadmkpbmhpaa
open Go.RowKit

attribute [local go_sem] Oper.semAt_some

/-- A slice of integers that is full. -/
def FullI (w : World) (v : Value) (zs : List Int) : Prop := ∃ b off, v = .slice (some ⟨b, off, none⟩) zs.length zs.length ∧ zs ≠ [] ∧ (∀ z ∈ zs, R64 z) ∧ ∀ k (h : k < zs.length), w.cell? ⟨b, off + k, none⟩ = some (.int .i64 zs[k])
theorem FullI.ints {w : World} {v : Value} {zs : List Int} (h : FullI w v zs) (hl : zs.length ≤ 1000000) : Ints w v zs := by
  obtain ⟨b, off, rfl, -, hr, hk⟩ := h
  exact ⟨_, _, rfl, Nat.le_refl _, by omega, hr, fun k hk' => ⟨b, off, rfl, hk k hk'⟩⟩

end Go.Proofs.Ytjjoadmkpbmhpaa

namespace Go.Proofs.Ytjjoadmkpbmhpaa
open Go.RowKit

/-- Blocks that treat writes. -/
def Bad (PB CB : Nat) (W : World) (k : Nat) : Prop := k = PB ∨ k = CB ∨ ∃ L1 L2, W.heap[PB]? = some (.cells #[L1, L2] 25 (0, 0)) ∧ (L1.ownBlock = some k ∨ L2.ownBlock = some k)
structure StepM (PB CB : Nat) (W W' : World) : Prop where
  size : W.heap.size ≤ W'.heap.size
  same : ∀ k, k < W.heap.size → ¬ Bad PB CB W k → W'.heap[k]? = W.heap[k]?
  bad : ∀ k, k < W.heap.size → Bad PB CB W' k → Bad PB CB W k
theorem StepM.refl (PB CB : Nat) (W : World) : StepM PB CB W W := ⟨Nat.le_refl _, fun _ _ _ => rfl, fun _ _ h => h⟩
theorem StepM.trans {PB CB : Nat} {A B C : World} (h : StepM PB CB A B) (k : StepM PB CB B C) : StepM PB CB A C :=
  ⟨Nat.le_trans h.size k.size, fun i hi hn => (k.same i (Nat.lt_of_lt_of_le hi h.size) (fun hb => hn (h.bad i hi hb))).trans (h.same i hi hn),
   fun i hi hb => h.bad i hi (k.bad i (Nat.lt_of_lt_of_le hi h.size) hb)⟩
theorem StepM.of_below {PB CB : Nat} {W W' : World} (hb : Below W.heap.size W W') (hP : PB < W.heap.size) : StepM PB CB W W' :=
  ⟨hb.size, fun k hk _ => hb.block k hk, fun k _ h => by
    unfold Bad at h ⊢
    rwa [hb.block PB hP] at h⟩
/-- A full slice that treat does not write. -/
def SafeF (PB CB : Nat) (W : World) (v : Value) (zs : List Int) : Prop := FullI W v zs ∧ ∃ b off n c, v = .slice (some ⟨b, off, none⟩) n c ∧ b < W.heap.size ∧ ¬ Bad PB CB W b
theorem SafeF.step {PB CB : Nat} {W W' : World} {v : Value} {zs : List Int} (h : SafeF PB CB W v zs) (s : StepM PB CB W W') : SafeF PB CB W' v zs := by
  obtain ⟨⟨b, off, rfl, h1, h2, h3⟩, b', off', n, c, e, hb, hn⟩ := h
  simp only [Value.slice.injEq, Option.some.injEq, Addr.mk.injEq] at e
  obtain ⟨⟨rfl, rfl, -⟩, -, -⟩ := e
  exact ⟨⟨_, _, rfl, h1, h2, fun k hk => (World.cell?_of_block (a := ⟨b, off + k, none⟩) (s.same b hb hn)).trans (h3 k hk)⟩, _, _, _, _, rfl, Nat.lt_of_lt_of_le hb s.size, fun hb2 => hn (s.bad b hb hb2)⟩

structure Ord (w : World) (PB CB TB C : Nat) : Prop where
  p : w.heap.size ≤ PB
  c : w.heap.size ≤ CB
  pc : PB < C
  cc : CB < C
  tc : TB < C
  ne : PB ≠ CB
  tp : TB ≠ PB
  tcb : TB ≠ CB
/-- Two rows have grown: the rest is as it was. -/
structure Near (L1 L2 : Value) (X0 X : World) : Prop where
  os : X.os = X0.os
  tape : X.tape = X0.tape
  output : X.output = X0.output
  size : X0.heap.size ≤ X.heap.size
  same : ∀ k, k < X0.heap.size → L1.ownBlock ≠ some k → L2.ownBlock ≠ some k → X.heap[k]? = X0.heap[k]?
theorem Near.refl (L1 L2 : Value) (X : World) : Near L1 L2 X X := ⟨rfl, rfl, rfl, Nat.le_refl _, fun _ _ _ _ => rfl⟩
theorem Near.below {L1 L2 : Value} {X0 X X' : World} (h : Near L1 L2 X0 X) (hb : Below X.heap.size X X') : Near L1 L2 X0 X' :=
  ⟨hb.os.trans h.os, hb.tape.trans h.tape, hb.output.trans h.output, Nat.le_trans h.size hb.size, fun k hk h1 h2 => (hb.block k (Nat.lt_of_lt_of_le hk h.size)).trans (h.same k hk h1 h2)⟩
theorem Near.one {L1 L2 : Value} {X0 X X' : World} (h : Near L1 L2 X0 X) (hg : X.grownBy X' L1.ownBlock) : Near L1 L2 X0 X' :=
  ⟨hg.os.trans h.os, hg.tape.trans h.tape, hg.output.trans h.output, Nat.le_trans h.size hg.size, fun k hk h1 h2 => (hg.block k (Nat.lt_of_lt_of_le hk h.size) (fun e => h1 e.symm)).trans (h.same k hk h1 h2)⟩
theorem Near.two {L1 L2 : Value} {X0 X X' : World} (h : Near L1 L2 X0 X) (hg : X.grownBy X' L2.ownBlock) : Near L1 L2 X0 X' :=
  ⟨hg.os.trans h.os, hg.tape.trans h.tape, hg.output.trans h.output, Nat.le_trans h.size hg.size, fun k hk h1 h2 => (hg.block k (Nat.lt_of_lt_of_le hk h.size) (fun e => h2 e.symm)).trans (h.same k hk h1 h2)⟩

end Go.Proofs.Ytjjoadmkpbmhpaa

namespace Go.Proofs.Ytjjoadmkpbmhpaa
open Go.RowKit

end Go.Proofs.Ytjjoadmkpbmhpaa

namespace Go.Proofs.Ytjjoadmkpbmhpaa
open Go.RowKit

attribute [local go_sem] Oper.semAt_some

end Go.Proofs.Ytjjoadmkpbmhpaa

namespace Go.Proofs.Ytjjoadmkpbmhpaa
open Go.RowKit

attribute [local go_sem] Oper.semAt_some

end Go.Proofs.Ytjjoadmkpbmhpaa

namespace Go.Proofs.Ytjjoadmkpbmhpaa
open Go.RowKit

end Go.Proofs.Ytjjoadmkpbmhpaa

namespace Go.Proofs.Ytjjoadmkpbmhpaa
open Go.RowKit

def padTo (c : Nat) (zs : List Int) : List Int := zs ++ List.replicate (c - zs.length) 0
/-- A slice of integers that treat does not write; it may have room. -/
def GoodI (PB CB : Nat) (W : World) (v : Value) (zs : List Int) : Prop := ∃ b off cap, v = .slice (some ⟨b, off, none⟩) zs.length cap ∧ zs.length ≤ cap ∧ SafeF PB CB W (.slice (some ⟨b, off, none⟩) zs.length zs.length) zs
theorem GoodI.step {PB CB : Nat} {W W' : World} {v : Value} {zs : List Int} (h : GoodI PB CB W v zs) (s : StepM PB CB W W') : GoodI PB CB W' v zs := by
  obtain ⟨b, off, cap, h1, h2, h3⟩ := h
  exact ⟨b, off, cap, h1, h2, h3.step s⟩
theorem GoodI.ints {PB CB : Nat} {W : World} {v : Value} {zs : List Int} (h : GoodI PB CB W v zs) (hl : zs.length ≤ 1000000) : Ints W v zs := by
  obtain ⟨b, off, cap, rfl, h2, h3, -⟩ := h
  obtain ⟨b', off', e, h5, h6, h7⟩ := h3
  simp only [Value.slice.injEq, Option.some.injEq, Addr.mk.injEq] at e
  obtain ⟨⟨rfl, rfl, -⟩, -, -⟩ := e
  exact ⟨_, cap, rfl, h2, by omega, h6, fun k hk => ⟨_, _, rfl, h7 k hk⟩⟩

theorem own_sl {W : World} {base size n : Nat} {e : TypeId} {v : Value} {xs : List Value} (h : W.ownsRow base e size v n xs) : ∃ a c, v = .slice a n c := by
  rcases h.2 with ⟨rfl, rfl⟩ | ⟨g, cap, cur, rfl, -⟩
  · exact ⟨_, _, rfl⟩
  · exact ⟨_, _, rfl⟩
theorem own_at {W : World} {base n : Nat} {e : TypeId} {v : Value} {xs : List Value} (h : W.ownsRow base e 1 v n xs) {k : Nat} (hk : k < n) : ∃ g cap u, v = .slice (some ⟨g, 0, none⟩) n cap ∧ base ≤ g ∧ xs[k]? = some u ∧ W.cell? ⟨g, k, none⟩ = some u := by
  obtain ⟨h0, h⟩ := h
  rcases h with ⟨-, rfl⟩ | ⟨g, cap, cur, rfl, hb, hg, hnc, -, hcs, hcur⟩
  · omega
  · have hk2 : k < xs.length := by omega
    refine ⟨g, cap, xs[k], rfl, hb, List.getElem?_eq_getElem hk2, row_cell hg ?_⟩
    have e2 : (cur.toList.take (n * 1))[k]? = some xs[k] := by rw [hcur]; exact List.getElem?_eq_getElem hk2
    rw [List.getElem?_take, if_pos (by omega)] at e2
    rw [← Array.getElem?_toList]; exact e2

/-- Behind k rounds of padding. -/
structure MkL (w : World) (PB CB C : Nat) (R : List (List Int × Int)) (c : Nat) (L1 L2 : Value) (k : Nat) (W : World) : Prop where
  be : Below w.heap.size w W
  cb : W.heap[CB]? = some (.cells #[.int .i64 c] 3 (0, 0))
  pb : W.heap[PB]? = some (.cells #[L1, L2] 25 (0, 0))
  row : ∃ ys, Two C W R.length R.length L1 L2 ys (R.map fun r => .int .i64 r.2) ∧ ys.length = R.length ∧ ∀ i (h1 : i < R.length) (h2 : i < ys.length), GoodI PB CB W ys[i] (if i < k then padTo c R[i].1 else R[i].1)
theorem MkL.next {w : World} {PB CB TB C : Nat} {R : List (List Int × Int)} {c : Nat} {L1 L2 : Value} {k : Nat} {W W2 : World} {g n cap : Nat} {u : Value} (ho : Ord w PB CB TB C) (h : MkL w PB CB C R c L1 L2 k W) (hk : k < R.length) (hb : Below W.heap.size W W2) (he : L1 = .slice (some ⟨g, 0, none⟩) n cap) (hu : GoodI PB CB W2 u (padTo c R[k].1)) : MkL w PB CB C R c L1 L2 (k + 1) (W2.setCell ⟨g, k, none⟩ u) := by
  obtain ⟨h1, h4, h5, ys, h6, h7, h8⟩ := h
  have hlt := row_lt h5
  have hgC : C ≤ g := (own_lt h6.a g (by rw [he]; rfl)).1
  have hp := ho.p
  have hpc := ho.pc
  have hcc := ho.cc
  have hn : n = R.length := by
    obtain ⟨a, c', e⟩ := own_sl h6.a
    rw [he] at e
    injection e
  subst hn
  have h6' := h6.keep hb
  rw [he] at h6'
  obtain ⟨st, hg⟩ := h6'.a.stored k u
  have r5 : W2.heap[PB]? = some (.cells #[L1, L2] 25 (0, 0)) := (hb.block _ hlt).trans h5
  have hP : (W2.setCell ⟨g, k, none⟩ u).heap[PB]? = W2.heap[PB]? := Below.heap_setCell _ _ _ _ (by show PB ≠ g; omega)
  have hs2 : StepM PB CB W2 (W2.setCell ⟨g, k, none⟩ u) := ⟨by simp [World.setCell], fun i _ hn => Below.heap_setCell _ _ _ _ (fun e => hn (.inr (.inr ⟨L1, L2, r5, .inl (by rw [he, e]; rfl)⟩))), fun i _ hb2 => by
    unfold Bad at hb2 ⊢
    rwa [hP] at hb2⟩
  have hs := (StepM.of_below (CB := CB) hb hlt).trans hs2
  refine ⟨(below_later h1 (Nat.le_refl _) hb).setCell (by show _ ≤ g; omega) _, (Below.heap_setCell _ _ _ _ (by show CB ≠ g; omega)).trans ((hb.block _ (row_lt h4)).trans h4), hP.trans r5, ys.set k u, ?_, by rw [List.length_set]; exact h7, fun i a b => ?_⟩
  · rw [he]
    exact ⟨st, own_apart (u := .slice (some ⟨g, 0, none⟩) R.length cap) h6'.b hg (fun q a b => h6'.ap q b a), h6'.ap⟩
  · by_cases e : k = i
    · subst e
      rw [List.getElem_set_self, if_pos (Nat.lt_succ_self _)]
      exact hu.step hs2
    · rw [List.getElem_set_ne e]
      have h9 := (h8 i a (by rwa [List.length_set] at b)).step hs
      by_cases e2 : i < k
      · rw [if_pos e2] at h9
        rw [if_pos (by omega)]; exact h9
      · rw [if_neg e2] at h9
        rw [if_neg (by omega)]; exact h9
theorem MkL.done {w : World} {PB CB C : Nat} {R : List (List Int × Int)} {c : Nat} {L1 L2 : Value} {W : World} (h : MkL w PB CB C R c L1 L2 R.length W) (hR : R.length ≤ 64) (hc : c ≤ 64) (hr : ∀ r ∈ R, r.1.length ≤ c ∧ 0 ≤ r.2 ∧ r.2 < 64) : Rows2 W L1 (R.map fun r => padTo c r.1) ∧ Ints W L2 (R.map fun r => r.2) := by
  obtain ⟨h1, h4, h5, ys, h6, h7, h8⟩ := h
  constructor
  · obtain ⟨a, cap, e⟩ := own_sl h6.a
    have hcap : R.length ≤ cap := by
      rcases h6.a.2 with ⟨e2, h0⟩ | ⟨g, cap', cur, e2, -, -, hnc, -⟩
      · omega
      · rw [e] at e2; injection e2 with _ _ e3; omega
    refine ⟨a, cap, by rw [e, List.length_map], by rw [List.length_map]; exact hcap, by rw [List.length_map]; omega, fun k hk => ?_⟩
    have hk2 : k < R.length := by rwa [List.length_map] at hk
    obtain ⟨g, cap', u, e2, -, hu, hcell⟩ := own_at h6.a hk2
    rw [e] at e2
    injection e2 with e2 _ _
    have hky : k < ys.length := by omega
    have hu2 : ys[k] = u := by rw [List.getElem?_eq_getElem hky] at hu; injection hu
    refine ⟨g, 0, u, e2, by rw [Nat.zero_add]; exact hcell, ?_⟩
    have h9 := h8 k hk2 hky
    rw [if_pos hk2, hu2] at h9
    rw [List.getElem_map]
    refine h9.ints ?_
    have := (hr _ (List.getElem_mem hk2)).1
    unfold padTo
    simp; omega
  · refine Ints.own (base := C) (n := R.length) (by rw [List.map_map]; exact h6.b) (fun z hz => ?_) (by rw [List.length_map]; omega)
    obtain ⟨r, hr2, rfl⟩ := List.mem_map.1 hz
    have := hr r hr2
    exact R64.mk (by omega) (by omega)

end Go.Proofs.Ytjjoadmkpbmhpaa

namespace Go.Proofs.Ytjjoadmkpbmhpaa
open Go.RowKit

end Go.Proofs.Ytjjoadmkpbmhpaa

namespace Go.Proofs.Ytjjoadmkpbmhpaa
open Go.RowKit FP

end Go.Proofs.Ytjjoadmkpbmhpaa

namespace Go.Proofs.Ytjjoadmkpbmhpaa
open Go.RowKit FP

end Go.Proofs.Ytjjoadmkpbmhpaa

namespace Go.Proofs.Ytjjoadmkpbmhpaa
open Go.RowKit FP

end Go.Proofs.Ytjjoadmkpbmhpaa

namespace Go.Proofs.Ytjjoadmkpbmhpaa
open Go.RowKit FP

theorem ownL_mem {owners who : List Int} {n i : Nat} : i ∈ ownL owners who n ↔ i < n ∧ nth owners i ∈ who := by
  unfold ownL
  simp
end Go.Proofs.Ytjjoadmkpbmhpaa
