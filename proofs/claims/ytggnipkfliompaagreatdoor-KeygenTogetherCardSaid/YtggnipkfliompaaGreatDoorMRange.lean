/- A range over a function of this program, in a function that is walked plainly: one law, for a body that goes on or leaves by a jump. -/
import Derived.Test.YtggnipkfliompaaGreatDoorMBase
import Derived.RangeFuncFrom
import Derived.RangeFuncLeaves
import Derived.RangeFuncCalls
import Derived.RangeFuncBound
namespace Go.Proofs.YtggnipkfliompaaGreatDoor
open Go.RowKit
structure Sim (B : Nat) (W W' : World) : Prop where
 os : W'.os = W.os
 tape : W'.tape = W.tape
 output : W'.output = W.output
 size : W.heap.size ≤ W'.heap.size
 low : ∀ k : Nat, k < B → W'.heap[k]? = W.heap[k]?
 cells : ∀ (k : Nat) (o : Obj), W.heap[k]? = some o → o.isCells = true → W'.heap[k]? = some o
theorem sim_trans {B : Nat} {X Y Z : World} (h : Sim B X Y) (k : Sim B Y Z) : Sim B X Z :=
 ⟨k.os.trans h.os, k.tape.trans h.tape, k.output.trans h.output, Nat.le_trans h.size k.size, fun i hi => (k.low i hi).trans (h.low i hi), fun i o hi ho => k.cells i o (h.cells i o hi ho) ho⟩
theorem sim_mono {B B' : Nat} {X Y : World} (h : Sim B X Y) (hB : B' ≤ B) : Sim B' X Y :=
 ⟨h.os, h.tape, h.output, h.size, fun i hi => h.low i (Nat.lt_of_lt_of_le hi hB), h.cells⟩
theorem sim_below {B : Nat} {X Y : World} (h : Sim B X Y) : Below B X Y := ⟨h.os, h.tape, h.output, h.size, h.low⟩
theorem sim_alloc {B : Nat} (W : World) (hB : B ≤ W.heap.size) (o : Obj) : Sim B W (W.alloc o) :=
 ⟨rfl, rfl, rfl, by simp, fun k hk => Below.heap_alloc _ _ _ (by omega), fun k o' hk _ => (Below.heap_alloc W o k (Array.getElem?_eq_some_iff.1 hk).1).trans hk⟩
theorem sim_putObj {B : Nat} {W : World} {l : Nat} {o : Obj} (o' : Obj) (hB : B ≤ l) (hl : W.heap[l]? = some o) (ho : o.isCells = false) : Sim B W (W.putObj l o') :=
 ⟨rfl, rfl, rfl, by simp, fun k hk => World.putObj_heap_other (by omega), fun k o'' hk hc => by
  by_cases e : k = l
  ·subst e; rw [hl] at hk; cases hk; rw [ho] at hc; cases hc
  ·exact (World.putObj_heap_other e).trans hk⟩
theorem sim_cell {B : Nat} {W W' : World} (h : Sim B W W') {a : Addr} {v : Value} (hc : W.cell? a = some v) : W'.cell? a = some v := by
 obtain ⟨o, ho, hi⟩ := cells_of_cell hc
 rw [World.cell?_of_block (w := W) ((h.cells _ o ho hi).trans ho.symm)]; exact hc
theorem sim_frozen {B : Nat} {W W' : World} (h : Sim B W W') {a : Addr} {v : Value} (hc : W.cell? a = some v) : W'.frozen? a = W.frozen? a := by
 obtain ⟨o, ho, hi⟩ := cells_of_cell hc
 exact World.frozen?_of_block (w := W) ((h.cells _ o ho hi).trans ho.symm)
def rangePost (I : Nat → World → Prop) (Ix : Code → Nat → World → Prop) (j : Nat) (W : World) : Exit → Act → World → Prop
 | .normal, _, W' => KeepsOthers W W' ∧ I (j + 1) W'
 | .ret, _, W' => KeepsOthers W W' ∧ Ix .ret (j + 1) W'
 | .exit id, _, W' => KeepsOthers W W' ∧ Ix (.exit id) (j + 1) W'
 | .goto t, _, W' => KeepsOthers W W' ∧ Ix (.goto t) (j + 1) W'
 | .panic _, _, _ => False
 | .outgrown, _, _ => False
def Iterates (P : Program) (gf : FuncId) (lb : Array Value) (N : Nat) (encs : Nat → Array Value) (I : Nat → World → Prop) : Prop :=
 ∀ (l : Nat) (J Jx : Nat → World → Prop) (W : World), (∀ j W1, J j W1 → I j W1) →
  (∀ j W1, J j W1 → j < N → YieldAt Fence.wide 0 P l (encs j) W1 fun e W' => (e = .returned (.bool true) ∧ J (j + 1) W') ∨ (e = .returned (.bool false) ∧ Jx (j + 1) W')) →
  J 0 W → CallsIn Fence.wide 0 P gf (#[.func (.yield l) #[] #[]] ++ lb) W fun e W' => (∃ v, e = .returned v) ∧ (J N W' ∨ (∃ j, j ≤ N ∧ Jx j W'))
theorem wp_range {P : Program} {g : Operand} {ps : Array Tmp} {assign body : Code} {Q : Exit → Act → World → Prop} {a : Act} {w : World}
  {gf : FuncId} {lb : Array Value} (hg : a.eval g = .func (.func gf) #[] lb) (eg : Goes P gf)
  {N : Nat} {encs : Nat → Array Value} (hps : ∀ j, (encs j).size = ps.size)
  (I : Nat → World → Prop) (Ix : Code → Nat → World → Prop) (hseq : Iterates P gf lb N encs I)
  (hI : ∀ j W W', I j W → Sim w.heap.size W W' → I j W') (hIx : ∀ c j W W', Ix c j W → Sim w.heap.size W W' → Ix c j W')
  (h0 : I 0 w) (a₁ : Nat → Act)
  (hassign : ∀ (l j : Nat) (W : World) (K : Act → World → Prop), K (a₁ j) W →
   assign.wpIn (Fence.wide.inRound l) 0 P (Exit.then K (fun _ _ _ => False)) { tmps := (ps.zip (encs j)).foldl (fun t (p, v) => t.setIfInBounds p v) a.tmps, defers := [] } W)
  (hbody : ∀ (l j : Nat) (W : World), I j W → j < N → body.wpIn (Fence.wide.inRound l) 0 P (rangePost I Ix j W) (a₁ j) W)
  (hdone : ∀ (D : Nat) (W : World), w.heap.size ≤ D → I N W → W.heap[D]? = some (.deferred (some [])) → KeepsOthers w W → Q .normal { a with defers := { target := .collected D, args := #[] } :: a.defers } W)
  (hstop : ∀ (D : Nat) (c : Code) (j : Nat) (W : World), w.heap.size ≤ D → j ≤ N → Ix c j W → W.heap[D]? = some (.deferred (some [])) → KeepsOthers w W → c.wp P Q { a with defers := { target := .collected D, args := #[] } :: a.defers } W) :
  (Code.rangeFunc g ps assign body).wp P Q a w := by
 refine (wpIn_wide (n := 0)).1 (wpIn_rangeFunc ?_)
 intro fn hfn
 obtain ⟨rec, hrec⟩ : ∃ rec : LoopState → Option Code → Loop, rec = fun st pe => { state := st, pending := pe, fn, tmps := a.tmps, params := ps, assign, body, defers := w.heap.size } := ⟨_, rfl⟩
 obtain ⟨W1, hW1⟩ : ∃ W1, (w.alloc (.deferred (some []))).alloc (.loop (rec .ready none)) = W1 := ⟨_, rfl⟩
 have hL1 : W1.heap[w.heap.size + 1]? = some (.loop (rec .ready none)) := by
  rw [← hW1]; have := World.alloc_heap_new (w.alloc (.deferred (some []))) (.loop (rec .ready none)); rwa [World.size_alloc] at this
 have hK1 : W1.heap[w.heap.size]? = some (.deferred (some [])) := by
  rw [← hW1]; exact (Below.heap_alloc _ _ _ (by simp)).trans (World.alloc_heap_new w _)
 have hS1 : Sim w.heap.size w W1 := by
  rw [← hW1]; exact sim_trans (sim_alloc _ (Nat.le_refl _) _) (sim_alloc _ (by simp) _)
 have hO1 : KeepsOthers w W1 := by rw [← hW1]; exact (KeepsOthers.alloc _ _).trans (KeepsOthers.alloc _ _)
 refine ⟨w.heap.size + 1, [{ target := .collected w.heap.size, args := #[] }], W1, { target := .fn (.func gf) lb, args := #[.func (.yield (w.heap.size + 1)) #[] #[]] }, W1, gf,
  #[.func (.yield (w.heap.size + 1)) #[] #[]] ++ lb, W1, ?_, ?_, fun _ _ => trivial, ?_, fun h => by simp [Fence.wide] at h, ?_⟩
 ·rw [← hW1, hrec]; exact run_enterLoop_outer _ _ _ _ _
 ·simp only [resolve, hg]
  simp [go_sem]
 ·have eg' : ∀ (args : Array Value) (w : World), (callFunc gf args).run P w = .ok (.enter gf args) w := eg
  simp [invoke, go_sem, eg']
 ·have others : ∀ {A B : World} (_ : KeepsOthers w A) (_ : ∀ k o, k < w.heap.size → A.heap[k]? = some o → o.isCells = false → B.heap[k]? = some o) (_ : A.heap.size ≤ B.heap.size), KeepsOthers w B :=
   fun {A B} h1 h2 h3 => ⟨Nat.le_trans h1.size h3, fun k o hk ho => h2 k o (Array.getElem?_eq_some_iff.1 hk).1 (h1.same k o hk ho) ho⟩
  have put : ∀ {A : World} {l : Nat} (o' : Obj), w.heap.size ≤ l → KeepsOthers w A → KeepsOthers w (A.putObj l o') := fun {A l} o' hl h =>
   others h (fun k o hk ho _ => (World.putObj_heap_other (by omega)).trans ho) (by simp)
  refine (hseq (w.heap.size + 1)
   (fun j W => I j W ∧ W.heap[w.heap.size + 1]? = some (.loop (rec .ready none)) ∧ W.heap[w.heap.size]? = some (.deferred (some [])) ∧ KeepsOthers w W)
   (fun j W => ∃ c, Ix c j W ∧ W.heap[w.heap.size + 1]? = some (.loop (rec .done (some c))) ∧ W.heap[w.heap.size]? = some (.deferred (some [])) ∧ KeepsOthers w W)
   W1 (fun j W h => h.1) ?_ ⟨hI _ _ _ h0 hS1, hL1, hK1, hO1⟩).mono ?_
  ·rintro j W ⟨hi, hl, hk, ho⟩ hlen
   have hlt : w.heap.size + 1 < W.heap.size := (Array.getElem?_eq_some_iff.1 hl).1
   have hy := run_yield (P := P) (args := encs j) hl (by rw [hrec]; exact hps j)
   rw [hrec] at hy
   refine ⟨fn, _, assign, body, hy, roundIn_of_wpIn hfn (hassign _ j W _ ⟨_, run_beginRound hl (by rw [hrec]), ?_⟩)⟩
   have hl2 : (W.putObj (w.heap.size + 1) (.loop { rec .ready none with state := .busy })).heap[w.heap.size + 1]? = some (.loop { rec .ready none with state := .busy }) := World.putObj_heap_same hlt
   have hk2 : (W.putObj (w.heap.size + 1) (.loop { rec .ready none with state := .busy })).heap[w.heap.size]? = some (.deferred (some [])) := (World.putObj_heap_other (by omega)).trans hk
   have ho2 := put (.loop { rec .ready none with state := .busy }) (by omega) ho (l := w.heap.size + 1)
   refine wpIn_mono (hbody _ j _ (hI _ _ _ hi (sim_putObj _ (by omega) hl rfl)) hlen) ?_
   have fin : ∀ (jump : Option Code) (W3 : World), KeepsOthers (W.putObj (w.heap.size + 1) (.loop { rec .ready none with state := .busy })) W3 →
     (Instr.endRound (w.heap.size + 1) jump).run P W3 = .ok (.bool jump.isNone) (W3.putObj (w.heap.size + 1) (.loop (rec (if jump.isNone then .ready else .done) jump))) ∧
     Sim w.heap.size W3 (W3.putObj (w.heap.size + 1) (.loop (rec (if jump.isNone then .ready else .done) jump))) ∧
     (W3.putObj (w.heap.size + 1) (.loop (rec (if jump.isNone then .ready else .done) jump))).heap[w.heap.size + 1]? = some (.loop (rec (if jump.isNone then .ready else .done) jump)) ∧
     (W3.putObj (w.heap.size + 1) (.loop (rec (if jump.isNone then .ready else .done) jump))).heap[w.heap.size]? = some (.deferred (some [])) ∧
     KeepsOthers w (W3.putObj (w.heap.size + 1) (.loop (rec (if jump.isNone then .ready else .done) jump))) := fun jump W3 hk3 => by
    have hl3 := hk3.same _ _ hl2 rfl
    have := run_endRound (P := P) jump hl3
    rw [hrec] at this ⊢
    exact ⟨this, sim_putObj _ (by omega) hl3 rfl, World.putObj_heap_same (Array.getElem?_eq_some_iff.1 hl3).1, (World.putObj_heap_other (by omega)).trans (hk3.same _ _ hk2 rfl),
     put _ (by omega) (ho2.trans hk3)⟩
   rintro e a3 W3 hp
   cases e with
   | normal =>
    obtain ⟨hk3, hi3⟩ := hp
    obtain ⟨hr, hs, hl4, hk4, ho4⟩ := fin none W3 hk3
    exact ⟨_, _, hr, .inl ⟨rfl, hI _ _ _ hi3 hs, hl4, hk4, ho4⟩⟩
   | ret =>
    obtain ⟨hk3, hi3⟩ := hp
    obtain ⟨hr, hs, hl4, hk4, ho4⟩ := fin (some .ret) W3 hk3
    exact ⟨_, _, hr, .inr ⟨rfl, .ret, hIx _ _ _ _ hi3 hs, hl4, hk4, ho4⟩⟩
   | exit id =>
    obtain ⟨hk3, hi3⟩ := hp
    obtain ⟨hr, hs, hl4, hk4, ho4⟩ := fin (some (.exit id)) W3 hk3
    exact ⟨_, _, hr, .inr ⟨rfl, .exit id, hIx _ _ _ _ hi3 hs, hl4, hk4, ho4⟩⟩
   | goto t =>
    obtain ⟨hk3, hi3⟩ := hp
    obtain ⟨hr, hs, hl4, hk4, ho4⟩ := fin (some (.goto t)) W3 hk3
    exact ⟨_, _, hr, .inr ⟨rfl, .goto t, hIx _ _ _ _ hi3 hs, hl4, hk4, ho4⟩⟩
   | panic ch => exact hp.elim
   | outgrown => exact hp.elim
  ·rintro e W2 ⟨⟨v, rfl⟩, (⟨hi, hl, hk, ho⟩ | ⟨j, hj, c, hi, hl, hk, ho⟩)⟩
   ·exact ⟨none, _, by have := run_endLoop (P := P) hl (by rw [hrec]; simp); rw [hrec] at this; exact this,
     hdone _ _ (Nat.le_refl _) (hI _ _ _ hi (sim_putObj _ (by omega) hl rfl)) ((World.putObj_heap_other (by omega)).trans hk) (put _ (by omega) ho)⟩
   ·exact ⟨some c, _, by have := run_endLoop (P := P) hl (by rw [hrec]; simp); rw [hrec] at this; exact this,
     wpIn_wide.2 (hstop _ c j _ (Nat.le_refl _) hj (hIx _ _ _ _ hi (sim_putObj _ (by omega) hl rfl)) ((World.putObj_heap_other (by omega)).trans hk) (put _ (by omega) ho))⟩
theorem wp_range2 {P : Program} {g : Operand} {ps : Array Tmp} {assign body : Code} {Q : Exit → Act → World → Prop} {a : Act} {w : World}
  {gf : FuncId} {lb : Array Value} (hg : a.eval g = .func (.func gf) #[] lb) (eg : Goes P gf)
  {N : Nat} {encs : Nat → Array Value} (hps : ∀ j, (encs j).size = ps.size)
  (I : Nat → World → Prop) (Ix : Code → Nat → World → Prop) (hseq : Iterates P gf lb N encs I)
  (hI : ∀ j W W', I j W → Sim w.heap.size W W' → I j W') (hIx : ∀ c j W W', Ix c j W → Sim w.heap.size W W' → Ix c j W')
  (h0 : I 0 w) (f : Nat → Array Value → Array Value)
  (hassign : ∀ (l j : Nat) (W : World) (K : Act → World → Prop), K { tmps := f j a.tmps, defers := [] } W →
   assign.wpIn (Fence.wide.inRound l) 0 P (Exit.then K (fun _ _ _ => False)) { tmps := (ps.zip (encs j)).foldl (fun t (p, v) => t.setIfInBounds p v) a.tmps, defers := [] } W)
  (hbody : ∀ (l j : Nat) (W : World), I j W → j < N → body.wpIn (Fence.wide.inRound l) 0 P (rangePost I Ix j W) { tmps := f j a.tmps, defers := [] } W)
  (hdone : ∀ (D : Nat) (W : World), w.heap.size ≤ D → I N W → W.heap[D]? = some (.deferred (some [])) → KeepsOthers w W → Q .normal { a with defers := { target := .collected D, args := #[] } :: a.defers } W)
  (hstop : ∀ (D : Nat) (c : Code) (j : Nat) (W : World), w.heap.size ≤ D → j ≤ N → Ix c j W → W.heap[D]? = some (.deferred (some [])) → KeepsOthers w W → c.wp P Q { a with defers := { target := .collected D, args := #[] } :: a.defers } W) :
  (Code.rangeFunc g ps assign body).wp P Q a w :=
 wp_range hg eg hps I Ix hseq hI hIx h0 (fun j => { tmps := f j a.tmps, defers := [] }) hassign hbody hdone hstop
theorem calls_of_range {P : Program} {f : FuncId} {fn : Func} {c : Code} {args : Array Value} {w : World} {R : Ending → World → Prop}
  (hf : P.funcs[f]? = some fn) (hb : fn.body = some c)
  (h : c.wp P (bodyPostM Fence.wide 0 P fn R) { tmps := args ++ Array.replicate (fn.ntmps - args.size) undef, defers := [] } w) : Calls P f args w R :=
 (callsIn_wide (n := 0)).1 (callsIn_of_wp_marks hf hb trivial (wpIn_wide.2 h) rfl)
def Marks (B : Nat) (W : World) : List Deferred → Prop
 | [] => True
 | d :: ds => (∃ D, d = { target := .collected D, args := #[] } ∧ B ≤ D ∧ W.heap[D]? = some (.deferred (some [])) ∧ ∀ d' ∈ ds, d'.target ≠ .collected D) ∧ Marks B W ds
theorem marks_later {B : Nat} {W W' : World} : ∀ {ds : List Deferred}, Marks B W ds → KeepsOthers W W' → Marks B W' ds
 | [], _, _ => trivial
 | _ :: _, ⟨⟨D, h1, hB, h2, h3⟩, hr⟩, hk => ⟨⟨D, h1, hB, hk.same _ _ h2 rfl, h3⟩, marks_later hr hk⟩
theorem marks_put {B : Nat} {W : World} {D : Nat} {o : Obj} : ∀ {ds : List Deferred}, Marks B W ds → (∀ d' ∈ ds, d'.target ≠ .collected D) → Marks B (W.putObj D o) ds
 | [], _, _ => trivial
 | d :: ds, ⟨⟨D', h1, hB, h2, h3⟩, hr⟩, hn => ⟨⟨D', h1, hB, (World.putObj_heap_other (fun e => hn d (by simp) (by rw [h1, e]))).trans h2, h3⟩, marks_put hr (fun d' hd => hn d' (by simp [hd]))⟩
theorem leaves_marks {P : Program} {fn : Func} {tmps : Array Value} {R : Ending → World → Prop} {B : Nat} {v : Value} (hres : ∀ w, (results fn tmps).run P w = .ok v w) (hR : ∀ w w', R (.returned v) w → Sim B w w' → R (.returned v) w') :
  ∀ (ds : List Deferred) (w : World), Marks B w ds → R (.returned v) w → LeavesInM Fence.wide 0 P fn tmps R ds .returning w
 | [], w, _, h => ⟨v, hres w, h⟩
 | d :: ds, w, ⟨⟨D, h1, hB, h2, h3⟩, hr⟩, h => by
  subst h1
  refine ⟨by simp, .inl ⟨D, _, rfl, run_takeDeferred h2, ?_⟩⟩
  exact leaves_marks hres hR ds _ (marks_put hr h3) (hR _ _ h (sim_putObj _ hB h2 rfl))
end Go.Proofs.YtggnipkfliompaaGreatDoor
