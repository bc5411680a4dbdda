/- A range over a function of this program whose iterator lays new memory between two rounds. slices.AppendSeq, slices.Collect, of an iterator that hands on rows. Package dealing: the rows of shares, collected. Linear algebra over the field: kernels, spans, ranks. Ranks: how many columns do not lead a vector of a kernel. The reference of package linear: Turned. The reference of package linear: Rank and Separate. The reference of package linear: Separate. -/
import Derived.Test.YtjjoadmkpbmhpaaMRange
import Derived.Test.YtjjoadmkpbmhpaaMDeaH
import Derived.Test.YtjjoadmkpbmhpaaMJac
import Derived.Test.YtjjoadmkpbmhpaaMDeaC
namespace Go.Proofs.Ytjjoadmkpbmhpaa
open Go.RowKit

theorem sim_of_below {B : Nat} {W W' : World} (hb : Below W.heap.size W W') (hB : B ≤ W.heap.size) : Sim B W W' :=
  ⟨hb.os, hb.tape, hb.output, hb.size, fun k hk => hb.block k (Nat.lt_of_lt_of_le hk hB), fun k _ hk _ => (hb.block k (Array.getElem?_eq_some_iff.1 hk).1).trans hk⟩
theorem keeps_of_below {W W' : World} (hb : Below W.heap.size W W') : KeepsOthers W W' :=
  ⟨hb.size, fun k _ hk _ => (hb.block k (Array.getElem?_eq_some_iff.1 hk).1).trans hk⟩

/-- The iterator gf, with what it captured: it hands on N elements, one after the other, as long as the body goes on; it may lay new blocks, and call what does so. -/
def Iterates4 (P : Program) (gf : FuncId) (lb : Array Value) (N : Nat) (encs : Nat → Array Value) (I : Nat → World → Prop) : Prop :=
  ∀ (l : Nat) (J Jx : Nat → World → Prop) (W : World), (∀ j W1, J j W1 → I j W1) → (∀ j W1 W2, J j W1 → Below W1.heap.size W1 W2 → J j W2) →
    (∀ j W1, J j W1 → j < N → YieldAt Fence.wide 0 P l (encs j) W1 fun e W' => (e = .returned (.bool true) ∧ J (j + 1) W') ∨ (e = .returned (.bool false) ∧ Jx (j + 1) W')) →
    J 0 W → CallsIn Fence.wide 0 P gf (#[.func (.yield l) #[] #[]] ++ lb) W fun e W' => (∃ v, e = .returned v) ∧ (J N W' ∨ (∃ j, j ≤ N ∧ Jx j W'))

theorem wp_range4 {P : Program} {g : Operand} {ps : Array Tmp} {assign body : Code} {Q : Exit → Act → World → Prop} {a : Act} {w : World}
    {gf : FuncId} {lb : Array Value} (hg : a.eval g = .func (.func gf) #[] lb) (eg : Goes P gf)
    {N : Nat} {encs : Nat → Array Value} (hps : ∀ j, (encs j).size = ps.size)
    (I : Nat → World → Prop) (Ix : Code → Nat → World → Prop) (hseq : Iterates4 P gf lb N encs I)
    (hI : ∀ j W W', I j W → Sim w.heap.size W W' → I j W') (hIx : ∀ c j W W', Ix c j W → Sim w.heap.size W W' → Ix c j W')
    (h0 : I 0 w) (a₁ : Nat → Act)
    (hassign : ∀ (l j : Nat) (W : World) (K : Act → World → Prop), K (a₁ j) W →
      assign.wpIn (Fence.wide.inRound l) 0 P (Exit.then K (fun _ _ _ => False)) { tmps := (ps.zip (encs j)).foldl (fun t (p, v) => t.setIfInBounds p v) a.tmps, defers := [] } W)
    (hbody : ∀ (l j : Nat) (W : World), I j W → j < N → body.wpIn (Fence.wide.inRound l) 0 P (rangePost I Ix j W) (a₁ j) W)
    (hdone : ∀ (D : Nat) (W : World), w.heap.size ≤ D → I N W → W.heap[D]? = some (.deferred (some [])) → KeepsOthers w W → Q .normal { a with defers := { target := .collected D, args := #[] } :: a.defers } W)
    (hstop : ∀ (D : Nat) (c : Code) (j : Nat) (W : World), w.heap.size ≤ D → j ≤ N → Ix c j W → W.heap[D]? = some (.deferred (some [])) → KeepsOthers w W → c.wp P Q { a with defers := { target := .collected D, args := #[] } :: a.defers } W) :
    (Code.rangeFunc g ps assign body).wp P Q a w := by
  refine (wpIn_wide (n := 0)).1 (wpIn_rangeFunc ?_)
  intro fn hfn
  obtain ⟨rec, hrec⟩ : ∃ rec : LoopState → Option Code → Loop, rec = fun st pe => { state := st, pending := pe, fn, tmps := a.tmps, params := ps, assign, body, defers := w.heap.size } := ⟨_, rfl⟩
  obtain ⟨W1, hW1⟩ : ∃ W1, (w.alloc (.deferred (some []))).alloc (.loop (rec .ready none)) = W1 := ⟨_, rfl⟩
  have hL1 : W1.heap[w.heap.size + 1]? = some (.loop (rec .ready none)) := by
    rw [← hW1]; have := World.alloc_heap_new (w.alloc (.deferred (some []))) (.loop (rec .ready none)); rwa [World.size_alloc] at this
  have hK1 : W1.heap[w.heap.size]? = some (.deferred (some [])) := by
    rw [← hW1]; exact (Below.heap_alloc _ _ _ (by simp)).trans (World.alloc_heap_new w _)
  have hS1 : Sim w.heap.size w W1 := by
    rw [← hW1]; exact sim_trans (sim_alloc _ (Nat.le_refl _) _) (sim_alloc _ (by simp) _)
  have hO1 : KeepsOthers w W1 := by rw [← hW1]; exact (KeepsOthers.alloc _ _).trans (KeepsOthers.alloc _ _)
  refine ⟨w.heap.size + 1, [{ target := .collected w.heap.size, args := #[] }], W1, { target := .fn (.func gf) lb, args := #[.func (.yield (w.heap.size + 1)) #[] #[]] }, W1, gf,
    #[.func (.yield (w.heap.size + 1)) #[] #[]] ++ lb, W1, ?_, ?_, fun _ _ => trivial, ?_, fun h => by simp [Fence.wide] at h, ?_⟩
  · rw [← hW1, hrec]; exact run_enterLoop_outer _ _ _ _ _
  · simp only [resolve, hg]
    simp [go_sem]
  · have eg' : ∀ (args : Array Value) (w : World), (callFunc gf args).run P w = .ok (.enter gf args) w := eg
    simp [invoke, go_sem, eg']
  · have others : ∀ {A B : World} (_ : KeepsOthers w A) (_ : ∀ k o, k < w.heap.size → A.heap[k]? = some o → o.isCells = false → B.heap[k]? = some o) (_ : A.heap.size ≤ B.heap.size), KeepsOthers w B :=
      fun {A B} h1 h2 h3 => ⟨Nat.le_trans h1.size h3, fun k o hk ho => h2 k o (Array.getElem?_eq_some_iff.1 hk).1 (h1.same k o hk ho) ho⟩
    have put : ∀ {A : World} {l : Nat} (o' : Obj), w.heap.size ≤ l → KeepsOthers w A → KeepsOthers w (A.putObj l o') := fun {A l} o' hl h =>
      others h (fun k o hk ho _ => (World.putObj_heap_other (by omega)).trans ho) (by simp)
    refine (hseq (w.heap.size + 1)
      (fun j W => I j W ∧ W.heap[w.heap.size + 1]? = some (.loop (rec .ready none)) ∧ W.heap[w.heap.size]? = some (.deferred (some [])) ∧ KeepsOthers w W)
      (fun j W => ∃ c, Ix c j W ∧ W.heap[w.heap.size + 1]? = some (.loop (rec .done (some c))) ∧ W.heap[w.heap.size]? = some (.deferred (some [])) ∧ KeepsOthers w W)
      W1 (fun j W h => h.1) (fun j W W2 ⟨hi, hl, hk, ho⟩ hb => ⟨hI _ _ _ hi (sim_of_below hb (Nat.le_of_lt (Nat.lt_of_succ_lt (Array.getElem?_eq_some_iff.1 hl).1))), (hb.block _ (Array.getElem?_eq_some_iff.1 hl).1).trans hl, (hb.block _ (Array.getElem?_eq_some_iff.1 hk).1).trans hk, ho.trans (keeps_of_below hb)⟩) ?_ ⟨hI _ _ _ h0 hS1, hL1, hK1, hO1⟩).mono ?_
    · rintro j W ⟨hi, hl, hk, ho⟩ hlen
      have hlt : w.heap.size + 1 < W.heap.size := (Array.getElem?_eq_some_iff.1 hl).1
      have hy := run_yield (P := P) (args := encs j) hl (by rw [hrec]; exact hps j)
      rw [hrec] at hy
      refine ⟨fn, _, assign, body, hy, roundIn_of_wpIn hfn (hassign _ j W _ ⟨_, run_beginRound hl (by rw [hrec]), ?_⟩)⟩
      have hl2 : (W.putObj (w.heap.size + 1) (.loop { rec .ready none with state := .busy })).heap[w.heap.size + 1]? = some (.loop { rec .ready none with state := .busy }) := World.putObj_heap_same hlt
      have hk2 : (W.putObj (w.heap.size + 1) (.loop { rec .ready none with state := .busy })).heap[w.heap.size]? = some (.deferred (some [])) := (World.putObj_heap_other (by omega)).trans hk
      have ho2 := put (.loop { rec .ready none with state := .busy }) (by omega) ho (l := w.heap.size + 1)
      refine wpIn_mono (hbody _ j _ (hI _ _ _ hi (sim_putObj _ (by omega) hl rfl)) hlen) ?_
      have fin : ∀ (jump : Option Code) (W3 : World), KeepsOthers (W.putObj (w.heap.size + 1) (.loop { rec .ready none with state := .busy })) W3 →
          (Instr.endRound (w.heap.size + 1) jump).run P W3 = .ok (.bool jump.isNone) (W3.putObj (w.heap.size + 1) (.loop (rec (if jump.isNone then .ready else .done) jump))) ∧
          Sim w.heap.size W3 (W3.putObj (w.heap.size + 1) (.loop (rec (if jump.isNone then .ready else .done) jump))) ∧
          (W3.putObj (w.heap.size + 1) (.loop (rec (if jump.isNone then .ready else .done) jump))).heap[w.heap.size + 1]? = some (.loop (rec (if jump.isNone then .ready else .done) jump)) ∧
          (W3.putObj (w.heap.size + 1) (.loop (rec (if jump.isNone then .ready else .done) jump))).heap[w.heap.size]? = some (.deferred (some [])) ∧
          KeepsOthers w (W3.putObj (w.heap.size + 1) (.loop (rec (if jump.isNone then .ready else .done) jump))) := fun jump W3 hk3 => by
        have hl3 := hk3.same _ _ hl2 rfl
        have := run_endRound (P := P) jump hl3
        rw [hrec] at this ⊢
        exact ⟨this, sim_putObj _ (by omega) hl3 rfl, World.putObj_heap_same (Array.getElem?_eq_some_iff.1 hl3).1, (World.putObj_heap_other (by omega)).trans (hk3.same _ _ hk2 rfl),
          put _ (by omega) (ho2.trans hk3)⟩
      rintro e a3 W3 hp
      cases e with
      | normal =>
        obtain ⟨hk3, hi3⟩ := hp
        obtain ⟨hr, hs, hl4, hk4, ho4⟩ := fin none W3 hk3
        exact ⟨_, _, hr, .inl ⟨rfl, hI _ _ _ hi3 hs, hl4, hk4, ho4⟩⟩
      | ret =>
        obtain ⟨hk3, hi3⟩ := hp
        obtain ⟨hr, hs, hl4, hk4, ho4⟩ := fin (some .ret) W3 hk3
        exact ⟨_, _, hr, .inr ⟨rfl, .ret, hIx _ _ _ _ hi3 hs, hl4, hk4, ho4⟩⟩
      | exit id =>
        obtain ⟨hk3, hi3⟩ := hp
        obtain ⟨hr, hs, hl4, hk4, ho4⟩ := fin (some (.exit id)) W3 hk3
        exact ⟨_, _, hr, .inr ⟨rfl, .exit id, hIx _ _ _ _ hi3 hs, hl4, hk4, ho4⟩⟩
      | goto t =>
        obtain ⟨hk3, hi3⟩ := hp
        obtain ⟨hr, hs, hl4, hk4, ho4⟩ := fin (some (.goto t)) W3 hk3
        exact ⟨_, _, hr, .inr ⟨rfl, .goto t, hIx _ _ _ _ hi3 hs, hl4, hk4, ho4⟩⟩
      | panic ch => exact hp.elim
      | outgrown => exact hp.elim
    · rintro e W2 ⟨⟨v, rfl⟩, (⟨hi, hl, hk, ho⟩ | ⟨j, hj, c, hi, hl, hk, ho⟩)⟩
      · exact ⟨none, _, by have := run_endLoop (P := P) hl (by rw [hrec]; simp); rw [hrec] at this; exact this,
          hdone _ _ (Nat.le_refl _) (hI _ _ _ hi (sim_putObj _ (by omega) hl rfl)) ((World.putObj_heap_other (by omega)).trans hk) (put _ (by omega) ho)⟩
      · exact ⟨some c, _, by have := run_endLoop (P := P) hl (by rw [hrec]; simp); rw [hrec] at this; exact this,
          wpIn_wide.2 (hstop _ c j _ (Nat.le_refl _) hj (hIx _ _ _ _ hi (sim_putObj _ (by omega) hl rfl)) ((World.putObj_heap_other (by omega)).trans hk) (put _ (by omega) ho))⟩

/-- The same, where the round's frame is told by what the assignment does to the frame. -/
theorem wp_range42 {P : Program} {g : Operand} {ps : Array Tmp} {assign body : Code} {Q : Exit → Act → World → Prop} {a : Act} {w : World}
    {gf : FuncId} {lb : Array Value} (hg : a.eval g = .func (.func gf) #[] lb) (eg : Goes P gf)
    {N : Nat} {encs : Nat → Array Value} (hps : ∀ j, (encs j).size = ps.size)
    (I : Nat → World → Prop) (Ix : Code → Nat → World → Prop) (hseq : Iterates4 P gf lb N encs I)
    (hI : ∀ j W W', I j W → Sim w.heap.size W W' → I j W') (hIx : ∀ c j W W', Ix c j W → Sim w.heap.size W W' → Ix c j W')
    (h0 : I 0 w) (f : Nat → Array Value → Array Value)
    (hassign : ∀ (l j : Nat) (W : World) (K : Act → World → Prop), K { tmps := f j a.tmps, defers := [] } W →
      assign.wpIn (Fence.wide.inRound l) 0 P (Exit.then K (fun _ _ _ => False)) { tmps := (ps.zip (encs j)).foldl (fun t (p, v) => t.setIfInBounds p v) a.tmps, defers := [] } W)
    (hbody : ∀ (l j : Nat) (W : World), I j W → j < N → body.wpIn (Fence.wide.inRound l) 0 P (rangePost I Ix j W) { tmps := f j a.tmps, defers := [] } W)
    (hdone : ∀ (D : Nat) (W : World), w.heap.size ≤ D → I N W → W.heap[D]? = some (.deferred (some [])) → KeepsOthers w W → Q .normal { a with defers := { target := .collected D, args := #[] } :: a.defers } W)
    (hstop : ∀ (D : Nat) (c : Code) (j : Nat) (W : World), w.heap.size ≤ D → j ≤ N → Ix c j W → W.heap[D]? = some (.deferred (some [])) → KeepsOthers w W → c.wp P Q { a with defers := { target := .collected D, args := #[] } :: a.defers } W) :
    (Code.rangeFunc g ps assign body).wp P Q a w :=
  wp_range4 hg eg hps I Ix hseq hI hIx h0 (fun j => { tmps := f j a.tmps, defers := [] }) hassign hbody hdone hstop


end Go.Proofs.Ytjjoadmkpbmhpaa

namespace Go.Proofs.Ytjjoadmkpbmhpaa
open Go.RowKit FP

attribute [local go_sem] Oper.semAt_some

theorem keeps_grown {W W' : World} {base size n : Nat} {e : TypeId} {v : Value} {xs : List Value} (h : W.ownsRow base e size v n xs) (hg : W.grownBy W' v.ownBlock) : KeepsOthers W W' :=
  ⟨hg.size, fun k o hk ho => (hg.block k (Array.getElem?_eq_some_iff.1 hk).1 (by
    rcases h.2 with ⟨rfl, -⟩ | ⟨g, cap, cur, rfl, -, hg2, -⟩
    · intro e; cases e
    · intro e
      have e2 : k = g := by injection e
      subst e2
      rw [hg2] at hk; cases hk; cases ho)).trans hk⟩
theorem own_sim {B : Nat} {W W' : World} {base size n : Nat} {e : TypeId} {v : Value} {xs : List Value} (h : W.ownsRow base e size v n xs) (hs : Sim B W W') : W'.ownsRow base e size v n xs := by
  obtain ⟨h1, h2⟩ := h
  refine ⟨h1, ?_⟩
  rcases h2 with h2 | ⟨g, cap, cur, a, b, c, d⟩
  · exact .inl h2
  · exact .inr ⟨g, cap, cur, a, b, hs.cells _ _ c rfl, d⟩

set_option maxRecDepth 100000 in
theorem infoRows : (Try.prog.info? 23).map (fun i => (i.zero, i.size, i.bytes)) = some (some (.slice none 0 0), 1, 24) := by kernel_rfl

end Go.Proofs.Ytjjoadmkpbmhpaa

namespace Go.Proofs.Ytjjoadmkpbmhpaa
open Go.RowKit FP

attribute [local go_sem] Oper.semAt_some

/-- The values of rows. -/
theorem rows_vals {w : World} {v : Value} {rows : List (List Int)} (h : Rows2 w v rows) : ∃ a cap, ∃ g : Nat → Value, v = .slice a rows.length cap ∧ (∀ j, ∃ x n c, g j = .slice x n c) ∧
    ∀ k (hk : k < rows.length), ∃ b off, a = some ⟨b, off, none⟩ ∧ w.cell? ⟨b, off + k, none⟩ = some (g k) ∧ Ints w (g k) rows[k] := by
  obtain ⟨a, cap, rfl, -, -, hk⟩ := h
  have hex : ∀ k : Nat, ∃ r : Value, (∃ x n c, r = .slice x n c) ∧ ∀ hk : k < rows.length, ∃ b off, a = some ⟨b, off, none⟩ ∧ w.cell? ⟨b, off + k, none⟩ = some r ∧ Ints w r rows[k] := fun k => by
    by_cases hlt : k < rows.length
    · obtain ⟨b, off, r, h1, h2, h3⟩ := hk k hlt
      obtain ⟨x, c, e, -⟩ := id h3
      exact ⟨r, ⟨x, _, c, e⟩, fun _ => ⟨b, off, h1, h2, h3⟩⟩
    · exact ⟨.slice none 0 0, ⟨_, _, _, rfl⟩, fun h => absurd h hlt⟩
  exact ⟨a, cap, fun k => Classical.choose (hex k), rfl, fun j => (Classical.choose_spec (hex j)).1, fun k hlt => (Classical.choose_spec (hex k)).2 hlt⟩

/-- Rows that lie in a row of the call's own. -/
theorem Rows2.own {w : World} {base n : Nat} {v : Value} {vals : List Value} {rows : List (List Int)} (h : w.ownsRow base 23 1 v n vals) (hl : vals.length = rows.length) (hm : rows.length ≤ 17592186044416) (hk : ∀ k (h1 : k < rows.length) (h2 : k < vals.length), Ints w vals[k] rows[k]) : Rows2 w v rows := by
  obtain ⟨hn, h⟩ := h
  rw [hl, Nat.mul_one] at hn
  rcases h with ⟨rfl, h0⟩ | ⟨g, cap, cur, rfl, -, hg, hnc, -, hcs, hcur⟩
  · have : rows = [] := List.length_eq_zero_iff.1 (by omega)
    subst this
    exact Rows2.nil _ _ _
  · subst hn
    refine ⟨some ⟨g, 0, none⟩, cap, rfl, hnc, hm, fun k hlt => ⟨g, 0, vals[k]'(by omega), rfl, ?_, hk k hlt (by omega)⟩⟩
    rw [Nat.zero_add]
    have e : cur.toList[k]? = some (vals[k]'(by omega)) := by
      have e2 : (cur.toList.take (rows.length * 1))[k]? = some (vals[k]'(by omega)) := by rw [hcur, List.getElem?_eq_getElem (by omega)]
      rwa [List.getElem?_take, if_pos (by omega)] at e2
    exact row_cell hg (by rw [← Array.getElem?_toList]; exact e)

end Go.Proofs.Ytjjoadmkpbmhpaa

namespace Go.Proofs.Ytjjoadmkpbmhpaa

abbrev FMat := Nat → Nat → Fq

/-- The product of two lists. -/
def dt (m : Nat) (u v : Nat → Fq) : Fq := sm m (fun j => u j * v j)
def Ker (n m : Nat) (X : FMat) (v : Nat → Fq) : Prop := ∀ i, i < n → dt m (X i) v = 0
def Span (n m : Nat) (X : FMat) (t : Nat → Fq) : Prop := ∃ y : Nat → Fq, ∀ j, j < m → t j = sm n (fun i => y i * X i j)
theorem dt_congr {m : Nat} {u u' v v' : Nat → Fq} (h : ∀ j, j < m → u j = u' j) (h' : ∀ j, j < m → v j = v' j) : dt m u v = dt m u' v' :=
  sm_congr fun j hj => by rw [h j hj, h' j hj]
theorem dt_add (m : Nat) (u a b : Nat → Fq) : dt m u (fun j => a j + b j) = dt m u a + dt m u b := by
  unfold dt; rw [← sm_add]; exact sm_congr fun j _ => by grind
theorem dt_mul (m : Nat) (u a : Nat → Fq) (s : Fq) : dt m u (fun j => s * a j) = s * dt m u a := by
  unfold dt; rw [← sm_mul]; exact sm_congr fun j _ => by grind
theorem dt_comm (m : Nat) (u v : Nat → Fq) : dt m u v = dt m v u := sm_congr fun _ _ => Fin.mul_comm _ _
theorem dt_add_l (m : Nat) (u a b : Nat → Fq) : dt m (fun j => a j + b j) u = dt m a u + dt m b u := by
  rw [dt_comm, dt_add, dt_comm m u a, dt_comm m u b]
theorem dt_mul_l (m : Nat) (u a : Nat → Fq) (s : Fq) : dt m (fun j => s * a j) u = s * dt m a u := by
  rw [dt_comm, dt_mul, dt_comm]
theorem span_congr {n m : Nat} {X : FMat} {t t' : Nat → Fq} (h : Span n m X t) (e : ∀ j, j < m → t' j = t j) : Span n m X t' :=
  let ⟨y, hy⟩ := h; ⟨y, fun j hj => by rw [e j hj, hy j hj]⟩
theorem span_add {n m : Nat} {X : FMat} {t u : Nat → Fq} (h : Span n m X t) (k : Span n m X u) : Span n m X (fun j => t j + u j) :=
  let ⟨y, hy⟩ := h; let ⟨z, hz⟩ := k
  ⟨fun i => y i + z i, fun j hj => by
    show t j + u j = _
    rw [hy j hj, hz j hj, ← sm_add]; exact sm_congr fun i _ => by grind⟩
theorem span_mul {n m : Nat} {X : FMat} {t : Nat → Fq} (s : Fq) (h : Span n m X t) : Span n m X (fun j => s * t j) :=
  let ⟨y, hy⟩ := h
  ⟨fun i => s * y i, fun j hj => by
    show s * t j = _
    rw [hy j hj, ← sm_mul]; exact sm_congr fun i _ => by grind⟩
theorem span_row {n m : Nat} {X : FMat} {i : Nat} (hi : i < n) : Span n m X (X i) :=
  ⟨fun k => if k = i then 1 else 0, fun j _ => by
    rw [sm_one hi (fun k _ e => by show (if k = i then (1 : Fq) else 0) * X k j = 0; rw [if_neg e]; grind)]
    show _ = (if i = i then (1 : Fq) else 0) * X i j
    rw [if_pos rfl]; grind⟩
/-! One step of a reduction. -/

/-- The state of a reduction of X0 after the first c columns: the rows X, and the pivots' columns p below r. -/
structure Red (n m : Nat) (X0 X : FMat) (r : Nat) (p : Nat → Nat) (c : Nat) : Prop where
  rn : r ≤ n
  ker : ∀ v, Ker n m X v ↔ Ker n m X0 v
  span : ∀ i, i < n → Span n m X0 (X i)
  pc : ∀ k, k < r → p k < c
  mono : ∀ k l, k < l → l < r → p k < p l
  one : ∀ k, k < r → X k (p k) = 1
  zero : ∀ k i, k < r → i < n → i ≠ k → X i (p k) = 0
  low : ∀ i j, r ≤ i → i < n → j < c → X i j = 0
  left : ∀ k j, k < r → j < p k → X k j = 0

theorem red_start (n m : Nat) (X : FMat) (p : Nat → Nat) : Red n m X X 0 p 0 :=
  ⟨Nat.zero_le _, fun _ => Iff.rfl, fun _ hi => span_row hi, fun _ h => by omega, fun _ _ _ h => by omega, fun _ h => by omega, fun _ _ h => by omega, fun _ _ _ _ h => by omega, fun _ _ h => by omega⟩

theorem red_none {n m : Nat} {X0 X : FMat} {r : Nat} {p : Nat → Nat} {c : Nat} (h : Red n m X0 X r p c) (h0 : ∀ i, r ≤ i → i < n → X i c = 0) : Red n m X0 X r p (c + 1) :=
  { h with
    pc := fun k hk => Nat.lt_succ_of_lt (h.pc k hk)
    low := fun i j h1 h2 h3 => by
      by_cases e : j = c
      · rw [e]; exact h0 i h1 h2
      · exact h.low i j h1 h2 (by omega) }

/-- The rows behind a step at the row k, by s, the inverse of its element. -/
def stepF (X : FMat) (r c k : Nat) (s : Fq) : FMat := fun i j =>
  let X' : FMat := fun i j => if i = r then X k j else if i = k then X r j else X i j
  if i = r then X k j * s else X' i j - X' i c * (X k j * s)

theorem stepF_r (X : FMat) (r c k : Nat) (s : Fq) (j : Nat) : stepF X r c k s r j = X k j * s := by unfold stepF; rw [if_pos rfl]
theorem stepF_k (X : FMat) (r c k : Nat) (s : Fq) (j : Nat) (h : k ≠ r) : stepF X r c k s k j = X r j - X r c * (X k j * s) := by
  unfold stepF; simp only [if_neg h, if_true]
theorem stepF_o (X : FMat) (r c k : Nat) (s : Fq) (i j : Nat) (h : i ≠ r) (h' : i ≠ k) : stepF X r c k s i j = X i j - X i c * (X k j * s) := by
  unfold stepF; simp only [if_neg h, if_neg h']

theorem red_step {n m : Nat} {X0 X : FMat} {r : Nat} {p : Nat → Nat} {c k : Nat} {s : Fq} (h : Red n m X0 X r p c) (hrk : r ≤ k) (hk : k < n) (hs : s * X k c = 1) (hp : p r = c) :
    Red n m X0 (stepF X r c k s) (r + 1) p (c + 1) := by
  have hrn : r < n := by omega
  have hkc : X k c * s = 1 := by rw [Fin.mul_comm]; exact hs
  refine ⟨by omega, fun v => Iff.trans ?_ (h.ker v), ?_, ?_, ?_, ?_, ?_, ?_, ?_⟩
  · have row : dt m (stepF X r c k s r) v = s * dt m (X k) v := by
      rw [dt_congr (u' := fun j => s * X k j) (fun j _ => by rw [stepF_r]; exact Fin.mul_comm _ _) (fun _ _ => rfl), dt_mul_l]
    have rowk : k ≠ r → dt m (stepF X r c k s k) v = dt m (X r) v + (- X r c) * (s * dt m (X k) v) := fun hne => by
      rw [dt_congr (u' := fun j => X r j + (- X r c) * (s * X k j)) (fun j _ => by rw [stepF_k _ _ _ _ _ _ hne]; grind) (fun _ _ => rfl), dt_add_l, dt_mul_l, dt_mul_l]
    have rowo : ∀ i, i ≠ r → i ≠ k → dt m (stepF X r c k s i) v = dt m (X i) v + (- X i c) * (s * dt m (X k) v) := fun i h1 h2 => by
      rw [dt_congr (u' := fun j => X i j + (- X i c) * (s * X k j)) (fun j _ => by rw [stepF_o _ _ _ _ _ _ _ h1 h2]; grind) (fun _ _ => rfl), dt_add_l, dt_mul_l, dt_mul_l]
    constructor
    · intro hv
      have h1 := hv r hrn
      rw [row] at h1
      have hk0 : dt m (X k) v = 0 := by
        have : X k c * (s * dt m (X k) v) = 0 := by rw [h1]; grind
        grind
      intro i hi
      by_cases e1 : i = k
      · rw [e1]; exact hk0
      · by_cases e2 : i = r
        · rw [e2]
          have := hv k hk
          rw [rowk (fun e => e1 (by rw [e2, e])), hk0] at this; grind
        · have := hv i hi
          rw [rowo i e2 e1, hk0] at this; grind
    · intro hv i hi
      by_cases e2 : i = r
      · rw [e2, row, hv k hk]; grind
      · by_cases e1 : i = k
        · rw [e1, rowk (fun e => e2 (by rw [e1, e])), hv k hk, hv r hrn]; grind
        · rw [rowo i e2 e1, hv k hk, hv i hi]; grind
  · intro i hi
    have hkS : Span n m X0 (fun j => s * X k j) := span_mul s (h.span k hk)
    by_cases e2 : i = r
    · exact span_congr hkS fun j _ => by rw [e2, stepF_r]; exact Fin.mul_comm _ _
    · by_cases e1 : i = k
      · exact span_congr (span_add (h.span r hrn) (span_mul (- X r c) hkS)) fun j _ => by rw [e1, stepF_k _ _ _ _ _ _ (fun e => e2 (by rw [e1, e]))]; grind
      · exact span_congr (span_add (h.span i hi) (span_mul (- X i c) hkS)) fun j _ => by rw [stepF_o _ _ _ _ _ _ _ e2 e1]; grind
  · intro l hl
    by_cases e : l = r
    · rw [e, hp]; omega
    · have := h.pc l (by omega); omega
  · intro l l' h1 h2
    by_cases e : l' = r
    · rw [e, hp]; exact h.pc l (by omega)
    · exact h.mono l l' h1 (by omega)
  · intro l hl
    by_cases e : l = r
    · rw [e, hp, stepF_r]; exact hkc
    · have hpl := h.pc l (by omega)
      rw [stepF_o _ _ _ _ _ _ _ e (by omega), h.one l (by omega), h.low k _ hrk hk hpl]; grind
  · intro l i hl hi hne
    by_cases e : l = r
    · rw [e, hp]
      by_cases e1 : i = k
      · rw [e1, stepF_k _ _ _ _ _ _ (fun e' => hne (by rw [e1, e', e])), hkc]; grind
      · rw [stepF_o _ _ _ _ _ _ _ (fun e' => hne (by rw [e', e])) e1, hkc]; grind
    · have hpl := h.pc l (by omega)
      by_cases e2 : i = r
      · rw [e2, stepF_r, h.low k _ hrk hk hpl]; grind
      · by_cases e1 : i = k
        · rw [e1, stepF_k _ _ _ _ _ _ (fun e => e2 (by rw [e1, e])), h.low k _ hrk hk hpl, h.low r _ (Nat.le_refl _) hrn hpl]; grind
        · rw [stepF_o _ _ _ _ _ _ _ e2 e1, h.low k _ hrk hk hpl, h.zero l i (by omega) hi hne]; grind
  · intro i j h1 h2 h3
    have e2 : i ≠ r := by omega
    by_cases ej : j = c
    · rw [ej]
      by_cases e1 : i = k
      · rw [e1, stepF_k _ _ _ _ _ _ (by omega), hkc]; grind
      · rw [stepF_o _ _ _ _ _ _ _ e2 e1, hkc]; grind
    · have hj : j < c := by omega
      by_cases e1 : i = k
      · rw [e1, stepF_k _ _ _ _ _ _ (by omega), h.low k _ hrk hk hj, h.low r _ (Nat.le_refl _) hrn hj]; grind
      · rw [stepF_o _ _ _ _ _ _ _ e2 e1, h.low k _ hrk hk hj, h.low i _ (by omega) h2 hj]; grind
  · intro l j hl hj
    by_cases e : l = r
    · subst e
      rw [stepF_r, h.low k j hrk hk (by omega)]; grind
    · have hpl := h.pc l (by omega)
      rw [stepF_o _ _ _ _ _ _ _ e (by omega), h.left l j (by omega) hj, h.low k j hrk hk (by omega)]; grind

/-! What a reduction says. -/

/-- A sum over the pivots alone. -/
theorem sm_pivots {m r : Nat} {p : Nat → Nat} {f : Nat → Fq} (hp : ∀ k, k < r → p k < m) (hmono : ∀ k l, k < l → l < r → p k < p l) (h0 : ∀ j, j < m → (∀ k, k < r → p k ≠ j) → f j = 0) :
    sm m f = sm r (fun k => f (p k)) := by
  induction r generalizing f with
  | zero => exact sm_zero fun j hj => h0 j hj (fun k hk => by omega)
  | succ r ih =>
    have hne : ∀ k, k < r → p k ≠ p r := fun k hk => Nat.ne_of_lt (hmono k r hk (by omega))
    have e1 : sm m f = sm m (fun j => if j = p r then 0 else f j) + sm m (fun j => if j = p r then f j else 0) := by
      rw [← sm_add]; refine sm_congr fun j _ => ?_
      by_cases e : j = p r
      · rw [if_pos e, if_pos e]; grind
      · rw [if_neg e, if_neg e]; grind
    rw [e1, ih (f := fun j => if j = p r then 0 else f j) (fun k hk => hp k (by omega)) (fun k l h1 h2 => hmono k l h1 (by omega)) (fun j hj hk => by
      by_cases e : j = p r
      · show (if j = p r then 0 else f j) = 0
        rw [if_pos e]
      · show (if j = p r then 0 else f j) = 0
        rw [if_neg e]
        exact h0 j hj (fun k hk' => by
          by_cases ek : k = r
          · rw [ek]; exact fun e' => e e'.symm
          · exact hk k (by omega))), sm_one (k := p r) (hp r (by omega)) (fun j _ e => by show (if j = p r then f j else 0) = 0; rw [if_neg e])]
    show _ = sm r _ + f (p r)
    congr 1
    · exact sm_congr fun k hk => by show (if p k = p r then 0 else f (p k)) = f (p k); rw [if_neg (hne k hk)]
    · show (if p r = p r then f (p r) else 0) = _
      rw [if_pos rfl]

end Go.Proofs.Ytjjoadmkpbmhpaa

namespace Go.Proofs.Ytjjoadmkpbmhpaa

/-- How many numbers below m meet a test. -/
def cntB (b : Nat → Bool) : Nat → Nat
  | 0 => 0
  | m + 1 => cntB b m + (if b m = true then 1 else 0)
theorem cntB_congr {b b' : Nat → Bool} {m : Nat} (h : ∀ c, c < m → b c = b' c) : cntB b m = cntB b' m := by
  induction m with
  | zero => rfl
  | succ m ih => rw [cntB, cntB, ih (fun c hc => h c (by omega)), h m (by omega)]
/-- A test that tells a property. -/
def Tells (b : Nat → Bool) (P : Nat → Prop) : Prop := ∀ c, b c = true ↔ P c
theorem Tells.congr {b b' : Nat → Bool} {P : Nat → Prop} {m : Nat} (h : Tells b P) {P' : Nat → Prop} (h' : Tells b' P') (e : ∀ c, c < m → (P c ↔ P' c)) : cntB b m = cntB b' m :=
  cntB_congr fun c hc => by
    rw [Bool.eq_iff_iff, h c, h' c]; exact e c hc

/-- A least number with a property. -/
theorem least {P : Nat → Prop} {c : Nat} (h : P c) : ∃ c0, P c0 ∧ ∀ k, k < c0 → ¬ P k := by
  induction c using Nat.strongRecOn with
  | _ c ih =>
    by_cases hk : ∃ k, k < c ∧ P k
    · obtain ⟨k, hk1, hk2⟩ := hk
      exact ih k hk1 hk2
    · exact ⟨c, h, fun k hk1 hk2 => hk ⟨k, hk1, hk2⟩⟩

end Go.Proofs.Ytjjoadmkpbmhpaa

namespace Go.Proofs.Ytjjoadmkpbmhpaa
open Go.RowKit

theorem owns_other {W W' : World} {B e z : Nat} {v : Value} {k : Nat} {xs : List Value} {r : Option Nat} (h : W.ownsRow B e z v k xs) (hg : W.grownBy W' r) (hr : ∀ g, v.ownBlock = some g → r ≠ some g) : W'.ownsRow B e z v k xs := by
  obtain ⟨h1, h2 | ⟨g, cap, cur, rfl, hB, hh, hrest⟩⟩ := h
  · exact ⟨h1, .inl h2⟩
  · exact ⟨h1, .inr ⟨g, cap, cur, rfl, hB, (hg.block g (Array.getElem?_eq_some_iff.1 hh).1 (fun e => hr g rfl e.symm)).trans hh, hrest⟩⟩

/-- Two rows of different types lie in different blocks. -/
theorem owns_types {W : World} {B B' e e' z z' : Nat} {v v' : Value} {k k' : Nat} {xs xs' : List Value} (h : W.ownsRow B e z v k xs) (h' : W.ownsRow B' e' z' v' k' xs') (hne : e ≠ e') : ∀ g, v.ownBlock = some g → v'.ownBlock ≠ some g := by
  obtain ⟨-, ⟨rfl, -⟩ | ⟨g, cap, cur, rfl, hB, hh, hrest⟩⟩ := h
  · intro g e1; cases e1
  · obtain ⟨-, ⟨rfl, -⟩ | ⟨g', cap', cur', rfl, hB', hh', hrest'⟩⟩ := h'
    · intro g e1 e2; cases e2
    · intro q e1 e2
      have e1' : some g = some q := e1
      have e2' : some g' = some q := e2
      injection e1' with e3
      injection e2' with e4
      subst e3; subst e4
      rw [hh] at hh'
      injection hh' with e5
      injection e5 with e6 e7
      exact hne e7

theorem owns_setCell_other {w : World} {base : Nat} {e : TypeId} {size : Nat} {v : Value} {n : Nat} {xs : List Value} (h : w.ownsRow base e size v n xs) {b o : Nat} (ha : ∀ g, v.ownBlock = some g → b ≠ g) (u : Value) : (w.setCell ⟨b, o, none⟩ u).ownsRow base e size v n xs := by
  obtain ⟨h1, h2 | ⟨g, cap, cur, rfl, hB, hh, hrest⟩⟩ := h
  · exact ⟨h1, .inl h2⟩
  · refine ⟨h1, .inr ⟨g, cap, cur, rfl, hB, ?_, hrest⟩⟩
    rw [Below.heap_setCell _ _ _ _ (fun e => ha g rfl e.symm)]; exact hh

/-- Rows of the call's own, and the slice of their headers. -/
structure TurnS (S k : Nat) (hs : Nat → Value) (ls : Nat → List Int) (ov : Value) (w W : World) : Prop where
  out : W.ownsRow S 23 1 ov k ((List.range k).map hs)
  row : ∀ i, i < k → W.ownsRow S 3 1 (hs i) (ls i).length ((ls i).map (Value.int .i64))
  sep : ∀ i j, i < k → j < k → i ≠ j → ∀ g, (hs i).ownBlock = some g → (hs j).ownBlock ≠ some g
  low : Below S w W
  top : S ≤ W.heap.size

/-- The row of a column. -/
def colOf (rows : List (List Int)) (k : Nat) : List Int := rows.map fun r => nth r k

theorem TurnS.below {S k : Nat} {hs : Nat → Value} {ls : Nat → List Int} {ov : Value} {w W W' : World} (h : TurnS S k hs ls ov w W) (hb : Below W.heap.size W W') : TurnS S k hs ls ov w W' :=
  ⟨owns_below h.out hb, fun i hi => owns_below (h.row i hi) hb, h.sep, h.low.trans (hb.mono h.top), Nat.le_trans h.top hb.size⟩

/-- Another row, made later. -/
theorem TurnS.more {S k H : Nat} {hs : Nat → Value} {ls : Nat → List Int} {ov ov' c : Value} {l : List Int} {w W W' : World} (h : TurnS S k hs ls ov w W) (hc : W.ownsRow H 3 1 c l.length (l.map (Value.int .i64))) (hH : ∀ i, i < k → ∀ g, (hs i).ownBlock = some g → g < H) (hSH : S ≤ H)
    (ho : W'.ownsRow S 23 1 ov' (k + 1) ((List.range k).map hs ++ [c])) (hg : W.grownBy W' ov.ownBlock) : TurnS S (k + 1) (fun i => if i = k then c else hs i) (fun i => if i = k then l else ls i) ov' w W' := by
  have ne : ∀ {v : Value} {B n : Nat} {xs : List Value}, W.ownsRow B 3 1 v n xs → ∀ g, v.ownBlock = some g → ov.ownBlock ≠ some g := fun hv g e => owns_types hv h.out (by decide) g e
  refine ⟨?_, fun i hi => ?_, fun i j hi hj hne g e1 e2 => ?_, h.low.grown hg h.top (fun g e => (h.out.lt g e).1), Nat.le_trans h.top hg.size⟩
  · rw [List.range_succ, List.map_append, List.map_cons, List.map_nil]
    have e : (List.range k).map (fun i => if i = k then c else hs i) = (List.range k).map hs := List.map_congr_left fun i hi => by
      rw [if_neg]; have := List.mem_range.1 hi; omega
    rw [e, if_pos rfl]; exact ho
  · show W'.ownsRow S 3 1 (if i = k then c else hs i) (if i = k then l else ls i).length ((if i = k then l else ls i).map (Value.int .i64))
    by_cases e : i = k
    · rw [if_pos e, if_pos e]; exact owns_mono (owns_other hc hg (ne hc)) hSH
    · rw [if_neg e, if_neg e]; exact owns_other (h.row i (by omega)) hg (ne (h.row i (by omega)))
  · have e1' : (if i = k then c else hs i).ownBlock = some g := e1
    have e2' : (if j = k then c else hs j).ownBlock = some g := e2
    by_cases ei : i = k
    · rw [if_pos ei] at e1'
      rw [if_neg (by omega)] at e2'
      have := hH j (by omega) g e2'
      have := (hc.lt g e1').1
      omega
    · rw [if_neg ei] at e1'
      by_cases ej : j = k
      · rw [if_pos ej] at e2'
        have := hH i (by omega) g e1'
        have := (hc.lt g e2').1
        omega
      · rw [if_neg ej] at e2'
        exact h.sep i j (by omega) (by omega) hne g e1' e2'

end Go.Proofs.Ytjjoadmkpbmhpaa

namespace Go.Proofs.Ytjjoadmkpbmhpaa
open Go.RowKit

end Go.Proofs.Ytjjoadmkpbmhpaa

namespace Go.Proofs.Ytjjoadmkpbmhpaa
open Go.RowKit

/-- The pivots go up. -/
def Sorted (l : List Nat) : Prop := ∀ i j (hi : i < l.length) (hj : j < l.length), i < j → l[i] < l[j]
theorem sorted_snoc {l : List Nat} {c : Nat} (h : Sorted l) (hc : ∀ p ∈ l, p < c) : Sorted (l ++ [c]) := by
  intro i j hi hj hij
  rw [List.length_append, List.length_singleton] at hi hj
  by_cases ej : j = l.length
  · subst ej
    rw [List.getElem_append_left (by omega), List.getElem_append_right (Nat.le_refl _)]
    simpa using hc _ (List.getElem_mem (by omega : i < l.length))
  · rw [List.getElem_append_left (by omega), List.getElem_append_left (by omega)]
    exact h i j (by omega) (by omega) hij
theorem stepR_lt {n c : Nat} {s : Mat × List Nat} (h : (∀ p ∈ s.2, p < c) ∧ Sorted s.2) : (∀ p ∈ (stepR n s c).2, p < c + 1) ∧ Sorted (stepR n s c).2 := by
  unfold stepR
  split
  · refine ⟨fun p hp => ?_, sorted_snoc h.2 h.1⟩
    rcases List.mem_append.1 hp with h1 | h1
    · exact Nat.lt_succ_of_lt (h.1 p h1)
    · rw [List.mem_singleton.1 h1]; omega
  · exact ⟨fun p hp => Nat.lt_succ_of_lt (h.1 p hp), h.2⟩
theorem redR_lt (n : Nat) (x : Mat) : ∀ c, (∀ p ∈ (redR n x c).2, p < c) ∧ Sorted (redR n x c).2
  | 0 => ⟨by simp [redR], fun i j hi => by simp [redR] at hi⟩
  | c + 1 => by rw [redR_succ]; exact stepR_lt (redR_lt n x c)

/-- The next pivot tells whether a column is one. -/
structure Next (piv : List Nat) (c k : Nat) : Prop where
  le : k ≤ piv.length
  lo : ∀ i (h : i < piv.length), i < k → piv[i] < c
  up : ∀ i (h : i < piv.length), k ≤ i → c ≤ piv[i]
theorem Next.zero (piv : List Nat) : Next piv 0 0 := ⟨Nat.zero_le _, fun _ _ h => absurd h (Nat.not_lt_zero _), fun _ _ _ => Nat.zero_le _⟩
theorem Next.no {piv : List Nat} {c k : Nat} (h : Next piv c k) (hs : Sorted piv) (e : ∀ hk : k < piv.length, piv[k] ≠ c) : Next piv (c + 1) k ∧ c ∉ piv := by
  have key : ∀ i (hi : i < piv.length), k ≤ i → c < piv[i] := fun i hi hik => by
    by_cases e1 : i = k
    · subst e1; have := h.up i hi hik; have := e hi; omega
    · have := h.up k (by omega) (Nat.le_refl _); have := hs k i (by omega) hi (by omega); omega
  refine ⟨⟨h.le, fun i hi hik => by have := h.lo i hi hik; omega, fun i hi hik => by have := key i hi hik; omega⟩, fun hm => ?_⟩
  obtain ⟨i, hi, rfl⟩ := List.mem_iff_getElem.1 hm
  by_cases hik : i < k
  · have := h.lo i hi hik; omega
  · have := key i hi (by omega); omega

end Go.Proofs.Ytjjoadmkpbmhpaa
