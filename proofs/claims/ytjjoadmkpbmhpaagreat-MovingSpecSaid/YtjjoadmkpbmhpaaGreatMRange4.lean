/- A range over a function of this program whose iterator lays new memory between two rounds. slices.AppendSeq, slices.Collect, of an iterator that hands on rows. Package dealing: the rows of shares, collected. -/
import Derived.Test.YtjjoadmkpbmhpaaGreatMRange
import Derived.Test.YtjjoadmkpbmhpaaGreatMDeaH
namespace Go.Proofs.YtjjoadmkpbmhpaaGreat
open Go.RowKit

theorem sim_of_below {B : Nat} {W W' : World} (hb : Below W.heap.size W W') (hB : B ≤ W.heap.size) : Sim B W W' :=
  ⟨hb.os, hb.tape, hb.output, hb.size, fun k hk => hb.block k (Nat.lt_of_lt_of_le hk hB), fun k _ hk _ => (hb.block k (Array.getElem?_eq_some_iff.1 hk).1).trans hk⟩
theorem keeps_of_below {W W' : World} (hb : Below W.heap.size W W') : KeepsOthers W W' :=
  ⟨hb.size, fun k _ hk _ => (hb.block k (Array.getElem?_eq_some_iff.1 hk).1).trans hk⟩

/-- The iterator gf, with what it captured: it hands on N elements, one after the other, as long as the body goes on; it may lay new blocks, and call what does so. -/
def Iterates4 (P : Program) (gf : FuncId) (lb : Array Value) (N : Nat) (encs : Nat → Array Value) (I : Nat → World → Prop) : Prop :=
  ∀ (l : Nat) (J Jx : Nat → World → Prop) (W : World), (∀ j W1, J j W1 → I j W1) → (∀ j W1 W2, J j W1 → Below W1.heap.size W1 W2 → J j W2) →
    (∀ j W1, J j W1 → j < N → YieldAt Fence.wide 0 P l (encs j) W1 fun e W' => (e = .returned (.bool true) ∧ J (j + 1) W') ∨ (e = .returned (.bool false) ∧ Jx (j + 1) W')) →
    J 0 W → CallsIn Fence.wide 0 P gf (#[.func (.yield l) #[] #[]] ++ lb) W fun e W' => (∃ v, e = .returned v) ∧ (J N W' ∨ (∃ j, j ≤ N ∧ Jx j W'))

theorem wp_range4 {P : Program} {g : Operand} {ps : Array Tmp} {assign body : Code} {Q : Exit → Act → World → Prop} {a : Act} {w : World}
    {gf : FuncId} {lb : Array Value} (hg : a.eval g = .func (.func gf) #[] lb) (eg : Goes P gf)
    {N : Nat} {encs : Nat → Array Value} (hps : ∀ j, (encs j).size = ps.size)
    (I : Nat → World → Prop) (Ix : Code → Nat → World → Prop) (hseq : Iterates4 P gf lb N encs I)
    (hI : ∀ j W W', I j W → Sim w.heap.size W W' → I j W') (hIx : ∀ c j W W', Ix c j W → Sim w.heap.size W W' → Ix c j W')
    (h0 : I 0 w) (a₁ : Nat → Act)
    (hassign : ∀ (l j : Nat) (W : World) (K : Act → World → Prop), K (a₁ j) W →
      assign.wpIn (Fence.wide.inRound l) 0 P (Exit.then K (fun _ _ _ => False)) { tmps := (ps.zip (encs j)).foldl (fun t (p, v) => t.setIfInBounds p v) a.tmps, defers := [] } W)
    (hbody : ∀ (l j : Nat) (W : World), I j W → j < N → body.wpIn (Fence.wide.inRound l) 0 P (rangePost I Ix j W) (a₁ j) W)
    (hdone : ∀ (D : Nat) (W : World), w.heap.size ≤ D → I N W → W.heap[D]? = some (.deferred (some [])) → KeepsOthers w W → Q .normal { a with defers := { target := .collected D, args := #[] } :: a.defers } W)
    (hstop : ∀ (D : Nat) (c : Code) (j : Nat) (W : World), w.heap.size ≤ D → j ≤ N → Ix c j W → W.heap[D]? = some (.deferred (some [])) → KeepsOthers w W → c.wp P Q { a with defers := { target := .collected D, args := #[] } :: a.defers } W) :
    (Code.rangeFunc g ps assign body).wp P Q a w := by
  refine (wpIn_wide (n := 0)).1 (wpIn_rangeFunc ?_)
  intro fn hfn
  obtain ⟨rec, hrec⟩ : ∃ rec : LoopState → Option Code → Loop, rec = fun st pe => { state := st, pending := pe, fn, tmps := a.tmps, params := ps, assign, body, defers := w.heap.size } := ⟨_, rfl⟩
  obtain ⟨W1, hW1⟩ : ∃ W1, (w.alloc (.deferred (some []))).alloc (.loop (rec .ready none)) = W1 := ⟨_, rfl⟩
  have hL1 : W1.heap[w.heap.size + 1]? = some (.loop (rec .ready none)) := by
    rw [← hW1]; have := World.alloc_heap_new (w.alloc (.deferred (some []))) (.loop (rec .ready none)); rwa [World.size_alloc] at this
  have hK1 : W1.heap[w.heap.size]? = some (.deferred (some [])) := by
    rw [← hW1]; exact (Below.heap_alloc _ _ _ (by simp)).trans (World.alloc_heap_new w _)
  have hS1 : Sim w.heap.size w W1 := by
    rw [← hW1]; exact sim_trans (sim_alloc _ (Nat.le_refl _) _) (sim_alloc _ (by simp) _)
  have hO1 : KeepsOthers w W1 := by rw [← hW1]; exact (KeepsOthers.alloc _ _).trans (KeepsOthers.alloc _ _)
  refine ⟨w.heap.size + 1, [{ target := .collected w.heap.size, args := #[] }], W1, { target := .fn (.func gf) lb, args := #[.func (.yield (w.heap.size + 1)) #[] #[]] }, W1, gf,
    #[.func (.yield (w.heap.size + 1)) #[] #[]] ++ lb, W1, ?_, ?_, fun _ _ => trivial, ?_, fun h => by simp [Fence.wide] at h, ?_⟩
  · rw [← hW1, hrec]; exact run_enterLoop_outer _ _ _ _ _
  · simp only [resolve, hg]
    simp [go_sem]
  · have eg' : ∀ (args : Array Value) (w : World), (callFunc gf args).run P w = .ok (.enter gf args) w := eg
    simp [invoke, go_sem, eg']
  · have others : ∀ {A B : World} (_ : KeepsOthers w A) (_ : ∀ k o, k < w.heap.size → A.heap[k]? = some o → o.isCells = false → B.heap[k]? = some o) (_ : A.heap.size ≤ B.heap.size), KeepsOthers w B :=
      fun {A B} h1 h2 h3 => ⟨Nat.le_trans h1.size h3, fun k o hk ho => h2 k o (Array.getElem?_eq_some_iff.1 hk).1 (h1.same k o hk ho) ho⟩
    have put : ∀ {A : World} {l : Nat} (o' : Obj), w.heap.size ≤ l → KeepsOthers w A → KeepsOthers w (A.putObj l o') := fun {A l} o' hl h =>
      others h (fun k o hk ho _ => (World.putObj_heap_other (by omega)).trans ho) (by simp)
    refine (hseq (w.heap.size + 1)
      (fun j W => I j W ∧ W.heap[w.heap.size + 1]? = some (.loop (rec .ready none)) ∧ W.heap[w.heap.size]? = some (.deferred (some [])) ∧ KeepsOthers w W)
      (fun j W => ∃ c, Ix c j W ∧ W.heap[w.heap.size + 1]? = some (.loop (rec .done (some c))) ∧ W.heap[w.heap.size]? = some (.deferred (some [])) ∧ KeepsOthers w W)
      W1 (fun j W h => h.1) (fun j W W2 ⟨hi, hl, hk, ho⟩ hb => ⟨hI _ _ _ hi (sim_of_below hb (Nat.le_of_lt (Nat.lt_of_succ_lt (Array.getElem?_eq_some_iff.1 hl).1))), (hb.block _ (Array.getElem?_eq_some_iff.1 hl).1).trans hl, (hb.block _ (Array.getElem?_eq_some_iff.1 hk).1).trans hk, ho.trans (keeps_of_below hb)⟩) ?_ ⟨hI _ _ _ h0 hS1, hL1, hK1, hO1⟩).mono ?_
    · rintro j W ⟨hi, hl, hk, ho⟩ hlen
      have hlt : w.heap.size + 1 < W.heap.size := (Array.getElem?_eq_some_iff.1 hl).1
      have hy := run_yield (P := P) (args := encs j) hl (by rw [hrec]; exact hps j)
      rw [hrec] at hy
      refine ⟨fn, _, assign, body, hy, roundIn_of_wpIn hfn (hassign _ j W _ ⟨_, run_beginRound hl (by rw [hrec]), ?_⟩)⟩
      have hl2 : (W.putObj (w.heap.size + 1) (.loop { rec .ready none with state := .busy })).heap[w.heap.size + 1]? = some (.loop { rec .ready none with state := .busy }) := World.putObj_heap_same hlt
      have hk2 : (W.putObj (w.heap.size + 1) (.loop { rec .ready none with state := .busy })).heap[w.heap.size]? = some (.deferred (some [])) := (World.putObj_heap_other (by omega)).trans hk
      have ho2 := put (.loop { rec .ready none with state := .busy }) (by omega) ho (l := w.heap.size + 1)
      refine wpIn_mono (hbody _ j _ (hI _ _ _ hi (sim_putObj _ (by omega) hl rfl)) hlen) ?_
      have fin : ∀ (jump : Option Code) (W3 : World), KeepsOthers (W.putObj (w.heap.size + 1) (.loop { rec .ready none with state := .busy })) W3 →
          (Instr.endRound (w.heap.size + 1) jump).run P W3 = .ok (.bool jump.isNone) (W3.putObj (w.heap.size + 1) (.loop (rec (if jump.isNone then .ready else .done) jump))) ∧
          Sim w.heap.size W3 (W3.putObj (w.heap.size + 1) (.loop (rec (if jump.isNone then .ready else .done) jump))) ∧
          (W3.putObj (w.heap.size + 1) (.loop (rec (if jump.isNone then .ready else .done) jump))).heap[w.heap.size + 1]? = some (.loop (rec (if jump.isNone then .ready else .done) jump)) ∧
          (W3.putObj (w.heap.size + 1) (.loop (rec (if jump.isNone then .ready else .done) jump))).heap[w.heap.size]? = some (.deferred (some [])) ∧
          KeepsOthers w (W3.putObj (w.heap.size + 1) (.loop (rec (if jump.isNone then .ready else .done) jump))) := fun jump W3 hk3 => by
        have hl3 := hk3.same _ _ hl2 rfl
        have := run_endRound (P := P) jump hl3
        rw [hrec] at this ⊢
        exact ⟨this, sim_putObj _ (by omega) hl3 rfl, World.putObj_heap_same (Array.getElem?_eq_some_iff.1 hl3).1, (World.putObj_heap_other (by omega)).trans (hk3.same _ _ hk2 rfl),
          put _ (by omega) (ho2.trans hk3)⟩
      rintro e a3 W3 hp
      cases e with
      | normal =>
        obtain ⟨hk3, hi3⟩ := hp
        obtain ⟨hr, hs, hl4, hk4, ho4⟩ := fin none W3 hk3
        exact ⟨_, _, hr, .inl ⟨rfl, hI _ _ _ hi3 hs, hl4, hk4, ho4⟩⟩
      | ret =>
        obtain ⟨hk3, hi3⟩ := hp
        obtain ⟨hr, hs, hl4, hk4, ho4⟩ := fin (some .ret) W3 hk3
        exact ⟨_, _, hr, .inr ⟨rfl, .ret, hIx _ _ _ _ hi3 hs, hl4, hk4, ho4⟩⟩
      | exit id =>
        obtain ⟨hk3, hi3⟩ := hp
        obtain ⟨hr, hs, hl4, hk4, ho4⟩ := fin (some (.exit id)) W3 hk3
        exact ⟨_, _, hr, .inr ⟨rfl, .exit id, hIx _ _ _ _ hi3 hs, hl4, hk4, ho4⟩⟩
      | goto t =>
        obtain ⟨hk3, hi3⟩ := hp
        obtain ⟨hr, hs, hl4, hk4, ho4⟩ := fin (some (.goto t)) W3 hk3
        exact ⟨_, _, hr, .inr ⟨rfl, .goto t, hIx _ _ _ _ hi3 hs, hl4, hk4, ho4⟩⟩
      | panic ch => exact hp.elim
      | outgrown => exact hp.elim
    · rintro e W2 ⟨⟨v, rfl⟩, (⟨hi, hl, hk, ho⟩ | ⟨j, hj, c, hi, hl, hk, ho⟩)⟩
      · exact ⟨none, _, by have := run_endLoop (P := P) hl (by rw [hrec]; simp); rw [hrec] at this; exact this,
          hdone _ _ (Nat.le_refl _) (hI _ _ _ hi (sim_putObj _ (by omega) hl rfl)) ((World.putObj_heap_other (by omega)).trans hk) (put _ (by omega) ho)⟩
      · exact ⟨some c, _, by have := run_endLoop (P := P) hl (by rw [hrec]; simp); rw [hrec] at this; exact this,
          wpIn_wide.2 (hstop _ c j _ (Nat.le_refl _) hj (hIx _ _ _ _ hi (sim_putObj _ (by omega) hl rfl)) ((World.putObj_heap_other (by omega)).trans hk) (put _ (by omega) ho))⟩

/-- The same, where the round's frame is told by what the assignment does to the frame. -/
theorem wp_range42 {P : Program} {g : Operand} {ps : Array Tmp} {assign body : Code} {Q : Exit → Act → World → Prop} {a : Act} {w : World}
    {gf : FuncId} {lb : Array Value} (hg : a.eval g = .func (.func gf) #[] lb) (eg : Goes P gf)
    {N : Nat} {encs : Nat → Array Value} (hps : ∀ j, (encs j).size = ps.size)
    (I : Nat → World → Prop) (Ix : Code → Nat → World → Prop) (hseq : Iterates4 P gf lb N encs I)
    (hI : ∀ j W W', I j W → Sim w.heap.size W W' → I j W') (hIx : ∀ c j W W', Ix c j W → Sim w.heap.size W W' → Ix c j W')
    (h0 : I 0 w) (f : Nat → Array Value → Array Value)
    (hassign : ∀ (l j : Nat) (W : World) (K : Act → World → Prop), K { tmps := f j a.tmps, defers := [] } W →
      assign.wpIn (Fence.wide.inRound l) 0 P (Exit.then K (fun _ _ _ => False)) { tmps := (ps.zip (encs j)).foldl (fun t (p, v) => t.setIfInBounds p v) a.tmps, defers := [] } W)
    (hbody : ∀ (l j : Nat) (W : World), I j W → j < N → body.wpIn (Fence.wide.inRound l) 0 P (rangePost I Ix j W) { tmps := f j a.tmps, defers := [] } W)
    (hdone : ∀ (D : Nat) (W : World), w.heap.size ≤ D → I N W → W.heap[D]? = some (.deferred (some [])) → KeepsOthers w W → Q .normal { a with defers := { target := .collected D, args := #[] } :: a.defers } W)
    (hstop : ∀ (D : Nat) (c : Code) (j : Nat) (W : World), w.heap.size ≤ D → j ≤ N → Ix c j W → W.heap[D]? = some (.deferred (some [])) → KeepsOthers w W → c.wp P Q { a with defers := { target := .collected D, args := #[] } :: a.defers } W) :
    (Code.rangeFunc g ps assign body).wp P Q a w :=
  wp_range4 hg eg hps I Ix hseq hI hIx h0 (fun j => { tmps := f j a.tmps, defers := [] }) hassign hbody hdone hstop


end Go.Proofs.YtjjoadmkpbmhpaaGreat

namespace Go.Proofs.YtjjoadmkpbmhpaaGreat
open Go.RowKit FP

attribute [local go_sem] Oper.semAt_some

theorem keeps_grown {W W' : World} {base size n : Nat} {e : TypeId} {v : Value} {xs : List Value} (h : W.ownsRow base e size v n xs) (hg : W.grownBy W' v.ownBlock) : KeepsOthers W W' :=
  ⟨hg.size, fun k o hk ho => (hg.block k (Array.getElem?_eq_some_iff.1 hk).1 (by
    rcases h.2 with ⟨rfl, -⟩ | ⟨g, cap, cur, rfl, -, hg2, -⟩
    · intro e; cases e
    · intro e
      have e2 : k = g := by injection e
      subst e2
      rw [hg2] at hk; cases hk; cases ho)).trans hk⟩
theorem own_sim {B : Nat} {W W' : World} {base size n : Nat} {e : TypeId} {v : Value} {xs : List Value} (h : W.ownsRow base e size v n xs) (hs : Sim B W W') : W'.ownsRow base e size v n xs := by
  obtain ⟨h1, h2⟩ := h
  refine ⟨h1, ?_⟩
  rcases h2 with h2 | ⟨g, cap, cur, a, b, c, d⟩
  · exact .inl h2
  · exact .inr ⟨g, cap, cur, a, b, hs.cells _ _ c rfl, d⟩

/-- Behind j rows. -/
structure ColI (w : World) (g : Nat → Value) (j : Nat) (W : World) : Prop where
  be : Below w.heap.size w W
  sz : w.heap.size < W.heap.size
  row : ∃ L, W.heap[w.heap.size]? = some (.cells #[L] 22 (0, 0)) ∧ W.ownsRow (w.heap.size + 1) 23 1 L j ((List.range j).map g)
theorem colI_sim {w : World} {g : Nat → Value} {j B : Nat} {W W' : World} (h : ColI w g j W) (hB : w.heap.size ≤ B) (hs : Sim B W W') : ColI w g j W' := by
  obtain ⟨hb, hz, L, hr, ho⟩ := h
  exact ⟨hb.trans ((sim_below hs).mono hB), Nat.lt_of_lt_of_le hz hs.size, L, hs.cells _ _ hr rfl, own_sim ho hs⟩

set_option maxRecDepth 100000 in
theorem infoRows : (Tryz.prog.info? 23).map (fun i => (i.zero, i.size, i.bytes)) = some (some (.slice none 0 0), 1, 24) := by kernel_rfl

theorem own_pos {W : World} {base n : Nat} {e : TypeId} {v : Value} {xs : List Value} (h : W.ownsRow base e 1 v n xs) (hn : 0 < n) : ∃ g cap, v = .slice (some ⟨g, 0, none⟩) n cap ∧ n ≤ cap := by
  rcases h.2 with ⟨-, h0⟩ | ⟨g, cap, cur, rfl, -, -, hc, -⟩
  · have := h.1; rw [h0] at this; simp at this; omega
  · exact ⟨g, cap, rfl, hc⟩

set_option maxRecDepth 100000 in
theorem app_row_in {F : Fence} {m : Nat} {ops : Array Oper} {rest : List Oper} {o : Oper} {a : Act} {Q : Exit → Act → World → Prop} {W : World} (hgd : o.guard = none) (s x : Operand) (ho : o.op = .call { callee := .builtin .append, args := #[s, x], argTypes := #[22, 22] })
    (base n : Nat) (v : Value) (xs : List Value) (hs : a.eval s = v) (hown : W.ownsRow base 23 1 v n xs) (b c : Nat) (z : Value) (hx : a.eval x = .slice (some ⟨b, 0, none⟩) 1 c) (hcell : W.cell? ⟨b, 0, none⟩ = some z) (hz1 : z.oneCell' = true) (hn : n ≤ 1000000) (hbase : base ≤ W.heap.size)
    (h : ∀ v' w', w'.ownsRow base 23 1 v' (n + 1) (xs ++ [z]) → W.grownBy w' v.ownBlock → wpListIn F m Tryz.prog ops Q rest (a.put o.dst v') w') : wpListIn F m Tryz.prog ops Q (o :: rest) a W := by
  obtain ⟨i0, hi0, hz0, hs0, hb0⟩ := info_parts infoRows
  refine wpListIn_append_own W hgd s x 22 ho base 23 i0 (.slice none 0 0) 1 24 Tryz.underlying22 hi0 hz0 hs0 hb0 rfl (by decide) v n xs hs hown ⟨b, 0, none⟩ 1 c [z] hx rfl ?_ ?_ ?_ ?_ hbase ?_
  · intro j u hu
    cases j with
    | zero => simp at hu; subst hu; rw [add_off]; exact hcell
    | succ j => simp at hu
  · intro u hu; simp at hu; subst hu; exact hz1
  · unfold maxLen; omega
  · omega
  · intro v' w' h1 h2 _; exact h v' w' h1 h2

set_option maxRecDepth 100000 in
set_option maxHeartbeats 4000000 in
theorem appendSeq_any (gf : FuncId) (lb : Array Value) (N : Nat) (g : Nat → Value) (w : World) (hgo : Goes Tryz.prog gf) (hg : ∀ j, ∃ a n c, g j = .slice a n c) (hN : N ≤ 1000000)
    (hseq : ∀ I : Nat → World → Prop, (∀ j W, I j W → Below w.heap.size w W) → Iterates4 Tryz.prog gf lb N (fun j => #[g j]) I) :
    Calls Tryz.prog 131 #[.slice none 0 0, .func (.func gf) #[] lb] w fun e w' => ∃ v, e = .returned v ∧ w'.ownsRow w.heap.size 23 1 v N ((List.range N).map g) ∧ Below w.heap.size w w' := by
  refine calls_of_range Tryz.func131 rfl ?_
  simp only [Tryz.ntmps131, List.size_toArray, List.length_cons, List.length_nil, Nat.reduceAdd, Nat.reduceSub, Array.replicate_succ, Array.replicate_zero, List.push_toArray, List.append_toArray, List.nil_append, List.cons_append]
  go_wp2_with fail
  have h0 : ColI w g 0 (w.alloc (.cells #[.slice none 0 0] 22)) := ⟨below_new _ _ _, by simp, _, World.alloc_heap_new _ _, World.ownsRow_nil _ _ _ _⟩
  refine wp_range42 (gf := gf) (lb := lb) (N := N) (encs := fun j => #[g j]) rfl hgo (fun _ => rfl)
    (fun j => ColI w g j) (fun _ _ _ => False) ?seq ?simI (fun _ _ _ _ h _ => h) h0
    (fun j t => (t.setIfInBounds 7 (g j)).setIfInBounds 5 (g j)) ?assign ?body ?done (fun _ _ _ _ _ _ h => h.elim)
  case seq => exact hseq _ (fun j W h => h.be)
  case simI => exact fun j W W' h hs => colI_sim h (by simp) hs
  case assign =>
    intro l j W K hK
    gi_wp2
    exact hK
  case body =>
    intro l j W hI hlt
    obtain ⟨hb, hz, L, hr, ho⟩ := hI
    obtain ⟨ga, gn, gc, hgj⟩ := hg j
    simp only [List.setIfInBounds_toArray, List.set_cons_succ, List.set_cons_zero]
    rw [hgj]
    have x0 : W.cell? ⟨w.heap.size, 0, none⟩ = some L := row_cell hr rfl
    have hn1 := below_new W #[.slice ga gn gc] 23
    have HO := Lib.hid (own_keep ho hn1)
    have hc1 : (W.alloc (.cells #[.slice ga gn gc] 23)).cell? ⟨W.heap.size, 0, none⟩ = some (.slice ga gn gc) := row_cell (World.alloc_heap_new _ _) rfl
    have HC1 := Lib.hid hc1
    have HR := Lib.hid ((hn1.block _ hz).trans hr)
    have HNE := Lib.hid (own_ne ho (b := w.heap.size) (.inr (by omega)))
    have HGJ := Lib.hid hgj
    have HBE := Lib.hid hb
    have hbs : w.heap.size + 1 ≤ (W.alloc (.cells #[.slice ga gn gc] 23)).heap.size := by simp; omega
    have HBS := Lib.hid hbs
    have hz2 : w.heap.size < (W.alloc (.cells #[.slice ga gn gc] 23)).heap.size := by simp; omega
    have HZ2 := Lib.hid hz2
    clear hn1 ho hc1 hr hgj hb hbs hz2
    gi_wp2_with (refine app_row_in rfl _ _ rfl (w.heap.size + 1) j _ ((List.range j).map g) rfl HO.out W.heap.size 1 _ rfl HC1.out rfl (by omega) HBS.out ?_; intro v8 w8 h8 o8; have hr8 := (o8.block _ HZ2.out (fun e => HNE.out e.symm)).trans HR.out; have y0 : w8.cell? ⟨w.heap.size, 0, none⟩ = some L := row_cell hr8 rfl; have f0 := row_free hr8 0; have HR8 := Lib.hid hr8; have H8 := Lib.hid h8; have O8 := Lib.hid o8; obtain ⟨g8, cap8, hv8, -⟩ := own_pos h8 (Nat.succ_pos _); subst hv8; clear h8 o8 hr8)
    have hb8 := own_below HO.out O8.out HBS.out
    refine ⟨((KeepsOthers.alloc _ _).trans (keeps_grown HO.out O8.out)).trans (KeepsOthers.setCell _ _ _), ⟨?_, ?_, _, row_set HR8.out 0 _, ?_⟩⟩
    · exact ((HBE.out.trans ((below_new _ _ _).mono HBE.out.size)).trans (hb8.mono (Nat.le_succ _))).setCell (Nat.le_refl _) _
    · exact Nat.lt_of_lt_of_le HZ2.out (by simpa [World.setCell] using hb8.size)
    · refine own_keep_set ?_ (Nat.lt_succ_self _) _
      rw [range_snoc, HGJ.out]; exact H8.out
  case done =>
    intro D W hD hI hDW hO
    obtain ⟨hb, hz, L, hr, ho⟩ := hI
    have x0 : W.cell? ⟨w.heap.size, 0, none⟩ = some L := row_cell hr rfl
    go_wp2_with fail
    refine leaves_marks (B := w.heap.size) (v := L) ?_ ?_ _ _ ⟨⟨D, rfl, Nat.le_trans (by simp) hD, hDW, fun _ h => by cases h⟩, trivial⟩ ⟨_, rfl, own_low ho (Nat.le_succ _), hb⟩
    · intro W1
      simp [results, Tryz.results131, go_sem]
    · rintro W1 W2 ⟨v, h1, h2, h3⟩ hs
      exact ⟨v, h1, own_sim h2 hs, h3.trans (sim_below hs)⟩

end Go.Proofs.YtjjoadmkpbmhpaaGreat

namespace Go.Proofs.YtjjoadmkpbmhpaaGreat
open Go.RowKit FP

attribute [local go_sem] Oper.semAt_some

/-- The values of rows. -/
theorem rows_vals {w : World} {v : Value} {rows : List (List Int)} (h : Rows2 w v rows) : ∃ a cap, ∃ g : Nat → Value, v = .slice a rows.length cap ∧ (∀ j, ∃ x n c, g j = .slice x n c) ∧
    ∀ k (hk : k < rows.length), ∃ b off, a = some ⟨b, off, none⟩ ∧ w.cell? ⟨b, off + k, none⟩ = some (g k) ∧ Ints w (g k) rows[k] := by
  obtain ⟨a, cap, rfl, -, -, hk⟩ := h
  have hex : ∀ k : Nat, ∃ r : Value, (∃ x n c, r = .slice x n c) ∧ ∀ hk : k < rows.length, ∃ b off, a = some ⟨b, off, none⟩ ∧ w.cell? ⟨b, off + k, none⟩ = some r ∧ Ints w r rows[k] := fun k => by
    by_cases hlt : k < rows.length
    · obtain ⟨b, off, r, h1, h2, h3⟩ := hk k hlt
      obtain ⟨x, c, e, -⟩ := id h3
      exact ⟨r, ⟨x, _, c, e⟩, fun _ => ⟨b, off, h1, h2, h3⟩⟩
    · exact ⟨.slice none 0 0, ⟨_, _, _, rfl⟩, fun h => absurd h hlt⟩
  exact ⟨a, cap, fun k => Classical.choose (hex k), rfl, fun j => (Classical.choose_spec (hex j)).1, fun k hlt => (Classical.choose_spec (hex k)).2 hlt⟩

/-- Rows that lie in a row of the call's own. -/
theorem Rows2.own {w : World} {base n : Nat} {v : Value} {vals : List Value} {rows : List (List Int)} (h : w.ownsRow base 23 1 v n vals) (hl : vals.length = rows.length) (hm : rows.length ≤ 17592186044416) (hk : ∀ k (h1 : k < rows.length) (h2 : k < vals.length), Ints w vals[k] rows[k]) : Rows2 w v rows := by
  obtain ⟨hn, h⟩ := h
  rw [hl, Nat.mul_one] at hn
  rcases h with ⟨rfl, h0⟩ | ⟨g, cap, cur, rfl, -, hg, hnc, -, hcs, hcur⟩
  · have : rows = [] := List.length_eq_zero_iff.1 (by omega)
    subst this
    exact Rows2.nil _ _ _
  · subst hn
    refine ⟨some ⟨g, 0, none⟩, cap, rfl, hnc, hm, fun k hlt => ⟨g, 0, vals[k]'(by omega), rfl, ?_, hk k hlt (by omega)⟩⟩
    rw [Nat.zero_add]
    have e : cur.toList[k]? = some (vals[k]'(by omega)) := by
      have e2 : (cur.toList.take (rows.length * 1))[k]? = some (vals[k]'(by omega)) := by rw [hcur, List.getElem?_eq_getElem (by omega)]
      rwa [List.getElem?_take, if_pos (by omega)] at e2
    exact row_cell hg (by rw [← Array.getElem?_toList]; exact e)

/-- The rows of shares. -/
def rowsOf (rows : List (List Int)) (l : List (Int × Int)) : List (List Int) := l.map fun p => rows.getD p.1.toNat []

set_option maxRecDepth 100000 in
set_option maxHeartbeats 2000000 in
theorem rows1_iterates (lb pb : Nat) (lv rv : Value) (l : List (Int × Int)) (rows : List (List Int)) (w : World) (a : Option Addr) (cap : Nat) (g : Nat → Value) (hrv : rv = .slice a rows.length cap)
    (hg : ∀ k, k < rows.length → ∃ b off, a = some ⟨b, off, none⟩ ∧ w.cell? ⟨b, off + k, none⟩ = some (g k)) (hL : Shares w lv l) (hin : ∀ p ∈ l, 0 ≤ p.1 ∧ p.1 < (rows.length : Int))
    (hlb : w.cell? ⟨lb, 0, none⟩ = some lv) (hpb : w.cell? ⟨pb, 0, none⟩ = some rv) (I : Nat → World → Prop) (hI : ∀ j W, I j W → Below w.heap.size w W) :
    Iterates4 Tryz.prog 132 #[.pointer (some ⟨lb, 0, none⟩), .pointer (some ⟨pb, 0, none⟩)] l.length (fun j => #[g (l.getD j (0, 0)).1.toNat]) I := by
  subst hrv
  intro ll J Jx W hJ hA hY h0
  obtain ⟨al, cl, rfl, -, hll, hr64, hk⟩ := hL
  refine callsIn_of_wp Tryz.func132 rfl trivial ?_ rfl
  simp only [Tryz.ntmps132, List.size_toArray, List.length_cons, List.length_nil, Nat.reduceAdd, Nat.reduceSub, Array.replicate_succ, Array.replicate_zero, List.push_toArray, List.append_toArray, List.nil_append, List.cons_append]
  have hb0 := hI 0 W (hJ 0 W h0)
  have c0 := below_cell hb0 hlb
  gi_wp2
  gi_loopw [8] (fun i wr => ∃ j : Nat, j ≤ l.length ∧ i = .int .i64 j ∧ J j wr) (fun i _ => l.length - (intOf i).toNat)
  case atStart => exact ⟨0, Nat.zero_le _, rfl, h0⟩
  case round =>
    obtain ⟨j, hj, rfl, hJj⟩ := hrel
    have hb := hI j wr (hJ j wr hJj)
    by_cases hlt : j < l.length
    · obtain ⟨b, off, rfl, q0, q1⟩ := hk j hlt
      obtain ⟨i0, i1⟩ := hin _ (List.getElem_mem hlt)
      obtain ⟨n, hn⟩ : ∃ n : Nat, l[j].1 = n := ⟨l[j].1.toNat, by omega⟩
      have hnl : n < rows.length := by omega
      obtain ⟨b2, off2, rfl, q2⟩ := hg n hnl
      have hgn : g (l.getD j (0, 0)).1.toNat = g n := by rw [getD_at hlt, hn, Int.toNat_natCast]
      have y0 := below_cell hb q0
      have y1 := below_cell hb q1
      rw [hn] at y0
      have hbn := below_new wr #[.int .i64 n, .int .i64 l[j].2] 29
      have z2 := below_cell hbn (below_cell hb q2)
      have zp := below_cell hbn (below_cell hb hpb)
      have zs : (wr.alloc (.cells #[.int .i64 n, .int .i64 l[j].2] 29)).cell? ⟨wr.heap.size, 0, none⟩ = some (.int .i64 n) := row_cell (World.alloc_heap_new _ _) rfl
      have j0 : 0 ≤ (j : Int) := by omega
      have j1 : (j : Int) < (l.length : Int) := by omega
      have n0 : 0 ≤ (n : Int) := by omega
      have n1 : (n : Int) < (rows.length : Int) := by omega
      obtain ⟨fn, tmps, assign, body, hy, hR⟩ := hY j _ (hA j wr _ hJj (below_new wr #[.int .i64 n, .int .i64 l[j].2] 29)) hlt
      simp only [hgn] at hy
      clear hk hg hin q0 q1 q2 hn i0 i1 hbn hr64 hgn
      generalize l[j].2 = v2 at *
      generalize g n = gv at *
      gi_wp2
      refine ⟨rfl, hR.mono ?_⟩
      rintro e W3 (⟨rfl, hJ3⟩ | ⟨rfl, hJx3⟩)
      · gi_wp2
        go_roundw
        case rel => exact ⟨j + 1, by omega, by go_num, hJ3⟩
        case measure => simp [intOf]; omega
      · gi_wp2
        refine bodyPost_ret (results_none rfl _ _ _) rfl ?_
        exact ⟨⟨_, rfl⟩, .inr ⟨j + 1, by omega, hJx3⟩⟩
    · obtain rfl : j = l.length := by omega
      gi_wp2
      go_end0
      exact ⟨⟨_, rfl⟩, .inl hJj⟩

set_option maxRecDepth 100000 in
set_option maxHeartbeats 1000000 in
theorem drows_any (rv ov lv : Value) (w : World) (hr : ∃ a n c, rv = .slice a n c) (ho : ∃ a n c, ov = .slice a n c) (hl : ∃ a n c, lv = .slice a n c) :
    Calls Tryz.prog 104 #[.agg #[rv, ov], lv] w fun e w' =>
      e = .returned (.func (.func 132) #[] #[.pointer (some ⟨w.heap.size + 1, 0, none⟩), .pointer (some ⟨w.heap.size, 0, none⟩)]) ∧ w' = (w.alloc (.cells #[rv, ov] 25)).alloc (.cells #[lv] 32) := by
  obtain ⟨a, n, c, rfl⟩ := hr
  obtain ⟨a2, n2, c2, rfl⟩ := ho
  obtain ⟨a3, n3, c3, rfl⟩ := hl
  have hmf : ∀ (fn : Fn) (first cap : Array Value) (w : World), (Instr.makeFunc fn first cap).run Tryz.prog w = .ok (.func fn first cap) w := fun _ _ _ _ => rfl
  go_enter Tryz.func104, Tryz.ntmps104
  go_wp2_with fail
  go_ret
  exact ⟨rfl, rfl⟩

set_option maxRecDepth 100000 in
set_option maxHeartbeats 1000000 in
theorem collect_any (gf : FuncId) (lb : Array Value) (N : Nat) (g : Nat → Value) (w : World) (hgo : Goes Tryz.prog gf) (hg : ∀ j, ∃ a n c, g j = .slice a n c) (hN : N ≤ 1000000)
    (hseq : ∀ I : Nat → World → Prop, (∀ j W, I j W → Below w.heap.size w W) → Iterates4 Tryz.prog gf lb N (fun j => #[g j]) I) :
    Calls Tryz.prog 103 #[.func (.func gf) #[] lb] w fun e w' => ∃ v, e = .returned v ∧ w'.ownsRow w.heap.size 23 1 v N ((List.range N).map g) ∧ Below w.heap.size w w' := by
  have HC := Lib.hid (appendSeq_any gf lb N g w hgo hg hN hseq)
  clear hseq
  go_enter Tryz.func103, Tryz.ntmps103
  go_wp2_with fail
  refine HC.out.mono ?_
  rintro e w1 ⟨v, rfl, h1, h2⟩
  have H1 := Lib.hid h1
  clear h1
  go_wp2_with fail
  go_ret
  exact ⟨_, rfl, H1.out, h2⟩
set_option maxRecDepth 100000 in
theorem rows1_goes : Goes Tryz.prog 132 := goes_of Tryz.func132 (by kernel_rfl) rfl

set_option maxRecDepth 100000 in
/-- The rows of shares, collected: behind dealing.rows. -/
theorem crows_any (rv ov lv : Value) (rows : List (List Int)) (l : List (Int × Int)) (w W : World) (hW : W = (w.alloc (.cells #[rv, ov] 25)).alloc (.cells #[lv] 32)) (hR : Rows2 w rv rows) (hL : Shares w lv l) (hin : ∀ p ∈ l, 0 ≤ p.1 ∧ p.1 < (rows.length : Int)) (hl : l.length ≤ 1000000) :
    Calls Tryz.prog 103 #[.func (.func 132) #[] #[.pointer (some ⟨w.heap.size + 1, 0, none⟩), .pointer (some ⟨w.heap.size, 0, none⟩)]] W fun e w' => ∃ v, e = .returned v ∧ Rows2 w' v (rowsOf rows l) ∧ Below W.heap.size W w' := by
  have hb1 := below_new w #[rv, ov] 25
  have hb2 := below_new (w.alloc (.cells #[rv, ov] 25)) #[lv] 32
  have hsz : (w.alloc (.cells #[rv, ov] 25)).heap.size = w.heap.size + 1 := by simp
  have hb := hb1.trans (hb2.mono hb1.size)
  have hpb : W.cell? ⟨w.heap.size, 0, none⟩ = some rv := by rw [hW]; exact below_cell hb2 (row_cell (World.alloc_heap_new w _) rfl)
  have hlb : W.cell? ⟨w.heap.size + 1, 0, none⟩ = some lv := by
    have := World.alloc_heap_new (w.alloc (.cells #[rv, ov] 25)) (.cells #[lv] 32)
    rw [hsz] at this; rw [hW]; exact row_cell this rfl
  rw [← hW] at hb
  have hRW := hR.below hb
  have hLW := hL.below hb
  obtain ⟨a, cap, g, hrv, hgs, hgk⟩ := rows_vals hRW
  refine (collect_any 132 _ l.length (fun j => g (l.getD j (0, 0)).1.toNat) W rows1_goes (fun j => hgs _) hl
    (fun I hI => rows1_iterates (w.heap.size + 1) w.heap.size lv rv l rows W a cap g hrv (fun k hk => by obtain ⟨b, off, h1, h2, -⟩ := hgk k hk; exact ⟨b, off, h1, h2⟩) hLW hin hlb hpb I hI)).mono ?_
  rintro e w' ⟨v, rfl, ho, hb'⟩
  refine ⟨v, rfl, Rows2.own ho (by simp [rowsOf]) (by simp [rowsOf]; omega) ?_, hb'⟩
  intro k h1 h2
  have hk : k < l.length := by simpa [rowsOf] using h1
  obtain ⟨i0, i1⟩ := hin _ (List.getElem_mem hk)
  have hkr : l[k].1.toNat < rows.length := by omega
  obtain ⟨b, off, -, -, h3⟩ := hgk _ hkr
  have e1 : ((List.range l.length).map (fun j => g (l.getD j (0, 0)).1.toNat))[k] = g l[k].1.toNat := by
    rw [List.getElem_map, List.getElem_range, getD_at hk]
  have e2 : (rowsOf rows l)[k] = rows[l[k].1.toNat] := by
    simp only [rowsOf, List.getElem_map]; exact getD_at hkr []
  rw [e1, e2]
  exact h3.below hb'

end Go.Proofs.YtjjoadmkpbmhpaaGreat
