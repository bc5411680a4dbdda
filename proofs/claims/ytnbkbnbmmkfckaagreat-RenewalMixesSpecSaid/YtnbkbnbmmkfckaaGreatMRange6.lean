/- A range over a function of this program whose iterator turns variables of its own; what is assigned to the round's variables lays memory. Package renewal: the shares of two lists, collected. Package slices: Equal of integers, EqualFunc of rows with it. -/
import Derived.Test.YtnbkbnbmmkfckaaGreatMRange5
import Derived.Test.YtnbkbnbmmkfckaaGreatMSuC
namespace Go.Proofs.YtnbkbnbmmkfckaaGreat
open Go.RowKit

theorem wp_range6 {P : Program} {g : Operand} {ps : Array Tmp} {assign body : Code} {Q : Exit → Act → World → Prop} {a : Act} {w : World}
    {gf : FuncId} {lb : Array Value} (hg : a.eval g = .func (.func gf) #[] lb) (eg : Goes P gf)
    {N : Nat} {encs : Nat → Array Value} (hps : ∀ j, (encs j).size = ps.size)
    (I M : Nat → World → Prop) (Step : Nat → World → World → Prop) (Ix : Code → Nat → World → Prop) (hseq : Iterates5 P gf lb N encs I Step)
    (hI : ∀ j W W', I j W → Sim w.heap.size W W' → I j W') (hIx : ∀ c j W W', Ix c j W → Sim w.heap.size W W' → Ix c j W')
    (hstep : ∀ j W1 W2, I j W1 → j < N → Step j W1 W2 → M j W2 ∧ KeepsOthers W1 W2)
    (h0 : I 0 w) (M2 : Nat → Array Value → World → Prop) (hM2 : ∀ j t W W', M2 j t W → Sim w.heap.size W W' → M2 j t W')
    (hassign : ∀ (l j : Nat) (W : World) (K : Act → World → Prop), M j W → j < N → (∀ t W', M2 j t W' → KeepsOthers W W' → K { tmps := t, defers := [] } W') →
      assign.wpIn (Fence.wide.inRound l) 0 P (Exit.then K (fun _ _ _ => False)) { tmps := (ps.zip (encs j)).foldl (fun t (p, v) => t.setIfInBounds p v) a.tmps, defers := [] } W)
    (hbody : ∀ (l j : Nat) (t : Array Value) (W : World), M2 j t W → j < N → body.wpIn (Fence.wide.inRound l) 0 P (rangePost I Ix j W) { tmps := t, defers := [] } W)
    (hdone : ∀ (D : Nat) (W : World), w.heap.size ≤ D → I N W → W.heap[D]? = some (.deferred (some [])) → KeepsOthers w W → Q .normal { a with defers := { target := .collected D, args := #[] } :: a.defers } W)
    (hstop : ∀ (D : Nat) (c : Code) (j : Nat) (W : World), w.heap.size ≤ D → j ≤ N → Ix c j W → W.heap[D]? = some (.deferred (some [])) → KeepsOthers w W → c.wp P Q { a with defers := { target := .collected D, args := #[] } :: a.defers } W) :
    (Code.rangeFunc g ps assign body).wp P Q a w := by
  refine (wpIn_wide (n := 0)).1 (wpIn_rangeFunc ?_)
  intro fn hfn
  obtain ⟨rec, hrec⟩ : ∃ rec : LoopState → Option Code → Loop, rec = fun st pe => { state := st, pending := pe, fn, tmps := a.tmps, params := ps, assign, body, defers := w.heap.size } := ⟨_, rfl⟩
  obtain ⟨W1, hW1⟩ : ∃ W1, (w.alloc (.deferred (some []))).alloc (.loop (rec .ready none)) = W1 := ⟨_, rfl⟩
  have hL1 : W1.heap[w.heap.size + 1]? = some (.loop (rec .ready none)) := by
    rw [← hW1]; have := World.alloc_heap_new (w.alloc (.deferred (some []))) (.loop (rec .ready none)); rwa [World.size_alloc] at this
  have hK1 : W1.heap[w.heap.size]? = some (.deferred (some [])) := by
    rw [← hW1]; exact (Below.heap_alloc _ _ _ (by simp)).trans (World.alloc_heap_new w _)
  have hS1 : Sim w.heap.size w W1 := by
    rw [← hW1]; exact sim_trans (sim_alloc _ (Nat.le_refl _) _) (sim_alloc _ (by simp) _)
  have hO1 : KeepsOthers w W1 := by rw [← hW1]; exact (KeepsOthers.alloc _ _).trans (KeepsOthers.alloc _ _)
  refine ⟨w.heap.size + 1, [{ target := .collected w.heap.size, args := #[] }], W1, { target := .fn (.func gf) lb, args := #[.func (.yield (w.heap.size + 1)) #[] #[]] }, W1, gf,
    #[.func (.yield (w.heap.size + 1)) #[] #[]] ++ lb, W1, ?_, ?_, fun _ _ => trivial, ?_, fun h => by simp [Fence.wide] at h, ?_⟩
  · rw [← hW1, hrec]; exact run_enterLoop_outer _ _ _ _ _
  · simp only [resolve, hg]
    simp [go_sem]
  · have eg' : ∀ (args : Array Value) (w : World), (callFunc gf args).run P w = .ok (.enter gf args) w := eg
    simp [invoke, go_sem, eg']
  · have others : ∀ {A B : World} (_ : KeepsOthers w A) (_ : ∀ k o, k < w.heap.size → A.heap[k]? = some o → o.isCells = false → B.heap[k]? = some o) (_ : A.heap.size ≤ B.heap.size), KeepsOthers w B :=
      fun {A B} h1 h2 h3 => ⟨Nat.le_trans h1.size h3, fun k o hk ho => h2 k o (Array.getElem?_eq_some_iff.1 hk).1 (h1.same k o hk ho) ho⟩
    have put : ∀ {A : World} {l : Nat} (o' : Obj), w.heap.size ≤ l → KeepsOthers w A → KeepsOthers w (A.putObj l o') := fun {A l} o' hl h =>
      others h (fun k o hk ho _ => (World.putObj_heap_other (by omega)).trans ho) (by simp)
    refine (hseq (w.heap.size + 1)
      (fun j W => I j W ∧ W.heap[w.heap.size + 1]? = some (.loop (rec .ready none)) ∧ W.heap[w.heap.size]? = some (.deferred (some [])) ∧ KeepsOthers w W)
      (fun j W => M j W ∧ W.heap[w.heap.size + 1]? = some (.loop (rec .ready none)) ∧ W.heap[w.heap.size]? = some (.deferred (some [])) ∧ KeepsOthers w W)
      (fun j W => ∃ c, Ix c j W ∧ W.heap[w.heap.size + 1]? = some (.loop (rec .done (some c))) ∧ W.heap[w.heap.size]? = some (.deferred (some [])) ∧ KeepsOthers w W)
      W1 (fun j W h => h.1) (fun j W W2 ⟨hi, hl, hk, ho⟩ hb => ⟨hI _ _ _ hi (sim_of_below hb (Nat.le_of_lt (Nat.lt_of_succ_lt (Array.getElem?_eq_some_iff.1 hl).1))), (hb.block _ (Array.getElem?_eq_some_iff.1 hl).1).trans hl, (hb.block _ (Array.getElem?_eq_some_iff.1 hk).1).trans hk, ho.trans (keeps_of_below hb)⟩) (fun j W W2 h hj hs => by obtain ⟨m, k⟩ := hstep j W W2 h.1 hj hs; exact ⟨m, k.same _ _ h.2.1 rfl, k.same _ _ h.2.2.1 rfl, h.2.2.2.trans k⟩) ?_ ⟨hI _ _ _ h0 hS1, hL1, hK1, hO1⟩).mono ?_
    · rintro j W0 ⟨hi0, hl0, hk0, ho0⟩ hlen
      have hy := run_yield (P := P) (args := encs j) hl0 (by rw [hrec]; exact hps j)
      rw [hrec] at hy
      refine ⟨fn, _, assign, body, hy, roundIn_of_wpIn hfn (hassign _ j W0 _ hi0 hlen fun t W hi hkw => ?_)⟩
      have hl := hkw.same _ _ hl0 rfl
      have hk := hkw.same _ _ hk0 rfl
      have ho := ho0.trans hkw
      have hlt : w.heap.size + 1 < W.heap.size := (Array.getElem?_eq_some_iff.1 hl).1
      refine ⟨_, run_beginRound hl (by rw [hrec]), ?_⟩
      have hl2 : (W.putObj (w.heap.size + 1) (.loop { rec .ready none with state := .busy })).heap[w.heap.size + 1]? = some (.loop { rec .ready none with state := .busy }) := World.putObj_heap_same hlt
      have hk2 : (W.putObj (w.heap.size + 1) (.loop { rec .ready none with state := .busy })).heap[w.heap.size]? = some (.deferred (some [])) := (World.putObj_heap_other (by omega)).trans hk
      have ho2 := put (.loop { rec .ready none with state := .busy }) (by omega) ho (l := w.heap.size + 1)
      refine wpIn_mono (hbody _ j _ _ (hM2 _ _ _ _ hi (sim_putObj _ (by omega) hl rfl)) hlen) ?_
      have fin : ∀ (jump : Option Code) (W3 : World), KeepsOthers (W.putObj (w.heap.size + 1) (.loop { rec .ready none with state := .busy })) W3 →
          (Instr.endRound (w.heap.size + 1) jump).run P W3 = .ok (.bool jump.isNone) (W3.putObj (w.heap.size + 1) (.loop (rec (if jump.isNone then .ready else .done) jump))) ∧
          Sim w.heap.size W3 (W3.putObj (w.heap.size + 1) (.loop (rec (if jump.isNone then .ready else .done) jump))) ∧
          (W3.putObj (w.heap.size + 1) (.loop (rec (if jump.isNone then .ready else .done) jump))).heap[w.heap.size + 1]? = some (.loop (rec (if jump.isNone then .ready else .done) jump)) ∧
          (W3.putObj (w.heap.size + 1) (.loop (rec (if jump.isNone then .ready else .done) jump))).heap[w.heap.size]? = some (.deferred (some [])) ∧
          KeepsOthers w (W3.putObj (w.heap.size + 1) (.loop (rec (if jump.isNone then .ready else .done) jump))) := fun jump W3 hk3 => by
        have hl3 := hk3.same _ _ hl2 rfl
        have := run_endRound (P := P) jump hl3
        rw [hrec] at this ⊢
        exact ⟨this, sim_putObj _ (by omega) hl3 rfl, World.putObj_heap_same (Array.getElem?_eq_some_iff.1 hl3).1, (World.putObj_heap_other (by omega)).trans (hk3.same _ _ hk2 rfl),
          put _ (by omega) (ho2.trans hk3)⟩
      rintro e a3 W3 hp
      cases e with
      | normal =>
        obtain ⟨hk3, hi3⟩ := hp
        obtain ⟨hr, hs, hl4, hk4, ho4⟩ := fin none W3 hk3
        exact ⟨_, _, hr, .inl ⟨rfl, hI _ _ _ hi3 hs, hl4, hk4, ho4⟩⟩
      | ret =>
        obtain ⟨hk3, hi3⟩ := hp
        obtain ⟨hr, hs, hl4, hk4, ho4⟩ := fin (some .ret) W3 hk3
        exact ⟨_, _, hr, .inr ⟨rfl, .ret, hIx _ _ _ _ hi3 hs, hl4, hk4, ho4⟩⟩
      | exit id =>
        obtain ⟨hk3, hi3⟩ := hp
        obtain ⟨hr, hs, hl4, hk4, ho4⟩ := fin (some (.exit id)) W3 hk3
        exact ⟨_, _, hr, .inr ⟨rfl, .exit id, hIx _ _ _ _ hi3 hs, hl4, hk4, ho4⟩⟩
      | goto t =>
        obtain ⟨hk3, hi3⟩ := hp
        obtain ⟨hr, hs, hl4, hk4, ho4⟩ := fin (some (.goto t)) W3 hk3
        exact ⟨_, _, hr, .inr ⟨rfl, .goto t, hIx _ _ _ _ hi3 hs, hl4, hk4, ho4⟩⟩
      | panic ch => exact hp.elim
      | outgrown => exact hp.elim
    · rintro e W2 ⟨⟨v, rfl⟩, (⟨hi, hl, hk, ho⟩ | ⟨j, hj, c, hi, hl, hk, ho⟩)⟩
      · exact ⟨none, _, by have := run_endLoop (P := P) hl (by rw [hrec]; simp); rw [hrec] at this; exact this,
          hdone _ _ (Nat.le_refl _) (hI _ _ _ hi (sim_putObj _ (by omega) hl rfl)) ((World.putObj_heap_other (by omega)).trans hk) (put _ (by omega) ho)⟩
      · exact ⟨some c, _, by have := run_endLoop (P := P) hl (by rw [hrec]; simp); rw [hrec] at this; exact this,
          wpIn_wide.2 (hstop _ c j _ (Nat.le_refl _) hj (hIx _ _ _ _ hi (sim_putObj _ (by omega) hl rfl)) ((World.putObj_heap_other (by omega)).trans hk) (put _ (by omega) ho))⟩


end Go.Proofs.YtnbkbnbmmkfckaaGreat

namespace Go.Proofs.YtnbkbnbmmkfckaaGreat
open Go.RowKit FP

attribute [local go_sem] Oper.semAt_some

set_option maxRecDepth 100000 in
theorem app_share_in {F : Fence} {m : Nat} {ops : Array Oper} {rest : List Oper} {o : Oper} {a : Act} {Q : Exit → Act → World → Prop} {W : World} (hgd : o.guard = none) (s x : Operand) (ho : o.op = .call { callee := .builtin .append, args := #[s, x], argTypes := #[28, 28] })
    (base n : Nat) (v : Value) (l : List (Int × Int)) (hs : a.eval s = v) (hown : W.ownsRow base 47 2 v n (l.flatMap shaC)) (b c : Nat) (z : Int × Int) (hx : a.eval x = .slice (some ⟨b, 0, none⟩) 1 c) (h0 : W.cell? ⟨b, 0, none⟩ = some (.int .i64 z.1)) (h1 : W.cell? ⟨b, 1, none⟩ = some (.int .i64 z.2)) (hn : n ≤ 1000000) (hbase : base ≤ W.heap.size)
    (h : ∀ v' w', w'.ownsRow base 47 2 v' (n + 1) ((l ++ [z]).flatMap shaC) → W.grownBy w' v.ownBlock → wpListIn F m Tryz.prog ops Q rest (a.put o.dst v') w') : wpListIn F m Tryz.prog ops Q (o :: rest) a W := by
  obtain ⟨i, hi, hzz⟩ := Option.map_eq_some_iff.1 infoS
  simp only [Prod.mk.injEq] at hzz
  obtain ⟨hz, hs1, hb⟩ := hzz
  obtain ⟨zv, hzv, hzs⟩ := Option.map_eq_some_iff.1 hz
  refine wpListIn_append_own W hgd s x 28 ho base 47 i zv 2 16 Tryz.underlying28 hi hzv hs1 hb hzs (by decide) v n (l.flatMap shaC) hs hown ⟨b, 0, none⟩ 1 c (shaC z) hx rfl ?_ ?_ ?_ ?_ hbase ?_
  · intro j u hu
    rw [add_off]
    match j with
    | 0 => simp [shaC] at hu; rw [← hu]; exact h0
    | 1 => simp [shaC] at hu; rw [← hu]; exact h1
    | n + 2 => simp [shaC] at hu
  · intro u hu
    simp only [shaC, List.mem_cons, List.not_mem_nil, or_false] at hu
    rcases hu with rfl | rfl <;> rfl
  · unfold maxLen; omega
  · omega
  · intro v' w' h1 h2 _; exact h v' w' (by rw [sflat_snoc]; exact h1) h2

/-- Behind j shares; the iterator's variables are at place i. -/
structure ColS (w : World) (ab bb : Nat) (va vb : Value) (a b : List (Int × Int)) (B i j : Nat) (W : World) : Prop where
  bx : BoxS w ab bb va vb a b i W
  sz : B < W.heap.size
  row : ∃ L, W.heap[B]? = some (.cells #[L] 28 (0, 0)) ∧ W.ownsRow (B + 1) 47 2 L j (((List.range j).map (mrgE a b)).flatMap shaC)
theorem boxS_sim {w : World} {ab bb : Nat} {va vb : Value} {a b : List (Int × Int)} {j D : Nat} {W W' : World} (h : BoxS w ab bb va vb a b j W) (hD : w.heap.size ≤ D) (hs : Sim D W W') : BoxS w ab bb va vb a b j W' :=
  ⟨h.be.trans ((sim_below hs).mono hD), hs.cells _ _ h.ca rfl, hs.cells _ _ h.cb rfl⟩
theorem colS_sim {w : World} {ab bb : Nat} {va vb : Value} {a b : List (Int × Int)} {B i j D : Nat} {W W' : World} (h : ColS w ab bb va vb a b B i j W) (hD : w.heap.size ≤ D) (hs : Sim D W W') : ColS w ab bb va vb a b B i j W' := by
  obtain ⟨hb, hz, L, hr, ho⟩ := h
  exact ⟨boxS_sim hb hD hs, Nat.lt_of_lt_of_le hz hs.size, L, hs.cells _ _ hr rfl, own_sim ho hs⟩
theorem colS_below {w : World} {ab bb : Nat} {va vb : Value} {a b : List (Int × Int)} {B i j : Nat} {W W' : World} (h : ColS w ab bb va vb a b B i j W) (hb : Below W.heap.size W W') : ColS w ab bb va vb a b B i j W' := by
  obtain ⟨hx, hz, L, hr, ho⟩ := h
  exact ⟨boxS_below hx hb, Nat.lt_of_lt_of_le hz hb.size, L, (hb.block _ hz).trans hr, own_keep ho hb⟩
theorem colS_step {w : World} {ab bb : Nat} (hne : ab ≠ bb) (ha : w.heap.size ≤ ab) (hb : w.heap.size ≤ bb) {va vb : Value} {a b : List (Int × Int)} {B j : Nat} (hab : ab < B) (hbb : bb < B) {W1 W2 : World} (h : ColS w ab bb va vb a b B j j W1) (hs : stepB ab bb va vb a b j W1 W2) : ColS w ab bb va vb a b B (j + 1) j W2 ∧ KeepsOthers W1 W2 := by
  have hx := boxS_step hne ha hb h.bx hs
  obtain ⟨W', hB, rfl⟩ := hs
  obtain ⟨hx', hz, L, hr, ho⟩ := colS_below h hB
  by_cases e : takeB (mrgS a b j).1 (mrgS a b j).2 = true
  · rw [if_pos e] at hx ⊢
    exact ⟨⟨hx, by simpa [World.setCell] using hz, L, by rw [heap_setCell_other _ _ _ _ (Nat.ne_of_gt hbb)]; exact hr, own_keep_set ho (by omega) _⟩, (keeps_of_below hB).trans (KeepsOthers.setCell _ _ _)⟩
  · rw [if_neg e] at hx ⊢
    exact ⟨⟨hx, by simpa [World.setCell] using hz, L, by rw [heap_setCell_other _ _ _ _ (Nat.ne_of_gt hab)]; exact hr, own_keep_set ho (by omega) _⟩, (keeps_of_below hB).trans (KeepsOthers.setCell _ _ _)⟩

/-- A round's variables: its share lies in its box. -/
def boxT (gf : FuncId) (lb : Array Value) (B X : Nat) (p : Int × Int) : Array Value :=
  #[.slice none 0 0, .func (.func gf) #[] lb, .pointer (some ⟨B, 0, none⟩), undef, .slice none 0 0, .pointer (some ⟨X, 0, none⟩), .func (.func gf) #[] lb, .agg #[.int .i64 p.1, .int .i64 p.2], undef, undef, undef, undef, undef]
def InBox (gf : FuncId) (lb : Array Value) (B : Nat) (p : Int × Int) (t : Array Value) (W : World) : Prop :=
  ∃ X, t = boxT gf lb B X p ∧ W.heap[X]? = some (.cells #[.int .i64 p.1, .int .i64 p.2] 47 (0, 0))

set_option maxRecDepth 100000 in
set_option maxHeartbeats 4000000 in
theorem appendS_any (gf : FuncId) (lb : Array Value) (w0 : World) (ab bb : Nat) (hne : ab ≠ bb) (ha : w0.heap.size ≤ ab) (hbq : w0.heap.size ≤ bb) (va vb : Value) (a b : List (Int × Int)) (N : Nat) (w : World) (hgo : Goes Tryz.prog gf) (hN : N ≤ 1000000) (h0 : BoxS w0 ab bb va vb a b 0 w)
    (hseq : ∀ I : Nat → World → Prop, (∀ j W, I j W → BoxS w0 ab bb va vb a b j W) → Iterates5 Tryz.prog gf lb N (fun j => #[.agg #[.int .i64 (mrgE a b j).1, .int .i64 (mrgE a b j).2]]) I (stepB ab bb va vb a b)) :
    Calls Tryz.prog 80 #[.slice none 0 0, .func (.func gf) #[] lb] w fun e w' => ∃ v, e = .returned v ∧ w'.ownsRow w.heap.size 47 2 v N (((List.range N).map (mrgE a b)).flatMap shaC) ∧ Below w0.heap.size w0 w' := by
  refine calls_of_range Tryz.func80 rfl ?_
  simp only [Tryz.ntmps80, List.size_toArray, List.length_cons, List.length_nil, Nat.reduceAdd, Nat.reduceSub, Array.replicate_succ, Array.replicate_zero, List.push_toArray, List.append_toArray, List.nil_append, List.cons_append]
  have hla : ab < w.heap.size := row_lt h0.ca
  have hlbb : bb < w.heap.size := row_lt h0.cb
  have HI0 : Hid (ColS w0 ab bb va vb a b w.heap.size 0 0 (w.alloc (.cells #[.slice none 0 0] 28))) := Lib.hid ⟨boxS_below h0 (below_new _ _ _), by simp, _, World.alloc_heap_new _ _, World.ownsRow_nil _ _ _ _⟩
  have HSZ := Lib.hid h0.be.size
  have HQ := Lib.hid hseq
  clear h0 hseq
  go_wp2_with fail
  refine wp_range6 (gf := gf) (lb := lb) (N := N) (encs := fun j => #[.agg #[.int .i64 (mrgE a b j).1, .int .i64 (mrgE a b j).2]]) rfl hgo (fun _ => rfl)
    (fun j => ColS w0 ab bb va vb a b w.heap.size j j) (fun j => ColS w0 ab bb va vb a b w.heap.size (j + 1) j) (stepB ab bb va vb a b) (fun _ _ _ => False) ?seq ?simI (fun _ _ _ _ h _ => h) ?step HI0.out
    (fun j t W => InBox gf lb w.heap.size (mrgE a b j) t W ∧ ColS w0 ab bb va vb a b w.heap.size (j + 1) j W) ?simM ?assign ?body ?done (fun _ _ _ _ _ _ h => h.elim)
  case seq => exact HQ.out _ (fun j W h => h.bx)
  case simI => exact fun j W W' h hs => colS_sim h (by have := HSZ.out; simp; omega) hs
  case step => exact fun j W1 W2 h _ hs => colS_step hne ha hbq hla hlbb h hs
  case simM =>
    intro j t W W' h hs
    obtain ⟨⟨X, e, hX⟩, h2⟩ := h
    exact ⟨⟨X, e, hs.cells _ _ hX rfl⟩, colS_sim h2 (by have := HSZ.out; simp; omega) hs⟩
  case assign =>
    intro l j W K hM hlt hK
    gi_wp2
    exact hK _ _ ⟨⟨W.heap.size, rfl, World.alloc_heap_new _ _⟩, colS_below hM (below_new _ _ _)⟩ (KeepsOthers.alloc _ _)
  case body =>
    intro l j t W hI hlt
    obtain ⟨⟨X, rfl, hX⟩, hI⟩ := hI
    obtain ⟨hbx, hz, L, hr, ho⟩ := hI
    unfold boxT
    have HP : Hid ((List.range (j + 1)).map (mrgE a b) = (List.range j).map (mrgE a b) ++ [mrgE a b j]) := Lib.hid (range_snoc _ _)
    have hjm : j ≤ 1000000 := by omega
    have x0 : W.cell? ⟨w.heap.size, 0, none⟩ = some L := row_cell hr rfl
    generalize mrgE a b j = z at *
    obtain ⟨z1, z2⟩ := z
    simp only at hX ⊢
    have p0 : W.cell? ⟨X, 0, none⟩ = some (.int .i64 z1) := row_cell hX rfl
    have p1 : W.cell? ⟨X, 1, none⟩ = some (.int .i64 z2) := row_cell hX rfl
    have hn1 := below_new W #[.int .i64 z1, .int .i64 z2] 47
    have HO := Lib.hid (own_keep ho hn1)
    have HC0 : Hid ((W.alloc (.cells #[.int .i64 z1, .int .i64 z2] 47)).cell? ⟨W.heap.size, 0, none⟩ = some (.int .i64 z1)) := Lib.hid (row_cell (World.alloc_heap_new _ _) rfl)
    have HC1 : Hid ((W.alloc (.cells #[.int .i64 z1, .int .i64 z2] 47)).cell? ⟨W.heap.size, 1, none⟩ = some (.int .i64 z2)) := Lib.hid (row_cell (World.alloc_heap_new _ _) rfl)
    have HR := Lib.hid ((hn1.block _ hz).trans hr)
    have HNE := Lib.hid (own_ne ho (b := w.heap.size) (.inr (by omega)))
    have HBX := Lib.hid (boxS_below hbx hn1)
    have hbs : w.heap.size + 1 ≤ (W.alloc (.cells #[.int .i64 z1, .int .i64 z2] 47)).heap.size := by simp; omega
    have HBS := Lib.hid hbs
    have HZ2 : Hid (w.heap.size < (W.alloc (.cells #[.int .i64 z1, .int .i64 z2] 47)).heap.size) := Lib.hid (by simp; omega)
    have HHA := Lib.hid hla
    have HHB := Lib.hid hlbb
    have HAQ := Lib.hid ha
    clear hn1 ho hr hbx hbs hX
    gi_wp2_with (refine app_share_in rfl _ _ rfl (w.heap.size + 1) j _ ((List.range j).map (mrgE a b)) rfl HO.out W.heap.size 1 (z1, z2) rfl HC0.out HC1.out hjm HBS.out ?_; intro v8 w8 h8 o8; have hr8 := (o8.block _ HZ2.out (fun e => HNE.out e.symm)).trans HR.out; have y0 : w8.cell? ⟨w.heap.size, 0, none⟩ = some L := row_cell hr8 rfl; have f0 := row_free hr8 0; have HR8 := Lib.hid hr8; have H8 := Lib.hid h8; have O8 := Lib.hid o8; obtain ⟨g8, k8, cap8, hv8⟩ := own_is h8; subst hv8; clear h8 o8 hr8)
    have hb8 := own_below HO.out O8.out HBS.out
    refine ⟨((KeepsOthers.alloc _ _).trans (keeps_grown HO.out O8.out)).trans (KeepsOthers.setCell _ _ _), ⟨⟨?_, ?_, ?_⟩, ?_, _, row_set HR8.out 0 _, ?_⟩⟩
    · exact (HBX.out.be.trans (hb8.mono (Nat.le_succ_of_le HSZ.out))).setCell HSZ.out _
    · rw [heap_setCell_other _ _ _ _ (Nat.ne_of_lt HHA.out)]
      exact (hb8.block _ (Nat.lt_succ_of_lt HHA.out)).trans HBX.out.ca
    · rw [heap_setCell_other _ _ _ _ (Nat.ne_of_lt HHB.out)]
      exact (hb8.block _ (Nat.lt_succ_of_lt HHB.out)).trans HBX.out.cb
    · exact Nat.lt_of_lt_of_le HZ2.out (by simpa [World.setCell] using hb8.size)
    · refine own_keep_set ?_ (Nat.lt_succ_self _) _
      rw [HP.out]; exact H8.out
  case done =>
    intro D W hD hI hDW hO
    obtain ⟨hb, hz, L, hr, ho⟩ := hI
    have x0 : W.cell? ⟨w.heap.size, 0, none⟩ = some L := row_cell hr rfl
    go_wp2_with fail
    refine leaves_marks (B := w.heap.size) (v := L) ?_ ?_ _ _ ⟨⟨D, rfl, Nat.le_trans (by simp) hD, hDW, fun _ h => by cases h⟩, trivial⟩ ⟨_, rfl, own_low ho (Nat.le_succ _), hb.be⟩
    · intro W1
      simp [results, Tryz.results80, go_sem]
    · rintro W1 W2 ⟨v, h1, h2, h3⟩ hs
      exact ⟨v, h1, own_sim h2 hs, h3.trans ((sim_below hs).mono HSZ.out)⟩

set_option maxRecDepth 100000 in
theorem both1_goes : Goes Tryz.prog 81 := goes_of Tryz.func81 (by kernel_rfl) rfl

set_option maxRecDepth 100000 in
set_option maxHeartbeats 1000000 in
theorem collectS_any (va vb : Value) (a b : List (Int × Int)) (w0 w : World) (ab bb : Nat) (hne : ab ≠ bb) (ha : w0.heap.size ≤ ab) (hb : w0.heap.size ≤ bb) (hA : Shares w0 va a) (hB : Shares w0 vb b) (hN : a.length + b.length ≤ 1000000) (h0 : BoxS w0 ab bb va vb a b 0 w) :
    Calls Tryz.prog 42 #[.func (.func 81) #[] #[.pointer (some ⟨ab, 0, none⟩), .pointer (some ⟨bb, 0, none⟩)]] w fun e w' => ∃ v, e = .returned v ∧ w'.ownsRow w.heap.size 47 2 v (a.length + b.length) ((mrgL a b).flatMap shaC) ∧ Below w0.heap.size w0 w' := by
  have HC := Lib.hid (appendS_any 81 #[.pointer (some ⟨ab, 0, none⟩), .pointer (some ⟨bb, 0, none⟩)] w0 ab bb hne ha hb va vb a b (a.length + b.length) w both1_goes hN h0 (fun I hI => both1_iterates w0 ab bb va vb a b hA hB _ rfl I hI))
  clear h0
  go_enter Tryz.func42, Tryz.ntmps42
  go_wp2_with fail
  refine HC.out.mono ?_
  rintro e w1 ⟨v, rfl, h1, h2⟩
  have H1 := Lib.hid h1
  clear h1
  go_wp2_with fail
  go_ret
  exact ⟨_, rfl, H1.out, h2⟩

set_option maxRecDepth 100000 in
set_option maxHeartbeats 1000000 in
/-- renewal.both -/
theorem both_any (va vb : Value) (w : World) (ha : ∃ a n c, va = .slice a n c) (hb : ∃ a n c, vb = .slice a n c) :
    Calls Tryz.prog 43 #[va, vb] w fun e w' =>
      e = .returned (.func (.func 81) #[] #[.pointer (some ⟨w.heap.size, 0, none⟩), .pointer (some ⟨w.heap.size + 1, 0, none⟩)]) ∧ w' = (w.alloc (.cells #[va] 28)).alloc (.cells #[vb] 28) := by
  obtain ⟨a, n, c, rfl⟩ := ha
  obtain ⟨a2, n2, c2, rfl⟩ := hb
  have hmf : ∀ (fn : Fn) (first cap : Array Value) (w : World), (Instr.makeFunc fn first cap).run Tryz.prog w = .ok (.func fn first cap) w := fun _ _ _ _ => rfl
  go_enter Tryz.func43, Tryz.ntmps43
  go_wp2_with fail
  go_ret
  exact ⟨rfl, rfl⟩

end Go.Proofs.YtnbkbnbmmkfckaaGreat

namespace Go.Proofs.YtnbkbnbmmkfckaaGreat
open Go.RowKit FP

theorem ne_at {β : Type} {a b : List β} {k : Nat} (h1 : k < a.length) (h2 : k < b.length) (h : a[k] ≠ b[k]) : a ≠ b := fun e => h (by subst e; rfl)

set_option maxRecDepth 100000 in
set_option maxHeartbeats 8000000 in
theorem equalI_any (u v : Value) (a b : List Int) (w : World) (hA : Ints w u a) (hB : Ints w v b) :
    Calls Tryz.prog 39 #[u, v] w fun e w' => e = .returned (.bool (decide (a = b))) ∧ Below w.heap.size w w' := by
  obtain ⟨a1, k1, rfl, hc1, hl1, hr1, hk1⟩ := hA
  obtain ⟨a2, k2, rfl, hc2, hl2, hr2, hk2⟩ := hB
  by_cases hl : a.length = b.length
  rotate_left
  · have hl' : ((a.length : Int) != (b.length : Int)) = true := by rw [bne_iff_ne]; omega
    have HV : Hid (decide (a = b) = false) := Lib.hid (decide_eq_false (fun h => hl (by rw [h])))
    clear hl
    go_enter Tryz.func39, Tryz.ntmps39
    go_wp2_with fail
    go_ret
    exact ⟨ret_bool HV.out.symm, Below.refl _ _⟩
  have hl' : ((a.length : Int) != (b.length : Int)) = false := by rw [hl]; simp
  have HL := Lib.hid hl
  have HK2 : Hid (∀ k (h : k < a.length), ∃ x, x = (b[k]'(by rw [← HL.out]; exact h)) ∧ ∃ q off, a2 = some ⟨q, off, none⟩ ∧ w.cell? ⟨q, off + k, none⟩ = some (.int .i64 x)) := Lib.hid (fun k h => ⟨_, rfl, hk2 k (by omega)⟩)
  have HK1 := Lib.hid hk1
  rw [← hl] at hl' hl2 ⊢
  clear hl hk1 hk2
  go_enter Tryz.func39, Tryz.ntmps39
  go_wp2_with fail
  go_loopw [13] (fun i W => ∃ k : Nat, k ≤ a.length ∧ i = .int .i64 k ∧ Hid (∀ j (h1 : j < a.length) (h2 : j < b.length), j < k → a[j] = b[j]) ∧ Below w.heap.size w W) (fun i _ => a.length - (intOf i).toNat)
  case atStart => exact ⟨0, Nat.zero_le _, rfl, Lib.hid fun j _ _ h => absurd h (Nat.not_lt_zero _), Below.refl _ _⟩
  case round =>
    obtain ⟨k, hkl, rfl, HP, hb⟩ := hrel
    by_cases hlt : k < a.length
    · obtain ⟨p, off, rfl, qa⟩ := HK1.out k hlt
      obtain ⟨y, hy, p', off', rfl, qc⟩ := HK2.out k hlt
      have y1 := below_cell hb qa
      have y3 := below_cell hb qc
      obtain ⟨x, hx⟩ : ∃ x, x = a[k] := ⟨_, rfl⟩
      rw [← hx] at y1
      have i1 : (0 : Int) ≤ (k : Int) := by omega
      have i2 : (k : Int) < (a.length : Int) := by omega
      have HX := Lib.hid hx
      have HY := Lib.hid hy
      have HBW := Lib.hid hb
      clear hx hy qa qc hb
      by_cases he : x = y
      · have he' : (x != y) = false := by simpa using he
        have HN := Lib.hid (show ∀ j (h1 : j < a.length) (h2 : j < b.length), j < k + 1 → a[j] = b[j] from fun j h1 h2 h3 => by
          by_cases e : j = k
          · subst e; rw [← HX.out, ← HY.out, he]
          · exact HP.out j h1 h2 (by omega))
        clear he
        go_wp2_with fail
        go_region
        go_wp2_with fail
        go_roundw
        case rel => exact ⟨k + 1, by omega, by go_num, HN, HBW.out.drew⟩
        case measure => simp [intOf]; omega
      · have he' : (x != y) = true := by simpa using he
        have HV : Hid (decide (a = b) = false) := Lib.hid (decide_eq_false (ne_at hlt (by rw [← HL.out]; exact hlt) (by rw [← HX.out, ← HY.out]; exact he)))
        clear he
        go_wp2_with fail
        go_region
        go_wp2_with fail
        go_ret
        exact ⟨ret_bool HV.out.symm, HBW.out.drew⟩
    · have HV : Hid (decide (a = b) = true) := Lib.hid (decide_eq_true (List.ext_getElem HL.out fun j h1 h2 => HP.out j h1 h2 (by omega)))
      go_wp2_with fail
      go_ret
      exact ⟨ret_bool HV.out.symm, hb⟩

set_option maxRecDepth 100000 in
set_option maxHeartbeats 8000000 in
theorem efInts_any (u v : Value) (a b : List (List Int)) (w : World) (hA : Rows2 w u a) (hB : Rows2 w v b) :
    Calls Tryz.prog 40 #[u, v, .func (.func 39) #[] #[]] w fun e w' => e = .returned (.bool (decide (a = b))) ∧ Below w.heap.size w w' := by
  obtain ⟨a1, k1, rfl, hc1, hl1, hk1⟩ := hA
  obtain ⟨a2, k2, rfl, hc2, hl2, hk2⟩ := hB
  by_cases hl : a.length = b.length
  rotate_left
  · have hl' : ((a.length : Int) != (b.length : Int)) = true := by rw [bne_iff_ne]; omega
    have HV : Hid (decide (a = b) = false) := Lib.hid (decide_eq_false (fun h => hl (by rw [h])))
    clear hl
    go_enter Tryz.func40, Tryz.ntmps40
    go_wp2_with fail
    go_ret
    exact ⟨ret_bool HV.out.symm, Below.refl _ _⟩
  have hl' : ((a.length : Int) != (b.length : Int)) = false := by rw [hl]; simp
  have HL := Lib.hid hl
  have HK2 : Hid (∀ k (h : k < a.length), ∃ x, x = (b[k]'(by rw [← HL.out]; exact h)) ∧ ∃ q off r, a2 = some ⟨q, off, none⟩ ∧ w.cell? ⟨q, off + k, none⟩ = some r ∧ Ints w r x) := Lib.hid (fun k h => ⟨_, rfl, hk2 k (by omega)⟩)
  have HK1 := Lib.hid hk1
  rw [← hl] at hl' hl2 ⊢
  clear hl hk1 hk2
  go_enter Tryz.func40, Tryz.ntmps40
  go_wp2_with fail
  go_loopw [17] (fun i W => ∃ k : Nat, k ≤ a.length ∧ i = .int .i64 k ∧ Hid (∀ j (h1 : j < a.length) (h2 : j < b.length), j < k → a[j] = b[j]) ∧ Below w.heap.size w W) (fun i _ => a.length - (intOf i).toNat)
  case atStart => exact ⟨0, Nat.zero_le _, rfl, Lib.hid fun j _ _ h => absurd h (Nat.not_lt_zero _), Below.refl _ _⟩
  case round =>
    obtain ⟨k, hkl, rfl, HP, hb⟩ := hrel
    by_cases hlt : k < a.length
    · obtain ⟨p, off, r, rfl, qa, ga⟩ := HK1.out k hlt
      obtain ⟨y, hy, p', off', r', rfl, qc, gc⟩ := HK2.out k hlt
      have y1 := below_cell hb qa
      have y3 := below_cell hb qc
      obtain ⟨x, hx⟩ : ∃ x, x = a[k] := ⟨_, rfl⟩
      rw [← hx] at ga
      have HG := Lib.hid (ga.below hb)
      have HH := Lib.hid (gc.below hb)
      obtain ⟨pa, ka, rfl, -⟩ := id ga
      obtain ⟨pc, kc, rfl, -⟩ := id gc
      have i1 : (0 : Int) ≤ (k : Int) := by omega
      have i2 : (k : Int) < (a.length : Int) := by omega
      have HX := Lib.hid hx
      have HY := Lib.hid hy
      have HBW := Lib.hid hb
      clear hx hy qa qc hb ga gc
      by_cases he : x = y
      · have he' : decide (x = y) = true := by simpa using he
        have HN := Lib.hid (show ∀ j (h1 : j < a.length) (h2 : j < b.length), j < k + 1 → a[j] = b[j] from fun j h1 h2 h3 => by
          by_cases e : j = k
          · subst e; rw [← HX.out, ← HY.out, he]
          · exact HP.out j h1 h2 (by omega))
        clear he
        go_wp2_with fail
        with_reducible refine (equalI_any _ _ x y _ HG.out HH.out).mono ?_
        rintro e w7 ⟨rfl, hb7⟩
        rw [he']
        go_wp2_with fail
        go_roundw
        case rel => exact ⟨k + 1, by omega, by go_num, HN, HBW.out.trans (hb7.mono HBW.out.size)⟩
        case measure => simp [intOf]; omega
      · have he' : decide (x = y) = false := by simpa using he
        have HV : Hid (decide (a = b) = false) := Lib.hid (decide_eq_false (ne_at hlt (by rw [← HL.out]; exact hlt) (by rw [← HX.out, ← HY.out]; exact he)))
        clear he
        go_wp2_with fail
        with_reducible refine (equalI_any _ _ x y _ HG.out HH.out).mono ?_
        rintro e w7 ⟨rfl, hb7⟩
        rw [he']
        go_wp2_with fail
        go_ret
        exact ⟨ret_bool HV.out.symm, HBW.out.trans (hb7.mono HBW.out.size)⟩
    · have HV : Hid (decide (a = b) = true) := Lib.hid (decide_eq_true (List.ext_getElem HL.out fun j h1 h2 => HP.out j h1 h2 (by omega)))
      go_wp2_with fail
      go_ret
      exact ⟨ret_bool HV.out.symm, hb⟩

end Go.Proofs.YtnbkbnbmmkfckaaGreat
