/- program.Make's rows: treat at a leaf. program.Make's rows: treat at a gate, the parts. -/
import Derived.Test.YtohebkpgjaaljaaMGatC
import Derived.OwnWalkIn
namespace Go.Proofs.Ytohebkpgjaaljaa
open Go.RowKit

theorem genL_take : ∀ (l : List GT) (i : Nat) (b : List Int) (m c k : Nat) (h : k < l.length), genL (l.take (k + 1)) i b m c = ((genL (l.take k) i b m c).1 ++ (genR l[k] (b ++ powL (i + k + 1) m) (genL (l.take k) i b m c).2).1, (genR l[k] (b ++ powL (i + k + 1) m) (genL (l.take k) i b m c).2).2)
  | [], _, _, _, _, k, h => absurd h (Nat.not_lt_zero _)
  | x :: t, i, b, m, c, 0, _ => by
    rw [List.take_succ_cons, List.take_zero, List.take_zero]
    unfold genL
    unfold genL
    simp
  | x :: t, i, b, m, c, k + 1, h => by
    rw [List.take_succ_cons, List.take_succ_cons, genL, genL, genL_take t (i + 1) b m _ k (by simpa using h)]
    simp only [List.getElem_cons_succ, List.append_assoc]
    rw [show i + (k + 1) + 1 = i + 1 + k + 1 by omega]

/-- Do the rows and the columns stay within the limits? -/
def FitsM (R : List (List Int × Int)) (g : GT) (zs : List Int) (c : Nat) : Prop := R.length + (genR g zs c).1.length ≤ 64 ∧ (genR g zs c).2 ≤ 64
def TreatPost (w : World) (PB CB TB C : Nat) (R : List (List Int × Int)) (g : GT) (zs : List Int) (c : Nat) (W : World) (e : Ending) (w' : World) : Prop :=
  (e = .returned (.bool true) ∧ FitsM R g zs c ∧ MkI w PB CB TB C (R ++ (genR g zs c).1) (genR g zs c).2 w' ∧ StepM PB CB W w') ∨ (e = .returned (.bool false) ∧ ¬ FitsM R g zs c ∧ (∃ R' c', MkI w PB CB TB C R' c' w') ∧ StepM PB CB W w')

theorem bad_same {PB CB : Nat} {W W' : World} (h : W'.heap[PB]? = W.heap[PB]?) {k : Nat} (hb : Bad PB CB W' k) : Bad PB CB W k := by
  unfold Bad at hb ⊢
  rwa [h] at hb
theorem SafeF.sim {PB CB : Nat} {W W' : World} {v : Value} {zs : List Int} {S : Nat} (h : SafeF PB CB W v zs) (hs : Sim S W W') (hP : W'.heap[PB]? = W.heap[PB]?) : SafeF PB CB W' v zs := by
  obtain ⟨⟨b, off, rfl, h1, h2, h3⟩, b', off', n, c, e, hb, hn⟩ := h
  exact ⟨⟨_, _, rfl, h1, h2, fun k hk => sim_cell hs (h3 k hk)⟩, b', off', n, c, e, Nat.lt_of_lt_of_le hb hs.size, fun hb2 => hn (bad_same hP hb2)⟩
theorem mkI_sim {w : World} {PB CB TB C : Nat} {R : List (List Int × Int)} {c : Int} {W W' : World} {S : Nat} (h : MkI w PB CB TB C R c W) (hs : Sim S W W') (hw : w.heap.size ≤ S) : MkI w PB CB TB C R c W' ∧ W'.heap[PB]? = W.heap[PB]? := by
  obtain ⟨h1, h2, h3, h4, L1, L2, xs, h5, h6, h7, h8⟩ := h
  have h5' := hs.cells _ _ h5 rfl
  have e : W'.heap[PB]? = W.heap[PB]? := h5'.trans h5.symm
  exact ⟨⟨h1.trans ((sim_below hs).mono hw), Nat.le_trans h2 hs.size, sim_cell hs h3, hs.cells _ _ h4 rfl, L1, L2, xs, h5', ⟨own_sim h6.a hs, own_sim h6.b hs, h6.ap⟩, h7, fun k a b => (h8 k a b).sim hs e⟩, e⟩
theorem treat_sim {w : World} {PB CB TB C : Nat} {R : List (List Int × Int)} {g : GT} {zs : List Int} {c : Nat} {W : World} {v : Value} (hw : w.heap.size ≤ W.heap.size) : ∀ W1 W2, TreatPost w PB CB TB C R g zs c W (.returned v) W1 → Sim W.heap.size W1 W2 → TreatPost w PB CB TB C R g zs c W (.returned v) W2 := by
  rintro W1 W2 (⟨h1, h2, h3, h4⟩ | ⟨h1, h2, ⟨R', c', h3⟩, h4⟩) hs
  · obtain ⟨h5, h6⟩ := mkI_sim h3 hs hw
    exact .inl ⟨h1, h2, h5, ⟨Nat.le_trans h4.size hs.size, fun k hk hn => (hs.low k hk).trans (h4.same k hk hn), fun k hk hb => h4.bad k hk (bad_same h6 hb)⟩⟩
  · obtain ⟨h5, h6⟩ := mkI_sim h3 hs hw
    exact .inr ⟨h1, h2, ⟨R', c', h5⟩, ⟨Nat.le_trans h4.size hs.size, fun k hk hn => (hs.low k hk).trans (h4.same k hk hn), fun k hk hb => h4.bad k hk (bad_same h6 hb)⟩⟩

set_option maxRecDepth 100000 in
set_option maxHeartbeats 16000000 in
theorem treat_leaf (w : World) (PB CB TB C : Nat) (ho : Ord w PB CB TB C) (p n : Int) (l : List GT) (a : Option Addr) (cap : Nat) (R : List (List Int × Int)) (zs : List Int) (v : Value) (c : Nat) (W : World) (h0 : 0 ≤ p) (hR : R.length ≤ 64) (hc : c ≤ 64) (hI : MkI w PB CB TB C R c W) (hv : SafeF PB CB W v zs) :
    Calls Try.prog 47 #[.agg #[.int .i64 p, .int .i64 n, .slice a l.length cap], v, .pointer (some ⟨PB, 0, none⟩), .pointer (some ⟨CB, 0, none⟩), .pointer (some ⟨TB, 0, none⟩)] W (TreatPost w PB CB TB C R (.mk p n l) zs c W) := by
  have HG : Hid (genR (.mk p n l) zs c = ([(zs, p)], c)) := Lib.hid (by unfold genR; rw [if_pos h0])
  have hd0 : decide (p ≥ 0) = true := decide_eq_true h0
  have hb := below_new W #[.int .i64 p, .int .i64 n, .slice a l.length cap] 28
  have hr := World.alloc_heap_new W (.cells #[.int .i64 p, .int .i64 n, .slice a l.length cap] 28)
  obtain ⟨W1, hW1⟩ : ∃ W1, W1 = W.alloc (.cells #[.int .i64 p, .int .i64 n, .slice a l.length cap] 28) := ⟨_, rfl⟩
  rw [← hW1] at hb hr
  have HW1 := Lib.hid hW1
  have hst := StepM.of_below (CB := CB) hb hI.lt
  have HST := Lib.hid hst
  have HWS := Lib.hid hI.be.size
  have HI := Lib.hid (hI.later hb)
  have HV := Lib.hid (hv.step hst)
  obtain ⟨L1, L2, xs, p5, pT, p7, p8⟩ := HI.out.pb
  have H5 := Lib.hid p5
  have HT := Lib.hid pT
  have H8 := Lib.hid p8
  have HCS := Lib.hid HI.out.cs
  have HPC := Lib.hid ho.pc
  have HGB := Lib.hid hr
  have HOR := Lib.hid ho
  obtain ⟨vb, vo, ve, -⟩ := hv.1
  subst ve
  have x0 : W1.cell? ⟨PB, 0, none⟩ = some L1 := row_cell p5 rfl
  have x1 : W1.cell? ⟨PB, 1, none⟩ = some L2 := row_cell p5 rfl
  have xg : W1.cell? ⟨W.heap.size, 0, none⟩ = some (.int .i64 p) := row_cell hr rfl
  have HLT := Lib.hid (Array.getElem?_eq_some_iff.1 p5).1
  have HGL := Lib.hid (Array.getElem?_eq_some_iff.1 hr).1
  have HOG : Hid (L1.ownBlock ≠ some W.heap.size ∧ L2.ownBlock ≠ some W.heap.size) := Lib.hid (by
    obtain ⟨M1, M2, ys, q5, qT, -⟩ := hI.pb
    have e : W1.heap[PB]? = W.heap[PB]? := hb.block PB hI.lt
    rw [q5, p5] at e
    simp only [Option.some.injEq, Obj.cells.injEq, Array.mk.injEq, List.cons.injEq, and_true] at e
    obtain ⟨rfl, rfl⟩ := e
    exact ⟨own_ne qT.a (.inl (Nat.le_refl _)), own_ne qT.b (.inl (Nat.le_refl _))⟩)
  have HSX : Hid (∀ X, Near L1 L2 W1 X → X.cell? ⟨PB, 0, none⟩ = some L1 ∧ X.cell? ⟨PB, 1, none⟩ = some L2 ∧ X.cell? ⟨W.heap.size, 0, none⟩ = some (.int .i64 p)) := Lib.hid (fun X h => by
    have e := h.same PB HLT.out (own_ne HT.out.a (.inr HPC.out)) (own_ne HT.out.b (.inr HPC.out))
    have e2 := h.same W.heap.size HGL.out HOG.out.1 HOG.out.2
    exact ⟨row_cell (e.trans H5.out) rfl, row_cell (e.trans H5.out) rfl, row_cell (e2.trans HGB.out) rfl⟩)
  have HFX : Hid (∀ X, Near L1 L2 W1 X → X.frozen? ⟨PB, 0, none⟩ = false ∧ X.frozen? ⟨PB, 1, none⟩ = false) := Lib.hid (fun X h => by
    have e := h.same PB HLT.out (own_ne HT.out.a (.inr HPC.out)) (own_ne HT.out.b (.inr HPC.out))
    exact ⟨row_free (e.trans H5.out) 0, row_free (e.trans H5.out) 1⟩)
  have hr6 : R.length ≤ 1000000 := by omega
  clear hb hr hW1 hst hI hv p5 pT p8 ho h0
  refine calls_of_range Try.func47 rfl ?_
  simp only [Try.ntmps47, List.size_toArray, List.length_cons, List.length_nil, Nat.reduceAdd, Nat.reduceSub, Array.replicate_succ, Array.replicate_zero, List.push_toArray, List.append_toArray, List.nil_append, List.cons_append]
  go_wp2_with (rw [← HW1.out])
  try rw [← HW1.out]
  refine wp_region_noPanic ?_
  refine wp_region_L (fun W' => W'.cell? ⟨PB, 0, none⟩ = some L1 ∧ W'.cell? ⟨PB, 1, none⟩ = some L2 ∧ W'.cell? ⟨W.heap.size, 0, none⟩ = some (.int .i64 p)) [12, 13, 14] (by kernel_rfl) ?_
  obtain ⟨X0, hX0⟩ : ∃ X, X = W1.drew := ⟨_, rfl⟩
  rw [← hX0]
  have HNX : Hid (Near L1 L2 W1 X0) := Lib.hid ((Near.refl L1 L2 W1).below (hX0 ▸ (Below.refl _ _).drew))
  have HTX : Hid (Two C X0 R.length R.length L1 L2 xs (R.map fun r => .int .i64 r.2)) := Lib.hid (HT.out.keep (hX0 ▸ (Below.refl _ _).drew))
  have hS0 := HSX.out _ HNX.out
  clear hX0 x0 x1 xg
  refine takeL [1, 4, 12, 13, 14] (some 17) _ (i := 0) rfl rfl (by kernel_rfl) (by kernel_rfl) (by kernel_rfl) (fun _ _ _ h => h) (by kernel_rfl) (by kernel_rfl) (by kernel_rfl) (by kernel_rfl) (by kernel_rfl) (fun w _ => by rfl) hS0 ?_
  simp only [Act.put, List.setIfInBounds_toArray, List.set_cons_zero, List.set_cons_succ]
  refine takeL [4, 12, 13, 14] (some 18) L1 (i := 1) rfl rfl (by kernel_rfl) (by kernel_rfl) (by kernel_rfl) (fun _ _ _ h => h) (by kernel_rfl) (by kernel_rfl) (by kernel_rfl) (by kernel_rfl) (by kernel_rfl) (fun w hSw => by obtain ⟨hS1, hS2, hS3⟩ := hSw; go_simp) hS0 ?_
  simp only [Act.put, List.setIfInBounds_toArray, List.set_cons_zero, List.set_cons_succ]
  refine takeL [3, 4, 12, 13, 14] (some 19) _ (i := 2) rfl rfl (by kernel_rfl) (by kernel_rfl) (by kernel_rfl) (fun _ _ _ h => h) (by kernel_rfl) (by kernel_rfl) (by kernel_rfl) (by kernel_rfl) (by kernel_rfl) (fun w _ => by rfl) hS0 ?_
  simp only [Act.put, List.setIfInBounds_toArray, List.set_cons_zero, List.set_cons_succ]
  refine takeL [6, 12, 13, 14] (some 22) _ (i := 5) rfl rfl (by kernel_rfl) (by kernel_rfl) (by kernel_rfl) (fun _ _ _ h => h) (by kernel_rfl) (by kernel_rfl) (by kernel_rfl) (by kernel_rfl) (by kernel_rfl) (fun w _ => by rfl) hS0 ?_
  simp only [Act.put, List.setIfInBounds_toArray, List.set_cons_zero, List.set_cons_succ]
  refine takeL [12, 13, 14] (some 23) L2 (i := 6) rfl rfl (by kernel_rfl) (by kernel_rfl) (by kernel_rfl) (fun _ _ _ h => h) (by kernel_rfl) (by kernel_rfl) (by kernel_rfl) (by kernel_rfl) (by kernel_rfl) (fun w hSw => by obtain ⟨hS1, hS2, hS3⟩ := hSw; go_simp) hS0 ?_
  simp only [Act.put, List.setIfInBounds_toArray, List.set_cons_zero, List.set_cons_succ]
  refine takeL [8, 9, 10, 12, 13, 14] (some 24) _ (i := 7) rfl rfl (by kernel_rfl) (by kernel_rfl) (by kernel_rfl) (fun _ _ _ h => h) (by kernel_rfl) (by kernel_rfl) (by kernel_rfl) (by kernel_rfl) (by kernel_rfl) (fun w _ => by rfl) hS0 ?_
  simp only [Act.put, List.setIfInBounds_toArray, List.set_cons_zero, List.set_cons_succ]
  refine takeL [9, 10, 12, 13, 14] (some 25) (.int .i64 p) (i := 8) rfl rfl (by kernel_rfl) (by kernel_rfl) (by kernel_rfl) (fun _ _ _ h => h) (by kernel_rfl) (by kernel_rfl) (by kernel_rfl) (by kernel_rfl) (by kernel_rfl) (fun w hSw => by obtain ⟨hS1, hS2, hS3⟩ := hSw; go_simp) hS0 ?_
  simp only [Act.put, List.setIfInBounds_toArray, List.set_cons_zero, List.set_cons_succ]
  refine wpAnyL_ready (rs := [3, 9]) (by kernel_rfl) (by simp) ?_
  refine AllReadyL.cons rfl rfl (fun K hK => ?_) (AllReadyL.cons rfl rfl (fun K hK => ?_) AllReadyL.nil)
  · rw [if_pos (by rfl)]
    go_simp
    obtain ⟨X1, hX1⟩ : ∃ X, X = X0.alloc (.cells #[.slice (some ⟨vb, vo, none⟩) zs.length zs.length] 23) := ⟨_, rfl⟩
    rw [← hX1]
    have hbX1 : Below X0.heap.size X0 X1 := hX1 ▸ below_new _ _ _
    have HC3 : Hid (X1.cell? ⟨X0.heap.size, 0, none⟩ = some (.slice (some ⟨vb, vo, none⟩) zs.length zs.length)) := Lib.hid (by rw [hX1]; exact row_cell (World.alloc_heap_new _ _) rfl)
    replace HNX := Lib.hid (HNX.out.below hbX1)
    replace HTX := Lib.hid (HTX.out.keep hbX1)
    have hS0 := HSX.out _ HNX.out
    refine hK.out _ _ hS0 ?_
    clear hK K hX1 hbX1
    try simp only [Act.put, List.setIfInBounds_toArray, List.set_cons_zero, List.set_cons_succ]
    refine wpAnyL_ready (rs := [4, 9]) (by kernel_rfl) (by simp) ?_
    refine AllReadyL.cons rfl rfl (fun K hK => ?_) (AllReadyL.cons rfl rfl (fun K hK => ?_) AllReadyL.nil)
    · refine step_app_row (by rfl) _ _ (by rfl) C R.length L1 _ (by rfl) HTX.out.a X0.heap.size 1 (.slice (some ⟨vb, vo, none⟩) zs.length zs.length) (by rfl) HC3.out (by rfl) hr6 (Nat.le_trans HCS.out HNX.out.size) _ rfl ?_
      intro g1 cap1 X2 h9 hg9 hat9 hlt9
      have HO1 : Hid (L1.ownBlock = some g1 ∨ W1.heap.size ≤ g1) := Lib.hid (hat9.imp (fun h => h) (fun h => by rw [h]; exact HNX.out.size))
      replace HTX := Lib.hid (HTX.out.one h9 hg9 hat9)
      replace HNX := Lib.hid (HNX.out.one hg9)
      have hS0 := HSX.out _ HNX.out
      refine hK.out _ _ hS0 ?_
      clear hK K h9 hg9 hat9 hlt9
      try simp only [Act.put, List.setIfInBounds_toArray]
      refine takeL [12, 13, 14] (some 28) _ (i := 11) rfl rfl (by kernel_rfl) (by kernel_rfl) (by kernel_rfl) (fun _ _ _ h => h) (by kernel_rfl) (by kernel_rfl) (by kernel_rfl) (by kernel_rfl) (by kernel_rfl) (fun w _ => by rfl) hS0 ?_
      simp only [Act.put]
      refine wpAnyL_ready (rs := [9]) (by kernel_rfl) (by simp) ?_
      refine AllReadyL.cons rfl rfl (fun K hK => ?_) AllReadyL.nil
      have HN9 := Lib.hid (own_ne HTX.out.a (b := X2.heap.size) (.inl (Nat.le_refl _)))
      rw [if_pos (by rfl)]
      go_simp
      obtain ⟨X3, hX3⟩ : ∃ X, X = X2.alloc (.cells #[.int .i64 p] 3) := ⟨_, rfl⟩
      rw [← hX3]
      have hbX3 : Below X2.heap.size X2 X3 := hX3 ▸ below_new _ _ _
      have HC9 : Hid (X3.cell? ⟨X2.heap.size, 0, none⟩ = some (.int .i64 p)) := Lib.hid (by rw [hX3]; exact row_cell (World.alloc_heap_new _ _) rfl)
      replace HNX := Lib.hid (HNX.out.below hbX3)
      replace HTX := Lib.hid (HTX.out.keep hbX3)
      have hS0 := HSX.out _ HNX.out
      refine hK.out _ _ hS0 ?_
      clear hK K hX3 hbX3
      try simp only [Act.put, List.setIfInBounds_toArray, List.set_cons_zero, List.set_cons_succ]
      refine wpAnyL_ready (rs := [10]) (by kernel_rfl) (by simp) ?_
      refine AllReadyL.cons rfl rfl (fun K hK => ?_) AllReadyL.nil
      refine step_app_int (by rfl) _ _ (by rfl) C R.length L2 _ (by rfl) HTX.out.b X2.heap.size 1 p (by rfl) HC9.out hr6 (Nat.le_trans HCS.out HNX.out.size) _ rfl ?_
      intro g2 cap2 X4 h9 hg9 hat9 hlt9
      have HO2 : Hid (L2.ownBlock = some g2 ∨ W1.heap.size ≤ g2) := Lib.hid (hat9.imp (fun h => h) (fun h => by rw [h]; exact HNX.out.size))
      replace HTX := Lib.hid (HTX.out.two h9 hg9 hat9)
      replace HNX := Lib.hid (HNX.out.two hg9)
      have hS0 := HSX.out _ HNX.out
      refine hK.out _ _ hS0 ?_
      clear hK K h9 hg9 hat9 hlt9
      try simp only [Act.put]
      refine wpAnyL_ready (rs := [12]) (by kernel_rfl) (by simp) ?_
      refine AllReadyL.late rfl rfl (fun K hK => ?_) AllReadyL.nil
      obtain ⟨y0, y1, -⟩ := HSX.out _ HNX.out
      obtain ⟨f0, f1⟩ := HFX.out _ HNX.out
      rw [if_pos (by rfl)]
      go_simp
      refine hK.out _ _ ?_
      clear hK K
      try simp only [Act.put, List.setIfInBounds_toArray, List.set_cons_zero, List.set_cons_succ]
      refine wpAnyL_ready (rs := [13]) (by kernel_rfl) (by simp) ?_
      refine AllReadyL.late rfl rfl (fun K hK => ?_) AllReadyL.nil
      rw [if_pos (by rfl)]
      go_simp
      refine hK.out _ _ ?_
      clear hK K
      try simp only [Act.put, List.setIfInBounds_toArray, List.set_cons_zero, List.set_cons_succ]
      refine wpAnyL_ready (rs := [14]) (by kernel_rfl) (by simp) ?_
      refine AllReadyL.late rfl rfl (fun K hK => ?_) AllReadyL.nil
      have y3 : (X4.setCell ⟨PB, 0, none⟩ (.slice (some ⟨g1, 0, none⟩) (R.length + 1) cap1)).cell? ⟨PB, 1, none⟩ = some L2 := by rw [World.cell?_setCell_other _ _ _ _ (by intro e; cases e)]; exact y1
      have f3 : (X4.setCell ⟨PB, 0, none⟩ (.slice (some ⟨g1, 0, none⟩) (R.length + 1) cap1)).frozen? ⟨PB, 1, none⟩ = false := by rw [World.frozen?_setCell]; exact f1
      rw [if_pos (by rfl)]
      go_simp
      refine hK.out _ _ ?_
      clear hK K
      try simp only [Act.put, List.setIfInBounds_toArray, List.set_cons_zero, List.set_cons_succ]
      refine wpAnyL_done (by kernel_rfl) ?_ _
      refine NoPanic.normal ?_
      obtain ⟨hM, hSt⟩ := MkI.leaf (p := p) (xs := xs) HOR.out HI.out H5.out p7 H8.out HV.out HT.out HNX.out HTX.out HO1.out HO2.out
      have z0 : ((X4.setCell ⟨PB, 0, none⟩ (.slice (some ⟨g1, 0, none⟩) (R.length + 1) cap1)).setCell ⟨PB, 1, none⟩ (.slice (some ⟨g2, 0, none⟩) (R.length + 1) cap2)).cell? ⟨PB, 0, none⟩ = some (.slice (some ⟨g1, 0, none⟩) (R.length + 1) cap1) := by
        rw [World.cell?_setCell_other _ _ _ _ (by intro e; cases e)]
        exact World.cell?_setCell_same' _ _ _ (by rw [(HSX.out _ HNX.out).1]; rfl)
      have HM := Lib.hid hM
      have HSt := Lib.hid (HST.out.trans hSt)
      clear hM hSt
      by_cases h64 : R.length + 1 ≤ 64
      · have hd : decide (((R.length : Nat) : Int) + 1 ≤ 64) = true := decide_eq_true (by omega)
        have HFI : Hid (FitsM R (.mk p n l) zs c) := Lib.hid (by unfold FitsM; rw [HG.out]; exact ⟨by simpa using h64, hc⟩)
        go_wp2_with fail
        refine leaves_marks (B := W.heap.size) (v := .bool true) (fun w => results_tmp (t := 7) rfl _ _ _) ?_ [] _ trivial (.inl ⟨rfl, HFI.out, by rw [HG.out]; exact HM.out, HSt.out⟩)
        exact treat_sim HWS.out
      · have hd : decide (((R.length : Nat) : Int) + 1 ≤ 64) = false := decide_eq_false (by omega)
        have HFI : Hid (¬ FitsM R (.mk p n l) zs c) := Lib.hid (by unfold FitsM; rw [HG.out]; intro h; exact h64 (by simpa using h.1))
        go_wp2_with fail
        refine leaves_marks (B := W.heap.size) (v := .bool false) (fun w => results_tmp (t := 7) rfl _ _ _) ?_ [] _ trivial (.inr ⟨rfl, HFI.out, ⟨_, _, HM.out⟩, HSt.out⟩)
        exact treat_sim HWS.out
    · have HN9 := Lib.hid (own_ne HTX.out.a (b := X1.heap.size) (.inl (Nat.le_refl _)))
      rw [if_pos (by rfl)]
      go_simp
      obtain ⟨X2, hX2⟩ : ∃ X, X = X1.alloc (.cells #[.int .i64 p] 3) := ⟨_, rfl⟩
      rw [← hX2]
      have hbX2 : Below X1.heap.size X1 X2 := hX2 ▸ below_new _ _ _
      have HC9 : Hid (X2.cell? ⟨X1.heap.size, 0, none⟩ = some (.int .i64 p)) := Lib.hid (by rw [hX2]; exact row_cell (World.alloc_heap_new _ _) rfl)
      replace HC3 := Lib.hid (below_cell hbX2 HC3.out)
      replace HNX := Lib.hid (HNX.out.below hbX2)
      replace HTX := Lib.hid (HTX.out.keep hbX2)
      have hS0 := HSX.out _ HNX.out
      refine hK.out _ _ hS0 ?_
      clear hK K hX2 hbX2
      try simp only [Act.put, List.setIfInBounds_toArray, List.set_cons_zero, List.set_cons_succ]
      refine wpAnyL_ready (rs := [4]) (by kernel_rfl) (by simp) ?_
      refine AllReadyL.cons rfl rfl (fun K hK => ?_) AllReadyL.nil
      refine step_app_row (by rfl) _ _ (by rfl) C R.length L1 _ (by rfl) HTX.out.a X0.heap.size 1 (.slice (some ⟨vb, vo, none⟩) zs.length zs.length) (by rfl) HC3.out (by rfl) hr6 (Nat.le_trans HCS.out HNX.out.size) _ rfl ?_
      intro g1 cap1 X3 h9 hg9 hat9 hlt9
      replace HC9 : Hid (X3.cell? ⟨X1.heap.size, 0, none⟩ = some (.int .i64 p)) := Lib.hid ((World.cell?_of_block (a := ⟨X1.heap.size, 0, none⟩) (hg9.block _ (lt_of_cell HC9.out) (fun e => HN9.out e.symm))).trans HC9.out)
      have HO1 : Hid (L1.ownBlock = some g1 ∨ W1.heap.size ≤ g1) := Lib.hid (hat9.imp (fun h => h) (fun h => by rw [h]; exact HNX.out.size))
      replace HTX := Lib.hid (HTX.out.one h9 hg9 hat9)
      replace HNX := Lib.hid (HNX.out.one hg9)
      have hS0 := HSX.out _ HNX.out
      refine hK.out _ _ hS0 ?_
      clear hK K h9 hg9 hat9 hlt9
      try simp only [Act.put, List.setIfInBounds_toArray]
      refine takeL [12, 13, 14] (some 28) _ (i := 11) rfl rfl (by kernel_rfl) (by kernel_rfl) (by kernel_rfl) (fun _ _ _ h => h) (by kernel_rfl) (by kernel_rfl) (by kernel_rfl) (by kernel_rfl) (by kernel_rfl) (fun w _ => by rfl) hS0 ?_
      simp only [Act.put]
      refine wpAnyL_ready (rs := [10]) (by kernel_rfl) (by simp) ?_
      refine AllReadyL.cons rfl rfl (fun K hK => ?_) AllReadyL.nil
      refine step_app_int (by rfl) _ _ (by rfl) C R.length L2 _ (by rfl) HTX.out.b X1.heap.size 1 p (by rfl) HC9.out hr6 (Nat.le_trans HCS.out HNX.out.size) _ rfl ?_
      intro g2 cap2 X4 h9 hg9 hat9 hlt9
      have HO2 : Hid (L2.ownBlock = some g2 ∨ W1.heap.size ≤ g2) := Lib.hid (hat9.imp (fun h => h) (fun h => by rw [h]; exact HNX.out.size))
      replace HTX := Lib.hid (HTX.out.two h9 hg9 hat9)
      replace HNX := Lib.hid (HNX.out.two hg9)
      have hS0 := HSX.out _ HNX.out
      refine hK.out _ _ hS0 ?_
      clear hK K h9 hg9 hat9 hlt9
      try simp only [Act.put]
      refine wpAnyL_ready (rs := [12]) (by kernel_rfl) (by simp) ?_
      refine AllReadyL.late rfl rfl (fun K hK => ?_) AllReadyL.nil
      obtain ⟨y0, y1, -⟩ := HSX.out _ HNX.out
      obtain ⟨f0, f1⟩ := HFX.out _ HNX.out
      rw [if_pos (by rfl)]
      go_simp
      refine hK.out _ _ ?_
      clear hK K
      try simp only [Act.put, List.setIfInBounds_toArray, List.set_cons_zero, List.set_cons_succ]
      refine wpAnyL_ready (rs := [13]) (by kernel_rfl) (by simp) ?_
      refine AllReadyL.late rfl rfl (fun K hK => ?_) AllReadyL.nil
      rw [if_pos (by rfl)]
      go_simp
      refine hK.out _ _ ?_
      clear hK K
      try simp only [Act.put, List.setIfInBounds_toArray, List.set_cons_zero, List.set_cons_succ]
      refine wpAnyL_ready (rs := [14]) (by kernel_rfl) (by simp) ?_
      refine AllReadyL.late rfl rfl (fun K hK => ?_) AllReadyL.nil
      have y3 : (X4.setCell ⟨PB, 0, none⟩ (.slice (some ⟨g1, 0, none⟩) (R.length + 1) cap1)).cell? ⟨PB, 1, none⟩ = some L2 := by rw [World.cell?_setCell_other _ _ _ _ (by intro e; cases e)]; exact y1
      have f3 : (X4.setCell ⟨PB, 0, none⟩ (.slice (some ⟨g1, 0, none⟩) (R.length + 1) cap1)).frozen? ⟨PB, 1, none⟩ = false := by rw [World.frozen?_setCell]; exact f1
      rw [if_pos (by rfl)]
      go_simp
      refine hK.out _ _ ?_
      clear hK K
      try simp only [Act.put, List.setIfInBounds_toArray, List.set_cons_zero, List.set_cons_succ]
      refine wpAnyL_done (by kernel_rfl) ?_ _
      refine NoPanic.normal ?_
      obtain ⟨hM, hSt⟩ := MkI.leaf (p := p) (xs := xs) HOR.out HI.out H5.out p7 H8.out HV.out HT.out HNX.out HTX.out HO1.out HO2.out
      have z0 : ((X4.setCell ⟨PB, 0, none⟩ (.slice (some ⟨g1, 0, none⟩) (R.length + 1) cap1)).setCell ⟨PB, 1, none⟩ (.slice (some ⟨g2, 0, none⟩) (R.length + 1) cap2)).cell? ⟨PB, 0, none⟩ = some (.slice (some ⟨g1, 0, none⟩) (R.length + 1) cap1) := by
        rw [World.cell?_setCell_other _ _ _ _ (by intro e; cases e)]
        exact World.cell?_setCell_same' _ _ _ (by rw [(HSX.out _ HNX.out).1]; rfl)
      have HM := Lib.hid hM
      have HSt := Lib.hid (HST.out.trans hSt)
      clear hM hSt
      by_cases h64 : R.length + 1 ≤ 64
      · have hd : decide (((R.length : Nat) : Int) + 1 ≤ 64) = true := decide_eq_true (by omega)
        have HFI : Hid (FitsM R (.mk p n l) zs c) := Lib.hid (by unfold FitsM; rw [HG.out]; exact ⟨by simpa using h64, hc⟩)
        go_wp2_with fail
        refine leaves_marks (B := W.heap.size) (v := .bool true) (fun w => results_tmp (t := 7) rfl _ _ _) ?_ [] _ trivial (.inl ⟨rfl, HFI.out, by rw [HG.out]; exact HM.out, HSt.out⟩)
        exact treat_sim HWS.out
      · have hd : decide (((R.length : Nat) : Int) + 1 ≤ 64) = false := decide_eq_false (by omega)
        have HFI : Hid (¬ FitsM R (.mk p n l) zs c) := Lib.hid (by unfold FitsM; rw [HG.out]; intro h; exact h64 (by simpa using h.1))
        go_wp2_with fail
        refine leaves_marks (B := W.heap.size) (v := .bool false) (fun w => results_tmp (t := 7) rfl _ _ _) ?_ [] _ trivial (.inr ⟨rfl, HFI.out, ⟨_, _, HM.out⟩, HSt.out⟩)
        exact treat_sim HWS.out
  · have HN9 := Lib.hid (own_ne HTX.out.a (b := X0.heap.size) (.inl (Nat.le_refl _)))
    rw [if_pos (by rfl)]
    go_simp
    obtain ⟨X1, hX1⟩ : ∃ X, X = X0.alloc (.cells #[.int .i64 p] 3) := ⟨_, rfl⟩
    rw [← hX1]
    have hbX1 : Below X0.heap.size X0 X1 := hX1 ▸ below_new _ _ _
    have HC9 : Hid (X1.cell? ⟨X0.heap.size, 0, none⟩ = some (.int .i64 p)) := Lib.hid (by rw [hX1]; exact row_cell (World.alloc_heap_new _ _) rfl)
    replace HNX := Lib.hid (HNX.out.below hbX1)
    replace HTX := Lib.hid (HTX.out.keep hbX1)
    have hS0 := HSX.out _ HNX.out
    refine hK.out _ _ hS0 ?_
    clear hK K hX1 hbX1
    try simp only [Act.put, List.setIfInBounds_toArray, List.set_cons_zero, List.set_cons_succ]
    refine wpAnyL_ready (rs := [3]) (by kernel_rfl) (by simp) ?_
    refine AllReadyL.cons rfl rfl (fun K hK => ?_) AllReadyL.nil
    rw [if_pos (by rfl)]
    go_simp
    obtain ⟨X2, hX2⟩ : ∃ X, X = X1.alloc (.cells #[.slice (some ⟨vb, vo, none⟩) zs.length zs.length] 23) := ⟨_, rfl⟩
    rw [← hX2]
    have hbX2 : Below X1.heap.size X1 X2 := hX2 ▸ below_new _ _ _
    have HC3 : Hid (X2.cell? ⟨X1.heap.size, 0, none⟩ = some (.slice (some ⟨vb, vo, none⟩) zs.length zs.length)) := Lib.hid (by rw [hX2]; exact row_cell (World.alloc_heap_new _ _) rfl)
    replace HC9 := Lib.hid (below_cell hbX2 HC9.out)
    replace HNX := Lib.hid (HNX.out.below hbX2)
    replace HTX := Lib.hid (HTX.out.keep hbX2)
    have hS0 := HSX.out _ HNX.out
    refine hK.out _ _ hS0 ?_
    clear hK K hX2 hbX2
    try simp only [Act.put, List.setIfInBounds_toArray, List.set_cons_zero, List.set_cons_succ]
    refine wpAnyL_ready (rs := [4]) (by kernel_rfl) (by simp) ?_
    refine AllReadyL.cons rfl rfl (fun K hK => ?_) AllReadyL.nil
    refine step_app_row (by rfl) _ _ (by rfl) C R.length L1 _ (by rfl) HTX.out.a X1.heap.size 1 (.slice (some ⟨vb, vo, none⟩) zs.length zs.length) (by rfl) HC3.out (by rfl) hr6 (Nat.le_trans HCS.out HNX.out.size) _ rfl ?_
    intro g1 cap1 X3 h9 hg9 hat9 hlt9
    replace HC9 : Hid (X3.cell? ⟨X0.heap.size, 0, none⟩ = some (.int .i64 p)) := Lib.hid ((World.cell?_of_block (a := ⟨X0.heap.size, 0, none⟩) (hg9.block _ (lt_of_cell HC9.out) (fun e => HN9.out e.symm))).trans HC9.out)
    have HO1 : Hid (L1.ownBlock = some g1 ∨ W1.heap.size ≤ g1) := Lib.hid (hat9.imp (fun h => h) (fun h => by rw [h]; exact HNX.out.size))
    replace HTX := Lib.hid (HTX.out.one h9 hg9 hat9)
    replace HNX := Lib.hid (HNX.out.one hg9)
    have hS0 := HSX.out _ HNX.out
    refine hK.out _ _ hS0 ?_
    clear hK K h9 hg9 hat9 hlt9
    try simp only [Act.put, List.setIfInBounds_toArray]
    refine takeL [12, 13, 14] (some 28) _ (i := 11) rfl rfl (by kernel_rfl) (by kernel_rfl) (by kernel_rfl) (fun _ _ _ h => h) (by kernel_rfl) (by kernel_rfl) (by kernel_rfl) (by kernel_rfl) (by kernel_rfl) (fun w _ => by rfl) hS0 ?_
    simp only [Act.put]
    refine wpAnyL_ready (rs := [10]) (by kernel_rfl) (by simp) ?_
    refine AllReadyL.cons rfl rfl (fun K hK => ?_) AllReadyL.nil
    refine step_app_int (by rfl) _ _ (by rfl) C R.length L2 _ (by rfl) HTX.out.b X0.heap.size 1 p (by rfl) HC9.out hr6 (Nat.le_trans HCS.out HNX.out.size) _ rfl ?_
    intro g2 cap2 X4 h9 hg9 hat9 hlt9
    have HO2 : Hid (L2.ownBlock = some g2 ∨ W1.heap.size ≤ g2) := Lib.hid (hat9.imp (fun h => h) (fun h => by rw [h]; exact HNX.out.size))
    replace HTX := Lib.hid (HTX.out.two h9 hg9 hat9)
    replace HNX := Lib.hid (HNX.out.two hg9)
    have hS0 := HSX.out _ HNX.out
    refine hK.out _ _ hS0 ?_
    clear hK K h9 hg9 hat9 hlt9
    try simp only [Act.put]
    refine wpAnyL_ready (rs := [12]) (by kernel_rfl) (by simp) ?_
    refine AllReadyL.late rfl rfl (fun K hK => ?_) AllReadyL.nil
    obtain ⟨y0, y1, -⟩ := HSX.out _ HNX.out
    obtain ⟨f0, f1⟩ := HFX.out _ HNX.out
    rw [if_pos (by rfl)]
    go_simp
    refine hK.out _ _ ?_
    clear hK K
    try simp only [Act.put, List.setIfInBounds_toArray, List.set_cons_zero, List.set_cons_succ]
    refine wpAnyL_ready (rs := [13]) (by kernel_rfl) (by simp) ?_
    refine AllReadyL.late rfl rfl (fun K hK => ?_) AllReadyL.nil
    rw [if_pos (by rfl)]
    go_simp
    refine hK.out _ _ ?_
    clear hK K
    try simp only [Act.put, List.setIfInBounds_toArray, List.set_cons_zero, List.set_cons_succ]
    refine wpAnyL_ready (rs := [14]) (by kernel_rfl) (by simp) ?_
    refine AllReadyL.late rfl rfl (fun K hK => ?_) AllReadyL.nil
    have y3 : (X4.setCell ⟨PB, 0, none⟩ (.slice (some ⟨g1, 0, none⟩) (R.length + 1) cap1)).cell? ⟨PB, 1, none⟩ = some L2 := by rw [World.cell?_setCell_other _ _ _ _ (by intro e; cases e)]; exact y1
    have f3 : (X4.setCell ⟨PB, 0, none⟩ (.slice (some ⟨g1, 0, none⟩) (R.length + 1) cap1)).frozen? ⟨PB, 1, none⟩ = false := by rw [World.frozen?_setCell]; exact f1
    rw [if_pos (by rfl)]
    go_simp
    refine hK.out _ _ ?_
    clear hK K
    try simp only [Act.put, List.setIfInBounds_toArray, List.set_cons_zero, List.set_cons_succ]
    refine wpAnyL_done (by kernel_rfl) ?_ _
    refine NoPanic.normal ?_
    obtain ⟨hM, hSt⟩ := MkI.leaf (p := p) (xs := xs) HOR.out HI.out H5.out p7 H8.out HV.out HT.out HNX.out HTX.out HO1.out HO2.out
    have z0 : ((X4.setCell ⟨PB, 0, none⟩ (.slice (some ⟨g1, 0, none⟩) (R.length + 1) cap1)).setCell ⟨PB, 1, none⟩ (.slice (some ⟨g2, 0, none⟩) (R.length + 1) cap2)).cell? ⟨PB, 0, none⟩ = some (.slice (some ⟨g1, 0, none⟩) (R.length + 1) cap1) := by
      rw [World.cell?_setCell_other _ _ _ _ (by intro e; cases e)]
      exact World.cell?_setCell_same' _ _ _ (by rw [(HSX.out _ HNX.out).1]; rfl)
    have HM := Lib.hid hM
    have HSt := Lib.hid (HST.out.trans hSt)
    clear hM hSt
    by_cases h64 : R.length + 1 ≤ 64
    · have hd : decide (((R.length : Nat) : Int) + 1 ≤ 64) = true := decide_eq_true (by omega)
      have HFI : Hid (FitsM R (.mk p n l) zs c) := Lib.hid (by unfold FitsM; rw [HG.out]; exact ⟨by simpa using h64, hc⟩)
      go_wp2_with fail
      refine leaves_marks (B := W.heap.size) (v := .bool true) (fun w => results_tmp (t := 7) rfl _ _ _) ?_ [] _ trivial (.inl ⟨rfl, HFI.out, by rw [HG.out]; exact HM.out, HSt.out⟩)
      exact treat_sim HWS.out
    · have hd : decide (((R.length : Nat) : Int) + 1 ≤ 64) = false := decide_eq_false (by omega)
      have HFI : Hid (¬ FitsM R (.mk p n l) zs c) := Lib.hid (by unfold FitsM; rw [HG.out]; intro h; exact h64 (by simpa using h.1))
      go_wp2_with fail
      refine leaves_marks (B := W.heap.size) (v := .bool false) (fun w => results_tmp (t := 7) rfl _ _ _) ?_ [] _ trivial (.inr ⟨rfl, HFI.out, ⟨_, _, HM.out⟩, HSt.out⟩)
      exact treat_sim HWS.out

end Go.Proofs.Ytohebkpgjaaljaa

namespace Go.Proofs.Ytohebkpgjaaljaa
open Go.RowKit

attribute [local go_sem] Oper.semAt_some

theorem wpListIn_append_run {F : Fence} {n : Nat} {P : Program} (w : World) {ops : Array Oper} {rest : List Oper} {o : Oper} {a : Act} {Q : Exit → Act → World → Prop}
    (hg : o.guard = none) (s x : Operand) (t tn : TypeId) (hop : o.op = Op.call { callee := Callee.builtin Builtin.append, args := #[s, x], argTypes := #[t, tn] })
    (vs vx : Value) (hs : a.eval s = vs) (hx : a.eval x = vx) (v' : Value) (w' : World) (hrun : (Builtin.append_ #[t, tn] o.type #[vs, vx]).run P w = .ok v' w')
    (hK : wpListIn F n P ops Q rest (a.put o.dst v') w') : wpListIn F n P ops Q (o :: rest) a w := by
  refine wpListIn_plain hg fun K hK' => ?_
  unfold Oper.wpIn
  refine ⟨?_, ?_⟩
  · simp [Oper.about, hop, resolve, Target.leads, Sem.run_pure]
  · rw [Oper.semAt_plain F _ _ (by rw [hop]; intro c hc'; cases hc')]
    simp [execOp, hop, resolve, invoke, builtin, hs, hx, hrun, Result.andThen]
    exact hK' _ _ hK

theorem genL_part : ∀ (l : List GT) (i : Nat) (b : List Int) (m c k : Nat), (genL (l.take k) i b m c).1.length ≤ (genL l i b m c).1.length ∧ (genL (l.take k) i b m c).2 ≤ (genL l i b m c).2
  | [], i, b, m, c, k => by rw [List.take_nil]; exact ⟨Nat.le_refl _, Nat.le_refl _⟩
  | x :: t, i, b, m, c, 0 => by
    rw [List.take_zero]
    have := genL_cols (x :: t) i b m c
    unfold genL
    unfold genL at this
    exact ⟨Nat.zero_le _, this⟩
  | x :: t, i, b, m, c, k + 1 => by
    rw [List.take_succ_cons, genL, genL]
    have := genL_part t (i + 1) b m (genR x (b ++ powL (i + 1) m) c).2 k
    simp only [List.length_append]
    omega

set_option maxRecDepth 100000 in
theorem app_zero_none (w : World) (a : Option Addr) (n cap : Nat) (hc : n ≤ cap) : (Builtin.append_ #[23, 3] 23 #[.slice a n cap, .int .i64 0]).run Try.prog w = .ok (.slice a n cap) w := by
  obtain ⟨i, hi, hz, hs, hb⟩ := info_parts infoInt
  have hw : IntKind.i64.wrap (0 : Int) = 0 := by rw [IntKind.wrap_i64]; omega
  cases a <;> simp [Builtin.append_, run_underlying Try.underlying23, run_underlying Try.underlying3, sizeOf, typeInfo, zeroValue, hi, hz, asInt, asIntOf, hw, hc, storeCells]

set_option maxRecDepth 100000 in
/-- What a slice with zeros behind it begins with. -/
theorem base_any (w : World) (PB CB TB C : Nat) (R : List (List Int × Int)) (c0 : Int) (W : World) (v : Value) (zs : List Int) (c : Nat) (hI : MkI w PB CB TB C R c0 W) (hv : SafeF PB CB W v zs) (hz : zs.length ≤ c) (hc : c ≤ 64) (hCB : CB < W.heap.size) :
    ∃ bb off cap W', (Builtin.append_ #[23, 3] 23 #[v, .int .i64 ((c - zs.length : Nat) : Int)]).run Try.prog W = .ok (.slice (some ⟨bb, off, none⟩) c cap) W' ∧ Below W.heap.size W W' ∧ c ≤ cap ∧ SafeF PB CB W' (.slice (some ⟨bb, off, none⟩) c c) (zs ++ List.replicate (c - zs.length) 0) := by
  by_cases hk : c - zs.length = 0
  · have he : zs.length = c := by omega
    obtain ⟨b, off, rfl, h1, h2, h3⟩ := hv.1
    rw [hk, he]
    refine ⟨b, off, c, W, app_zero_none W _ c c (Nat.le_refl _), Below.refl _ _, Nat.le_refl _, ?_⟩
    rw [List.replicate_zero, List.append_nil, ← he]
    exact hv
  · obtain ⟨v', W', hrun, hb, ho⟩ := app_full_zeros W v zs hv.1 (c - zs.length) (by omega) (by omega)
    rw [show zs.length + (c - zs.length) = c by omega] at ho
    have hl : (zs ++ List.replicate (c - zs.length) 0).length = c := by simp; omega
    have hpos : 0 < c := by omega
    rcases ho.2 with ⟨-, h0⟩ | ⟨g, cap, cur, rfl, hbg, hg, hnc, -, hcs, hcur⟩
    · omega
    · refine ⟨g, 0, cap, W', hrun, hb, hnc, ⟨⟨g, 0, by rw [hl], fun e => by rw [e] at hl; simp at hl; omega, ?_, ?_⟩, _, _, _, _, rfl, (Array.getElem?_eq_some_iff.1 hg).1, ?_⟩⟩
      · intro z hz2
        rcases List.mem_append.1 hz2 with h | h
        · obtain ⟨_, _, _, _, h2, _⟩ := hv.1
          exact h2 z h
        · rw [(List.mem_replicate.1 h).2]; exact R64.mk (by omega) (by omega)
      · intro k hk2
        have e : cur.toList[k]? = some (.int .i64 (zs ++ List.replicate (c - zs.length) 0)[k]) := by
          have e2 : (cur.toList.take (c * 1))[k]? = some (.int .i64 (zs ++ List.replicate (c - zs.length) 0)[k]) := by rw [hcur, List.getElem?_map, List.getElem?_eq_getElem hk2]; rfl
          rwa [List.getElem?_take, if_pos (by omega)] at e2
        rw [Nat.zero_add]
        exact row_cell hg (by rw [← Array.getElem?_toList]; exact e)
      · have hlt := hI.lt
        obtain ⟨L1, L2, xs, h5, h6, -⟩ := hI.pb
        rintro (e | e | ⟨M1, M2, h, e⟩)
        · omega
        · omega
        · rw [hb.block PB hlt, h5] at h
          simp only [Option.some.injEq, Obj.cells.injEq, Array.mk.injEq, List.cons.injEq, and_true] at h
          obtain ⟨rfl, rfl⟩ := h
          rcases e with e | e
          · have := (own_lt h6.a g e).2; omega
          · have := (own_lt h6.b g e).2; omega

theorem bad_cells {w : World} {PB CB TB C : Nat} {R : List (List Int × Int)} {c : Int} {W : World} (hI : MkI w PB CB TB C R c W) {k : Nat} (h : Bad PB CB W k) : ∃ o, W.heap[k]? = some o ∧ o.isCells = true := by
  obtain ⟨L1, L2, xs, h5, h6, -⟩ := hI.pb
  rcases h with rfl | rfl | ⟨M1, M2, h, e⟩
  · exact ⟨_, h5, rfl⟩
  · exact ⟨_, hI.cb, rfl⟩
  · rw [h5] at h
    simp only [Option.some.injEq, Obj.cells.injEq, Array.mk.injEq, List.cons.injEq, and_true] at h
    obtain ⟨rfl, rfl⟩ := h
    rcases e with e | e
    · rcases h6.a.2 with ⟨rfl, -⟩ | ⟨g, cap, cur, rfl, -, hg, -⟩
      · cases e
      · have : g = k := by injection e
        subst this; exact ⟨_, hg, rfl⟩
    · rcases h6.b.2 with ⟨rfl, -⟩ | ⟨g, cap, cur, rfl, -, hg, -⟩
      · cases e
      · have : g = k := by injection e
        subst this; exact ⟨_, hg, rfl⟩
theorem marks_step {w : World} {PB CB TB C : Nat} {R : List (List Int × Int)} {c : Int} {W W' : World} (hI : MkI w PB CB TB C R c W) (hs : StepM PB CB W W') {B : Nat} : ∀ {ds : List Deferred}, Marks B W ds → Marks B W' ds
  | [], _ => trivial
  | d :: ds, ⟨⟨D, h1, hB, h2, h3⟩, hr⟩ => ⟨⟨D, h1, hB, (hs.same D (Array.getElem?_eq_some_iff.1 h2).1 (fun hb => by
      obtain ⟨o, ho, hc⟩ := bad_cells hI hb
      rw [h2] at ho; cases ho; cases hc)).trans h2, h3⟩, marks_step hI hs hr⟩

/-- The powers that have been appended. -/
structure PwI (W5 : World) (VB : Nat) (Ls : Value) (zs : List Int) (x : Nat) (j : Nat) (X : World) : Prop where
  os : X.os = W5.os
  tape : X.tape = W5.tape
  output : X.output = W5.output
  size : W5.heap.size ≤ X.heap.size
  same : ∀ k, k < W5.heap.size → k ≠ VB → X.heap[k]? = W5.heap[k]?
  row : ∃ L, X.heap[VB]? = some (.cells #[L] 23 (0, 0)) ∧ ((j = 0 ∧ L = Ls) ∨ (0 < j ∧ X.ownsRow W5.heap.size 3 1 L (zs.length + j) ((zs ++ powL x j).map (Value.int .i64))))
theorem pwI_sim {W5 : World} {VB : Nat} {Ls : Value} {zs : List Int} {x j : Nat} {X X' : World} (h : PwI W5 VB Ls zs x j X) (hs : Sim W5.heap.size X X') : PwI W5 VB Ls zs x j X' := by
  obtain ⟨h1, h2, h3, h4, h5, L, h6, h7⟩ := h
  refine ⟨hs.os.trans h1, hs.tape.trans h2, hs.output.trans h3, Nat.le_trans h4 hs.size, fun k hk hn => (hs.low k hk).trans (h5 k hk hn), L, hs.cells _ _ h6 rfl, ?_⟩
  rcases h7 with h7 | h7
  · exact .inl h7
  · exact .inr ⟨h7.1, own_sim h7.2 hs⟩
theorem powL_snoc (x m : Nat) : powL x (m + 1) = powL x m ++ [(x : Int) ^ (m + 1) % 1073741789] := by
  unfold powL; rw [List.range_succ, List.map_append]; rfl

set_option maxRecDepth 100000 in
/-- One power is appended. -/
theorem pw_append {W5 : World} {VB : Nat} {Ls : Value} {zs : List Int} {x j : Nat} {X : World} {L : Value} (hF : FullI W5 Ls zs) (hVB : VB < W5.heap.size) (hls : ∀ b off n c, Ls = .slice (some ⟨b, off, none⟩) n c → b < W5.heap.size ∧ b ≠ VB) (h : PwI W5 VB Ls zs x j X) (hr : X.heap[VB]? = some (.cells #[L] 23 (0, 0))) (hl : zs.length + j ≤ 900) (z : Int) (hz : z = (x : Int) ^ (j + 1) % 1073741789)
    (b2 c2 : Nat) (X1 : World) (hX : Below X.heap.size X X1) (hc : X1.cell? ⟨b2, 0, none⟩ = some (.int .i64 z)) :
    ∃ a k cp X2, (Builtin.append_ #[23, 23] 23 #[L, .slice (some ⟨b2, 0, none⟩) 1 c2]).run Try.prog X1 = .ok (.slice a k cp) X2 ∧ X1.heap.size ≤ X2.heap.size ∧ KeepsOthers X1 X2 ∧ X2.heap[VB]? = some (.cells #[L] 23 (0, 0)) ∧ PwI W5 VB Ls zs x (j + 1) (X2.setCell ⟨VB, 0, none⟩ (.slice a k cp)) := by
  obtain ⟨h1, h2, h3, h4, h5, L', h6, h7⟩ := h
  rw [hr] at h6
  simp only [Option.some.injEq, Obj.cells.injEq, Array.mk.injEq, List.cons.injEq, and_true] at h6
  subst h6
  have hXs := hX.size
  have hr1 : X1.heap[VB]? = some (.cells #[L] 23 (0, 0)) := (hX.block VB (by omega)).trans hr
  have key : ∀ (a : Option Addr) (k cp : Nat) (X2 : World), X1.heap.size ≤ X2.heap.size → X2.os = X1.os → X2.tape = X1.tape → X2.output = X1.output → (∀ i, i < W5.heap.size → X2.heap[i]? = X1.heap[i]?) → X2.ownsRow W5.heap.size 3 1 (.slice a k cp) (zs.length + (j + 1)) ((zs ++ powL x (j + 1)).map (Value.int .i64)) →
      X2.heap[VB]? = some (.cells #[L] 23 (0, 0)) ∧ PwI W5 VB Ls zs x (j + 1) (X2.setCell ⟨VB, 0, none⟩ (.slice a k cp)) := fun a k cp X2 e1 e2 e3 e4 e5 e6 => by
    have r2 := (e5 VB hVB).trans hr1
    refine ⟨r2, ⟨e2.trans (hX.os.trans h1), e3.trans (hX.tape.trans h2), e4.trans (hX.output.trans h3), by simp [World.setCell]; omega, fun i hi hn => ?_, _, row_set r2 0 _, .inr ⟨by omega, own_keep_set e6 hVB _⟩⟩⟩
    rw [Below.heap_setCell _ _ _ _ hn, e5 i hi, hX.block i (by omega), h5 i hi hn]
  rcases h7 with ⟨rfl, rfl⟩ | ⟨hj, ho⟩
  · have hF1 : FullI X1 L zs := by
      obtain ⟨b, off, rfl, f1, f2, f3⟩ := hF
      obtain ⟨g1, g2⟩ := hls _ _ _ _ rfl
      exact ⟨b, off, rfl, f1, f2, fun k hk => by
        rw [World.cell?_of_block (a := ⟨b, off + k, none⟩) (w := W5) ((hX.block b (by omega)).trans (h5 b g1 g2))]; exact f3 k hk⟩
    obtain ⟨v', X2, hrun, hb, hown⟩ := app_full_one X1 L zs hF1 z b2 c2 hc (by omega)
    obtain ⟨a, k, cp, rfl⟩ := own_is hown
    have hown2 : X2.ownsRow W5.heap.size 3 1 (.slice a k cp) (zs.length + (0 + 1)) ((zs ++ powL x (0 + 1)).map (Value.int .i64)) := by
      have e : powL x (0 + 1) = [z] := by rw [hz]; rfl
      rw [e]
      exact own_low hown (by omega)
    obtain ⟨q1, q2⟩ := key a k cp X2 hb.size hb.os hb.tape hb.output (fun i hi => hb.block i (by omega)) hown2
    exact ⟨a, k, cp, X2, hrun, hb.size, keeps_of_below hb, q1, q2⟩
  · obtain ⟨i0, hi0, hz0, hz1, hz2⟩ := info_parts infoInt
    have hown := own_keep ho hX
    obtain ⟨v', X2, hrun, q1, q2, -⟩ := run_append_own (P := Try.prog) X1 W5.heap.size 23 23 3 i0 (.int .i64 0) 1 8 Try.underlying23 hi0 hz0 hz1 hz2 rfl (by decide) L (zs.length + j) _ hown ⟨b2, 0, none⟩ 1 c2 [.int .i64 z] rfl (by
      intro j u hu
      cases j with
      | zero => simp at hu; subst hu; rw [add_off]; exact hc
      | succ j => simp at hu) (by intro u hu; simp at hu; subst hu; rfl) (by unfold maxLen; omega) (by omega) (by omega)
    obtain ⟨a, k, cp, rfl⟩ := own_is q1
    have hown2 : X2.ownsRow W5.heap.size 3 1 (.slice a k cp) (zs.length + (j + 1)) ((zs ++ powL x (j + 1)).map (Value.int .i64)) := by
      rw [powL_snoc, ← List.append_assoc, List.map_append, ← hz]
      exact q1
    obtain ⟨p1, p2⟩ := key a k cp X2 q2.size q2.os q2.tape q2.output (fun i hi => q2.block i (by omega) (fun e => own_ne hown (b := i) (.inr hi) e.symm)) hown2
    exact ⟨a, k, cp, X2, hrun, q2.size, keeps_grown hown q2, p1, p2⟩

end Go.Proofs.Ytohebkpgjaaljaa
