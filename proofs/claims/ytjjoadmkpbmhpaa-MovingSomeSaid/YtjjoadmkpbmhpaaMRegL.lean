/- A region that draws its order, where a condition on the world holds up to certain operations only (stores into what was loaded). Two rows of a call's own, side by side, each in a variable. The reference of dealing: Recover, where it refuses; the append of a row in a drawn region. The reference of dealing: two rows of a call's own, side by side. The reference of rebuilding a share: Rows, Some. The reference of rebuilding a share: Plan, Part, Finish. The reference of rebuilding a share: Finish. Rebuilding a share, in plain Lean: what parts hide, and what too few helpers know. The laws of rebuilding: the examples, reckoned; calls whose values are known; the program of three rows. The laws of rebuilding: the examples hold (sane). slices.BinarySearch of a list that rises. Package program: the rows of people. -/
import Derived.Test.YtjjoadmkpbmhpaaMLaI
import Derived.Test.YtjjoadmkpbmhpaaMRange4
import Derived.Test.YtjjoadmkpbmhpaaMLaC
import Derived.Test.YtjjoadmkpbmhpaaMDeaA
import Derived.Test.YtjjoadmkpbmhpaaMDeaC
import Derived.OrdersHeld
import Derived.Deep.RegionLaw
import Derived.Deep.AppendLies
namespace Go.Proofs.Ytjjoadmkpbmhpaa
open Go.RowKit

section
variable {P : Program} {ops : Array Oper} {Q : Exit → Act → World → Prop} {md : Region.Mode} {S : World → Prop} {T : List Nat}

/-- Whatever order is picked from here on; S holds behind every operation that is carried out ahead of those of T. -/
def wpAnyL (P : Program) (md : Region.Mode) (ops : Array Oper) (Q : Exit → Act → World → Prop) (S : World → Prop) (T : List Nat) : Nat → Array Bool → Act → World → Prop
  | 0, listed, a, w => Region.ready md ops listed = [] ∧ Q .normal a w
  | fuel + 1, listed, a, w =>
    (Region.ready md ops listed = [] → Q .normal a w) ∧
    ∀ i ∈ Region.ready md ops listed, wpOp P ops Q i (fun a' w' => (i ∉ T → (∀ t ∈ T, listed.getD t true = false) → S w') ∧ wpAnyL P md ops Q S T fuel (listed.setIfInBounds i true) a' w') a w

theorem wpAnyL_first {U : List Nat} {i : Nat} {oi : Oper} {v : Value} (hi : ops[i]? = some oi) (hsel : ∀ (j : Nat) (o : Oper) cs b, ops[j]? = some o → o.op ≠ .select cs b)
    (hQ : ∀ c a w, Q (.panic c) (a.put oi.dst v) w → Q (.panic c) a w) (hTU : ∀ t ∈ T, t ∈ U) (hU : ∀ u ∈ U, ∃ o, ops[u]? = some o ∧ ∃ e ∈ o.after, Region.binds md e = true ∧ (e.on = i ∨ e.on ∈ U)) (hiU : i ∉ U) :
    ∀ (fuel : Nat) (listed : Array Bool) (a : Act) (w : World),
      (∀ j oj, ops[j]? = some oj → j ≠ i → listed.getD j true = false → (∀ e ∈ oj.after, Region.binds md e = true → e.on ≠ i) → oi.apart ops oj = true) →
      i ∈ Region.ready md ops listed → (∀ u ∈ U, listed.getD u true = false) → YieldsIf P ops S oi v a → S w →
      wpAnyL P md ops Q S T fuel (listed.setIfInBounds i true) (a.put oi.dst v) w → wpAnyL P md ops Q S T (fuel + 1) listed a w := by
  have away : ∀ {listed : Array Bool} {k : Nat}, listed.getD k true = false → listed.getD k false = true → False := fun {listed k} h0 h1 => by
    rcases Nat.lt_or_ge k listed.size with h' | h'
    · simp [h'] at h0 h1; rw [h0] at h1; cases h1
    · simp [Array.getElem?_eq_none h'] at h1
  intro fuel
  induction fuel with
  | zero =>
    intro listed a w _ hr hun hy hS H
    refine ⟨fun h => (by rw [h] at hr; cases hr), fun j hj => ?_⟩
    by_cases hji : j = i
    · subst hji; exact hy.wpOp hi hS ⟨fun _ _ => hS, H⟩
    · have := ready_mono hj hji
      rw [H.1] at this
      cases this
  | succ fuel ih =>
    intro listed a w hfree hr hun hy hS H
    refine ⟨fun h => (by rw [h] at hr; cases hr), fun j hj => ?_⟩
    by_cases hji : j = i
    · subst hji; exact hy.wpOp hi hS ⟨fun _ _ => hS, H⟩
    · have h1 := H.2 j (ready_mono hj hji)
      obtain ⟨hjun, oj, hoj, hall⟩ := mem_ready.1 hj
      have hjU : j ∉ U := fun hm => by
        obtain ⟨o, ho, e, he, hb, hon⟩ := hU j hm
        rw [hoj] at ho
        injection ho with ho
        subst ho
        have h1 := hall e he hb
        rcases hon with hon | hon
        · rw [hon] at h1; exact away (mem_ready.1 hr).1 h1
        · exact away (hun _ hon) h1
      have hnot : ∀ e ∈ oj.after, Region.binds md e = true → e.on ≠ i := fun e he hb heq => by
        have h1 := hall e he hb
        rw [heq] at h1
        exact away (mem_ready.1 hr).1 h1
      have h2 := wpOp_putIf hoj (hfree j oj hoj hji hjun hnot) (fun cs b => hsel i oi cs b hi) (fun cs b => hsel j oj cs b hoj) hQ hy h1
      have hfree' : ∀ k ok, ops[k]? = some ok → k ≠ i → (listed.setIfInBounds j true).getD k true = false →
          (∀ e ∈ ok.after, Region.binds md e = true → e.on ≠ i) → oi.apart ops ok = true := fun k ok hk hki hun2 hno => by
        refine hfree k ok hk hki ?_ hno
        by_cases hjk : j = k
        · subst hjk; exact hjun
        · rw [getD_set_ne true hjk] at hun2; exact hun2
      have hun' : ∀ u ∈ U, (listed.setIfInBounds j true).getD u true = false := fun u hu => by
        rw [getD_set_ne true (fun e => hjU (by rw [e]; exact hu))]; exact hun u hu
      have hSi : ∀ w', (j ∉ T → (∀ t ∈ T, (listed.setIfInBounds i true).getD t true = false) → S w') → S w' := fun w' h =>
        h (fun hm => hjU (hTU j hm)) (fun t ht => by
          rw [getD_set_ne true (fun e => hiU (by rw [e]; exact hTU t ht))]; exact hun t (hTU t ht))
      refine wpOp_mono (fun a' w' h3 => ⟨fun _ _ => hSi w' h3.2.1, ih (listed.setIfInBounds j true) a' w' hfree' (ready_mono hr (Ne.symm hji)) hun' h3.1 (hSi w' h3.2.1) ?_⟩) h2
      rw [Array.setIfInBounds_comm _ _ hji]
      exact h3.2.2

/-- Does each of U wait for i, or for another one of U? -/
def waits (md : Region.Mode) (ops : Array Oper) (U : List Nat) (i : Nat) : Bool := U.all fun u => match ops[u]? with
  | some o => o.after.any fun e => Region.binds md e && (e.on == i || U.contains e.on)
  | none => false
theorem waits_spec {U : List Nat} {i : Nat} (h : waits md ops U i = true) : ∀ u ∈ U, ∃ o, ops[u]? = some o ∧ ∃ e ∈ o.after, Region.binds md e = true ∧ (e.on = i ∨ e.on ∈ U) := fun u hu => by
  have h1 := List.all_eq_true.1 h u hu
  cases ho : ops[u]? with
  | none => rw [ho] at h1; cases h1
  | some o =>
    rw [ho] at h1
    obtain ⟨k, hk, h2⟩ := Array.any_eq_true.1 h1
    simp only [Bool.and_eq_true, Bool.or_eq_true, beq_iff_eq, List.contains_iff_mem] at h2
    exact ⟨o, rfl, _, Array.getElem_mem hk, h2⟩
theorem takeL (U : List Nat) (d : Option Tmp) (v : Value) {i : Nat} {oi : Oper} {fuel : Nat} {listed : Array Bool} {a : Act} {w : World} (hi : ops[i]? = some oi) (hd : oi.dst = d) (hs : Region.noSelect ops = true) (hf : Region.free md ops listed i = true) (hr : (Region.ready md ops listed).contains i = true)
    (hQ : ∀ c a w, Q (.panic c) (a.put d v) w → Q (.panic c) a w) (hTU : T.all U.contains = true) (hU : waits md ops U i = true) (hiU : U.contains i = false) (hun : (U.all fun u => !listed.getD u true) = true) (hw : Region.wanted oi (yielded ops a.tmps) = true) (hy : ∀ w, S w → (execOp a.eval oi).run P w = .ok (.value v) w) (hS : S w)
    (h : wpAnyL P md ops Q S T fuel (listed.setIfInBounds i true) (a.put d v) w) : wpAnyL P md ops Q S T (fuel + 1) listed a w := by
  subst hd
  refine wpAnyL_first (U := U) hi (Region.noSelect_spec hs) hQ (fun t ht => by simpa using List.all_eq_true.1 hTU t ht) (waits_spec hU) (fun hm => by rw [List.contains_iff_mem.2 hm] at hiU; cases hiU) fuel listed a w (Region.free_spec hi hf) (by simpa using hr) (fun u hu => by simpa using List.all_eq_true.1 hun u hu) (Or.inl ⟨hw, hy⟩) hS h

/-- Each of the operations 'rs' comes up next. -/
def AllReadyL (P : Program) (md : Region.Mode) (ops : Array Oper) (Q : Exit → Act → World → Prop) (S : World → Prop) (T : List Nat) (fuel : Nat) (listed : Array Bool) (a : Act) (w : World) (rs : List Nat) : Prop :=
  ∀ i ∈ rs, wpOp P ops Q i (fun a' w' => (i ∉ T → (∀ t ∈ T, listed.getD t true = false) → S w') ∧ wpAnyL P md ops Q S T fuel (listed.setIfInBounds i true) a' w') a w
theorem AllReadyL.nil {fuel : Nat} {listed : Array Bool} {a : Act} {w : World} : AllReadyL P md ops Q S T fuel listed a w [] := fun _ h => by cases h
theorem AllReadyL.cons {fuel : Nat} {listed : Array Bool} {a : Act} {w : World} {i : Nat} {o : Oper} {rs : List Nat} (ho : ops[i]? = some o) (hT : T.contains i = false)
    (h : ∀ K' : Act → World → Prop, Shut (∀ a w, S w → wpAnyL P md ops Q S T fuel (listed.setIfInBounds i true) a w → K' a w) → if Region.wanted o (yielded ops a.tmps) = true then Oper.wp P o a w K' Q else K' (a.put o.dst undef) w)
    (hs : AllReadyL P md ops Q S T fuel listed a w rs) : AllReadyL P md ops Q S T fuel listed a w (i :: rs) := fun j hj => by
  rcases List.mem_cons.1 hj with rfl | hj
  · exact wpOp_step ho (fun K' hK => h K' (fun a w hS hW => hK a w ⟨fun _ _ => hS, hW⟩))
  · exact hs j hj
theorem AllReadyL.late {fuel : Nat} {listed : Array Bool} {a : Act} {w : World} {i : Nat} {o : Oper} {rs : List Nat} (ho : ops[i]? = some o) (hT : T.contains i = true)
    (h : ∀ K' : Act → World → Prop, Shut (∀ a w, wpAnyL P md ops Q S T fuel (listed.setIfInBounds i true) a w → K' a w) → if Region.wanted o (yielded ops a.tmps) = true then Oper.wp P o a w K' Q else K' (a.put o.dst undef) w)
    (hs : AllReadyL P md ops Q S T fuel listed a w rs) : AllReadyL P md ops Q S T fuel listed a w (i :: rs) := fun j hj => by
  rcases List.mem_cons.1 hj with rfl | hj
  · exact wpOp_step ho (fun K' hK => h K' (fun a w hW => hK a w ⟨fun hn => absurd (List.contains_iff_mem.1 hT) hn, hW⟩))
  · exact hs j hj
theorem wpAnyL_ready {rs : List Nat} {fuel : Nat} {listed : Array Bool} {a : Act} {w : World} (hr : Region.ready md ops listed = rs) (hne : rs ≠ [])
    (h : AllReadyL P md ops Q S T fuel listed a w rs) : wpAnyL P md ops Q S T (fuel + 1) listed a w := ⟨fun h0 => absurd (hr ▸ h0) hne, hr ▸ h⟩
theorem wpAnyL_done {listed : Array Bool} {a : Act} {w : World} (hr : Region.ready md ops listed = []) (h : Q .normal a w) : ∀ fuel, wpAnyL P md ops Q S T fuel listed a w
  | 0 => ⟨hr, h⟩
  | _ + 1 => ⟨fun _ => h, by rw [hr]; simp⟩

theorem wpAnyIn_of_L {F : Fence} {n : Nat} (hp : ∀ o ∈ ops.toList, PlainOp P o) (hQ : ¬ LetsOut Q) : ∀ (fuel : Nat) (listed : Array Bool) (a : Act) (w : World), wpAnyL P md ops Q S T fuel listed a w → wpAnyIn F n P md ops Q fuel listed a w
  | 0, _, _, _, h => h
  | fuel + 1, listed, a, w, h => ⟨h.1, fun i hi => by
    have h2 := h.2 i hi
    unfold wpOp at h2
    unfold wpOpIn
    cases ho : ops[i]? with
    | none => rw [ho] at h2; exact wpAnyIn_of_L hp hQ fuel _ _ _ h2.2
    | some o =>
      rw [ho] at h2
      have hm : PlainOp P o := hp o (by
        obtain ⟨hlt, rfl⟩ := Array.getElem?_eq_some_iff.1 ho
        exact Array.getElem_mem_toList hlt)
      simp only at h2 ⊢
      split
      · rename_i hw
        rw [if_pos hw] at h2
        rcases h2 with h2 | h2
        · exact wpIn_of_wp hm (fun a' w' h' => wpAnyIn_of_L hp hQ fuel _ a' w' h'.2) h2
        · exact absurd h2.2 hQ
      · rename_i hw
        rw [if_neg hw] at h2
        exact ⟨fun f hf => by (rw [hm.about] at hf; exact nomatch hf), wpAnyIn_of_L hp hQ fuel _ _ _ h2.2⟩⟩
/-- The beginning, inside a round. -/
theorem wpIn_region_L {F : Fence} {n : Nat} {id : Nat} {a : Act} {w : World} (S : World → Prop) (T : List Nat) (hm : P.follows .mixedOrders = true) (hp : ∀ o ∈ ops.toList, PlainOp P o) (hQ : ¬ LetsOut Q)
    (h : wpAnyL P .any ops Q S T ops.size (Array.replicate ops.size false) a w.drew) : (Code.region id ops true).wpIn F n P Q a w :=
  wpIn_region_any hm (wpAnyIn_of_L hp hQ _ _ _ _ h)
end

end Go.Proofs.Ytjjoadmkpbmhpaa

namespace Go.Proofs.Ytjjoadmkpbmhpaa
open Go.RowKit FP

theorem Ints.cells {w w' : World} {v : Value} {zs : List Int} (h : Ints w v zs) (hc : ∀ b o u, w.cell? ⟨b, o, none⟩ = some u → w'.cell? ⟨b, o, none⟩ = some u) : Ints w' v zs := by
  obtain ⟨a, cap, rfl, h1, h2, h3, h4⟩ := h
  exact ⟨a, cap, rfl, h1, h2, h3, fun k hk => by obtain ⟨b, off, h5, h6⟩ := h4 k hk; exact ⟨b, off, h5, hc _ _ _ h6⟩⟩
theorem Rows2.cells {w w' : World} {v : Value} {rows : List (List Int)} (h : Rows2 w v rows) (hc : ∀ b o u, w.cell? ⟨b, o, none⟩ = some u → w'.cell? ⟨b, o, none⟩ = some u) : Rows2 w' v rows := by
  obtain ⟨a, cap, rfl, h1, h2, h4⟩ := h
  exact ⟨a, cap, rfl, h1, h2, fun k hk => by obtain ⟨b, off, r, h5, h6, h7⟩ := h4 k hk; exact ⟨b, off, r, h5, hc _ _ _ h6, h7.cells hc⟩⟩
theorem set_same_cells {W : World} {b o : Nat} {v : Value} (h : W.cell? ⟨b, o, none⟩ = some v) : ∀ b' o' u, W.cell? ⟨b', o', none⟩ = some u → (W.setCell ⟨b, o, none⟩ v).cell? ⟨b', o', none⟩ = some u := fun b' o' u hu => by
  by_cases e : (⟨b, o, none⟩ : Addr) = ⟨b', o', none⟩
  · rw [← e] at hu ⊢
    rw [h] at hu
    injection hu with hu
    subst hu
    exact World.cell?_setCell_same' _ _ _ (by rw [h]; rfl)
  · rw [World.cell?_setCell_other _ _ _ _ e]; exact hu
theorem own_is {W : World} {base size n : Nat} {e : TypeId} {v : Value} {xs : List Value} (h : W.ownsRow base e size v n xs) : ∃ a k c, v = .slice a k c := by
  rcases h.2 with ⟨rfl, -⟩ | ⟨g, cap, cur, rfl, -⟩
  · exact ⟨_, _, _, rfl⟩
  · exact ⟨_, _, _, rfl⟩
/-- A row of rows and a row of integers. -/
structure Two (base : Nat) (W : World) (n m : Nat) (L1 L2 : Value) (xs ys : List Value) : Prop where
  a : W.ownsRow base 23 1 L1 n xs
  b : W.ownsRow base 3 1 L2 m ys
  ap : ∀ q, L1.ownBlock = some q → L2.ownBlock ≠ some q
theorem Two.keep {base : Nat} {W W' : World} {n m : Nat} {L1 L2 : Value} {xs ys : List Value} (h : Two base W n m L1 L2 xs ys) (hb : Below W.heap.size W W') : Two base W' n m L1 L2 xs ys :=
  ⟨own_keep h.a hb, own_keep h.b hb, h.ap⟩
theorem Two.one {base : Nat} {W W' : World} {n m n' g k c : Nat} {L1 L2 : Value} {xs ys xs' : List Value} (h : Two base W n m L1 L2 xs ys) (ho : W'.ownsRow base 23 1 (.slice (some ⟨g, 0, none⟩) k c) n' xs') (hg : W.grownBy W' L1.ownBlock) (hat : L1.ownBlock = some g ∨ g = W.heap.size) : Two base W' n' m (.slice (some ⟨g, 0, none⟩) k c) L2 xs' ys := by
  refine ⟨ho, own_apart h.b hg (fun q h1 h2 => h.ap q h2 h1), fun q h1 h2 => ?_⟩
  have e : g = q := by injection h1
  subst e
  rcases hat with h3 | h3
  · exact h.ap g h3 h2
  · have := (own_lt h.b g h2).2; omega
theorem Two.two {base : Nat} {W W' : World} {n m m' g k c : Nat} {L1 L2 : Value} {xs ys ys' : List Value} (h : Two base W n m L1 L2 xs ys) (ho : W'.ownsRow base 3 1 (.slice (some ⟨g, 0, none⟩) k c) m' ys') (hg : W.grownBy W' L2.ownBlock) (hat : L2.ownBlock = some g ∨ g = W.heap.size) : Two base W' n m' L1 (.slice (some ⟨g, 0, none⟩) k c) xs ys' := by
  refine ⟨own_apart h.a hg h.ap, ho, fun q h1 h2 => ?_⟩
  have e : g = q := by injection h2
  subst e
  rcases hat with h3 | h3
  · exact h.ap g h1 h3
  · have := (own_lt h.a g h1).2; omega
/-- Behind j rounds: the variables at B and B + 1 hold j rows and j integers; the rest below C is as it was. -/
structure PairI (w w0 : World) (B C : Nat) (f h : Nat → Value) (j : Nat) (W : World) : Prop where
  be : Below w.heap.size w W
  size : C ≤ W.heap.size
  same : ∀ k, k < C → k ≠ B → k ≠ B + 1 → W.heap[k]? = w0.heap[k]?
  row : ∃ L1 L2, W.heap[B]? = some (.cells #[L1] 22 (0, 0)) ∧ W.heap[B + 1]? = some (.cells #[L2] 23 (0, 0)) ∧ Two C W j j L1 L2 ((List.range j).map f) ((List.range j).map h)
theorem pairI_sim {w w0 : World} {B C : Nat} {f h : Nat → Value} {j S : Nat} {W W' : World} (H : PairI w w0 B C f h j W) (hC : C ≤ S) (hw : w.heap.size ≤ S) (hs : Sim S W W') : PairI w w0 B C f h j W' := by
  obtain ⟨h1, h2, h3, L1, L2, h4, h5, h6⟩ := H
  exact ⟨h1.trans ((sim_below hs).mono hw), Nat.le_trans h2 hs.size, fun k hk e1 e2 => (hs.low k (by omega)).trans (h3 k hk e1 e2), L1, L2, hs.cells _ _ h4 rfl, hs.cells _ _ h5 rfl, own_sim h6.a hs, own_sim h6.b hs, h6.ap⟩
/-- Both have grown, and are stored. -/
theorem pairI_next {w w0 : World} {B C : Nat} {f h : Nat → Value} {j : Nat} {W W' : World} {L1 L2 : Value} (H : PairI w w0 B C f h j W) (hB : w.heap.size ≤ B) (hBC : B + 1 < C) (hb : Below C W W')
    (h2 : Two C W' (j + 1) (j + 1) L1 L2 ((List.range (j + 1)).map f) ((List.range (j + 1)).map h)) : PairI w w0 B C f h (j + 1) ((W'.setCell ⟨B, 0, none⟩ L1).setCell ⟨B + 1, 0, none⟩ L2) := by
  obtain ⟨g1, g2, g3, M1, M2, g4, g5, -⟩ := H
  have r1 : W'.heap[B]? = some (.cells #[M1] 22 (0, 0)) := (hb.block _ (by omega)).trans g4
  have r2 : W'.heap[B + 1]? = some (.cells #[M2] 23 (0, 0)) := (hb.block _ hBC).trans g5
  have s1 : (W'.setCell ⟨B, 0, none⟩ L1).heap[B]? = some (.cells #[L1] 22 (0, 0)) := row_set r1 0 L1
  have s2 : (W'.setCell ⟨B, 0, none⟩ L1).heap[B + 1]? = some (.cells #[M2] 23 (0, 0)) := (Below.heap_setCell _ _ _ _ (by show B + 1 ≠ B; omega)).trans r2
  refine ⟨?_, ?_, fun k hk e1 e2 => ?_, L1, L2, (Below.heap_setCell _ _ _ _ (by show B ≠ B + 1; omega)).trans s1, row_set s2 0 L2, ?_⟩
  · exact ((g1.trans (hb.mono (by omega))).setCell hB _).setCell (by show _ ≤ B + 1; omega) _
  · have := hb.size; simp [World.setCell]; omega
  · rw [Below.heap_setCell _ _ _ _ (by show k ≠ B + 1; omega), Below.heap_setCell _ _ _ _ (by show k ≠ B; omega), hb.block k hk, g3 k hk e1 e2]
  · exact ⟨own_keep_set (own_keep_set h2.a (by omega) _) hBC _, own_keep_set (own_keep_set h2.b (by omega) _) hBC _, h2.ap⟩
theorem pair_keeps {W W' : World} {B : Nat} {L1 L2 : Value} (h : KeepsOthers W W') : KeepsOthers W ((W'.setCell ⟨B, 0, none⟩ L1).setCell ⟨B + 1, 0, none⟩ L2) :=
  (h.trans (KeepsOthers.setCell _ _ _)).trans (KeepsOthers.setCell _ _ _)

set_option maxRecDepth 100000 in
theorem step_app_row {ops : Array Oper} {o : Oper} {a : Act} {K : Act → World → Prop} {Q : Exit → Act → World → Prop} {E : Prop} {W : World} (hgd : o.guard = none) (s x : Operand) (ho : o.op = .call { callee := .builtin .append, args := #[s, x], argTypes := #[22, 22] })
    (base n : Nat) (v : Value) (xs : List Value) (hs : a.eval s = v) (hown : W.ownsRow base 23 1 v n xs) (b c : Nat) (z : Value) (hx : a.eval x = .slice (some ⟨b, 0, none⟩) 1 c) (hcell : W.cell? ⟨b, 0, none⟩ = some z) (hz1 : z.oneCell' = true) (hn : n ≤ 1000000) (hbase : base ≤ W.heap.size) (H : Nat) (hH : W.heap.size = H)
    (h : ∀ g cap w', w'.ownsRow base 23 1 (.slice (some ⟨g, 0, none⟩) (n + 1) cap) (n + 1) (xs ++ [z]) → W.grownBy w' v.ownBlock → (v.ownBlock = some g ∨ g = H) → g < w'.heap.size → K (a.put o.dst (.slice (some ⟨g, 0, none⟩) (n + 1) cap)) w') :
    if Region.wanted o (yielded ops a.tmps) = true then Oper.wp Try.prog o a W K Q else E := by
  obtain ⟨i0, hi0, hz0, hs0, hb0⟩ := info_parts infoRows
  refine step_append_lies _ hgd s x 22 ho base 23 i0 (.slice none 0 0) 1 24 Try.underlying22 hi0 hz0 hs0 hb0 rfl (by decide) v n xs hs hown ⟨b, 0, none⟩ 1 c [z] hx rfl ?_ ?_ (by decide) ?_ ?_ hbase H hH h
  · intro j u hu
    cases j with
    | zero => simp at hu; subst hu; rw [add_off]; exact hcell
    | succ j => simp at hu
  · intro u hu; simp at hu; subst hu; exact hz1
  · unfold maxLen; omega
  · omega

end Go.Proofs.Ytjjoadmkpbmhpaa

namespace Go.Proofs.Ytjjoadmkpbmhpaa
open Go.RowKit FP

end Go.Proofs.Ytjjoadmkpbmhpaa

namespace Go.Proofs.Ytjjoadmkpbmhpaa
open Go.RowKit FP

set_option maxRecDepth 100000 in
/-- One integer is appended; where the row lies then. -/
theorem app_int_lies {ops : Array Oper} {rest : List Oper} {o : Oper} {a : Act} {Q : Exit → Act → World → Prop} {W : World} (hgd : o.guard = none) (s x : Operand) (ho : o.op = .call { callee := .builtin .append, args := #[s, x], argTypes := #[23, 23] })
    (base n : Nat) (v : Value) (xs : List Value) (hs : a.eval s = v) (hown : W.ownsRow base 3 1 v n xs) (b c : Nat) (z : Int) (hx : a.eval x = .slice (some ⟨b, 0, none⟩) 1 c) (hcell : W.cell? ⟨b, 0, none⟩ = some (.int .i64 z)) (hn : n ≤ 1000000) (hbase : base ≤ W.heap.size)
    (h : ∀ g cap w', w'.ownsRow base 3 1 (.slice (some ⟨g, 0, none⟩) (n + 1) cap) (n + 1) (xs ++ [.int .i64 z]) → W.grownBy w' v.ownBlock → (v.ownBlock = some g ∨ g = W.heap.size) → wpList Try.prog ops Q rest (a.put o.dst (.slice (some ⟨g, 0, none⟩) (n + 1) cap)) w') : wpList Try.prog ops Q (o :: rest) a W := by
  obtain ⟨i0, hi0, hz0, hz1, hz2⟩ := info_parts infoInt
  refine wpList_append_lies _ hgd s x 23 ho base 3 i0 (.int .i64 0) 1 8 Try.underlying23 hi0 hz0 hz1 hz2 rfl (by decide) v n xs hs hown ⟨b, 0, none⟩ 1 c [.int .i64 z] hx rfl ?_ ?_ (by decide) ?_ ?_ hbase W.heap.size rfl ?_
  · intro j u hu
    cases j with
    | zero => simp at hu; subst hu; rw [add_off]; exact hcell
    | succ j => simp at hu
  · simp [Value.oneCell']
  · unfold maxLen; omega
  · omega
  · intro g cap w' h1 h2 h3 _
    exact h g cap w' h1 h2 h3

end Go.Proofs.Ytjjoadmkpbmhpaa

namespace Go.Proofs.Ytjjoadmkpbmhpaa
open Go.RowKit FP

end Go.Proofs.Ytjjoadmkpbmhpaa

namespace Go.Proofs.Ytjjoadmkpbmhpaa
open Go.RowKit FP

end Go.Proofs.Ytjjoadmkpbmhpaa

namespace Go.Proofs.Ytjjoadmkpbmhpaa
open Go.RowKit FP

end Go.Proofs.Ytjjoadmkpbmhpaa

namespace Go.Proofs.Ytjjoadmkpbmhpaa
open Go.RowKit

/-! Too few helpers. -/
end Go.Proofs.Ytjjoadmkpbmhpaa

namespace Go.Proofs.Ytjjoadmkpbmhpaa
open Go.RowKit FP

abbrev R3 : List (List Int) := [[1, 1], [1, 2], [1, 3]]
abbrev W3 : List Int := [0, 1, 2]
theorem rows_of3 {w : World} {b c : Nat} {r s t : Value} {x y z : List Int} (h : w.cell? ⟨b, 0, none⟩ = some r) (h2 : w.cell? ⟨b, 1, none⟩ = some s) (h3 : w.cell? ⟨b, 2, none⟩ = some t) (hI : Ints w r x) (hJ : Ints w s y) (hK : Ints w t z) (hc : 3 ≤ c) : Rows2 w (.slice (some ⟨b, 0, none⟩) 3 c) [x, y, z] :=
  ⟨_, c, rfl, hc, by simp, fun k hk => by
    match k, hk with
    | 0, _ => exact ⟨b, 0, r, rfl, h, hI⟩
    | 1, _ => exact ⟨b, 0, s, rfl, h2, hJ⟩
    | 2, _ => exact ⟨b, 0, t, rfl, h3, hK⟩⟩
theorem ints_of3 {w : World} {b c : Nat} {x y z : Int} (h : w.cell? ⟨b, 0, none⟩ = some (.int .i64 x)) (h2 : w.cell? ⟨b, 1, none⟩ = some (.int .i64 y)) (h3 : w.cell? ⟨b, 2, none⟩ = some (.int .i64 z)) (hx : R64 x) (hy : R64 y) (hz : R64 z) (hc : 3 ≤ c) : Ints w (.slice (some ⟨b, 0, none⟩) 3 c) [x, y, z] :=
  ⟨_, c, rfl, hc, by simp, by simp [hx, hy, hz], fun k hk => ⟨b, 0, rfl, by
    match k, hk with
    | 0, _ => exact h
    | 1, _ => exact h2
    | 2, _ => exact h3⟩⟩

end Go.Proofs.Ytjjoadmkpbmhpaa

namespace Go.Proofs.Ytjjoadmkpbmhpaa
open Go.RowKit FP

end Go.Proofs.Ytjjoadmkpbmhpaa

namespace Go.Proofs.Ytjjoadmkpbmhpaa
open Go.RowKit

set_option maxRecDepth 100000 in
theorem cnan_any (x : Int) (w : World) : Calls Try.prog 98 #[.int .i64 x] w fun r w' => r = .returned (.bool false) ∧ w = w' := by
  have h1 : (x != x) = false := by simp
  go_enter Try.func98, Try.ntmps98
  go_wp2_with fail
  go_ret
  exact ⟨rfl, rfl⟩
set_option maxRecDepth 100000 in
theorem snan_any (x : Int) (w : World) : Calls Try.prog 95 #[.int .i64 x] w fun r w' => r = .returned (.bool false) ∧ w = w' := by
  have h1 : (x != x) = false := by simp
  go_enter Try.func95, Try.ntmps95
  go_wp2_with fail
  go_ret
  exact ⟨rfl, rfl⟩
set_option maxRecDepth 100000 in
theorem cless_any (x y : Int) (w : World) : Calls Try.prog 94 #[.int .i64 x, .int .i64 y] w fun r w' => r = .returned (.bool (decide (x < y))) ∧ w = w' := by
  go_enter Try.func94, Try.ntmps94
  go_wp2_with fail
  with_reducible refine (cnan_any x _).mono ?_
  rintro e w' ⟨rfl, rfl⟩
  go_wp2_with fail
  go_ret
  exact ⟨rfl, rfl⟩

set_option maxRecDepth 100000 in
set_option maxHeartbeats 2000000 in
theorem bsearch_any (v : Value) (zs : List Int) (x : Int) (w : World) (hI : Ints w v zs) (hs : zs.Pairwise (· < ·)) (hl : zs.length ≤ 1000000000) :
    Calls Try.prog 88 #[v, .int .i64 x] w fun r w' => (∃ i : Nat, r = .returned (.tuple #[.int .i64 i, .bool (decide (x ∈ zs))])) ∧ Below w.heap.size w w' := by
  have HS := Lib.hid (List.pairwise_iff_getElem.1 hs)
  have HI := Lib.hid hI
  obtain ⟨a, cap, rfl, -, -, -, hk⟩ := hI
  have HK := Lib.hid hk
  clear hs hk
  go_enter Try.func88, Try.ntmps88
  go_wp2_with fail
  go_loopw [7, 8, 9] (fun i j h W => ∃ p q : Nat, p ≤ q ∧ q ≤ zs.length ∧ i = .int .i64 p ∧ j = .int .i64 q ∧ Hid (∀ m (hm : m < zs.length), m < p → zs[m] < x) ∧ Hid (∀ m (hm : m < zs.length), q ≤ m → x ≤ zs[m]) ∧ Below w.heap.size w W) (fun i j _ _ => (intOf j).toNat - (intOf i).toNat)
  case atStart => exact ⟨0, zs.length, Nat.zero_le _, Nat.le_refl _, rfl, rfl, Lib.hid (fun m _ h => absurd h (Nat.not_lt_zero _)), Lib.hid (fun m h1 h2 => absurd h1 (by omega)), Below.refl _ _⟩
  case round =>
    obtain ⟨p, q, hpq, hql, rfl, rfl, HA, HB, hb⟩ := hrel
    by_cases hlt : p < q
    · have h0 : (p : Int) < (q : Int) := by omega
      have h1 : IntKind.i64.wrap ((p : Int) + (q : Int)) = (p : Int) + (q : Int) := IntWalk.i64_in _ (by omega)
      have h2 : IntKind.u64.wrap ((p : Int) + (q : Int)) = (p : Int) + (q : Int) := IntWalk.u64_in _ (by omega)
      obtain ⟨h, hh⟩ : ∃ h : Nat, h = (p + q) / 2 := ⟨_, rfl⟩
      have h3 : ((p : Int) + (q : Int)) / 2 = (h : Int) := by omega
      have h4 : h < q := by omega
      have h5 : p ≤ h := by omega
      have h6 : h < zs.length := by omega
      obtain ⟨b, off, rfl, hc⟩ := HK.out h h6
      have hc2 := below_cell hb hc
      have h7 : (0 : Int) ≤ (h : Int) := by omega
      have h8 : (h : Int) < (zs.length : Int) := by omega
      obtain ⟨z, hz⟩ : ∃ z, z = zs[h] := ⟨_, rfl⟩
      rw [← hz] at hc2
      have HZ := Lib.hid hz
      clear hh hz hc
      by_cases hzx : z < x
      · have hd : decide (z < x) = true := decide_eq_true hzx
        clear hzx
        go_wp2_with fail
        with_reducible refine (cless_any z x _).mono ?_
        rintro e w' ⟨rfl, rfl⟩
        go_wp2_with fail
        go_roundw
        case rel => exact ⟨h + 1, q, by omega, hql, by go_num, rfl, Lib.hid (fun m hm hlt2 => by
          have h9 : zs[h] < x := HZ.out ▸ of_decide_eq_true hd
          by_cases e : m = h
          · subst e; exact h9
          · have := HS.out m h hm h6 (by omega); omega), HB, hb⟩
        case measure => simp [intOf]; omega
      · have hd : decide (z < x) = false := decide_eq_false hzx
        clear hzx
        go_wp2_with fail
        with_reducible refine (cless_any z x _).mono ?_
        rintro e w' ⟨rfl, rfl⟩
        go_wp2_with fail
        go_roundw
        case rel => exact ⟨p, h, h5, by omega, rfl, rfl, HA, Lib.hid (fun m hm hge => by
          have h9 : ¬ zs[h] < x := HZ.out ▸ of_decide_eq_false hd
          by_cases e : m = h
          · subst e; omega
          · have := HS.out h m h6 hm (by omega); omega), hb⟩
        case measure => simp [intOf]; omega
    · obtain rfl : p = q := by omega
      have h0 : decide ((p : Int) < (p : Int)) = false := by simp
      by_cases hp : p < zs.length
      · obtain ⟨b, off, rfl, hc⟩ := HK.out p hp
        have hc2 := below_cell hb hc
        have h7 : (0 : Int) ≤ (p : Int) := by omega
        have h8 : (p : Int) < (zs.length : Int) := by omega
        have HM : Hid (decide (x ∈ zs) = (zs[p] == x)) := Lib.hid (by
          by_cases e : zs[p] = x
          · rw [decide_eq_true (e ▸ List.getElem_mem hp), beq_iff_eq.2 e]
          · rw [beq_eq_false_iff_ne.2 e, decide_eq_false]
            intro hm
            obtain ⟨m, hml, rfl⟩ := List.mem_iff_getElem.1 hm
            rcases Nat.lt_trichotomy m p with h | h | h
            · have := HA.out m hml h; omega
            · subst h; exact e rfl
            · have h1 := HB.out p hp (Nat.le_refl _); have h2 := HS.out p m hp hml h; omega)
        obtain ⟨z, hz⟩ : ∃ z, z = zs[p] := ⟨_, rfl⟩
        rw [← hz] at hc2 HM
        clear hz hc
        by_cases hzx : z = x
        · have hd : (z == x) = true := beq_iff_eq.2 hzx
          rw [hd] at HM
          subst hzx
          go_wp2_with fail
          go_ret2
          exact ⟨⟨p, by rw [HM.out]; rfl⟩, hb⟩
        · have hd : (z == x) = false := beq_eq_false_iff_ne.2 hzx
          rw [hd] at HM
          go_wp2_with fail
          with_reducible refine (snan_any z _).mono ?_
          rintro e w' ⟨rfl, rfl⟩
          go_wp2_with fail
          go_ret2
          exact ⟨⟨p, by rw [HM.out]; rfl⟩, hb⟩
      · have h8 : decide ((p : Int) < (zs.length : Int)) = false := decide_eq_false (by omega)
        have h9 : decide (p < zs.length) = false := decide_eq_false (by omega)
        have HM : Hid (decide (x ∈ zs) = false) := Lib.hid (decide_eq_false (fun hm => by
          obtain ⟨m, hml, rfl⟩ := List.mem_iff_getElem.1 hm
          have := HA.out m hml (by omega); omega))
        go_wp2_with fail
        go_ret2
        exact ⟨⟨p, by rw [HM.out]; rfl⟩, hb⟩

end Go.Proofs.Ytjjoadmkpbmhpaa

namespace Go.Proofs.Ytjjoadmkpbmhpaa
open Go.RowKit FP

attribute [local go_sem] Oper.semAt_some

/-- The numbers of the rows of people, below a number. -/
def ownL (owners who : List Int) (n : Nat) : List Nat := (List.range n).filter (fun i => decide (nth owners i ∈ who))
theorem ownL_yes {owners who : List Int} {n : Nat} (h : nth owners n ∈ who) : ownL owners who (n + 1) = ownL owners who n ++ [n] := by
  unfold ownL; rw [List.range_succ, List.filter_append]; simp [h]
theorem ownL_no {owners who : List Int} {n : Nat} (h : ¬ nth owners n ∈ who) : ownL owners who (n + 1) = ownL owners who n := by
  unfold ownL; rw [List.range_succ, List.filter_append]; simp [h]
theorem ownL_split (owners who : List Int) {n N : Nat} (h : n ≤ N) : ∃ r, ownL owners who N = ownL owners who n ++ r := by
  obtain ⟨k, rfl⟩ : ∃ k, N = n + k := ⟨N - n, by omega⟩
  unfold ownL
  rw [List.range_add, List.filter_append]
  exact ⟨_, rfl⟩
theorem ownL_at {owners who : List Int} {n N : Nat} (h : n < N) (hm : nth owners n ∈ who) : (ownL owners who N).getD (ownL owners who n).length 0 = n ∧ (ownL owners who n).length < (ownL owners who N).length := by
  obtain ⟨r, hr⟩ := ownL_split owners who (show n + 1 ≤ N by omega)
  rw [ownL_yes hm] at hr
  rw [hr]
  refine ⟨?_, by simp⟩
  rw [List.append_assoc, List.getD_eq_getElem?_getD, List.getElem?_append_right (Nat.le_refl _)]
  simp
theorem ownL_lt {owners who : List Int} {N i : Nat} (h : i ∈ ownL owners who N) : i < N ∧ nth owners i ∈ who := by
  unfold ownL at h
  simpa using h

set_option maxRecDepth 100000 in
set_option maxHeartbeats 4000000 in
theorem own1_iterates (pb wb : Nat) (rv ov wv : Value) (rows : List (List Int)) (owners who : List Int) (a : Option Addr) (cap : Nat) (g : Nat → Value) (hrv : rv = .slice a rows.length cap) (hgs : ∀ j, ∃ x n c, g j = .slice x n c) (hlen : owners.length = rows.length) (hfew : rows.length ≤ 1000000)
    (hs : who.Pairwise (· < ·)) (hwl : who.length ≤ 1000000000) (I : Nat → World → Prop)
    (hF : ∀ j W, I j W → (∀ k, k < rows.length → ∃ b off, a = some ⟨b, off, none⟩ ∧ W.cell? ⟨b, off + k, none⟩ = some (g k)) ∧ Ints W ov owners ∧ Ints W wv who ∧ W.cell? ⟨pb, 0, none⟩ = some rv ∧ W.cell? ⟨pb, 1, none⟩ = some ov ∧ W.cell? ⟨wb, 0, none⟩ = some wv) :
    Iterates4 Try.prog 87 #[.pointer (some ⟨pb, 0, none⟩), .pointer (some ⟨wb, 0, none⟩)] (ownL owners who rows.length).length (fun j => #[.int .i64 ((ownL owners who rows.length).getD j 0), g ((ownL owners who rows.length).getD j 0)]) I := by
  subst hrv
  intro ll J Jx W hJ hA hY h0
  obtain ⟨-, hO0, hW0, c0, -, -⟩ := hF 0 W (hJ 0 W h0)
  obtain ⟨al, cl, rfl, -⟩ := id hO0
  obtain ⟨aw, cw, rfl, -⟩ := id hW0
  have HF := Lib.hid hF
  have HY := Lib.hid hY
  have HA := Lib.hid hA
  have HS := Lib.hid hs
  have HL := Lib.hid hlen
  refine callsIn_of_wp Try.func87 rfl trivial ?_ rfl
  simp only [Try.ntmps87, List.size_toArray, List.length_cons, List.length_nil, Nat.reduceAdd, Nat.reduceSub, Array.replicate_succ, Array.replicate_zero, List.push_toArray, List.append_toArray, List.nil_append, List.cons_append]
  clear hO0 hW0 hF hY hA hs hlen
  gi_wp2
  gi_loopw [4, 5, 6, 7, 11] (fun _ _ _ _ i wr => ∃ j : Nat, j ≤ rows.length ∧ i = .int .i64 j ∧ J (ownL owners who j).length wr) (fun _ _ _ _ i _ => rows.length - (intOf i).toNat)
  case atStart => exact ⟨0, Nat.zero_le _, rfl, h0⟩
  case round =>
    obtain ⟨j, hj, rfl, hJj⟩ := hrel
    by_cases hlt : j < rows.length
    · obtain ⟨hg, hO, hWm, z0, z1, zw⟩ := HF.out _ wr (hJ _ wr hJj)
      obtain ⟨b, off, rfl, y0⟩ := hg j hlt
      obtain ⟨hr64, b2, o2, n2, k2, e2, y2⟩ := hO.get (k := j) (by rw [HL.out]; exact hlt)
      simp only [Value.slice.injEq] at e2
      obtain ⟨rfl, -, -⟩ := e2
      have HBS := Lib.hid (fun x W h => bsearch_any (.slice aw who.length cw) who x W h HS.out hwl)
      have HWD := Lib.hid (hWm.below ((Below.refl wr.heap.size wr).drew))
      obtain ⟨gx, gn, gc, hgj⟩ := hgs j
      have HGJ := Lib.hid hgj
      rw [hgj] at y0
      have i0 : 0 ≤ (j : Int) := by omega
      have i1 : (j : Int) < (rows.length : Int) := by omega
      have i2 : (j : Int) < (owners.length : Int) := by have := HL.out; omega
      obtain ⟨x, hx⟩ : ∃ x, x = nth owners j := ⟨_, rfl⟩
      rw [← hx] at y2 hr64
      have HX := Lib.hid hx
      have HJJ := Lib.hid hJj
      clear hg hO hWm hgj hx hJj
      gi_wp2
      refine wpIn_wide.2 ?_
      go_region_held3 (fun w' => w'.cell? ⟨pb, 1, none⟩ = some (.slice (some ⟨b2, o2, none⟩) owners.length cl) ∧ w'.cell? ⟨wb, 0, none⟩ = some (.slice aw who.length cw) ∧ w'.cell? ⟨b2, o2 + j, none⟩ = some (.int .i64 x)) (first | go_keep | exact ⟨t1, t2, t3⟩)
        (first
          | (go_at_call 88; (with_reducible refine (HBS.out x _ HWD.out).mono ?_); rintro e w6 ⟨⟨ix, rfl⟩, hb6⟩; have hb7 := ((Below.refl wr.heap.size wr).drew).trans hb6; have HB7 := Lib.hid hb7; have t1 := below_cell hb7 z1; have t2 := below_cell hb7 zw; have t3 := below_cell hb7 y2; clear hb6 hb7))
      by_cases hm : x ∈ who
      · have hd : decide (x ∈ who) = true := decide_eq_true hm
        obtain ⟨hgn, hcn⟩ := ownL_at (owners := owners) (who := who) hlt (by rw [← HX.out]; exact hm)
        have HN := Lib.hid (show (ownL owners who (j + 1)).length = (ownL owners who j).length + 1 by rw [ownL_yes (by rw [← HX.out]; exact hm)]; simp)
        obtain ⟨fn, tmps, assign, body, hy, hR⟩ := HY.out _ w6 (HA.out _ wr w6 HJJ.out HB7.out) hcn
        simp only [hgn] at hy
        rw [HGJ.out] at hy
        clear hm hgn hcn
        rw [hd]
        gi_wp2
        refine ⟨rfl, hR.mono ?_⟩
        rintro e W3 (⟨rfl, hJ3⟩ | ⟨rfl, hJx3⟩)
        · gi_wp2
          go_roundw
          case rel => exact ⟨j + 1, by omega, by go_num, by rw [HN.out]; exact hJ3⟩
          case measure => simp [intOf]; omega
        · gi_wp2
          refine bodyPost_ret (results_none rfl _ _ _) rfl ?_
          exact ⟨⟨_, rfl⟩, .inr ⟨_, by have := (ownL_at (owners := owners) (who := who) hlt (by rw [← HX.out]; exact of_decide_eq_true hd)).2; omega, hJx3⟩⟩
      · have hd : decide (x ∈ who) = false := decide_eq_false hm
        have HN := Lib.hid (show (ownL owners who (j + 1)).length = (ownL owners who j).length by rw [ownL_no (by rw [← HX.out]; exact hm)])
        have HJ6 := Lib.hid (HA.out _ wr w6 HJJ.out HB7.out)
        rw [hd]
        gi_wp2
        refine ⟨fun _ h => (by cases h), ?_⟩
        gi_wp2
        go_roundw
        case rel => exact ⟨j + 1, by omega, by go_num, by rw [HN.out]; exact HJ6.out⟩
        case measure => simp [intOf]; omega
    · obtain rfl : j = rows.length := by omega
      gi_wp2
      go_end0
      exact ⟨⟨_, rfl⟩, .inl hJj⟩

set_option maxRecDepth 100000 in
theorem own1_goes : Goes Try.prog 87 := goes_of Try.func87 (by kernel_rfl) rfl

set_option maxRecDepth 100000 in
set_option maxHeartbeats 1000000 in
theorem own_any (rv ov wv : Value) (w : World) (hr : ∃ a n c, rv = .slice a n c) (ho : ∃ a n c, ov = .slice a n c) (hl : ∃ a n c, wv = .slice a n c) :
    Calls Try.prog 77 #[.agg #[rv, ov], wv] w fun e w' =>
      e = .returned (.func (.func 87) #[] #[.pointer (some ⟨w.heap.size, 0, none⟩), .pointer (some ⟨w.heap.size + 1, 0, none⟩)]) ∧ w' = (w.alloc (.cells #[rv, ov] 25)).alloc (.cells #[wv] 23) := by
  obtain ⟨a, n, c, rfl⟩ := hr
  obtain ⟨a2, n2, c2, rfl⟩ := ho
  obtain ⟨a3, n3, c3, rfl⟩ := hl
  have hmf : ∀ (fn : Fn) (first cap : Array Value) (w : World), (Instr.makeFunc fn first cap).run Try.prog w = .ok (.func fn first cap) w := fun _ _ _ _ => rfl
  go_enter Try.func77, Try.ntmps77
  go_wp2_with fail
  go_ret
  exact ⟨rfl, rfl⟩

end Go.Proofs.Ytjjoadmkpbmhpaa
