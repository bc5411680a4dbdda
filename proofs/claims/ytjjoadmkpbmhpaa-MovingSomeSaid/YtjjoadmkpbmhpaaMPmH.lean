/- What Accepts and Refuses find, in plain Lean. Package moving: what Move computes (plain), and a law for drawn regions with guards. Package moving: the new key's row, and what is folded. Package moving, plain: dealings of the shares of a dealing make a dealing of the same secret. -/
import Derived.Test.YtjjoadmkpbmhpaaMMvF
import Derived.Test.YtjjoadmkpbmhpaaMLaI
import Derived.Test.YtjjoadmkpbmhpaaMCalm
import Derived.Test.YtjjoadmkpbmhpaaMRbP
import Derived.Test.YtjjoadmkpbmhpaaMReN
namespace Go.Proofs.Ytjjoadmkpbmhpaa
open Go.RowKit FP

theorem putF_out {at_ : List Nat} {l : List Int} {i : Nat} : ∀ K, (∀ j, j < K → at_.getD j 0 ≠ i) → putF at_ l K i = 0
  | 0, _ => rfl
  | K + 1, h => by
    unfold putF
    rw [if_neg (fun e => h K (Nat.lt_succ_self _) e.symm)]
    exact putF_out K fun j hj => h j (Nat.lt_succ_of_lt hj)
theorem put_sum {n : Nat} {l : List Int} {at_ : List Nat} (hs : at_.Pairwise (· < ·)) (hl : ∀ a ∈ at_, a < n) (f : Nat → Fq) : ∀ K, K ≤ at_.length → sm n (fun i => cq (putF at_ l K i) * f i) = sm K (fun j => cv l j * f (at_.getD j 0))
  | 0, _ => by
    rw [sm_zero fun i _ => ?_]
    · rfl
    · show cq 0 * f i = 0
      rw [cq_0]; grind
  | K + 1, hK => by
    have hlt : K < at_.length := hK
    have ha := getD_at hlt 0
    have han : at_.getD K 0 < n := by rw [ha]; exact hl _ (List.getElem_mem hlt)
    have hout : putF at_ l K (at_.getD K 0) = 0 := putF_out K fun j hj => by
      rw [ha, getD_at (show j < at_.length by omega)]
      have := List.pairwise_iff_getElem.1 hs j K (by omega) hlt hj
      omega
    have e : ∀ i, i < n → cq (putF at_ l (K + 1) i) * f i = cq (putF at_ l K i) * f i + (if i = at_.getD K 0 then cv l K * f (at_.getD K 0) else 0) := fun i _ => by
      show cq (if i = at_.getD K 0 then nth l K else putF at_ l K i) * f i = _
      by_cases h : i = at_.getD K 0
      · rw [if_pos h, if_pos h, h, hout, cq_0]
        unfold cv; grind
      · rw [if_neg h, if_neg h]; grind
    rw [sm_congr e, sm_add, put_sum hs hl f K (by omega), sm_one han (fun i _ h => if_neg h), if_pos rfl]
    rfl
theorem ownL_sorted (owners who : List Int) (n : Nat) : (ownL owners who n).Pairwise (· < ·) := by
  unfold ownL
  exact List.pairwise_lt_range.sublist List.filter_sublist

/-- A sum of rows, at one column. -/
def sumK (y : List Int) (rows : List (List Int)) (k : Nat) : Nat → Int
  | 0 => 0
  | i + 1 => (sumK y rows k i + nth y i * nth (rows.getD i []) k) % 1073741789
theorem sumK_num (y : List Int) (rows : List (List Int)) (k : Nat) : ∀ i, 0 ≤ sumK y rows k i ∧ sumK y rows k i < 1073741789
  | 0 => by unfold sumK; omega
  | i + 1 => by unfold sumK; omega
theorem cq_sumK (y : List Int) (rows : List (List Int)) (k : Nat) : ∀ n, cq (sumK y rows k n) = sm n (fun i => cv y i * cv (rows.getD i []) k)
  | 0 => by unfold sumK; rw [cq_0]; rfl
  | n + 1 => by
    unfold sumK
    rw [cq_mod, cq_add, cq_mul, cq_sumK y rows k n]; rfl

structure AccP (rows : List (List Int)) (owners who y : List Int) : Prop where
  len : y.length = rows.length
  num : ∀ z ∈ y, 0 ≤ z ∧ z < 1073741789
  own : ∀ i, i < rows.length → nth y i ≠ 0 → nth owners i ∈ who
  sum : ∀ k, k < colsQ rows → sumK y rows k rows.length = if k = 0 then 1 else 0
theorem put_num {at_ : List Nat} {l : List Int} (h : ∀ k, k < at_.length → 0 ≤ nth l k ∧ nth l k < 1073741789) {i : Nat} : ∀ K, K ≤ at_.length → 0 ≤ putF at_ l K i ∧ putF at_ l K i < 1073741789
  | 0, _ => by unfold putF; omega
  | K + 1, hK => by
    unfold putF
    split
    · exact h K hK
    · exact put_num h K (by omega)
theorem put_own {at_ : List Nat} {l : List Int} {i : Nat} : ∀ K, K ≤ at_.length → putF at_ l K i ≠ 0 → i ∈ at_
  | 0, _, h => absurd rfl h
  | K + 1, hK, h => by
    unfold putF at h
    by_cases e : i = at_.getD K 0
    · rw [e, getD_at hK]; exact List.getElem_mem hK
    · rw [if_neg e] at h
      exact put_own K (by omega) h

theorem acc_pack {rows : List (List Int)} {owners who : List Int} (hP : ProgOK rows owners) (hok : accOk rows owners who = true) : AccP rows owners who (accY rows owners who) := by
  have hR := pownR_right (who := who) hP
  have hok2 : rcombOk (pownR rows owners who) (tgt (colsQ rows)) = true := by
    unfold accOk at hok
    rw [Bool.and_eq_true] at hok
    exact hok.2
  have hlen : (pownR rows owners who).length = (ownL owners who rows.length).length := by unfold pownR; rw [List.length_map]
  have hnum : ∀ k, k < (ownL owners who rows.length).length → 0 ≤ nth (rcombY (pownR rows owners who) (tgt (colsQ rows))) k ∧ nth (rcombY (pownR rows owners who) (tgt (colsQ rows))) k < 1073741789 := fun k hk => rcombY_num hR (tgt_num _) (by rw [hlen]; exact hk)
  have hy : ∀ i, i < rows.length → nth (accY rows owners who) i = putF (ownL owners who rows.length) (rcombY (pownR rows owners who) (tgt (colsQ rows))) (ownL owners who rows.length).length i := fun i hi => by
    unfold accY accN
    rw [if_pos hok, nth_map _ _ hi]
  have hl : (accY rows owners who).length = rows.length := by unfold accY accN; rw [if_pos hok]; simp
  refine ⟨hl, fun z hz => ?_, fun i hi h => ?_, fun k hk => ?_⟩
  · obtain ⟨i, hi, rfl⟩ := List.mem_iff_getElem.1 hz
    rw [← nth_at hi, hy i (by omega)]
    exact put_num hnum _ (Nat.le_refl _)
  · rw [hy i hi] at h
    exact (ownL_lt (put_own _ (Nat.le_refl _) h)).2
  · have h1 := comb_makes hR (tgt_num _) hok2 k (by rw [tgt_len]; exact hk)
    have h2 := put_sum (l := rcombY (pownR rows owners who) (tgt (colsQ rows))) (ownL_sorted owners who rows.length) (fun a ha => (ownL_lt ha).1) (fun i => cv (rows.getD i []) k) _ (Nat.le_refl _)
    have h3 : cq (sumK (accY rows owners who) rows k rows.length) = cv (tgt (colsQ rows)) k := by
      rw [cq_sumK, h1, hlen, sm_congr (g := fun i => cq (putF (ownL owners who rows.length) (rcombY (pownR rows owners who) (tgt (colsQ rows))) (ownL owners who rows.length).length i) * cv (rows.getD i []) k) (fun i hi => by unfold cv; rw [hy i hi]), h2]
      refine sm_congr fun j hj => ?_
      rw [fm_row _ (by rw [hlen]; exact hj)]
      congr 1
      unfold pownR
      rw [List.getElem_map, getD_at hj]
    rw [cv_tgt hk] at h3
    have hn := sumK_num (accY rows owners who) rows k rows.length
    by_cases e : k = 0
    · rw [if_pos e] at h3 ⊢
      exact cq_inj hn (by omega) (h3.trans cq_1.symm)
    · rw [if_neg e] at h3 ⊢
      exact cq_inj hn (by omega) (h3.trans cq_0.symm)
end Go.Proofs.Ytjjoadmkpbmhpaa

namespace Go.Proofs.Ytjjoadmkpbmhpaa
open Go.RowKit FP

/-! A drawn region with guards: every operation is calm but the last one. -/
/-! What Move computes. -/
def pnth (l : List (Int × Int)) (j : Nat) : Int × Int := l.getD j (0, 0)
theorem pnth_at {l : List (Int × Int)} {j : Nat} (h : j < l.length) : pnth l j = l[j] := by
  unfold pnth; rw [List.getD_eq_getElem?_getD, List.getElem?_eq_getElem h]; rfl
/-- The number of row i of those that deal. -/
def wgt (y rws : List Int) (i : Nat) : Int := nth y (nth rws i).toNat
def comF (css : List (List Int)) (rws y : List Int) (j : Nat) : Nat → Int
  | 0 => 1
  | i + 1 => comF css rws y j i * powE (nth (css.getD i []) j) (wgt y rws i) % 2147483579
def valF (ls : List (List (Int × Int))) (rws y : List Int) (j : Nat) : Nat → Int
  | 0 => 0
  | i + 1 => (valF ls rws y j i + wgt y rws i * (pnth (ls.getD i []) j).2 % 1073741789) % 1073741789
def mvC (css : List (List Int)) (rws y : List Int) (n : Nat) : List Int := (List.range n).map fun j => comF css rws y j rws.length
def mvS (ls : List (List (Int × Int))) (rws y : List Int) (j : Nat) : Int × Int := ((pnth (ls.getD 0 []) j).1, valF ls rws y j rws.length)
def mvL (ls : List (List (Int × Int))) (rws y : List Int) : List (Int × Int) := (List.range (ls.getD 0 []).length).map (mvS ls rws y)
theorem mvL_len (ls : List (List (Int × Int))) (rws y : List Int) : (mvL ls rws y).length = (ls.getD 0 []).length := by unfold mvL; simp
theorem mvC_len (css : List (List Int)) (rws y : List Int) (n : Nat) : (mvC css rws y n).length = n := by unfold mvC; simp
/-- One dealing is right. -/
def oneB (rows : List (List Int)) (owners cs : List Int) (rows2 : List (List Int)) (rws : List Int) (css : List (List Int)) (ls : List (List (Int × Int))) (i : Nat) : Bool :=
  (fitM rows owners cs rows2 (nth rws i) (css.getD i []) && decide (rowsS (ls.getD 0 []) = rowsS (ls.getD i []))) && fitL rows2 (css.getD i []) (ls.getD i [])
def dealtB (rows : List (List Int)) (owners cs : List Int) (rows2 : List (List Int)) (rws : List Int) (css : List (List Int)) (ls : List (List (Int × Int))) (n : Nat) : Bool :=
  (List.range n).all (oneB rows owners cs rows2 rws css ls)
theorem dealtB_bad {rows : List (List Int)} {owners cs : List Int} {rows2 : List (List Int)} {rws : List Int} {css : List (List Int)} {ls : List (List (Int × Int))} {n i : Nat} (hi : i < n) (h : oneB rows owners cs rows2 rws css ls i = false) : dealtB rows owners cs rows2 rws css ls n = false := by
  cases e : dealtB rows owners cs rows2 rws css ls n with
  | false => rfl
  | true => unfold dealtB at e; rw [List.all_eq_true] at e; rw [e i (List.mem_range.2 hi)] at h; cases h
theorem dealtB_all {rows : List (List Int)} {owners cs : List Int} {rows2 : List (List Int)} {rws : List Int} {css : List (List Int)} {ls : List (List (Int × Int))} {n : Nat} (h : ∀ i, i < n → oneB rows owners cs rows2 rws css ls i = true) : dealtB rows owners cs rows2 rws css ls n = true := by
  unfold dealtB; rw [List.all_eq_true]; exact fun i hi => h i (List.mem_range.1 hi)
def mvE (rows : List (List Int)) (owners : List Int) (ep : Int) (cs : List Int) (rows2 : List (List Int)) (owners2 who rws : List Int) (css : List (List Int)) (ls : List (List (Int × Int))) : Int :=
  if chkE rows owners ep cs rows2 owners2 ≠ 0 then chkE rows owners ep cs rows2 owners2 else if 64 ≤ ep then 2
  else if ¬ (peopleB (-1) who = true ∧ rws = ownN owners who owners.length) then 1
  else if ¬ (accOk rows owners who = true ∧ css.length = rws.length ∧ ls.length = rws.length) then 340
  else if dealtB rows owners cs rows2 rws css ls rws.length = true then 0 else 340

/-! Whoever is enough has a row. -/
theorem sumK_zero {y : List Int} {rows : List (List Int)} {k : Nat} (h : ∀ i, nth y i = 0) : ∀ n, sumK y rows k n = 0 := by
  intro n
  induction n with
  | zero => rfl
  | succ n ih => unfold sumK; rw [ih, h n]; simp
theorem acc_own {rows : List (List Int)} {owners who : List Int} (hp : progE rows owners = 0) (h : accOk rows owners who = true) : ownN owners who owners.length ≠ [] := by
  intro e
  have hP := progE_ok hp
  have hA := acc_pack hP h
  have hl : ownL owners who rows.length = [] := by
    unfold ownN at e
    rw [List.map_eq_nil_iff] at e
    rwa [← hP.len] at e
  have h0 : ∀ i, nth (accY rows owners who) i = 0 := fun i => by
    by_cases hi : i < rows.length
    · by_cases h1 : nth (accY rows owners who) i = 0
      · exact h1
      · have h2 : i ∈ ownL owners who rows.length := ownL_mem.2 ⟨hi, hA.own i hi h1⟩
        rw [hl] at h2; cases h2
    · exact nth_out (by rw [hA.len]; exact hi)
  have h1 := hA.sum 0 hP.cols
  rw [sumK_zero h0, if_pos rfl] at h1
  exact absurd h1 (by decide)

end Go.Proofs.Ytjjoadmkpbmhpaa

namespace Go.Proofs.Ytjjoadmkpbmhpaa
open Go.RowKit FP

/-- The new key lies in a box of its own, with a row of integers that grows. -/
structure KeyR (W0 : World) (e : Int) (rv ov L : Value) (n : Nat) (xs : List Int) (W : World) : Prop where
  b : Below W0.heap.size W0 W
  q : W.heap[W0.heap.size]? = some (.cells #[.int .i64 e, rv, ov, L] 30 (0, 0))
  o : W.ownsRow (W0.heap.size + 1) 3 1 L n (xs.map (Value.int .i64))
/-- As KeyR; the row has grown, and the box still has the old one. -/
structure KeyA (W0 : World) (e : Int) (rv ov L : Value) (n : Nat) (xs : List Int) (L' : Value) (W : World) : Prop where
  sl : ∃ g c, L' = .slice (some ⟨g, 0, none⟩) n c
  b : Below W0.heap.size W0 W
  q : W.heap[W0.heap.size]? = some (.cells #[.int .i64 e, rv, ov, L] 30 (0, 0))
  o : W.ownsRow (W0.heap.size + 1) 3 1 L' n (xs.map (Value.int .i64))
theorem KeyR.below {W0 W W' : World} {e : Int} {rv ov L : Value} {n : Nat} {xs : List Int} (h : KeyR W0 e rv ov L n xs W) (hb : Below W.heap.size W W') : KeyR W0 e rv ov L n xs W' :=
  ⟨h.b.trans (hb.mono h.b.size), (hb.block _ (row_lt h.q)).trans h.q, own_keep h.o hb⟩
theorem KeyA.below {W0 W W' : World} {e : Int} {rv ov L : Value} {n : Nat} {xs : List Int} {L' : Value} (h : KeyA W0 e rv ov L n xs L' W) (hb : Below W.heap.size W W') : KeyA W0 e rv ov L n xs L' W' :=
  ⟨h.sl, h.b.trans (hb.mono h.b.size), (hb.block _ (row_lt h.q)).trans h.q, own_keep h.o hb⟩
theorem KeyR.app {W0 W W' : World} {e z : Int} {rv ov L : Value} {n g c : Nat} {xs : List Int} (h : KeyR W0 e rv ov L n xs W) (ho : W'.ownsRow (W0.heap.size + 1) 3 1 (.slice (some ⟨g, 0, none⟩) (n + 1) c) (n + 1) (xs.map (Value.int .i64) ++ [.int .i64 z])) (hg : W.grownBy W' L.ownBlock) : KeyA W0 e rv ov L (n + 1) (xs ++ [z]) (.slice (some ⟨g, 0, none⟩) (n + 1) c) W' := by
  have hlt := row_lt h.q
  have hb : Below (W0.heap.size + 1) W W' := own_below h.o hg (by omega)
  exact ⟨⟨_, _, rfl⟩, h.b.trans (hb.mono (Nat.le_succ _)), (hb.block _ (Nat.lt_succ_self _)).trans h.q, by rw [List.map_append]; exact ho⟩
theorem KeyA.store {W0 W : World} {e : Int} {rv ov L L' : Value} {n : Nat} {xs : List Int} (h : KeyA W0 e rv ov L n xs L' W) : KeyR W0 e rv ov L' n xs (W.setCell ⟨W0.heap.size, 3, none⟩ L') :=
  ⟨h.b.setCell (Nat.le_refl _) _, row_set h.q 3 _, ownsRow_setCell_other h.o (a := ⟨W0.heap.size, 3, none⟩) (fun hc => by have := own_lt h.o _ hc; simp only at this; omega) _⟩

/-- An integer in a row of one. -/
def OneI (z : Int) (v : Value) (w : World) : Prop := ∃ b, v = .slice (some ⟨b, 0, none⟩) 1 1 ∧ w.cell? ⟨b, 0, none⟩ = some (.int .i64 z)
theorem OneI.below {z : Int} {v : Value} {w w' : World} (h : OneI z v w) (hb : Below w.heap.size w w') : OneI z v w' := by
  obtain ⟨b, h1, h2⟩ := h; exact ⟨b, h1, below_cell hb h2⟩
theorem OneI.new (z : Int) (w : World) (T : TypeId) : OneI z (.slice (some ⟨w.heap.size, 0, none⟩) 1 1) (w.alloc (.cells #[.int .i64 z] T)) :=
  ⟨_, rfl, by rw [World.cell?_alloc_at _ _ _ _ rfl]; rfl⟩
set_option maxRecDepth 100000 in
theorem wp_app_int {o : Oper} {a : Act} {K : Act → World → Prop} {Q : Exit → Act → World → Prop} {W : World} (hgd : o.guard = none) (s x : Operand) (ho : o.op = .call { callee := .builtin .append, args := #[s, x], argTypes := #[23, 23] })
    (base n : Nat) (v : Value) (xs : List Value) (hs : a.eval s = v) (hown : W.ownsRow base 3 1 v n xs) (u : Value) (z : Int) (hx : a.eval x = u) (hI : OneI z u W) (hn : n ≤ 1000000) (hbase : base ≤ W.heap.size)
    (h : ∀ g cap w', w'.ownsRow base 3 1 (.slice (some ⟨g, 0, none⟩) (n + 1) cap) (n + 1) (xs ++ [.int .i64 z]) → W.grownBy w' v.ownBlock → K (a.put o.dst (.slice (some ⟨g, 0, none⟩) (n + 1) cap)) w') : Oper.wp Try.prog o a W K Q := by
  obtain ⟨b, rfl, hcell⟩ := hI
  have h1 := step_app_int (ops := #[]) (E := True) (K := K) (Q := Q) hgd s x ho base n v xs hs hown b 1 z hx hcell hn hbase W.heap.size rfl (fun g cap w' h1 h2 _ _ => h g cap w' h1 h2)
  rwa [if_pos (by unfold Region.wanted; rw [hgd])] at h1

/-- What weighted returns. -/
def WFun (rv yv : Value) (rows y : List Int) (v : Value) (w : World) : Prop := ∃ b1 b2, v = .func (.func 74) #[] #[.pointer (some ⟨b1, 0, none⟩), .pointer (some ⟨b2, 0, none⟩)] ∧ WReads b1 b2 rv yv rows y w
theorem WReads.below {b1 b2 : Nat} {rv yv : Value} {rows y : List Int} {w w' : World} (h : WReads b1 b2 rv yv rows y w) (hb : Below w.heap.size w w') : WReads b1 b2 rv yv rows y w' :=
  ⟨below_cell hb h.row, below_cell hb h.num, h.rs.below hb, h.ys.below hb⟩
theorem WFun.below {rv yv : Value} {rows y : List Int} {v : Value} {w w' : World} (h : WFun rv yv rows y v w) (hb : Below w.heap.size w w') : WFun rv yv rows y v w' := by
  obtain ⟨b1, b2, h1, h2⟩ := h; exact ⟨b1, b2, h1, h2.below hb⟩
set_option maxRecDepth 100000 in
theorem wfun_any (rv yv : Value) (rows y : List Int) (w : World) (hr : Ints w rv rows) (hy : Ints w yv y) :
    Calls Try.prog 47 #[rv, yv] w fun e w' => ∃ v, e = .returned v ∧ WFun rv yv rows y v w' ∧ Below w.heap.size w w' := by
  obtain ⟨a1, c1, e1, -⟩ := id hr
  obtain ⟨a2, c2, e2, -⟩ := id hy
  refine (weighted_any rv yv w ⟨_, _, _, e1⟩ ⟨_, _, _, e2⟩).mono ?_
  rintro e w' ⟨rfl, rfl⟩
  have hb1 := below_new w #[rv] 23
  have hb2 := below_new (w.alloc (.cells #[rv] 23)) #[yv] 23
  have hs : (w.alloc (.cells #[rv] 23)).heap.size = w.heap.size + 1 := by simp
  have hb := hb1.trans (hb2.mono hb1.size)
  have q1 : (w.alloc (.cells #[rv] 23)).heap[w.heap.size]? = some (.cells #[rv] 23 (0, 0)) := World.alloc_heap_new _ _
  have q2 : ((w.alloc (.cells #[rv] 23)).alloc (.cells #[yv] 23)).heap[w.heap.size + 1]? = some (.cells #[yv] 23 (0, 0)) := by rw [← hs]; exact World.alloc_heap_new _ _
  exact ⟨_, rfl, ⟨_, _, rfl, row_cell ((hb2.block _ (row_lt q1)).trans q1) rfl, row_cell q2 rfl, hr.below hb, hy.below hb⟩, hb⟩

theorem comF_el {css : List (List Int)} {rws y : List Int} {j : Nat} (h : ∀ i, i < rws.length → El (nth (css.getD i []) j)) : ∀ i, i ≤ rws.length → El (comF css rws y j i) := by
  intro i
  induction i with
  | zero => intro _; exact el_one
  | succ i ih => intro hi; unfold comF; exact el_mul (ih (by omega)) (el_powE (h i (by omega)) _)
theorem valF_num {ls : List (List (Int × Int))} {rws y : List Int} {j : Nat} (i : Nat) : 0 ≤ valF ls rws y j i ∧ valF ls rws y j i < 1073741789 := by
  cases i <;> unfold valF <;> omega

set_option maxRecDepth 100000 in
/-- The powers of the commitments are multiplied. -/
theorem fold2_any (cb jb : Nat) (rv yv cv : Value) (rows y : List Int) (css : List (List Int)) (j : Nat) (v : Value) (w : World) (hW : WFun rv yv rows y v w) (x0 : w.cell? ⟨cb, 0, none⟩ = some cv) (xj : w.cell? ⟨jb, 0, none⟩ = some (.int .i64 (j : Int)))
    (hC : Rows2 w cv css) (hl : css.length = rows.length) (hin : ∀ k, k < rows.length → 0 ≤ nth rows k ∧ nth rows k < y.length) (hcol : ∀ i, i < rows.length → j < (css.getD i []).length ∧ El (nth (css.getD i []) j)) (hy : ∀ i, R64 (nth y i)) :
    Calls Try.prog 46 #[v, .int .i64 1, .func (.func 48) #[] #[.pointer (some ⟨cb, 0, none⟩), .pointer (some ⟨jb, 0, none⟩)]] w fun e w' => e = .returned (.int .i64 (comF css rows y j rows.length)) ∧ Below w.heap.size w w' := by
  obtain ⟨b1, b2, rfl, hR⟩ := hW
  refine mfold2_any 74 _ rows.length (fun i => (i : Int)) (fun i => nth y (nth rows i).toNat) _ _ (comF css rows y j) w weighted1_goes ?_ ?_
  · intro I hI
    exact weighted1_iterates b1 b2 rv yv rows y hin I (fun i W h => hR.below (hI i W h))
  · intro i hi W hb
    exact move2_any cb jb cv css i j _ _ W (below_cell hb x0) (below_cell hb xj) (hC.below hb) (by omega) (hcol i hi).1 (hcol i hi).2 (comF_el (fun i hi => (hcol i hi).2) i (Nat.le_of_lt hi)) (hy _)
set_option maxRecDepth 100000 in
/-- The values are added, each with its number. -/
theorem fold3_any (cb jb : Nat) (rv yv cv : Value) (rows y : List Int) (ls : List (List (Int × Int))) (j : Nat) (v : Value) (w : World) (hW : WFun rv yv rows y v w) (x0 : w.cell? ⟨cb, 0, none⟩ = some cv) (xj : w.cell? ⟨jb, 0, none⟩ = some (.int .i64 (j : Int)))
    (hC : SRows w cv ls) (hl : ls.length = rows.length) (hin : ∀ k, k < rows.length → 0 ≤ nth rows k ∧ nth rows k < y.length) (hcol : ∀ i, i < rows.length → j < (ls.getD i []).length) (hy : ∀ i, R64 (nth y i)) :
    Calls Try.prog 46 #[v, .int .i64 0, .func (.func 50) #[] #[.pointer (some ⟨cb, 0, none⟩), .pointer (some ⟨jb, 0, none⟩)]] w fun e w' => e = .returned (.int .i64 (valF ls rows y j rows.length)) ∧ Below w.heap.size w w' := by
  obtain ⟨b1, b2, rfl, hR⟩ := hW
  refine mfold3_any 74 _ rows.length (fun i => (i : Int)) (fun i => nth y (nth rows i).toNat) _ _ (valF ls rows y j) w weighted1_goes ?_ ?_
  · intro I hI
    exact weighted1_iterates b1 b2 rv yv rows y hin I (fun i W h => hR.below (hI i W h))
  · intro i hi W hb
    have h := move3_any cb jb cv ls i j (valF ls rows y j i) (nth y (nth rows i).toNat) W (below_cell hb x0) (below_cell hb xj) (hC.below hb) (by omega) (hcol i hi) (num_r64 (valF_num i)) (hy _)
    rw [← pnth_at (hcol i hi)] at h
    exact h
theorem nth_r64' {y : List Int} (h : ∀ z ∈ y, 0 ≤ z ∧ z < 1073741789) (i : Nat) : R64 (nth y i) := by
  by_cases hi : i < y.length
  · rw [nth_at hi]; exact num_r64 (h _ (List.getElem_mem hi))
  · rw [nth_out hi]; exact num_r64 ⟨Int.le_refl _, by decide⟩
theorem comB_col {rows2 : List (List Int)} {ck : List Int} (h : comB rows2 ck = true) {j : Nat} (hj : j < colsQ rows2) : j < ck.length ∧ El (nth ck j) := by
  unfold comB at h
  rw [Bool.and_eq_true, decide_eq_true_eq, Bool.not_eq_true'] at h
  refine ⟨by omega, ?_⟩
  have hl : j < ck.length := by omega
  have h1 := List.any_eq_false.1 h.1 _ (List.getElem_mem hl)
  rw [nth_at hl]
  exact elB_iff.1 (by unfold notEl at h1; simpa using h1)

theorem own_in {owners who : List Int} {n k : Nat} (h : k < (ownN owners who n).length) : 0 ≤ nth (ownN owners who n) k ∧ nth (ownN owners who n) k < n := by
  rw [nth_at h]
  obtain ⟨i, hi, he⟩ := List.mem_map.1 (List.getElem_mem h)
  have := (ownL_lt hi).1
  rw [← he]; omega
theorem oneB_ok {rows : List (List Int)} {owners cs : List Int} {rows2 : List (List Int)} {rws : List Int} {css : List (List Int)} {ls : List (List (Int × Int))} {i : Nat} (h : oneB rows owners cs rows2 rws css ls i = true) :
    comB rows2 (css.getD i []) = true ∧ (ls.getD i []).length = (ls.getD 0 []).length ∧ fitL rows2 (css.getD i []) (ls.getD i []) = true := by
  unfold oneB at h
  rw [Bool.and_eq_true, Bool.and_eq_true, decide_eq_true_eq] at h
  obtain ⟨⟨h1, h2⟩, h3⟩ := h
  unfold fitM at h1
  rw [Bool.and_eq_true, Bool.and_eq_true] at h1
  refine ⟨h1.2.1, ?_, h3⟩
  have h4 := congrArg List.length h2
  unfold rowsS at h4
  simpa using h4.symm
theorem mvC_r64 {css : List (List Int)} {rws y : List Int} {n : Nat} (h : ∀ i j, i < rws.length → j < n → El (nth (css.getD i []) j)) : ∀ z ∈ mvC css rws y n, R64 z := fun z hz => by
  unfold mvC at hz
  obtain ⟨j, hj, rfl⟩ := List.mem_map.1 hz
  have h1 := (comF_el (y := y) (fun i hi => h i j hi (List.mem_range.1 hj)) rws.length (Nat.le_refl _)).num
  unfold R64; omega
theorem mvL_r64 {ls : List (List (Int × Int))} {rws y : List Int} (h : ∀ p ∈ ls.getD 0 [], R64 p.1 ∧ R64 p.2) : ∀ p ∈ mvL ls rws y, R64 p.1 ∧ R64 p.2 := fun p hp => by
  unfold mvL at hp
  obtain ⟨j, hj, rfl⟩ := List.mem_map.1 hp
  unfold mvS
  rw [pnth_at (List.mem_range.1 hj)]
  exact ⟨(h _ (List.getElem_mem _)).1, num_r64 (valF_num _)⟩

end Go.Proofs.Ytjjoadmkpbmhpaa

namespace Go.Proofs.Ytjjoadmkpbmhpaa
open Go.RowKit FP

/-- The numbers that are dealt in the end. -/
def linF (y rws : List Int) (vs : Nat → List Int) (j : Nat) : Nat → Int
  | 0 => 0
  | i + 1 => (linF y rws vs j i + wgt y rws i * nth (vs i) j % 1073741789) % 1073741789
def linL (n : Nat) (y rws : List Int) (vs : Nat → List Int) (i : Nat) : List Int := (List.range n).map fun j => linF y rws vs j i
theorem linF_num (y rws : List Int) (vs : Nat → List Int) (j : Nat) : ∀ i, 0 ≤ linF y rws vs j i ∧ linF y rws vs j i < 1073741789
  | 0 => by unfold linF; omega
  | i + 1 => mod_num _
theorem linL_len (n : Nat) (y rws : List Int) (vs : Nat → List Int) (i : Nat) : (linL n y rws vs i).length = n := by unfold linL; simp
theorem linL_nth {n : Nat} {y rws : List Int} {vs : Nat → List Int} {i j : Nat} (h : j < n) : nth (linL n y rws vs i) j = linF y rws vs j i := nth_map n _ h
theorem linL_num (n : Nat) (y rws : List Int) (vs : Nat → List Int) (i : Nat) : ∀ z ∈ linL n y rws vs i, 0 ≤ z ∧ z < 1073741789 := fun z hz => by
  unfold linL at hz
  obtain ⟨j, -, rfl⟩ := List.mem_map.1 hz
  exact linF_num _ _ _ _ _
theorem cq_linF (y rws : List Int) (vs : Nat → List Int) (j : Nat) : ∀ i, cq (linF y rws vs j i) = sm i (fun t => cq (wgt y rws t) * cv (vs t) j)
  | 0 => cq_0
  | i + 1 => by
    show cq ((linF y rws vs j i + wgt y rws i * nth (vs i) j % 1073741789) % 1073741789) = sm i _ + _
    rw [cq_mod, cq_add, cq_mod, cq_mul, cq_linF y rws vs j i]; rfl
theorem cq_valF (ls : List (List (Int × Int))) (rws y : List Int) (j : Nat) : ∀ i, cq (valF ls rws y j i) = sm i (fun t => cq (wgt y rws t) * cq (pnth (ls.getD t []) j).2)
  | 0 => cq_0
  | i + 1 => by
    show cq ((valF ls rws y j i + wgt y rws i * (pnth (ls.getD i []) j).2 % 1073741789) % 1073741789) = sm i _ + _
    rw [cq_mod, cq_add, cq_mod, cq_mul, cq_valF ls rws y j i]

/-- The commitments are those of the numbers. -/
theorem comF_deal {css : List (List Int)} {rws y : List Int} {vs : Nat → List Int} {m j : Nat} (h : ∀ i, i < m → css.getD i [] = dealC (vs i) ∧ j < (vs i).length) : ∀ i, i ≤ m → comF css rws y j i = powE 4 (linF y rws vs j i)
  | 0, _ => by show (1 : Int) = powE 4 0; rw [powE_0]
  | i + 1, hi => by
    show comF css rws y j i * powE (nth (css.getD i []) j) (wgt y rws i) % 2147483579 = powE 4 ((linF y rws vs j i + wgt y rws i * nth (vs i) j % 1073741789) % 1073741789)
    rw [comF_deal h i (by omega), (h i (by omega)).1, show nth (dealC (vs i)) j = powE 4 (nth (vs i) j) from nth_mapv (h i (by omega)).2, powE_mul el_four, ← powE_add el_four]
    refine powE_same ?_
    rw [Int.mul_comm (nth (vs i) j) (wgt y rws i)]
    generalize wgt y rws i * nth (vs i) j = q
    omega
/-- The values are those of the numbers. -/
theorem valF_deal {ls : List (List (Int × Int))} {rws y row : List Int} {vs : Nat → List Int} {m j n : Nat} (hr : row.length = n) (h : ∀ i, i < m → (pnth (ls.getD i []) j).2 = prodQ row (vs i)) : valF ls rws y j m = prodQ row (linL n y rws vs m) := by
  refine cq_inj (valF_num _) (prodQ_num _ _) ?_
  rw [cq_valF, cq_prodQ, hr]
  unfold dt
  rw [sm_congr (g := fun t => sm n (fun k => cq (wgt y rws t) * (cv row k * cv (vs t) k))) (fun t ht => by rw [h t ht, cq_prodQ, hr]; unfold dt; rw [sm_mul]), sm_swap]
  refine sm_congr fun k hk => ?_
  show _ = cv row k * cq (nth (linL n y rws vs m) k)
  rw [linL_nth hk, cq_linF, ← sm_mul]
  exact sm_congr fun t _ => by grind

/-- A sum over the rows of people. -/
theorem sm_own {owners who : List Int} (G : Nat → Fq) : ∀ n, sm (ownL owners who n).length (fun t => G ((ownL owners who n).getD t 0)) = sm n (fun i => if nth owners i ∈ who then G i else 0)
  | 0 => rfl
  | n + 1 => by
    show _ = sm n _ + (if nth owners n ∈ who then G n else 0)
    rw [← sm_own G n]
    by_cases h : nth owners n ∈ who
    · rw [ownL_yes h, if_pos h, List.length_append]
      show sm (ownL owners who n).length _ + _ = _
      congr 1
      · refine sm_congr fun t ht => ?_
        rw [List.getD_eq_getElem?_getD, List.getD_eq_getElem?_getD, List.getElem?_append_left ht]
      · show G ((ownL owners who n ++ [n]).getD (ownL owners who n).length 0) = G n
        rw [List.getD_eq_getElem?_getD, List.getElem?_append_right (Nat.le_refl _), Nat.sub_self]; rfl
    · rw [ownL_no h, if_neg h]; grind
/-- The secret remains. -/
theorem lin_secret {rows : List (List Int)} {owners who s y : List Int} {vs : Nat → List Int} (hP : ProgOK rows owners) (hA : AccP rows owners who y) (hn : 0 ≤ nth s 0 ∧ nth s 0 < 1073741789)
    (h : ∀ i, i < (ownN owners who owners.length).length → nth (vs i) 0 = prodQ (rows.getD (nth (ownN owners who owners.length) i).toNat []) s) :
    linF y (ownN owners who owners.length) vs 0 (ownN owners who owners.length).length = nth s 0 := by
  refine cq_inj (linF_num _ _ _ _ _) hn ?_
  rw [cq_linF]
  have hlen : (ownN owners who owners.length).length = (ownL owners who owners.length).length := by unfold ownN; rw [List.length_map]
  have hat : ∀ i, i < (ownL owners who owners.length).length → (nth (ownN owners who owners.length) i).toNat = (ownL owners who owners.length).getD i 0 := fun i hi => by
    rw [nth_at (by omega)]
    unfold ownN
    rw [List.getElem_map, List.getD_eq_getElem?_getD, List.getElem?_eq_getElem hi]
    simp
  rw [hlen]
  rw [hlen] at h
  rw [sm_congr (g := fun t => (fun i => cv y i * cq (prodQ (rows.getD i []) s)) ((ownL owners who owners.length).getD t 0)) (fun t ht => by
    show cq (nth y (nth (ownN owners who owners.length) t).toNat) * cq (nth (vs t) 0) = _
    rw [h t ht, hat t ht]; rfl), sm_own (fun i => cv y i * cq (prodQ (rows.getD i []) s))]
  rw [← hP.len]
  rw [sm_congr (g := fun i => sm (colsQ rows) (fun k => cv y i * cv (rows.getD i []) k * cv s k)) (fun i hi => ?_), sm_swap]
  · rw [sm_congr (g := fun k => cq (sumK y rows k rows.length) * cv s k) (fun k hk => by rw [cq_sumK, ← sm_mul_r])]
    rw [sm_one (k := 0) hP.cols (fun k hk h0 => by rw [hA.sum k hk, if_neg h0, cq_0]; grind)]
    rw [hA.sum 0 hP.cols, if_pos rfl, cq_1]
    show 1 * cq (nth s 0) = _
    grind
  · have hrow : (rows.getD i []).length = colsQ rows := by rw [getD_at hi]; exact hP.row hi
    have e : cv y i * cq (prodQ (rows.getD i []) s) = sm (colsQ rows) (fun k => cv y i * cv (rows.getD i []) k * cv s k) := by
      rw [cq_prodQ, hrow]; unfold dt; rw [← sm_mul]; exact sm_congr fun k _ => by grind
    by_cases ho : nth owners i ∈ who
    · rw [if_pos ho]; exact e
    · have h0 : nth y i = 0 := by
        by_cases h1 : nth y i = 0
        · exact h1
        · exact absurd (hA.own i hi h1) ho
      rw [if_neg ho, ← e]
      unfold cv; rw [h0, cq_0]; grind

/-- What is dealt for some rows. -/
def selL (rows : List (List Int)) (s : List Int) (K : List Nat) : List (Int × Int) := K.map (dealF rows s)
theorem selL_all (rows : List (List Int)) (s : List Int) : selL rows s (List.range rows.length) = dealL rows s := rfl
theorem selL_len (rows : List (List Int)) (s : List Int) (K : List Nat) : (selL rows s K).length = K.length := by unfold selL; simp
theorem selL_at (rows : List (List Int)) (s : List Int) {K : List Nat} {j : Nat} (h : j < K.length) : pnth (selL rows s K) j = ((K[j] : Int), prodQ (rows.getD K[j] []) s) := by
  rw [pnth_at (by rw [selL_len]; exact h)]; unfold selL; rw [List.getElem_map]; rfl
theorem rowsS_sel (rows : List (List Int)) (s t : List Int) (K : List Nat) : rowsS (selL rows s K) = rowsS (selL rows t K) := by
  unfold rowsS selL; rw [List.map_map, List.map_map]; rfl
theorem selL_sub {rows : List (List Int)} {s : List Int} {K : List Nat} (h : K.Sublist (List.range rows.length)) : (selL rows s K).Sublist (dealL rows s) := List.Sublist.map _ h

/-- A dealing of a share fits. -/
theorem fitM_deal {rows : List (List Int)} {owners : List Int} {rows2 : List (List Int)} {owners2 : List Int} {x : Int} {u : List Int} {r : Int} {v : List Int} {a : Int} (h : DealOK rows owners x u) (hp : progE rows owners = 0) (hr : 0 ≤ r ∧ r < (rows.length : Int)) (h2 : DealOK rows2 owners2 a v) (hp2 : progE rows2 owners2 = 0) :
    fitM rows owners (dealC (x :: u)) rows2 r (dealC (a :: v)) = decide (a = prodQ (rows.getD r.toNat []) (x :: u)) := by
  have hk : r.toNat < rows.length := by omega
  have hE : pubE rows owners (dealC (x :: u)) r = 0 := by unfold pubE; rw [dchkE_of (com_deal h hp), if_neg (by simp), if_neg (by omega)]
  have hR : pubR rows owners (dealC (x :: u)) r = powE 4 (prodQ (rows.getD r.toNat []) (x :: u)) := by
    unfold pubR
    rw [if_pos hE]
    unfold pubQ
    rw [pub_deal _ _ _ (by simp [dealC])]
    congr 1
    unfold prodQ
    rw [getD_at hk, h.prog.row hk]
    congr 1
    rw [← h.full]; simp [dealC]
  unfold fitM
  rw [hE, hR, (com_deal_B h2 hp2).1, decide_eq_true rfl, Bool.true_and, Bool.true_and, show nth (dealC (a :: v)) 0 = powE 4 a from nth_mapv (f := powE 4) (l := a :: v) (by simp)]
  have hn := prodQ_num (rows.getD r.toNat []) (x :: u)
  generalize prodQ (rows.getD r.toNat []) (x :: u) = p at *
  by_cases e : a = p
  · subst e; simp
  · rw [decide_eq_false e]
    exact beq_eq_false_iff_ne.2 (fun hh => e (by have h5 := el_order2 el_four four_ne hh; have h6 := h2.hx; omega))

/-- What dealers of a key's shares deal on. -/
structure OnD (rows : List (List Int)) (owners : List Int) (x : Int) (u : List Int) (rows2 : List (List Int)) (owners2 rws : List Int) (vs : Nat → List Int) (K : List Nat) (css : List (List Int)) (ls : List (List (Int × Int))) : Prop where
  key : DealOK rows owners x u
  p1 : progE rows owners = 0
  p2 : progE rows2 owners2 = 0
  lc : css.length = rws.length
  ll : ls.length = rws.length
  k : K.Sublist (List.range rows2.length)
  each : ∀ i, i < rws.length → css.getD i [] = dealC (vs i) ∧ ls.getD i [] = selL rows2 (vs i) K ∧ ∃ v, vs i = prodQ (rows.getD (nth rws i).toNat []) (x :: u) :: v ∧ DealOK rows2 owners2 (prodQ (rows.getD (nth rws i).toNat []) (x :: u)) v
theorem mov_deal {rows : List (List Int)} {owners : List Int} {x ep : Int} {u : List Int} {rows2 : List (List Int)} {owners2 who : List Int} {vs : Nat → List Int} {K : List Nat} {css : List (List Int)} {ls : List (List (Int × Int))}
    (h : OnD rows owners x u rows2 owners2 (ownN owners who owners.length) vs K css ls) (h0 : 0 ≤ ep) (h1 : ep < 64) (hw : peopleB (-1) who = true) (ha : accOk rows owners who = true) :
    ∃ u', u' = (linL (colsQ rows2) (accY rows owners who) (ownN owners who owners.length) vs (ownN owners who owners.length).length).tail ∧ DealOK rows2 owners2 x u' ∧ mvE rows owners ep (dealC (x :: u)) rows2 owners2 who (ownN owners who owners.length) css ls = 0 ∧
      mvC css (ownN owners who owners.length) (accY rows owners who) (colsQ rows2) = dealC (x :: u') ∧ mvL ls (ownN owners who owners.length) (accY rows owners who) = selL rows2 (x :: u') K := by
  have hP := h.key.prog
  have hP2 := progE_ok h.p2
  have hA := acc_pack hP ha
  have hpos : 0 < (ownN owners who owners.length).length := List.length_pos_iff.2 (acc_own h.p1 ha)
  obtain ⟨rws, hrws⟩ : ∃ r, r = ownN owners who owners.length := ⟨_, rfl⟩
  have hin : ∀ i, i < rws.length → 0 ≤ nth rws i ∧ nth rws i < (rows.length : Int) := fun i hi => by
    rw [hP.len]; rw [hrws] at hi ⊢; exact own_in hi
  have hsec := lin_secret (s := x :: u) (vs := vs) hP hA h.key.hx (fun i hi => by obtain ⟨-, -, v, e, -⟩ := h.each i hi; rw [e]; rfl)
  rw [← hrws] at h hpos hsec ⊢
  have hvl : ∀ i, i < rws.length → (vs i).length = colsQ rows2 := fun i hi => by
    obtain ⟨-, -, v, e, hv⟩ := h.each i hi
    rw [e]; exact hv.full
  have hL : linL (colsQ rows2) (accY rows owners who) rws vs rws.length = x :: (linL (colsQ rows2) (accY rows owners who) rws vs rws.length).tail := by
    have hl := linL_len (colsQ rows2) (accY rows owners who) rws vs rws.length
    have h3 : nth (linL (colsQ rows2) (accY rows owners who) rws vs rws.length) 0 = x := (linL_nth hP2.cols).trans hsec
    have h2 := hP2.cols
    cases e : linL (colsQ rows2) (accY rows owners who) rws vs rws.length with
    | nil => rw [e] at hl; simp at hl; omega
    | cons a l => rw [e] at h3; rw [← h3]; rfl
  have hnum := linL_num (colsQ rows2) (accY rows owners who) rws vs rws.length
  refine ⟨(linL (colsQ rows2) (accY rows owners who) rws vs rws.length).tail, rfl, ⟨hP2, h.key.hx, fun z hz => hnum z (List.mem_of_mem_tail hz), ?_⟩, ?_, ?_, ?_⟩
  · have hl := linL_len (colsQ rows2) (accY rows owners who) rws vs rws.length
    have h2 := hP2.cols
    rw [List.length_tail]; omega
  · unfold mvE
    have hc : chkE rows owners ep (dealC (x :: u)) rows2 owners2 = 0 := by
      unfold chkE
      rw [if_neg (by simp [h.p1]), key_deal h.key h.p1 h0 (by omega), if_neg (by simp), h.p2]
    rw [if_neg (by simp [hc]), if_neg (by omega), if_neg (by rw [hw, hrws]; simp), if_neg (by rw [ha, h.lc, h.ll]; simp), if_pos]
    refine dealtB_all fun i hi => ?_
    obtain ⟨e1, e2, v, e3, hv⟩ := h.each i hi
    obtain ⟨-, f2, -⟩ := h.each 0 hpos
    unfold oneB
    rw [e1, e2, f2, e3, fitM_deal h.key h.p1 (hin i hi) hv h.p2, decide_eq_true rfl, rowsS_sel rows2 (vs 0) (prodQ (rows.getD (nth rws i).toNat []) (x :: u) :: v) K, decide_eq_true rfl, fitL_deal hv h.p2 (selL_sub h.k)]
    rfl
  · rw [← hL]
    unfold mvC dealC linL
    rw [List.map_map]
    refine List.map_congr_left fun j hj => ?_
    exact comF_deal (fun i hi => ⟨(h.each i hi).1, by rw [hvl i hi]; exact List.mem_range.1 hj⟩) rws.length (Nat.le_refl _)
  · rw [← hL]
    have f2 := (h.each 0 hpos).2.1
    refine List.ext_getElem (by rw [mvL_len, f2, selL_len, selL_len]) fun j hj1 hj2 => ?_
    rw [selL_len] at hj2
    have hKj : K[j] < rows2.length := List.mem_range.1 (h.k.subset (List.getElem_mem hj2))
    have e1 : (mvL ls rws (accY rows owners who))[j] = mvS ls rws (accY rows owners who) j := by simp [mvL]
    rw [e1, ← pnth_at (l := selL rows2 _ K) (by rw [selL_len]; exact hj2), selL_at rows2 _ hj2]
    unfold mvS
    rw [f2, selL_at rows2 _ hj2, valF_deal (row := rows2.getD K[j] []) (vs := vs) (n := colsQ rows2) (by rw [getD_at hKj]; exact hP2.row hKj) (fun i hi => by rw [(h.each i hi).2.1, selL_at rows2 _ hj2])]

end Go.Proofs.Ytjjoadmkpbmhpaa
