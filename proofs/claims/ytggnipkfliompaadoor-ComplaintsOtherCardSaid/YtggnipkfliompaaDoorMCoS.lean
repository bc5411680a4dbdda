/- The laws of complaints, in plain Lean: other parcels. Drawn regions with guards that look at skipped operations. slices.BinarySearch of a list that rises. Package program: the rows of people. Package program: question, where it refuses. Two rows of a call's own, side by side, each in a variable. Package program: question, where it answers. What LinearSums and LinearChanged say, without a program: combinations of sums; rows that are changed. Package program: Accepts and Refuses. The reference of package program: SameInts, Same, Has. The reference of package program: Has, People, Columns, Few; the laws' product. The reference of package program: Few; the laws' product. -/
import Derived.Test.YtggnipkfliompaaDoorMCoF
import Derived.Test.YtggnipkfliompaaDoorMCoK
import Derived.Test.YtggnipkfliompaaDoorMRegF
import Derived.Test.YtggnipkfliompaaDoorMBase
import Derived.Test.YtggnipkfliompaaDoorMDeaB
import Derived.Test.YtggnipkfliompaaDoorMDeaL
import Derived.Test.YtggnipkfliompaaDoorMLinP
import Derived.Deep.RegionLaw
import Derived.Deep.AppendLies
import Derived.Deep.CutRange
import Derived.Deep.DeepCutAuto
namespace Go.Proofs.YtggnipkfliompaaDoor
open Go.RowKit FP

/-- A parcel that is replaced, but for one row. -/
def chgP (pt ci row : Int) (j : Nat) (p : Pcl) : Pcl := if (j : Int) = row then p else ((j : Int), pt, ci)
/-- The first parcels of a list are replaced. -/
def chgL (pt ci row : Int) (k : Nat) (l : List Pcl) : List Pcl := (List.range l.length).map fun j => if j < k then chgP pt ci row j (l.getD j (0, 0, 0)) else l.getD j (0, 0, 0)
theorem pgetD {l : List Pcl} {j : Nat} (h : j < l.length) : l.getD j (0, 0, 0) = l[j] := by
  rw [List.getD_eq_getElem?_getD, List.getElem?_eq_getElem h]; rfl
theorem chg_len (pt ci row : Int) (k : Nat) (l : List Pcl) : (chgL pt ci row k l).length = l.length := by simp [chgL]
theorem chg_at (pt ci row : Int) (k : Nat) (l : List Pcl) {j : Nat} (h : j < (chgL pt ci row k l).length) (h2 : j < l.length) : (chgL pt ci row k l)[j] = if j < k then chgP pt ci row j l[j] else l[j] := by
  show ((List.range l.length).map fun j => if j < k then chgP pt ci row j (l.getD j (0, 0, 0)) else l.getD j (0, 0, 0))[j]'(by simpa using h2) = _
  rw [List.getElem_map, List.getElem_range, pgetD h2]
theorem chg_zero (pt ci row : Int) (l : List Pcl) : chgL pt ci row 0 l = l := by
  apply List.ext_getElem (chg_len _ _ _ _ _)
  intro j h1 h2
  rw [chg_at _ _ _ _ _ h1 h2, if_neg (Nat.not_lt_zero _)]
theorem chg_step (pt ci row : Int) (k : Nat) (l : List Pcl) (hk : k < l.length) : (chgL pt ci row k l).set k (chgP pt ci row k l[k]) = chgL pt ci row (k + 1) l := by
  apply List.ext_getElem (by rw [List.length_set, chg_len, chg_len])
  intro j h1 h2
  have hj : j < l.length := by rw [chg_len] at h2; exact h2
  have hj1 : j < (chgL pt ci row k l).length := by rw [chg_len]; exact hj
  rw [List.getElem_set, chg_at _ _ _ _ _ h2 hj, chg_at _ _ _ _ _ hj1 hj]
  by_cases e : k = j
  · subst e
    rw [if_pos rfl, if_pos (Nat.lt_succ_self _)]
  · rw [if_neg e]
    by_cases h : j < k
    · rw [if_pos h, if_pos (by omega)]
    · rw [if_neg h, if_neg (by omega)]
theorem chg_keep (pt ci row : Int) (k : Nat) (l : List Pcl) (hk : k < l.length) (hr : (k : Int) = row) : chgL pt ci row k l = chgL pt ci row (k + 1) l := by
  rw [← chg_step pt ci row k l hk]
  apply List.ext_getElem (by rw [List.length_set])
  intro j h1 h2
  have hj : j < l.length := by rw [chg_len] at h1; exact h1
  rw [List.getElem_set]
  by_cases e : k = j
  · subst e
    rw [if_pos rfl, chg_at _ _ _ _ _ h1 hj, if_neg (Nat.lt_irrefl _)]
    unfold chgP
    rw [if_pos hr]
  · rw [if_neg e]
theorem pflat_set : ∀ (l : List Pcl) (k : Nat) (_ : k < l.length) (p : Pcl), (((l.flatMap parC).set (k * 3) (.int .i64 p.1)).set (k * 3 + 1) (.int .i64 p.2.1)).set (k * 3 + 2) (.int .i64 p.2.2) = (l.set k p).flatMap parC
  | [], k, hk, _ => absurd hk (Nat.not_lt_zero k)
  | q :: l, 0, _, p => by simp [parC]
  | q :: l, k + 1, hk, p => by
    have h := pflat_set l k (by simpa using hk) p
    have e1 : (k + 1) * 3 = k * 3 + 3 := by omega
    rw [e1]
    simp only [List.flatMap_cons, List.set_cons_succ]
    rw [← h]
    simp [parC]
theorem pflat_set0 : ∀ (l : List Pcl) (k : Nat) (hk : k < l.length) (z : Int), (l.flatMap parC).set (k * 3) (.int .i64 z) = (l.set k (z, l[k].2)).flatMap parC
  | [], k, hk, _ => absurd hk (Nat.not_lt_zero k)
  | q :: l, 0, _, z => by simp [parC]
  | q :: l, k + 1, hk, z => by
    have h := pflat_set0 l k (by simpa using hk) z
    have e1 : (k + 1) * 3 = k * 3 + 3 := by omega
    rw [e1]
    simp only [List.flatMap_cons, List.set_cons_succ, List.getElem_cons_succ]
    rw [← h]
    simp [parC]
/-- What the four stores leave. -/
theorem chg_store (pt ci row xr : Int) (k : Nat) (l : List Pcl) (hk : k < l.length) (hr : (k : Int) ≠ row) :
    (((((chgL pt ci row k l).flatMap parC).set (k * 3) (.int .i64 xr)).set (k * 3 + 1) (.int .i64 pt)).set (k * 3 + 2) (.int .i64 ci)).set (k * 3) (.int .i64 (k : Int)) = (chgL pt ci row (k + 1) l).flatMap parC := by
  have hk2 : k < (chgL pt ci row k l).length := by rw [chg_len]; exact hk
  have h1 := pflat_set (chgL pt ci row k l) k hk2 (xr, pt, ci)
  have h2 := pflat_set0 ((chgL pt ci row k l).set k (xr, pt, ci)) k (by rw [List.length_set]; exact hk2) (k : Int)
  rw [show (((((chgL pt ci row k l).flatMap parC).set (k * 3) (.int .i64 xr)).set (k * 3 + 1) (.int .i64 pt)).set (k * 3 + 2) (.int .i64 ci)) = ((chgL pt ci row k l).set k (xr, pt, ci)).flatMap parC from h1, h2]
  rw [List.getElem_set_self, List.set_set, ← chg_step pt ci row k l hk]
  unfold chgP
  rw [if_neg hr]

/-- A dealing with other parcels. -/
def chgD (pt ci row : Int) (d : Dlg) : Dlg := ⟨d.dealer, d.cs, chgL pt ci row d.ps.length d.ps⟩
theorem chg_com {rows : List (List Int)} {owners : List Int} {pt ci row : Int} {d : Dlg} (h : Complete rows owners d) : Complete rows owners (chgD pt ci row d) where
  prog := h.prog
  prog0 := h.prog0
  dealer := h.dealer
  len := (chg_len _ _ _ _ _).trans h.len
  com := h.com
  num k hk := by
    have hk0 : k < (chgL pt ci row d.ps.length d.ps).length := hk
    have hk2 : k < d.ps.length := by rw [chg_len] at hk0; exact hk0
    have e : (chgD pt ci row d).ps[k] = chgP pt ci row k d.ps[k] := (chg_at _ _ _ _ _ hk0 hk2).trans (if_pos hk2)
    refine (congrArg (fun p : Pcl => p.1) e).trans ?_
    unfold chgP
    split
    · exact h.num k hk2
    · rfl
theorem chg_par {pt ci row : Int} {d : Dlg} (hr : 0 ≤ row ∧ row < (d.ps.length : Int)) : parAt (chgD pt ci row d) row = parAt d row := by
  have h2 : row.toNat < d.ps.length := by omega
  have h1 : row.toNat < (chgL pt ci row d.ps.length d.ps).length := by rw [chg_len]; exact h2
  show (chgL pt ci row d.ps.length d.ps).getD row.toNat (0, 0, 0) = d.ps.getD row.toNat (0, 0, 0)
  rw [pgetD h1, pgetD h2, chg_at _ _ _ _ _ h1 h2, if_pos h2]
  unfold chgP
  rw [if_pos (by omega)]
/-- Other parcels do not matter. -/
theorem chg_same {rows : List (List Int)} {owners : List Int} {pt ci : Int} {d : Dlg} {c : Cmp} (h : Complete rows owners d) (hr : 0 ≤ c.row ∧ c.row < (d.ps.length : Int)) (s key : Int) :
    mkE rows owners s (chgD pt ci c.row d) c.row = mkE rows owners s d c.row ∧ mkB rows owners s (chgD pt ci c.row d) c.row = mkB rows owners s d c.row ∧ mkC rows owners s (chgD pt ci c.row d) c.row = mkC rows owners s d c.row ∧
    stE rows owners key (chgD pt ci c.row d) c = stE rows owners key d c ∧ stG rows owners key (chgD pt ci c.row d) c = stG rows owners key d c := by
  have e0 := cE_ok.2 h
  have e1 := cE_ok.2 (chg_com (pt := pt) (ci := ci) (row := c.row) h)
  have e2 : (chgD pt ci c.row d).ps.length = d.ps.length := chg_len _ _ _ _ _
  have e3 := chg_par (pt := pt) (ci := ci) hr
  have e4 : (chgD pt ci c.row d).dealer = d.dealer := rfl
  have f : ∀ v, fitV rows (chgD pt ci c.row d) c.row v = fitV rows d c.row v := fun v => rfl
  have hE : mkE rows owners s (chgD pt ci c.row d) c.row = mkE rows owners s d c.row := by unfold mkE; rw [e0, e1, e2, e3, e4]
  have hV : mkV s (chgD pt ci c.row d) c.row = mkV s d c.row := by unfold mkV; rw [e3, e4]
  have hB : mkB rows owners s (chgD pt ci c.row d) c.row = mkB rows owners s d c.row := by unfold mkB; rw [hE, f, hV]
  have hS : stE rows owners key (chgD pt ci c.row d) c = stE rows owners key d c := by unfold stE; rw [e0, e1, e2, e3, e4]
  refine ⟨hE, hB, ?_, hS, ?_⟩
  · unfold mkC; rw [hB, e3, e4]
  · unfold stG; rw [hS, e3, e4]
    simp only [f]

set_option maxRecDepth 100000 in
/-- A list of parcels is appended. -/
theorem app_parcels_any {ops : Array Oper} {rest : List Oper} {o : Oper} {a : Act} {Q : Exit → Act → World → Prop} {W : World} (hgd : o.guard = none) (s x : Operand) (ho : o.op = .call { callee := .builtin .append, args := #[s, x], argTypes := #[26, 26] })
    (base n : Nat) (v : Value) (xs : List Value) (hs : a.eval s = v) (hown : W.ownsRow base 34 3 v n xs) (ad : Addr) (c : Nat) (l : List Pcl) (hx : a.eval x = .slice (some ad) l.length c) (hI : Parcels W (.slice (some ad) l.length c) l) (hn : n + l.length ≤ 1000000) (hbase : base ≤ W.heap.size)
    (h : ∀ v' w', w'.ownsRow base 34 3 v' (n + l.length) (xs ++ l.flatMap parC) → Below base W w' → wpList Tryd.prog ops Q rest (a.put o.dst v') w') : wpList Tryd.prog ops Q (o :: rest) a W := by
  obtain ⟨ad2, c2, e0, hc, hl, hr, hk⟩ := hI
  simp only [Value.slice.injEq] at e0
  obtain ⟨rfl, -, rfl⟩ := e0
  obtain ⟨i, hi, hzz⟩ := Option.map_eq_some_iff.1 infoPar
  simp only [Prod.mk.injEq] at hzz
  obtain ⟨hz, hs1, hb⟩ := hzz
  obtain ⟨zv, hzv, hzs⟩ := Option.map_eq_some_iff.1 hz
  refine wpList_append_own _ hgd s x 26 ho base 34 i zv 3 24 Tryd.underlying26 hi hzv hs1 hb hzs (by decide) _ n xs hs hown ad l.length c (l.flatMap parC) hx (pflat_size l) ?_ ?_ ?_ ?_ hbase ?_
  · intro j u hu
    have hj : j < (l.flatMap parC).length := (List.getElem?_eq_some_iff.1 hu).1
    rw [pflat_size] at hj
    obtain ⟨k, r, hr2, rfl⟩ : ∃ k r, r < 3 ∧ j = k * 3 + r := ⟨j / 3, j % 3, by omega, by omega⟩
    have hkl : k < l.length := by omega
    obtain ⟨b, off, e, q1, q2, q3⟩ := hk k hkl
    injection e with e
    subst e
    rw [pflat_at l k r hkl hr2] at hu
    rw [add_off]
    match r, hr2 with
    | 0, _ => simp [parC] at hu; rw [← hu]; exact q1
    | 1, _ => simp [parC] at hu; rw [← hu, ← Nat.add_assoc]; exact q2
    | 2, _ => simp [parC] at hu; rw [← hu, ← Nat.add_assoc]; exact q3
  · intro u hu
    obtain ⟨p, -, hp⟩ := List.mem_flatMap.1 hu
    simp only [parC, List.mem_cons, List.not_mem_nil, or_false] at hp
    rcases hp with rfl | rfl | rfl <;> rfl
  · unfold maxLen; omega
  · omega
  · intro v' w' h1 h2 _
    exact h v' w' h1 (own_below hown h2 hbase)
/-- A cell of a row that is owned. -/
theorem own_set36 {W : World} {base g cap n size : Nat} {e : TypeId} {xs : List Value} (h : W.ownsRow base e size (.slice (some ⟨g, 0, none⟩) n cap) n xs) (k : Nat) (z : Value) :
    W.frozen? ⟨g, k, none⟩ = false ∧ base ≤ g ∧ (W.setCell ⟨g, k, none⟩ z).ownsRow base e size (.slice (some ⟨g, 0, none⟩) n cap) n (xs.set k z) := by
  obtain ⟨h0, h⟩ := h
  rcases h with ⟨h, -⟩ | ⟨g', cap', cur, e1, hb, hg, hnc, hm, hcs, hcur⟩
  · cases h
  · simp only [Value.slice.injEq, Option.some.injEq, Addr.mk.injEq] at e1
    obtain ⟨⟨rfl, -, -⟩, -, rfl⟩ := e1
    refine ⟨row_free hg k, hb, by rw [List.length_set]; exact h0, .inr ⟨g, cap, _, rfl, hb, row_set hg k z, hnc, hm, by rw [Array.size_setIfInBounds]; exact hcs, ?_⟩⟩
    rw [Array.toList_setIfInBounds, List.take_set, hcur]

end Go.Proofs.YtggnipkfliompaaDoor

namespace Go.Proofs.YtggnipkfliompaaDoor
open Go.RowKit

section
variable (P : Program) (ops : Array Oper) (Q : Exit → Act → World → Prop) (A0 : Act) (I : (Nat → Bool) → (Nat → Value) → World → Prop)
/-- One operation of a flow, with its guard: whatever else is done, in an act of which the slots are known. -/
def flowOpH (i : Nat) (o : Oper) : Prop := ∀ (done : Nat → Bool) (v : Nat → Value) (w : World) (A : Act), I done v w → done i = false → (∀ k, (depL o).contains k = true → done k = true) →
  (∀ j k, (match ops[j]? with | some p => (depL p).contains k | none => false) = true → done j = true → done k = true) →
  (∀ j s, ((ops[j]?).bind (·.dst) == some s && decide (s < A0.tmps.size)) = true → done j = true → A.tmps[s]?.getD undef = v j) →
  (∀ s, (ops.toList.all fun o => dstNe o.dst (some s)) = true → A.tmps[s]?.getD undef = A0.eval (.tmp s)) → A.defers = A0.defers →
  match o.guard with
  | none => o.wp P A w (fun a' w' => ∃ x, a' = A.put o.dst x ∧ I (setD done i) (setV v i x) w') Q
  | some (g, b) => (∃ x, v g = .bool x ∧ (x = b → o.wp P A w (fun a' w' => ∃ x, a' = A.put o.dst x ∧ I (setD done i) (setV v i x) w') Q) ∧ (x ≠ b → I (setD done i) (setV v i undef) w)) ∨ (v g = undef ∧ I (setD done i) (setV v i undef) w)
def flowLH : List Oper → Nat → Prop
  | [], _ => True
  | o :: r, i => flowOpH P ops Q A0 I i o ∧ flowLH r (i + 1)
end
section
variable {P : Program} {ops : Array Oper} {Q : Exit → Act → World → Prop}
theorem flowLH_at {A0 : Act} {I : (Nat → Bool) → (Nat → Value) → World → Prop} : ∀ (l : List Oper) (k i : Nat) (o : Oper), flowLH P ops Q A0 I l k → l[i]? = some o → flowOpH P ops Q A0 I (k + i) o
  | [], _, _, _, _, h => by simp at h
  | p :: r, k, i, o, hl, h => by
    cases i with
    | zero =>
      simp only [List.getElem?_cons_zero, Option.some.injEq] at h
      subst h
      exact hl.1
    | succ i =>
      have h2 := flowLH_at r (k + 1) i o hl.2 (by simpa using h)
      rw [show k + (i + 1) = k + 1 + i by omega]
      exact h2
theorem wp_region_flowsH {id : Nat} {A0 : Act} {w : World} (hm : P.follows .mixedOrders = true) (hap : apartL ops.toList = true) (hgd : guardsOK ops A0.tmps.size = true) (hbk : backs ops = true) (I : (Nat → Bool) → (Nat → Value) → World → Prop)
    (h0 : ∀ v, I (fun _ => false) v w.drew) (hstep : flowLH P ops Q A0 I ops.toList 0)
    (hend : ∀ (v : Nat → Value) (w : World), I (fun k => decide (k < ops.size)) v w → Q .normal (putL v ops.toList 0 A0) w) : (Code.region id ops true).wp P Q A0 w := by
  let J : (Nat → Bool) → (Nat → Value) → World → Prop := fun done v w => I done v w ∧ ∀ j k, (match ops[j]? with | some p => (depL p).contains k | none => false) = true → done j = true → done k = true
  refine wp_region_flowG hm hap hbk J (fun v => ⟨h0 v, fun _ _ _ h => by cases h⟩) (fun i o ho done v w hJ hd hdep => ?_) (fun v w hJ => ?_)
  · obtain ⟨hI, hU⟩ := hJ
    have h1 := flowLH_at ops.toList 0 i o hstep (by rw [Array.getElem?_toList]; exact ho)
    rw [Nat.zero_add] at h1
    have hk0 : ∀ k, (depL o).contains k = true → done k = true := fun k hk => by
      rw [List.contains_iff_mem] at hk
      obtain ⟨e, he, rfl⟩ := List.mem_map.1 hk
      obtain ⟨he1, he2⟩ := List.mem_filter.1 he
      exact hdep e (Array.mem_toList_iff.1 he1) he2
    have hget : ∀ j s, ((ops[j]?).bind (·.dst) == some s && decide (s < A0.tmps.size)) = true → done j = true → (canon ops done v A0).tmps.getD s undef = v j := fun j s hj hdj => by
      rw [Bool.and_eq_true, decide_eq_true_eq] at hj
      obtain ⟨h2, h3⟩ := hj
      have h4 : (ops[j]?).bind (·.dst) = some s := by simpa using h2
      obtain ⟨o', e1, e2⟩ := Option.bind_eq_some_iff.1 h4
      exact canon_eval e1 e2 hap h3 hdj
    have h2 := h1 done v w (canon ops done v A0) hI hd hk0 hU (fun j s hj hdj => (Array.getD_eq_getD_getElem?).symm.trans (hget j s hj hdj)) (fun s hs => (Array.getD_eq_getD_getElem? ..).symm.trans (canon_eval0 hs)) (canon_defers _ _ _)
    have hJ' : ∀ x w', I (setD done i) (setV v i x) w' → J (setD done i) (setV v i x) w' := fun x w' h5 => ⟨h5, fun j k hjk hj => by
      show (decide (k = i) || done k) = true
      by_cases e1 : j = i
      · subst e1
        rw [ho] at hjk
        rw [hk0 k hjk, Bool.or_true]
      · have hj2 : (decide (j = i) || done j) = true := hj
        rw [decide_eq_false e1, Bool.false_or] at hj2
        rw [hU j k hjk hj2, Bool.or_true]⟩
    have up : o.wp P (canon ops done v A0) w (fun a' w' => ∃ x, a' = (canon ops done v A0).put o.dst x ∧ I (setD done i) (setV v i x) w') Q → o.wp P (canon ops done v A0) w (fun a' w' => ∃ x, a' = (canon ops done v A0).put o.dst x ∧ J (setD done i) (setV v i x) w') Q := fun h2 =>
      Oper.wp_mono (fun a' w' h4 => by obtain ⟨x, e, h5⟩ := h4; exact ⟨x, e, hJ' x w' h5⟩) h2
    cases hg : o.guard with
    | none =>
      rw [hg] at h2
      have hw : Region.wanted o (yielded ops (canon ops done v A0).tmps) = true := by unfold Region.wanted; rw [hg]
      exact ⟨fun _ => up h2, fun h => by rw [hw] at h; cases h⟩
    | some p =>
      obtain ⟨g, b⟩ := p
      rw [hg] at h2
      have h5 := List.all_eq_true.1 hgd o (by
        obtain ⟨hlt, rfl⟩ := Array.getElem?_eq_some_iff.1 ho
        exact Array.getElem_mem_toList hlt)
      rw [hg] at h5
      simp only [Bool.and_eq_true] at h5
      obtain ⟨h6, h7⟩ := h5
      have hdg := hk0 g h6
      cases hs : (ops[g]?).bind (·.dst) with
      | none => rw [hs] at h7; cases h7
      | some s =>
        rw [hs] at h7
        simp only [decide_eq_true_eq] at h7
        have h8 := hget g s (by rw [hs]; simp [h7]) hdg
        rcases h2 with ⟨x, hx, h3, h4⟩ | ⟨hx, h4⟩
        · have h9 : yielded ops (canon ops done v A0).tmps g = some x := by
            unfold yielded
            rw [hs]
            have h10 : (canon ops done v A0).tmps[s]? = some (.bool x) := by
              have hsz : s < (canon ops done v A0).tmps.size := by unfold canon; rw [canon_size]; exact h7
              rw [Array.getElem?_eq_getElem hsz]
              rw [Array.getD_eq_getD_getElem?, Array.getElem?_eq_getElem hsz] at h8
              rw [hx] at h8
              exact congrArg some h8
            simp only [Option.bind_some, h10]
          have h11 : Region.wanted o (yielded ops (canon ops done v A0).tmps) = decide (x = b) := by
            unfold Region.wanted
            rw [hg]
            simp only [h9]
            cases x <;> cases b <;> rfl
          refine ⟨fun h => up (h3 (by rw [h11] at h; exact of_decide_eq_true h)), fun h => hJ' _ _ (h4 (by rw [h11] at h; exact of_decide_eq_false h))⟩
        · have h9 : yielded ops (canon ops done v A0).tmps g = none := by
            unfold yielded
            rw [hs]
            have h10 : (canon ops done v A0).tmps[s]? = some undef := by
              have hsz : s < (canon ops done v A0).tmps.size := by unfold canon; rw [canon_size]; exact h7
              rw [Array.getElem?_eq_getElem hsz]
              rw [Array.getD_eq_getD_getElem?, Array.getElem?_eq_getElem hsz] at h8
              rw [hx] at h8
              exact congrArg some h8
            simp only [Option.bind_some, h10]
            rfl
          have h11 : Region.wanted o (yielded ops (canon ops done v A0).tmps) = false := by
            unfold Region.wanted
            rw [hg]
            simp only [h9]
            rfl
          exact ⟨fun h => (by rw [h11] at h; cases h), fun _ => hJ' _ _ h4⟩
  · have h1 := hend v w hJ.1
    rw [← putL_canon (done := fun k => decide (k < ops.size)) v ops.toList 0 A0 (fun j hj => by
      rw [Nat.zero_add]; exact decide_eq_true (by simpa using hj))] at h1
    exact h1
end

end Go.Proofs.YtggnipkfliompaaDoor

namespace Go.Proofs.YtggnipkfliompaaDoor
open Go.RowKit

end Go.Proofs.YtggnipkfliompaaDoor

namespace Go.Proofs.YtggnipkfliompaaDoor
open Go.RowKit FP

attribute [local go_sem] Oper.semAt_some

end Go.Proofs.YtggnipkfliompaaDoor

namespace Go.Proofs.YtggnipkfliompaaDoor
open Go.RowKit FP

end Go.Proofs.YtggnipkfliompaaDoor

namespace Go.Proofs.YtggnipkfliompaaDoor
open Go.RowKit FP

theorem Ints.cells {w w' : World} {v : Value} {zs : List Int} (h : Ints w v zs) (hc : ∀ b o u, w.cell? ⟨b, o, none⟩ = some u → w'.cell? ⟨b, o, none⟩ = some u) : Ints w' v zs := by
  obtain ⟨a, cap, rfl, h1, h2, h3, h4⟩ := h
  exact ⟨a, cap, rfl, h1, h2, h3, fun k hk => by obtain ⟨b, off, h5, h6⟩ := h4 k hk; exact ⟨b, off, h5, hc _ _ _ h6⟩⟩
theorem Rows2.cells {w w' : World} {v : Value} {rows : List (List Int)} (h : Rows2 w v rows) (hc : ∀ b o u, w.cell? ⟨b, o, none⟩ = some u → w'.cell? ⟨b, o, none⟩ = some u) : Rows2 w' v rows := by
  obtain ⟨a, cap, rfl, h1, h2, h4⟩ := h
  exact ⟨a, cap, rfl, h1, h2, fun k hk => by obtain ⟨b, off, r, h5, h6, h7⟩ := h4 k hk; exact ⟨b, off, r, h5, hc _ _ _ h6, h7.cells hc⟩⟩
/-- A row of rows and a row of integers. -/
structure Two (base : Nat) (W : World) (n m : Nat) (L1 L2 : Value) (xs ys : List Value) : Prop where
  a : W.ownsRow base 23 1 L1 n xs
  b : W.ownsRow base 3 1 L2 m ys
  ap : ∀ q, L1.ownBlock = some q → L2.ownBlock ≠ some q
theorem Two.keep {base : Nat} {W W' : World} {n m : Nat} {L1 L2 : Value} {xs ys : List Value} (h : Two base W n m L1 L2 xs ys) (hb : Below W.heap.size W W') : Two base W' n m L1 L2 xs ys :=
  ⟨own_keep h.a hb, own_keep h.b hb, h.ap⟩
theorem Two.one {base : Nat} {W W' : World} {n m n' g k c : Nat} {L1 L2 : Value} {xs ys xs' : List Value} (h : Two base W n m L1 L2 xs ys) (ho : W'.ownsRow base 23 1 (.slice (some ⟨g, 0, none⟩) k c) n' xs') (hg : W.grownBy W' L1.ownBlock) (hat : L1.ownBlock = some g ∨ g = W.heap.size) : Two base W' n' m (.slice (some ⟨g, 0, none⟩) k c) L2 xs' ys := by
  refine ⟨ho, own_apart h.b hg (fun q h1 h2 => h.ap q h2 h1), fun q h1 h2 => ?_⟩
  have e : g = q := by injection h1
  subst e
  rcases hat with h3 | h3
  · exact h.ap g h3 h2
  · have := (own_lt h.b g h2).2; omega
theorem Two.two {base : Nat} {W W' : World} {n m m' g k c : Nat} {L1 L2 : Value} {xs ys ys' : List Value} (h : Two base W n m L1 L2 xs ys) (ho : W'.ownsRow base 3 1 (.slice (some ⟨g, 0, none⟩) k c) m' ys') (hg : W.grownBy W' L2.ownBlock) (hat : L2.ownBlock = some g ∨ g = W.heap.size) : Two base W' n m' L1 (.slice (some ⟨g, 0, none⟩) k c) xs ys' := by
  refine ⟨own_apart h.a hg h.ap, ho, fun q h1 h2 => ?_⟩
  have e : g = q := by injection h2
  subst e
  rcases hat with h3 | h3
  · exact h.ap g h1 h3
  · have := (own_lt h.a g h1).2; omega
end Go.Proofs.YtggnipkfliompaaDoor

namespace Go.Proofs.YtggnipkfliompaaDoor
open Go.RowKit FP

attribute [local go_sem] Oper.semAt_some

end Go.Proofs.YtggnipkfliompaaDoor

namespace Go.Proofs.YtggnipkfliompaaDoor

end Go.Proofs.YtggnipkfliompaaDoor

namespace Go.Proofs.YtggnipkfliompaaDoor
open Go.RowKit FP

end Go.Proofs.YtggnipkfliompaaDoor

namespace Go.Proofs.YtggnipkfliompaaDoor
open Go.RowKit FP

theorem Ints.drew {w : World} {v : Value} {zs : List Int} (h : Ints w v zs) : Ints w.drew v zs := h.below (Below.refl _ _).drew
theorem Rows2.drew {w : World} {v : Value} {rows : List (List Int)} (h : Rows2 w v rows) : Rows2 w.drew v rows := h.below (Below.refl _ _).drew
end Go.Proofs.YtggnipkfliompaaDoor

namespace Go.Proofs.YtggnipkfliompaaDoor
open Go.RowKit FP

set_option maxRecDepth 100000 in
set_option maxHeartbeats 2000000 in
theorem rCols_any (rv ov : Value) (rows : List (List Int)) (w : World) (hR : Rows2 w rv rows) (ho : ∃ a n c, ov = .slice a n c) :
    Calls Tryd.prog 39 #[.agg #[rv, ov]] w fun e w' => e = .returned (.int .i64 (colsQ rows)) ∧ Below w.heap.size w w' := by
  obtain ⟨oa, on, oc, rfl⟩ := ho
  obtain ⟨W1, hW1, hb1, hr1, hz⟩ := box_prog w rv (.slice oa on oc) 25
  have HR := Lib.hid (hR.below hb1)
  obtain ⟨a, cap, rfl, -, hlen, -⟩ := id hR
  have c0 : W1.cell? ⟨w.heap.size, 0, none⟩ = some (.slice a rows.length cap) := row_cell hr1 rfl
  have HB := Lib.hid hb1
  have HW := Lib.hid hW1
  clear hR hr1 hb1 hW1 hz
  by_cases h0 : rows.length = 0
  · have hq : ((rows.length : Int) == 0) = true := by rw [h0]; rfl
    have HV : Hid ((1 : Int) = (colsQ rows : Int)) := Lib.hid (by obtain rfl : rows = [] := List.length_eq_zero_iff.1 h0; rfl)
    clear h0
    go_enter Tryd.func39, Tryd.ntmps39
    go_wp2_with (rw [← HW.out])
    go_ret
    exact ⟨ret_int HV.out, HB.out⟩
  · have hq : ((rows.length : Int) == 0) = false := beq_eq_false_iff_ne.2 (by omega)
    obtain ⟨a9, c9, e9, -, -, hk⟩ := HR.out
    obtain ⟨b, off, r, ea, hc, hr⟩ := hk 0 (by omega)
    simp only [Value.slice.injEq] at e9
    obtain ⟨rfl, -, -⟩ := e9
    subst ea
    obtain ⟨a8, c8, rfl, -⟩ := id hr
    have HV : Hid ((rows[0].length : Int) = (colsQ rows : Int)) := Lib.hid (by
      cases rows with
      | nil => exact absurd rfl h0
      | cons x t => rfl)
    rw [Nat.add_zero] at hc
    have i0 : (0 : Int) < (rows.length : Int) := by omega
    clear hk hr
    generalize rows[0].length = m at *
    go_enter Tryd.func39, Tryd.ntmps39
    go_wp2_with (rw [← HW.out])
    go_ret
    exact ⟨ret_int HV.out, HB.out⟩

end Go.Proofs.YtggnipkfliompaaDoor

namespace Go.Proofs.YtggnipkfliompaaDoor
open Go.RowKit FP

theorem few_cases (n : Nat) : n ≤ 20 ∨ (20 < n ∧ n ≤ 64) ∨ (64 < n ∧ n ≤ 100) ∨ 100 < n := by omega

set_option maxRecDepth 100000 in
set_option maxHeartbeats 8000000 in
theorem rFew23_any (rv ov : Value) (rows : List (List Int)) (owners : List Int) (w : World) (hR : Rows2 w rv rows) (hO : Ints w ov owners) :
    Calls Tryd.prog 14 #[.agg #[rv, ov]] w fun e w' => ∃ b, e = .returned (.bool b) ∧ Below w.heap.size w w' := by
  obtain ⟨W1, hW1, hb1, hr1, hz⟩ := box_prog w rv ov 25
  have HR1 := Lib.hid (hR.below hb1)
  obtain ⟨a, cap, rfl, -, hlen, -⟩ := id hR
  obtain ⟨a2, cap2, rfl, -, hlen2, -⟩ := id hO
  have c0 : W1.cell? ⟨w.heap.size, 0, none⟩ = some (.slice a rows.length cap) := row_cell hr1 rfl
  have c1 : W1.cell? ⟨w.heap.size, 1, none⟩ = some (.slice a2 owners.length cap2) := row_cell hr1 rfl
  have HW1 := Lib.hid hW1
  have HB1 := Lib.hid hb1
  clear hR hO hr1 hW1 hb1
  go_enter Tryd.func14, Tryd.ntmps14
  go_wp2_with (rw [← HW1.out])
  go_loopw [3] (fun i W => ∃ k : Nat, k ≤ rows.length ∧ k ≤ 80 ∧ i = .int .i64 k ∧ W = W1) (fun i _ => rows.length - (intOf i).toNat)
  case atStart => exact ⟨0, Nat.zero_le _, by omega, rfl, rfl⟩
  case round =>
    obtain ⟨k, hkl, hk80, rfl, rfl⟩ := hrel
    by_cases hlt : k < rows.length ∧ k < 80
    · obtain ⟨hlt, hlt80⟩ := hlt
      obtain ⟨aa, cc, e1, -, -, hk⟩ := HR1.out
      obtain ⟨b, off, r, ha, y1, hI⟩ := hk k hlt
      simp only [Value.slice.injEq] at e1
      obtain ⟨rfl, -, rfl⟩ := e1
      subst ha
      obtain ⟨ra, rc, rfl, -⟩ := id hI
      have j0 : 0 ≤ (k : Int) := by omega
      have i0 : (k : Int) < (rows.length : Int) := by omega
      have i1 : decide ((k : Int) < (rows.length : Int)) = true := decide_eq_true (by omega)
      have i2 : decide ((k : Int) < 80) = true := decide_eq_true (by omega)
      have i3 : decide (k < rows.length) = true := decide_eq_true hlt
      clear hk hI
      generalize rows[k] = r at *
      rcases few_cases r.length with hc | hc | hc | hc
      · have r1 : decide ((20 : Int) < (r.length : Int)) = false := decide_eq_false (by omega)
        have r2 : decide ((r.length : Int) ≤ 64) = true := decide_eq_true (by omega)
        have r3 : decide ((100 : Int) < (r.length : Int)) = false := decide_eq_false (by omega)
        go_wp2_with fail
        go_roundw
        case rel => exact ⟨k + 1, by omega, by omega, by go_num, by trivial⟩
        case measure => simp [intOf]; omega
      · have r1 : decide ((20 : Int) < (r.length : Int)) = true := decide_eq_true (by omega)
        have r2 : decide ((r.length : Int) ≤ 64) = true := decide_eq_true (by omega)
        have r3 : decide ((100 : Int) < (r.length : Int)) = false := decide_eq_false (by omega)
        go_wp2_with fail
        go_ret
        exact ⟨_, rfl, HB1.out⟩
      · have r1 : decide ((20 : Int) < (r.length : Int)) = true := decide_eq_true (by omega)
        have r2 : decide ((r.length : Int) ≤ 64) = false := decide_eq_false (by omega)
        have r3 : decide ((100 : Int) < (r.length : Int)) = false := decide_eq_false (by omega)
        go_wp2_with fail
        go_roundw
        case rel => exact ⟨k + 1, by omega, by omega, by go_num, by trivial⟩
        case measure => simp [intOf]; omega
      · have r1 : decide ((20 : Int) < (r.length : Int)) = true := decide_eq_true (by omega)
        have r2 : decide ((r.length : Int) ≤ 64) = false := decide_eq_false (by omega)
        have r3 : decide ((100 : Int) < (r.length : Int)) = true := decide_eq_true (by omega)
        go_wp2_with fail
        go_ret
        exact ⟨_, rfl, HB1.out⟩
    · have hstop : ∃ b1, decide ((k : Int) < (rows.length : Int)) = b1 ∧ decide (k < rows.length) = b1 ∧ (b1 = true → decide ((k : Int) < 80) = false) := by
        by_cases h : k < rows.length
        · exact ⟨true, decide_eq_true (by omega), decide_eq_true h, fun _ => decide_eq_false (by omega)⟩
        · exact ⟨false, decide_eq_false (by omega), decide_eq_false h, fun h => by cases h⟩
      obtain ⟨e1, p1, p2, p3⟩ := hstop
      obtain ⟨e2, q1⟩ : ∃ b, decide ((rows.length : Int) ≤ 20) = b := ⟨_, rfl⟩
      obtain ⟨e3, q2⟩ : ∃ b, decide ((64 : Int) < (rows.length : Int)) = b := ⟨_, rfl⟩
      obtain ⟨e4, q3⟩ : ∃ b, decide ((rows.length : Int) ≤ 80) = b := ⟨_, rfl⟩
      obtain ⟨e5, q4⟩ : ∃ b, decide ((owners.length : Int) ≤ 100) = b := ⟨_, rfl⟩
      clear hlt hkl hk80
      cases e1
      · clear p3
        cases e2
        · cases e3
          · go_wp2_with fail
            go_ret
            first | exact ⟨_, rfl, HB1.out⟩ | exact ⟨.inl rfl, HB1.out⟩ | exact ⟨.inr rfl, HB1.out⟩
          · cases e4 <;> cases e5
            all_goals
              go_wp2_with fail
              go_ret
              first | exact ⟨_, rfl, HB1.out⟩ | exact ⟨.inl rfl, HB1.out⟩ | exact ⟨.inr rfl, HB1.out⟩
        · cases e5
          all_goals
            go_wp2_with fail
            go_ret
            first | exact ⟨_, rfl, HB1.out⟩ | exact ⟨.inl rfl, HB1.out⟩ | exact ⟨.inr rfl, HB1.out⟩
      · have p3 := p3 rfl
        cases e2
        · cases e3
          · go_wp2_with fail
            go_ret
            first | exact ⟨_, rfl, HB1.out⟩ | exact ⟨.inl rfl, HB1.out⟩ | exact ⟨.inr rfl, HB1.out⟩
          · cases e4 <;> cases e5
            all_goals
              go_wp2_with fail
              go_ret
              first | exact ⟨_, rfl, HB1.out⟩ | exact ⟨.inl rfl, HB1.out⟩ | exact ⟨.inr rfl, HB1.out⟩
        · cases e5
          all_goals
            go_wp2_with fail
            go_ret
            first | exact ⟨_, rfl, HB1.out⟩ | exact ⟨.inl rfl, HB1.out⟩ | exact ⟨.inr rfl, HB1.out⟩

end Go.Proofs.YtggnipkfliompaaDoor
