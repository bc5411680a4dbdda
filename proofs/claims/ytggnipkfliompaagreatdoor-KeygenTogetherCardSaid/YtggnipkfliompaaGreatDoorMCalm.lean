/- A statement whose order of evaluation is left open: where its operations read, compute and call, and at most the last one writes, one walk in the order of the text serves every order. Package linear: the iterator over a row, from a column on. -/
import Derived.Test.YtggnipkfliompaaGreatDoorMRange
import Derived.Test.YtggnipkfliompaaGreatDoorMBase
import Derived.OrdersIn
import Derived.Still
import Derived.Shelf.Abstract
import Derived.OwnWalkIn
import Derived.TacticsInMore
import Derived.LoopNIn
import Derived.LoopIn
set_option maxHeartbeats 1000000
set_option maxRecDepth 100000
namespace Go.Proofs.YtggnipkfliompaaGreatDoor
open Go.RowKit
def calmUpon (P : Program) (C : World → Prop) (v : Value) : Result Next → Prop
 | .ok (.value u) w' => C w' ∧ u = v
 | .ok .skip w' => C w' ∧ v = undef
 | .ok (.enter f args) w' => Calls P f args w' (fun e w'' => e = .returned v ∧ C w'')
 | _ => False
def wpCalm (P : Program) (ops : Array Oper) (C : World → Prop) (K : Act → Prop) : List Oper → Act → Prop
 | [], a => K a
 | o :: rest, a => if Region.wanted o (yielded ops a.tmps) then ∃ v, (∀ w, C w → calmUpon P C v ((execOp a.eval o).run P w)) ∧ wpCalm P ops C K rest (a.put o.dst v) else wpCalm P ops C K rest (a.put o.dst undef)
def dstOf (ops : Array Oper) (i : Nat) : Option Tmp := (ops[i]?).bind (·.dst)
def putAt (ops : Array Oper) (vs : Nat → Value) (L : Nat → Bool) : Nat → Act → Act
 | 0, a => a
 | h + 1, a => if L h then (putAt ops vs L h a).put (dstOf ops h) (vs h) else putAt ops vs L h a
theorem put_get (a : Act) (d : Option Tmp) (v : Value) (t : Nat) : (a.put d v).tmps[t]? = if d = some t then (if t < a.tmps.size then some v else none) else a.tmps[t]? := by
 cases d with
 | none => simp [Act.put]
 | some d =>
  simp only [Act.put, Array.getElem?_setIfInBounds, Option.some.injEq]
  by_cases e : d = t
  ·subst e; simp
  ·simp [e]
theorem put_size (a : Act) (d : Option Tmp) (v : Value) : (a.put d v).tmps.size = a.tmps.size := by cases d <;> simp [Act.put]
theorem putAt_size (ops : Array Oper) (vs : Nat → Value) (L : Nat → Bool) (a : Act) : ∀ h, (putAt ops vs L h a).tmps.size = a.tmps.size
 | 0 => rfl
 | h + 1 => by
  unfold putAt; split
  ·rw [put_size, putAt_size ops vs L a h]
  ·exact putAt_size ops vs L a h
theorem putAt_get (ops : Array Oper) (vs : Nat → Value) (L L' : Nat → Bool) (a : Act) (t : Nat) : ∀ h, (∀ j, j < h → dstOf ops j = some t → L j = L' j) → (putAt ops vs L h a).tmps[t]? = (putAt ops vs L' h a).tmps[t]?
 | 0, _ => rfl
 | h + 1, hag => by
  have ih := putAt_get ops vs L L' a t h (fun j hj => hag j (by omega))
  by_cases hd : dstOf ops h = some t
  ·have e := hag h (by omega) hd
   unfold putAt; rw [e]
   split
   ·rw [put_get, put_get, if_pos hd, if_pos hd, putAt_size, putAt_size]
   ·exact ih
  ·have g : ∀ M : Nat → Bool, (putAt ops vs M (h + 1) a).tmps[t]? = (putAt ops vs M h a).tmps[t]? := fun M => by
    conv => lhs; unfold putAt
    split
    ·rw [put_get, if_neg hd]
    ·rfl
   rw [g, g]; exact ih
theorem putAt_same (ops : Array Oper) (vs : Nat → Value) (L L' : Nat → Bool) (a : Act) : ∀ h, (∀ j, j < h → L j = L' j) → putAt ops vs L h a = putAt ops vs L' h a
 | 0, _ => rfl
 | h + 1, hag => by unfold putAt; rw [hag h (by omega), putAt_same ops vs L L' a h (fun j hj => hag j (by omega))]
theorem putAt_set (ops : Array Oper) (vs : Nat → Value) (L : Nat → Bool) (a : Act) (i : Nat) (hL : L i = false) : ∀ h, i < h → (∀ j, i < j → j < h → ∀ d, dstOf ops i = some d → dstOf ops j ≠ some d) →
  (putAt ops vs L h a).put (dstOf ops i) (vs i) = putAt ops vs (fun j => j == i || L j) h a
 | 0, hi, _ => absurd hi (Nat.not_lt_zero _)
 | h + 1, hi, hd => by
  by_cases e : i = h
  ·subst e
   have : putAt ops vs (fun j => j == i || L j) i a = putAt ops vs L i a := putAt_same _ _ _ _ _ _ (fun j hj => by simp; omega)
   unfold putAt
   rw [this, hL]; simp
  ·have ih := putAt_set ops vs L a i hL h (by omega) (fun j h1 h2 => hd j h1 (by omega))
   have hh : (h == i) = false := by simp; omega
   unfold putAt
   cases hLh : L h
   ·simp only [hh, Bool.or_self, Bool.false_eq_true, if_false]; exact ih
   ·simp only [hh, Bool.or_true, if_true]
    rw [← ih]
    exact Act.put_comm _ _ _ (fun d h1 h2 => hd h (by omega) (by omega) d h2 h1)
def calmB (ops : Array Oper) (h : Nat) : Bool :=
 (List.range ops.size).all (fun i => ((ops[i]?).map fun o =>
  o.after.all (fun e => !Region.binds .any e || decide (e.on < i)) &&
  (match o.op with | .select .. => false | .defer _ => false | _ => true) &&
  (o.looksAt ops).all fun t => (List.range h).all fun j => dstOf ops j != some t || (decide (j < i) && o.after.any fun e => Region.binds .any e && e.on == j)).getD true) &&
 (List.range h).all (fun i => (List.range h).all fun j => !decide (i < j) || dstOf ops i == none || dstOf ops i != dstOf ops j) &&
 (ops.size == h || (ops.size == h + 1 && (List.range h).all fun i => (List.range (h + 1)).any fun j => decide (i < j) && ((ops[j]?).map fun o => o.after.any fun e => Region.binds .any e && e.on == i).getD false))
theorem same_wanted {ops : Array Oper} (o : Oper) {t t' : Array Value} (h : ∀ x ∈ o.looksAt ops, t[x]? = t'[x]?) : Region.wanted o (yielded ops t) = Region.wanted o (yielded ops t') := by
 unfold Region.wanted
 cases hg : o.guard with
 | none => rfl
 | some p =>
  obtain ⟨g, b⟩ := p
  simp only
  have : yielded ops t g = yielded ops t' g := by
   unfold yielded
   cases hd : (ops[g]?).bind (·.dst) with
   | none => rfl
   | some d =>
    have := h d (by unfold Oper.looksAt; rw [hg]; simp [hd])
    simp only [Option.bind_some, this]
  rw [this]
theorem same_exec {ops : Array Oper} (o : Oper) (hs : ∀ cs b, o.op ≠ .select cs b) {a a' : Act} (h : ∀ x ∈ o.looksAt ops, a.tmps[x]? = a'.tmps[x]?) : execOp a.eval o = execOp a'.eval o :=
 execOp_congr o hs fun x hx => by
  cases x with
  | tmp t =>
   have := h t (by unfold Oper.looksAt; exact List.mem_append_left _ (List.mem_filterMap.2 ⟨.tmp t, by simpa using hx, rfl⟩))
   simp only [Act.eval, Array.getD_eq_getD_getElem?, this]
  | _ => rfl
def toCome (listed : Array Bool) : Nat → Nat
 | 0 => 0
 | k + 1 => toCome listed k + (if listed.getD k false then 0 else 1)
theorem toCome_set {listed : Array Bool} {i : Nat} (hi : i < listed.size) (hu : listed.getD i false = false) : ∀ k, toCome (listed.setIfInBounds i true) k + (if i < k then 1 else 0) = toCome listed k
 | 0 => by simp [toCome]
 | k + 1 => by
  have ih := toCome_set hi hu k
  unfold toCome
  by_cases e : i = k
  ·subst e
   have h1 : (listed.setIfInBounds i true).getD i false = true := by simp [Array.getD_eq_getD_getElem?, hi]
   rw [h1, hu]; simp at ih ⊢; omega
  ·rw [getD_set_ne false e]
   by_cases h : i < k
   ·have h' : i < k + 1 := by omega
    simp only [h, if_true] at ih; simp only [h', if_true]; omega
   ·have h' : ¬ i < k + 1 := by omega
    simp only [h, if_false] at ih; simp only [h', if_false]; omega
theorem toCome_zero {listed : Array Bool} : ∀ k, toCome listed k = 0 → ∀ i, i < k → listed.getD i false = true
 | 0, _, i, hi => absurd hi (Nat.not_lt_zero _)
 | k + 1, h, i, hi => by
  unfold toCome at h
  by_cases e : i = k
  ·subst e
   cases hc : listed.getD i false
   ·rw [hc] at h; simp at h
   ·rfl
  ·exact toCome_zero k (by omega) i (by omega)
theorem toCome_start (n : Nat) : ∀ k, toCome (Array.replicate n false) k = k
 | 0 => rfl
 | k + 1 => by
  unfold toCome
  rw [toCome_start n k]
  have : (Array.replicate n false).getD k false = false := by
   rw [Array.getD_eq_getD_getElem?, Array.getElem?_replicate]; split <;> rfl
  rw [this]; rfl
theorem wpCalm_vals {P : Program} {ops : Array Oper} {C : World → Prop} {K : Act → Prop} : ∀ (l : List Oper) (a : Act), wpCalm P ops C K l a →
  ∃ vs : Nat → Value, ∃ A : Nat → Act, A 0 = a ∧ K (A l.length) ∧ ∀ i o, l[i]? = some o → A (i + 1) = (A i).put o.dst (vs i) ∧
   (if Region.wanted o (yielded ops (A i).tmps) then ∀ w, C w → calmUpon P C (vs i) ((execOp (A i).eval o).run P w) else vs i = undef)
 | [], a, h => ⟨fun _ => undef, fun _ => a, rfl, h, fun i o ho => by simp at ho⟩
 | o :: rest, a, h => by
  unfold wpCalm at h
  by_cases hw : Region.wanted o (yielded ops a.tmps) = true
  ·rw [if_pos hw] at h
   obtain ⟨v, hv, hr⟩ := h
   obtain ⟨vs, A, h0, hK, hs⟩ := wpCalm_vals rest _ hr
   refine ⟨fun i => i.casesOn v vs, fun i => i.casesOn a A, rfl, hK, fun i o' ho => ?_⟩
   cases i with
   | zero => simp at ho; subst ho; exact ⟨h0, by show (if Region.wanted o (yielded ops a.tmps) then ∀ w, C w → calmUpon P C v ((execOp a.eval o).run P w) else v = undef); rw [if_pos hw]; exact hv⟩
   | succ i => exact hs i o' (by simpa using ho)
  ·rw [if_neg hw] at h
   obtain ⟨vs, A, h0, hK, hs⟩ := wpCalm_vals rest _ h
   refine ⟨fun i => i.casesOn undef vs, fun i => i.casesOn a A, rfl, hK, fun i o' ho => ?_⟩
   cases i with
   | zero => simp at ho; subst ho; exact ⟨h0, by show (if Region.wanted o (yielded ops a.tmps) then ∀ w, C w → calmUpon P C undef ((execOp a.eval o).run P w) else undef = undef); rw [if_neg hw]⟩
   | succ i => exact hs i o' (by simpa using ho)
theorem wpIn_calm {F : Fence} {m : Nat} {P : Program} {id : Nat} {ops : Array Oper} {Q : Exit → Act → World → Prop} {a : Act} {w : World} (h : Nat)
  (hF : ∀ f, F.fn f) (hd : F.depth = none) (hcall : ∀ (f : FuncId) (args : Array Value) (w : World) (R : Ending → World → Prop), Calls P f args w R → CallsIn F (m - 1) P f args w R)
  (hm : P.follows .mixedOrders = true) (hB : calmB ops h = true) (C : World → Prop) (hC : C { w with drawn := w.drawn + 1 })
  (hhead : wpCalm P ops C (fun a' => if ops.size = h then ∀ w', C w' → Q .normal a' w' else
   ∀ o, ops[h]? = some o → ∀ w', C w' → if Region.wanted o (yielded ops a'.tmps) then o.uponIn F m P a' (fun a'' w'' => Q .normal a'' w'') Q ((execOp a'.eval o).run P w') else Q .normal (a'.put o.dst undef) w') (ops.toList.take h) a) :
  (Code.region id ops true).wpIn F m P Q a w := by
 obtain ⟨vs, A, hA0, hK, hs⟩ := wpCalm_vals _ _ hhead
 unfold calmB at hB
 simp only [Bool.and_eq_true] at hB
 obtain ⟨⟨hB1, hB2⟩, hB3⟩ := hB
 have hle : h ≤ ops.size := by
  simp only [Bool.or_eq_true, beq_iff_eq, Bool.and_eq_true] at hB3
  rcases hB3 with e | e <;> omega
 have hlen : (ops.toList.take h).length = h := by simp; omega
 rw [hlen] at hK
 have hat : ∀ i, i < h → ∀ o, ops[i]? = some o → (ops.toList.take h)[i]? = some o := fun i hi o ho => by
  rw [List.getElem?_take, if_pos hi]; simpa using ho
 have look : ∀ i o, ops[i]? = some o → (∀ e ∈ o.after, Region.binds .any e = true → e.on < i) ∧ (∀ cs b, o.op ≠ .select cs b) ∧ (∀ c, o.op ≠ .defer c) ∧
   ∀ t ∈ o.looksAt ops, ∀ j, j < h → dstOf ops j = some t → j < i ∧ ∃ e ∈ o.after, Region.binds .any e = true ∧ e.on = j := by
  intro i o ho
  have hi : i < ops.size := (Array.getElem?_eq_some_iff.1 ho).1
  have h1 := List.all_eq_true.1 hB1 i (List.mem_range.2 hi)
  rw [ho] at h1
  simp only [Option.map_some, Option.getD_some, Bool.and_eq_true, Array.all_eq_true_iff_forall_mem, List.all_eq_true] at h1
  obtain ⟨⟨h1, h2⟩, h3⟩ := h1
  refine ⟨fun e he hb => ?_, (fun cs b e => by rw [e] at h2; cases h2), (fun c e => by rw [e] at h2; cases h2), fun t ht j hj hdj => ?_⟩
  ·have := h1 e he; rw [hb] at this; simpa using this
  ·have := h3 t ht j (List.mem_range.2 hj)
   rw [hdj] at this
   simp only [bne_self_eq_false, Bool.false_or, Bool.and_eq_true, decide_eq_true_eq, Array.any_eq_true] at this
   obtain ⟨h4, k, hk, h5⟩ := this
   simp only [beq_iff_eq] at h5
   exact ⟨h4, _, Array.getElem_mem hk, h5.1, h5.2⟩
 have hAput : ∀ i, i ≤ h → A i = putAt ops vs (fun j => decide (j < i)) h a := by
  intro i
  induction i with
  | zero =>
   intro _
   rw [hA0]
   have : ∀ k, putAt ops vs (fun j => decide (j < 0)) k a = a := fun k => by
    induction k with
    | zero => rfl
    | succ k ih => unfold putAt; simpa using ih
   rw [this]
  | succ i ih =>
   intro hi
   obtain ⟨o, ho⟩ : ∃ o, ops[i]? = some o := ⟨ops[i], Array.getElem?_eq_getElem (by omega)⟩
   rw [(hs i o (hat i (by omega) o ho)).1, ih (by omega)]
   have hdo : o.dst = dstOf ops i := by unfold dstOf; rw [ho]; rfl
   rw [hdo, putAt_set ops vs _ a i (by simp) h (by omega) (fun j h1 h2 d hd1 hd2 => by
    have := List.all_eq_true.1 (List.all_eq_true.1 hB2 i (List.mem_range.2 (by omega))) j (List.mem_range.2 h2)
    rw [hd1, hd2] at this
    simp [h1] at this)]
   exact putAt_same _ _ _ _ _ _ (fun j _ => by
    by_cases e : j = i
    ·subst e; simp
    ·have : (decide (j < i + 1)) = decide (j < i) := by simp; omega
     simp [e, this])
 have main : ∀ (fuel : Nat) (listed : Array Bool) (w' : World), listed.size = ops.size → toCome listed ops.size = fuel →
   (∀ j oj, ops[j]? = some oj → listed.getD j false = true → ∀ e ∈ oj.after, Region.binds .any e = true → listed.getD e.on false = true) →
   (ops.size = h ∨ listed.getD h false = false) → C w' → wpAnyIn F m P .any ops Q fuel listed (putAt ops vs (fun j => listed.getD j false) h a) w' := by
  intro fuel
  induction fuel with
  | zero =>
   intro listed w' hsz hcnt _ htl hw
   have hall := toCome_zero _ hcnt
   have hn : ops.size = h := by
    rcases htl with e | e
    ·exact e
    ·by_cases e' : ops.size = h
     ·exact e'
     ·rw [hall h (by omega)] at e; cases e
   refine ⟨?_, ?_⟩
   ·cases hr : Region.ready .any ops listed with
    | nil => rfl
    | cons i l =>
     have hi : i ∈ Region.ready .any ops listed := by rw [hr]; simp
     obtain ⟨h1, o, ho, -⟩ := mem_ready.1 hi
     have hi' : i < ops.size := (Array.getElem?_eq_some_iff.1 ho).1
     have := hall i hi'
     rw [Array.getD_eq_getD_getElem?, Array.getElem?_eq_getElem (by omega)] at h1 this
     simp at h1 this; rw [h1] at this; cases this
   ·have e : putAt ops vs (fun j => listed.getD j false) h a = A h := by
     rw [hAput h (Nat.le_refl _)]
     exact putAt_same _ _ _ _ _ _ (fun j hj => by rw [hall j (by omega)]; simp [hj])
    rw [e]
    rw [if_pos hn] at hK
    exact hK _ hw
  | succ fuel ih =>
   intro listed w' hsz hcnt hcl htl hw
   refine ⟨fun hr => ?_, fun i hi => ?_⟩
   ·exfalso
    have hall : ∀ i, i < ops.size → listed.getD i false = true := by
     intro i
     induction i using Nat.strongRecOn with
     | _ i ihi =>
      intro hi
      cases hc : listed.getD i false
      ·have : i ∈ Region.ready .any ops listed := mem_ready.2 ⟨by
        rw [Array.getD_eq_getD_getElem?, Array.getElem?_eq_getElem (by omega)] at hc ⊢; simpa using hc, ops[i], Array.getElem?_eq_getElem hi, fun e he hb =>
         ihi e.on ((look i _ (Array.getElem?_eq_getElem hi)).1 e he hb) (by have := (look i _ (Array.getElem?_eq_getElem hi)).1 e he hb; omega)⟩
       rw [hr] at this; cases this
      ·rfl
    have : ∀ k, k ≤ ops.size → toCome listed k = 0 := by
     intro k
     induction k with
     | zero => intro _; rfl
     | succ k ihk => intro hk; unfold toCome; rw [ihk (by omega), hall k (by omega)]; rfl
    rw [this _ (Nat.le_refl _)] at hcnt; omega
   ·obtain ⟨h1, o, ho, hpre⟩ := mem_ready.1 hi
    have hi' : i < ops.size := (Array.getElem?_eq_some_iff.1 ho).1
    have hu : listed.getD i false = false := by
     rw [Array.getD_eq_getD_getElem?, Array.getElem?_eq_getElem (by omega)] at h1 ⊢; simpa using h1
    obtain ⟨hedge, hsel, hdef, hlook⟩ := look i o ho
    have hcnt' : toCome (listed.setIfInBounds i true) ops.size = fuel := by
     have := toCome_set (by omega : i < listed.size) hu ops.size
     rw [if_pos hi'] at this; omega
    have hcl' : ∀ j oj, ops[j]? = some oj → (listed.setIfInBounds i true).getD j false = true → ∀ e ∈ oj.after, Region.binds .any e = true → (listed.setIfInBounds i true).getD e.on false = true := by
     have up : ∀ k, listed.getD k false = true → (listed.setIfInBounds i true).getD k false = true := fun k hk => by
      by_cases e : i = k
      ·subst e; rw [hu] at hk; cases hk
      ·rw [getD_set_ne false e]; exact hk
     intro j oj hoj hj e he hb
     by_cases e' : i = j
     ·subst e'; rw [ho] at hoj; cases hoj; exact up _ (hpre e he hb)
     ·rw [getD_set_ne false e'] at hj; exact up _ (hcl j oj hoj hj e he hb)
    have hdo : o.dst = dstOf ops i := by unfold dstOf; rw [ho]; rfl
    by_cases hih : i < h
    ·obtain ⟨-, hval⟩ := hs i o (hat i hih o ho)
     have hget : ∀ t ∈ o.looksAt ops, (putAt ops vs (fun j => listed.getD j false) h a).tmps[t]? = (A i).tmps[t]? := fun t ht => by
      rw [hAput i (by omega)]
      exact putAt_get ops vs _ _ a t h (fun j hj hdj => by
       obtain ⟨h2, e, he, hb, heq⟩ := hlook t ht j hj hdj
       rw [← heq, hpre e he hb, heq]; simp [h2])
     have hex := same_exec o hsel hget
     have hwa := same_wanted o hget
     have hput : (putAt ops vs (fun j => listed.getD j false) h a).put o.dst (vs i) = putAt ops vs (fun j => (listed.setIfInBounds i true).getD j false) h a := by
      rw [hdo, putAt_set ops vs _ a i hu h hih (fun j h1 h2 d hd1 hd2 => by
       have := List.all_eq_true.1 (List.all_eq_true.1 hB2 i (List.mem_range.2 (by omega))) j (List.mem_range.2 h2)
       rw [hd1, hd2] at this
       simp [h1] at this)]
      exact putAt_same _ _ _ _ _ _ (fun j hj => by
       by_cases e : i = j
       ·subst e; simp [Array.getD_eq_getD_getElem?, hsz, hi']
       ·rw [getD_set_ne false e]; simp; omega)
     have htl' : ops.size = h ∨ (listed.setIfInBounds i true).getD h false = false := htl.imp (fun e => e) (fun e => by rw [getD_set_ne false (by omega)]; exact e)
     have next : ∀ w'', C w'' → wpAnyIn F m P .any ops Q fuel (listed.setIfInBounds i true) ((putAt ops vs (fun j => listed.getD j false) h a).put o.dst (vs i)) w'' := fun w'' hw'' => by
      rw [hput]; exact ih _ _ (by simpa using hsz) hcnt' hcl' htl' hw''
     unfold wpOpIn
     rw [ho]
     simp only [hwa]
     by_cases hw1 : Region.wanted o (yielded ops (A i).tmps) = true
     ·rw [if_pos hw1] at hval ⊢
      have hv := hval w' hw
      refine ⟨fun f _ => hF f, ?_⟩
      rw [Oper.semAt_eq _ _ _ hdef, hex]
      generalize (execOp (A i).eval o).run P w' = r at hv
      cases r with
      | ok x w1 =>
       cases x <;> simp only [calmUpon] at hv <;> simp only [Oper.uponIn]
       case value u => rw [hv.2]; exact next _ hv.1
       case skip => rw [← hv.2]; exact next _ hv.1
       case enter f args =>
        exact ⟨(fun hh => by rw [hd] at hh; cases hh), CallsIn.mono (hcall _ _ _ _ hv) fun e w2 ⟨he, hc2⟩ => by subst he; exact next _ hc2⟩
      | halt x w1 => simp only [calmUpon] at hv
     ·rw [if_neg hw1] at hval ⊢
      refine ⟨fun f _ => hF f, ?_⟩
      rw [← hval]; exact next _ hw
    ·have hn : ops.size = h + 1 := by
      simp only [Bool.or_eq_true, beq_iff_eq, Bool.and_eq_true] at hB3
      rcases hB3 with e | e <;> omega
     obtain rfl : i = h := by omega
     have hwait : ∀ k, k < i → listed.getD k false = true := by
      have h3 : (List.range i).all (fun k => (List.range (i + 1)).any fun j => decide (k < j) && ((ops[j]?).map fun o => o.after.any fun e => Region.binds .any e && e.on == k).getD false) = true := by
       simp only [Bool.or_eq_true, beq_iff_eq, Bool.and_eq_true] at hB3
       rcases hB3 with e | e
       ·omega
       ·exact e.2
      have : ∀ d k, k + d = i → k < i → listed.getD k false = true := by
       intro d
       induction d using Nat.strongRecOn with
       | _ d ihd =>
        intro k hkd hk
        have := List.all_eq_true.1 h3 k (List.mem_range.2 hk)
        rw [List.any_eq_true] at this
        obtain ⟨j, hj, hj2⟩ := this
        rw [List.mem_range] at hj
        simp only [Bool.and_eq_true, decide_eq_true_eq] at hj2
        obtain ⟨hkj, hj2⟩ := hj2
        rw [Array.getElem?_eq_getElem (by omega)] at hj2
        simp only [Option.map_some, Option.getD_some, Array.any_eq_true, Bool.and_eq_true, beq_iff_eq] at hj2
        obtain ⟨q, hq, hb, hon⟩ := hj2
        by_cases e : j = i
        ·subst e
         rw [Array.getElem?_eq_getElem (by omega)] at ho
         cases ho
         rw [← hon]; exact hpre _ (Array.getElem_mem hq) hb
        ·have hjl := ihd (i - j) (by omega) j (by omega) (by omega)
         rw [← hon]
         exact hcl j _ (Array.getElem?_eq_getElem (by omega)) hjl _ (Array.getElem_mem hq) hb
      exact fun k hk => this (i - k) k (by omega) hk
     have e : putAt ops vs (fun j => listed.getD j false) i a = A i := by
      rw [hAput i (Nat.le_refl _)]
      exact putAt_same _ _ _ _ _ _ (fun j hj => by rw [hwait j hj]; simp [hj])
     rw [e]
     rw [if_neg (by omega)] at hK
     have hk := hK o ho w' hw
     have hall : ∀ j, j < ops.size → (listed.setIfInBounds i true).getD j false = true := fun j hj => by
      by_cases e : i = j
      ·subst e; simp [Array.getD_eq_getD_getElem?, hsz, hi']
      ·rw [getD_set_ne false e]; exact hwait j (by omega)
     have hr0 : Region.ready .any ops (listed.setIfInBounds i true) = [] := by
      cases hr : Region.ready .any ops (listed.setIfInBounds i true) with
      | nil => rfl
      | cons k l =>
       have hk : k ∈ Region.ready .any ops (listed.setIfInBounds i true) := by rw [hr]; simp
       obtain ⟨h1, o', ho', -⟩ := mem_ready.1 hk
       have hk' : k < ops.size := (Array.getElem?_eq_some_iff.1 ho').1
       have := hall k hk'
       rw [Array.getD_eq_getD_getElem?, Array.getElem?_eq_getElem (by simp; omega)] at h1 this
       simp at h1 this; rw [h1] at this; cases this
     have fin : ∀ a' w'', Q .normal a' w'' → wpAnyIn F m P .any ops Q fuel (listed.setIfInBounds i true) a' w'' := fun a' w'' hq => by
      cases fuel with
      | zero => exact ⟨hr0, hq⟩
      | succ fuel => exact ⟨fun _ => hq, fun k hk => by rw [hr0] at hk; cases hk⟩
     unfold wpOpIn
     rw [ho]
     simp only
     by_cases hw1 : Region.wanted o (yielded ops (A i).tmps) = true
     ·rw [if_pos hw1] at hk ⊢
      refine ⟨fun f _ => hF f, ?_⟩
      rw [Oper.semAt_eq _ _ _ hdef]
      generalize (execOp (A i).eval o).run P w' = r at hk
      cases r with
      | ok x w1 =>
       cases x <;> simp only [Oper.uponIn] at hk ⊢ <;>
        first
         | exact fin _ _ hk
         | exact ⟨hk.1, CallsIn.mono hk.2 (fun e w'' he => by cases e <;> first | exact fin _ _ he | exact he)⟩
         | exact ⟨hk.1, RowsIn.mono hk.2 (fun _ _ he => fin _ _ he)⟩
         | exact ⟨hk.1, RoundIn.mono hk.2 (fun e w'' he => by cases e <;> first | exact fin _ _ he | exact he)⟩
      | halt x w1 => cases x <;> simp only [Oper.uponIn] at hk ⊢ <;> exact hk
     ·rw [if_neg hw1] at hk ⊢
      exact ⟨fun f _ => hF f, fin _ _ hk⟩
 refine wpIn_region_any hm ?_
 have h0 := main ops.size (Array.replicate ops.size false) { w with drawn := w.drawn + 1 } (by simp) (toCome_start _ _)
  (fun j oj _ hj => by rw [Array.getD_eq_getD_getElem?, Array.getElem?_replicate] at hj; split at hj <;> simp at hj)
  (.inr (by rw [Array.getD_eq_getD_getElem?, Array.getElem?_replicate]; split <;> rfl)) hC
 have e : putAt ops vs (fun j => (Array.replicate ops.size false).getD j false) h a = a := by
  have : ∀ k, putAt ops vs (fun j => (Array.replicate ops.size false).getD j false) k a = a := fun k => by
   induction k with
   | zero => rfl
   | succ k ih =>
    unfold putAt
    have : (Array.replicate ops.size false).getD k false = false := by
     rw [Array.getD_eq_getD_getElem?, Array.getElem?_replicate]; split <;> rfl
    rw [this]; simpa using ih
  exact this h
 rw [e] at h0
 exact h0
theorem calm_plain {P : Program} {ops : Array Oper} {C : World → Prop} {K : Act → Prop} {o : Oper} {rest : List Oper} {a : Act} (hg : o.guard = none) (v : Value)
  (hv : ∀ w, C w → calmUpon P C v ((execOp a.eval o).run P w)) (hk : wpCalm P ops C K rest (a.put o.dst v)) : wpCalm P ops C K (o :: rest) a := by
 unfold wpCalm
 rw [if_pos (by unfold Region.wanted; rw [hg])]
 exact ⟨v, hv, hk⟩
def wpCalm0 (P : Program) (C : World → Prop) (K : Act → Prop) : List Oper → Act → Prop
 | [], a => K a
 | o :: rest, a => ∃ v, (∀ w, C w → calmUpon P C v ((execOp a.eval o).run P w)) ∧ wpCalm0 P C K rest (a.put o.dst v)
theorem calm_step {P : Program} {C : World → Prop} {K : Act → Prop} {o : Oper} {rest : List Oper} {a : Act} (v : Value)
  (hv : ∀ w, C w → calmUpon P C v ((execOp a.eval o).run P w)) (hk : wpCalm0 P C K rest (a.put o.dst v)) : wpCalm0 P C K (o :: rest) a := ⟨v, hv, hk⟩
theorem calm_end {P : Program} {C : World → Prop} {K : Act → Prop} {a : Act} (h : K a) : wpCalm0 P C K [] a := h
theorem calm_of_calm0 {P : Program} {ops : Array Oper} {C : World → Prop} {K : Act → Prop} : ∀ (l : List Oper) (a : Act), l.all (fun o => o.guard.isNone) = true → wpCalm0 P C K l a → wpCalm P ops C K l a
 | [], _, _, h => h
 | o :: rest, a, hg, ⟨v, hv, hk⟩ => by
  simp only [List.all_cons, Bool.and_eq_true] at hg
  exact calm_plain (by simpa using hg.1) v hv (calm_of_calm0 rest _ hg.2 hk)
theorem wpIn_calm_store {l : Nat} {P : Program} {id : Nat} {ops : Array Oper} {Q : Exit → Act → World → Prop} {a : Act} {w : World} {o : Oper} (h : Nat)
  (hm : P.follows .mixedOrders = true) (hB : (calmB ops h && (ops.toList.take h).all (fun o => o.guard.isNone)) = true) (hn : ops.size = h + 1) (ho : ops[h]? = some o) (hg : o.guard = none) (C : World → Prop) (hC : C { w with drawn := w.drawn + 1 })
  (hhead : ∀ K : Act → Prop, (∀ a', (∀ w', C w' → o.uponIn (Fence.wide.inRound l) 0 P a' (fun a'' w'' => Q .normal a'' w'') Q ((execOp a'.eval o).run P w')) → K a') → wpCalm0 P C K (ops.toList.take h) a) :
  (Code.region id ops true).wpIn (Fence.wide.inRound l) 0 P Q a w := by
 rw [Bool.and_eq_true] at hB
 refine wpIn_calm h (fun _ => trivial) rfl (fun _ _ _ _ hc => CallsIn.inRound l ((callsIn_wide (n := 0 - 1)).2 hc)) hm hB.1 C hC (calm_of_calm0 _ _ hB.2 (hhead _ fun a' h' => ?_))
 rw [if_neg (by omega)]
 intro o' ho' w' hw'
 rw [ho] at ho'
 cases ho'
 rw [if_pos (by unfold Region.wanted; rw [hg])]
 exact h' w' hw'
theorem upon_store {F : Fence} {m : Nat} {P : Program} {o : Oper} {a : Act} {K : Act → World → Prop} {Q : Exit → Act → World → Prop} {r : Result Next} {w : World} (hr : r = .ok .skip w) (h : K (a.put o.dst undef) w) : o.uponIn F m P a K Q r := by
 rw [hr]; exact h
end Go.Proofs.YtggnipkfliompaaGreatDoor
namespace Go.Proofs.YtggnipkfliompaaGreatDoor
open Go.RowKit
attribute [local go_sem] Oper.semAt_some
structure Reads (cb rb : Nat) (c n : Nat) (ra : Option Addr) (rc : Nat) (x : Nat → Int) (j : Nat) (W : World) : Prop where
 col : W.cell? ⟨cb, 0, none⟩ = some (.int .i64 c)
 row : W.cell? ⟨rb, 0, none⟩ = some (.slice ra n rc)
 elem : c + j < n → ∃ b, ra = some ⟨b, 0, none⟩ ∧ W.cell? ⟨b, c + j, none⟩ = some (.int .i64 (x (c + j)))
theorem after1_iterates (cb rb c n : Nat) (ra : Option Addr) (rc : Nat) (x : Nat → Int) (hc : c ≤ n) (hn : n ≤ 17592186044416) (I : Nat → World → Prop) (hI : ∀ j W, I j W → Reads cb rb c n ra rc x j W) :
  Iterates Tryz.prog 229 #[.pointer (some ⟨cb, 0, none⟩), .pointer (some ⟨rb, 0, none⟩)] (n - c) (fun j => #[.int .i64 ((c : Int) + (j : Int)), .int .i64 (x (c + j))]) I := by
 intro l J Jx W hJ hY h0
 refine callsIn_of_wp Tryz.func229 rfl trivial ?_ rfl
 simp only [Tryz.ntmps229, List.size_toArray, List.length_cons, List.length_nil, Nat.reduceAdd, Nat.reduceSub, Array.replicate_succ, Array.replicate_zero, List.push_toArray, List.append_toArray, List.nil_append, List.cons_append]
 have hR0 := hJ 0 W h0
 obtain ⟨hr1, hr2, -⟩ := hI 0 W hR0
 gi_wp2
 gi_loopw [4] (fun i wr => ∃ j : Nat, j ≤ n - c ∧ i = .int .i64 ((c + j : Nat) : Int) ∧ J j wr) (fun i _ => n - (intOf i).toNat)
 case atStart => exact ⟨0, Nat.zero_le _, rfl, h0⟩
 case round =>
  obtain ⟨j, hj, rfl, hJj⟩ := hrel
  obtain ⟨hc1, hc2, hel⟩ := hI j wr (hJ j wr hJj)
  by_cases hlt : c + j < n
  ·obtain ⟨b, rfl, hx⟩ := hel hlt
   obtain ⟨fn, tmps, assign, body, hy, hR⟩ := hY j wr hJj (by omega)
   gi_wp2
   refine ⟨rfl, hR.mono ?_⟩
   rintro e W3 (⟨rfl, hJ3⟩ | ⟨rfl, hJx3⟩)
   ·gi_wp2
    go_roundw
    case rel => exact ⟨j + 1, by omega, by go_num, hJ3⟩
    case measure => simp [intOf]; omega
   ·gi_wp2
    refine bodyPost_ret (results_none rfl _ _ _) rfl ?_
    exact ⟨⟨_, rfl⟩, .inr ⟨j + 1, by omega, hJx3⟩⟩
  ·obtain rfl : j = n - c := by omega
   gi_wp2
   go_end0
   exact ⟨⟨_, rfl⟩, .inl hJj⟩
theorem after_any (v : Value) (c : Int) (w : World) (hv : ∃ a n rc, v = .slice a n rc) :
  Calls Tryz.prog 212 #[v, .int .i64 c] w fun e w' =>
   e = .returned (.func (.func 229) #[] #[.pointer (some ⟨w.heap.size + 1, 0, none⟩), .pointer (some ⟨w.heap.size, 0, none⟩)]) ∧ w' = (w.alloc (.cells #[v] 23)).alloc (.cells #[.int .i64 c] 3) := by
 obtain ⟨a, n, rc, rfl⟩ := hv
 have hmf : ∀ (fn : Fn) (first cap : Array Value) (w : World), (Instr.makeFunc fn first cap).run Tryz.prog w = .ok (.func fn first cap) w := fun _ _ _ _ => rfl
 go_enter Tryz.func212, Tryz.ntmps212
 go_wp2
 go_ret
 exact ⟨rfl, rfl⟩
end Go.Proofs.YtggnipkfliompaaGreatDoor
