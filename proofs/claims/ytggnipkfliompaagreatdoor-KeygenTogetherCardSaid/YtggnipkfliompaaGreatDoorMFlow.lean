/- A statement whose order of evaluation is left open: where what an operation finds in memory hangs on what has been carried out, told by a class of worlds that hangs on the set of operations done. Appending one integer to a slice of the call's own. The reduction of a table, as a function on matrices. -/
import Derived.Test.YtggnipkfliompaaGreatDoorMCalm
import Derived.Test.YtggnipkfliompaaGreatDoorMField
set_option maxRecDepth 100000
namespace Go.Proofs.YtggnipkfliompaaGreatDoor
open Go.RowKit
def Closed (ops : Array Oper) (L : Nat → Bool) : Prop := ∀ j oj, ops[j]? = some oj → L j = true → ∀ e ∈ oj.after, Region.binds .any e = true → L e.on = true
def waitsB (ops : Array Oper) (j i : Nat) : Bool := ((ops[j]?).map fun o => o.after.any fun e => Region.binds .any e && e.on == i).getD false
theorem not_yet {ops : Array Oper} {L : Nat → Bool} (hcl : Closed ops L) (j i : Nat) (hw : waitsB ops j i = true) (hL : L i = false) : L j = false := by
 cases hj : L j
 ·rfl
 ·exfalso
  unfold waitsB at hw
  cases ho : ops[j]? with
  | none => rw [ho] at hw; cases hw
  | some o =>
   rw [ho] at hw
   simp only [Option.map_some, Option.getD_some, Array.any_eq_true, Bool.and_eq_true, beq_iff_eq] at hw
   obtain ⟨k, hk, hb, he⟩ := hw
   have := hcl j o ho hj _ (Array.getElem_mem hk) hb
   rw [he, hL] at this; cases this
def wpFlow (P : Program) (ops : Array Oper) (C : (Nat → Bool) → World → Prop) (K : Act → Prop) : Nat → List Oper → Act → Prop
 | _, [], a => K a
 | i, o :: rest, a => ∃ v, (∀ L w, Closed ops L → L i = false → (∀ k, waitsB ops i k = true → L k = true) → C L w → calmUpon P (C (fun j => j == i || L j)) v ((execOp a.eval o).run P w)) ∧ wpFlow P ops C K (i + 1) rest (a.put o.dst v)
theorem flow_step {P : Program} {ops : Array Oper} {C : (Nat → Bool) → World → Prop} {K : Act → Prop} {i : Nat} {o : Oper} {rest : List Oper} {a : Act} (v : Value)
  (hv : ∀ L w, Closed ops L → L i = false → (∀ k, waitsB ops i k = true → L k = true) → C L w → calmUpon P (C (fun j => j == i || L j)) v ((execOp a.eval o).run P w)) (hk : wpFlow P ops C K (i + 1) rest (a.put o.dst v)) : wpFlow P ops C K i (o :: rest) a := ⟨v, hv, hk⟩
theorem flow_end {P : Program} {ops : Array Oper} {C : (Nat → Bool) → World → Prop} {K : Act → Prop} {i : Nat} {a : Act} (h : K a) : wpFlow P ops C K i [] a := h
theorem wpFlow_vals {P : Program} {ops : Array Oper} {C : (Nat → Bool) → World → Prop} {K : Act → Prop} : ∀ (l : List Oper) (s : Nat) (a : Act), wpFlow P ops C K s l a →
  ∃ vs : Nat → Value, ∃ A : Nat → Act, A 0 = a ∧ K (A l.length) ∧ ∀ i o, l[i]? = some o → A (i + 1) = (A i).put o.dst (vs i) ∧
   ∀ L w, Closed ops L → L (s + i) = false → (∀ k, waitsB ops (s + i) k = true → L k = true) → C L w → calmUpon P (C (fun j => j == s + i || L j)) (vs i) ((execOp (A i).eval o).run P w)
 | [], s, a, h => ⟨fun _ => undef, fun _ => a, rfl, h, fun i o ho => by simp at ho⟩
 | o :: rest, s, a, ⟨v, hv, hr⟩ => by
  obtain ⟨vs, A, h0, hK, hs⟩ := wpFlow_vals rest (s + 1) _ hr
  refine ⟨fun i => i.casesOn v vs, fun i => i.casesOn a A, rfl, hK, fun i o' ho => ?_⟩
  cases i with
  | zero => simp at ho; subst ho; exact ⟨h0, hv⟩
  | succ i =>
   have := hs i o' (by simpa using ho)
   rw [show s + 1 + i = s + (i + 1) by omega] at this
   exact this
theorem wpIn_flow {F : Fence} {m : Nat} {P : Program} {id : Nat} {ops : Array Oper} {Q : Exit → Act → World → Prop} {a : Act} {w : World}
  (hF : ∀ f, F.fn f) (hd : F.depth = none) (hcall : ∀ (f : FuncId) (args : Array Value) (w : World) (R : Ending → World → Prop), Calls P f args w R → CallsIn F (m - 1) P f args w R)
  (hm : P.follows .mixedOrders = true) (hB : (calmB ops ops.size && ops.toList.all (fun o => o.guard.isNone)) = true) (C : (Nat → Bool) → World → Prop) (hC0 : C (fun _ => false) { w with drawn := w.drawn + 1 })
  (hhead : ∀ K : Act → Prop, (∀ a', (∀ w' L, (∀ j, j < ops.size → L j = true) → C L w' → Q .normal a' w') → K a') → wpFlow P ops C K 0 ops.toList a) :
  (Code.region id ops true).wpIn F m P Q a w := by
 obtain ⟨vs, A, hA0, hK, hs⟩ := wpFlow_vals _ 0 _ (hhead _ fun a' h' => h')
 rw [Bool.and_eq_true] at hB
 obtain ⟨hB, hGd⟩ := hB
 unfold calmB at hB
 simp only [Bool.and_eq_true] at hB
 obtain ⟨⟨hB1, hB2⟩, -⟩ := hB
 have hlen : ops.toList.length = ops.size := by simp
 rw [hlen] at hK
 have look : ∀ i o, ops[i]? = some o → o.guard = none ∧ (∀ e ∈ o.after, Region.binds .any e = true → e.on < i) ∧ (∀ cs b, o.op ≠ .select cs b) ∧ (∀ c, o.op ≠ .defer c) ∧
   ∀ t ∈ o.looksAt ops, ∀ j, j < ops.size → dstOf ops j = some t → j < i ∧ ∃ e ∈ o.after, Region.binds .any e = true ∧ e.on = j := by
  intro i o ho
  have hi : i < ops.size := (Array.getElem?_eq_some_iff.1 ho).1
  have hg : o.guard = none := by
   have := List.all_eq_true.1 hGd o (by have := Array.mem_of_getElem? ho; simpa using this)
   simpa using this
  have h1 := List.all_eq_true.1 hB1 i (List.mem_range.2 hi)
  rw [ho] at h1
  simp only [Option.map_some, Option.getD_some, Bool.and_eq_true, Array.all_eq_true_iff_forall_mem, List.all_eq_true] at h1
  obtain ⟨⟨h1, h2⟩, h3⟩ := h1
  refine ⟨hg, fun e he hb => ?_, (fun cs b e => by rw [e] at h2; cases h2), (fun c e => by rw [e] at h2; cases h2), fun t ht j hj hdj => ?_⟩
  ·have := h1 e he; rw [hb] at this; simpa using this
  ·have := h3 t ht j (List.mem_range.2 hj)
   rw [hdj] at this
   simp only [bne_self_eq_false, Bool.false_or, Bool.and_eq_true, decide_eq_true_eq, Array.any_eq_true] at this
   obtain ⟨h4, k, hk, h5⟩ := this
   simp only [beq_iff_eq] at h5
   exact ⟨h4, _, Array.getElem_mem hk, h5.1, h5.2⟩
 have distinct : ∀ i j, i < ops.size → j < ops.size → i < j → ∀ d, dstOf ops i = some d → dstOf ops j ≠ some d := fun i j hi hj hij d hd1 hd2 => by
  have := List.all_eq_true.1 (List.all_eq_true.1 hB2 i (List.mem_range.2 hi)) j (List.mem_range.2 hj)
  rw [hd1, hd2] at this
  simp [hij] at this
 have hAput : ∀ i, i ≤ ops.size → A i = putAt ops vs (fun j => decide (j < i)) ops.size a := by
  intro i
  induction i with
  | zero =>
   intro _
   rw [hA0]
   have : ∀ k, putAt ops vs (fun j => decide (j < 0)) k a = a := fun k => by
    induction k with
    | zero => rfl
    | succ k ih => unfold putAt; simpa using ih
   rw [this]
  | succ i ih =>
   intro hi
   obtain ⟨o, ho⟩ : ∃ o, ops[i]? = some o := ⟨ops[i], Array.getElem?_eq_getElem (by omega)⟩
   rw [(hs i o (by simpa using ho)).1, ih (by omega)]
   have hdo : o.dst = dstOf ops i := by unfold dstOf; rw [ho]; rfl
   rw [hdo, putAt_set ops vs _ a i (by simp) ops.size (by omega) (fun j h1 h2 d hd1 => distinct i j (by omega) h2 h1 d hd1)]
   exact putAt_same _ _ _ _ _ _ (fun j _ => by
    by_cases e : j = i
    ·subst e; simp
    ·have : (decide (j < i + 1)) = decide (j < i) := by simp; omega
     simp [e, this])
 have main : ∀ (fuel : Nat) (listed : Array Bool) (w' : World), listed.size = ops.size → toCome listed ops.size = fuel → Closed ops (fun j => listed.getD j false) →
   C (fun j => listed.getD j false) w' → wpAnyIn F m P .any ops Q fuel listed (putAt ops vs (fun j => listed.getD j false) ops.size a) w' := by
  intro fuel
  induction fuel with
  | zero =>
   intro listed w' hsz hcnt _ hw
   have hall := toCome_zero _ hcnt
   refine ⟨?_, ?_⟩
   ·cases hr : Region.ready .any ops listed with
    | nil => rfl
    | cons i l =>
     have hi : i ∈ Region.ready .any ops listed := by rw [hr]; simp
     obtain ⟨h1, o, ho, -⟩ := mem_ready.1 hi
     have hi' : i < ops.size := (Array.getElem?_eq_some_iff.1 ho).1
     have := hall i hi'
     rw [Array.getD_eq_getD_getElem?, Array.getElem?_eq_getElem (by omega)] at h1 this
     simp at h1 this; rw [h1] at this; cases this
   ·have e : putAt ops vs (fun j => listed.getD j false) ops.size a = A ops.size := by
     rw [hAput _ (Nat.le_refl _)]
     exact putAt_same _ _ _ _ _ _ (fun j hj => by rw [hall j hj]; simp [hj])
    rw [e]
    exact hK _ _ hall hw
  | succ fuel ih =>
   intro listed w' hsz hcnt hcl hw
   refine ⟨fun hr => ?_, fun i hi => ?_⟩
   ·exfalso
    have hall : ∀ i, i < ops.size → listed.getD i false = true := by
     intro i
     induction i using Nat.strongRecOn with
     | _ i ihi =>
      intro hi
      cases hc : listed.getD i false
      ·have : i ∈ Region.ready .any ops listed := mem_ready.2 ⟨by
        rw [Array.getD_eq_getD_getElem?, Array.getElem?_eq_getElem (by omega)] at hc ⊢; simpa using hc, ops[i], Array.getElem?_eq_getElem hi, fun e he hb =>
         ihi e.on ((look i _ (Array.getElem?_eq_getElem hi)).2.1 e he hb) (by have := (look i _ (Array.getElem?_eq_getElem hi)).2.1 e he hb; omega)⟩
       rw [hr] at this; cases this
      ·rfl
    have : ∀ k, k ≤ ops.size → toCome listed k = 0 := by
     intro k
     induction k with
     | zero => intro _; rfl
     | succ k ihk => intro hk; unfold toCome; rw [ihk (by omega), hall k (by omega)]; rfl
    rw [this _ (Nat.le_refl _)] at hcnt; omega
   ·obtain ⟨h1, o, ho, hpre⟩ := mem_ready.1 hi
    have hi' : i < ops.size := (Array.getElem?_eq_some_iff.1 ho).1
    have hu : listed.getD i false = false := by
     rw [Array.getD_eq_getD_getElem?, Array.getElem?_eq_getElem (by omega)] at h1 ⊢; simpa using h1
    obtain ⟨hgd, hedge, hsel, hdef, hlook⟩ := look i o ho
    have hcnt' : toCome (listed.setIfInBounds i true) ops.size = fuel := by
     have := toCome_set (by omega : i < listed.size) hu ops.size
     rw [if_pos hi'] at this; omega
    have hLset : (fun j => (listed.setIfInBounds i true).getD j false) = fun j => j == i || listed.getD j false := by
     funext j
     by_cases e : i = j
     ·subst e; simp [Array.getD_eq_getD_getElem?, hsz, hi']
     ·rw [getD_set_ne false e]
      have : (j == i) = false := by simp; omega
      rw [this, Bool.false_or]
    have hcl' : Closed ops (fun j => (listed.setIfInBounds i true).getD j false) := by
     have up : ∀ k, listed.getD k false = true → (listed.setIfInBounds i true).getD k false = true := fun k hk => by
      by_cases e : i = k
      ·subst e; rw [hu] at hk; cases hk
      ·rw [getD_set_ne false e]; exact hk
     intro j oj hoj hj e he hb
     by_cases e' : i = j
     ·subst e'; rw [ho] at hoj; cases hoj; exact up _ (hpre e he hb)
     ·have hj' : (listed.setIfInBounds i true).getD j false = true := hj
      rw [getD_set_ne false e'] at hj'; exact up _ (hcl j oj hoj hj' e he hb)
    have hdo : o.dst = dstOf ops i := by unfold dstOf; rw [ho]; rfl
    obtain ⟨-, hval⟩ := hs i o (by simpa using ho)
    rw [Nat.zero_add] at hval
    have hget : ∀ t ∈ o.looksAt ops, (putAt ops vs (fun j => listed.getD j false) ops.size a).tmps[t]? = (A i).tmps[t]? := fun t ht => by
     rw [hAput i (by omega)]
     exact putAt_get ops vs _ _ a t _ (fun j hj hdj => by
      obtain ⟨h2, e, he, hb, heq⟩ := hlook t ht j hj hdj
      rw [← heq, hpre e he hb, heq]; simp [h2])
    have hex := same_exec o hsel hget
    have hput : (putAt ops vs (fun j => listed.getD j false) ops.size a).put o.dst (vs i) = putAt ops vs (fun j => (listed.setIfInBounds i true).getD j false) ops.size a := by
     rw [hdo, putAt_set ops vs _ a i hu _ hi' (fun j h1 h2 d hd1 => distinct i j hi' h2 h1 d hd1), hLset]
    have next : ∀ w'', C (fun j => j == i || listed.getD j false) w'' → wpAnyIn F m P .any ops Q fuel (listed.setIfInBounds i true) ((putAt ops vs (fun j => listed.getD j false) ops.size a).put o.dst (vs i)) w'' := fun w'' hw'' => by
     rw [hput]; exact ih _ _ (by simpa using hsz) hcnt' hcl' (by rw [hLset]; exact hw'')
    unfold wpOpIn
    rw [ho]
    have hwt : Region.wanted o (yielded ops (putAt ops vs (fun j => listed.getD j false) ops.size a).tmps) = true := by unfold Region.wanted; rw [hgd]
    simp only [hwt, if_true]
    have hv := hval _ w' hcl hu (fun k hk => by
     unfold waitsB at hk
     rw [ho] at hk
     simp only [Option.map_some, Option.getD_some, Array.any_eq_true, Bool.and_eq_true, beq_iff_eq] at hk
     obtain ⟨q, hq, hb, he⟩ := hk
     have := hpre _ (Array.getElem_mem hq) hb
     rw [he] at this; exact this) hw
    refine ⟨fun f _ => hF f, ?_⟩
    rw [Oper.semAt_eq _ _ _ hdef, hex]
    generalize (execOp (A i).eval o).run P w' = r at hv
    cases r with
    | ok x w1 =>
     cases x <;> simp only [calmUpon] at hv <;> simp only [Oper.uponIn]
     case value u => rw [hv.2]; exact next _ hv.1
     case skip => rw [← hv.2]; exact next _ hv.1
     case enter f args =>
      exact ⟨(fun hh => by rw [hd] at hh; cases hh), CallsIn.mono (hcall _ _ _ _ hv) fun e w2 ⟨he, hc2⟩ => by subst he; exact next _ hc2⟩
    | halt x w1 => simp only [calmUpon] at hv
 refine wpIn_region_any hm ?_
 have h0 := main ops.size (Array.replicate ops.size false) { w with drawn := w.drawn + 1 } (by simp) (toCome_start _ _)
  (fun j oj _ hj => by
   have hj' : (Array.replicate ops.size false).getD j false = true := hj
   rw [Array.getD_eq_getD_getElem?, Array.getElem?_replicate] at hj'; split at hj' <;> simp at hj')
  (by
   have : (fun j => (Array.replicate ops.size false).getD j false) = fun _ => false := by
    funext j; rw [Array.getD_eq_getD_getElem?, Array.getElem?_replicate]; split <;> rfl
   rw [this]; exact hC0)
 have e : putAt ops vs (fun j => (Array.replicate ops.size false).getD j false) ops.size a = a := by
  have : ∀ k, putAt ops vs (fun j => (Array.replicate ops.size false).getD j false) k a = a := fun k => by
   induction k with
   | zero => rfl
   | succ k ih =>
    unfold putAt
    have : (Array.replicate ops.size false).getD k false = false := by
     rw [Array.getD_eq_getD_getElem?, Array.getElem?_replicate]; split <;> rfl
    rw [this]; simpa using ih
  exact this _
 rw [e] at h0
 exact h0
theorem wp_flow {P : Program} {id : Nat} {ops : Array Oper} {Q : Exit → Act → World → Prop} {a : Act} {w : World}
  (hm : P.follows .mixedOrders = true) (hB : (calmB ops ops.size && ops.toList.all (fun o => o.guard.isNone)) = true) (C : (Nat → Bool) → World → Prop) (hC0 : C (fun _ => false) { w with drawn := w.drawn + 1 })
  (hhead : ∀ (os : Array Oper) (K : Act → Prop), ops = os → (∀ a', (∀ w' L, (∀ j, j < ops.size → L j = true) → C L w' → Q .normal a' w') → K a') → wpFlow P os C K 0 ops.toList a) :
  (Code.region id ops true).wp P Q a w :=
 (wpIn_wide (n := 0)).1 (wpIn_flow (fun _ => trivial) rfl (fun _ _ _ _ hc => (callsIn_wide (n := 0 - 1)).2 hc) hm hB C hC0 (fun K hK => hhead _ K rfl hK))
def chainC (i1 i2 i3 : Nat) (W0 W1 W2 W3 : World) (L : Nat → Bool) (W : World) : Prop := W = if L i3 then W3 else if L i2 then W2 else if L i1 then W1 else W0
theorem chain_other {i1 i2 i3 : Nat} {W0 W1 W2 W3 : World} {L : Nat → Bool} {W : World} (i : Nat) (h1 : (i1 == i) = false) (h2 : (i2 == i) = false) (h3 : (i3 == i) = false) (h : chainC i1 i2 i3 W0 W1 W2 W3 L W) : chainC i1 i2 i3 W0 W1 W2 W3 (fun j => j == i || L j) W := by
 unfold chainC at *; simp only [h1, h2, h3, Bool.false_or]; exact h
theorem chain_0 {i1 i2 i3 : Nat} {W0 W1 W2 W3 : World} {L : Nat → Bool} {W : World} (h : chainC i1 i2 i3 W0 W1 W2 W3 L W) (h1 : L i1 = false) (h2 : L i2 = false) (h3 : L i3 = false) : W = W0 := by
 unfold chainC at h; rw [h1, h2, h3] at h; exact h
theorem chain_1 {i1 i2 i3 : Nat} {W0 W1 W2 W3 : World} {L : Nat → Bool} {W : World} (h : chainC i1 i2 i3 W0 W1 W2 W3 L W) (h1 : L i1 = true) (h2 : L i2 = false) (h3 : L i3 = false) : W = W1 := by
 unfold chainC at h; rw [h1, h2, h3] at h; exact h
theorem chain_2 {i1 i2 i3 : Nat} {W0 W1 W2 W3 : World} {L : Nat → Bool} {W : World} (h : chainC i1 i2 i3 W0 W1 W2 W3 L W) (h2 : L i2 = true) (h3 : L i3 = false) : W = W2 := by
 unfold chainC at h; rw [h2, h3] at h; exact h
theorem chain_3 {i1 i2 i3 : Nat} {W0 W1 W2 W3 : World} {L : Nat → Bool} {W : World} (h : chainC i1 i2 i3 W0 W1 W2 W3 L W) (h3 : L i3 = true) : W = W3 := by
 unfold chainC at h; rw [h3] at h; exact h
theorem chain_to1 {i1 i2 i3 : Nat} {W0 W1 W2 W3 : World} {L : Nat → Bool} (h12 : (i2 == i1) = false) (h13 : (i3 == i1) = false) (h2 : L i2 = false) (h3 : L i3 = false) : chainC i1 i2 i3 W0 W1 W2 W3 (fun j => j == i1 || L j) W1 := by
 unfold chainC; simp [h12, h13, h2, h3]
theorem chain_to2 {i1 i2 i3 : Nat} {W0 W1 W2 W3 : World} {L : Nat → Bool} (h23 : (i3 == i2) = false) (h3 : L i3 = false) : chainC i1 i2 i3 W0 W1 W2 W3 (fun j => j == i2 || L j) W2 := by
 unfold chainC; simp [h23, h3]
theorem chain_to3 {i1 i2 i3 : Nat} {W0 W1 W2 W3 : World} {L : Nat → Bool} : chainC i1 i2 i3 W0 W1 W2 W3 (fun j => j == i3 || L j) W3 := by
 unfold chainC; simp
end Go.Proofs.YtggnipkfliompaaGreatDoor
namespace Go.Proofs.YtggnipkfliompaaGreatDoor
open Go.RowKit
theorem cell_new1 (w : World) (v : Value) (t : TypeId) : (w.alloc (.cells #[v] t)).cell? ⟨w.heap.size, 0, none⟩ = some v := by
 rw [World.cell?_alloc_at _ _ _ _ rfl]; rfl
theorem infoInt : (Tryz.prog.info? 3).map (fun i => (i.zero, i.size, i.bytes)) = some (some (.int .i64 0), 1, 8) := by kernel_rfl
theorem app_int {ops : Array Oper} {rest : List Oper} {o : Oper} {a : Act} {Q : Exit → Act → World → Prop} {W : World} (hgd : o.guard = none) (s x : Operand) (ho : o.op = .call { callee := .builtin .append, args := #[s, x], argTypes := #[23, 23] })
  (base n : Nat) (v : Value) (xs : List Value) (hs : a.eval s = v) (hown : W.ownsRow base 3 1 v n xs) (b c : Nat) (z : Int) (hx : a.eval x = .slice (some ⟨b, 0, none⟩) 1 c) (hcell : W.cell? ⟨b, 0, none⟩ = some (.int .i64 z)) (hn : n ≤ 1000000) (hbase : base ≤ W.heap.size)
  (h : ∀ v' w', w'.ownsRow base 3 1 v' (n + 1) (xs ++ [.int .i64 z]) → W.grownBy w' v.ownBlock → wpList Tryz.prog ops Q rest (a.put o.dst v') w') : wpList Tryz.prog ops Q (o :: rest) a W := by
 obtain ⟨i0, hi0, hz0, hz1, hz2⟩ := info_parts infoInt
 refine wpList_append_own _ hgd s x 23 ho base 3 i0 (.int .i64 0) 1 8 Tryz.underlying23 hi0 hz0 hz1 hz2 rfl (by decide) v n xs hs hown ⟨b, 0, none⟩ 1 c [.int .i64 z] hx rfl ?_ ?_ ?_ ?_ hbase ?_
 ·intro j u hu
  cases j with
  | zero => simp at hu; subst hu; simpa [Addr.add] using hcell
  | succ j => simp at hu
 ·simp [Value.oneCell']
 ·unfold maxLen; omega
 ·omega
 ·intro v' w' h1 h2 _; exact h v' w' h1 h2
theorem app_ints {ops : Array Oper} {rest : List Oper} {o : Oper} {a : Act} {Q : Exit → Act → World → Prop} {W : World} (hgd : o.guard = none) (s x : Operand) (ho : o.op = .call { callee := .builtin .append, args := #[s, x], argTypes := #[23, 23] })
  (base n : Nat) (v : Value) (xs : List Value) (hs : a.eval s = v) (hown : W.ownsRow base 3 1 v n xs) (ad : Addr) (c : Nat) (zs : List Int) (hx : a.eval x = .slice (some ad) zs.length c)
  (hcell : ∀ j (h : j < zs.length), W.cell? (ad.add j) = some (.int .i64 zs[j])) (hn : n + zs.length ≤ 17592186044416) (hbase : base ≤ W.heap.size)
  (h : ∀ v' w', w'.ownsRow base 3 1 v' (n + zs.length) (xs ++ zs.map (Value.int .i64)) → W.grownBy w' v.ownBlock → wpList Tryz.prog ops Q rest (a.put o.dst v') w') : wpList Tryz.prog ops Q (o :: rest) a W := by
 obtain ⟨i0, hi0, hz0, hz1, hz2⟩ := info_parts infoInt
 refine wpList_append_own _ hgd s x 23 ho base 3 i0 (.int .i64 0) 1 8 Tryz.underlying23 hi0 hz0 hz1 hz2 rfl (by decide) v n xs hs hown ad zs.length c (zs.map (Value.int .i64)) hx (by simp) ?_ ?_ ?_ ?_ hbase ?_
 ·intro j u hu
  rw [List.getElem?_map] at hu
  by_cases hj : j < zs.length
  ·rw [List.getElem?_eq_getElem hj] at hu; simp at hu; rw [← hu]; exact hcell j hj
  ·rw [List.getElem?_eq_none (by omega)] at hu; cases hu
 ·intro u hu
  obtain ⟨z, _, rfl⟩ := List.mem_map.1 hu
  rfl
 ·unfold maxLen; omega
 ·omega
 ·intro v' w' h1 h2 _; exact h v' w' h1 h2
theorem app_run {W : World} (ty base n : Nat) (v : Value) (xs : List Value) (hown : W.ownsRow base 3 1 v n xs) (b c : Nat) (z : Int) (hcell : W.cell? ⟨b, 0, none⟩ = some (.int .i64 z)) (hn : n ≤ 1000000) (hbase : base ≤ W.heap.size) :
  ∃ v' w', (Builtin.append_ #[23, 23] ty #[v, .slice (some ⟨b, 0, none⟩) 1 c]).run Tryz.prog W = .ok v' w' ∧ w'.ownsRow base 3 1 v' (n + 1) (xs ++ [.int .i64 z]) ∧ W.grownBy w' v.ownBlock := by
 obtain ⟨i0, hi0, hz0, hz1, hz2⟩ := info_parts infoInt
 obtain ⟨v', w', h1, h2, h3, -⟩ := run_append_own (P := Tryz.prog) W base 23 ty 3 i0 (.int .i64 0) 1 8 Tryz.underlying23 hi0 hz0 hz1 hz2 rfl (by decide) v n xs hown ⟨b, 0, none⟩ 1 c [.int .i64 z] rfl (by
  intro j u hu
  cases j with
  | zero => simp at hu; subst hu; simpa [Addr.add] using hcell
  | succ j => simp at hu) (by simp [Value.oneCell']) (by unfold maxLen; omega) (by omega) hbase
 exact ⟨v', w', h1, h2, h3⟩
theorem exec_app {P : Program} {o : Oper} {a : Act} {W w' : World} {v' : Value} (s x : Operand) (t1 t2 : TypeId) (ho : o.op = .call { callee := .builtin .append, args := #[s, x], argTypes := #[t1, t2] })
  (v u : Value) (hs : a.eval s = v) (hx : a.eval x = u) (hr : (Builtin.append_ #[t1, t2] o.type #[v, u]).run P W = .ok v' w') : (execOp a.eval o).run P W = .ok (.value v') w' := by
 unfold execOp
 simp only [ho, resolve, invoke, builtin, Sem.run_bind, Sem.run_pure, Result.andThen_ok, List.map_toArray, List.map_cons, List.map_nil, hs, hx, hr]
end Go.Proofs.YtggnipkfliompaaGreatDoor
namespace Go.Proofs.YtggnipkfliompaaGreatDoor
abbrev Mat := Nat → Nat → Int
def findF (x : Mat) (c : Nat) : Nat → Nat → Nat
 | 0, k => k
 | f + 1, k => if x k c = 0 then findF x c f (k + 1) else k
def findP (x : Mat) (n c r : Nat) : Nat := findF x c (n - r) r
def swapM (x : Mat) (r k : Nat) : Mat := fun i j => if i = r then x k j else if i = k then x r j else x i j
def scaleM (x : Mat) (r c : Nat) (v : Int) : Mat := fun i j => if i = r ∧ c ≤ j then x r j * v % 1073741789 else x i j
def clearA (x : Mat) (r c u : Nat) : Mat := fun i j => if i ≠ r ∧ i < u ∧ c ≤ j then (x i j + -(x i c * x r j % 1073741789)) % 1073741789 else x i j
def pivM (x : Mat) (n r c k : Nat) : Mat := clearA (scaleM (swapM x r k) r c (invQ (x k c))) r c n
def stepM (n : Nat) (s : Mat × List Nat) (c : Nat) : Mat × List Nat :=
 if findP s.1 n c s.2.length < n then (pivM s.1 n s.2.length c (findP s.1 n c s.2.length), s.2 ++ [c]) else s
def redM (n : Nat) (x : Mat) (many : Nat) : Mat × List Nat := (List.range many).foldl (stepM n) (x, [])
theorem redM_succ (n : Nat) (x : Mat) (many : Nat) : redM n x (many + 1) = stepM n (redM n x many) many := by
 unfold redM; rw [List.range_succ, List.foldl_append]; rfl
theorem findF_lt (x : Mat) (c : Nat) : ∀ f k, findF x c f k ≤ k + f ∧ k ≤ findF x c f k
 | 0, k => ⟨by simp [findF], by simp [findF]⟩
 | f + 1, k => by
  unfold findF
  split
  ·have := findF_lt x c f (k + 1); omega
  ·omega
theorem findF_ne (x : Mat) (c : Nat) : ∀ f k, findF x c f k < k + f → x (findF x c f k) c ≠ 0
 | 0, k => fun h => by simp [findF] at h
 | f + 1, k => by
  unfold findF
  split
  ·intro h; exact findF_ne x c f (k + 1) (by omega)
  ·rename_i h; intro _; exact h
theorem findF_zero (x : Mat) (c : Nat) : ∀ f k j, k ≤ j → j < findF x c f k → x j c = 0
 | 0, k => fun j h1 h2 => by simp [findF] at h2; omega
 | f + 1, k => by
  unfold findF
  split
  ·rename_i h0
   intro j h1 h2
   by_cases e : j = k
   ·rw [e]; exact h0
   ·exact findF_zero x c f (k + 1) j (by omega) h2
  ·intro j h1 h2; omega
theorem findP_step {x : Mat} {n c r k : Nat} (h : findP x n c r = findF x c (n - k) k) (hk : k < n) (h0 : x k c = 0) : findP x n c r = findF x c (n - (k + 1)) (k + 1) := by
 rw [h]
 obtain ⟨f, hf⟩ : ∃ f, n - k = f + 1 := ⟨n - k - 1, by omega⟩
 rw [hf, show n - (k + 1) = f by omega]
 conv => lhs; unfold findF
 rw [if_pos h0]
theorem findP_here {x : Mat} {n c r k : Nat} (h : findP x n c r = findF x c (n - k) k) (hk : k < n) (h0 : x k c ≠ 0) : findP x n c r = k := by
 rw [h]
 obtain ⟨f, hf⟩ : ∃ f, n - k = f + 1 := ⟨n - k - 1, by omega⟩
 rw [hf]
 conv => lhs; unfold findF
 rw [if_neg h0]
theorem findP_end {x : Mat} {n c r k : Nat} (h : findP x n c r = findF x c (n - k) k) (hk : ¬ k < n) (hkn : k ≤ n) : findP x n c r = n := by
 rw [h, show n - k = 0 by omega]; show k = n; omega
theorem stepM_none {n : Nat} {x : Mat} {piv : List Nat} {c : Nat} (h : findP x n c piv.length = n) : stepM n (x, piv) c = (x, piv) := by
 unfold stepM; rw [if_neg]; show ¬ findP x n c piv.length < n; omega
theorem stepM_some {n : Nat} {x : Mat} {piv : List Nat} {c k : Nat} (h : findP x n c piv.length = k) (hk : k < n) : stepM n (x, piv) c = (pivM x n piv.length c k, piv ++ [c]) := by
 unfold stepM
 have h' : findP (x, piv).1 n c (x, piv).2.length = k := h
 rw [h', if_pos hk]
theorem findP_ge (x : Mat) (n c r : Nat) : r ≤ findP x n c r := (findF_lt x c (n - r) r).2
theorem redM_len (n : Nat) (x : Mat) : ∀ c, (redM n x c).2.length ≤ n
 | 0 => by simp [redM]
 | c + 1 => by
  rw [redM_succ]
  have ih := redM_len n x c
  generalize redM n x c = s at ih
  unfold stepM
  split
  ·rename_i h
   have := findP_ge s.1 n c s.2.length
   simp; omega
  ·exact ih
end Go.Proofs.YtggnipkfliompaaGreatDoor
