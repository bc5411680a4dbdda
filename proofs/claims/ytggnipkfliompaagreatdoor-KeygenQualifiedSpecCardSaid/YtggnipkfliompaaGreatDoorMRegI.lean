/- Drawn regions inside a round of a range over a function: one pass (as RegG), calls of Go functions included. -/
import Derived.Test.YtggnipkfliompaaGreatDoorMRegF
import Derived.Test.YtggnipkfliompaaGreatDoorMKgT
namespace Go.Proofs.YtggnipkfliompaaGreatDoor
open Go.RowKit
section
variable {P:Program} {ops:Array Oper} {Q:Exit → Act → World → Prop}
def noDefer (ops:Array Oper):Bool:=ops.toList.all fun o => match o.op with | .defer _ => false | _ => true
theorem noDefer_at (h:noDefer ops = true) {o:Oper} (ho:o ∈ ops.toList):∀ c,o.op ≠ .defer c:=fun c e => by
 have h1:=List.all_eq_true.1 h o ho
 rw [e] at h1
 cases h1
theorem rowsIn_of_rows {l n:Nat} {row:String} {args:Array Value} {w:World} {R:Value → World → Prop} (h:Rows P row args w R):RowsIn (Fence.wide.inRound l) n P row args w R:=
 fun c cs _ => let ⟨v,w',r,s⟩:=h c cs; ⟨v,w',r,stepsIn_wide.2 s⟩
theorem uponIn_of_upon2 {l n:Nat} {o:Oper} {a:Act} {K:Act → World → Prop}:∀ {r:Result Go.Next},o.upon P a K Q r → o.uponIn (Fence.wide.inRound l) n P a K Q r
 | .ok x w,h => by
  cases x with
  | enter f args => exact ⟨fun e => by simp [Fence.wide,Fence.inRound] at e,CallsIn.inRound l (callsIn_wide.2 h)⟩
  | row r args => exact ⟨fun e => by simp [Fence.wide,Fence.inRound] at e,rowsIn_of_rows h⟩
  | round _ _ _ _ _ => exact h.elim
  | _ => exact h
 | .halt x w,h => by
  cases x <;> exact h
theorem wpIn_of_wp3 {l n:Nat} {o:Oper} {a:Act} {w:World} {K:Act → World → Prop} (hd:∀ c,o.op ≠ .defer c) (h:o.wp P a w K Q):o.wpIn (Fence.wide.inRound l) n P a w K Q:=by
 refine ⟨fun _ _ => trivial,?_⟩
 rw [Oper.semAt_eq _ _ _ hd]
 exact uponIn_of_upon2 h
theorem wpAnyIn_of_any {l n:Nat} {md:Region.Mode} (hnd:noDefer ops = true) (hQ:¬ LetsOut Q):∀ (fuel:Nat) (listed:Array Bool) (a:Act) (w:World),wpAny P md ops Q fuel listed a w → wpAnyIn (Fence.wide.inRound l) n P md ops Q fuel listed a w
 | 0,_,_,_,h => h
 | fuel + 1,listed,a,w,h => ⟨h.1,fun i hi => by
  have h2:=h.2 i hi
  unfold wpOp at h2
  unfold wpOpIn
  cases ho:ops[i]? with
  | none => rw [ho] at h2; exact wpAnyIn_of_any hnd hQ fuel _ _ _ h2
  | some o =>
   rw [ho] at h2
   have hm:∀ c,o.op ≠ .defer c:=noDefer_at hnd (by
    obtain ⟨hlt,rfl⟩:=Array.getElem?_eq_some_iff.1 ho
    exact Array.getElem_mem_toList hlt)
   simp only at h2 ⊢
   split
   ·rename_i hw
    rw [if_pos hw] at h2
    rcases h2 with h2 | h2
    ·exact Oper.wpIn_mono (fun a' w' h' => wpAnyIn_of_any hnd hQ fuel _ a' w' h') (wpIn_of_wp3 hm h2)
    ·exact absurd h2.2 hQ
   ·rename_i hw
    rw [if_neg hw] at h2
    exact ⟨fun _ _ => trivial,wpAnyIn_of_any hnd hQ fuel _ _ _ h2⟩⟩
theorem wpIn_region_flowG {id l n:Nat} {A0:Act} {w:World} (hnd:noDefer ops = true) (hQ:¬ LetsOut Q) (hm:P.follows .mixedOrders = true) (hap:apartL ops.toList = true) (hbk:backs ops = true) (I:(Nat → Bool) → (Nat → Value) → World → Prop)
  (h0:∀ v,I (fun _ => false) v w.drew)
  (hstep:∀ (i:Nat) (o:Oper),ops[i]? = some o → ∀ (done:Nat → Bool) (v:Nat → Value) (w:World),I done v w → done i = false → (∀ e ∈ o.after,Region.binds .any e = true → done e.on = true) → (Region.wanted o (yielded ops (canon ops done v A0).tmps) = true → o.wp P (canon ops done v A0) w (fun a' w' => ∃ x,a' = (canon ops done v A0).put o.dst x ∧ I (setD done i) (setV v i x) w') Q) ∧ (Region.wanted o (yielded ops (canon ops done v A0).tmps) = false → I (setD done i) (setV v i undef) w))
  (hend:∀ (v:Nat → Value) (w:World),I (fun k => decide (k < ops.size)) v w → Q .normal (canon ops (fun k => decide (k < ops.size)) v A0) w):(Code.region id ops true).wpIn (Fence.wide.inRound l) n P Q A0 w:=by
 refine wpIn_region_any hm (wpAnyIn_of_any hnd hQ _ _ _ _ ?_)
 have e:(fun k => (Array.replicate ops.size false).getD k false) = fun _ => false:=funext fun k => by
  by_cases h:k < ops.size <;> simp [Array.getD,h]
 have e2:∀ (l:List Oper) (k:Nat) (a:Act),canonL (fun _ => false) (fun _ => undef) l k a = a:=by
  intro l
  induction l with
  | nil => intro k a; rfl
  | cons o r ih => intro k a; exact ih (k + 1) a
 have h:=wpAny_flowG (P:=P) (Q:=Q) hap hbk (A0:=A0) I hstep hend ops.size (Array.replicate ops.size false) (fun _ => undef) w.drew (by simp) (by
  refine Nat.le_trans List.countP_le_length ?_
  simp) (by rw [e]; exact h0 _)
 rw [e] at h
 have e3:canon ops (fun _ => false) (fun _ => undef) A0 = A0:=e2 ops.toList 0 A0
 rw [e3] at h
 exact h
theorem wpIn_region_flowsG {id l n:Nat} {A0:Act} {w:World} (hnd:noDefer ops = true) (hQ:¬ LetsOut Q) (hm:P.follows .mixedOrders = true) (hap:apartL ops.toList = true) (hgd:guardsOK ops A0.tmps.size = true) (hbk:backs ops = true) (I:(Nat → Bool) → (Nat → Value) → World → Prop)
  (h0:∀ v,I (fun _ => false) v w.drew) (hstep:flowLG P ops Q A0 I ops.toList 0)
  (hend:∀ (v:Nat → Value) (w:World),I (fun k => decide (k < ops.size)) v w → Q .normal (putL v ops.toList 0 A0) w):(Code.region id ops true).wpIn (Fence.wide.inRound l) n P Q A0 w:=by
 let J:(Nat → Bool) → (Nat → Value) → World → Prop:=fun done v w => I done v w ∧ ∀ j k,(match ops[j]? with | some p => (depL p).contains k | none => false) = true → done j = true → done k = true
 refine wpIn_region_flowG hnd hQ hm hap hbk J (fun v => ⟨h0 v,fun _ _ _ h => by cases h⟩) (fun i o ho done v w hJ hd hdep => ?_) (fun v w hJ => ?_)
 ·obtain ⟨hI,hU⟩:=hJ
  have h1:=flowLG_at ops.toList 0 i o hstep (by rw [Array.getElem?_toList]; exact ho)
  rw [Nat.zero_add] at h1
  have hk0:∀ k,(depL o).contains k = true → done k = true:=fun k hk => by
   rw [List.contains_iff_mem] at hk
   obtain ⟨e,he,rfl⟩:=List.mem_map.1 hk
   obtain ⟨he1,he2⟩:=List.mem_filter.1 he
   exact hdep e (Array.mem_toList_iff.1 he1) he2
  have hget:∀ j s,((ops[j]?).bind (·.dst) == some s && decide (s < A0.tmps.size)) = true → done j = true → (canon ops done v A0).tmps.getD s undef = v j:=fun j s hj hdj => by
   rw [Bool.and_eq_true,decide_eq_true_eq] at hj
   obtain ⟨h2,h3⟩:=hj
   have h4:(ops[j]?).bind (·.dst) = some s:=by simpa using h2
   obtain ⟨o',e1,e2⟩:=Option.bind_eq_some_iff.1 h4
   exact canon_eval e1 e2 hap h3 hdj
  have h2:=h1 done v w (canon ops done v A0) hI hd hk0 hU (fun j s hj hdj => (Array.getD_eq_getD_getElem?).symm.trans (hget j s hj hdj)) (fun s hs => (Array.getD_eq_getD_getElem? ..).symm.trans (canon_eval0 hs)) (canon_defers _ _ _)
  have hJ':∀ x w',I (setD done i) (setV v i x) w' → J (setD done i) (setV v i x) w':=fun x w' h5 => ⟨h5,fun j k hjk hj => by
   show (decide (k = i) || done k) = true
   by_cases e1:j = i
   ·subst e1
    rw [ho] at hjk
    rw [hk0 k hjk,Bool.or_true]
   ·have hj2:(decide (j = i) || done j) = true:=hj
    rw [decide_eq_false e1,Bool.false_or] at hj2
    rw [hU j k hjk hj2,Bool.or_true]⟩
  have up:o.wp P (canon ops done v A0) w (fun a' w' => ∃ x,a' = (canon ops done v A0).put o.dst x ∧ I (setD done i) (setV v i x) w') Q → o.wp P (canon ops done v A0) w (fun a' w' => ∃ x,a' = (canon ops done v A0).put o.dst x ∧ J (setD done i) (setV v i x) w') Q:=fun h2 =>
   Oper.wp_mono (fun a' w' h4 => by obtain ⟨x,e,h5⟩:=h4; exact ⟨x,e,hJ' x w' h5⟩) h2
  cases hg:o.guard with
  | none =>
   rw [hg] at h2
   have hw:Region.wanted o (yielded ops (canon ops done v A0).tmps) = true:=by unfold Region.wanted; rw [hg]
   exact ⟨fun _ => up h2,fun h => by rw [hw] at h; cases h⟩
  | some p =>
   obtain ⟨g,b⟩:=p
   rw [hg] at h2
   obtain ⟨x,hx,h3,h4⟩:=h2
   have h5:=List.all_eq_true.1 hgd o (by
    obtain ⟨hlt,rfl⟩:=Array.getElem?_eq_some_iff.1 ho
    exact Array.getElem_mem_toList hlt)
   rw [hg] at h5
   simp only [Bool.and_eq_true] at h5
   obtain ⟨h6,h7⟩:=h5
   have hdg:=hk0 g h6
   cases hs:(ops[g]?).bind (·.dst) with
   | none => rw [hs] at h7; cases h7
   | some s =>
    rw [hs] at h7
    simp only [decide_eq_true_eq] at h7
    have h8:=hget g s (by rw [hs]; simp [h7]) hdg
    have h9:yielded ops (canon ops done v A0).tmps g = some x:=by
     unfold yielded
     rw [hs]
     have h10:(canon ops done v A0).tmps[s]? = some (.bool x):=by
      have hsz:s < (canon ops done v A0).tmps.size:=by unfold canon; rw [canon_size]; exact h7
      rw [Array.getElem?_eq_getElem hsz]
      rw [Array.getD_eq_getD_getElem?,Array.getElem?_eq_getElem hsz] at h8
      rw [hx] at h8
      exact congrArg some h8
     simp only [Option.bind_some,h10]
    have h11:Region.wanted o (yielded ops (canon ops done v A0).tmps) = decide (x = b):=by
     unfold Region.wanted
     rw [hg]
     simp only [h9]
     cases x <;> cases b <;> rfl
    refine ⟨fun h => up (h3 (by rw [h11] at h; exact of_decide_eq_true h)),fun h => hJ' _ _ (h4 (by rw [h11] at h; exact of_decide_eq_false h))⟩
 ·have h1:=hend v w hJ.1
  rw [← putL_canon (done:=fun k => decide (k < ops.size)) v ops.toList 0 A0 (fun j hj => by
   rw [Nat.zero_add]; exact decide_eq_true (by simpa using hj))] at h1
  exact h1
end
end Go.Proofs.YtggnipkfliompaaGreatDoor
