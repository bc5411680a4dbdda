/- A region that draws its order inside a round of a range over a function: as outside, where no operation is about to call a Go function. A region that draws its order, where a condition on the world holds up to certain operations only (stores into what was loaded). Two rows of a call's own, side by side, each in a variable. A region that draws its order, as a flow: each operation is looked at once, whatever stands before it. -/
import Derived.Test.YtnbkbnbmmkfckaaGreatMRange
import Derived.Test.YtnbkbnbmmkfckaaGreatMRange4
import Derived.OrdersIn
import Derived.Deep.RegionHeld3
import Derived.OrdersHeld
import Derived.Deep.RegionLaw
import Derived.Deep.AppendLies
namespace Go.Proofs.YtnbkbnbmmkfckaaGreat
open Go.RowKit

/-- The operation ends at once: it enters no function. -/
def Ends : Result Go.Next → Prop
  | .ok (.enter _ _) _ => False
  | .ok (.row _ _) _ => False
  | .ok (.round _ _ _ _ _) _ => False
  | _ => True
structure PlainOp (P : Program) (o : Oper) : Prop where
  nodefer : ∀ c, o.op ≠ .defer c
  about : ∀ w ρ, o.about P w ρ = none
  ends : ∀ w ρ, Ends ((execOp ρ o).run P w)
theorem uponIn_of_upon {F : Fence} {n : Nat} {P : Program} {o : Oper} {a : Act} {K K' : Act → World → Prop} {Q : Exit → Act → World → Prop} (hK : ∀ a w, K a w → K' a w) : ∀ {r : Result Go.Next}, Ends r → o.upon P a K Q r → o.uponIn F n P a K' Q r
  | .ok x w, he, h => by
    cases x <;> simp only [Oper.upon, Oper.uponIn, Ends] at * <;> first | exact hK _ _ h | exact he.elim | exact h.elim | skip
  | .halt x w, _, h => by
    cases x <;> simp only [Oper.upon, Oper.uponIn] at * <;> first | exact h | exact h.elim | skip
theorem wpIn_of_wp {F : Fence} {n : Nat} {P : Program} {o : Oper} {a : Act} {w : World} {K K' : Act → World → Prop} {Q : Exit → Act → World → Prop} (hp : PlainOp P o) (hK : ∀ a w, K a w → K' a w) (h : o.wp P a w K Q) : o.wpIn F n P a w K' Q := by
  refine ⟨fun f hf => by (rw [hp.about] at hf; exact nomatch hf), ?_⟩
  rw [Oper.semAt_eq _ _ _ hp.nodefer]
  exact uponIn_of_upon hK (hp.ends w a.eval) h
theorem wpAnyIn_of_held {F : Fence} {n : Nat} {P : Program} {md : Region.Mode} {ops : Array Oper} {Q : Exit → Act → World → Prop} {S : World → Prop} (hp : ∀ o ∈ ops.toList, PlainOp P o) (hQ : ¬ LetsOut Q) : ∀ (fuel : Nat) (listed : Array Bool) (a : Act) (w : World), wpAnyH P md ops Q S fuel listed a w → wpAnyIn F n P md ops Q fuel listed a w
  | 0, _, _, _, h => h
  | fuel + 1, listed, a, w, h => ⟨h.1, fun i hi => by
    have h2 := h.2 i hi
    unfold wpOp at h2
    unfold wpOpIn
    cases ho : ops[i]? with
    | none => rw [ho] at h2; exact wpAnyIn_of_held hp hQ fuel _ _ _ h2.2
    | some o =>
      rw [ho] at h2
      have hm : PlainOp P o := hp o (by
        obtain ⟨hlt, rfl⟩ := Array.getElem?_eq_some_iff.1 ho
        exact Array.getElem_mem_toList hlt)
      simp only at h2 ⊢
      split
      · rename_i hw
        rw [if_pos hw] at h2
        rcases h2 with h2 | h2
        · exact wpIn_of_wp hm (fun a' w' h' => wpAnyIn_of_held hp hQ fuel _ a' w' h'.2) h2
        · exact absurd h2.2 hQ
      · rename_i hw
        rw [if_neg hw] at h2
        exact ⟨fun f hf => by (rw [hm.about] at hf; exact nomatch hf), wpAnyIn_of_held hp hQ fuel _ _ _ h2.2⟩⟩
/-- The beginning. -/
theorem wpIn_region_held {F : Fence} {n : Nat} {P : Program} {ops : Array Oper} {Q : Exit → Act → World → Prop} {S : World → Prop} {id : Nat} {a : Act} {w : World} (hm : P.follows .mixedOrders = true) (hp : ∀ o ∈ ops.toList, PlainOp P o) (hQ : ¬ LetsOut Q) (hS : S w.drew)
    (h : S w.drew → wpAnyH P .any ops Q S ops.size (Array.replicate ops.size false) a w.drew) : (Code.region id ops true).wpIn F n P Q a w :=
  wpIn_region_any hm (wpAnyIn_of_held hp hQ _ _ _ _ (h hS))

theorem ends_v {P : Program} (s : Sem Value) (w : World) : Ends (Sem.run P (do pure (Go.Next.value (← s))) w) := by
  rw [Sem.run_bind]
  cases s.run P w <;> simp [Result.andThen, Ends, pure]
section
variable {P : Program} {d : Option Tmp} {t : TypeId} {p : String} {af : Array Edge} {g : Option (Nat × Bool)}
theorem plain_move {x : Operand} : PlainOp P ⟨d, .move x, t, p, af, g⟩ := ⟨(fun _ h => by cases h), fun _ _ => rfl, fun _ _ => trivial⟩
theorem plain_assign {x : Operand} : PlainOp P ⟨d, .assign x, t, p, af, g⟩ := ⟨(fun _ h => by cases h), fun _ _ => rfl, fun _ _ => trivial⟩
theorem plain_load {x : Operand} {ty : TypeId} : PlainOp P ⟨d, .load ty x, t, p, af, g⟩ := ⟨(fun _ h => by cases h), fun _ _ => rfl, fun w _ => ends_v _ w⟩
end

end Go.Proofs.YtnbkbnbmmkfckaaGreat

namespace Go.Proofs.YtnbkbnbmmkfckaaGreat
open Go.RowKit

section
variable {P : Program} {ops : Array Oper} {Q : Exit → Act → World → Prop} {md : Region.Mode} {S : World → Prop} {T : List Nat}

/-- Whatever order is picked from here on; S holds behind every operation that is carried out ahead of those of T. -/
def wpAnyL (P : Program) (md : Region.Mode) (ops : Array Oper) (Q : Exit → Act → World → Prop) (S : World → Prop) (T : List Nat) : Nat → Array Bool → Act → World → Prop
  | 0, listed, a, w => Region.ready md ops listed = [] ∧ Q .normal a w
  | fuel + 1, listed, a, w =>
    (Region.ready md ops listed = [] → Q .normal a w) ∧
    ∀ i ∈ Region.ready md ops listed, wpOp P ops Q i (fun a' w' => (i ∉ T → (∀ t ∈ T, listed.getD t true = false) → S w') ∧ wpAnyL P md ops Q S T fuel (listed.setIfInBounds i true) a' w') a w

/-- Each of the operations 'rs' comes up next. -/
def AllReadyL (P : Program) (md : Region.Mode) (ops : Array Oper) (Q : Exit → Act → World → Prop) (S : World → Prop) (T : List Nat) (fuel : Nat) (listed : Array Bool) (a : Act) (w : World) (rs : List Nat) : Prop :=
  ∀ i ∈ rs, wpOp P ops Q i (fun a' w' => (i ∉ T → (∀ t ∈ T, listed.getD t true = false) → S w') ∧ wpAnyL P md ops Q S T fuel (listed.setIfInBounds i true) a' w') a w
theorem AllReadyL.nil {fuel : Nat} {listed : Array Bool} {a : Act} {w : World} : AllReadyL P md ops Q S T fuel listed a w [] := fun _ h => by cases h
theorem AllReadyL.cons {fuel : Nat} {listed : Array Bool} {a : Act} {w : World} {i : Nat} {o : Oper} {rs : List Nat} (ho : ops[i]? = some o) (hT : T.contains i = false)
    (h : ∀ K' : Act → World → Prop, Shut (∀ a w, S w → wpAnyL P md ops Q S T fuel (listed.setIfInBounds i true) a w → K' a w) → if Region.wanted o (yielded ops a.tmps) = true then Oper.wp P o a w K' Q else K' (a.put o.dst undef) w)
    (hs : AllReadyL P md ops Q S T fuel listed a w rs) : AllReadyL P md ops Q S T fuel listed a w (i :: rs) := fun j hj => by
  rcases List.mem_cons.1 hj with rfl | hj
  · exact wpOp_step ho (fun K' hK => h K' (fun a w hS hW => hK a w ⟨fun _ _ => hS, hW⟩))
  · exact hs j hj
end

end Go.Proofs.YtnbkbnbmmkfckaaGreat

namespace Go.Proofs.YtnbkbnbmmkfckaaGreat
open Go.RowKit FP

theorem Ints.cells {w w' : World} {v : Value} {zs : List Int} (h : Ints w v zs) (hc : ∀ b o u, w.cell? ⟨b, o, none⟩ = some u → w'.cell? ⟨b, o, none⟩ = some u) : Ints w' v zs := by
  obtain ⟨a, cap, rfl, h1, h2, h3, h4⟩ := h
  exact ⟨a, cap, rfl, h1, h2, h3, fun k hk => by obtain ⟨b, off, h5, h6⟩ := h4 k hk; exact ⟨b, off, h5, hc _ _ _ h6⟩⟩
theorem Rows2.cells {w w' : World} {v : Value} {rows : List (List Int)} (h : Rows2 w v rows) (hc : ∀ b o u, w.cell? ⟨b, o, none⟩ = some u → w'.cell? ⟨b, o, none⟩ = some u) : Rows2 w' v rows := by
  obtain ⟨a, cap, rfl, h1, h2, h4⟩ := h
  exact ⟨a, cap, rfl, h1, h2, fun k hk => by obtain ⟨b, off, r, h5, h6, h7⟩ := h4 k hk; exact ⟨b, off, r, h5, hc _ _ _ h6, h7.cells hc⟩⟩
theorem own_is {W : World} {base size n : Nat} {e : TypeId} {v : Value} {xs : List Value} (h : W.ownsRow base e size v n xs) : ∃ a k c, v = .slice a k c := by
  rcases h.2 with ⟨rfl, -⟩ | ⟨g, cap, cur, rfl, -⟩
  · exact ⟨_, _, _, rfl⟩
  · exact ⟨_, _, _, rfl⟩
/-- A row of rows and a row of integers. -/
structure Two (base : Nat) (W : World) (n m : Nat) (L1 L2 : Value) (xs ys : List Value) : Prop where
  a : W.ownsRow base 23 1 L1 n xs
  b : W.ownsRow base 3 1 L2 m ys
  ap : ∀ q, L1.ownBlock = some q → L2.ownBlock ≠ some q
theorem Two.one {base : Nat} {W W' : World} {n m n' g k c : Nat} {L1 L2 : Value} {xs ys xs' : List Value} (h : Two base W n m L1 L2 xs ys) (ho : W'.ownsRow base 23 1 (.slice (some ⟨g, 0, none⟩) k c) n' xs') (hg : W.grownBy W' L1.ownBlock) (hat : L1.ownBlock = some g ∨ g = W.heap.size) : Two base W' n' m (.slice (some ⟨g, 0, none⟩) k c) L2 xs' ys := by
  refine ⟨ho, own_apart h.b hg (fun q h1 h2 => h.ap q h2 h1), fun q h1 h2 => ?_⟩
  have e : g = q := by injection h1
  subst e
  rcases hat with h3 | h3
  · exact h.ap g h3 h2
  · have := (own_lt h.b g h2).2; omega
theorem Two.two {base : Nat} {W W' : World} {n m m' g k c : Nat} {L1 L2 : Value} {xs ys ys' : List Value} (h : Two base W n m L1 L2 xs ys) (ho : W'.ownsRow base 3 1 (.slice (some ⟨g, 0, none⟩) k c) m' ys') (hg : W.grownBy W' L2.ownBlock) (hat : L2.ownBlock = some g ∨ g = W.heap.size) : Two base W' n m' L1 (.slice (some ⟨g, 0, none⟩) k c) xs ys' := by
  refine ⟨own_apart h.a hg h.ap, ho, fun q h1 h2 => ?_⟩
  have e : g = q := by injection h2
  subst e
  rcases hat with h3 | h3
  · exact h.ap g h1 h3
  · have := (own_lt h.a g h1).2; omega
set_option maxRecDepth 100000 in
theorem step_app_row {ops : Array Oper} {o : Oper} {a : Act} {K : Act → World → Prop} {Q : Exit → Act → World → Prop} {E : Prop} {W : World} (hgd : o.guard = none) (s x : Operand) (ho : o.op = .call { callee := .builtin .append, args := #[s, x], argTypes := #[22, 22] })
    (base n : Nat) (v : Value) (xs : List Value) (hs : a.eval s = v) (hown : W.ownsRow base 23 1 v n xs) (b c : Nat) (z : Value) (hx : a.eval x = .slice (some ⟨b, 0, none⟩) 1 c) (hcell : W.cell? ⟨b, 0, none⟩ = some z) (hz1 : z.oneCell' = true) (hn : n ≤ 1000000) (hbase : base ≤ W.heap.size) (H : Nat) (hH : W.heap.size = H)
    (h : ∀ g cap w', w'.ownsRow base 23 1 (.slice (some ⟨g, 0, none⟩) (n + 1) cap) (n + 1) (xs ++ [z]) → W.grownBy w' v.ownBlock → (v.ownBlock = some g ∨ g = H) → g < w'.heap.size → K (a.put o.dst (.slice (some ⟨g, 0, none⟩) (n + 1) cap)) w') :
    if Region.wanted o (yielded ops a.tmps) = true then Oper.wp Tryz.prog o a W K Q else E := by
  obtain ⟨i0, hi0, hz0, hs0, hb0⟩ := info_parts infoRows
  refine step_append_lies _ hgd s x 22 ho base 23 i0 (.slice none 0 0) 1 24 Tryz.underlying22 hi0 hz0 hs0 hb0 rfl (by decide) v n xs hs hown ⟨b, 0, none⟩ 1 c [z] hx rfl ?_ ?_ (by decide) ?_ ?_ hbase H hH h
  · intro j u hu
    cases j with
    | zero => simp at hu; subst hu; rw [add_off]; exact hcell
    | succ j => simp at hu
  · intro u hu; simp at hu; subst hu; exact hz1
  · unfold maxLen; omega
  · omega

end Go.Proofs.YtnbkbnbmmkfckaaGreat

namespace Go.Proofs.YtnbkbnbmmkfckaaGreat
open Go.RowKit

section
variable {P : Program} {ops : Array Oper} {Q : Exit → Act → World → Prop}

def dstNe (x y : Option Tmp) : Bool := match x, y with
  | some s, some t => !(s == t)
  | _, _ => true
theorem put_comm {a : Act} {x y : Option Tmp} (h : dstNe x y = true) (u v : Value) : (a.put x u).put y v = (a.put y v).put x u := by
  cases x with
  | none => rfl
  | some s => cases y with
    | none => rfl
    | some t =>
      have hne : s ≠ t := by simpa [dstNe] using h
      show (⟨(a.tmps.setIfInBounds s u).setIfInBounds t v, a.defers⟩ : Act) = ⟨(a.tmps.setIfInBounds t v).setIfInBounds s u, a.defers⟩
      rw [Array.setIfInBounds_comm _ _ hne]
end


section
variable (P : Program) (ops : Array Oper) (Q : Exit → Act → World → Prop) (A0 : Act) (I : (Nat → Bool) → (Nat → Value) → World → Prop)
end
section
variable {P : Program} {ops : Array Oper} {Q : Exit → Act → World → Prop}
end

end Go.Proofs.YtnbkbnbmmkfckaaGreat
