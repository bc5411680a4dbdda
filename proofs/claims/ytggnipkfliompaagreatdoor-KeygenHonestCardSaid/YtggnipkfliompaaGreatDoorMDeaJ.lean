/- Package dealing: right, Fits. A range over a function of this program whose iterator lays new memory between two rounds. slices.AppendSeq, slices.Collect, of an iterator that hands on rows. Package dealing: the rows of shares, collected. Linear algebra over the field: kernels, spans, ranks. Ranks: how many columns do not lead a vector of a kernel. The reference of package linear: Turned. The reference of package linear: Rank and Separate. The reference of package linear: Separate. The reductions of the program and of the reference, in the field. The reference of package linear: Combine. The reference of package linear: Combine, where there are no columns. The program and the reference compute the same. The program's Separate and the reference's compute the same. The examples of the chapter, reckoned. The laws' own functions: right, made, proves. The laws' own functions: made. The laws' examples: sane returns true. What Combine and Separate say: a target is made of rows exactly if no list proves that it is not. Separate's proofs; and the rank, row by row. What the calls give, with their values known: for the laws. The rank, row by row; and that of the columns. Package dealing: the sum of shares. Package dealing: Recover. Dealing: the examples, reckoned; calls whose values are known. The reference of dealing: comparing; the laws' program of one row. The laws of dealing: the program of one row. The laws of dealing: the examples. The laws of dealing: small programs, columns, random numbers. The laws of dealing: every share that was dealt fits, and with no other value. The reference of dealing: Number, power, Commits, public, Public. Package complaints, in plain Lean: what Make and Settle compute. The laws' helpers: the reference's Formed and Commits, the laws' power. Package complaints, in plain Lean: dealings that are sealed. The laws of complaints, in plain Lean: a dealing with a wrong share. -/
import Derived.Test.YtggnipkfliompaaGreatDoorMDeaF
import Derived.Test.YtggnipkfliompaaGreatDoorMBase
import Derived.Test.YtggnipkfliompaaGreatDoorMFq
import Derived.Test.YtggnipkfliompaaGreatDoorMLinQ
import Derived.Test.YtggnipkfliompaaGreatDoorMEqA
import Derived.Deep.RegionLaw
import Derived.Deep.AppendLies
import Derived.Deep.RegionHeld3
import Derived.BigQuiet
namespace Go.Proofs.YtggnipkfliompaaGreatDoor
open Go.RowKit FP

/-- Is a share right? -/
def rightS (rows : List (List Int)) (r v : Int) : Bool := decide (0 ≤ r) && (decide (r < (rows.length : Int)) && !oddQ v)
theorem rightS_iff {rows : List (List Int)} {r v : Int} : rightS rows r v = true ↔ (0 ≤ r ∧ r < (rows.length : Int)) ∧ 0 ≤ v ∧ v < 1073741789 := by
  unfold rightS
  rw [Bool.and_eq_true, Bool.and_eq_true, decide_eq_true_eq, decide_eq_true_eq, Bool.not_eq_true']
  constructor
  · rintro ⟨a, b, c⟩; exact ⟨⟨a, b⟩, oddQ_num c⟩
  · rintro ⟨⟨a, b⟩, c⟩; exact ⟨a, b, oddQ_of c⟩

set_option maxRecDepth 100000 in
set_option maxHeartbeats 2000000 in
theorem dright_any (rv ov : Value) (rows : List (List Int)) (owners : List Int) (r v : Int) (w : World) (hR : Rows2 w rv rows) (hO : Ints w ov owners) (hv : R64 v) :
    Calls Tryz.prog 113 #[.agg #[rv, ov], .agg #[.int .i64 r, .int .i64 v]] w fun e w' => e = .returned (.bool (rightS rows r v)) ∧ Below w.heap.size w w' := by
  obtain ⟨W1, hW1, hb1, hr1, hz⟩ := box_prog w rv ov 25
  obtain ⟨W2, hW2, hb2, hr2, hz2⟩ := box_prog W1 (.int .i64 r) (.int .i64 v) 68
  obtain ⟨a, cap, rfl, -, hlen, -⟩ := id hR
  obtain ⟨a2, cap2, rfl, -, hlen2, -⟩ := id hO
  have hsz : W1.heap.size = w.heap.size + 1 := by rw [hW1]; simp
  have c0 : W2.cell? ⟨w.heap.size, 0, none⟩ = some (.slice a rows.length cap) := below_cell hb2 (row_cell hr1 rfl)
  have s0 : W2.cell? ⟨w.heap.size + 1, 0, none⟩ = some (.int .i64 r) := by rw [← hsz]; exact row_cell hr2 rfl
  have s1 : W2.cell? ⟨w.heap.size + 1, 1, none⟩ = some (.int .i64 v) := by rw [← hsz]; exact row_cell hr2 rfl
  have HW2 : Hid ((w.alloc (.cells #[.slice a rows.length cap, .slice a2 owners.length cap2] 25)).alloc (.cells #[.int .i64 r, .int .i64 v] 68) = W2) := Lib.hid (by rw [hW2, hW1])
  have HB := Lib.hid (hb1.trans (hb2.mono hb1.size))
  clear hR hO hr1 hr2 hW1 hW2 hb1 hb2 hsz hz hz2
  by_cases h0 : 0 ≤ r
  · by_cases h1 : r < (rows.length : Int)
    · have HV := Lib.hid (show rightS rows r v = !oddQ v by unfold rightS; rw [decide_eq_true h0, decide_eq_true h1]; rfl)
      go_enter Tryz.func113, Tryz.ntmps113
      go_wp2_with (rw [HW2.out])
      refine (numbers_any _ [v] _ (ints_one W2 v 3 _ rfl hv)).mono ?_
      rintro e w3 ⟨rfl, hb3⟩
      rw [one_any]
      have hb4 := HB.out.alloc HB.out.size (.cells #[.int .i64 v] 3)
      go_wp2_with fail
      go_ret
      exact ⟨ret_bool HV.out.symm, hb4.trans (hb3.mono hb4.size)⟩
    · have HV := Lib.hid (show rightS rows r v = false by unfold rightS; rw [decide_eq_false h1]; simp)
      go_enter Tryz.func113, Tryz.ntmps113
      go_wp2_with (rw [HW2.out])
      go_ret
      exact ⟨ret_bool HV.out.symm, HB.out⟩
  · have HV := Lib.hid (show rightS rows r v = false by unfold rightS; rw [decide_eq_false h0]; rfl)
    go_enter Tryz.func113, Tryz.ntmps113
    go_wp2_with (rw [HW2.out])
    go_ret
    exact ⟨ret_bool HV.out.symm, HB.out⟩

/-- The error of Fits; its answer. -/
def fitE (rows : List (List Int)) (owners cs : List Int) (r v : Int) : Int :=
  if dchkE rows owners cs ≠ 0 then dchkE rows owners cs else if rightS rows r v = true then 0 else 340
def fitB (rows : List (List Int)) (owners cs : List Int) (r v : Int) : Bool :=
  if fitE rows owners cs r v = 0 then powE 4 v == pubQ (rows.getD r.toNat []) cs else false

set_option maxRecDepth 100000 in
set_option maxHeartbeats 4000000 in
theorem fits_any (rv ov cv : Value) (rows : List (List Int)) (owners cs : List Int) (r v : Int) (w : World) (hR : Rows2 w rv rows) (hO : Ints w ov owners) (hC : Ints w cv cs) (hr : R64 r) (hv : R64 v) :
    Calls Tryz.prog 41 #[.agg #[rv, ov], cv, .agg #[.int .i64 r, .int .i64 v]] w fun e w' => e = .returned (.tuple #[.bool (fitB rows owners cs r v), .int .i64 (fitE rows owners cs r v)]) ∧ Below w.heap.size w w' := by
  obtain ⟨W1, hW1, hb1, hr1, hz⟩ := box_prog w rv ov 25
  obtain ⟨W2, hW2, hb2, hr2, hz2⟩ := box_prog W1 (.int .i64 r) (.int .i64 v) 68
  have hsz : W1.heap.size = w.heap.size + 1 := by rw [hW1]; simp
  have hb := hb1.trans (hb2.mono hb1.size)
  have HR2 := Lib.hid (hR.below hb)
  have HO2 := Lib.hid (hO.below hb)
  have HC2 := Lib.hid (hC.below hb)
  have HDC := Lib.hid (dcheck_any rv ov cv rows owners cs W2 HR2.out HO2.out HC2.out)
  obtain ⟨a, cap, rfl, -, hlen, -⟩ := id hR
  obtain ⟨a2, cap2, rfl, -, hlen2, -⟩ := id hO
  obtain ⟨a3, cap3, rfl, -, hlen3, hcr, -⟩ := id hC
  have c0 : W2.cell? ⟨w.heap.size, 0, none⟩ = some (.slice a rows.length cap) := below_cell hb2 (row_cell hr1 rfl)
  have c1 : W2.cell? ⟨w.heap.size, 1, none⟩ = some (.slice a2 owners.length cap2) := below_cell hb2 (row_cell hr1 rfl)
  have s0 : W2.cell? ⟨w.heap.size + 1, 0, none⟩ = some (.int .i64 r) := by rw [← hsz]; exact row_cell hr2 rfl
  have s1 : W2.cell? ⟨w.heap.size + 1, 1, none⟩ = some (.int .i64 v) := by rw [← hsz]; exact row_cell hr2 rfl
  have HW2 : Hid ((w.alloc (.cells #[.slice a rows.length cap, .slice a2 owners.length cap2] 25)).alloc (.cells #[.int .i64 r, .int .i64 v] 68) = W2) := Lib.hid (by rw [hW2, hW1])
  have HB := Lib.hid hb
  clear hR hO hC hr1 hr2 hW1 hW2 hb1 hb2 hsz hz hz2 hb hcr
  by_cases hp : dchkE rows owners cs = 0
  · have HP0 := Lib.hid hp
    have HFE := Lib.hid (show fitE rows owners cs r v = if rightS rows r v = true then 0 else 340 by unfold fitE; rw [if_neg (by simp [hp])])
    rw [hp] at HDC
    clear hp
    cases er : rightS rows r v with
    | false =>
      have HV : Hid (fitE rows owners cs r v = 340) := Lib.hid (by rw [HFE.out, er]; rfl)
      have HW : Hid (fitB rows owners cs r v = false) := Lib.hid (by unfold fitB; rw [HV.out]; rfl)
      have HRS := Lib.hid er
      clear er
      go_enter Tryz.func41, Tryz.ntmps41
      go_wp2_with fail
      rw [HW2.out]
      refine HDC.out.mono ?_
      rintro e w3 ⟨rfl, hb3⟩
      have d0 := below_cell hb3 c0
      have d1 := below_cell hb3 c1
      have t0 := below_cell hb3 s0
      have t1 := below_cell hb3 s1
      have HR3 := Lib.hid (HR2.out.below hb3)
      have HO3 := Lib.hid (HO2.out.below hb3)
      have HB3 := Lib.hid (HB.out.trans (hb3.mono HB.out.size))
      clear hb3 c0 c1 s0 s1
      go_wp2_with fail
      refine (dright_any _ _ rows owners r v _ HR3.out HO3.out hv).mono ?_
      rintro e w4 ⟨rfl, hb4⟩
      rw [HRS.out]
      go_wp2_with fail
      go_ret2
      exact ⟨by rw [HV.out, HW.out]; rfl, HB3.out.trans (hb4.mono HB3.out.size)⟩
    | true =>
      have HV : Hid (fitE rows owners cs r v = 0) := Lib.hid (by rw [HFE.out, er]; rfl)
      have HRS := Lib.hid er
      have hrg := (rightS_iff.1 er).1
      have HPE : Hid (pubE rows owners cs r = 0) := Lib.hid (by unfold pubE; rw [if_neg (by simp [HP0.out]), if_neg (by omega)])
      have HPR : Hid (pubR rows owners cs r = pubQ (rows.getD r.toNat []) cs) := Lib.hid (by unfold pubR; rw [if_pos HPE.out])
      have HW : Hid (fitB rows owners cs r v = (powE 4 v == pubQ (rows.getD r.toNat []) cs)) := Lib.hid (by unfold fitB; rw [if_pos HV.out])
      obtain ⟨q, hq⟩ : ∃ q, q = pubQ (rows.getD r.toNat []) cs := ⟨_, rfl⟩
      rw [← hq] at HPR HW
      have HPW := Lib.hid (fun w => pow_yes 4 v w el_four hv)
      obtain ⟨p, hp4⟩ : ∃ p, p = powE 4 v := ⟨_, rfl⟩
      rw [← hp4] at HW HPW
      have HPB := Lib.hid (fun W h1 h2 h3 => public_any (.slice a rows.length cap) (.slice a2 owners.length cap2) (.slice a3 cs.length cap3) rows owners cs r W h1 h2 h3 hr)
      rw [HPE.out, HPR.out] at HPB
      clear er hrg hq hp4
      go_enter Tryz.func41, Tryz.ntmps41
      go_wp2_with fail
      rw [HW2.out]
      refine HDC.out.mono ?_
      rintro e w3 ⟨rfl, hb3⟩
      have d0 := below_cell hb3 c0
      have d1 := below_cell hb3 c1
      have t0 := below_cell hb3 s0
      have t1 := below_cell hb3 s1
      have HR3 := Lib.hid (HR2.out.below hb3)
      have HO3 := Lib.hid (HO2.out.below hb3)
      have HC3 := Lib.hid (HC2.out.below hb3)
      have HB3 := Lib.hid (HB.out.trans (hb3.mono HB.out.size))
      clear hb3 c0 c1 s0 s1
      go_wp2_with fail
      refine (dright_any _ _ rows owners r v _ HR3.out HO3.out hv).mono ?_
      rintro e w4 ⟨rfl, hb4⟩
      rw [HRS.out]
      have c0 := below_cell hb4 d0
      have c1 := below_cell hb4 d1
      have s0 := below_cell hb4 t0
      have s1 := below_cell hb4 t1
      have HR4 := Lib.hid (HR3.out.below hb4)
      have HO4 := Lib.hid (HO3.out.below hb4)
      have HC4 := Lib.hid (HC3.out.below hb4)
      have HB4 := Lib.hid (HB3.out.trans (hb4.mono HB3.out.size))
      clear hb4 d0 d1 t0 t1
      go_wp2_with fail
      refine (HPB.out _ HR4.out HO4.out HC4.out).mono ?_
      rintro e w5 ⟨rfl, hb5⟩
      have t1 := below_cell hb5 s1
      have HB5 := Lib.hid (HB4.out.trans (hb5.mono HB4.out.size))
      clear hb5 c0 c1 s0 s1
      go_wp2_with fail
      refine (HPW.out _).mono ?_
      rintro e w6 ⟨rfl, hb6⟩
      go_wp2_with fail
      go_ret2
      exact ⟨by rw [HV.out, HW.out]; rfl, HB5.out.trans (hb6.mono HB5.out.size)⟩
  · have HV : Hid (fitE rows owners cs r v = dchkE rows owners cs) := Lib.hid (by unfold fitE; rw [if_pos hp])
    have HW : Hid (fitB rows owners cs r v = false) := Lib.hid (by unfold fitB; rw [HV.out, if_neg hp])
    have h2 : (dchkE rows owners cs != 0) = true := bne_iff_ne.2 hp
    go_enter Tryz.func41, Tryz.ntmps41
    go_wp2_with fail
    rw [HW2.out]
    refine HDC.out.mono ?_
    rintro e w3 ⟨rfl, hb3⟩
    go_wp2_with fail
    go_ret2
    exact ⟨by rw [HV.out, HW.out]; rfl, HB.out.trans (hb3.mono HB.out.size)⟩

end Go.Proofs.YtggnipkfliompaaGreatDoor

namespace Go.Proofs.YtggnipkfliompaaGreatDoor
open Go.RowKit

theorem sim_of_below {B : Nat} {W W' : World} (hb : Below W.heap.size W W') (hB : B ≤ W.heap.size) : Sim B W W' :=
  ⟨hb.os, hb.tape, hb.output, hb.size, fun k hk => hb.block k (Nat.lt_of_lt_of_le hk hB), fun k _ hk _ => (hb.block k (Array.getElem?_eq_some_iff.1 hk).1).trans hk⟩
theorem keeps_of_below {W W' : World} (hb : Below W.heap.size W W') : KeepsOthers W W' :=
  ⟨hb.size, fun k _ hk _ => (hb.block k (Array.getElem?_eq_some_iff.1 hk).1).trans hk⟩

/-- The iterator gf, with what it captured: it hands on N elements, one after the other, as long as the body goes on; it may lay new blocks, and call what does so. -/
def Iterates4 (P : Program) (gf : FuncId) (lb : Array Value) (N : Nat) (encs : Nat → Array Value) (I : Nat → World → Prop) : Prop :=
  ∀ (l : Nat) (J Jx : Nat → World → Prop) (W : World), (∀ j W1, J j W1 → I j W1) → (∀ j W1 W2, J j W1 → Below W1.heap.size W1 W2 → J j W2) →
    (∀ j W1, J j W1 → j < N → YieldAt Fence.wide 0 P l (encs j) W1 fun e W' => (e = .returned (.bool true) ∧ J (j + 1) W') ∨ (e = .returned (.bool false) ∧ Jx (j + 1) W')) →
    J 0 W → CallsIn Fence.wide 0 P gf (#[.func (.yield l) #[] #[]] ++ lb) W fun e W' => (∃ v, e = .returned v) ∧ (J N W' ∨ (∃ j, j ≤ N ∧ Jx j W'))

end Go.Proofs.YtggnipkfliompaaGreatDoor

namespace Go.Proofs.YtggnipkfliompaaGreatDoor
open Go.RowKit FP

attribute [local go_sem] Oper.semAt_some

theorem keeps_grown {W W' : World} {base size n : Nat} {e : TypeId} {v : Value} {xs : List Value} (h : W.ownsRow base e size v n xs) (hg : W.grownBy W' v.ownBlock) : KeepsOthers W W' :=
  ⟨hg.size, fun k o hk ho => (hg.block k (Array.getElem?_eq_some_iff.1 hk).1 (by
    rcases h.2 with ⟨rfl, -⟩ | ⟨g, cap, cur, rfl, -, hg2, -⟩
    · intro e; cases e
    · intro e
      have e2 : k = g := by injection e
      subst e2
      rw [hg2] at hk; cases hk; cases ho)).trans hk⟩
theorem own_sim {B : Nat} {W W' : World} {base size n : Nat} {e : TypeId} {v : Value} {xs : List Value} (h : W.ownsRow base e size v n xs) (hs : Sim B W W') : W'.ownsRow base e size v n xs := by
  obtain ⟨h1, h2⟩ := h
  refine ⟨h1, ?_⟩
  rcases h2 with h2 | ⟨g, cap, cur, a, b, c, d⟩
  · exact .inl h2
  · exact .inr ⟨g, cap, cur, a, b, hs.cells _ _ c rfl, d⟩

end Go.Proofs.YtggnipkfliompaaGreatDoor

namespace Go.Proofs.YtggnipkfliompaaGreatDoor
open Go.RowKit FP

attribute [local go_sem] Oper.semAt_some

end Go.Proofs.YtggnipkfliompaaGreatDoor

namespace Go.Proofs.YtggnipkfliompaaGreatDoor

/-- The product of two lists. -/
def dt (m : Nat) (u v : Nat → Fq) : Fq := sm m (fun j => u j * v j)
/-! One step of a reduction. -/

/-! What a reduction says. -/

end Go.Proofs.YtggnipkfliompaaGreatDoor

namespace Go.Proofs.YtggnipkfliompaaGreatDoor

end Go.Proofs.YtggnipkfliompaaGreatDoor

namespace Go.Proofs.YtggnipkfliompaaGreatDoor
open Go.RowKit

theorem owns_setCell_other {w : World} {base : Nat} {e : TypeId} {size : Nat} {v : Value} {n : Nat} {xs : List Value} (h : w.ownsRow base e size v n xs) {b o : Nat} (ha : ∀ g, v.ownBlock = some g → b ≠ g) (u : Value) : (w.setCell ⟨b, o, none⟩ u).ownsRow base e size v n xs := by
  obtain ⟨h1, h2 | ⟨g, cap, cur, rfl, hB, hh, hrest⟩⟩ := h
  · exact ⟨h1, .inl h2⟩
  · refine ⟨h1, .inr ⟨g, cap, cur, rfl, hB, ?_, hrest⟩⟩
    rw [Below.heap_setCell _ _ _ _ (fun e => ha g rfl e.symm)]; exact hh

end Go.Proofs.YtggnipkfliompaaGreatDoor

namespace Go.Proofs.YtggnipkfliompaaGreatDoor
open Go.RowKit

end Go.Proofs.YtggnipkfliompaaGreatDoor

namespace Go.Proofs.YtggnipkfliompaaGreatDoor
open Go.RowKit

/-- The next pivot tells whether a column is one. -/
structure Next (piv : List Nat) (c k : Nat) : Prop where
  le : k ≤ piv.length
  lo : ∀ i (h : i < piv.length), i < k → piv[i] < c
  up : ∀ i (h : i < piv.length), k ≤ i → c ≤ piv[i]
end Go.Proofs.YtggnipkfliompaaGreatDoor

namespace Go.Proofs.YtggnipkfliompaaGreatDoor

/-! The program's reduction computes the same. -/
end Go.Proofs.YtggnipkfliompaaGreatDoor

namespace Go.Proofs.YtggnipkfliompaaGreatDoor
open Go.RowKit

end Go.Proofs.YtggnipkfliompaaGreatDoor

namespace Go.Proofs.YtggnipkfliompaaGreatDoor
open Go.RowKit

end Go.Proofs.YtggnipkfliompaaGreatDoor

namespace Go.Proofs.YtggnipkfliompaaGreatDoor

/-! Separate. -/
/-- A list, in the field. -/
def cv (l : List Int) : Nat → Fq := fun j => cq (nth l j)

end Go.Proofs.YtggnipkfliompaaGreatDoor

namespace Go.Proofs.YtggnipkfliompaaGreatDoor

end Go.Proofs.YtggnipkfliompaaGreatDoor

namespace Go.Proofs.YtggnipkfliompaaGreatDoor

end Go.Proofs.YtggnipkfliompaaGreatDoor

namespace Go.Proofs.YtggnipkfliompaaGreatDoor
open Go.RowKit

end Go.Proofs.YtggnipkfliompaaGreatDoor

namespace Go.Proofs.YtggnipkfliompaaGreatDoor
open Go.RowKit

end Go.Proofs.YtggnipkfliompaaGreatDoor

namespace Go.Proofs.YtggnipkfliompaaGreatDoor
open Go.RowKit

abbrev sl (b n : Nat) : Value := .slice (some ⟨b, 0, none⟩) n n
/-! The calls, one by one. -/
end Go.Proofs.YtggnipkfliompaaGreatDoor

namespace Go.Proofs.YtggnipkfliompaaGreatDoor

/-- A vector, followed by -1. -/
def ext (n : Nat) (y : Nat → Fq) : Nat → Fq := fun j => if j = n then -1 else y j
end Go.Proofs.YtggnipkfliompaaGreatDoor

namespace Go.Proofs.YtggnipkfliompaaGreatDoor

end Go.Proofs.YtggnipkfliompaaGreatDoor

namespace Go.Proofs.YtggnipkfliompaaGreatDoor
open Go.RowKit

end Go.Proofs.YtggnipkfliompaaGreatDoor

namespace Go.Proofs.YtggnipkfliompaaGreatDoor

/-! Prefixes. -/
end Go.Proofs.YtggnipkfliompaaGreatDoor

namespace Go.Proofs.YtggnipkfliompaaGreatDoor
open Go.RowKit FP

end Go.Proofs.YtggnipkfliompaaGreatDoor

namespace Go.Proofs.YtggnipkfliompaaGreatDoor
open Go.RowKit FP

end Go.Proofs.YtggnipkfliompaaGreatDoor

namespace Go.Proofs.YtggnipkfliompaaGreatDoor
open Go.RowKit FP

end Go.Proofs.YtggnipkfliompaaGreatDoor

namespace Go.Proofs.YtggnipkfliompaaGreatDoor
open Go.RowKit FP

end Go.Proofs.YtggnipkfliompaaGreatDoor

namespace Go.Proofs.YtggnipkfliompaaGreatDoor
open Go.RowKit FP

theorem rows_of1 {w : World} {b c : Nat} {r : Value} {x : List Int} (h : w.cell? ⟨b, 0, none⟩ = some r) (hI : Ints w r x) (hc : 1 ≤ c) : Rows2 w (.slice (some ⟨b, 0, none⟩) 1 c) [x] :=
  ⟨_, c, rfl, hc, by simp, fun k hk => ⟨b, 0, r, rfl, by obtain rfl : k = 0 := (by simp at hk; omega); exact h, by obtain rfl : k = 0 := (by simp at hk; omega); exact hI⟩⟩
theorem ints_of1 {w : World} {b c : Nat} {x : Int} (h : w.cell? ⟨b, 0, none⟩ = some (.int .i64 x)) (hx : R64 x) (hc : 1 ≤ c) : Ints w (.slice (some ⟨b, 0, none⟩) 1 c) [x] :=
  ⟨_, c, rfl, hc, by simp, by simpa using hx, fun k hk => ⟨b, 0, rfl, by obtain rfl : k = 0 := (by simp at hk; omega); exact h⟩⟩
end Go.Proofs.YtggnipkfliompaaGreatDoor

namespace Go.Proofs.YtggnipkfliompaaGreatDoor
open Go.RowKit FP

end Go.Proofs.YtggnipkfliompaaGreatDoor

namespace Go.Proofs.YtggnipkfliompaaGreatDoor
open Go.RowKit FP

/-- The slice v reads as words. -/
def Words (w : World) (v : Value) (l : List Int) : Prop :=
  ∃ a cap, v = .slice a l.length cap ∧ l.length ≤ cap ∧ l.length ≤ 1000000000000000 ∧ (∀ z ∈ l, 0 ≤ z ∧ z < 4294967296) ∧
    ∀ k (h : k < l.length), ∃ b off, a = some ⟨b, off, none⟩ ∧ w.cell? ⟨b, off + k, none⟩ = some (.int .u32 l[k])
end Go.Proofs.YtggnipkfliompaaGreatDoor

namespace Go.Proofs.YtggnipkfliompaaGreatDoor
open Go.RowKit FP

theorem nth_mapv {f : Int → Int} {l : List Int} {k : Nat} (h : k < l.length) : nth (l.map f) k = f (nth l k) := by
  rw [nth_at (by simpa using h), nth_at h, List.getElem_map]
theorem pub_deal (row s : List Int) : ∀ j, j ≤ s.length → pubF row (dealC s) j = powE 4 (prodF row s j)
  | 0, _ => by show (1 : Int) = powE 4 0; rw [powE_0]
  | j + 1, hj => by
    show pubF row (dealC s) j * powE (nth (dealC s) j) (nth row j) % 2147483579 = powE 4 ((prodF row s j + nth row j * nth s j % 1073741789) % 1073741789)
    rw [pub_deal row s j (by omega), show nth (dealC s) j = powE 4 (nth s j) from nth_mapv (by omega), powE_mul el_four, ← powE_add el_four]
    refine powE_same ?_
    rw [Int.mul_comm (nth s j) (nth row j)]
    generalize nth row j * nth s j = q
    omega
theorem com_deal {rows : List (List Int)} {owners : List Int} {x : Int} {rnd : List Int} (h : DealOK rows owners x rnd) (hp : progE rows owners = 0) : ComOK rows owners (dealC (x :: rnd)) :=
  ⟨h.prog, hp, by simp [dealC, ← h.len], fun c hc => by
    obtain ⟨n, -, rfl⟩ := List.mem_map.1 hc
    exact el_powE el_four n⟩
theorem fit_deal {rows : List (List Int)} {owners : List Int} {x : Int} {rnd : List Int} (h : DealOK rows owners x rnd) (hp : progE rows owners = 0) {k : Nat} (hk : k < rows.length) {v : Int} (hv : 0 ≤ v ∧ v < 1073741789) :
    fitE rows owners (dealC (x :: rnd)) k v = 0 ∧ fitB rows owners (dealC (x :: rnd)) k v = decide (v = prodQ (rows.getD k []) (x :: rnd)) := by
  have hE : fitE rows owners (dealC (x :: rnd)) k v = 0 := by
    unfold fitE
    rw [dchkE_of (com_deal h hp), if_neg (by simp), if_pos (rightS_iff.2 ⟨⟨by omega, by omega⟩, hv⟩)]
  refine ⟨hE, ?_⟩
  have hr := h.prog.row hk
  have hl : (x :: rnd).length = colsQ rows := by rw [List.length_cons]; exact h.len
  unfold fitB
  rw [if_pos hE, Int.toNat_natCast]
  unfold pubQ prodQ
  rw [pub_deal _ _ _ (by simp [dealC]), getD_at hk, hr, show (dealC (x :: rnd)).length = colsQ rows by rw [← hl]; simp [dealC]]
  have hn := prodF_num rows[k] (x :: rnd) (colsQ rows)
  generalize prodF rows[k] (x :: rnd) (colsQ rows) = p at *
  by_cases e : v = p
  · subst e; simp
  · rw [decide_eq_false e]
    refine beq_eq_false_iff_ne.2 fun e2 => e ?_
    have := el_order2 el_four four_ne e2
    omega
theorem dealL_len (rows : List (List Int)) (s : List Int) : (dealL rows s).length = rows.length := by simp [dealL]
theorem dealL_at (rows : List (List Int)) (s : List Int) {k : Nat} (h : k < (dealL rows s).length) : (dealL rows s)[k] = ((k : Int), prodQ (rows.getD k []) s) := by
  have e := dealL_len rows s
  show ((List.range rows.length).map (dealF rows s))[k]'(by simp; omega) = _
  rw [List.getElem_map, List.getElem_range]; rfl

end Go.Proofs.YtggnipkfliompaaGreatDoor

namespace Go.Proofs.YtggnipkfliompaaGreatDoor
open Go.RowKit FP

/-- Are numbers commitments? -/
def comB (rows : List (List Int)) (cs : List Int) : Bool := !cs.any notEl && decide (cs.length = colsQ rows)
theorem comB_E {rows : List (List Int)} {owners cs : List Int} (hp : progE rows owners = 0) : dchkE rows owners cs = if comB rows cs = true then 0 else 340 := by
  unfold dchkE comB
  rw [if_neg (by simp [hp])]
  by_cases h : cs.length = colsQ rows <;> cases e : cs.any notEl <;> simp [h]

end Go.Proofs.YtggnipkfliompaaGreatDoor

namespace Go.Proofs.YtggnipkfliompaaGreatDoor
open Go.RowKit FP

/-- A dealing. -/
structure Dlg where
  dealer : Int
  cs : List Int
  ps : List Pcl
/-- Is a dealing complete for a right program? -/
def comQ (rows : List (List Int)) (d : Dlg) : Bool := inB d.dealer 0 63 && (decide (d.ps.length = rows.length) && (comB rows d.cs && numB d.ps))
/-- The error of a program and a dealing. -/
def cE (rows : List (List Int)) (owners : List Int) (d : Dlg) : Int :=
  if progE rows owners ≠ 0 then progE rows owners else if comQ rows d = true then 0 else 360
structure Complete (rows : List (List Int)) (owners : List Int) (d : Dlg) : Prop where
  prog : ProgOK rows owners
  prog0 : progE rows owners = 0
  dealer : 0 ≤ d.dealer ∧ d.dealer ≤ 63
  len : d.ps.length = rows.length
  com : ComOK rows owners d.cs
  num : ∀ k (h : k < d.ps.length), d.ps[k].1 = (k : Int)
theorem comB_ok {rows : List (List Int)} {owners cs : List Int} (hp : progE rows owners = 0) (h : comB rows cs = true) : ComOK rows owners cs :=
  dchkE_ok (by rw [comB_E hp, if_pos h])
theorem comB_of {rows : List (List Int)} {owners cs : List Int} (h : ComOK rows owners cs) : comB rows cs = true := by
  have e := dchkE_of h
  rw [comB_E h.prog0] at e
  cases e2 : comB rows cs with
  | true => rfl
  | false => rw [e2] at e; simp at e
theorem cE_ok {rows : List (List Int)} {owners : List Int} {d : Dlg} : cE rows owners d = 0 ↔ Complete rows owners d := by
  unfold cE
  constructor
  · intro h
    by_cases hp : progE rows owners = 0
    · rw [if_neg (by simp [hp])] at h
      have hq : comQ rows d = true := by
        cases e : comQ rows d with
        | true => rfl
        | false => rw [e] at h; simp at h
      unfold comQ at hq
      rw [Bool.and_eq_true, Bool.and_eq_true, Bool.and_eq_true, decide_eq_true_eq, inB_iff, numB_iff] at hq
      obtain ⟨h1, h2, h3, h4⟩ := hq
      exact ⟨progE_ok hp, hp, h1, h2, comB_ok hp h3, h4⟩
    · rw [if_pos hp] at h; exact absurd h hp
  · rintro ⟨-, h0, h1, h2, h3, h4⟩
    rw [if_neg (by simp [h0]), if_pos]
    unfold comQ
    rw [inB_iff.2 h1, decide_eq_true h2, comB_of h3, numB_iff.2 h4]; rfl
/-- Does a value fit as the share of a row of a complete dealing? -/
def fitV (rows : List (List Int)) (d : Dlg) (row v : Int) : Bool := powE 4 v == pubQ (rows.getD row.toNat []) d.cs
theorem fitE_com {rows : List (List Int)} {owners : List Int} {d : Dlg} (h : Complete rows owners d) {row v : Int} (hr : 0 ≤ row ∧ row < (d.ps.length : Int)) (hv : 0 ≤ v ∧ v < 1073741789) : fitE rows owners d.cs row v = 0 := by
  unfold fitE
  rw [dchkE_of h.com, if_neg (by simp), if_pos]
  rw [rightS_iff]
  have := h.len
  exact ⟨⟨hr.1, by omega⟩, hv⟩
theorem fitB_com {rows : List (List Int)} {owners : List Int} {d : Dlg} (h : Complete rows owners d) {row v : Int} (hr : 0 ≤ row ∧ row < (d.ps.length : Int)) (hv : 0 ≤ v ∧ v < 1073741789) : fitB rows owners d.cs row v = fitV rows d row v := by
  unfold fitB fitV
  rw [if_pos (fitE_com h hr hv)]

/-- The parcel of a row. -/
def parAt (d : Dlg) (row : Int) : Pcl := d.ps.getD row.toNat (0, 0, 0)
theorem parAt_mem {d : Dlg} {row : Int} (hr : 0 ≤ row ∧ row < (d.ps.length : Int)) : ∃ h : row.toNat < d.ps.length, parAt d row = d.ps[row.toNat] := by
  have h : row.toNat < d.ps.length := by omega
  exact ⟨h, by unfold parAt; rw [List.getD_eq_getElem?_getD, List.getElem?_eq_getElem h]; rfl⟩
/-- The value that is opened. -/
def mkV (s : Int) (d : Dlg) (row : Int) : Int := opnV (powE (parAt d row).2.1 s) d.dealer (parAt d row).1 (parAt d row).2.2
/-- A complaint: dealer, row, D, E, S. -/
structure Cmp where
  dealer : Int
  row : Int
  D : Int
  E : Int
  S : Int
/-- The cells of a complaint. -/
def cmpA (c : Cmp) : Array Value := #[.int .i64 c.dealer, .int .i64 c.row, .int .i64 c.D, .int .i64 c.E, .int .i64 c.S]
def cmpV (c : Cmp) : Value := .agg (cmpA c)
/-- The error of Settle. -/
def stE (rows : List (List Int)) (owners : List Int) (key : Int) (d : Dlg) (c : Cmp) : Int :=
  if cE rows owners d ≠ 0 then cE rows owners d else if c.dealer ≠ d.dealer ∨ c.row < 0 ∨ (d.ps.length : Int) ≤ c.row then 360 else
    if chkB key (parAt d c.row).2.1 c.D c.E c.S = false then 0 else withE c.D d.dealer (parAt d c.row).1 (parAt d c.row).2.1 (parAt d c.row).2.2
def stG (rows : List (List Int)) (owners : List Int) (key : Int) (d : Dlg) (c : Cmp) : Int :=
  if stE rows owners key d c ≠ 0 then 0 else if chkB key (parAt d c.row).2.1 c.D c.E c.S = false then 2 else
    if fitV rows d c.row (opnV c.D d.dealer (parAt d c.row).1 (parAt d c.row).2.2) = true then 2 else 1
theorem chkB_el {key a d E S : Int} (h : chkB key a d E S = true) : El key ∧ El a ∧ El d := by
  unfold chkB at h
  simp only [Bool.and_eq_true] at h
  exact ⟨elB_iff.1 h.1.1, elB_iff.1 h.1.2.1, elB_iff.1 h.1.2.2⟩

/-- The dealing in a value. -/
def DlgV (w : World) (v : Value) (d : Dlg) : Prop := ∃ cv pv, v = .agg #[.int .i64 d.dealer, cv, pv] ∧ R64 d.dealer ∧ Ints w cv d.cs ∧ Parcels w pv d.ps
end Go.Proofs.YtggnipkfliompaaGreatDoor

namespace Go.Proofs.YtggnipkfliompaaGreatDoor
open Go.RowKit FP

/-- Is a proof's form right? -/
def formB (key a d E S : Int) : Bool := (elB key && (elB a && elB d)) && (nQB E && nQB S)
theorem chkB_form (key a d E S : Int) : chkB key a d E S = (formB key a d E S && (E == chal key a d (rE key E S) (sE a d E S))) := by
  unfold chkB formB; simp only [Bool.and_assoc]
structure Form (key a d E S : Int) : Prop where
  k : El key
  a : El a
  d : El d
  E : 0 ≤ E ∧ E < 1073741789
  S : 0 ≤ S ∧ S < 1073741789
theorem form_iff {key a d E S : Int} : formB key a d E S = true ↔ Form key a d E S := by
  unfold formB
  rw [Bool.and_eq_true, Bool.and_eq_true, Bool.and_eq_true, Bool.and_eq_true, elB_iff, elB_iff, elB_iff, nQB_iff, nQB_iff]
  exact ⟨fun ⟨⟨a, b, c⟩, d, e⟩ => ⟨a, b, c, d, e⟩, fun ⟨a, b, c, d, e⟩ => ⟨⟨a, b, c⟩, d, e⟩⟩
/-- An honest proof is right. -/
theorem chkB_honest {a : Int} (ha : El a) (x : Int) : chkB (powE 4 x) a (powE a x) (prE x a) (prS x a) = true := by
  rw [chkB_form, Bool.and_eq_true, form_iff]
  refine ⟨⟨el_powE el_four x, ha, el_powE ha x, prE_num x a, prS_num x a⟩, ?_⟩
  have h1 : rE (powE 4 x) (prE x a) (prS x a) = powE 4 (prN x a) := rE_honest _ _ _
  have h2 : sE a (powE a x) (prE x a) (prS x a) = powE a (prN x a) := sE_honest ha _ _ _
  rw [h1, h2]
  exact beq_self_eq_true _

end Go.Proofs.YtggnipkfliompaaGreatDoor

namespace Go.Proofs.YtggnipkfliompaaGreatDoor
open Go.RowKit FP

/-- A sealed parcel. -/
def sealP (dealer : Int) (ss us vs : Nat → Int) (i : Nat) : Pcl := ((i : Int), powE 4 (us i), cipV (us i) (powE 4 (ss i)) dealer (i : Int) (vs i))
def sealD (rows : List (List Int)) (s : List Int) (dealer : Int) (ss us vs : Nat → Int) : Dlg := ⟨dealer, dealC s, (List.range rows.length).map (sealP dealer ss us vs)⟩
/-- What a sealed dealing asks. -/
structure SD (rows : List (List Int)) (owners : List Int) (x : Int) (rnd : List Int) (dealer : Int) (ss us vs : Nat → Int) : Prop where
  ok : DealOK rows owners x rnd
  p0 : progE rows owners = 0
  dl : 0 ≤ dealer ∧ dealer ≤ 63
  hs : ∀ i, i < rows.length → 1 ≤ ss i ∧ ss i ≤ 1073741788
  hu : ∀ i, i < rows.length → 1 ≤ us i ∧ us i ≤ 1073741788
  hv : ∀ i, i < rows.length → 0 ≤ vs i ∧ vs i ≤ 1073741788

section
variable {rows : List (List Int)} {owners : List Int} {x : Int} {rnd : List Int} {dealer : Int} {ss us vs : Nat → Int}
theorem sealD_len : (sealD rows (x :: rnd) dealer ss us vs).ps.length = rows.length := by unfold sealD; simp
theorem sealD_at {i : Nat} (h : i < (sealD rows (x :: rnd) dealer ss us vs).ps.length) : (sealD rows (x :: rnd) dealer ss us vs).ps[i] = sealP dealer ss us vs i := by
  unfold sealD
  show ((List.range rows.length).map (sealP dealer ss us vs))[i]'(by rw [sealD_len] at h; simpa using h) = _
  rw [List.getElem_map, List.getElem_range]
theorem sealD_par {i : Nat} (h : i < rows.length) : parAt (sealD rows (x :: rnd) dealer ss us vs) (i : Int) = sealP dealer ss us vs i := by
  obtain ⟨h1, e⟩ := parAt_mem (d := sealD rows (x :: rnd) dealer ss us vs) (row := (i : Int)) ⟨by omega, by rw [sealD_len]; omega⟩
  rw [e, sealD_at]; rfl
theorem SD.com (h : SD rows owners x rnd dealer ss us vs) : Complete rows owners (sealD rows (x :: rnd) dealer ss us vs) :=
  ⟨h.ok.prog, h.p0, h.dl, sealD_len, com_deal h.ok h.p0, fun k hk => by rw [sealD_at]; rfl⟩
theorem SD.cE0 (h : SD rows owners x rnd dealer ss us vs) : cE rows owners (sealD rows (x :: rnd) dealer ss us vs) = 0 := cE_ok.2 h.com
theorem SD.right (h : SD rows owners x rnd dealer ss us vs) {i : Nat} (hi : i < rows.length) : RightP (i : Int) (powE 4 (us i)) (cipV (us i) (powE 4 (ss i)) dealer (i : Int) (vs i)) :=
  ⟨by have := h.ok.prog.few; omega, el_powE el_four _, by have := cipV_num (us i) (powE 4 (ss i)) dealer (i : Int) (vs i); omega⟩
theorem SD.fit (h : SD rows owners x rnd dealer ss us vs) {i : Nat} (hi : i < rows.length) {v : Int} (hv : 0 ≤ v ∧ v < 1073741789) :
    fitV rows (sealD rows (x :: rnd) dealer ss us vs) (i : Int) v = decide (v = prodQ (rows.getD i []) (x :: rnd)) := by
  rw [← fitB_com h.com ⟨by omega, by rw [sealD_len]; omega⟩ hv]
  exact (fit_deal h.ok h.p0 hi hv).2
theorem SD.mkV (h : SD rows owners x rnd dealer ss us vs) {i : Nat} (hi : i < rows.length) : mkV (ss i) (sealD rows (x :: rnd) dealer ss us vs) (i : Int) = vs i := by
  unfold Proofs.YtggnipkfliompaaGreatDoor.mkV
  rw [sealD_par hi]
  show opnV (powE (powE 4 (us i)) (ss i)) dealer (i : Int) (cipV (us i) (powE 4 (ss i)) dealer (i : Int) (vs i)) = vs i
  rw [point_key, opnV_cipV (h.hv i hi)]
/-- What the owner of a row hands over. -/
def ownD (us ss : Nat → Int) (i : Nat) : Int := powE (powE 4 (us i)) (ss i)
theorem SD.stE0 (h : SD rows owners x rnd dealer ss us vs) {i : Nat} (hi : i < rows.length) (key : Int) (c : Cmp) (hd : c.dealer = dealer) (hr : c.row = (i : Int)) :
    stE rows owners key (sealD rows (x :: rnd) dealer ss us vs) c = 0 := by
  unfold stE
  rw [if_neg (by simp [h.cE0]), if_neg (by rw [sealD_len, hd, hr]; show ¬ (dealer ≠ dealer ∨ _); omega), hr, sealD_par hi]
  by_cases hc : chkB key (sealP dealer ss us vs i).2.1 c.D c.E c.S = false
  · rw [if_pos hc]
  · rw [if_neg hc]
    exact withE_ok.2 ⟨(chkB_el (by simpa using hc)).2.2, h.dl, h.right hi⟩
theorem SD.stG (h : SD rows owners x rnd dealer ss us vs) {i : Nat} (hi : i < rows.length) (key : Int) (c : Cmp) (hd : c.dealer = dealer) (hr : c.row = (i : Int)) :
    stG rows owners key (sealD rows (x :: rnd) dealer ss us vs) c = if chkB key (powE 4 (us i)) c.D c.E c.S = false then 2 else if decide (opnV c.D dealer (i : Int) (cipV (us i) (powE 4 (ss i)) dealer (i : Int) (vs i)) = prodQ (rows.getD i []) (x :: rnd)) = true then 2 else 1 := by
  unfold Proofs.YtggnipkfliompaaGreatDoor.stG
  rw [if_neg (by simp [h.stE0 hi key c hd hr]), hr, sealD_par hi]
  show (if chkB key (powE 4 (us i)) c.D c.E c.S = false then (2 : Int) else if fitV rows _ (i : Int) (opnV c.D dealer (i : Int) (cipV (us i) (powE 4 (ss i)) dealer (i : Int) (vs i))) = true then 2 else 1) = _
  rw [h.fit hi (opnV_num _ _ _ _)]
/-- Who hands over the right element settles by the value. -/
theorem SD.own (h : SD rows owners x rnd dealer ss us vs) {i : Nat} (hi : i < rows.length) (key : Int) (c : Cmp) (hd : c.dealer = dealer) (hr : c.row = (i : Int)) (hD : c.D = ownD us ss i) :
    Proofs.YtggnipkfliompaaGreatDoor.stG rows owners key (sealD rows (x :: rnd) dealer ss us vs) c = if chkB key (powE 4 (us i)) c.D c.E c.S = false then 2 else if decide (vs i = prodQ (rows.getD i []) (x :: rnd)) = true then 2 else 1 := by
  rw [h.stG hi key c hd hr, hD]
  show (if _ = false then (2 : Int) else if decide (opnV (powE (powE 4 (us i)) (ss i)) dealer (i : Int) (cipV (us i) (powE 4 (ss i)) dealer (i : Int) (vs i)) = _) = true then 2 else 1) = _
  rw [point_key, opnV_cipV (h.hv i hi)]
end

end Go.Proofs.YtggnipkfliompaaGreatDoor

namespace Go.Proofs.YtggnipkfliompaaGreatDoor
open Go.RowKit FP

end Go.Proofs.YtggnipkfliompaaGreatDoor
