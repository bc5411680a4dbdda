/- Package dealing: right, Fits. A range over a function of this program whose iterator lays new memory between two rounds. slices.AppendSeq, slices.Collect, of an iterator that hands on rows. Package dealing: the rows of shares, collected. Linear algebra over the field: kernels, spans, ranks. Ranks: how many columns do not lead a vector of a kernel. The reference of package linear: Turned. The reference of package linear: Rank and Separate. The reference of package linear: Separate. The reductions of the program and of the reference, in the field. The reference of package linear: Combine. The reference of package linear: Combine, where there are no columns. The program and the reference compute the same. The program's Separate and the reference's compute the same. The examples of the chapter, reckoned. The laws' own functions: right, made, proves. The laws' own functions: made. -/
import Derived.Test.YtggnipkfliompaaGreatDoorMEqD
import Derived.Test.YtggnipkfliompaaGreatDoorMRange
import Derived.Test.YtggnipkfliompaaGreatDoorMFq
import Derived.Test.YtggnipkfliompaaGreatDoorMLinP
import Derived.Deep.RegionLaw
import Derived.Deep.AppendLies
namespace Go.Proofs.YtggnipkfliompaaGreatDoor
open Go.RowKit FP

/-- Is a share right? -/
def rightS (rows : List (List Int)) (r v : Int) : Bool := decide (0 ≤ r) && (decide (r < (rows.length : Int)) && !oddQ v)
theorem rightS_iff {rows : List (List Int)} {r v : Int} : rightS rows r v = true ↔ (0 ≤ r ∧ r < (rows.length : Int)) ∧ 0 ≤ v ∧ v < 1073741789 := by
  unfold rightS
  rw [Bool.and_eq_true, Bool.and_eq_true, decide_eq_true_eq, decide_eq_true_eq, Bool.not_eq_true']
  constructor
  · rintro ⟨a, b, c⟩; exact ⟨⟨a, b⟩, oddQ_num c⟩
  · rintro ⟨⟨a, b⟩, c⟩; exact ⟨a, b, oddQ_of c⟩

set_option maxRecDepth 100000 in
set_option maxHeartbeats 2000000 in
theorem dright_any (rv ov : Value) (rows : List (List Int)) (owners : List Int) (r v : Int) (w : World) (hR : Rows2 w rv rows) (hO : Ints w ov owners) (hv : R64 v) :
    Calls Tryz.prog 113 #[.agg #[rv, ov], .agg #[.int .i64 r, .int .i64 v]] w fun e w' => e = .returned (.bool (rightS rows r v)) ∧ Below w.heap.size w w' := by
  obtain ⟨W1, hW1, hb1, hr1, hz⟩ := box_prog w rv ov 25
  obtain ⟨W2, hW2, hb2, hr2, hz2⟩ := box_prog W1 (.int .i64 r) (.int .i64 v) 68
  obtain ⟨a, cap, rfl, -, hlen, -⟩ := id hR
  obtain ⟨a2, cap2, rfl, -, hlen2, -⟩ := id hO
  have hsz : W1.heap.size = w.heap.size + 1 := by rw [hW1]; simp
  have c0 : W2.cell? ⟨w.heap.size, 0, none⟩ = some (.slice a rows.length cap) := below_cell hb2 (row_cell hr1 rfl)
  have s0 : W2.cell? ⟨w.heap.size + 1, 0, none⟩ = some (.int .i64 r) := by rw [← hsz]; exact row_cell hr2 rfl
  have s1 : W2.cell? ⟨w.heap.size + 1, 1, none⟩ = some (.int .i64 v) := by rw [← hsz]; exact row_cell hr2 rfl
  have HW2 : Hid ((w.alloc (.cells #[.slice a rows.length cap, .slice a2 owners.length cap2] 25)).alloc (.cells #[.int .i64 r, .int .i64 v] 68) = W2) := Lib.hid (by rw [hW2, hW1])
  have HB := Lib.hid (hb1.trans (hb2.mono hb1.size))
  clear hR hO hr1 hr2 hW1 hW2 hb1 hb2 hsz hz hz2
  by_cases h0 : 0 ≤ r
  · by_cases h1 : r < (rows.length : Int)
    · have HV := Lib.hid (show rightS rows r v = !oddQ v by unfold rightS; rw [decide_eq_true h0, decide_eq_true h1]; rfl)
      go_enter Tryz.func113, Tryz.ntmps113
      go_wp2_with (rw [HW2.out])
      refine (numbers_any _ [v] _ (ints_one W2 v 3 _ rfl hv)).mono ?_
      rintro e w3 ⟨rfl, hb3⟩
      rw [one_any]
      have hb4 := HB.out.alloc HB.out.size (.cells #[.int .i64 v] 3)
      go_wp2_with fail
      go_ret
      exact ⟨ret_bool HV.out.symm, hb4.trans (hb3.mono hb4.size)⟩
    · have HV := Lib.hid (show rightS rows r v = false by unfold rightS; rw [decide_eq_false h1]; simp)
      go_enter Tryz.func113, Tryz.ntmps113
      go_wp2_with (rw [HW2.out])
      go_ret
      exact ⟨ret_bool HV.out.symm, HB.out⟩
  · have HV := Lib.hid (show rightS rows r v = false by unfold rightS; rw [decide_eq_false h0]; rfl)
    go_enter Tryz.func113, Tryz.ntmps113
    go_wp2_with (rw [HW2.out])
    go_ret
    exact ⟨ret_bool HV.out.symm, HB.out⟩

/-- The error of Fits; its answer. -/
def fitE (rows : List (List Int)) (owners cs : List Int) (r v : Int) : Int :=
  if dchkE rows owners cs ≠ 0 then dchkE rows owners cs else if rightS rows r v = true then 0 else 340
def fitB (rows : List (List Int)) (owners cs : List Int) (r v : Int) : Bool :=
  if fitE rows owners cs r v = 0 then powE 4 v == pubQ (rows.getD r.toNat []) cs else false

set_option maxRecDepth 100000 in
set_option maxHeartbeats 4000000 in
theorem fits_any (rv ov cv : Value) (rows : List (List Int)) (owners cs : List Int) (r v : Int) (w : World) (hR : Rows2 w rv rows) (hO : Ints w ov owners) (hC : Ints w cv cs) (hr : R64 r) (hv : R64 v) :
    Calls Tryz.prog 41 #[.agg #[rv, ov], cv, .agg #[.int .i64 r, .int .i64 v]] w fun e w' => e = .returned (.tuple #[.bool (fitB rows owners cs r v), .int .i64 (fitE rows owners cs r v)]) ∧ Below w.heap.size w w' := by
  obtain ⟨W1, hW1, hb1, hr1, hz⟩ := box_prog w rv ov 25
  obtain ⟨W2, hW2, hb2, hr2, hz2⟩ := box_prog W1 (.int .i64 r) (.int .i64 v) 68
  have hsz : W1.heap.size = w.heap.size + 1 := by rw [hW1]; simp
  have hb := hb1.trans (hb2.mono hb1.size)
  have HR2 := Lib.hid (hR.below hb)
  have HO2 := Lib.hid (hO.below hb)
  have HC2 := Lib.hid (hC.below hb)
  have HDC := Lib.hid (dcheck_any rv ov cv rows owners cs W2 HR2.out HO2.out HC2.out)
  obtain ⟨a, cap, rfl, -, hlen, -⟩ := id hR
  obtain ⟨a2, cap2, rfl, -, hlen2, -⟩ := id hO
  obtain ⟨a3, cap3, rfl, -, hlen3, hcr, -⟩ := id hC
  have c0 : W2.cell? ⟨w.heap.size, 0, none⟩ = some (.slice a rows.length cap) := below_cell hb2 (row_cell hr1 rfl)
  have c1 : W2.cell? ⟨w.heap.size, 1, none⟩ = some (.slice a2 owners.length cap2) := below_cell hb2 (row_cell hr1 rfl)
  have s0 : W2.cell? ⟨w.heap.size + 1, 0, none⟩ = some (.int .i64 r) := by rw [← hsz]; exact row_cell hr2 rfl
  have s1 : W2.cell? ⟨w.heap.size + 1, 1, none⟩ = some (.int .i64 v) := by rw [← hsz]; exact row_cell hr2 rfl
  have HW2 : Hid ((w.alloc (.cells #[.slice a rows.length cap, .slice a2 owners.length cap2] 25)).alloc (.cells #[.int .i64 r, .int .i64 v] 68) = W2) := Lib.hid (by rw [hW2, hW1])
  have HB := Lib.hid hb
  clear hR hO hC hr1 hr2 hW1 hW2 hb1 hb2 hsz hz hz2 hb hcr
  by_cases hp : dchkE rows owners cs = 0
  · have HP0 := Lib.hid hp
    have HFE := Lib.hid (show fitE rows owners cs r v = if rightS rows r v = true then 0 else 340 by unfold fitE; rw [if_neg (by simp [hp])])
    rw [hp] at HDC
    clear hp
    cases er : rightS rows r v with
    | false =>
      have HV : Hid (fitE rows owners cs r v = 340) := Lib.hid (by rw [HFE.out, er]; rfl)
      have HW : Hid (fitB rows owners cs r v = false) := Lib.hid (by unfold fitB; rw [HV.out]; rfl)
      have HRS := Lib.hid er
      clear er
      go_enter Tryz.func41, Tryz.ntmps41
      go_wp2_with fail
      rw [HW2.out]
      refine HDC.out.mono ?_
      rintro e w3 ⟨rfl, hb3⟩
      have d0 := below_cell hb3 c0
      have d1 := below_cell hb3 c1
      have t0 := below_cell hb3 s0
      have t1 := below_cell hb3 s1
      have HR3 := Lib.hid (HR2.out.below hb3)
      have HO3 := Lib.hid (HO2.out.below hb3)
      have HB3 := Lib.hid (HB.out.trans (hb3.mono HB.out.size))
      clear hb3 c0 c1 s0 s1
      go_wp2_with fail
      refine (dright_any _ _ rows owners r v _ HR3.out HO3.out hv).mono ?_
      rintro e w4 ⟨rfl, hb4⟩
      rw [HRS.out]
      go_wp2_with fail
      go_ret2
      exact ⟨by rw [HV.out, HW.out]; rfl, HB3.out.trans (hb4.mono HB3.out.size)⟩
    | true =>
      have HV : Hid (fitE rows owners cs r v = 0) := Lib.hid (by rw [HFE.out, er]; rfl)
      have HRS := Lib.hid er
      have hrg := (rightS_iff.1 er).1
      have HPE : Hid (pubE rows owners cs r = 0) := Lib.hid (by unfold pubE; rw [if_neg (by simp [HP0.out]), if_neg (by omega)])
      have HPR : Hid (pubR rows owners cs r = pubQ (rows.getD r.toNat []) cs) := Lib.hid (by unfold pubR; rw [if_pos HPE.out])
      have HW : Hid (fitB rows owners cs r v = (powE 4 v == pubQ (rows.getD r.toNat []) cs)) := Lib.hid (by unfold fitB; rw [if_pos HV.out])
      obtain ⟨q, hq⟩ : ∃ q, q = pubQ (rows.getD r.toNat []) cs := ⟨_, rfl⟩
      rw [← hq] at HPR HW
      have HPW := Lib.hid (fun w => pow_yes 4 v w el_four hv)
      obtain ⟨p, hp4⟩ : ∃ p, p = powE 4 v := ⟨_, rfl⟩
      rw [← hp4] at HW HPW
      have HPB := Lib.hid (fun W h1 h2 h3 => public_any (.slice a rows.length cap) (.slice a2 owners.length cap2) (.slice a3 cs.length cap3) rows owners cs r W h1 h2 h3 hr)
      rw [HPE.out, HPR.out] at HPB
      clear er hrg hq hp4
      go_enter Tryz.func41, Tryz.ntmps41
      go_wp2_with fail
      rw [HW2.out]
      refine HDC.out.mono ?_
      rintro e w3 ⟨rfl, hb3⟩
      have d0 := below_cell hb3 c0
      have d1 := below_cell hb3 c1
      have t0 := below_cell hb3 s0
      have t1 := below_cell hb3 s1
      have HR3 := Lib.hid (HR2.out.below hb3)
      have HO3 := Lib.hid (HO2.out.below hb3)
      have HC3 := Lib.hid (HC2.out.below hb3)
      have HB3 := Lib.hid (HB.out.trans (hb3.mono HB.out.size))
      clear hb3 c0 c1 s0 s1
      go_wp2_with fail
      refine (dright_any _ _ rows owners r v _ HR3.out HO3.out hv).mono ?_
      rintro e w4 ⟨rfl, hb4⟩
      rw [HRS.out]
      have c0 := below_cell hb4 d0
      have c1 := below_cell hb4 d1
      have s0 := below_cell hb4 t0
      have s1 := below_cell hb4 t1
      have HR4 := Lib.hid (HR3.out.below hb4)
      have HO4 := Lib.hid (HO3.out.below hb4)
      have HC4 := Lib.hid (HC3.out.below hb4)
      have HB4 := Lib.hid (HB3.out.trans (hb4.mono HB3.out.size))
      clear hb4 d0 d1 t0 t1
      go_wp2_with fail
      refine (HPB.out _ HR4.out HO4.out HC4.out).mono ?_
      rintro e w5 ⟨rfl, hb5⟩
      have t1 := below_cell hb5 s1
      have HB5 := Lib.hid (HB4.out.trans (hb5.mono HB4.out.size))
      clear hb5 c0 c1 s0 s1
      go_wp2_with fail
      refine (HPW.out _).mono ?_
      rintro e w6 ⟨rfl, hb6⟩
      go_wp2_with fail
      go_ret2
      exact ⟨by rw [HV.out, HW.out]; rfl, HB5.out.trans (hb6.mono HB5.out.size)⟩
  · have HV : Hid (fitE rows owners cs r v = dchkE rows owners cs) := Lib.hid (by unfold fitE; rw [if_pos hp])
    have HW : Hid (fitB rows owners cs r v = false) := Lib.hid (by unfold fitB; rw [HV.out, if_neg hp])
    have h2 : (dchkE rows owners cs != 0) = true := bne_iff_ne.2 hp
    go_enter Tryz.func41, Tryz.ntmps41
    go_wp2_with fail
    rw [HW2.out]
    refine HDC.out.mono ?_
    rintro e w3 ⟨rfl, hb3⟩
    go_wp2_with fail
    go_ret2
    exact ⟨by rw [HV.out, HW.out]; rfl, HB.out.trans (hb3.mono HB.out.size)⟩

end Go.Proofs.YtggnipkfliompaaGreatDoor

namespace Go.Proofs.YtggnipkfliompaaGreatDoor
open Go.RowKit

end Go.Proofs.YtggnipkfliompaaGreatDoor

namespace Go.Proofs.YtggnipkfliompaaGreatDoor
open Go.RowKit FP

attribute [local go_sem] Oper.semAt_some

end Go.Proofs.YtggnipkfliompaaGreatDoor

namespace Go.Proofs.YtggnipkfliompaaGreatDoor
open Go.RowKit FP

attribute [local go_sem] Oper.semAt_some

/-- Rows that lie in a row of the call's own. -/
theorem Rows2.own {w : World} {base n : Nat} {v : Value} {vals : List Value} {rows : List (List Int)} (h : w.ownsRow base 23 1 v n vals) (hl : vals.length = rows.length) (hm : rows.length ≤ 17592186044416) (hk : ∀ k (h1 : k < rows.length) (h2 : k < vals.length), Ints w vals[k] rows[k]) : Rows2 w v rows := by
  obtain ⟨hn, h⟩ := h
  rw [hl, Nat.mul_one] at hn
  rcases h with ⟨rfl, h0⟩ | ⟨g, cap, cur, rfl, -, hg, hnc, -, hcs, hcur⟩
  · have : rows = [] := List.length_eq_zero_iff.1 (by omega)
    subst this
    exact Rows2.nil _ _ _
  · subst hn
    refine ⟨some ⟨g, 0, none⟩, cap, rfl, hnc, hm, fun k hlt => ⟨g, 0, vals[k]'(by omega), rfl, ?_, hk k hlt (by omega)⟩⟩
    rw [Nat.zero_add]
    have e : cur.toList[k]? = some (vals[k]'(by omega)) := by
      have e2 : (cur.toList.take (rows.length * 1))[k]? = some (vals[k]'(by omega)) := by rw [hcur, List.getElem?_eq_getElem (by omega)]
      rwa [List.getElem?_take, if_pos (by omega)] at e2
    exact row_cell hg (by rw [← Array.getElem?_toList]; exact e)

end Go.Proofs.YtggnipkfliompaaGreatDoor

namespace Go.Proofs.YtggnipkfliompaaGreatDoor

abbrev FMat := Nat → Nat → Fq

/-- The product of two lists. -/
def dt (m : Nat) (u v : Nat → Fq) : Fq := sm m (fun j => u j * v j)
def Ker (n m : Nat) (X : FMat) (v : Nat → Fq) : Prop := ∀ i, i < n → dt m (X i) v = 0
def Span (n m : Nat) (X : FMat) (t : Nat → Fq) : Prop := ∃ y : Nat → Fq, ∀ j, j < m → t j = sm n (fun i => y i * X i j)
/-! One step of a reduction. -/

/-- The state of a reduction of X0 after the first c columns: the rows X, and the pivots' columns p below r. -/
structure Red (n m : Nat) (X0 X : FMat) (r : Nat) (p : Nat → Nat) (c : Nat) : Prop where
  rn : r ≤ n
  ker : ∀ v, Ker n m X v ↔ Ker n m X0 v
  span : ∀ i, i < n → Span n m X0 (X i)
  pc : ∀ k, k < r → p k < c
  mono : ∀ k l, k < l → l < r → p k < p l
  one : ∀ k, k < r → X k (p k) = 1
  zero : ∀ k i, k < r → i < n → i ≠ k → X i (p k) = 0
  low : ∀ i j, r ≤ i → i < n → j < c → X i j = 0
  left : ∀ k j, k < r → j < p k → X k j = 0

/-! What a reduction says. -/

end Go.Proofs.YtggnipkfliompaaGreatDoor

namespace Go.Proofs.YtggnipkfliompaaGreatDoor

/-- How many numbers below m meet a test. -/
def cntB (b : Nat → Bool) : Nat → Nat
  | 0 => 0
  | m + 1 => cntB b m + (if b m = true then 1 else 0)
theorem cntB_congr {b b' : Nat → Bool} {m : Nat} (h : ∀ c, c < m → b c = b' c) : cntB b m = cntB b' m := by
  induction m with
  | zero => rfl
  | succ m ih => rw [cntB, cntB, ih (fun c hc => h c (by omega)), h m (by omega)]
/-- A test that tells a property. -/
def Tells (b : Nat → Bool) (P : Nat → Prop) : Prop := ∀ c, b c = true ↔ P c
theorem Tells.congr {b b' : Nat → Bool} {P : Nat → Prop} {m : Nat} (h : Tells b P) {P' : Nat → Prop} (h' : Tells b' P') (e : ∀ c, c < m → (P c ↔ P' c)) : cntB b m = cntB b' m :=
  cntB_congr fun c hc => by
    rw [Bool.eq_iff_iff, h c, h' c]; exact e c hc

/-- A least number with a property. -/
theorem least {P : Nat → Prop} {c : Nat} (h : P c) : ∃ c0, P c0 ∧ ∀ k, k < c0 → ¬ P k := by
  induction c using Nat.strongRecOn with
  | _ c ih =>
    by_cases hk : ∃ k, k < c ∧ P k
    · obtain ⟨k, hk1, hk2⟩ := hk
      exact ih k hk1 hk2
    · exact ⟨c, h, fun k hk1 hk2 => hk ⟨k, hk1, hk2⟩⟩

end Go.Proofs.YtggnipkfliompaaGreatDoor

namespace Go.Proofs.YtggnipkfliompaaGreatDoor
open Go.RowKit

theorem owns_other {W W' : World} {B e z : Nat} {v : Value} {k : Nat} {xs : List Value} {r : Option Nat} (h : W.ownsRow B e z v k xs) (hg : W.grownBy W' r) (hr : ∀ g, v.ownBlock = some g → r ≠ some g) : W'.ownsRow B e z v k xs := by
  obtain ⟨h1, h2 | ⟨g, cap, cur, rfl, hB, hh, hrest⟩⟩ := h
  · exact ⟨h1, .inl h2⟩
  · exact ⟨h1, .inr ⟨g, cap, cur, rfl, hB, (hg.block g (Array.getElem?_eq_some_iff.1 hh).1 (fun e => hr g rfl e.symm)).trans hh, hrest⟩⟩

/-- Two rows of different types lie in different blocks. -/
theorem owns_types {W : World} {B B' e e' z z' : Nat} {v v' : Value} {k k' : Nat} {xs xs' : List Value} (h : W.ownsRow B e z v k xs) (h' : W.ownsRow B' e' z' v' k' xs') (hne : e ≠ e') : ∀ g, v.ownBlock = some g → v'.ownBlock ≠ some g := by
  obtain ⟨-, ⟨rfl, -⟩ | ⟨g, cap, cur, rfl, hB, hh, hrest⟩⟩ := h
  · intro g e1; cases e1
  · obtain ⟨-, ⟨rfl, -⟩ | ⟨g', cap', cur', rfl, hB', hh', hrest'⟩⟩ := h'
    · intro g e1 e2; cases e2
    · intro q e1 e2
      have e1' : some g = some q := e1
      have e2' : some g' = some q := e2
      injection e1' with e3
      injection e2' with e4
      subst e3; subst e4
      rw [hh] at hh'
      injection hh' with e5
      injection e5 with e6 e7
      exact hne e7

theorem owns_setCell_other {w : World} {base : Nat} {e : TypeId} {size : Nat} {v : Value} {n : Nat} {xs : List Value} (h : w.ownsRow base e size v n xs) {b o : Nat} (ha : ∀ g, v.ownBlock = some g → b ≠ g) (u : Value) : (w.setCell ⟨b, o, none⟩ u).ownsRow base e size v n xs := by
  obtain ⟨h1, h2 | ⟨g, cap, cur, rfl, hB, hh, hrest⟩⟩ := h
  · exact ⟨h1, .inl h2⟩
  · refine ⟨h1, .inr ⟨g, cap, cur, rfl, hB, ?_, hrest⟩⟩
    rw [Below.heap_setCell _ _ _ _ (fun e => ha g rfl e.symm)]; exact hh

/-- Rows of the call's own, and the slice of their headers. -/
structure TurnS (S k : Nat) (hs : Nat → Value) (ls : Nat → List Int) (ov : Value) (w W : World) : Prop where
  out : W.ownsRow S 23 1 ov k ((List.range k).map hs)
  row : ∀ i, i < k → W.ownsRow S 3 1 (hs i) (ls i).length ((ls i).map (Value.int .i64))
  sep : ∀ i j, i < k → j < k → i ≠ j → ∀ g, (hs i).ownBlock = some g → (hs j).ownBlock ≠ some g
  low : Below S w W
  top : S ≤ W.heap.size

theorem TurnS.below {S k : Nat} {hs : Nat → Value} {ls : Nat → List Int} {ov : Value} {w W W' : World} (h : TurnS S k hs ls ov w W) (hb : Below W.heap.size W W') : TurnS S k hs ls ov w W' :=
  ⟨owns_below h.out hb, fun i hi => owns_below (h.row i hi) hb, h.sep, h.low.trans (hb.mono h.top), Nat.le_trans h.top hb.size⟩

/-- Another row, made later. -/
theorem TurnS.more {S k H : Nat} {hs : Nat → Value} {ls : Nat → List Int} {ov ov' c : Value} {l : List Int} {w W W' : World} (h : TurnS S k hs ls ov w W) (hc : W.ownsRow H 3 1 c l.length (l.map (Value.int .i64))) (hH : ∀ i, i < k → ∀ g, (hs i).ownBlock = some g → g < H) (hSH : S ≤ H)
    (ho : W'.ownsRow S 23 1 ov' (k + 1) ((List.range k).map hs ++ [c])) (hg : W.grownBy W' ov.ownBlock) : TurnS S (k + 1) (fun i => if i = k then c else hs i) (fun i => if i = k then l else ls i) ov' w W' := by
  have ne : ∀ {v : Value} {B n : Nat} {xs : List Value}, W.ownsRow B 3 1 v n xs → ∀ g, v.ownBlock = some g → ov.ownBlock ≠ some g := fun hv g e => owns_types hv h.out (by decide) g e
  refine ⟨?_, fun i hi => ?_, fun i j hi hj hne g e1 e2 => ?_, h.low.grown hg h.top (fun g e => (h.out.lt g e).1), Nat.le_trans h.top hg.size⟩
  · rw [List.range_succ, List.map_append, List.map_cons, List.map_nil]
    have e : (List.range k).map (fun i => if i = k then c else hs i) = (List.range k).map hs := List.map_congr_left fun i hi => by
      rw [if_neg]; have := List.mem_range.1 hi; omega
    rw [e, if_pos rfl]; exact ho
  · show W'.ownsRow S 3 1 (if i = k then c else hs i) (if i = k then l else ls i).length ((if i = k then l else ls i).map (Value.int .i64))
    by_cases e : i = k
    · rw [if_pos e, if_pos e]; exact owns_mono (owns_other hc hg (ne hc)) hSH
    · rw [if_neg e, if_neg e]; exact owns_other (h.row i (by omega)) hg (ne (h.row i (by omega)))
  · have e1' : (if i = k then c else hs i).ownBlock = some g := e1
    have e2' : (if j = k then c else hs j).ownBlock = some g := e2
    by_cases ei : i = k
    · rw [if_pos ei] at e1'
      rw [if_neg (by omega)] at e2'
      have := hH j (by omega) g e2'
      have := (hc.lt g e1').1
      omega
    · rw [if_neg ei] at e1'
      by_cases ej : j = k
      · rw [if_pos ej] at e2'
        have := hH i (by omega) g e1'
        have := (hc.lt g e2').1
        omega
      · rw [if_neg ej] at e2'
        exact h.sep i j (by omega) (by omega) hne g e1' e2'

end Go.Proofs.YtggnipkfliompaaGreatDoor

namespace Go.Proofs.YtggnipkfliompaaGreatDoor
open Go.RowKit

end Go.Proofs.YtggnipkfliompaaGreatDoor

namespace Go.Proofs.YtggnipkfliompaaGreatDoor
open Go.RowKit

/-- The pivots go up. -/
def Sorted (l : List Nat) : Prop := ∀ i j (hi : i < l.length) (hj : j < l.length), i < j → l[i] < l[j]
/-- The next pivot tells whether a column is one. -/
structure Next (piv : List Nat) (c k : Nat) : Prop where
  le : k ≤ piv.length
  lo : ∀ i (h : i < piv.length), i < k → piv[i] < c
  up : ∀ i (h : i < piv.length), k ≤ i → c ≤ piv[i]
theorem Next.zero (piv : List Nat) : Next piv 0 0 := ⟨Nat.zero_le _, fun _ _ h => absurd h (Nat.not_lt_zero _), fun _ _ _ => Nat.zero_le _⟩
theorem Next.no {piv : List Nat} {c k : Nat} (h : Next piv c k) (hs : Sorted piv) (e : ∀ hk : k < piv.length, piv[k] ≠ c) : Next piv (c + 1) k ∧ c ∉ piv := by
  have key : ∀ i (hi : i < piv.length), k ≤ i → c < piv[i] := fun i hi hik => by
    by_cases e1 : i = k
    · subst e1; have := h.up i hi hik; have := e hi; omega
    · have := h.up k (by omega) (Nat.le_refl _); have := hs k i (by omega) hi (by omega); omega
  refine ⟨⟨h.le, fun i hi hik => by have := h.lo i hi hik; omega, fun i hi hik => by have := key i hi hik; omega⟩, fun hm => ?_⟩
  obtain ⟨i, hi, rfl⟩ := List.mem_iff_getElem.1 hm
  by_cases hik : i < k
  · have := h.lo i hi hik; omega
  · have := key i hi (by omega); omega

end Go.Proofs.YtggnipkfliompaaGreatDoor

namespace Go.Proofs.YtggnipkfliompaaGreatDoor

def pf (l : List Nat) : Nat → Nat := fun k => l[k]?.getD 0

theorem Red.congr {n m : Nat} {X0 X Y : FMat} {r : Nat} {p q : Nat → Nat} {c : Nat} (h : Red n m X0 X r p c) (e : ∀ i, i < n → ∀ j, X i j = Y i j) (eq : ∀ k, k < r → p k = q k) : Red n m X0 Y r q c := by
  have er : ∀ i, i < n → X i = Y i := fun i hi => funext (e i hi)
  refine ⟨h.rn, fun v => Iff.trans ?_ (h.ker v), fun i hi => er i hi ▸ h.span i hi, fun k hk => eq k hk ▸ h.pc k hk, fun k l h1 h2 => eq k (by omega) ▸ eq l h2 ▸ h.mono k l h1 h2, fun k hk => ?_, fun k i hk hi hne => ?_, fun i j h1 h2 h3 => ?_, fun k j hk hj => ?_⟩
  · exact ⟨fun hv i hi => by rw [er i hi]; exact hv i hi, fun hv i hi => by rw [← er i hi]; exact hv i hi⟩
  · rw [← eq k hk, ← e k (Nat.lt_of_lt_of_le hk h.rn)]; exact h.one k hk
  · rw [← eq k hk, ← e i hi]; exact h.zero k i hk hi hne
  · rw [← e i h2]; exact h.low i j h1 h2 h3
  · rw [← e k (Nat.lt_of_lt_of_le hk h.rn)]; exact h.left k j hk (by rw [eq k hk]; exact hj)

/-! The program's reduction computes the same. -/
end Go.Proofs.YtggnipkfliompaaGreatDoor

namespace Go.Proofs.YtggnipkfliompaaGreatDoor
open Go.RowKit

/-- Rows of the call's own behind headers in a block. -/
structure RowsO (S g0 m : Nat) (hs : Nat → Value) (ls : Nat → List Int) (w W : World) : Prop where
  hdr : ∀ i, i < m → W.cell? ⟨g0, i, none⟩ = some (hs i) ∧ W.frozen? ⟨g0, i, none⟩ = false
  blk : S ≤ g0 ∧ g0 < W.heap.size
  row : ∀ i, i < m → W.ownsRow S 3 1 (hs i) (ls i).length ((ls i).map (Value.int .i64))
  sep : ∀ i j, i < m → j < m → i ≠ j → ∀ g, (hs i).ownBlock = some g → (hs j).ownBlock ≠ some g
  apart : ∀ i, i < m → ∀ g, (hs i).ownBlock = some g → g ≠ g0
  low : Below S w W

theorem TurnS.rows {S m : Nat} {hs : Nat → Value} {ls : Nat → List Int} {ov : Value} {w W : World} (h : TurnS S m hs ls ov w W) (hm : 0 < m) : ∃ g0 c, ov = .slice (some ⟨g0, 0, none⟩) m c ∧ m ≤ c ∧ RowsO S g0 m hs ls w W := by
  have h0 := h.out
  obtain ⟨hl, ⟨-, e⟩ | ⟨g, cap, cur, rfl, hB, hh, hcc, hrest⟩⟩ := h.out
  · omega
  · refine ⟨g, cap, rfl, hcc, fun i hi => ⟨?_, h0.frozenAt i⟩, ⟨hB, (Array.getElem?_eq_some_iff.1 hh).1⟩, h.row, h.sep, fun i hi g' e1 e2 => ?_, h.low⟩
    · rw [h0.cellAt i (by omega)]; simp [hi]
    · subst e2; exact owns_types (h.row i hi) h0 (by decide) _ e1 rfl

/-- A row grows, and its header is stored. -/
theorem RowsO.step {S g0 m q : Nat} {hs : Nat → Value} {ls : Nat → List Int} {w W W' : World} (h : RowsO S g0 m hs ls w W) (hq : q < m) {g n cap : Nat} {l : List Int}
    (ho : W'.ownsRow S 3 1 (.slice (some ⟨g, 0, none⟩) n cap) l.length (l.map (Value.int .i64))) (hg : W.grownBy W' (hs q).ownBlock) (hgb : (hs q).ownBlock = some g ∨ W.heap.size ≤ g) :
    RowsO S g0 m (fun i => if i = q then .slice (some ⟨g, 0, none⟩) n cap else hs i) (fun i => if i = q then l else ls i) w (W'.setCell ⟨g0, q, none⟩ (.slice (some ⟨g, 0, none⟩) n cap)) := by
  have hne : some g0 ≠ (hs q).ownBlock := fun e => h.apart q hq g0 e.symm rfl
  have hc : ∀ i, i < m → W'.cell? ⟨g0, i, none⟩ = some (hs i) := fun i hi => by
    rw [World.cell?_of_block (w := W) (w' := W') (a := ⟨g0, i, none⟩) (hg.block g0 h.blk.2 hne)]; exact (h.hdr i hi).1
  have hf : ∀ i, i < m → W'.frozen? ⟨g0, i, none⟩ = false := fun i hi => by
    rw [World.frozen?_of_block (w := W) (w' := W') (a := ⟨g0, i, none⟩) (hg.block g0 h.blk.2 hne)]; exact (h.hdr i hi).2
  have hg0 : g ≠ g0 := by
    rcases hgb with e | e
    · exact h.apart q hq g e
    · have := h.blk.2; omega
  have hother : ∀ i, i < m → i ≠ q → ∀ g', (hs i).ownBlock = some g' → g' ≠ g := fun i hi e g' e1 e2 => by
    subst e2
    rcases hgb with e3 | e3
    · exact h.sep i q hi hq e _ e1 e3
    · have := ((h.row i hi).lt g' e1).2; omega
  refine ⟨fun i hi => ?_, ⟨h.blk.1, ?_⟩, fun i hi => ?_, fun i j hi hj hij g' e1 e2 => ?_, fun i hi g' e1 => ?_, ?_⟩
  · refine ⟨?_, by rw [World.frozen?_setCell]; exact hf i hi⟩
    show _ = some (if i = q then Value.slice (some ⟨g, 0, none⟩) n cap else hs i)
    by_cases e : i = q
    · subst e; rw [if_pos rfl]; exact World.cell?_setCell_same' _ _ _ (by rw [hc i hi]; rfl)
    · rw [if_neg e, set_other (.inr (fun e' => e e'.symm))]; exact hc i hi
  · have := h.blk.2; have := hg.size; simp [World.setCell]; omega
  · show (W'.setCell _ _).ownsRow S 3 1 (if i = q then Value.slice (some ⟨g, 0, none⟩) n cap else hs i) (if i = q then l else ls i).length ((if i = q then l else ls i).map (Value.int .i64))
    by_cases e : i = q
    · rw [if_pos e, if_pos e]
      refine owns_setCell_other ho (fun g' e1 => ?_) _
      have e1' : some g = some g' := e1
      injection e1' with e2
      omega
    · rw [if_neg e, if_neg e]
      refine owns_setCell_other (owns_other (h.row i hi) hg (fun g' e1 e2 => h.sep i q hi hq e g' e1 e2)) (fun g' e1 e2 => h.apart i hi g' e1 e2.symm) _
  · have e1' : (if i = q then Value.slice (some ⟨g, 0, none⟩) n cap else hs i).ownBlock = some g' := e1
    have e2' : (if j = q then Value.slice (some ⟨g, 0, none⟩) n cap else hs j).ownBlock = some g' := e2
    by_cases ei : i = q
    · rw [if_pos ei] at e1'
      rw [if_neg (by omega)] at e2'
      have e3 : some g = some g' := e1'
      injection e3 with e4
      exact hother j hj (by omega) g' e2' e4.symm
    · rw [if_neg ei] at e1'
      by_cases ej : j = q
      · rw [if_pos ej] at e2'
        have e3 : some g = some g' := e2'
        injection e3 with e4
        exact hother i hi ei g' e1' e4.symm
      · rw [if_neg ej] at e2'
        exact h.sep i j hi hj hij g' e1' e2'
  · have e1' : (if i = q then Value.slice (some ⟨g, 0, none⟩) n cap else hs i).ownBlock = some g' := e1
    by_cases ei : i = q
    · rw [if_pos ei] at e1'
      have e3 : some g = some g' := e1'
      injection e3 with e4
      omega
    · rw [if_neg ei] at e1'
      exact h.apart i hi g' e1'
  · exact (h.low.grown hg (Nat.le_trans h.blk.1 (Nat.le_of_lt h.blk.2)) (fun g' e => ((h.row q hq).lt g' e).1)).setCell h.blk.1 _

theorem RowsO.below {S g0 m : Nat} {hs : Nat → Value} {ls : Nat → List Int} {w W W' : World} (h : RowsO S g0 m hs ls w W) (hb : Below W.heap.size W W') : RowsO S g0 m hs ls w W' :=
  ⟨fun i hi => ⟨below_cell hb (h.hdr i hi).1, by rw [hb.frozen (p := ⟨g0, i, none⟩) h.blk.2]; exact (h.hdr i hi).2⟩, ⟨h.blk.1, Nat.lt_of_lt_of_le h.blk.2 hb.size⟩, fun i hi => owns_below (h.row i hi) hb, h.sep, h.apart, h.low.trans (hb.mono (Nat.le_trans h.blk.1 (Nat.le_of_lt h.blk.2)))⟩

end Go.Proofs.YtggnipkfliompaaGreatDoor

namespace Go.Proofs.YtggnipkfliompaaGreatDoor
open Go.RowKit

end Go.Proofs.YtggnipkfliompaaGreatDoor

namespace Go.Proofs.YtggnipkfliompaaGreatDoor

/-! Separate. -/
/-- A list, in the field. -/
def cv (l : List Int) : Nat → Fq := fun j => cq (nth l j)

end Go.Proofs.YtggnipkfliompaaGreatDoor

namespace Go.Proofs.YtggnipkfliompaaGreatDoor

end Go.Proofs.YtggnipkfliompaaGreatDoor

namespace Go.Proofs.YtggnipkfliompaaGreatDoor

def pivMi (inv : Int → Int) (x : Mat) (n r c k : Nat) : Mat := clearA (scaleM (swapM x r k) r c (inv (x k c))) r c n
def stepMi (inv : Int → Int) (n : Nat) (s : Mat × List Nat) (c : Nat) : Mat × List Nat :=
  if findP s.1 n c s.2.length < n then (pivMi inv s.1 n s.2.length c (findP s.1 n c s.2.length), s.2 ++ [c]) else s
def redMi (inv : Int → Int) (n : Nat) (x : Mat) (many : Nat) : Mat × List Nat := (List.range many).foldl (stepMi inv n) (x, [])
theorem redMi_eq : redM = redMi invQ := rfl

/-- The power by squaring, with fuel. -/
def lpowE : Nat → Int → Nat → Int
  | 0, _, _ => 1
  | f + 1, a, n => if n = 0 then 1 else if n % 2 = 1 then lpowE f (a * a % 1073741789) (n / 2) * a % 1073741789 else lpowE f (a * a % 1073741789) (n / 2)
theorem powE_eq : ∀ (f : Nat) (a : Int) (n : Nat), n < 2 ^ f → lpowE f a n = a ^ n % 1073741789
  | 0, a, n, h => by
    obtain rfl : n = 0 := by simp at h; omega
    rw [Int.pow_zero]; rfl
  | f + 1, a, n, h => by
    unfold lpowE
    by_cases h0 : n = 0
    · subst h0; rw [if_pos rfl, Int.pow_zero]; rfl
    · rw [if_neg h0]
      have hlt : n / 2 < 2 ^ f := by rw [Nat.pow_succ] at h; omega
      have ih := powE_eq f (a * a % 1073741789) (n / 2) hlt
      rw [ih, powmod]
      by_cases h1 : n % 2 = 1
      · rw [if_pos h1, mulmod_l, pow_half a n, h1, Int.pow_succ, Int.pow_zero, Int.one_mul]
      · rw [if_neg h1, pow_half a n, show n % 2 = 0 by omega, Int.pow_zero, Int.mul_one]
def invE (n : Int) : Int := lpowE 30 n 1073741787
theorem invE_eq : invQ = invE := by
  funext n; unfold invQ powQ invE; rw [powE_eq 30 n 1073741787 (by decide)]
theorem redM_E : redM = redMi invE := by rw [redMi_eq, invE_eq]

theorem ex_comb1 : combOk [[1, 1], [0, 1]] [1, 0] = true ∧ combY [[1, 1], [0, 1]] [1, 0] = [1, 1073741788] := by
  unfold combOk combY combM; rw [redM_E]; decide +kernel
theorem ex_comb2 : combOk [[1, 1]] [1, 0] = false := by
  unfold combOk combM; rw [redM_E]; decide +kernel
theorem ex_comb3 : combOk [] [0, 0] = true ∧ combY [] [0, 0] = [] := by
  unfold combOk combY combM; rw [redM_E]; decide +kernel
end Go.Proofs.YtggnipkfliompaaGreatDoor

namespace Go.Proofs.YtggnipkfliompaaGreatDoor
open Go.RowKit

end Go.Proofs.YtggnipkfliompaaGreatDoor

namespace Go.Proofs.YtggnipkfliompaaGreatDoor
open Go.RowKit

end Go.Proofs.YtggnipkfliompaaGreatDoor
