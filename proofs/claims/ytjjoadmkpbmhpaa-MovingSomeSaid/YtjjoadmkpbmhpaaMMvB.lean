/- Package moving: columns, committed, check. Package moving: Deal, fits, Fits. -/
import Derived.Test.YtjjoadmkpbmhpaaMBase
import Derived.Test.YtjjoadmkpbmhpaaMRbP
import Derived.Test.YtjjoadmkpbmhpaaMReN
import Derived.Test.YtjjoadmkpbmhpaaMDeaH
namespace Go.Proofs.Ytjjoadmkpbmhpaa
open Go.RowKit FP

set_option maxRecDepth 100000 in
theorem mnotel_any (z : Int) (w : World) (hz : R64 z) : Calls Try.prog 69 #[.int .i64 z] w fun r w' => r = .returned (.bool (notEl z)) ∧ w = w' := by
  go_enter Try.func69, Try.ntmps69
  go_wp2_with fail
  with_reducible refine (valid_any z _ hz).mono ?_
  rintro r w1 ⟨rfl, rfl⟩
  go_wp2_with fail
  go_ret
  exact ⟨rfl, rfl⟩
set_option maxRecDepth 100000 in
theorem mnotel_goes : Goes Try.prog 69 := goes_of Try.func69 (by kernel_rfl) rfl
set_option maxRecDepth 100000 in
theorem mnotel_tests (w : World) (zs : List Int) (hr : ∀ z ∈ zs, R64 z) : Tests 69 #[] w notEl zs := fun z hz w' _ =>
  (mnotel_any z w' (hr z hz)).mono fun _ _ ⟨h, e⟩ => ⟨h, e ▸ Below.refl _ _⟩

set_option maxRecDepth 100000 in
set_option maxHeartbeats 2000000 in
theorem mcolumns_any (rv ov : Value) (rows : List (List Int)) (w : World) (hR : Rows2 w rv rows) (ho : ∃ a n c, ov = .slice a n c) :
    Calls Try.prog 45 #[.agg #[rv, ov]] w fun e w' => e = .returned (.int .i64 (colsQ rows)) ∧ Below w.heap.size w w' := by
  obtain ⟨W1, hW1, hb1, hr1, hz⟩ := box_prog w rv ov 25
  obtain ⟨a1, k1, rfl, -, hl1, hk1⟩ := id hR
  obtain ⟨a2, n2, k2, rfl⟩ := ho
  have c0 : W1.cell? ⟨w.heap.size, 0, none⟩ = some (.slice a1 rows.length k1) := row_cell hr1 rfl
  have HW1 := Lib.hid hW1
  have HB := Lib.hid hb1
  by_cases h0 : rows.length = 0
  · have HQ : Hid (colsQ rows = 1) := Lib.hid (by unfold colsQ; rw [if_pos h0])
    have d0 : ((rows.length : Int) == 0) = true := by simp [h0]
    have d0' : (rows.length == 0) = true := by simp [h0]
    clear hk1 h0 hb1 hR hW1 hr1
    go_enter Try.func45, Try.ntmps45
    go_wp2_with (rw [← HW1.out])
    go_ret
    exact ⟨by rw [HQ.out]; rfl, HB.out⟩
  · have HQ : Hid (colsQ rows = wide rows) := Lib.hid (by unfold colsQ; rw [if_neg h0])
    have d0 : ((rows.length : Int) == 0) = false := beq_eq_false_iff_ne.2 (by omega)
    have d0' : (rows.length == 0) = false := beq_eq_false_iff_ne.2 h0
    have i3 : (0 : Int) < (rows.length : Int) := by omega
    have i4 : 0 < rows.length := by omega
    obtain ⟨b, off, r, rfl, q1, hI⟩ := hk1 0 (by omega)
    rw [Nat.add_zero] at q1
    obtain ⟨ra, rc, rfl, -⟩ := id hI
    rw [wide_at rows (by omega)] at q1
    have y1 := below_cell hb1 q1
    clear hk1 hI h0 hb1 q1 hR hW1 hr1
    obtain ⟨m, hm⟩ : ∃ m, m = wide rows := ⟨_, rfl⟩
    rw [← hm] at HQ y1
    clear hm
    go_enter Try.func45, Try.ntmps45
    go_wp2_with (rw [← HW1.out])
    go_ret
    exact ⟨by rw [HQ.out]; rfl, HB.out⟩

set_option maxRecDepth 100000 in
set_option maxHeartbeats 2000000 in
theorem mcommitted_any (rv ov lv : Value) (rows : List (List Int)) (l : List Int) (w : World) (hR : Rows2 w rv rows) (ho : ∃ a n c, ov = .slice a n c) (hL : Ints w lv l) :
    Calls Try.prog 37 #[.agg #[rv, ov], lv] w fun e w' => e = .returned (.bool (comB rows l)) ∧ Below w.heap.size w w' := by
  obtain ⟨W1, hW1, hb1, hr1, hz⟩ := box_prog w rv ov 25
  have HR := Lib.hid (hR.below hb1)
  have HL := Lib.hid (hL.below hb1)
  obtain ⟨a1, k1, rfl, -, hl1, hk1⟩ := id hR
  obtain ⟨a2, n2, k2, rfl⟩ := ho
  obtain ⟨a4, k4, rfl, -, hl4, hcr, -⟩ := id hL
  have c0 : W1.cell? ⟨w.heap.size, 0, none⟩ = some (.slice a1 rows.length k1) := row_cell hr1 rfl
  have c1 : W1.cell? ⟨w.heap.size, 1, none⟩ = some (.slice a2 n2 k2) := row_cell hr1 rfl
  have HW1 := Lib.hid hW1
  have HB := Lib.hid hb1
  have HCF := Lib.hid (fun ww h => containsFunc_any 69 #[] notEl (.slice a4 l.length k4) l ww h mnotel_goes (mnotel_tests _ _ hcr))
  have HMC := Lib.hid (mcolumns_any (.slice a1 rows.length k1) (.slice a2 n2 k2) rows W1 HR.out ⟨_, _, _, rfl⟩)
  have hmf : ∀ (fn : Fn) (first cap : Array Value) (w : World), (Instr.makeFunc fn first cap).run Try.prog w = .ok (.func fn first cap) w := fun _ _ _ _ => rfl
  clear hR hL hr1 hW1 hcr hk1 hb1
  obtain ⟨m, hm⟩ : ∃ m, m = colsQ rows := ⟨_, rfl⟩
  rw [← hm] at HMC
  have HM := Lib.hid hm
  clear hm
  go_enter Try.func37, Try.ntmps37
  go_wp2_with (rw [← HW1.out])
  with_reducible refine HMC.out.mono ?_
  rintro e w2 ⟨rfl, hb2⟩
  by_cases hl : l.length = m
  · have HV := Lib.hid (comB_any (rows := rows) (l := l) (by rw [← HM.out, hl]))
    have d1 : ((l.length : Int) == (m : Int)) = true := by rw [hl]; simp
    have HL2 := Lib.hid (HL.out.below hb2)
    have HB2 := Lib.hid (HB.out.trans (hb2.mono HB.out.size))
    clear hl hb2
    go_wp2_with fail
    refine (HCF.out _ HL2.out).mono ?_
    rintro e w3 ⟨rfl, hb3⟩
    go_wp2_with fail
    go_ret
    exact ⟨ret_bool (by rw [HV.out]), HB2.out.trans (hb3.mono HB2.out.size)⟩
  · have HV := Lib.hid (comB_len (rows := rows) (l := l) (by rw [← HM.out]; exact hl))
    have d1 : ((l.length : Int) == (m : Int)) = false := beq_eq_false_iff_ne.2 (by omega)
    have HB2 := Lib.hid (HB.out.trans (hb2.mono HB.out.size))
    clear hl hb2
    go_wp2_with fail
    go_ret
    exact ⟨ret_bool HV.out.symm, HB2.out⟩

/-- The error of a key and a program. -/
def chkE (rows : List (List Int)) (owners : List Int) (ep : Int) (cs : List Int) (rows2 : List (List Int)) (owners2 : List Int) : Int :=
  if progE rows owners ≠ 0 then progE rows owners else if keyB rows ep cs = false then 380 else progE rows2 owners2
/-- How a call ends that stops with an error that is not 0. -/
def raised39 (c : Int) : Ending := if c = 0 then .returned (.tuple #[]) else .panicked (stopped c)
theorem raised39_zero {c : Int} (h : c = 0) : raised39 c = .returned (.tuple #[]) := by rw [raised39, if_pos h]
theorem raised39_not {c : Int} (h : c ≠ 0) : raised39 c = .panicked (stopped c) := by rw [raised39, if_neg h]
set_option maxRecDepth 100000 in
set_option maxHeartbeats 8000000 in
theorem mcheck_any (ep : Int) (rv ov cv rv2 ov2 : Value) (rows : List (List Int)) (owners cs : List Int) (rows2 : List (List Int)) (owners2 : List Int) (w : World) (hR : Rows2 w rv rows) (hO : Ints w ov owners) (hC : Ints w cv cs) (hR2 : Rows2 w rv2 rows2) (hO2 : Ints w ov2 owners2) :
    Calls Try.prog 35 #[.agg #[.int .i64 ep, rv, ov, cv], .agg #[rv2, ov2]] w fun e w' => e = raised39 (chkE rows owners ep cs rows2 owners2) ∧ Below w.heap.size w w' := by
  obtain ⟨W0, hW0, hb0, hr0, hs0⟩ := box_key w (.int .i64 ep) rv ov cv 30
  obtain ⟨W1, hW1, hb1, hr1, hz⟩ := box_prog W0 rv2 ov2 25
  have hb : Below w.heap.size w W1 := hb0.trans (hb1.mono hb0.size)
  have HR := Lib.hid (hR.below hb)
  have HO := Lib.hid (hO.below hb)
  have HC := Lib.hid (hC.below hb)
  have HR2 := Lib.hid (hR2.below hb)
  have HO2 := Lib.hid (hO2.below hb)
  obtain ⟨a1, k1, rfl, -, hl1, -⟩ := id hR
  obtain ⟨a2, k2, rfl, -, hl2, -⟩ := id hO
  obtain ⟨a3, k3, rfl, -, hl3, -⟩ := id hC
  obtain ⟨a4, k4, rfl, -, hl4, -⟩ := id hR2
  obtain ⟨a5, k5, rfl, -, hl5, -⟩ := id hO2
  have Q1 := Lib.hid ((hb1.block _ (row_lt hr0)).trans hr0)
  rw [hs0] at hr1
  have Q2 := Lib.hid hr1
  rw [hW0] at hW1
  have HW1 := Lib.hid hW1
  have HB := Lib.hid hb
  clear hR hO hC hR2 hO2 hb hb0 hb1 hr0 hr1 hW0 hW1 hs0 hz
  have c1 := row_cell Q1.out (k := 1) rfl
  have c2 := row_cell Q1.out (k := 2) rfl
  go_enter Try.func35, Try.ntmps35
  go_wp2_with (rw [← HW1.out])
  clear c1 c2
  with_reducible refine (pCheck_any _ _ rows owners _ HR.out HO.out).mono ?_
  rintro e w2 ⟨rfl, hb2⟩
  replace HR := Lib.hid (HR.out.below hb2)
  replace HO := Lib.hid (HO.out.below hb2)
  replace HC := Lib.hid (HC.out.below hb2)
  replace HR2 := Lib.hid (HR2.out.below hb2)
  replace HO2 := Lib.hid (HO2.out.below hb2)
  replace Q1 := Lib.hid ((hb2.block _ (row_lt Q1.out)).trans Q1.out)
  replace Q2 := Lib.hid ((hb2.block _ (row_lt Q2.out)).trans Q2.out)
  replace HB := Lib.hid (HB.out.trans (hb2.mono HB.out.size))
  clear hb2
  by_cases hp : progE rows owners = 0
  rotate_left
  · have HV : Hid (chkE rows owners ep cs rows2 owners2 = progE rows owners) := Lib.hid (by unfold chkE; rw [if_pos hp])
    have d0 : (progE rows owners == 0) = false := beq_eq_false_iff_ne.2 hp
    have HP := Lib.hid hp
    clear hp
    generalize progE rows owners = q at *
    go_wp2_with fail
    with_reducible refine (must_bad q _).mono ?_
    rintro e w3 ⟨rfl, rfl⟩
    go_wp2_with fail
    exact ⟨rfl, by rw [HV.out, raised39_not HP.out], HB.out⟩
  have HE : Hid (chkE rows owners ep cs rows2 owners2 = if keyB rows ep cs = false then 380 else progE rows2 owners2) := Lib.hid (by unfold chkE; rw [if_neg (by simp [hp])])
  rw [hp]
  clear hp
  have c0 := row_cell Q1.out (k := 0) (v := .int .i64 ep) rfl
  have c1 := row_cell Q1.out (k := 1) (v := .slice a1 rows.length k1) rfl
  have c2 := row_cell Q1.out (k := 2) (v := .slice a2 owners.length k2) rfl
  have c3 := row_cell Q1.out (k := 3) (v := .slice a3 cs.length k3) rfl
  go_wp2_with fail
  with_reducible refine (must_ok 0 _).mono ?_
  rintro e w3 ⟨rfl, rfl⟩
  by_cases h0 : 0 ≤ ep ∧ ep ≤ 64
  rotate_left
  · have HV : Hid (chkE rows owners ep cs rows2 owners2 = 380) := Lib.hid (HE.out.trans (if_pos (by unfold keyB; by_cases h1 : 0 ≤ ep; rw [decide_eq_false (show ¬ ep ≤ 64 by omega)]; simp; rw [decide_eq_false h1]; rfl)))
    by_cases h1 : 0 ≤ ep
    · have d1 : decide (0 ≤ ep) = true := decide_eq_true h1
      have d2 : decide (ep ≤ 64) = false := decide_eq_false (by omega)
      clear h0 h1
      go_wp2_with fail
      with_reducible refine (must_bad 380 _).mono ?_
      rintro e w3 ⟨rfl, rfl⟩
      go_wp2_with fail
      exact ⟨rfl, by rw [HV.out, raised39_not (by decide)], HB.out⟩
    · have d1 : decide (0 ≤ ep) = false := decide_eq_false h1
      clear h0 h1
      go_wp2_with fail
      with_reducible refine (must_bad 380 _).mono ?_
      rintro e w3 ⟨rfl, rfl⟩
      go_wp2_with fail
      exact ⟨rfl, by rw [HV.out, raised39_not (by decide)], HB.out⟩
  have d1 : decide (0 ≤ ep) = true := decide_eq_true h0.1
  have d2 : decide (ep ≤ 64) = true := decide_eq_true h0.2
  have HKC : Hid (keyB rows ep cs = comB rows cs) := Lib.hid (by unfold keyB; rw [d1, d2]; rfl)
  rw [HKC.out] at HE
  clear h0
  go_wp2_with fail
  with_reducible refine (mcommitted_any _ _ _ rows cs _ HR.out ⟨_, _, _, rfl⟩ HC.out).mono ?_
  rintro e w4 ⟨rfl, hb4⟩
  replace c0 := below_cell hb4 c0
  replace c1 := below_cell hb4 c1
  replace c2 := below_cell hb4 c2
  replace c3 := below_cell hb4 c3
  replace HR := Lib.hid (HR.out.below hb4)
  replace HO := Lib.hid (HO.out.below hb4)
  replace HC := Lib.hid (HC.out.below hb4)
  replace HR2 := Lib.hid (HR2.out.below hb4)
  replace HO2 := Lib.hid (HO2.out.below hb4)
  replace Q1 := Lib.hid ((hb4.block _ (row_lt Q1.out)).trans Q1.out)
  replace Q2 := Lib.hid ((hb4.block _ (row_lt Q2.out)).trans Q2.out)
  replace HB := Lib.hid (HB.out.trans (hb4.mono HB.out.size))
  clear hb4
  cases hcm : comB rows cs with
  | false =>
    have HV : Hid (chkE rows owners ep cs rows2 owners2 = 380) := Lib.hid (HE.out.trans (if_pos hcm))
    clear hcm
    go_wp2_with fail
    with_reducible refine (must_bad 380 _).mono ?_
    rintro e w5 ⟨rfl, rfl⟩
    go_wp2_with fail
    exact ⟨rfl, by rw [HV.out, raised39_not (by decide)], HB.out⟩
  | true =>
  replace HE := Lib.hid (HE.out.trans (if_neg (by rw [hcm]; decide)))
  clear hcm
  have e0 := row_cell Q2.out (k := 0) (v := .slice a4 rows2.length k4) rfl
  have e1 := row_cell Q2.out (k := 1) (v := .slice a5 owners2.length k5) rfl
  go_wp2_with fail
  with_reducible refine (must_ok 380 _).mono ?_
  rintro e w5 ⟨rfl, rfl⟩
  go_wp2_with fail
  clear e0 e1
  with_reducible refine (pCheck_any _ _ rows2 owners2 _ HR2.out HO2.out).mono ?_
  rintro e w6 ⟨rfl, hb6⟩
  replace c0 := below_cell hb6 c0
  replace c1 := below_cell hb6 c1
  replace c2 := below_cell hb6 c2
  replace c3 := below_cell hb6 c3
  replace HR := Lib.hid (HR.out.below hb6)
  replace HO := Lib.hid (HO.out.below hb6)
  replace HC := Lib.hid (HC.out.below hb6)
  replace HR2 := Lib.hid (HR2.out.below hb6)
  replace HO2 := Lib.hid (HO2.out.below hb6)
  replace Q1 := Lib.hid ((hb6.block _ (row_lt Q1.out)).trans Q1.out)
  replace Q2 := Lib.hid ((hb6.block _ (row_lt Q2.out)).trans Q2.out)
  replace HB := Lib.hid (HB.out.trans (hb6.mono HB.out.size))
  clear hb6
  by_cases hp : progE rows2 owners2 = 0
  · rw [hp]
    have HV := Lib.hid (HE.out.trans hp)
    clear hp
    go_wp2_with fail
    with_reducible refine (must_ok 0 _).mono ?_
    rintro e w7 ⟨rfl, rfl⟩
    go_wp2_with fail
    go_end0
    exact ⟨by rw [HV.out, raised39_zero rfl], HB.out⟩
  · have HP := Lib.hid hp
    have d0 : (progE rows2 owners2 == 0) = false := beq_eq_false_iff_ne.2 hp
    clear hp
    generalize progE rows2 owners2 = q at *
    go_wp2_with fail
    with_reducible refine (must_bad q _).mono ?_
    rintro e w7 ⟨rfl, rfl⟩
    go_wp2_with fail
    exact ⟨rfl, by rw [HE.out, raised39_not HP.out], HB.out⟩

end Go.Proofs.Ytjjoadmkpbmhpaa

namespace Go.Proofs.Ytjjoadmkpbmhpaa
open Go.RowKit FP

/-- What is left when a stop is caught: the error lies in its box. -/
theorem stop_end {n0 E : Nat} {w W : World} {x : Value} {T : TypeId} (hb : Below n0 w W) (hE : n0 ≤ E) (q : W.heap[E]? = some (.cells #[x] T (0, 0))) (e : Int) :
    ∃ Wf, Wf = (W.alloc (.cells #[.int .i64 e] 100)).setCell ⟨E, 0, none⟩ (.int .i64 e) ∧ Below n0 w Wf ∧ Wf.cell? ⟨E, 0, none⟩ = some (.int .i64 e) := by
  have hb1 := below_new W #[.int .i64 e] 100
  have q1 := (hb1.block _ (row_lt q)).trans q
  exact ⟨_, rfl, (hb.trans (hb1.mono (Nat.le_trans hE (Nat.le_of_lt (row_lt q))))).setCell hE _, row_cell (row_set q1 0 _) rfl⟩
/-- A box with an error. -/
theorem box_err (w : World) (v : Value) (t : TypeId) : ∃ W, W = w.alloc (.cells #[v] t) ∧ Below w.heap.size w W ∧ W.heap[w.heap.size]? = some (.cells #[v] t (0, 0)) ∧ W.heap.size = w.heap.size + 1 :=
  ⟨_, rfl, below_new _ _ _, World.alloc_heap_new _ _, by simp⟩
/-- The error of dealing a share on. -/
def mdE (rows : List (List Int)) (owners : List Int) (ep : Int) (cs : List Int) (rows2 : List (List Int)) (owners2 : List Int) (r v : Int) (rnd : List Int) : Int :=
  if chkE rows owners ep cs rows2 owners2 ≠ 0 then chkE rows owners ep cs rows2 owners2 else if fitB rows owners cs r v = false then 340 else dealE rows2 owners2 v rnd
theorem RI.nil0 (W : World) : RI W (.slice none 0 0) [] := ⟨Ints.nil _ _ _, fun b e => by cases e⟩
theorem RS.nil0 (W : World) : RS W (.slice none 0 0) [] := ⟨Shares.nil _ _ _, fun b e => by cases e⟩
theorem RI.set1 {W : World} {v : Value} {zs : List Int} {B o : Nat} {cs : Array Value} {t : TypeId} {fz : Nat × Nat} (h : RI W v zs) (hS : W.heap[B]? = some (.cells cs t fz)) (hne : 3 ≠ t) (u : Value) : RI (W.setCell ⟨B, o, none⟩ u) v zs := by
  have hb : ∀ q, v.ownBlock = some q → q ≠ B := fun q h1 h2 => by
    subst h2
    obtain ⟨cs2, fz2, h3⟩ := h.2 q h1
    rw [hS] at h3
    injection h3 with h3
    injection h3 with _ h4 _
    exact hne h4.symm
  have ho : ∀ b', b' ≠ B → (W.setCell ⟨B, o, none⟩ u).heap[b']? = W.heap[b']? := fun b' hne => Below.heap_setCell _ _ _ _ hne
  refine ⟨?_, fun q h1 => by obtain ⟨cs2, fz2, h3⟩ := h.2 q h1; exact ⟨cs2, fz2, (ho _ (hb q h1)).trans h3⟩⟩
  obtain ⟨⟨a', cap, rfl, h2, h3, h4, h5⟩, -⟩ := h
  refine ⟨a', cap, rfl, h2, h3, h4, fun k hk => ?_⟩
  obtain ⟨b', off, rfl, h7⟩ := h5 k hk
  exact ⟨b', off, rfl, (World.cell?_of_block (a := ⟨b', off + k, none⟩) (ho b' (hb b' rfl))).trans h7⟩
theorem RS.set1 {W : World} {v : Value} {l : List (Int × Int)} {B o : Nat} {cs : Array Value} {t : TypeId} {fz : Nat × Nat} (h : RS W v l) (hS : W.heap[B]? = some (.cells cs t fz)) (hne : 35 ≠ t) (u : Value) : RS (W.setCell ⟨B, o, none⟩ u) v l := by
  have hb : ∀ q, v.ownBlock = some q → q ≠ B := fun q h1 h2 => by
    subst h2
    obtain ⟨cs2, fz2, h3⟩ := h.2 q h1
    rw [hS] at h3
    injection h3 with h3
    injection h3 with _ h4 _
    exact hne h4.symm
  have ho : ∀ b', b' ≠ B → (W.setCell ⟨B, o, none⟩ u).heap[b']? = W.heap[b']? := fun b' hne => Below.heap_setCell _ _ _ _ hne
  refine ⟨?_, fun q h1 => by obtain ⟨cs2, fz2, h3⟩ := h.2 q h1; exact ⟨cs2, fz2, (ho _ (hb q h1)).trans h3⟩⟩
  obtain ⟨⟨a', cap, rfl, h2, h3, h4, h5⟩, -⟩ := h
  refine ⟨a', cap, rfl, h2, h3, h4, fun k hk => ?_⟩
  obtain ⟨b', off, rfl, h7, h8⟩ := h5 k hk
  exact ⟨b', off, rfl, (World.cell?_of_block (a := ⟨b', off + k * 2, none⟩) (ho b' (hb b' rfl))).trans h7, (World.cell?_of_block (a := ⟨b', off + k * 2 + 1, none⟩) (ho b' (hb b' rfl))).trans h8⟩
set_option maxRecDepth 100000 in
theorem deal39_any (rv ov mv : Value) (rows : List (List Int)) (owners : List Int) (x : Int) (rnd : List Int) (w : World) (hR : Rows2 w rv rows) (hO : Ints w ov owners) (hM : Ints w mv rnd) (hx : R64 x) :
    Calls Try.prog 8 #[.agg #[rv, ov], .int .i64 x, mv] w fun r w' => ∃ lv cv, r = .returned (.tuple #[lv, cv, .int .i64 (dealE rows owners x rnd)]) ∧ RS w' lv (if dealE rows owners x rnd = 0 then dealL rows (x :: rnd) else []) ∧ RI w' cv (if dealE rows owners x rnd = 0 then dealC (x :: rnd) else []) ∧ (∀ b, cv.ownBlock = some b → w.heap.size ≤ b) ∧ Below w.heap.size w w' := by
  by_cases he : dealE rows owners x rnd = 0
  · have hp : progE rows owners = 0 := by
      unfold dealE at he
      by_cases hp : progE rows owners = 0
      · exact hp
      · rw [if_pos hp] at he; exact absurd he hp
    rw [if_pos he, if_pos he, he]
    exact deal_fresh rv ov mv rows owners x rnd w hR hO hM (dealE_ok he) hp
  · rw [if_neg he, if_neg he]
    exact (deal_no rv ov mv rows owners x rnd w hR hO hM hx he).mono fun r w' ⟨h1, h2⟩ => ⟨_, _, h1, RS.nil0 _, RI.nil0 _, (fun b e => by cases e), h2⟩
/-- How Deal ends. -/
def MdPost (rows2 : List (List Int)) (v : Int) (rnd : List Int) (ME : Int) (w : World) (e : Ending) (w' : World) : Prop :=
  ∃ lv kv, e = .returned (.tuple #[lv, kv, .int .i64 ME]) ∧ RS w' lv (if ME = 0 then dealL rows2 (v :: rnd) else []) ∧ RI w' kv (if ME = 0 then dealC (v :: rnd) else []) ∧ (∀ b, kv.ownBlock = some b → w.heap.size ≤ b) ∧ Below w.heap.size w w'
theorem md_off {rows2 : List (List Int)} {v : Int} {rnd : List Int} {ME q : Int} {w w' : World} (h : ME = q) (hq : q ≠ 0) (hb : Below w.heap.size w w') : MdPost rows2 v rnd ME w (.returned (.tuple #[.slice none 0 0, .slice none 0 0, .int .i64 q])) w' := by
  subst h
  refine ⟨_, _, rfl, ?_, ?_, (fun b e => by cases e), hb⟩
  · rw [if_neg hq]; exact RS.nil0 _
  · rw [if_neg hq]; exact RI.nil0 _
theorem fitB_err {rows : List (List Int)} {owners cs : List Int} {r v : Int} (h : fitE rows owners cs r v ≠ 0) : fitB rows owners cs r v = false := by
  unfold fitB; rw [if_neg h]

set_option maxRecDepth 100000 in
set_option maxHeartbeats 8000000 in
theorem mDeal_any (ep : Int) (rv ov cv rv2 ov2 mv : Value) (r v : Int) (rows : List (List Int)) (owners cs : List Int) (rows2 : List (List Int)) (owners2 rnd : List Int) (w : World) (hR : Rows2 w rv rows) (hO : Ints w ov owners) (hC : Ints w cv cs) (hR2 : Rows2 w rv2 rows2) (hO2 : Ints w ov2 owners2) (hM : Ints w mv rnd) (hr : R64 r) (hv : R64 v) :
    Calls Try.prog 16 #[.agg #[.int .i64 ep, rv, ov, cv], .agg #[rv2, ov2], .agg #[.int .i64 r, .int .i64 v], mv] w (MdPost rows2 v rnd (mdE rows owners ep cs rows2 owners2 r v rnd) w) := by
  obtain ⟨W0, hW0, hb0, hr0, hs0⟩ := box_key w (.int .i64 ep) rv ov cv 30
  obtain ⟨W1, hW1, hb1, hr1, hs1⟩ : ∃ W, W = W0.alloc (.cells #[rv2, ov2] 25) ∧ Below W0.heap.size W0 W ∧ W.heap[W0.heap.size]? = some (.cells #[rv2, ov2] 25 (0, 0)) ∧ W.heap.size = W0.heap.size + 1 := ⟨_, rfl, below_new _ _ _, World.alloc_heap_new _ _, by simp⟩
  obtain ⟨W2, hW2, hb2, hr2, hs2⟩ : ∃ W, W = W1.alloc (.cells #[.int .i64 r, .int .i64 v] 35) ∧ Below W1.heap.size W1 W ∧ W.heap[W1.heap.size]? = some (.cells #[.int .i64 r, .int .i64 v] 35 (0, 0)) ∧ W.heap.size = W1.heap.size + 1 := ⟨_, rfl, below_new _ _ _, World.alloc_heap_new _ _, by simp⟩
  obtain ⟨W3, hW3, hb3, hr3, hs3⟩ := box_err W2 (.int .i64 0) 36
  have h01 := hb0.trans (hb1.mono hb0.size)
  have h02 := h01.trans (hb2.mono h01.size)
  have hb : Below w.heap.size w W3 := h02.trans (hb3.mono h02.size)
  have HR := Lib.hid (hR.below hb)
  have HO := Lib.hid (hO.below hb)
  have HC := Lib.hid (hC.below hb)
  have HR2 := Lib.hid (hR2.below hb)
  have HO2 := Lib.hid (hO2.below hb)
  have HM := Lib.hid (hM.below hb)
  obtain ⟨a1, k1, rfl, -, hl1, -⟩ := id hR
  obtain ⟨a2, k2, rfl, -, hl2, -⟩ := id hO
  obtain ⟨a3, k3, rfl, -, hl3, -⟩ := id hC
  obtain ⟨a4, k4, rfl, -, hl4, -⟩ := id hR2
  obtain ⟨a5, k5, rfl, -, hl5, -⟩ := id hO2
  obtain ⟨a6, k6, rfl, -, hl6, -⟩ := id hM
  have e1 : W0.heap.size = w.heap.size + 1 := hs0
  have e2 : W1.heap.size = w.heap.size + 1 + 1 := by omega
  have e3 : W2.heap.size = w.heap.size + 1 + 1 + 1 := by omega
  rw [e1] at hr1
  rw [e2] at hr2
  rw [e3] at hr3
  have Q1 := Lib.hid (((hb1.trans (hb2.mono hb1.size)).trans (hb3.mono (hb1.trans (hb2.mono hb1.size)).size)).block _ (row_lt hr0) |>.trans hr0)
  have Q2 := Lib.hid ((hb2.trans (hb3.mono hb2.size)).block _ (row_lt hr1) |>.trans hr1)
  have Q3 := Lib.hid (hb3.block _ (row_lt hr2) |>.trans hr2)
  have QE := Lib.hid hr3
  rw [hW2, hW1, hW0] at hW3
  have HW := Lib.hid hW3
  have HB := Lib.hid hb
  have HRR := Lib.hid hr
  have HVV := Lib.hid hv
  clear hR hO hC hR2 hO2 hM hb hb0 hb1 hb2 hb3 h01 h02 hr0 hr1 hr2 hr3 hW0 hW1 hW2 hW3 hs0 hs1 hs2 hs3 e1 e2 e3 hr hv
  have HCK := Lib.hid (fun ww h1 h2 h3 h4 h5 => mcheck_any ep (.slice a1 rows.length k1) (.slice a2 owners.length k2) (.slice a3 cs.length k3) (.slice a4 rows2.length k4) (.slice a5 owners2.length k5) rows owners cs rows2 owners2 ww h1 h2 h3 h4 h5)
  have c0 := row_cell Q1.out (k := 0) (v := .int .i64 ep) rfl
  have c1 := row_cell Q1.out (k := 1) (v := .slice a1 rows.length k1) rfl
  have c2 := row_cell Q1.out (k := 2) (v := .slice a2 owners.length k2) rfl
  have c3 := row_cell Q1.out (k := 3) (v := .slice a3 cs.length k3) rfl
  have d0 := row_cell Q2.out (k := 0) (v := .slice a4 rows2.length k4) rfl
  have d1 := row_cell Q2.out (k := 1) (v := .slice a5 owners2.length k5) rfl
  have s0 := row_cell Q3.out (k := 0) (v := .int .i64 r) rfl
  have s1 := row_cell Q3.out (k := 1) (v := .int .i64 v) rfl
  obtain ⟨ME, hME⟩ : ∃ x, x = mdE rows owners ep cs rows2 owners2 r v rnd := ⟨_, rfl⟩
  rw [← hME]
  have HME := Lib.hid hME
  clear hME
  by_cases hck : chkE rows owners ep cs rows2 owners2 = 0
  rotate_left
  · have HV : Hid (ME = chkE rows owners ep cs rows2 owners2) := Lib.hid (by rw [HME.out]; unfold mdE; rw [if_pos hck])
    have HNZ := Lib.hid hck
    clear hck HME
    generalize chkE rows owners ep cs rows2 owners2 = q at *
    go_enter_defers Try.func16, Try.ntmps16
    go_wp2_with (rw [← HW.out])
    with_reducible refine (mono_ending (HCK.out _ HR.out HO.out HC.out HR2.out HO2.out) (raised39_not HNZ.out)).mono ?_
    rintro e w4 ⟨rfl, hb4⟩
    replace c0 := below_cell hb4 c0
    replace c1 := below_cell hb4 c1
    replace c2 := below_cell hb4 c2
    replace c3 := below_cell hb4 c3
    replace d0 := below_cell hb4 d0
    replace d1 := below_cell hb4 d1
    replace s0 := below_cell hb4 s0
    replace s1 := below_cell hb4 s1
    replace HR := Lib.hid (HR.out.below hb4)
    replace HO := Lib.hid (HO.out.below hb4)
    replace HC := Lib.hid (HC.out.below hb4)
    replace HR2 := Lib.hid (HR2.out.below hb4)
    replace HO2 := Lib.hid (HO2.out.below hb4)
    replace HM := Lib.hid (HM.out.below hb4)
    replace Q1 := Lib.hid ((hb4.block _ (row_lt Q1.out)).trans Q1.out)
    replace Q2 := Lib.hid ((hb4.block _ (row_lt Q2.out)).trans Q2.out)
    replace Q3 := Lib.hid ((hb4.block _ (row_lt Q3.out)).trans Q3.out)
    replace QE := Lib.hid ((hb4.block _ (row_lt QE.out)).trans QE.out)
    replace HB := Lib.hid (HB.out.trans (hb4.mono HB.out.size))
    clear hb4
    refine leaves_cons (f := 34) (args := #[.pointer (some ⟨w.heap.size + 1 + 1 + 1, 0, none⟩)]) (by simp) (by simp [go_sem]) ?_
    refine (caught39_panicking (w.heap.size + 1 + 1 + 1) 0 0 q [] _ (row_cell QE.out rfl) (row_free QE.out 0) (row_lt QE.out)).mono ?_
    rintro e u' w'' ⟨rfl, rfl, rfl⟩
    obtain ⟨Wf, hWf, hbf, hxf⟩ := stop_end HB.out (show w.heap.size ≤ w.heap.size + 1 + 1 + 1 by omega) QE.out q
    rw [← hWf]
    simp [Leaves, settle, results, Try.results16, go_sem, hxf]
    exact md_off HV.out HNZ.out hbf
  have HE : Hid (ME = if fitB rows owners cs r v = false then 340 else dealE rows2 owners2 v rnd) := Lib.hid (by rw [HME.out]; unfold mdE; rw [if_neg (by simp [hck])])
  have HCK0 := Lib.hid hck
  clear hck
  go_enter_defers Try.func16, Try.ntmps16
  go_wp2_with (rw [← HW.out])
  with_reducible refine (mono_ending (HCK.out _ HR.out HO.out HC.out HR2.out HO2.out) (raised39_zero HCK0.out)).mono ?_
  rintro e w4 ⟨rfl, hb4⟩
  replace c0 := below_cell hb4 c0
  replace c1 := below_cell hb4 c1
  replace c2 := below_cell hb4 c2
  replace c3 := below_cell hb4 c3
  replace d0 := below_cell hb4 d0
  replace d1 := below_cell hb4 d1
  replace s0 := below_cell hb4 s0
  replace s1 := below_cell hb4 s1
  replace HR := Lib.hid (HR.out.below hb4)
  replace HO := Lib.hid (HO.out.below hb4)
  replace HC := Lib.hid (HC.out.below hb4)
  replace HR2 := Lib.hid (HR2.out.below hb4)
  replace HO2 := Lib.hid (HO2.out.below hb4)
  replace HM := Lib.hid (HM.out.below hb4)
  replace Q1 := Lib.hid ((hb4.block _ (row_lt Q1.out)).trans Q1.out)
  replace Q2 := Lib.hid ((hb4.block _ (row_lt Q2.out)).trans Q2.out)
  replace Q3 := Lib.hid ((hb4.block _ (row_lt Q3.out)).trans Q3.out)
  replace QE := Lib.hid ((hb4.block _ (row_lt QE.out)).trans QE.out)
  replace HB := Lib.hid (HB.out.trans (hb4.mono HB.out.size))
  clear hb4
  go_wp2_with fail
  with_reducible refine (fits_any _ _ _ rows owners cs r v _ HR.out HO.out HC.out HRR.out HVV.out).mono ?_
  rintro e w5 ⟨rfl, hb5⟩
  replace c0 := below_cell hb5 c0
  replace c1 := below_cell hb5 c1
  replace c2 := below_cell hb5 c2
  replace c3 := below_cell hb5 c3
  replace d0 := below_cell hb5 d0
  replace d1 := below_cell hb5 d1
  replace s0 := below_cell hb5 s0
  replace s1 := below_cell hb5 s1
  replace HR := Lib.hid (HR.out.below hb5)
  replace HO := Lib.hid (HO.out.below hb5)
  replace HC := Lib.hid (HC.out.below hb5)
  replace HR2 := Lib.hid (HR2.out.below hb5)
  replace HO2 := Lib.hid (HO2.out.below hb5)
  replace HM := Lib.hid (HM.out.below hb5)
  replace Q1 := Lib.hid ((hb5.block _ (row_lt Q1.out)).trans Q1.out)
  replace Q2 := Lib.hid ((hb5.block _ (row_lt Q2.out)).trans Q2.out)
  replace Q3 := Lib.hid ((hb5.block _ (row_lt Q3.out)).trans Q3.out)
  replace QE := Lib.hid ((hb5.block _ (row_lt QE.out)).trans QE.out)
  replace HB := Lib.hid (HB.out.trans (hb5.mono HB.out.size))
  clear hb5
  cases hfb : fitB rows owners cs r v with
  | false =>
    have HV : Hid (ME = 340) := Lib.hid (HE.out.trans (if_pos hfb))
    clear hfb HE
    generalize hfe : fitE rows owners cs r v = q at *
    clear hfe
    have key : ∀ (x : Bool), x = (q == 0) → True := fun _ _ => trivial
    cases hq : (q == 0) with
    | false =>
      go_wp2_with fail
      with_reducible refine (must_bad 340 _).mono ?_
      rintro e w6 ⟨rfl, rfl⟩
      refine leaves_cons (f := 34) (args := #[.pointer (some ⟨w.heap.size + 1 + 1 + 1, 0, none⟩)]) (by simp) (by simp [go_sem]) ?_
      refine (caught39_panicking (w.heap.size + 1 + 1 + 1) 0 0 340 [] _ (row_cell QE.out rfl) (row_free QE.out 0) (row_lt QE.out)).mono ?_
      rintro e u' w'' ⟨rfl, rfl, rfl⟩
      obtain ⟨Wf, hWf, hbf, hxf⟩ := stop_end HB.out (show w.heap.size ≤ w.heap.size + 1 + 1 + 1 by omega) QE.out 340
      rw [← hWf]
      simp [Leaves, settle, results, Try.results16, go_sem, hxf]
      exact md_off HV.out (by decide) hbf
    | true =>
      go_wp2_with fail
      with_reducible refine (must_bad 340 _).mono ?_
      rintro e w6 ⟨rfl, rfl⟩
      refine leaves_cons (f := 34) (args := #[.pointer (some ⟨w.heap.size + 1 + 1 + 1, 0, none⟩)]) (by simp) (by simp [go_sem]) ?_
      refine (caught39_panicking (w.heap.size + 1 + 1 + 1) 0 0 340 [] _ (row_cell QE.out rfl) (row_free QE.out 0) (row_lt QE.out)).mono ?_
      rintro e u' w'' ⟨rfl, rfl, rfl⟩
      obtain ⟨Wf, hWf, hbf, hxf⟩ := stop_end HB.out (show w.heap.size ≤ w.heap.size + 1 + 1 + 1 by omega) QE.out 340
      rw [← hWf]
      simp [Leaves, settle, results, Try.results16, go_sem, hxf]
      exact md_off HV.out (by decide) hbf
  | true =>
    have hfe : fitE rows owners cs r v = 0 := by
      by_cases h : fitE rows owners cs r v = 0
      · exact h
      · rw [fitB_err h] at hfb; cases hfb
    rw [hfe]
    have HV : Hid (ME = dealE rows2 owners2 v rnd) := Lib.hid (HE.out.trans (if_neg (by rw [hfb]; decide)))
    clear hfe hfb HE
    go_wp2_with fail
    with_reducible refine (must_ok 340 _).mono ?_
    rintro e w6 ⟨rfl, rfl⟩
    have HDL := Lib.hid (fun ww h1 h2 h3 => deal39_any (.slice a4 rows2.length k4) (.slice a5 owners2.length k5) (.slice a6 rnd.length k6) rows2 owners2 v rnd ww h1 h2 h3 HVV.out)
    rw [← HV.out] at HDL
    go_wp2_with fail
    with_reducible refine (HDL.out _ HR2.out HO2.out HM.out).mono ?_
    rintro e w7 ⟨lv, kv, rfl, hsh, hcm, hfr, hb7⟩
    have HFR := Lib.hid (fun b h => Nat.le_trans HB.out.size (hfr b h))
    have HSH := Lib.hid hsh
    have HCM := Lib.hid hcm
    clear hsh hcm hfr
    replace c0 := below_cell hb7 c0
    replace c1 := below_cell hb7 c1
    replace c2 := below_cell hb7 c2
    replace c3 := below_cell hb7 c3
    replace d0 := below_cell hb7 d0
    replace d1 := below_cell hb7 d1
    replace s0 := below_cell hb7 s0
    replace s1 := below_cell hb7 s1
    replace HR := Lib.hid (HR.out.below hb7)
    replace HO := Lib.hid (HO.out.below hb7)
    replace HC := Lib.hid (HC.out.below hb7)
    replace HR2 := Lib.hid (HR2.out.below hb7)
    replace HO2 := Lib.hid (HO2.out.below hb7)
    replace HM := Lib.hid (HM.out.below hb7)
    replace Q1 := Lib.hid ((hb7.block _ (row_lt Q1.out)).trans Q1.out)
    replace Q2 := Lib.hid ((hb7.block _ (row_lt Q2.out)).trans Q2.out)
    replace Q3 := Lib.hid ((hb7.block _ (row_lt Q3.out)).trans Q3.out)
    replace QE := Lib.hid ((hb7.block _ (row_lt QE.out)).trans QE.out)
    replace HB := Lib.hid (HB.out.trans (hb7.mono HB.out.size))
    clear hb7
    have z0 := row_cell QE.out (k := 0) rfl
    have z1 := row_free QE.out 0
    go_wp2_with fail
    refine leaves_cons (f := 34) (args := #[.pointer (some ⟨w.heap.size + 1 + 1 + 1, 0, none⟩)]) (by simp) (by simp [go_sem]) ?_
    refine (caught39_idle _ _).mono ?_
    rintro e u' w'' ⟨rfl, rfl, rfl⟩
    have hxf := row_cell (row_set QE.out 0 (.int .i64 ME)) (k := 0) rfl
    simp [Leaves, settle, results, Try.results16, go_sem, hxf]
    exact ⟨_, _, rfl, HSH.out.set1 QE.out (by decide) _, HCM.out.set1 QE.out (by decide) _, HFR.out, HB.out.setCell (show w.heap.size ≤ w.heap.size + 1 + 1 + 1 by omega) _⟩

end Go.Proofs.Ytjjoadmkpbmhpaa
