/- Renewing shares, in plain Lean. Package renewal: keys, shares that fit, the same rows. -/
import Derived.Test.YtnbkbnbmmkfckaaGreatMRbO
import Derived.Test.YtnbkbnbmmkfckaaGreatMRdA
import Derived.Test.YtnbkbnbmmkfckaaGreatMSuA
import Derived.Test.YtnbkbnbmmkfckaaGreatMDeaH
import Derived.Test.YtnbkbnbmmkfckaaGreatMRbF
namespace Go.Proofs.YtnbkbnbmmkfckaaGreat
open Go.RowKit

/-! Keys and shares that fit. -/
def keyB (rows : List (List Int)) (ep : Int) (cs : List Int) : Bool := decide (0 ≤ ep) && (decide (ep ≤ 64) && comB rows cs)
def fitP (rows : List (List Int)) (cs : List Int) (p : Int × Int) : Bool := powE 4 p.2 == pubQ (rows.getD p.1.toNat []) cs
def fitL (rows : List (List Int)) (cs : List Int) (l : List (Int × Int)) : Bool := sharesB rows (-1) l && l.all (fitP rows cs)
/-- One share more, behind the last row. -/
def fitOne (rows : List (List Int)) (cs : List Int) (last : Int) (p : Int × Int) : Bool := rightS rows p.1 p.2 && (fitP rows cs p && decide (last < p.1))
theorem fitL_take {rows : List (List Int)} {cs : List Int} {l : List (Int × Int)} {k : Nat} (hk : k < l.length) (h : fitL rows cs (l.take k) = true) : fitL rows cs (l.take (k + 1)) = fitOne rows cs (lastR (-1) (l.take k)) l[k] := by
  unfold fitL at h ⊢
  rw [Bool.and_eq_true] at h
  rw [sharesB_take hk, h.1, Bool.true_and, List.take_succ_eq_append_getElem hk, List.all_append, h.2, Bool.true_and]
  unfold fitOne
  simp only [List.all_cons, List.all_nil, Bool.and_true]
  cases rightS rows l[k].1 l[k].2 <;> cases decide (lastR (-1) (l.take k) < l[k].1) <;> cases fitP rows cs l[k] <;> rfl
theorem fitL_front {rows : List (List Int)} {cs : List Int} {l : List (Int × Int)} (h : fitL rows cs l = true) (k : Nat) : fitL rows cs (l.take k) = true := by
  unfold fitL at h ⊢
  rw [Bool.and_eq_true] at h ⊢
  exact ⟨sharesB_front h.1 k, List.all_eq_true.2 fun x hx => List.all_eq_true.1 h.2 x (List.mem_of_mem_take hx)⟩
theorem fitL_bad {rows : List (List Int)} {cs : List Int} {l : List (Int × Int)} {k : Nat} (h : fitL rows cs (l.take k) = false) : fitL rows cs l = false := by
  cases e : fitL rows cs l with
  | false => rfl
  | true => rw [fitL_front e k] at h; cases h
theorem fitL_shares {rows : List (List Int)} {cs : List Int} {l : List (Int × Int)} (h : fitL rows cs l = true) : sharesB rows (-1) l = true := by
  unfold fitL at h; rw [Bool.and_eq_true] at h; exact h.1
theorem fitB_is {rows : List (List Int)} {owners cs : List Int} {r v : Int} (h : dchkE rows owners cs = 0) : fitE rows owners cs r v = (if rightS rows r v = true then 0 else 340) ∧ fitB rows owners cs r v = (rightS rows r v && fitP rows cs (r, v)) := by
  have hE : fitE rows owners cs r v = (if rightS rows r v = true then 0 else 340) := by unfold fitE; rw [if_neg (by simp [h])]
  refine ⟨hE, ?_⟩
  unfold fitB
  rw [hE]
  cases e : rightS rows r v with
  | true => rw [if_pos (by simp)]; rfl
  | false => rw [if_neg (by simp)]; rfl

/-! Renew. -/
def rowsS (l : List (Int × Int)) : List Int := l.map Prod.fst
def zeroB (rows : List (List Int)) (l : List (Int × Int)) (cs : List Int) (m : List (Int × Int)) : Bool := comB rows cs && (nth cs 0 == 1 && (decide (rowsS m = rowsS l) && fitL rows cs m))
def zeroN (rows : List (List Int)) (l : List (Int × Int)) (css : List (List Int)) (more : List (List (Int × Int))) (i : Nat) : Bool := zeroB rows l (css.getD i []) (more.getD i [])
def zerosB (rows : List (List Int)) (l : List (Int × Int)) (css : List (List Int)) (more : List (List (Int × Int))) (n : Nat) : Bool := (List.range n).all (zeroN rows l css more)
def mulL (a b : List Int) : List Int := (List.range a.length).map fun i => nth a i * nth b i % 2147483579
def addP (a b : List (Int × Int)) (i : Nat) : Int × Int := ((a.getD i (0, 0)).1, ((a.getD i (0, 0)).2 + (b.getD i (0, 0)).2) % 1073741789)
def addS (a b : List (Int × Int)) : List (Int × Int) := (List.range a.length).map (addP a b)
def renC (cs : List Int) (css : List (List Int)) : List Int := css.foldl mulL cs
def renL (l : List (Int × Int)) (more : List (List (Int × Int))) : List (Int × Int) := more.foldl addS l
def renE (rows : List (List Int)) (owners : List Int) (ep : Int) (cs : List Int) (l : List (Int × Int)) (css : List (List Int)) (more : List (List (Int × Int))) : Int :=
  if progE rows owners ≠ 0 then progE rows owners
  else if keyB rows ep cs = false then 380
  else if ep = 64 ∨ 64 < css.length then 2
  else if fitL rows cs l = false then 340
  else if more.length ≠ css.length then 1
  else if zerosB rows l css more css.length = true then 0 else 380
theorem mulL_len (a b : List Int) : (mulL a b).length = a.length := by simp [mulL]
theorem addS_len (a b : List (Int × Int)) : (addS a b).length = a.length := by simp [addS]
theorem renC_take (cs : List Int) (css : List (List Int)) {k : Nat} (h : k < css.length) : renC cs (css.take (k + 1)) = mulL (renC cs (css.take k)) css[k] := by
  unfold renC; rw [List.take_succ_eq_append_getElem h, List.foldl_append]; rfl
theorem renL_take (l : List (Int × Int)) (more : List (List (Int × Int))) {k : Nat} (h : k < more.length) : renL l (more.take (k + 1)) = addS (renL l (more.take k)) more[k] := by
  unfold renL; rw [List.take_succ_eq_append_getElem h, List.foldl_append]; rfl
theorem renL_len (l : List (Int × Int)) (more : List (List (Int × Int))) : (renL l more).length = l.length := by
  unfold renL
  induction more generalizing l with
  | nil => rfl
  | cons a t ih => rw [List.foldl_cons, ih, addS_len]
theorem mulL_el {a b : List Int} (ha : ∀ c ∈ a, El c) (hb : ∀ c ∈ b, El c) (hl : a.length ≤ b.length) : ∀ c ∈ mulL a b, El c := by
  intro c hc
  obtain ⟨i, hi, rfl⟩ := List.mem_map.1 hc
  have hi2 : i < a.length := by simpa using hi
  exact el_mul (ha _ (by rw [nth_at hi2]; exact List.getElem_mem _)) (hb _ (by rw [nth_at (show i < b.length by omega)]; exact List.getElem_mem _))
theorem comB_el {rows : List (List Int)} {cs : List Int} (h : comB rows cs = true) : (∀ c ∈ cs, El c) ∧ cs.length = colsQ rows := by
  unfold comB at h
  simp only [Bool.and_eq_true, decide_eq_true_eq, Bool.not_eq_true'] at h
  exact ⟨any_notel h.1, h.2⟩
theorem zerosB_at {rows : List (List Int)} {l : List (Int × Int)} {css : List (List Int)} {more : List (List (Int × Int))} {n : Nat} (h : zerosB rows l css more n = true) {i : Nat} (hi : i < n) : zeroN rows l css more i = true :=
  List.all_eq_true.1 h i (by simpa using hi)
theorem zerosB_snoc (rows : List (List Int)) (l : List (Int × Int)) (css : List (List Int)) (more : List (List (Int × Int))) (n : Nat) : zerosB rows l css more (n + 1) = (zerosB rows l css more n && zeroN rows l css more n) := by
  unfold zerosB; rw [List.range_succ, List.all_append]; simp
theorem zerosB_bad {rows : List (List Int)} {l : List (Int × Int)} {css : List (List Int)} {more : List (List (Int × Int))} {n i : Nat} (hi : i < n) (h : zeroN rows l css more i = false) : zerosB rows l css more n = false := by
  cases e : zerosB rows l css more n with
  | false => rfl
  | true => rw [zerosB_at e hi] at h; cases h
theorem rowsS_len {a b : List (Int × Int)} (h : rowsS a = rowsS b) : a.length = b.length := by
  have := congrArg List.length h
  simpa [rowsS] using this
theorem renC_el {rows : List (List Int)} {l : List (Int × Int)} {cs : List Int} {css : List (List Int)} {more : List (List (Int × Int))} (hc : comB rows cs = true) (hz : zerosB rows l css more css.length = true) : ∀ k, k ≤ css.length → (∀ c ∈ renC cs (css.take k), El c) ∧ (renC cs (css.take k)).length = colsQ rows
  | 0, _ => by rw [List.take_zero]; exact comB_el hc
  | k + 1, hk => by
    have ih := renC_el hc hz k (by omega)
    have h1 := zerosB_at hz (show k < css.length by omega)
    unfold zeroN zeroB at h1
    rw [Bool.and_eq_true, getD_at (show k < css.length by omega)] at h1
    have h2 := comB_el h1.1
    rw [renC_take cs css (by omega)]
    exact ⟨mulL_el ih.1 h2.1 (by omega), by rw [mulL_len]; exact ih.2⟩
theorem renL_rows (l : List (Int × Int)) (more : List (List (Int × Int))) (hm : ∀ m ∈ more, m.length = l.length) (hl : ∀ p ∈ l, R64 p.1 ∧ R64 p.2) : ∀ p ∈ renL l more, R64 p.1 ∧ R64 p.2 := by
  unfold renL
  induction more generalizing l with
  | nil => exact hl
  | cons a t ih =>
    rw [List.foldl_cons]
    refine ih (addS l a) (fun m h => by rw [addS_len]; exact hm m (List.mem_cons_of_mem _ h)) (fun p hp => ?_)
    obtain ⟨i, hi, rfl⟩ := List.mem_map.1 hp
    have hi2 : i < l.length := by simpa using hi
    unfold addP
    rw [getD_at hi2]
    exact ⟨(hl _ (List.getElem_mem hi2)).1, num_r64 (by omega)⟩

end Go.Proofs.YtnbkbnbmmkfckaaGreat

namespace Go.Proofs.YtnbkbnbmmkfckaaGreat
open Go.RowKit FP

set_option maxRecDepth 100000 in
theorem knotel_any (z : Int) (w : World) (hz : R64 z) : Calls Tryz.prog 64 #[.int .i64 z] w fun r w' => r = .returned (.bool (notEl z)) ∧ w = w' := by
  go_enter Tryz.func64, Tryz.ntmps64
  go_wp2_with fail
  with_reducible refine (valid_any z _ hz).mono ?_
  rintro r w1 ⟨rfl, rfl⟩
  go_wp2_with fail
  go_ret
  exact ⟨rfl, rfl⟩
set_option maxRecDepth 100000 in
theorem knotel_goes : Goes Tryz.prog 64 := goes_of Tryz.func64 (by kernel_rfl) rfl
theorem knotel_tests (w : World) (zs : List Int) (hr : ∀ z ∈ zs, R64 z) : Tests 64 #[] w notEl zs := fun z hz w' _ =>
  (knotel_any z w' (hr z hz)).mono fun _ _ ⟨h, e⟩ => ⟨h, e ▸ Below.refl _ _⟩
theorem comB_len {rows : List (List Int)} {l : List Int} (h : l.length ≠ colsQ rows) : comB rows l = false := by
  unfold comB; rw [decide_eq_false h, Bool.and_false]
theorem comB_any {rows : List (List Int)} {l : List Int} (h : l.length = colsQ rows) : comB rows l = !l.any notEl := by
  unfold comB; rw [decide_eq_true h, Bool.and_true]

set_option maxRecDepth 100000 in
set_option maxHeartbeats 4000000 in
theorem kcommits_any (ep : Int) (rv ov cv lv : Value) (rows : List (List Int)) (l : List Int) (w : World) (hR : Rows2 w rv rows) (ho : ∃ a n c, ov = .slice a n c) (hc : ∃ a n c, cv = .slice a n c) (hL : Ints w lv l) :
    Calls Tryz.prog 24 #[.agg #[.int .i64 ep, rv, ov, cv], lv] w fun e w' => e = .returned (.bool (comB rows l)) ∧ Below w.heap.size w w' := by
  obtain ⟨W1, hW1, hb1, hr1, -⟩ := box_key w (.int .i64 ep) rv ov cv 51
  have HR := Lib.hid (hR.below hb1)
  have HL := Lib.hid (hL.below hb1)
  obtain ⟨a1, k1, rfl, -, hl1, hk1⟩ := id hR
  obtain ⟨a2, n2, k2, rfl⟩ := ho
  obtain ⟨a3, n3, k3, rfl⟩ := hc
  obtain ⟨a4, k4, rfl, -, hl4, hcr, -⟩ := id hL
  have c1 : W1.cell? ⟨w.heap.size, 1, none⟩ = some (.slice a1 rows.length k1) := row_cell hr1 rfl
  have HW1 := Lib.hid hW1
  have HB := Lib.hid hb1
  have HCF := Lib.hid (containsFunc_any 64 #[] notEl _ l W1 HL.out knotel_goes (knotel_tests _ _ hcr))
  have hmf : ∀ (fn : Fn) (first cap : Array Value) (w : World), (Instr.makeFunc fn first cap).run Tryz.prog w = .ok (.func fn first cap) w := fun _ _ _ _ => rfl
  clear hR hL hr1 hW1 hcr
  by_cases h0 : rows.length = 0
  · have HQ : Hid (colsQ rows = 1) := Lib.hid (by unfold colsQ; rw [if_pos h0])
    have d0 : decide (0 < (rows.length : Int)) = false := decide_eq_false (by omega)
    have d0' : decide (0 < rows.length) = false := decide_eq_false (by omega)
    clear hk1 h0 hb1
    by_cases hl : l.length = 1
    · have HV := Lib.hid (comB_any (rows := rows) (l := l) (by rw [HQ.out, hl]))
      have d1 : ((l.length : Int) == 1) = true := by rw [hl]; rfl
      clear hl
      go_enter Tryz.func24, Tryz.ntmps24
      go_wp2_with (rw [← HW1.out])
      refine (HCF.out).mono ?_
      rintro e w2 ⟨rfl, hb2⟩
      go_wp2_with fail
      go_ret
      exact ⟨ret_bool (by rw [HV.out]), HB.out.trans (hb2.mono HB.out.size)⟩
    · have HV := Lib.hid (comB_len (rows := rows) (l := l) (by rw [HQ.out]; exact hl))
      have d1 : ((l.length : Int) == 1) = false := beq_eq_false_iff_ne.2 (by omega)
      clear hl
      go_enter Tryz.func24, Tryz.ntmps24
      go_wp2_with (rw [← HW1.out])
      go_ret
      exact ⟨ret_bool HV.out.symm, HB.out⟩
  · have HQ : Hid (colsQ rows = wide rows) := Lib.hid (by unfold colsQ; rw [if_neg h0])
    have i3 : (0 : Int) < (rows.length : Int) := by omega
    have i4 : 0 < rows.length := by omega
    obtain ⟨b, off, r, rfl, q1, hI⟩ := hk1 0 (by omega)
    rw [Nat.add_zero] at q1
    obtain ⟨ra, rc, rfl, -⟩ := id hI
    rw [wide_at rows (by omega)] at q1
    have y1 := below_cell hb1 q1
    clear hk1 hI h0 hb1 q1
    obtain ⟨m, hm⟩ : ∃ m, m = wide rows := ⟨_, rfl⟩
    rw [← hm] at HQ y1
    clear hm
    by_cases hl : l.length = m
    · have HV := Lib.hid (comB_any (rows := rows) (l := l) (by rw [HQ.out, hl]))
      have d1 : ((l.length : Int) == (m : Int)) = true := by rw [hl]; simp
      clear hl
      go_enter Tryz.func24, Tryz.ntmps24
      go_wp2_with (rw [← HW1.out])
      refine (HCF.out).mono ?_
      rintro e w2 ⟨rfl, hb2⟩
      go_wp2_with fail
      go_ret
      exact ⟨ret_bool (by rw [HV.out]), HB.out.trans (hb2.mono HB.out.size)⟩
    · have HV := Lib.hid (comB_len (rows := rows) (l := l) (by rw [HQ.out]; exact hl))
      have d1 : ((l.length : Int) == (m : Int)) = false := beq_eq_false_iff_ne.2 (by omega)
      clear hl
      go_enter Tryz.func24, Tryz.ntmps24
      go_wp2_with (rw [← HW1.out])
      go_ret
      exact ⟨ret_bool HV.out.symm, HB.out⟩

set_option maxRecDepth 100000 in
set_option maxHeartbeats 4000000 in
theorem kright_any (ep : Int) (rv ov cv : Value) (rows : List (List Int)) (cs : List Int) (w : World) (hR : Rows2 w rv rows) (ho : ∃ a n c, ov = .slice a n c) (hC : Ints w cv cs) :
    Calls Tryz.prog 21 #[.agg #[.int .i64 ep, rv, ov, cv]] w fun e w' => e = .returned (.bool (keyB rows ep cs)) ∧ Below w.heap.size w w' := by
  obtain ⟨W1, hW1, hb1, hr1, -⟩ := box_key w (.int .i64 ep) rv ov cv 51
  have HR := Lib.hid (hR.below hb1)
  have HC := Lib.hid (hC.below hb1)
  obtain ⟨a1, k1, rfl, -, hl1, -⟩ := id hR
  obtain ⟨a2, n2, k2, rfl⟩ := ho
  obtain ⟨a3, k3, rfl, -, hl3, -⟩ := id hC
  have c0 : W1.cell? ⟨w.heap.size, 0, none⟩ = some (.int .i64 ep) := row_cell hr1 rfl
  have c1 : W1.cell? ⟨w.heap.size, 1, none⟩ = some (.slice a1 rows.length k1) := row_cell hr1 rfl
  have c2 : W1.cell? ⟨w.heap.size, 2, none⟩ = some (.slice a2 n2 k2) := row_cell hr1 rfl
  have c3 : W1.cell? ⟨w.heap.size, 3, none⟩ = some (.slice a3 cs.length k3) := row_cell hr1 rfl
  have HW1 := Lib.hid hW1
  have HB := Lib.hid hb1
  have HKC := Lib.hid (kcommits_any ep (.slice a1 rows.length k1) (.slice a2 n2 k2) (.slice a3 cs.length k3) (.slice a3 cs.length k3) rows cs W1 HR.out ⟨_, _, _, rfl⟩ ⟨_, _, _, rfl⟩ HC.out)
  clear hR hC hr1 hW1 hb1
  by_cases h0 : 0 ≤ ep
  · have d0 : decide (0 ≤ ep) = true := decide_eq_true h0
    by_cases h1 : ep ≤ 64
    · have d1 : decide (ep ≤ 64) = true := decide_eq_true h1
      have HV : Hid (keyB rows ep cs = comB rows cs) := Lib.hid (by unfold keyB; rw [d0, d1]; rfl)
      clear h0 h1
      go_enter Tryz.func21, Tryz.ntmps21
      go_wp2_with (rw [← HW1.out])
      refine (HKC.out).mono ?_
      rintro e w2 ⟨rfl, hb2⟩
      go_wp2_with fail
      go_ret
      exact ⟨ret_bool HV.out.symm, HB.out.trans (hb2.mono HB.out.size)⟩
    · have d1 : decide (ep ≤ 64) = false := decide_eq_false h1
      have HV : Hid (keyB rows ep cs = false) := Lib.hid (by unfold keyB; rw [d0, d1]; rfl)
      clear h0 h1
      go_enter Tryz.func21, Tryz.ntmps21
      go_wp2_with (rw [← HW1.out])
      go_ret
      exact ⟨ret_bool HV.out.symm, HB.out⟩
  · have d0 : decide (0 ≤ ep) = false := decide_eq_false h0
    have HV : Hid (keyB rows ep cs = false) := Lib.hid (by unfold keyB; rw [d0]; rfl)
    clear h0
    go_enter Tryz.func21, Tryz.ntmps21
    go_wp2_with (rw [← HW1.out])
    go_ret
    exact ⟨ret_bool HV.out.symm, HB.out⟩

set_option maxRecDepth 100000 in
set_option maxHeartbeats 8000000 in
theorem kfit_any (ep : Int) (rv ov cv uv lv : Value) (rows : List (List Int)) (owners cs : List Int) (l : List (Int × Int)) (w : World) (hR : Rows2 w rv rows) (hO : Ints w ov owners) (hc : ∃ a n c, cv = .slice a n c) (hU : Ints w uv cs) (hL : Shares w lv l) (hd : dchkE rows owners cs = 0) :
    Calls Tryz.prog 22 #[.agg #[.int .i64 ep, rv, ov, cv], uv, lv] w fun e w' => e = .returned (.bool (fitL rows cs l)) ∧ Below w.heap.size w w' := by
  obtain ⟨W1, hW1, hb1, hr1, -⟩ := box_key w (.int .i64 ep) rv ov cv 51
  have HR := Lib.hid (hR.below hb1)
  have HO := Lib.hid (hO.below hb1)
  have HU := Lib.hid (hU.below hb1)
  have HL := Lib.hid (hL.below hb1)
  obtain ⟨a1, k1, rfl, -, hl1, -⟩ := id hR
  obtain ⟨a2, k2, rfl, -, hl2, -⟩ := id hO
  obtain ⟨a3, n3, k3, rfl⟩ := hc
  obtain ⟨a4, k4, rfl, -, hl4, -⟩ := id hU
  obtain ⟨a5, k5, rfl, -, hl5, hr5, -⟩ := id hL
  have c1 : W1.cell? ⟨w.heap.size, 1, none⟩ = some (.slice a1 rows.length k1) := row_cell hr1 rfl
  have c2 : W1.cell? ⟨w.heap.size, 2, none⟩ = some (.slice a2 owners.length k2) := row_cell hr1 rfl
  have HW1 := Lib.hid hW1
  have HB := Lib.hid hb1
  have HR5 := Lib.hid hr5
  have HFB := Lib.hid (fun r v => fitB_is (r := r) (v := v) hd)
  clear hR hO hU hL hr1 hW1 hb1 hr5 hd
  go_enter Tryz.func22, Tryz.ntmps22
  go_wp2_with (rw [← HW1.out])
  go_loopw [7, 14] (fun last i W => ∃ k : Nat, k ≤ l.length ∧ i = .int .i64 k ∧ last = .int .i64 (lastR (-1) (l.take k)) ∧ Hid (fitL rows cs (l.take k) = true) ∧ Below W1.heap.size W1 W) (fun _ i _ => l.length - (intOf i).toNat)
  case atStart => exact ⟨0, Nat.zero_le _, rfl, rfl, Lib.hid rfl, Below.refl _ _⟩
  case round =>
    obtain ⟨k, hkl, rfl, rfl, HP, hb⟩ := hrel
    have HBW := Lib.hid hb
    by_cases hlt : k < l.length
    · obtain ⟨aS, cS, eS, -, -, -, hk1⟩ := HL.out
      obtain ⟨b1, o1, ea, qa, qb⟩ := hk1 k hlt
      simp only [Value.slice.injEq] at eS
      obtain ⟨rfl, -, -⟩ := eS
      subst ea
      have y1 := below_cell hb qa
      have y2 := below_cell hb qb
      have hr := HR5.out _ (List.getElem_mem hlt)
      have HST := Lib.hid (fitL_take hlt HP.out)
      have HBD : Hid (fitOne rows cs (lastR (-1) (l.take k)) l[k] = false → fitL rows cs l = false) := Lib.hid (fun h => fitL_bad (k := k + 1) ((fitL_take hlt HP.out).trans h))
      have HLT := Lib.hid (lastR_take (last := -1) hlt)
      obtain ⟨r, hre⟩ : ∃ r, r = l[k].1 := ⟨_, rfl⟩
      obtain ⟨v, hve⟩ : ∃ v, v = l[k].2 := ⟨_, rfl⟩
      have hp : l[k] = (r, v) := by rw [hre, hve]
      rw [hp] at HST HBD
      rw [← hre] at y1 hr HLT
      rw [← hve] at y2 hr
      obtain ⟨la, hla⟩ : ∃ la, la = lastR (-1) (l.take k) := ⟨_, rfl⟩
      rw [← hla] at HST HBD ⊢
      obtain ⟨W5, hW5, hb5, hr6, -⟩ := box_prog wr (.int .i64 r) (.int .i64 v) 47
      have s0 : W5.cell? ⟨wr.heap.size, 0, none⟩ = some (.int .i64 r) := row_cell hr6 rfl
      have s1 : W5.cell? ⟨wr.heap.size, 1, none⟩ = some (.int .i64 v) := row_cell hr6 rfl
      have HW5 := Lib.hid hW5
      have HFT := Lib.hid (fun ww h1 h2 h3 => fits_any (.slice a1 rows.length k1) (.slice a2 owners.length k2) (.slice a4 cs.length k4) rows owners cs r v ww h1 h2 h3 hr.1 hr.2)
      rw [(HFB.out r v).1, (HFB.out r v).2] at HFT
      have i0 : (0 : Int) ≤ (k : Int) := by omega
      have i1 : (k : Int) < (l.length : Int) := by omega
      clear hk1 qa qb hre hve hp hla hr6 hW5
      replace c1 := below_cell hb c1
      replace c2 := below_cell hb c2
      replace HR := Lib.hid (HR.out.below hb)
      replace HO := Lib.hid (HO.out.below hb)
      replace HU := Lib.hid (HU.out.below hb)
      clear hb
      have zc1 := c1
      have zc2 := c2
      replace HBW := Lib.hid (HBW.out.trans (hb5.mono HBW.out.size))
      replace c1 := below_cell hb5 c1
      replace c2 := below_cell hb5 c2
      replace HR := Lib.hid (HR.out.below hb5)
      replace HO := Lib.hid (HO.out.below hb5)
      replace HU := Lib.hid (HU.out.below hb5)
      clear hb5
      cases her : rightS rows r v with
      | false =>
        rw [her] at HFT
        have HV := Lib.hid (HBD.out (by unfold fitOne; rw [her]; rfl))
        clear her
        go_wp2_with (rw [← HW5.out])
        clear zc1 zc2
        refine (HFT.out _ HR.out HO.out HU.out).mono ?_
        rintro e w6 ⟨rfl, hb6⟩
        replace c1 := below_cell hb6 c1
        replace c2 := below_cell hb6 c2
        replace s0 := below_cell hb6 s0
        replace s1 := below_cell hb6 s1
        replace HR := Lib.hid (HR.out.below hb6)
        replace HO := Lib.hid (HO.out.below hb6)
        replace HU := Lib.hid (HU.out.below hb6)
        replace HBW := Lib.hid (HBW.out.trans (hb6.mono HBW.out.size))
        clear hb6
        go_wp2_with fail
        go_ret
        exact ⟨ret_bool HV.out.symm, HB.out.trans (HBW.out.mono HB.out.size)⟩
      | true =>
      rw [her] at HFT
      cases hfp : fitP rows cs (r, v) with
      | false =>
        rw [hfp] at HFT
        have HV := Lib.hid (HBD.out (by unfold fitOne; rw [hfp]; simp))
        clear her hfp
        go_wp2_with (rw [← HW5.out])
        clear zc1 zc2
        refine (HFT.out _ HR.out HO.out HU.out).mono ?_
        rintro e w6 ⟨rfl, hb6⟩
        replace c1 := below_cell hb6 c1
        replace c2 := below_cell hb6 c2
        replace s0 := below_cell hb6 s0
        replace s1 := below_cell hb6 s1
        replace HR := Lib.hid (HR.out.below hb6)
        replace HO := Lib.hid (HO.out.below hb6)
        replace HU := Lib.hid (HU.out.below hb6)
        replace HBW := Lib.hid (HBW.out.trans (hb6.mono HBW.out.size))
        clear hb6
        go_wp2_with fail
        go_ret
        exact ⟨ret_bool HV.out.symm, HB.out.trans (HBW.out.mono HB.out.size)⟩
      | true =>
      rw [hfp] at HFT
      by_cases hle : r ≤ la
      · have d1 : decide (r ≤ la) = true := decide_eq_true hle
        have HV := Lib.hid (HBD.out (by unfold fitOne; rw [decide_eq_false (by show ¬ la < r; omega)]; simp))
        clear her hfp hle
        go_wp2_with (rw [← HW5.out])
        clear zc1 zc2
        refine (HFT.out _ HR.out HO.out HU.out).mono ?_
        rintro e w6 ⟨rfl, hb6⟩
        replace c1 := below_cell hb6 c1
        replace c2 := below_cell hb6 c2
        replace s0 := below_cell hb6 s0
        replace s1 := below_cell hb6 s1
        replace HR := Lib.hid (HR.out.below hb6)
        replace HO := Lib.hid (HO.out.below hb6)
        replace HU := Lib.hid (HU.out.below hb6)
        replace HBW := Lib.hid (HBW.out.trans (hb6.mono HBW.out.size))
        clear hb6
        go_wp2_with fail
        go_ret
        exact ⟨ret_bool HV.out.symm, HB.out.trans (HBW.out.mono HB.out.size)⟩
      · have d1 : decide (r ≤ la) = false := decide_eq_false hle
        have HN := Lib.hid (HST.out.trans (by unfold fitOne; rw [her, hfp, decide_eq_true (by show la < r; omega)]; first | done | rfl))
        clear her hfp hle
        go_wp2_with (rw [← HW5.out])
        clear zc1 zc2
        refine (HFT.out _ HR.out HO.out HU.out).mono ?_
        rintro e w6 ⟨rfl, hb6⟩
        replace c1 := below_cell hb6 c1
        replace c2 := below_cell hb6 c2
        replace s0 := below_cell hb6 s0
        replace s1 := below_cell hb6 s1
        replace HR := Lib.hid (HR.out.below hb6)
        replace HO := Lib.hid (HO.out.below hb6)
        replace HU := Lib.hid (HU.out.below hb6)
        replace HBW := Lib.hid (HBW.out.trans (hb6.mono HBW.out.size))
        clear hb6
        go_wp2_with fail
        go_roundw
        case rel => exact ⟨k + 1, by omega, by go_num, by rw [HLT.out], HN, HBW.out⟩
        case measure => simp [intOf]; omega
    · have HV : Hid (fitL rows cs l = true) := Lib.hid (by have h := HP.out; rwa [List.take_of_length_le (by omega)] at h)
      go_wp2_with fail
      go_ret
      exact ⟨ret_bool HV.out.symm, HB.out.trans (HBW.out.mono HB.out.size)⟩

end Go.Proofs.YtnbkbnbmmkfckaaGreat
