/- Package program: Accepts and Refuses. The laws of dealing: people of bits, and the shares of people. -/
import Derived.Test.YtbegnincmlepgaaMProC
import Derived.Test.YtbegnincmlepgaaMSane
import Derived.Test.YtbegnincmlepgaaMSuC
import Derived.Laws.Bits64b
namespace Go.Proofs.Ytbegnincmlepgaa
open Go.RowKit FP

/-- The numbers of a combination, put at their rows. -/
def putF (at_ : List Nat) (l : List Int) : Nat → Nat → Int
  | 0, _ => 0
  | K + 1, i => if i = at_.getD K 0 then nth l K else putF at_ l K i
def accOk (rows : List (List Int)) (owners who : List Int) : Bool := decide (questE rows owners who = 0) && rcombOk (pownR rows owners who) (tgt (colsQ rows))
def accN (rows : List (List Int)) (owners who : List Int) : List Int := (List.range rows.length).map (putF (ownL owners who rows.length) (rcombY (pownR rows owners who) (tgt (colsQ rows))) (ownL owners who rows.length).length)
def accY (rows : List (List Int)) (owners who : List Int) : List Int := if accOk rows owners who = true then accN rows owners who else []
def refY (rows : List (List Int)) (owners who : List Int) : Option (List Int) := if questE rows owners who = 0 then rsepQ (pownR rows owners who) (tgt (colsQ rows)) else none

theorem pownR_right {rows : List (List Int)} {owners who : List Int} (hP : ProgOK rows owners) : Right (pownR rows owners who) (tgt (colsQ rows)).length := by
  rw [tgt_len]
  have hl := ownL_len owners who rows.length
  have hfew := hP.few
  have hrow : ∀ r ∈ pownR rows owners who, ∃ k, ∃ hk : k < rows.length, r = rows[k] := by
    intro r hr
    obtain ⟨i, hi, rfl⟩ := List.mem_map.1 hr
    have hk := (ownL_lt hi).1
    exact ⟨_, hk, getD_at hk []⟩
  refine ⟨by simp [pownR]; omega, .inl hP.cols_le, ?_, ?_⟩
  · intro r hr
    obtain ⟨k, hk, rfl⟩ := hrow r hr
    exact hP.row hk
  · intro r hr
    obtain ⟨k, hk, rfl⟩ := hrow r hr
    exact hP.right.num _ (List.getElem_mem hk)
theorem pown_exam {rows : List (List Int)} {owners who : List Int} (hP : ProgOK rows owners) : examErr (pownR rows owners who) (tgt (colsQ rows)) = 0 :=
  examErr_right (pownR_right hP) (tgt_num _) (by rw [tgt_len]; exact hP.cols_le)
theorem questE_ok {rows : List (List Int)} {owners who : List Int} (h : questE rows owners who = 0) : progE rows owners = 0 ∧ peopleB (-1) who = true := by
  unfold questE at h
  by_cases hp : progE rows owners = 0
  · rw [if_neg (by simp [hp])] at h
    cases e : peopleB (-1) who with
    | true => exact ⟨hp, rfl⟩
    | false => rw [e] at h; simp at h
  · rw [if_pos hp] at h; exact absurd h hp
set_option maxRecDepth 100000 in
set_option maxHeartbeats 8000000 in
theorem refuses_any (rv ov wv : Value) (rows : List (List Int)) (owners who : List Int) (w : World) (hR : Rows2 w rv rows) (hO : Ints w ov owners) (hW : Ints w wv who) :
    Calls Try.prog 30 #[.agg #[rv, ov], wv] w fun r w' => ∃ yv, r = .returned (.tuple #[yv, .bool (refY rows owners who).isSome, .int .i64 (questE rows owners who)]) ∧ Ints w' yv ((refY rows owners who).getD []) ∧ Below w.heap.size w w' := by
  obtain ⟨W1, hW1, hb1, hr1, hz⟩ := box_prog w rv ov 25
  have HR := Lib.hid (hR.below hb1)
  have HO := Lib.hid (hO.below hb1)
  have HWH := Lib.hid (hW.below hb1)
  obtain ⟨a, cap, rfl, -, hlen, -⟩ := id hR
  obtain ⟨a2, cap2, rfl, -, hlen2, -⟩ := id hO
  obtain ⟨a3, cap3, rfl, -, hlen3, -⟩ := id hW
  have c0 : W1.cell? ⟨w.heap.size, 0, none⟩ = some (.slice a rows.length cap) := row_cell hr1 rfl
  have c1 : W1.cell? ⟨w.heap.size, 1, none⟩ = some (.slice a2 owners.length cap2) := row_cell hr1 rfl
  have HB := Lib.hid hb1
  have HW1 := Lib.hid hW1
  clear hR hO hW hr1 hW1 hb1
  by_cases hq : questE rows owners who = 0
  · obtain ⟨hp, hpe⟩ := questE_ok hq
    have HPO := Lib.hid (progE_ok hp)
    have HRE := Lib.hid (show refY rows owners who = rsepQ (pownR rows owners who) (tgt (colsQ rows)) by unfold refY; rw [if_pos hq])
    have HQY := Lib.hid (quest_yes _ _ _ rows owners who W1 HR.out HO.out HWH.out hp hpe)
    have HQ := Lib.hid hq
    have HEX := Lib.hid (pown_exam (who := who) HPO.out)
    clear hq hp hpe
    go_enter Try.func30, Try.ntmps30
    go_wp2_with fail
    rw [← HW1.out]
    refine HQY.out.mono ?_
    rintro r w2 ⟨v1, v2, v3, rfl, h1, h2, h3, hb2⟩
    have HV1 := Lib.hid h1
    have HV3 := Lib.hid h3
    obtain ⟨b1, k1, rfl, -⟩ := id h1
    obtain ⟨b2, k2, rfl, -⟩ := id h2
    obtain ⟨b3, k3, rfl, -⟩ := id h3
    clear h1 h2 h3
    replace HR := Lib.hid (HR.out.below hb2)
    replace HO := Lib.hid (HO.out.below hb2)
    replace HWH := Lib.hid (HWH.out.below hb2)
    replace HB := Lib.hid (HB.out.trans (hb2.mono HB.out.size))
    clear hb2
    cases hs : rsepQ (pownR rows owners who) (tgt (colsQ rows)) with
    | none =>
      have HS := Lib.hid (Sep_no _ _ (pownR rows owners who) (tgt (colsQ rows)) _ HV1.out HV3.out HEX.out hs)
      have HE : Hid (refY rows owners who = none) := Lib.hid (by rw [HRE.out, hs])
      clear hs
      go_wp2_with fail
      refine HS.out.mono ?_
      rintro e w3 ⟨yv, rfl, hy, hb3⟩
      obtain ⟨ya, yc, rfl, -⟩ := id hy
      have HY := Lib.hid hy
      clear hy
      replace HR := Lib.hid (HR.out.below hb3)
      replace HO := Lib.hid (HO.out.below hb3)
      replace HWH := Lib.hid (HWH.out.below hb3)
      replace HB := Lib.hid (HB.out.trans (hb3.mono HB.out.size))
      clear hb3
      go_wp2_with fail
      go_ret3
      exact ⟨_, by rw [HE.out, HQ.out]; rfl, by rw [HE.out]; exact HY.out, HB.out⟩
    | some l =>
      have HS := Lib.hid (Sep_yes _ _ (pownR rows owners who) (tgt (colsQ rows)) l _ HV1.out HV3.out HEX.out hs)
      have HE : Hid (refY rows owners who = some l) := Lib.hid (by rw [HRE.out, hs])
      clear hs
      go_wp2_with fail
      refine HS.out.mono ?_
      rintro e w3 ⟨yv, rfl, hy, hb3⟩
      obtain ⟨ya, yc, rfl, -⟩ := id hy
      have HY := Lib.hid hy
      clear hy
      replace HR := Lib.hid (HR.out.below hb3)
      replace HO := Lib.hid (HO.out.below hb3)
      replace HWH := Lib.hid (HWH.out.below hb3)
      replace HB := Lib.hid (HB.out.trans (hb3.mono HB.out.size))
      clear hb3
      go_wp2_with fail
      go_ret3
      exact ⟨_, by rw [HE.out, HQ.out]; rfl, by rw [HE.out]; exact HY.out, HB.out⟩
  · have HE : Hid (refY rows owners who = none) := Lib.hid (by unfold refY; rw [if_neg hq])
    have HQN := Lib.hid (quest_no _ _ _ rows owners who W1 HR.out HO.out HWH.out hq)
    have h2 : (questE rows owners who != 0) = true := bne_iff_ne.2 hq
    clear hq
    generalize questE rows owners who = qe at *
    go_enter Try.func30, Try.ntmps30
    go_wp2_with fail
    rw [← HW1.out]
    refine (HQN.out).mono ?_
    rintro e w2 ⟨rfl, hb2⟩
    replace HR := Lib.hid (HR.out.below hb2)
    replace HO := Lib.hid (HO.out.below hb2)
    replace HWH := Lib.hid (HWH.out.below hb2)
    replace HB := Lib.hid (HB.out.trans (hb2.mono HB.out.size))
    clear hb2
    go_wp2_with fail
    go_ret3
    exact ⟨_, by rw [HE.out]; rfl, by rw [HE.out]; exact Ints.nil _ _ _, HB.out⟩

theorem putF_num {at_ : List Nat} {l : List Int} (h : ∀ k, 0 ≤ nth l k ∧ nth l k < 1073741789) : ∀ K i, 0 ≤ putF at_ l K i ∧ putF at_ l K i < 1073741789
  | 0, i => by simp [putF]
  | K + 1, i => by
    unfold putF
    split
    · exact h K
    · exact putF_num h K i

set_option maxRecDepth 100000 in
set_option maxHeartbeats 8000000 in
theorem accepts_any (rv ov wv : Value) (rows : List (List Int)) (owners who : List Int) (w : World) (hR : Rows2 w rv rows) (hO : Ints w ov owners) (hW : Ints w wv who) :
    Calls Try.prog 28 #[.agg #[rv, ov], wv] w fun r w' => ∃ yv, r = .returned (.tuple #[yv, .bool (accOk rows owners who), .int .i64 (questE rows owners who)]) ∧ Ints w' yv (accY rows owners who) ∧ Below w.heap.size w w' := by
  obtain ⟨W1, hW1, hb1, hr1, hz⟩ := box_prog w rv ov 25
  have HR := Lib.hid (hR.below hb1)
  have HO := Lib.hid (hO.below hb1)
  have HWH := Lib.hid (hW.below hb1)
  obtain ⟨a, cap, rfl, -, hlen, -⟩ := id hR
  obtain ⟨a2, cap2, rfl, -, hlen2, -⟩ := id hO
  obtain ⟨a3, cap3, rfl, -, hlen3, -⟩ := id hW
  have c0 : W1.cell? ⟨w.heap.size, 0, none⟩ = some (.slice a rows.length cap) := row_cell hr1 rfl
  have c1 : W1.cell? ⟨w.heap.size, 1, none⟩ = some (.slice a2 owners.length cap2) := row_cell hr1 rfl
  have HB := Lib.hid hb1
  have HW1 := Lib.hid hW1
  clear hR hO hW hr1 hW1 hb1
  by_cases hq : questE rows owners who = 0
  · obtain ⟨hp, hpe⟩ := questE_ok hq
    have HPO := Lib.hid (progE_ok hp)
    have HRE := Lib.hid (show accOk rows owners who = rcombOk (pownR rows owners who) (tgt (colsQ rows)) by unfold accOk; rw [hq]; simp)
    have HQY := Lib.hid (quest_yes _ _ _ rows owners who W1 HR.out HO.out HWH.out hp hpe)
    have HQ := Lib.hid hq
    have HEX := Lib.hid (pown_exam (who := who) HPO.out)
    clear hq hp hpe
    go_enter Try.func28, Try.ntmps28
    go_wp2_with fail
    rw [← HW1.out]
    refine HQY.out.mono ?_
    rintro r w2 ⟨v1, v2, v3, rfl, h1, h2, h3, hb2⟩
    have HV1 := Lib.hid h1
    have HV2 := Lib.hid h2
    have HV3 := Lib.hid h3
    obtain ⟨b1, k1, rfl, -⟩ := id h1
    obtain ⟨b2, k2, rfl, -⟩ := id h2
    obtain ⟨b3, k3, rfl, -⟩ := id h3
    clear h1 h2 h3
    replace c0 := below_cell hb2 c0
    replace c1 := below_cell hb2 c1
    replace HR := Lib.hid (HR.out.below hb2)
    replace HO := Lib.hid (HO.out.below hb2)
    replace HWH := Lib.hid (HWH.out.below hb2)
    replace HB := Lib.hid (HB.out.trans (hb2.mono HB.out.size))
    clear hb2
    cases hs : rcombOk (pownR rows owners who) (tgt (colsQ rows)) with
    | false =>
      have HS := Lib.hid (Comb_no _ _ (pownR rows owners who) (tgt (colsQ rows)) _ HV1.out HV3.out HEX.out hs)
      have HE : Hid (accOk rows owners who = false) := Lib.hid (by rw [HRE.out, hs])
      have HY0 : Hid (accY rows owners who = []) := Lib.hid (by unfold accY; rw [HE.out]; rfl)
      clear hs
      go_wp2_with fail
      refine HS.out.mono ?_
      rintro e w3 ⟨yv, rfl, hy, hb3⟩
      obtain ⟨ya, yc, rfl, -⟩ := id hy
      clear hy
      replace c0 := below_cell hb3 c0
      replace c1 := below_cell hb3 c1
      replace HR := Lib.hid (HR.out.below hb3)
      replace HO := Lib.hid (HO.out.below hb3)
      replace HWH := Lib.hid (HWH.out.below hb3)
      replace HV2 := Lib.hid (HV2.out.below hb3)
      replace HB := Lib.hid (HB.out.trans (hb3.mono HB.out.size))
      clear hb3
      go_wp2_with fail
      go_ret3
      exact ⟨_, by rw [HE.out, HQ.out]; rfl, by rw [HY0.out]; exact Ints.nil _ _ _, HB.out⟩
    | true =>
      have HS := Lib.hid (Comb_yes _ _ (pownR rows owners who) (tgt (colsQ rows)) _ HV1.out HV3.out HEX.out hs)
      have HE : Hid (accOk rows owners who = true) := Lib.hid (by rw [HRE.out, hs])
      have HY0 : Hid (accY rows owners who = (List.range rows.length).map (putF (ownL owners who rows.length) (rcombY (pownR rows owners who) (tgt (colsQ rows))) (ownL owners who rows.length).length)) := Lib.hid (by unfold accY; rw [HE.out]; rfl)
      have HYL : Hid ((rcombY (pownR rows owners who) (tgt (colsQ rows))).length = (ownL owners who rows.length).length) := Lib.hid (by rw [rcombY_len]; simp [pownR])
      have HNU : Hid (∀ k, 0 ≤ nth (rcombY (pownR rows owners who) (tgt (colsQ rows))) k ∧ nth (rcombY (pownR rows owners who) (tgt (colsQ rows))) k < 1073741789) := Lib.hid (fun k => by
        by_cases hk : k < (pownR rows owners who).length
        · exact rcombY_num (pownR_right HPO.out) (tgt_num _) hk
        · rw [nth_out (by rw [rcombY_len]; exact hk)]; omega)
      have hfew := HPO.out.few
      have hnl := ownL_len owners who rows.length
      have HPN : Hid ((pownN rows owners who).length = (ownL owners who rows.length).length) := Lib.hid (by simp [pownN])
      have HPA : Hid (∀ k, k < (ownL owners who rows.length).length → nth (pownN rows owners who) k = ((ownL owners who rows.length).getD k 0 : Nat) ∧ (ownL owners who rows.length).getD k 0 < rows.length) := Lib.hid (fun k hk => by
        rw [getD_at hk]
        refine ⟨?_, (ownL_lt (List.getElem_mem hk)).1⟩
        rw [nth_at (by simpa [pownN] using hk)]; simp [pownN])
      rw [HPN.out]
      obtain ⟨L, hL⟩ : ∃ L, L = rcombY (pownR rows owners who) (tgt (colsQ rows)) := ⟨_, rfl⟩
      rw [← hL] at HS HY0 HYL HNU
      obtain ⟨A, hA⟩ : ∃ A, A = ownL owners who rows.length := ⟨_, rfl⟩
      rw [← hA] at HY0 HYL HPA hnl HPN ⊢
      clear hs hL hA
      have hmk := run_ints rows.length (by omega)
      go_wp2_with fail
      refine HS.out.mono ?_
      rintro e w3 ⟨yv, rfl, hy, hb3⟩
      obtain ⟨ya, yc, rfl, -⟩ := id hy
      have HY := Lib.hid hy
      clear hy
      rw [HYL.out]
      replace c0 := below_cell hb3 c0
      replace c1 := below_cell hb3 c1
      replace HR := Lib.hid (HR.out.below hb3)
      replace HO := Lib.hid (HO.out.below hb3)
      replace HWH := Lib.hid (HWH.out.below hb3)
      replace HV2 := Lib.hid (HV2.out.below hb3)
      replace HB := Lib.hid (HB.out.trans (hb3.mono HB.out.size))
      clear hb3
      go_wp2_with fail
      have hib : IBlk (w3.alloc (.cells (madeCells #[.int .i64 0] rows.length) 3)) w3.heap.size rows.length (putF A L 0) := IBlk.made w3 rows.length 3
      have hbn := below_new w3 (madeCells #[.int .i64 0] rows.length) 3
      go_loopw [44, 11, 12] (fun i _ _ W => ∃ k : Nat, k ≤ A.length ∧ i = .int .i64 k ∧ IBlk W w3.heap.size rows.length (putF A L k) ∧ Below w3.heap.size w3 W ∧ w3.heap.size < W.heap.size) (fun i _ _ _ => A.length - (intOf i).toNat)
      case atStart => exact ⟨0, Nat.zero_le _, rfl, hib, hbn, by simp⟩
      case round =>
        clear hib hbn
        obtain ⟨k, hkl, rfl, hib, hb, hsz⟩ := hrel
        by_cases hlt : k < A.length
        · obtain ⟨ha1, ha2⟩ := HPA.out k hlt
          obtain ⟨-, b4, o4, n4, m4, e4, q4⟩ := HV2.out.get (k := k) (by rw [HPN.out]; exact hlt)
          obtain ⟨-, b5, o5, n5, m5, e5, q5⟩ := HY.out.get (k := k) (by rw [HYL.out]; exact hlt)
          simp only [Value.slice.injEq] at e4 e5
          obtain ⟨rfl, -, -⟩ := e4
          obtain ⟨rfl, -, -⟩ := e5
          rw [ha1] at q4
          have y4 := below_cell hb q4
          have y5 := below_cell hb q5
          have HST : Hid (∀ i, putF A L (k + 1) i = if i = A.getD k 0 then nth L k else putF A L k i) := Lib.hid (fun i => rfl)
          obtain ⟨p, hp⟩ : ∃ p, p = A.getD k 0 := ⟨_, rfl⟩
          rw [← hp] at ha2 y4 HST
          have yc := hib.cell p ha2
          have yf := hib.fro p ha2
          have i0 : 0 ≤ (k : Int) := by omega
          have i1 : (k : Int) < (A.length : Int) := by omega
          have i2 : 0 ≤ (p : Int) := by omega
          have i3 : (p : Int) < (rows.length : Int) := by omega
          have HIB := Lib.hid hib
          have HBW := Lib.hid hb
          have HSZ := Lib.hid hsz
          clear ha1 q4 q5 hp hib hb hsz
          generalize nth L k = z at *
          go_wp2_with fail
          go_roundw
          case rel =>
            refine ⟨k + 1, by omega, by go_num, ?_, HBW.out.setCell (Nat.le_refl _) _, by simpa [World.setCell] using HSZ.out⟩
            have h := HIB.out.set (k := p) z
            exact ⟨fun i hi => by rw [h.cell i hi, HST.out], h.fro⟩
          case measure => simp [intOf]; omega
        · obtain rfl : k = A.length := by omega
          have hdk : decide (A.length < A.length) = false := decide_eq_false (by omega)
          have HI := Lib.hid (hib.ints (c := rows.length) (Nat.le_refl _) (by omega) (fun i _ => num_r64 (putF_num HNU.out _ i)))
          have HBF := Lib.hid (HB.out.trans (hb.mono HB.out.size))
          clear hib hb hsz
          go_wp2_with fail
          go_ret3
          exact ⟨_, by rw [HE.out, HQ.out]; rfl, by rw [HY0.out]; exact HI.out, HBF.out⟩
  · have HE : Hid (accOk rows owners who = false) := Lib.hid (by unfold accOk; rw [decide_eq_false hq]; rfl)
    have HY0 : Hid (accY rows owners who = []) := Lib.hid (by unfold accY; rw [HE.out]; rfl)
    have HQN := Lib.hid (quest_no _ _ _ rows owners who W1 HR.out HO.out HWH.out hq)
    have h2 : (questE rows owners who != 0) = true := bne_iff_ne.2 hq
    clear hq
    generalize questE rows owners who = qe at *
    go_enter Try.func28, Try.ntmps28
    go_wp2_with fail
    rw [← HW1.out]
    refine (HQN.out).mono ?_
    rintro e w2 ⟨rfl, hb2⟩
    replace c0 := below_cell hb2 c0
    replace c1 := below_cell hb2 c1
    replace HR := Lib.hid (HR.out.below hb2)
    replace HO := Lib.hid (HO.out.below hb2)
    replace HWH := Lib.hid (HWH.out.below hb2)
    replace HB := Lib.hid (HB.out.trans (hb2.mono HB.out.size))
    clear hb2
    go_wp2_with fail
    go_ret3
    exact ⟨_, by rw [HE.out]; rfl, by rw [HY0.out]; exact Ints.nil _ _ _, HB.out⟩

end Go.Proofs.Ytbegnincmlepgaa

namespace Go.Proofs.Ytbegnincmlepgaa
open Go.RowKit FP

def bitQ (b : Int) (i : Nat) : Bool := decide (b / 2 ^ i % 2 = 1)
def bitsL (b : Int) (n : Nat) : List Nat := (List.range n).filter (bitQ b)
def peopleQ (b : Int) : List Int := (bitsL b 64).map fun (i : Nat) => (i : Int)
theorem bitsL_yes {b : Int} {n : Nat} (h : bitQ b n = true) : bitsL b (n + 1) = bitsL b n ++ [n] := by
  unfold bitsL; rw [List.range_succ, List.filter_append]; simp [h]
theorem bitsL_no {b : Int} {n : Nat} (h : bitQ b n = false) : bitsL b (n + 1) = bitsL b n := by
  unfold bitsL; rw [List.range_succ, List.filter_append]; simp [h]
theorem bitsL_len (b : Int) (n : Nat) : (bitsL b n).length ≤ n := by
  unfold bitsL
  exact Nat.le_trans (List.length_filter_le _ _) (by simp)

theorem and_one (x : Int) (h0 : 0 ≤ x) (h1 : x < 18446744073709551616) : bits .and .u64 x 1 = x % 2 := by
  obtain ⟨n, rfl⟩ : ∃ n : Nat, x = n := ⟨x.toNat, by omega⟩
  have h := bits_and_u64_nat n 1 (by omega) (by omega)
  rw [Nat.and_one_is_mod] at h
  have e : ((1 : Nat) : Int) = 1 := rfl
  rw [e] at h
  rw [h]; omega
theorem shr_num {b : Int} (h0 : 0 ≤ b) (h1 : b < 18446744073709551616) (k : Nat) : 0 ≤ b / 2 ^ k ∧ b / 2 ^ k < 18446744073709551616 := by
  have hp : (0 : Int) < 2 ^ k := Int.pow_pos (by omega)
  refine ⟨Int.ediv_nonneg h0 (Int.le_of_lt hp), ?_⟩
  have := Int.ediv_le_self (2 ^ k) h0
  omega

set_option maxRecDepth 100000 in
set_option maxHeartbeats 2000000 in
theorem people_any (b : Int) (w : World) (h0 : 0 ≤ b) (h1 : b < 18446744073709551616) :
    Calls Try.prog 41 #[.int .u64 b] w fun e w' => ∃ v, e = .returned v ∧ Ints w' v (peopleQ b) ∧ Below w.heap.size w w' := by
  have h00 : w.ownsRow w.heap.size 3 1 (.slice none 0 0) 0 ((bitsL b 0).map fun i => Value.int .i64 (i : Nat)) := World.ownsRow_nil _ _ _ _
  go_enter Try.func41, Try.ntmps41
  go_wp2_with fail
  go_loopw [2, 3, 4] (fun L _ i W => ∃ k : Nat, k ≤ 64 ∧ i = .int .i64 k ∧ W.ownsRow w.heap.size 3 1 L (bitsL b k).length ((bitsL b k).map fun i => Value.int .i64 (i : Nat)) ∧ Below w.heap.size w W) (fun _ _ i _ => 64 - (intOf i).toNat)
  case atStart => exact ⟨0, Nat.zero_le _, rfl, h00, Below.refl _ _⟩
  case round =>
    clear h00
    obtain ⟨k, hkl, rfl, hown, hb⟩ := hrel
    by_cases hlt : k < 64
    · have i1 : (k : Int) < 64 := by omega
      have hl := bitsL_len b k
      have HOW := Lib.hid hown
      have HBW := Lib.hid hb
      clear hown hb
      obtain ⟨s0, s1⟩ := shr_num h0 h1 k
      have HA := and_one _ s0 s1
      have HB : Hid (bitQ b k = decide (b / 2 ^ k % 2 = 1)) := Lib.hid rfl
      cases e : bitQ b k with
      | true =>
        have hx : b / 2 ^ k % 2 = 1 := by rw [HB.out] at e; exact of_decide_eq_true e
        rw [hx] at HA
        have HT : Hid ((bitsL b (k + 1)).map (fun i => Value.int .i64 (i : Nat)) = (bitsL b k).map (fun i => Value.int .i64 (i : Nat)) ++ [.int .i64 k]) := Lib.hid (by rw [bitsL_yes e, List.map_append]; rfl)
        have HL : Hid ((bitsL b (k + 1)).length = (bitsL b k).length + 1) := Lib.hid (by rw [bitsL_yes e]; simp)
        have HN := Lib.hid (below_new wr #[.int .i64 k] 3)
        have HOX := Lib.hid (own_keep HOW.out HN.out)
        have HQ0 := Lib.hid (show (wr.alloc (.cells #[.int .i64 k] 3)).cell? ⟨wr.heap.size, 0, none⟩ = some (.int .i64 k) from row_cell (World.alloc_heap_new _ _) rfl)
        have HB9 := Lib.hid (HBW.out.trans (HN.out.mono HBW.out.size))
        have HBS := Lib.hid HB9.out.size
        clear e hx
        go_wp2_with (refine app_int rfl _ _ rfl w.heap.size (bitsL b k).length _ _ rfl HOX.out wr.heap.size 1 (k : Int) rfl HQ0.out (by omega) HBS.out ?_; intro v9 w9 h9 o9; have H9 := Lib.hid h9; have O9 := Lib.hid o9; clear h9 o9)
        go_roundw
        case rel => exact ⟨k + 1, by omega, by go_num, by rw [HT.out, HL.out]; exact H9.out, HB9.out.trans (own_below HOX.out O9.out HBS.out)⟩
        case measure => simp [intOf]; omega
      | false =>
        have hx : b / 2 ^ k % 2 = 0 := by rw [HB.out] at e; have := of_decide_eq_false e; omega
        rw [hx] at HA
        have HT := Lib.hid (bitsL_no e)
        clear e hx
        go_wp2_with fail
        go_roundw
        case rel => exact ⟨k + 1, by omega, by go_num, by rw [HT.out]; exact HOW.out, HBW.out⟩
        case measure => simp [intOf]; omega
    · obtain rfl : k = 64 := by omega
      have HIF := Lib.hid (Ints.own (zs := peopleQ b) (by unfold peopleQ; rw [List.map_map]; exact hown) (by
        intro z hz
        obtain ⟨i, hi, rfl⟩ := List.mem_map.1 hz
        have : i < 64 := by unfold bitsL at hi; simpa using (List.mem_filter.1 hi).1
        exact R64.mk (by omega) (by omega)) (by unfold peopleQ; rw [List.length_map]; have := bitsL_len b 64; omega))
      have HF := Lib.hid hb
      clear hown hb
      go_wp2_with fail
      go_ret
      exact ⟨_, rfl, HIF.out, HF.out⟩

theorem people_right (b : Int) : peopleB (-1) (peopleQ b) = true := by
  have key : ∀ (l : List Nat) (last : Int), (∀ i ∈ l, i < 64 ∧ last < (i : Int)) → l.Pairwise (· < ·) → peopleB last (l.map fun (i : Nat) => (i : Int)) = true := by
    intro l
    induction l with
    | nil => intro _ _ _; rfl
    | cons a t ih =>
      intro last h1 h2
      obtain ⟨h3, h4⟩ := List.pairwise_cons.1 h2
      rw [List.map_cons]
      unfold peopleB
      have := h1 a (by simp)
      rw [inB_iff.2 ⟨by omega, by omega⟩, decide_eq_true this.2, ih a (fun i hi => ⟨(h1 i (by simp [hi])).1, by have := h3 i hi; omega⟩) h4]
      rfl
  refine key _ _ (fun i hi => ?_) (List.pairwise_lt_range.sublist List.filter_sublist)
  have : i < 64 := by simpa using (List.mem_filter.1 hi).1
  exact ⟨this, by omega⟩

end Go.Proofs.Ytbegnincmlepgaa
