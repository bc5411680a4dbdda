/- Package program: Accepts and Refuses. The reference of package program: SameInts, Same, Has. The reference of package program: Has, People, Columns, Few; the laws' product. The reference of package program: Few; the laws' product. The reference of complaints: Few, Complete, Error. The reference of dealing: Public, share, Fits, Few. The reference of dealing: Few. -/
import Derived.Test.YtggnipkfliompaaGreatDoorMProD
import Derived.Test.YtggnipkfliompaaGreatDoorMParF
import Derived.Test.YtggnipkfliompaaGreatDoorMKgT
import Derived.Test.YtggnipkfliompaaGreatDoorMRegL
import Derived.Test.YtggnipkfliompaaGreatDoorMLinJ
import Derived.Test.YtggnipkfliompaaGreatDoorMDeaW
set_option maxHeartbeats 8000000
set_option maxRecDepth 100000
namespace Go.Proofs.YtggnipkfliompaaGreatDoor
open Go.RowKit FP
def putF (at_ : List Nat) (l : List Int) : Nat → Nat → Int
 | 0, _ => 0
 | K + 1, i => if i = at_.getD K 0 then nth l K else putF at_ l K i
def accOk (rows : List (List Int)) (owners who : List Int) : Bool := decide (questE rows owners who = 0) && rcombOk (pownR rows owners who) (tgt (colsQ rows))
def accN (rows : List (List Int)) (owners who : List Int) : List Int := (List.range rows.length).map (putF (ownL owners who rows.length) (rcombY (pownR rows owners who) (tgt (colsQ rows))) (ownL owners who rows.length).length)
def accY (rows : List (List Int)) (owners who : List Int) : List Int := if accOk rows owners who = true then accN rows owners who else []
theorem pownR_right {rows : List (List Int)} {owners who : List Int} (hP : ProgOK rows owners) : Right (pownR rows owners who) (tgt (colsQ rows)).length := by
 rw [tgt_len]
 have hl := ownL_len owners who rows.length
 have hfew := hP.few
 have hrow : ∀ r ∈ pownR rows owners who, ∃ k, ∃ hk : k < rows.length, r = rows[k] := by
  intro r hr
  obtain ⟨i, hi, rfl⟩ := List.mem_map.1 hr
  have hk := (ownL_lt hi).1
  exact ⟨_, hk, getD_at hk []⟩
 refine ⟨by simp [pownR]; omega, .inl hP.cols_le, ?_, ?_⟩
 ·intro r hr
  obtain ⟨k, hk, rfl⟩ := hrow r hr
  exact hP.row hk
 ·intro r hr
  obtain ⟨k, hk, rfl⟩ := hrow r hr
  exact hP.right.num _ (List.getElem_mem hk)
theorem pown_exam {rows : List (List Int)} {owners who : List Int} (hP : ProgOK rows owners) : examErr (pownR rows owners who) (tgt (colsQ rows)) = 0 :=
 examErr_right (pownR_right hP) (tgt_num _) (by rw [tgt_len]; exact hP.cols_le)
theorem questE_ok {rows : List (List Int)} {owners who : List Int} (h : questE rows owners who = 0) : progE rows owners = 0 ∧ peopleB (-1) who = true := by
 unfold questE at h
 by_cases hp : progE rows owners = 0
 ·rw [if_neg (by simp [hp])] at h
  cases e : peopleB (-1) who with
  | true => exact ⟨hp, rfl⟩
  | false => rw [e] at h; simp at h
 ·rw [if_pos hp] at h; exact absurd h hp
theorem putF_num {at_ : List Nat} {l : List Int} (h : ∀ k, 0 ≤ nth l k ∧ nth l k < 1073741789) : ∀ K i, 0 ≤ putF at_ l K i ∧ putF at_ l K i < 1073741789
 | 0, i => by simp [putF]
 | K + 1, i => by
  unfold putF
  split
  ·exact h K
  ·exact putF_num h K i
theorem accepts_any (rv ov wv : Value) (rows : List (List Int)) (owners who : List Int) (w : World) (hR : Rows2 w rv rows) (hO : Ints w ov owners) (hW : Ints w wv who) :
  Calls Tryz.prog 48 #[.agg #[rv, ov], wv] w fun r w' => ∃ yv, r = .returned (.tuple #[yv, .bool (accOk rows owners who), .int .i64 (questE rows owners who)]) ∧ Ints w' yv (accY rows owners who) ∧ Below w.heap.size w w' := by
 obtain ⟨W1, hW1, hb1, hr1, hz⟩ := box_prog w rv ov 25
 have HR := Lib.hid (hR.below hb1)
 have HO := Lib.hid (hO.below hb1)
 have HWH := Lib.hid (hW.below hb1)
 obtain ⟨a, cap, rfl, -, hlen, -⟩ := id hR
 obtain ⟨a2, cap2, rfl, -, hlen2, -⟩ := id hO
 obtain ⟨a3, cap3, rfl, -, hlen3, -⟩ := id hW
 have c0 : W1.cell? ⟨w.heap.size, 0, none⟩ = some (.slice a rows.length cap) := row_cell hr1 rfl
 have c1 : W1.cell? ⟨w.heap.size, 1, none⟩ = some (.slice a2 owners.length cap2) := row_cell hr1 rfl
 have HB := Lib.hid hb1
 have HW1 := Lib.hid hW1
 clear hR hO hW hr1 hW1 hb1
 by_cases hq : questE rows owners who = 0
 ·obtain ⟨hp, hpe⟩ := questE_ok hq
  have HPO := Lib.hid (progE_ok hp)
  have HRE := Lib.hid (show accOk rows owners who = rcombOk (pownR rows owners who) (tgt (colsQ rows)) by unfold accOk; rw [hq]; simp)
  have HQY := Lib.hid (quest_yes _ _ _ rows owners who W1 HR.out HO.out HWH.out hp hpe)
  have HQ := Lib.hid hq
  have HEX := Lib.hid (pown_exam (who := who) HPO.out)
  clear hq hp hpe
  go_enter Tryz.func48, Tryz.ntmps48
  go_wp2_with fail
  rw [← HW1.out]
  refine HQY.out.mono ?_
  rintro r w2 ⟨v1, v2, v3, rfl, h1, h2, h3, hb2⟩
  have HV1 := Lib.hid h1
  have HV2 := Lib.hid h2
  have HV3 := Lib.hid h3
  obtain ⟨b1, k1, rfl, -⟩ := id h1
  obtain ⟨b2, k2, rfl, -⟩ := id h2
  obtain ⟨b3, k3, rfl, -⟩ := id h3
  clear h1 h2 h3
  replace c0 := below_cell hb2 c0
  replace c1 := below_cell hb2 c1
  replace HR := Lib.hid (HR.out.below hb2)
  replace HO := Lib.hid (HO.out.below hb2)
  replace HWH := Lib.hid (HWH.out.below hb2)
  replace HB := Lib.hid (HB.out.trans (hb2.mono HB.out.size))
  clear hb2
  cases hs : rcombOk (pownR rows owners who) (tgt (colsQ rows)) with
  | false =>
   have HS := Lib.hid (Comb_no _ _ (pownR rows owners who) (tgt (colsQ rows)) _ HV1.out HV3.out HEX.out hs)
   have HE : Hid (accOk rows owners who = false) := Lib.hid (by rw [HRE.out, hs])
   have HY0 : Hid (accY rows owners who = []) := Lib.hid (by unfold accY; rw [HE.out]; rfl)
   clear hs
   go_wp2_with fail
   refine HS.out.mono ?_
   rintro e w3 ⟨yv, rfl, hy, hb3⟩
   obtain ⟨ya, yc, rfl, -⟩ := id hy
   clear hy
   replace c0 := below_cell hb3 c0
   replace c1 := below_cell hb3 c1
   replace HR := Lib.hid (HR.out.below hb3)
   replace HO := Lib.hid (HO.out.below hb3)
   replace HWH := Lib.hid (HWH.out.below hb3)
   replace HV2 := Lib.hid (HV2.out.below hb3)
   replace HB := Lib.hid (HB.out.trans (hb3.mono HB.out.size))
   clear hb3
   go_wp2_with fail
   go_ret3
   exact ⟨_, by rw [HE.out, HQ.out]; rfl, by rw [HY0.out]; exact Ints.nil _ _ _, HB.out⟩
  | true =>
   have HS := Lib.hid (Comb_yes _ _ (pownR rows owners who) (tgt (colsQ rows)) _ HV1.out HV3.out HEX.out hs)
   have HE : Hid (accOk rows owners who = true) := Lib.hid (by rw [HRE.out, hs])
   have HY0 : Hid (accY rows owners who = (List.range rows.length).map (putF (ownL owners who rows.length) (rcombY (pownR rows owners who) (tgt (colsQ rows))) (ownL owners who rows.length).length)) := Lib.hid (by unfold accY; rw [HE.out]; rfl)
   have HYL : Hid ((rcombY (pownR rows owners who) (tgt (colsQ rows))).length = (ownL owners who rows.length).length) := Lib.hid (by rw [rcombY_len]; simp [pownR])
   have HNU : Hid (∀ k, 0 ≤ nth (rcombY (pownR rows owners who) (tgt (colsQ rows))) k ∧ nth (rcombY (pownR rows owners who) (tgt (colsQ rows))) k < 1073741789) := Lib.hid (fun k => by
    by_cases hk : k < (pownR rows owners who).length
    ·exact rcombY_num (pownR_right HPO.out) (tgt_num _) hk
    ·rw [nth_out (by rw [rcombY_len]; exact hk)]; omega)
   have hfew := HPO.out.few
   have hnl := ownL_len owners who rows.length
   have HPN : Hid ((pownN rows owners who).length = (ownL owners who rows.length).length) := Lib.hid (by simp [pownN])
   have HPA : Hid (∀ k, k < (ownL owners who rows.length).length → nth (pownN rows owners who) k = ((ownL owners who rows.length).getD k 0 : Nat) ∧ (ownL owners who rows.length).getD k 0 < rows.length) := Lib.hid (fun k hk => by
    rw [getD_at hk]
    refine ⟨?_, (ownL_lt (List.getElem_mem hk)).1⟩
    rw [nth_at (by simpa [pownN] using hk)]; simp [pownN])
   rw [HPN.out]
   obtain ⟨L, hL⟩ : ∃ L, L = rcombY (pownR rows owners who) (tgt (colsQ rows)) := ⟨_, rfl⟩
   rw [← hL] at HS HY0 HYL HNU
   obtain ⟨A, hA⟩ : ∃ A, A = ownL owners who rows.length := ⟨_, rfl⟩
   rw [← hA] at HY0 HYL HPA hnl HPN ⊢
   clear hs hL hA
   have hmk := run_ints rows.length (by omega)
   go_wp2_with fail
   refine HS.out.mono ?_
   rintro e w3 ⟨yv, rfl, hy, hb3⟩
   obtain ⟨ya, yc, rfl, -⟩ := id hy
   have HY := Lib.hid hy
   clear hy
   rw [HYL.out]
   replace c0 := below_cell hb3 c0
   replace c1 := below_cell hb3 c1
   replace HR := Lib.hid (HR.out.below hb3)
   replace HO := Lib.hid (HO.out.below hb3)
   replace HWH := Lib.hid (HWH.out.below hb3)
   replace HV2 := Lib.hid (HV2.out.below hb3)
   replace HB := Lib.hid (HB.out.trans (hb3.mono HB.out.size))
   clear hb3
   go_wp2_with fail
   have hib : IBlk (w3.alloc (.cells (madeCells #[.int .i64 0] rows.length) 3)) w3.heap.size rows.length (putF A L 0) := IBlk.made w3 rows.length 3
   have hbn := below_new w3 (madeCells #[.int .i64 0] rows.length) 3
   go_loopw [44, 11, 12] (fun i _ _ W => ∃ k : Nat, k ≤ A.length ∧ i = .int .i64 k ∧ IBlk W w3.heap.size rows.length (putF A L k) ∧ Below w3.heap.size w3 W ∧ w3.heap.size < W.heap.size) (fun i _ _ _ => A.length - (intOf i).toNat)
   case atStart => exact ⟨0, Nat.zero_le _, rfl, hib, hbn, by simp⟩
   case round =>
    clear hib hbn
    obtain ⟨k, hkl, rfl, hib, hb, hsz⟩ := hrel
    by_cases hlt : k < A.length
    ·obtain ⟨ha1, ha2⟩ := HPA.out k hlt
     obtain ⟨-, b4, o4, n4, m4, e4, q4⟩ := HV2.out.get (k := k) (by rw [HPN.out]; exact hlt)
     obtain ⟨-, b5, o5, n5, m5, e5, q5⟩ := HY.out.get (k := k) (by rw [HYL.out]; exact hlt)
     simp only [Value.slice.injEq] at e4 e5
     obtain ⟨rfl, -, -⟩ := e4
     obtain ⟨rfl, -, -⟩ := e5
     rw [ha1] at q4
     have y4 := below_cell hb q4
     have y5 := below_cell hb q5
     have HST : Hid (∀ i, putF A L (k + 1) i = if i = A.getD k 0 then nth L k else putF A L k i) := Lib.hid (fun i => rfl)
     obtain ⟨p, hp⟩ : ∃ p, p = A.getD k 0 := ⟨_, rfl⟩
     rw [← hp] at ha2 y4 HST
     have yc := hib.cell p ha2
     have yf := hib.fro p ha2
     have i0 : 0 ≤ (k : Int) := by omega
     have i1 : (k : Int) < (A.length : Int) := by omega
     have i2 : 0 ≤ (p : Int) := by omega
     have i3 : (p : Int) < (rows.length : Int) := by omega
     have HIB := Lib.hid hib
     have HBW := Lib.hid hb
     have HSZ := Lib.hid hsz
     clear ha1 q4 q5 hp hib hb hsz
     generalize nth L k = z at *
     go_wp2_with fail
     go_roundw
     case rel =>
      refine ⟨k + 1, by omega, by go_num, ?_, HBW.out.setCell (Nat.le_refl _) _, by simpa [World.setCell] using HSZ.out⟩
      have h := HIB.out.set (k := p) z
      exact ⟨fun i hi => by rw [h.cell i hi, HST.out], h.fro⟩
     case measure => simp [intOf]; omega
    ·obtain rfl : k = A.length := by omega
     have hdk : decide (A.length < A.length) = false := decide_eq_false (by omega)
     have HI := Lib.hid (hib.ints (c := rows.length) (Nat.le_refl _) (by omega) (fun i _ => num_r64 (putF_num HNU.out _ i)))
     have HBF := Lib.hid (HB.out.trans (hb.mono HB.out.size))
     clear hib hb hsz
     go_wp2_with fail
     go_ret3
     exact ⟨_, by rw [HE.out, HQ.out]; rfl, by rw [HY0.out]; exact HI.out, HBF.out⟩
 ·have HE : Hid (accOk rows owners who = false) := Lib.hid (by unfold accOk; rw [decide_eq_false hq]; rfl)
  have HY0 : Hid (accY rows owners who = []) := Lib.hid (by unfold accY; rw [HE.out]; rfl)
  have HQN := Lib.hid (quest_no _ _ _ rows owners who W1 HR.out HO.out HWH.out hq)
  have h2 : (questE rows owners who != 0) = true := bne_iff_ne.2 hq
  clear hq
  generalize questE rows owners who = qe at *
  go_enter Tryz.func48, Tryz.ntmps48
  go_wp2_with fail
  rw [← HW1.out]
  refine (HQN.out).mono ?_
  rintro e w2 ⟨rfl, hb2⟩
  replace c0 := below_cell hb2 c0
  replace c1 := below_cell hb2 c1
  replace HR := Lib.hid (HR.out.below hb2)
  replace HO := Lib.hid (HO.out.below hb2)
  replace HWH := Lib.hid (HWH.out.below hb2)
  replace HB := Lib.hid (HB.out.trans (hb2.mono HB.out.size))
  clear hb2
  go_wp2_with fail
  go_ret3
  exact ⟨_, by rw [HE.out]; rfl, by rw [HY0.out]; exact Ints.nil _ _ _, HB.out⟩
end Go.Proofs.YtggnipkfliompaaGreatDoor
namespace Go.Proofs.YtggnipkfliompaaGreatDoor
open Go.RowKit FP
theorem rSameInts23_any (v u : Value) (a b : List Int) (w : World) (hI : Ints w v a) (hJ : Ints w u b) :
  Calls Tryz.prog 173 #[v, u] w fun e w' => e = .returned (.bool (sameQ a b)) ∧ Below w.heap.size w w' := by
 obtain ⟨pa, ca, rfl, ha1, ha2, ha3, hka⟩ := hI
 obtain ⟨pb, cb, rfl, hb1, hb2, hb3, hkb⟩ := hJ
 by_cases hl : a.length = b.length
 ·have hl' : ((a.length : Int) != (b.length : Int)) = false := by rw [hl]; simp
  have HL := Lib.hid hl
  have hb1 : a.length ≤ cb := by omega
  have hcells : ∀ k (h : k < a.length), ∃ y, y = b[k]'(by rw [← HL.out]; exact h) ∧ ∃ q off, pb = some ⟨q, off, none⟩ ∧ w.cell? ⟨q, off + k, none⟩ = some (.int .i64 y) := fun k h => ⟨_, rfl, hkb k (by omega)⟩
  rw [← hl] at hl' ⊢
  clear hl hb2
  clear hkb
  go_enter Tryz.func173, Tryz.ntmps173
  go_wp2_with fail
  go_loopw [5] (fun i wr => ∃ k : Nat, k ≤ a.length ∧ i = .int .i64 k ∧ Hid (∀ j (h1 : j < a.length) (h2 : j < b.length), j < k → a[j] = b[j]) ∧ Below w.heap.size w wr) (fun i _ => a.length - (intOf i).toNat)
  case atStart => exact ⟨0, Nat.zero_le _, rfl, Lib.hid fun j _ _ h => absurd h (Nat.not_lt_zero _), Below.refl _ _⟩
  case round =>
   obtain ⟨k, hkl, rfl, HP, hb⟩ := hrel
   by_cases hlt : k < a.length
   ·obtain ⟨p, off, rfl, hc⟩ := hka k hlt
    obtain ⟨y, hy, p', off', rfl, hc'⟩ := hcells k hlt
    have hc := below_cell hb hc
    have hc' := below_cell hb hc'
    obtain ⟨x, hx⟩ : ∃ x, x = a[k] := ⟨_, rfl⟩
    rw [← hx] at hc
    have i1 : (0 : Int) ≤ (k : Int) := by omega
    have i2 : (k : Int) < (a.length : Int) := by omega
    have HX := Lib.hid hx
    have HY := Lib.hid hy
    clear hcells hka hx hy
    by_cases he : x = y
    ·have he' : (x != y) = false := by simpa using he
     have HN := Lib.hid (show ∀ j (h1 : j < a.length) (h2 : j < b.length), j < k + 1 → a[j] = b[j] from fun j h1 h2 h3 => by
      by_cases e : j = k
      ·subst e; rw [← HX.out, ← HY.out, he]
      ·exact HP.out j h1 h2 (by omega))
     clear he
     go_wp2_with fail
     go_quiet (fail)
     go_wp2_with fail
     go_roundw
     case rel => exact ⟨k + 1, by omega, by go_num, HN, below_drewN hb _⟩
     case measure => simp [intOf]; omega
    ·have he' : (x != y) = true := by simpa using he
     have HN := Lib.hid (sameQ_at hlt (by rw [← HL.out]; exact hlt) (by rw [← HX.out, ← HY.out]; exact he))
     clear he
     go_wp2_with fail
     go_quiet (fail)
     go_wp2_with fail
     go_ret
     exact ⟨ret_bool HN.out.symm, below_drewN hb _⟩
   ·have HN := Lib.hid (sameQ_all HL.out fun k h1 h2 => HP.out k h1 h2 (by omega))
    go_wp2_with fail
    go_ret
    exact ⟨ret_bool HN.out.symm, hb⟩
 ·have hl' : ((a.length : Int) != (b.length : Int)) = true := by rw [bne_iff_ne]; omega
  have HL := Lib.hid (sameQ_len hl)
  clear hl
  go_enter Tryz.func173, Tryz.ntmps173
  go_wp2_with fail
  go_ret
  exact ⟨ret_bool HL.out.symm, Below.refl _ _⟩
theorem rSame23_is (v u : Value) (a b : List Int) (c : Bool) (w : World) (hI : Ints w v a) (hJ : Ints w u b) (hc : sameQ a b = c) :
  Calls Tryz.prog 173 #[v, u] w fun r w' => r = .returned (.bool c) ∧ Below w.heap.size w w' :=
 (rSameInts23_any v u a b w hI hJ).mono fun r w' ⟨h1, h2⟩ => ⟨by rw [h1, hc], h2⟩
theorem Ints.drew {w : World} {v : Value} {zs : List Int} (h : Ints w v zs) : Ints w.drew v zs := h.below (Below.refl _ _).drew
def sameP (rows rows2 : List (List Int)) (owners owners2 : List Int) : Bool := decide (rows = rows2) && sameQ owners owners2
theorem sameP_len {r s : List (List Int)} {o p : List Int} (h : r.length ≠ s.length) : sameP r s o p = false := by
 unfold sameP
 rw [decide_eq_false (fun e => h (by rw [e]))]; rfl
theorem sameP_own {r s : List (List Int)} {o p : List Int} (h : sameQ o p = false) : sameP r s o p = false := by
 unfold sameP; rw [h, Bool.and_false]
theorem sameP_at {r s : List (List Int)} {o p : List Int} {k : Nat} (h1 : k < r.length) (h2 : k < s.length) (h : sameQ r[k] s[k] = false) : sameP r s o p = false := by
 unfold sameP
 rw [decide_eq_false (fun e => (of_decide_eq_false h) (by subst e; rfl))]; rfl
theorem sameP_all {r s : List (List Int)} {o p : List Int} (h : r.length = s.length) (ho : sameQ o p = true) (h1 : ∀ k (h1 : k < r.length) (h2 : k < s.length), r[k] = s[k]) : sameP r s o p = true := by
 unfold sameP
 rw [decide_eq_true (List.ext_getElem h h1), ho]; rfl
theorem rSameP_any (rv ov rv2 ov2 : Value) (r s : List (List Int)) (o p : List Int) (w : World) (hR : Rows2 w rv r) (hO : Ints w ov o) (hS : Rows2 w rv2 s) (hP : Ints w ov2 p) :
  Calls Tryz.prog 110 #[.agg #[rv, ov], .agg #[rv2, ov2]] w fun e w' => e = .returned (.bool (sameP r s o p)) ∧ Below w.heap.size w w' := by
 obtain ⟨W1, hW1, hb1, hr1, hz⟩ := box_prog w rv ov 25
 obtain ⟨W2, hW2, hb2, hr2, hz2⟩ := box_prog W1 rv2 ov2 25
 have hs1 : W1.heap.size = w.heap.size + 1 := by rw [hW1]; simp
 have hb := hb1.trans (hb2.mono hb1.size)
 have HR := Lib.hid (hR.below hb)
 have HO := Lib.hid (hO.below hb)
 have HS := Lib.hid (hS.below hb)
 have HP := Lib.hid (hP.below hb)
 have hr1' := (hb2.block _ hz).trans hr1
 rw [hs1] at hr2
 obtain ⟨ar, cr, rfl, -, hlr, hkr⟩ := hR
 obtain ⟨ao, co, rfl, -, hlo, -⟩ := hO
 obtain ⟨a5, cs, rfl, -, hls, hks⟩ := hS
 obtain ⟨a6, cp, rfl, -, hlp, -⟩ := hP
 have c0 : W2.cell? ⟨w.heap.size, 0, none⟩ = some (.slice ar r.length cr) := row_cell hr1' rfl
 have c1 : W2.cell? ⟨w.heap.size, 1, none⟩ = some (.slice ao o.length co) := row_cell hr1' rfl
 have c2 : W2.cell? ⟨w.heap.size + 1, 0, none⟩ = some (.slice a5 s.length cs) := row_cell hr2 rfl
 have c3 : W2.cell? ⟨w.heap.size + 1, 1, none⟩ = some (.slice a6 p.length cp) := row_cell hr2 rfl
 have HB := Lib.hid hb
 have HW : Hid (W2 = (w.alloc (.cells #[.slice ar r.length cr, .slice ao o.length co] 25)).alloc (.cells #[.slice a5 s.length cs, .slice a6 p.length cp] 25)) := Lib.hid (by rw [hW2, hW1])
 clear hkr hks hr1 hr1' hr2 hb1 hb2 hb hz hz2 hW1 hW2 hs1
 by_cases hl : r.length = s.length
 rotate_left
 ·have hq : ((r.length : Int) != (s.length : Int)) = true := by rw [bne_iff_ne]; omega
  have HV := Lib.hid (sameP_len (o := o) (p := p) hl)
  clear hl
  go_enter Tryz.func110, Tryz.ntmps110
  go_wp2_with (rw [← HW.out])
  go_ret
  exact ⟨ret_bool HV.out.symm, HB.out⟩
 ·have hq : ((r.length : Int) != (s.length : Int)) = false := by rw [hl]; simp
  have HL := Lib.hid hl
  clear hl
  cases hso : sameQ o p with
  | false =>
   have HV := Lib.hid (sameP_own (r := r) (s := s) hso)
   have HSO := Lib.hid hso
   clear hso
   go_enter Tryz.func110, Tryz.ntmps110
   go_wp2_with (rw [← HW.out])
   with_reducible refine (rSame23_is _ _ o p false W2 HO.out HP.out HSO.out).mono ?_
   rintro e w3 ⟨rfl, hb3⟩
   have HB3 := Lib.hid (below_later HB.out (Nat.le_refl _) hb3)
   clear hb3
   go_wp2_with fail
   go_ret
   exact ⟨ret_bool HV.out.symm, HB3.out⟩
  | true =>
   have HSO := Lib.hid hso
   clear hso
   go_enter Tryz.func110, Tryz.ntmps110
   go_wp2_with (rw [← HW.out])
   with_reducible refine (rSame23_is _ _ o p true W2 HO.out HP.out HSO.out).mono ?_
   rintro e w3 ⟨rfl, hb3⟩
   have HB3 := Lib.hid hb3
   have HB4 := Lib.hid (below_later HB.out (Nat.le_refl _) hb3)
   have c0 := below_cell hb3 c0
   have c2 := below_cell hb3 c2
   have HR := Lib.hid (HR.out.below hb3)
   have HS := Lib.hid (HS.out.below hb3)
   clear hb3 c1 c3
   go_wp2_with fail
   go_loopw [5] (fun i W => ∃ k : Nat, k ≤ r.length ∧ i = .int .i64 k ∧ Hid (∀ j (h1 : j < r.length) (h2 : j < s.length), j < k → r[j] = s[j]) ∧ Below w3.heap.size w3 W) (fun i _ => r.length - (intOf i).toNat)
   case atStart => exact ⟨0, Nat.zero_le _, rfl, Lib.hid fun j _ _ h => absurd h (Nat.not_lt_zero _), Below.refl _ _⟩
   case round =>
    obtain ⟨k, hkl, rfl, HPR, hb⟩ := hrel
    have HBW := Lib.hid hb
    have y0 := below_cell hb c0
    have y2 := below_cell hb c2
    by_cases hlt : k < r.length
    ·obtain ⟨a1, cc1, e1, -, -, hk1⟩ := HR.out
     obtain ⟨b1, o1, v1, ea1, q1, i1⟩ := hk1 k hlt
     simp only [Value.slice.injEq] at e1
     obtain ⟨rfl, -, -⟩ := e1
     subst ea1
     have hls2 : k < s.length := by rw [← HL.out]; exact hlt
     obtain ⟨a2, cc2, e2, -, -, hk2⟩ := HS.out
     obtain ⟨b2, o2, v2, ea2, q2, i2⟩ := hk2 k hls2
     simp only [Value.slice.injEq] at e2
     obtain ⟨rfl, -, -⟩ := e2
     subst ea2
     have y1 := below_cell hb q1
     have y3 := below_cell hb q2
     have HI1 := Lib.hid (i1.below hb)
     have HI2 := Lib.hid (i2.below hb)
     have j0 : (0 : Int) ≤ (k : Int) := by omega
     have j1 : (k : Int) < (r.length : Int) := by omega
     have j2 : (k : Int) < (s.length : Int) := by omega
     clear hk1 hk2 i1 i2 q1 q2 hb
     cases he : sameQ r[k] s[k] with
     | false =>
      have HV := Lib.hid (sameP_at (o := o) (p := p) hlt hls2 he)
      have HE := Lib.hid he
      clear he
      have y0d : wr.drew.cell? ⟨w.heap.size, 0, none⟩ = some (.slice (some ⟨b1, o1, none⟩) r.length cr) := y0
      have y1d : wr.drew.cell? ⟨b1, o1 + k, none⟩ = some v1 := y1
      have y2d : wr.drew.cell? ⟨w.heap.size + 1, 0, none⟩ = some (.slice (some ⟨b2, o2, none⟩) s.length cs) := y2
      have y3d : wr.drew.cell? ⟨b2, o2 + k, none⟩ = some v2 := y3
      have HBD := Lib.hid (below_later HB4.out (Nat.le_refl _) HBW.out.drew)
      go_wp2_with fail
      go_region_held3 (fun w' => w'.cell? ⟨w.heap.size, 0, none⟩ = some (.slice (some ⟨b1, o1, none⟩) r.length cr) ∧ w'.cell? ⟨w.heap.size + 1, 0, none⟩ = some (.slice (some ⟨b2, o2, none⟩) s.length cs) ∧ w'.cell? ⟨b1, o1 + k, none⟩ = some v1 ∧ w'.cell? ⟨b2, o2 + k, none⟩ = some v2) (go_keep)
       ((go_at_call 173; with_reducible refine (rSame23_is _ _ r[k] s[k] false _ HI1.out.drew HI2.out.drew HE.out).mono ?_; rintro e w6 ⟨rfl, hb7⟩; have k0 := below_cell hb7 y0d; have k1 := below_cell hb7 y1d; have k2 := below_cell hb7 y2d; have k3 := below_cell hb7 y3d))
      go_wp2_with fail
      go_ret
      exact ⟨ret_bool HV.out.symm, below_later HBD.out (Nat.le_refl _) hb7⟩
     | true =>
      have HN := Lib.hid (show ∀ j (h1 : j < r.length) (h2 : j < s.length), j < k + 1 → r[j] = s[j] from fun j h1 h2 h3 => by
       by_cases e : j = k
       ·subst e; exact of_decide_eq_true he
       ·exact HPR.out j h1 h2 (by omega))
      have HE := Lib.hid he
      clear he
      have y0d : wr.drew.cell? ⟨w.heap.size, 0, none⟩ = some (.slice (some ⟨b1, o1, none⟩) r.length cr) := y0
      have y1d : wr.drew.cell? ⟨b1, o1 + k, none⟩ = some v1 := y1
      have y2d : wr.drew.cell? ⟨w.heap.size + 1, 0, none⟩ = some (.slice (some ⟨b2, o2, none⟩) s.length cs) := y2
      have y3d : wr.drew.cell? ⟨b2, o2 + k, none⟩ = some v2 := y3
      have HBD := Lib.hid HBW.out.drew
      go_wp2_with fail
      go_region_held3 (fun w' => w'.cell? ⟨w.heap.size, 0, none⟩ = some (.slice (some ⟨b1, o1, none⟩) r.length cr) ∧ w'.cell? ⟨w.heap.size + 1, 0, none⟩ = some (.slice (some ⟨b2, o2, none⟩) s.length cs) ∧ w'.cell? ⟨b1, o1 + k, none⟩ = some v1 ∧ w'.cell? ⟨b2, o2 + k, none⟩ = some v2) (go_keep)
       ((go_at_call 173; with_reducible refine (rSame23_is _ _ r[k] s[k] true _ HI1.out.drew HI2.out.drew HE.out).mono ?_; rintro e w6 ⟨rfl, hb7⟩; have k0 := below_cell hb7 y0d; have k1 := below_cell hb7 y1d; have k2 := below_cell hb7 y2d; have k3 := below_cell hb7 y3d))
      go_wp2_with fail
      go_roundw
      case rel => exact ⟨k + 1, by omega, by go_num, HN, below_later HBD.out (Nat.le_refl _) hb7⟩
      case measure => simp [intOf]; omega
    ·have HV := Lib.hid (sameP_all (o := o) (p := p) HL.out HSO.out fun j h1 h2 => HPR.out j h1 h2 (by omega))
     have HF := Lib.hid (below_later HB4.out (Nat.le_refl _) HBW.out)
     obtain rfl : k = r.length := by omega
     clear hb
     go_wp2_with fail
     go_ret
     exact ⟨ret_bool HV.out.symm, HF.out⟩
end Go.Proofs.YtggnipkfliompaaGreatDoor
namespace Go.Proofs.YtggnipkfliompaaGreatDoor
open Go.RowKit FP
theorem rHas_any (v : Value) (l : List Int) (n : Int) (w : World) (hI : Ints w v l) :
  Calls Tryz.prog 39 #[v, .int .i64 n] w fun e w' => e = .returned (.bool (decide (n ∈ l))) ∧ w = w' := by
 have HC := Lib.hid (fun k (hk : k < l.length) => hI.get hk)
 obtain ⟨a, cap, rfl, -, hlen, -⟩ := hI
 go_enter Tryz.func39, Tryz.ntmps39
 go_wp2_with fail
 go_loopw [5] (fun i W => ∃ k : Nat, k ≤ l.length ∧ i = .int .i64 k ∧ Hid (∀ z ∈ l.take k, decide (z = n) = false) ∧ W = w) (fun i _ => l.length - (intOf i).toNat)
 case atStart => exact ⟨0, Nat.zero_le _, rfl, Lib.hid (by simp), rfl⟩
 case round =>
  obtain ⟨k, hkl, rfl, HP, rfl⟩ := hrel
  by_cases hlt : k < l.length
  ·obtain ⟨-, b, off, n9, k9, e9, q9⟩ := HC.out k hlt
   simp only [Value.slice.injEq] at e9
   obtain ⟨rfl, -, -⟩ := e9
   have i0 : 0 ≤ (k : Int) := by omega
   have i1 : (k : Int) < (l.length : Int) := by omega
   have hnt : nth l k = l[k] := nth_at hlt
   rw [hnt] at q9
   by_cases en : l[k] = n
   ·have HVV : Hid (decide (n ∈ l) = true) := Lib.hid (decide_eq_true (by rw [← en]; exact List.getElem_mem hlt))
    have he : (l[k] == n) = true := beq_iff_eq.2 en
    clear en hnt
    generalize l[k] = z at *
    go_wp2_with fail
    go_ret
    exact ⟨ret_bool HVV.out.symm, rfl⟩
   ·have HN := Lib.hid (take_next hlt HP.out (decide_eq_false en))
    have he : (l[k] == n) = false := beq_eq_false_iff_ne.2 en
    clear en hnt
    generalize l[k] = z at *
    go_wp2_with fail
    go_roundw
    case rel => exact ⟨k + 1, by omega, by go_num, HN, by trivial⟩
    case measure => simp [intOf]; omega
  ·have HL := Lib.hid (any_of_take hlt HP.out)
   have HVV : Hid (decide (n ∈ l) = false) := Lib.hid (decide_eq_false (fun hm => by
    have := HL.out
    rw [List.any_eq_false] at this
    exact this n hm (by simp)))
   have hdk : decide (k < l.length) = false := decide_eq_false hlt
   go_wp2_with fail
   go_ret
   exact ⟨ret_bool HVV.out.symm, rfl⟩
theorem rCols_any (rv ov : Value) (rows : List (List Int)) (w : World) (hR : Rows2 w rv rows) (ho : ∃ a n c, ov = .slice a n c) :
  Calls Tryz.prog 46 #[.agg #[rv, ov]] w fun e w' => e = .returned (.int .i64 (colsQ rows)) ∧ Below w.heap.size w w' := by
 obtain ⟨oa, on, oc, rfl⟩ := ho
 obtain ⟨W1, hW1, hb1, hr1, hz⟩ := box_prog w rv (.slice oa on oc) 25
 have HR := Lib.hid (hR.below hb1)
 obtain ⟨a, cap, rfl, -, hlen, -⟩ := id hR
 have c0 : W1.cell? ⟨w.heap.size, 0, none⟩ = some (.slice a rows.length cap) := row_cell hr1 rfl
 have HB := Lib.hid hb1
 have HW := Lib.hid hW1
 clear hR hr1 hb1 hW1 hz
 by_cases h0 : rows.length = 0
 ·have hq : ((rows.length : Int) == 0) = true := by rw [h0]; rfl
  have HV : Hid ((1 : Int) = (colsQ rows : Int)) := Lib.hid (by obtain rfl : rows = [] := List.length_eq_zero_iff.1 h0; rfl)
  clear h0
  go_enter Tryz.func46, Tryz.ntmps46
  go_wp2_with (rw [← HW.out])
  go_ret
  exact ⟨ret_int HV.out, HB.out⟩
 ·have hq : ((rows.length : Int) == 0) = false := beq_eq_false_iff_ne.2 (by omega)
  obtain ⟨a9, c9, e9, -, -, hk⟩ := HR.out
  obtain ⟨b, off, r, ea, hc, hr⟩ := hk 0 (by omega)
  simp only [Value.slice.injEq] at e9
  obtain ⟨rfl, -, -⟩ := e9
  subst ea
  obtain ⟨a8, c8, rfl, -⟩ := id hr
  have HV : Hid ((rows[0].length : Int) = (colsQ rows : Int)) := Lib.hid (by
   cases rows with
   | nil => exact absurd rfl h0
   | cons x t => rfl)
  rw [Nat.add_zero] at hc
  have i0 : (0 : Int) < (rows.length : Int) := by omega
  clear hk hr
  generalize rows[0].length = m at *
  go_enter Tryz.func46, Tryz.ntmps46
  go_wp2_with (rw [← HW.out])
  go_ret
  exact ⟨ret_int HV.out, HB.out⟩
def pplAt (l : List Int) (k : Nat) : Bool := inB (nth l k) 0 63 && (decide (k = 0) || decide (nth l (k - 1) < nth l k))
theorem peopleB_step {l : List Int} {k : Nat} (hk : k < l.length) (h : peopleB (-1) (l.take k) = true) : peopleB (-1) (l.take (k + 1)) = pplAt l k := by
 rw [peopleB_take hk, h, Bool.true_and]
 unfold pplAt
 rw [nth_at hk]
 cases e : inB l[k] 0 63 with
 | false => rfl
 | true =>
  rw [Bool.true_and, Bool.true_and]
  have h0 := inB_iff.1 e
  cases k with
  | zero =>
   rw [List.take_zero]
   show decide ((-1 : Int) < l[0]) = _
   rw [decide_eq_true (by omega)]; rfl
  | succ k =>
   rw [lastP_take (by omega), Nat.add_sub_cancel, nth_at (by omega)]
   simp
theorem rPeople_any (v : Value) (l : List Int) (w : World) (hI : Ints w v l) :
  Calls Tryz.prog 42 #[v] w fun e w' => e = .returned (.bool (peopleB (-1) l)) ∧ Below w.heap.size w w' := by
 have HC := Lib.hid (fun k (hk : k < l.length) => hI.get hk)
 obtain ⟨a, cap, rfl, -, hlen, -⟩ := hI
 go_enter Tryz.func42, Tryz.ntmps42
 go_wp2_with fail
 go_loopw [3] (fun i W => ∃ k : Nat, k ≤ l.length ∧ i = .int .i64 k ∧ Hid (peopleB (-1) (l.take k) = true) ∧ Below w.heap.size w W) (fun i _ => l.length - (intOf i).toNat)
 case atStart => exact ⟨0, Nat.zero_le _, rfl, Lib.hid rfl, Below.refl _ _⟩
 case round =>
  obtain ⟨k, hkl, rfl, HP, hb⟩ := hrel
  by_cases hlt : k < l.length
  ·obtain ⟨hr9, b, off, n9, k9, e9, q9⟩ := HC.out k hlt
   simp only [Value.slice.injEq] at e9
   obtain ⟨rfl, -, -⟩ := e9
   have HST := Lib.hid (peopleB_step hlt HP.out)
   have HBD := Lib.hid (fun (h : pplAt l k = false) => peopleB_bad (l := l) (last := -1) (k := k) ((peopleB_step hlt HP.out).trans h))
   have y0 := below_cell hb q9
   have i0 : 0 ≤ (k : Int) := by omega
   have i1 : (k : Int) < (l.length : Int) := by omega
   obtain ⟨x, hx⟩ : ∃ x, x = nth l k := ⟨_, rfl⟩
   have HX := Lib.hid hx
   rw [← hx] at y0 hr9
   have HBW := Lib.hid hb
   clear hx q9 hb
   by_cases h0 : x < 0
   ·have d0 : decide (x < 0) = true := decide_eq_true h0
    have HV := Lib.hid (HBD.out (by unfold pplAt; rw [← HX.out, show inB x 0 63 = false from by cases e : inB x 0 63 with | false => rfl | true => have := inB_iff.1 e; omega]; rfl))
    clear h0
    go_wp2_with fail
    go_quiet (fail)
    go_wp2_with fail
    go_ret
    exact ⟨ret_bool HV.out.symm, below_drewN HBW.out _⟩
   ·have d0 : decide (x < 0) = false := decide_eq_false h0
    by_cases h64 : 64 ≤ x
    ·have d1 : decide (64 ≤ x) = true := decide_eq_true h64
     have HV := Lib.hid (HBD.out (by unfold pplAt; rw [← HX.out, show inB x 0 63 = false from by cases e : inB x 0 63 with | false => rfl | true => have := inB_iff.1 e; omega]; rfl))
     clear h0 h64
     go_wp2_with fail
     go_quiet (fail)
     go_wp2_with fail
     go_ret
     exact ⟨ret_bool HV.out.symm, below_drewN HBW.out _⟩
    ·have d1 : decide (64 ≤ x) = false := decide_eq_false h64
     have hin : inB x 0 63 = true := inB_iff.2 ⟨by omega, by omega⟩
     by_cases hk0 : k = 0
     ·have d2 : decide (0 < k) = false := decide_eq_false (by omega)
      have HN := Lib.hid (HST.out.trans (by unfold pplAt; rw [← HX.out, hin, decide_eq_true hk0]))
      clear h0 h64 hin hk0
      go_wp2_with fail
      go_quiet (fail)
      go_wp2_with fail
      go_roundw
      case rel => exact ⟨k + 1, by omega, by go_num, HN, below_drewN HBW.out _⟩
      case measure => simp [intOf]; omega
     ·have d2 : decide (0 < k) = true := decide_eq_true (by omega)
      obtain ⟨j, hj⟩ : ∃ j, j = k - 1 := ⟨_, rfl⟩
      have hw : IntKind.i64.wrap ((k : Int) - 1) = (j : Int) := by rw [IntKind.wrap_i64]; omega
      have HJ := Lib.hid hj
      obtain ⟨hr8, b2, off2, n8, k8, e8, q8⟩ := HC.out j (by omega)
      simp only [Value.slice.injEq, Option.some.injEq, Addr.mk.injEq] at e8
      obtain ⟨⟨rfl, rfl, -⟩, -, -⟩ := e8
      have j0 : 0 ≤ (j : Int) := by omega
      have j1 : (j : Int) < (l.length : Int) := by omega
      obtain ⟨y, hy⟩ : ∃ y, y = nth l j := ⟨_, rfl⟩
      have HY := Lib.hid hy
      rw [← hy] at q8 hr8
      have y1 := below_cell HBW.out q8
      have HK0 := Lib.hid hk0
      clear hy q8 hj
      by_cases hle : x ≤ y
      ·have d3 : decide (x ≤ y) = true := decide_eq_true hle
       have HV := Lib.hid (HBD.out (by unfold pplAt; rw [← HX.out, hin, ← HJ.out, ← HY.out, decide_eq_false HK0.out, decide_eq_false (by omega)]; rfl))
       clear h0 h64 hin hk0 hle
       go_wp2_with fail
       go_quiet (fail)
       go_wp2_with fail
       go_ret
       exact ⟨ret_bool HV.out.symm, below_drewN HBW.out _⟩
      ·have d3 : decide (x ≤ y) = false := decide_eq_false hle
       have HN := Lib.hid (HST.out.trans (by unfold pplAt; rw [← HX.out, hin, ← HJ.out, ← HY.out, decide_eq_true (show y < x by omega), Bool.or_true]))
       clear h0 h64 hin hk0 hle
       go_wp2_with fail
       go_quiet (fail)
       go_wp2_with fail
       go_roundw
       case rel => exact ⟨k + 1, by omega, by go_num, HN, below_drewN HBW.out _⟩
       case measure => simp [intOf]; omega
  ·have HL : Hid (peopleB (-1) l = true) := Lib.hid (by have := HP.out; rwa [List.take_of_length_le (by omega)] at this)
   have hdk : decide (k < l.length) = false := decide_eq_false hlt
   have HBW := Lib.hid hb
   clear hb
   go_wp2_with fail
   go_ret
   exact ⟨ret_bool HL.out.symm, HBW.out⟩
end Go.Proofs.YtggnipkfliompaaGreatDoor
namespace Go.Proofs.YtggnipkfliompaaGreatDoor
open Go.RowKit FP
end Go.Proofs.YtggnipkfliompaaGreatDoor
namespace Go.Proofs.YtggnipkfliompaaGreatDoor
open Go.RowKit FP
end Go.Proofs.YtggnipkfliompaaGreatDoor
namespace Go.Proofs.YtggnipkfliompaaGreatDoor
open Go.RowKit FP
end Go.Proofs.YtggnipkfliompaaGreatDoor
namespace Go.Proofs.YtggnipkfliompaaGreatDoor
open Go.RowKit FP
end Go.Proofs.YtggnipkfliompaaGreatDoor
