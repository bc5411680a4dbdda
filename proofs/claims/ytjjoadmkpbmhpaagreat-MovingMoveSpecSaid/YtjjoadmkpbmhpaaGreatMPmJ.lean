/- The reference of package program: Own, Target. The reference of package program: Refuses, Accepts. -/
import Derived.Test.YtjjoadmkpbmhpaaGreatMMvF
import Derived.Test.YtjjoadmkpbmhpaaGreatMPmH
namespace Go.Proofs.YtjjoadmkpbmhpaaGreat
open Go.RowKit FP

set_option maxRecDepth 100000 in
set_option maxHeartbeats 4000000 in
theorem rTarget23_any (n : Nat) (w : World) (h1 : 1 ≤ n) (h2 : n ≤ 64) :
    Calls Tryz.prog 98 #[.int .i64 n] w fun e w' => ∃ a, e = .returned (.slice (some ⟨a, 0, none⟩) n n) ∧ Ints w' (.slice (some ⟨a, 0, none⟩) n n) (tgt n) ∧ Below w.heap.size w w' := by
  have hmk := run_ints n (by omega)
  have n1 : (0 : Int) < (n : Int) := by omega
  have hm0 : (madeCells #[.int .i64 0] n)[0]? = some (.int .i64 0) := by
    have h := (IBlk.made w n 3).cell 0 (by omega)
    rwa [World.cell?_alloc_at _ _ _ _ rfl] at h
  obtain ⟨C, hC⟩ : ∃ C, C = (madeCells #[.int .i64 0] n).setIfInBounds 0 (.int .i64 1) := ⟨_, rfl⟩
  have hib : IBlk (w.alloc (.cells C 3)) w.heap.size n tgtF := by
    have h1 := (IBlk.made w n 3).set (k := 0) 1
    have h2 : (w.alloc (.cells (madeCells #[.int .i64 0] n) 3)).setCell ⟨w.heap.size, 0, none⟩ (.int .i64 1) = w.alloc (.cells C 3) := by rw [hC]; simp [go_sem]
    rw [h2] at h1
    exact h1
  have hti := hib.ints (c := n) (Nat.le_refl _) (by omega) (fun i _ => by unfold tgtF; split <;> exact R64.mk (by omega) (by omega))
  have HT4 : Hid (Ints (w.alloc (.cells C 3)) (.slice (some ⟨w.heap.size, 0, none⟩) n n) (tgt n)) := Lib.hid hti
  have HB4 := Lib.hid (below_new w C 3)
  have HC := Lib.hid hC
  clear hib hti hC
  go_enter Tryz.func98, Tryz.ntmps98
  go_wp2_with fail
  rw [← HC.out]
  go_ret
  exact ⟨_, rfl, HT4.out, HB4.out⟩

set_option maxRecDepth 100000 in
set_option maxHeartbeats 4000000 in
theorem rOwn23_any (rv ov wv : Value) (rows : List (List Int)) (owners who : List Int) (w : World) (hR : Rows2 w rv rows) (hO : Ints w ov owners) (hW : Ints w wv who) (hl : rows.length = owners.length) (h64 : rows.length ≤ 64) :
    Calls Tryz.prog 97 #[.agg #[rv, ov], wv] w fun e w' => ∃ a c, e = .returned (.slice a (pownR rows owners who).length c) ∧ Rows2 w' (.slice a (pownR rows owners who).length c) (pownR rows owners who) ∧ Below w.heap.size w w' := by
  obtain ⟨W1, hW1, hb1, hr1, hz⟩ := box_prog w rv ov 25
  have HO := Lib.hid (hO.below hb1)
  have HW := Lib.hid (hW.below hb1)
  obtain ⟨a1, k1, g, rfl, hgs, hg⟩ := rows_vals (hR.below hb1)
  have HG := Lib.hid hg
  have HGS := Lib.hid hgs
  obtain ⟨a2, k2, rfl, -, hl2, -⟩ := id hO
  have c0 : W1.cell? ⟨w.heap.size, 0, none⟩ = some (.slice a1 rows.length k1) := row_cell hr1 rfl
  have c1 : W1.cell? ⟨w.heap.size, 1, none⟩ = some (.slice a2 owners.length k2) := row_cell hr1 rfl
  have HW1 := Lib.hid hW1
  have HB := Lib.hid hb1
  have h00 : W1.ownsRow W1.heap.size 23 1 (.slice none 0 0) (ownL owners who 0).length ((ownL owners who 0).map g) := World.ownsRow_nil _ _ _ _
  have HL := Lib.hid hl
  clear hR hO hW hr1 hW1 hb1 hz hg hgs hl
  go_enter Tryz.func97, Tryz.ntmps97
  go_wp2_with (rw [← HW1.out])
  go_loopw [5, 6] (fun L i W => ∃ k : Nat, k ≤ rows.length ∧ i = .int .i64 k ∧ W.ownsRow W1.heap.size 23 1 L (ownL owners who k).length ((ownL owners who k).map g) ∧ Below W1.heap.size W1 W) (fun _ i _ => rows.length - (intOf i).toNat)
  case atStart => exact ⟨0, Nat.zero_le _, rfl, h00, Below.refl _ _⟩
  case round =>
    clear h00
    obtain ⟨k, hkl, rfl, hown, hb⟩ := hrel
    have HBW := Lib.hid hb
    have HBS := Lib.hid hb.size
    have HOW := Lib.hid hown
    have y0 := below_cell hb c0
    have y1 := below_cell hb c1
    have HWJ := Lib.hid (HW.out.below hb)
    have hlen := ownL_len owners who k
    clear hown
    by_cases hlt : k < rows.length
    · obtain ⟨-, bo, oo, _, _, eo, qo⟩ := HO.out.get (k := k) (by have := HL.out; omega)
      simp only [Value.slice.injEq] at eo
      obtain ⟨rfl, -, -⟩ := eo
      obtain ⟨bb, ob, rfl, qr, ir⟩ := HG.out k hlt
      obtain ⟨x, n, c, eg⟩ := HGS.out k
      have y3 := below_cell hb qo
      have y4 := below_cell hb qr
      rw [eg] at y4
      have HEG := Lib.hid eg
      have j0 : (0 : Int) ≤ (k : Int) := by omega
      have j1 : (k : Int) < (rows.length : Int) := by omega
      have j3 : (k : Int) < (owners.length : Int) := by have := HL.out; omega
      have HLN := Lib.hid (show (ownL owners who k).length ≤ 1000000 by omega)
      clear ir qo qr hb eg
      by_cases ho : nth owners k ∈ who
      · have HT : Hid (ownL owners who (k + 1) = ownL owners who k ++ [k]) := Lib.hid (ownL_yes ho)
        have HD : Hid (decide (nth owners k ∈ who) = true) := Lib.hid (decide_eq_true ho)
        clear ho
        generalize nth owners k = o at *
        have hbn := below_new wr #[.slice x n c] 23
        have HOX := Lib.hid (own_keep HOW.out hbn)
        have HQ0 := Lib.hid (show (wr.alloc (.cells #[.slice x n c] 23)).cell? ⟨wr.heap.size, 0, none⟩ = some (.slice x n c) from row_cell (World.alloc_heap_new _ _) rfl)
        have HB9 := Lib.hid (HBW.out.trans (hbn.mono HBW.out.size))
        have HBS9 := Lib.hid HB9.out.size
        clear hbn
        go_wp2_with fail
        with_reducible refine (rHas_any _ who o _ HWJ.out).mono ?_
        rintro e w9 ⟨rfl, rfl⟩
        rw [HD.out]
        go_wp2_with (refine app_row_at rfl _ _ rfl W1.heap.size (ownL owners who k).length _ _ rfl HOX.out wr.heap.size 1 x n c rfl HQ0.out HLN.out HBS9.out ?_; intro v9 w9 h9 o9; have H9 := Lib.hid h9; have O9 := Lib.hid o9; clear h9 o9)
        go_roundw
        case rel => exact ⟨k + 1, by omega, by go_num, by rw [HT.out, List.length_append, List.map_append, List.map_singleton, HEG.out]; exact H9.out, HB9.out.trans (own_below HOX.out O9.out HBS9.out)⟩
        case measure => simp [intOf]; omega
      · have HT : Hid (ownL owners who (k + 1) = ownL owners who k) := Lib.hid (ownL_no ho)
        have HD : Hid (decide (nth owners k ∈ who) = false) := Lib.hid (decide_eq_false ho)
        clear ho
        generalize nth owners k = o at *
        go_wp2_with fail
        with_reducible refine (rHas_any _ who o _ HWJ.out).mono ?_
        rintro e w9 ⟨rfl, rfl⟩
        rw [HD.out]
        go_wp2_with fail
        go_roundw
        case rel => exact ⟨k + 1, by omega, by go_num, by rw [HT.out]; exact HOW.out, HBW.out⟩
        case measure => simp [intOf]; omega
    · have hk2 : k = rows.length := by omega
      have hdk : decide (k < rows.length) = false := decide_eq_false hlt
      have hpl : (pownR rows owners who).length = (ownL owners who k).length := by unfold pownR; rw [List.length_map, hk2]
      have HRR := Lib.hid (Rows2.own (rows := pownR rows owners who) HOW.out (by rw [List.length_map, hpl]) (by omega) (fun i h1 h2 => by
        have hi : i < (ownL owners who k).length := by rw [← hpl]; exact h1
        rw [List.getElem_map]
        have hi2 : i < (ownL owners who rows.length).length := by rw [← hk2]; exact hi
        have e2 : (pownR rows owners who)[i]'h1 = rows.getD ((ownL owners who rows.length)[i]'hi2) [] := by simp [pownR]
        have hm : (ownL owners who rows.length)[i]'hi2 < rows.length := (ownL_lt (List.getElem_mem _)).1
        have e : (ownL owners who k)[i] = (ownL owners who rows.length)[i]'hi2 := by simp only [hk2]
        rw [e2, getD_at hm, e]
        obtain ⟨_, _, _, _, h3⟩ := HG.out _ hm
        exact h3.below hb))
      have HF := Lib.hid (HB.out.trans (hb.mono HB.out.size))
      have HE := Lib.hid (own_sl HOW.out)
      have HPL := Lib.hid hpl
      clear hb hk2 hpl hlt
      go_wp2_with fail
      go_ret
      obtain ⟨a, c, e⟩ := HE.out
      rw [← HPL.out] at e
      have h := HRR.out
      rw [e] at h
      exact ⟨a, c, by rw [← e]; rfl, h, HF.out⟩

end Go.Proofs.YtjjoadmkpbmhpaaGreat

namespace Go.Proofs.YtjjoadmkpbmhpaaGreat
open Go.RowKit FP

theorem quest_cases (rows : List (List Int)) (owners who : List Int) : (progE rows owners ≠ 0 ∧ questE rows owners who = progE rows owners) ∨ (progE rows owners = 0 ∧ peopleB (-1) who = false ∧ questE rows owners who = 1) ∨ (progE rows owners = 0 ∧ peopleB (-1) who = true ∧ questE rows owners who = 0) := by
  unfold questE
  by_cases h : progE rows owners = 0
  · cases e : peopleB (-1) who with
    | true => exact .inr (.inr ⟨h, rfl, by rw [if_neg (by simp [h])]; rfl⟩)
    | false => exact .inr (.inl ⟨h, rfl, by rw [if_neg (by simp [h])]; rfl⟩)
  · exact .inl ⟨h, by rw [if_pos h]⟩
theorem accY_off {rows : List (List Int)} {owners who : List Int} (h : questE rows owners who ≠ 0) : accY rows owners who = [] := by unfold accY; rw [acc_off h]; rfl

theorem putF_hit {at_ : List Nat} {l : List Int} (hs : at_.Pairwise (· < ·)) : ∀ K, K ≤ at_.length → ∀ k, k < K → putF at_ l K (at_.getD k 0) = nth l k
  | 0, _, k, hk => absurd hk (Nat.not_lt_zero _)
  | K + 1, hK, k, hk => by
    show (if at_.getD k 0 = at_.getD K 0 then nth l K else putF at_ l K (at_.getD k 0)) = _
    by_cases e : k = K
    · subst e; rw [if_pos rfl]
    · rw [if_neg (fun h => by
        rw [getD_at (show k < at_.length by omega), getD_at (show K < at_.length by omega)] at h
        have := List.pairwise_iff_getElem.1 hs k K (by omega) (by omega) (by omega)
        omega)]
      exact putF_hit hs K (by omega) k (by omega)
def accF (rows : List (List Int)) (owners who l : List Int) (j : Nat) : Int := putF (ownL owners who rows.length) l (ownL owners who rows.length).length j
def accG (rows : List (List Int)) (owners who l : List Int) (i j : Nat) : Int := if j < i then accF rows owners who l j else 0
theorem accG_yes {rows : List (List Int)} {owners who l : List Int} {i : Nat} (hi : i < rows.length) (hm : nth owners i ∈ who) (j : Nat) : accG rows owners who l (i + 1) j = if j = i then nth l (ownL owners who i).length else accG rows owners who l i j := by
  unfold accG
  by_cases e : j = i
  · subst e
    rw [if_pos (Nat.lt_succ_self _), if_pos rfl]
    obtain ⟨h1, h2⟩ := ownL_at hi hm
    have h3 := putF_hit (l := l) (ownL_sorted owners who rows.length) _ (Nat.le_refl _) _ h2
    rw [h1] at h3
    exact h3
  · rw [if_neg e]
    by_cases h : j < i
    · rw [if_pos h, if_pos (by omega)]
    · rw [if_neg h, if_neg (by omega)]
theorem accG_no {rows : List (List Int)} {owners who l : List Int} {i : Nat} (hm : ¬ nth owners i ∈ who) (j : Nat) : accG rows owners who l (i + 1) j = accG rows owners who l i j := by
  unfold accG
  by_cases e : j = i
  · subst e
    rw [if_pos (Nat.lt_succ_self _), if_neg (Nat.lt_irrefl _)]
    unfold accF
    exact putF_out _ fun k hk h => hm (by
      rw [getD_at hk] at h
      rw [← h]
      exact (ownL_lt (List.getElem_mem hk)).2)
  · by_cases h : j < i
    · rw [if_pos h, if_pos (by omega)]
    · rw [if_neg h, if_neg (by omega)]

set_option maxRecDepth 100000 in
set_option maxHeartbeats 8000000 in
theorem rAccepts23_any (rv ov wv : Value) (rows : List (List Int)) (owners who : List Int) (w : World) (hR : Rows2 w rv rows) (hO : Ints w ov owners) (hW : Ints w wv who) :
    Calls Tryz.prog 56 #[.agg #[rv, ov], wv] w fun r w' => ∃ yv, r = .returned (.tuple #[yv, .bool (accOk rows owners who), .int .i64 (questE rows owners who)]) ∧ Ints w' yv (accY rows owners who) ∧ Below w.heap.size w w' := by
  obtain ⟨W1, hW1, hb1, hr1, hz⟩ := box_prog w rv ov 25
  have HR := Lib.hid (hR.below hb1)
  have HO := Lib.hid (hO.below hb1)
  have HW := Lib.hid (hW.below hb1)
  obtain ⟨a1, k1, rfl, -, hl1, -⟩ := id hR
  obtain ⟨a2, k2, rfl, -, hl2, -⟩ := id hO
  obtain ⟨a3, k3, rfl, -, hl3, -⟩ := id hW
  have c0 : W1.cell? ⟨w.heap.size, 0, none⟩ = some (.slice a1 rows.length k1) := row_cell hr1 rfl
  have c1 : W1.cell? ⟨w.heap.size, 1, none⟩ = some (.slice a2 owners.length k2) := row_cell hr1 rfl
  have HW1 := Lib.hid hW1
  have HB := Lib.hid hb1
  clear hR hO hW hr1 hW1 hb1 hz
  rcases quest_cases rows owners who with ⟨hp, hq⟩ | ⟨hp, hpe, hq⟩ | ⟨hp, hpe, hq⟩
  · have d1 : (progE rows owners != 0) = true := bne_iff_ne.2 hp
    have HV := Lib.hid (accY_off (rows := rows) (owners := owners) (who := who) (by rw [hq]; exact hp))
    have HV2 := Lib.hid (acc_off (rows := rows) (owners := owners) (who := who) (by rw [hq]; exact hp))
    rw [hq]
    clear hp hq
    go_enter Tryz.func56, Tryz.ntmps56
    go_wp2_with (rw [← HW1.out])
    refine (rpCheck_any _ _ rows owners _ HR.out HO.out).mono ?_
    rintro e w2 ⟨rfl, hb2⟩
    replace c0 := below_cell hb2 c0
    replace c1 := below_cell hb2 c1
    replace HR := Lib.hid (HR.out.below hb2)
    replace HO := Lib.hid (HO.out.below hb2)
    replace HW := Lib.hid (HW.out.below hb2)
    replace HB := Lib.hid (HB.out.trans (hb2.mono HB.out.size))
    clear hb2
    go_wp2_with fail
    go_ret3
    exact ⟨_, by rw [HV2.out]; rfl, by rw [HV.out]; exact Ints.nil _ _ _, HB.out⟩
  · have HV := Lib.hid (accY_off (rows := rows) (owners := owners) (who := who) (by rw [hq]; decide))
    have HV2 := Lib.hid (acc_off (rows := rows) (owners := owners) (who := who) (by rw [hq]; decide))
    have HP0 := Lib.hid hp
    have HPE := Lib.hid hpe
    rw [hq]
    clear hp hq hpe
    go_enter Tryz.func56, Tryz.ntmps56
    go_wp2_with (rw [← HW1.out])
    refine (rpCheck_any _ _ rows owners _ HR.out HO.out).mono ?_
    rintro e w2 ⟨rfl, hb2⟩
    replace c0 := below_cell hb2 c0
    replace c1 := below_cell hb2 c1
    replace HR := Lib.hid (HR.out.below hb2)
    replace HO := Lib.hid (HO.out.below hb2)
    replace HW := Lib.hid (HW.out.below hb2)
    replace HB := Lib.hid (HB.out.trans (hb2.mono HB.out.size))
    clear hb2
    rw [HP0.out]
    go_wp2_with fail
    refine (rPeople_any _ who _ HW.out).mono ?_
    rintro e w3 ⟨rfl, hb3⟩
    replace c0 := below_cell hb3 c0
    replace c1 := below_cell hb3 c1
    replace HR := Lib.hid (HR.out.below hb3)
    replace HO := Lib.hid (HO.out.below hb3)
    replace HW := Lib.hid (HW.out.below hb3)
    replace HB := Lib.hid (HB.out.trans (hb3.mono HB.out.size))
    clear hb3
    rw [HPE.out]
    go_wp2_with fail
    go_ret3
    exact ⟨_, by rw [HV2.out]; rfl, by rw [HV.out]; exact Ints.nil _ _ _, HB.out⟩
  · have HP := Lib.hid (progE_ok hp)
    have HC1 := Lib.hid HP.out.cols
    have HC2 := Lib.hid HP.out.cols_le
    have HLE := Lib.hid HP.out.len
    have HFE := Lib.hid HP.out.few
    have HEX := Lib.hid (pown_exam (who := who) HP.out)
    have HNU := Lib.hid (fun k hk => rcombY_num (pownR_right (who := who) HP.out) (tgt_num (colsQ rows)) (k := k) hk)
    have HV : Hid (accOk rows owners who = rcombOk (pownR rows owners who) (tgt (colsQ rows))) := Lib.hid (by unfold accOk; rw [decide_eq_true hq]; rfl)
    have HV2 : Hid (accY rows owners who = if accOk rows owners who = true then (List.range rows.length).map (accF rows owners who (rcombY (pownR rows owners who) (tgt (colsQ rows)))) else []) := Lib.hid rfl
    have HP0 := Lib.hid hp
    have HPE := Lib.hid hpe
    rw [hq]
    clear hp hq hpe
    go_enter Tryz.func56, Tryz.ntmps56
    go_wp2_with (rw [← HW1.out])
    refine (rpCheck_any _ _ rows owners _ HR.out HO.out).mono ?_
    rintro e w2 ⟨rfl, hb2⟩
    replace c0 := below_cell hb2 c0
    replace c1 := below_cell hb2 c1
    replace HR := Lib.hid (HR.out.below hb2)
    replace HO := Lib.hid (HO.out.below hb2)
    replace HW := Lib.hid (HW.out.below hb2)
    replace HB := Lib.hid (HB.out.trans (hb2.mono HB.out.size))
    clear hb2
    rw [HP0.out]
    go_wp2_with fail
    refine (rPeople_any _ who _ HW.out).mono ?_
    rintro e w3 ⟨rfl, hb3⟩
    replace c0 := below_cell hb3 c0
    replace c1 := below_cell hb3 c1
    replace HR := Lib.hid (HR.out.below hb3)
    replace HO := Lib.hid (HO.out.below hb3)
    replace HW := Lib.hid (HW.out.below hb3)
    replace HB := Lib.hid (HB.out.trans (hb3.mono HB.out.size))
    clear hb3
    rw [HPE.out]
    have hbd : Below w3.heap.size w3 w3.drew := (Below.refl _ _).drew
    replace HR := Lib.hid (HR.out.below hbd)
    replace HO := Lib.hid (HO.out.below hbd)
    replace HW := Lib.hid (HW.out.below hbd)
    replace HB := Lib.hid (HB.out.drew)
    clear hbd
    go_wp2_with fail
    go_region_held3 (fun w' => w'.cell? ⟨w.heap.size, 0, none⟩ = some (.slice a1 rows.length k1) ∧ w'.cell? ⟨w.heap.size, 1, none⟩ = some (.slice a2 owners.length k2)) (first | go_keep | exact ⟨c0, c1⟩)
      (first
        | (go_at_call 97; (with_reducible refine (rOwn23_any _ _ _ rows owners who _ HR.out HO.out HW.out HLE.out HFE.out).mono ?_); rintro e w4 ⟨oa, oc, rfl, hrr, hb4⟩; have HRR := Lib.hid hrr; clear hrr; (try (replace HTG := Lib.hid (HTG.out.below hb4))); replace c0 := below_cell hb4 c0; replace c1 := below_cell hb4 c1; replace HR := Lib.hid (HR.out.below hb4); replace HO := Lib.hid (HO.out.below hb4); replace HW := Lib.hid (HW.out.below hb4); replace HB := Lib.hid (HB.out.trans (hb4.mono HB.out.size)); clear hb4)
        | (go_at_call 58; (with_reducible refine (rCols_any _ _ rows _ HR.out ⟨_, _, _, rfl⟩).mono ?_); rintro e w5 ⟨rfl, hb5⟩; (try (replace HRR := Lib.hid (HRR.out.below hb5))); replace c0 := below_cell hb5 c0; replace c1 := below_cell hb5 c1; replace HR := Lib.hid (HR.out.below hb5); replace HO := Lib.hid (HO.out.below hb5); replace HW := Lib.hid (HW.out.below hb5); replace HB := Lib.hid (HB.out.trans (hb5.mono HB.out.size)); clear hb5)
        | (go_at_call 98; (with_reducible refine (rTarget23_any (colsQ rows) _ HC1.out HC2.out).mono ?_); rintro e w6 ⟨ta, rfl, htg, hb6⟩; have HTG := Lib.hid htg; clear htg; (try (replace HRR := Lib.hid (HRR.out.below hb6))); replace c0 := below_cell hb6 c0; replace c1 := below_cell hb6 c1; replace HR := Lib.hid (HR.out.below hb6); replace HO := Lib.hid (HO.out.below hb6); replace HW := Lib.hid (HW.out.below hb6); replace HB := Lib.hid (HB.out.trans (hb6.mono HB.out.size)); clear hb6)
        | (go_at_call 96; (with_reducible refine (rCombine_any _ _ (pownR rows owners who) (tgt (colsQ rows)) _ HRR.out HTG.out).mono ?_); rintro e w7 ⟨yv, rfl, hy, hb7⟩; have HY0 := Lib.hid hy; clear hy; replace c0 := below_cell hb7 c0; replace c1 := below_cell hb7 c1; replace HR := Lib.hid (HR.out.below hb7); replace HO := Lib.hid (HO.out.below hb7); replace HW := Lib.hid (HW.out.below hb7); replace HB := Lib.hid (HB.out.trans (hb7.mono HB.out.size)); clear hb7))
    rw [HEX.out] at HY0 ⊢
    rw [show (decide ((0 : Int) = 0) && rcombOk (pownR rows owners who) (tgt (colsQ rows))) = rcombOk (pownR rows owners who) (tgt (colsQ rows)) from by simp]
    cases hok : rcombOk (pownR rows owners who) (tgt (colsQ rows)) with
    | false =>
      rw [hok] at HV
      have HVK := Lib.hid HV.out
      clear hok
      go_wp2_with fail
      go_ret3
      exact ⟨_, by rw [HVK.out]; rfl, by rw [HV2.out, HVK.out]; exact Ints.nil _ _ _, HB.out⟩
    | true =>
      rw [hok] at HV HY0
      have HY : Hid (Ints w7 yv (rcombY (pownR rows owners who) (tgt (colsQ rows)))) := Lib.hid (by have h := HY0.out; rwa [if_pos ⟨rfl, rfl⟩] at h)
      clear HY0
      have HV3 : Hid (accY rows owners who = (List.range rows.length).map (accF rows owners who (rcombY (pownR rows owners who) (tgt (colsQ rows))))) := Lib.hid (HV2.out.trans (if_pos HV.out))
      have HVK := Lib.hid HV.out
      clear HV2
      have HYL : Hid ((rcombY (pownR rows owners who) (tgt (colsQ rows))).length = (ownL owners who rows.length).length) := Lib.hid (by rw [rcombY_len]; simp [pownR])
      have HPL : Hid ((pownR rows owners who).length = (ownL owners who rows.length).length) := Lib.hid (by simp [pownR])
      obtain ⟨L, hL⟩ : ∃ L, L = rcombY (pownR rows owners who) (tgt (colsQ rows)) := ⟨_, rfl⟩
      rw [← hL] at HY HV3 HYL HNU
      obtain ⟨ya, yc, rfl, -⟩ := id HY.out
      clear hok hL
      have hfe := HFE.out
      have hmk := run_ints rows.length (by omega)
      go_wp2_with fail
      have hib : IBlk (w7.alloc (.cells (madeCells #[.int .i64 0] rows.length) 3)) w7.heap.size rows.length (accG rows owners who L 0) := by
        have h := IBlk.made w7 rows.length 3
        exact ⟨fun i hi => (h.cell i hi).trans (by unfold accG; rw [if_neg (Nat.not_lt_zero _)]), h.fro⟩
      have hbn := below_new w7 (madeCells #[.int .i64 0] rows.length) 3
      go_loopw [12, 13] (fun c i W => ∃ k : Nat, k ≤ rows.length ∧ i = .int .i64 k ∧ c = .int .i64 (ownL owners who k).length ∧ IBlk W w7.heap.size rows.length (accG rows owners who L k) ∧ Below w7.heap.size w7 W ∧ w7.heap.size < W.heap.size) (fun _ i _ => rows.length - (intOf i).toNat)
      case atStart => exact ⟨0, Nat.zero_le _, rfl, rfl, hib, hbn, by simp⟩
      case round =>
        clear hib hbn
        obtain ⟨k, hkl, rfl, rfl, hib, hb, hsz⟩ := hrel
        have HIB := Lib.hid hib
        have HBW := Lib.hid hb
        have HSZ := Lib.hid hsz
        have y0 := below_cell hb c0
        have y1 := below_cell hb c1
        by_cases hlt : k < rows.length
        · obtain ⟨-, bo, oo, _, _, eo, qo⟩ := HO.out.get (k := k) (by have := HLE.out; omega)
          simp only [Value.slice.injEq] at eo
          obtain ⟨rfl, -, -⟩ := eo
          have y3 := below_cell hb qo
          have HWJ := Lib.hid (HW.out.below hb)
          have j0 : (0 : Int) ≤ (k : Int) := by omega
          have j1 : (k : Int) < (rows.length : Int) := by omega
          have j3 : (k : Int) < (owners.length : Int) := by have := HLE.out; omega
          have yw := hib.cell k hlt
          have yf := hib.fro k hlt
          clear qo hib hsz
          by_cases ho : nth owners k ∈ who
          · obtain ⟨hat1, hat2⟩ := ownL_at hlt ho
            have HT : Hid ((ownL owners who (k + 1)).length = (ownL owners who k).length + 1) := Lib.hid (by rw [ownL_yes ho]; simp)
            have HG := Lib.hid (accG_yes (l := L) hlt ho)
            have HD : Hid (decide (nth owners k ∈ who) = true) := Lib.hid (decide_eq_true ho)
            obtain ⟨-, bl, ol, _, _, el, ql⟩ := HY.out.get (k := (ownL owners who k).length) (by rw [HYL.out]; exact hat2)
            simp only [Value.slice.injEq] at el
            obtain ⟨rfl, -, -⟩ := el
            have y4 := below_cell hb ql
            have hq1 : (ownL owners who k).length < L.length := by rw [HYL.out]; exact hat2
            have hq2 := ownL_len owners who k
            clear ho hat1 hat2 ql hb
            generalize nth owners k = o at *
            obtain ⟨q, hq⟩ : ∃ q, q = (ownL owners who k).length := ⟨_, rfl⟩
            rw [← hq] at y4 hq1 hq2 HT HG ⊢
            have HQ := Lib.hid hq
            clear hq
            have q0 : (0 : Int) ≤ (q : Int) := by omega
            have q1 : (q : Int) < (L.length : Int) := by omega
            generalize nth L q = z at *
            go_wp2_with fail
            with_reducible refine (rHas_any _ who o _ HWJ.out).mono ?_
            rintro e w9 ⟨rfl, rfl⟩
            rw [HD.out]
            go_wp2_with fail
            go_roundw
            case rel =>
              refine ⟨k + 1, by omega, by go_num, by rw [HT.out]; go_num, ?_, HBW.out.setCell (Nat.le_refl _) _, by simpa [World.setCell] using HSZ.out⟩
              have h := HIB.out.set (k := k) z
              exact ⟨fun i hi => by rw [h.cell i hi, HG.out], h.fro⟩
            case measure => simp [intOf]; omega
          · have HT : Hid ((ownL owners who (k + 1)).length = (ownL owners who k).length) := Lib.hid (by rw [ownL_no ho])
            have HG := Lib.hid (accG_no (rows := rows) (l := L) ho)
            have HD : Hid (decide (nth owners k ∈ who) = false) := Lib.hid (decide_eq_false ho)
            clear ho hb
            generalize nth owners k = o at *
            go_wp2_with fail
            with_reducible refine (rHas_any _ who o _ HWJ.out).mono ?_
            rintro e w9 ⟨rfl, rfl⟩
            rw [HD.out]
            go_wp2_with fail
            go_roundw
            case rel =>
              refine ⟨k + 1, by omega, by go_num, by rw [HT.out], ?_, HBW.out, HSZ.out⟩
              exact ⟨fun i hi => by rw [HIB.out.cell i hi, HG.out], HIB.out.fro⟩
            case measure => simp [intOf]; omega
        · have hk2 : k = rows.length := by omega
          have hdk : decide (k < rows.length) = false := decide_eq_false hlt
          have HI := Lib.hid (hib.ints (c := rows.length) (Nat.le_refl _) (by have := HFE.out; omega) (fun i hi => by
            unfold accG
            split
            · exact num_r64 (put_num (fun k hk => HNU.out k (by rw [HPL.out]; exact hk)) _ (Nat.le_refl _))
            · exact R64.mk (by omega) (by omega)))
          have HE : Hid ((List.range rows.length).map (accG rows owners who L k) = (List.range rows.length).map (accF rows owners who L)) := Lib.hid (List.map_congr_left fun i hi => by
            unfold accG
            rw [if_pos (by have := List.mem_range.1 hi; omega)])
          have HF := Lib.hid (HB.out.trans (hb.mono HB.out.size))
          clear hb hib hk2 hlt
          go_wp2_with fail
          go_ret3
          exact ⟨_, by rw [HVK.out]; rfl, by rw [HV3.out, ← HE.out]; exact HI.out, HF.out⟩

end Go.Proofs.YtjjoadmkpbmhpaaGreat
