/- The laws of moving: holds. -/
import Derived.Test.YtjjoadmkpbmhpaaGreatMMvP
import Derived.Test.YtjjoadmkpbmhpaaGreatMRbP
namespace Go.Proofs.YtjjoadmkpbmhpaaGreat
open Go.RowKit FP

theorem quest_ok {rows : List (List Int)} {owners who : List Int} (hp : progE rows owners = 0) (hw : peopleB (-1) who = true) : questE rows owners who = 0 := by
  unfold questE; rw [if_neg (by simp [hp]), hw]; rfl

set_option maxRecDepth 100000 in
set_option maxHeartbeats 16000000 in
theorem holds39_any (ep : Int) (rv ov cv sv wv : Value) (rows : List (List Int)) (owners : List Int) (x : Int) (u who : List Int) (w : World) (hR : Rows2 w rv rows) (hO : Ints w ov owners) (hC : Ints w cv (dealC (x :: u))) (hS : Shares w sv (dealL rows (x :: u))) (hW : Ints w wv who) (h : DealOK rows owners x u) (hp : progE rows owners = 0) (hw : peopleB (-1) who = true) :
    Calls Tryz.prog 23 #[.agg #[.int .i64 ep, rv, ov, cv], sv, .int .i64 x, wv] w fun e w' => e = .returned (.bool true) ∧ Below w.heap.size w w' := by
  obtain ⟨W0, hW0, hb, hr0, hs0⟩ := box_key w (.int .i64 ep) rv ov cv 27
  have HR := Lib.hid (hR.below hb)
  have HO := Lib.hid (hO.below hb)
  have HC := Lib.hid (hC.below hb)
  have HS := Lib.hid (hS.below hb)
  have HWH := Lib.hid (hW.below hb)
  obtain ⟨a1, k1, rfl, -, hl1, -⟩ := id hR
  obtain ⟨a2, k2, rfl, -, hl2, -⟩ := id hO
  obtain ⟨a3, k3, rfl, -, hl3, -⟩ := id hC
  obtain ⟨a6, k6, rfl, -, hl6, -⟩ := id hS
  obtain ⟨a7, k7, rfl, -, hl7, -⟩ := id hW
  have Q1 := Lib.hid hr0
  have HW0 := Lib.hid hW0
  have HB := Lib.hid hb
  have HD := Lib.hid h
  have HP := Lib.hid hp
  have HWP := Lib.hid hw
  have HLR := Lib.hid h.prog.len
  have HFEW := Lib.hid h.prog.few
  have HX64 := Lib.hid (num_r64 h.hx)
  have hcl : (dealC (x :: u)).length = u.length + 1 := by rw [dealC_len]; rfl
  have HC0 : Hid (nth (dealC (x :: u)) 0 = powE 4 x) := Lib.hid (nth_mapv (f := powE 4) (l := x :: u) (by simp))
  rw [dealL_len] at hl6 ⊢
  rw [hcl] at hl3 hr0 HW0 Q1 HC ⊢
  obtain ⟨hc64, bC, oC, nC, cC, eC, qC⟩ := HC.out.get (k := 0) (by rw [hcl]; omega)
  simp only [Value.slice.injEq] at eC
  obtain ⟨rfl, -, -⟩ := eC
  rw [HC0.out, Nat.add_zero] at qC
  clear hR hO hC hS hW hb hr0 hW0 hs0 h hp hw hcl hc64
  have c0 := row_cell Q1.out (k := 0) rfl
  have c1 := row_cell Q1.out (k := 1) rfl
  have c2 := row_cell Q1.out (k := 2) rfl
  have c3 := row_cell Q1.out (k := 3) rfl
  go_enter Tryz.func23, Tryz.ntmps23
  go_wp2_with (rw [← HW0.out])
  with_reducible refine (pow_yes 4 x _ el_four HX64.out).mono ?_
  rintro e w1 ⟨rfl, hb1⟩
  replace c0 := below_cell hb1 c0
  replace c1 := below_cell hb1 c1
  replace c2 := below_cell hb1 c2
  replace c3 := below_cell hb1 c3
  replace qC := below_cell hb1 qC
  replace HR := Lib.hid (HR.out.below hb1)
  replace HO := Lib.hid (HO.out.below hb1)
  replace HC := Lib.hid (HC.out.below hb1)
  replace HS := Lib.hid (HS.out.below hb1)
  replace HWH := Lib.hid (HWH.out.below hb1)
  replace Q1 := Lib.hid ((hb1.block _ (row_lt Q1.out)).trans Q1.out)
  replace HB := Lib.hid (HB.out.trans (hb1.mono HB.out.size))
  clear hb1
  obtain ⟨p4, hp4⟩ : ∃ p, p = powE 4 x := ⟨_, rfl⟩
  rw [← hp4] at qC ⊢
  clear hp4
  have j1 : (0 : Int) < ((u.length + 1 : Nat) : Int) := by omega
  have j2 : ((((u.length + 1 : Nat) : Int)) == 0) = false := beq_eq_false_iff_ne.2 (by omega)
  have j3 : ((rows.length : Int) != (owners.length : Int)) = false := bne_eq_false_iff_eq.2 (by rw [HLR.out])
  have j4 : (((u.length : Int) + 1) == 0) = false := beq_eq_false_iff_ne.2 (by omega)
  go_wp2_with fail
  clear j1 j2 j3 j4 qC
  obtain ⟨wl, hwl⟩ : ∃ x, x = w1 := ⟨_, rfl⟩
  subst hwl
  go_loopw [11, 63] (fun T0 i V => ∃ (k : Nat) (T : Value), k ≤ rows.length ∧ T = T0 ∧ i = .int .i64 k ∧ Hid (V.ownsRow wl.heap.size 29 2 T (ownL owners who k).length ((selL rows (x :: u) (ownL owners who k)).flatMap shaC)) ∧ Hid (Below wl.heap.size wl V)) (fun _ i _ => rows.length - (intOf i).toNat)
  case atStart => exact ⟨0, _, Nat.zero_le _, rfl, rfl, Lib.hid (World.ownsRow_nil _ _ _ _), Lib.hid (Below.refl _ _)⟩
  case round =>
    obtain ⟨k, T, hkl, rfl, rfl, HOW, HBW⟩ := hrel
    replace c0 := below_cell HBW.out c0
    replace c1 := below_cell HBW.out c1
    replace c2 := below_cell HBW.out c2
    replace c3 := below_cell HBW.out c3
    replace HR := Lib.hid (HR.out.below HBW.out)
    replace HO := Lib.hid (HO.out.below HBW.out)
    replace HC := Lib.hid (HC.out.below HBW.out)
    replace HS := Lib.hid (HS.out.below HBW.out)
    replace HWH := Lib.hid (HWH.out.below HBW.out)
    replace Q1 := Lib.hid ((HBW.out.block _ (row_lt Q1.out)).trans Q1.out)
    replace HB := Lib.hid (HB.out.trans (HBW.out.mono HB.out.size))
    have hlr2 := HLR.out
    by_cases hlt : k < rows.length
    · obtain ⟨aS, cS, eS, -, -, -, hk1⟩ := HS.out
      obtain ⟨b1, o1, ea, y1, y2⟩ := hk1 k (by rw [dealL_len]; exact hlt)
      simp only [Value.slice.injEq] at eS
      obtain ⟨rfl, -, -⟩ := eS
      subst ea
      rw [dealL_at] at y1 y2
      simp only at y1 y2
      obtain ⟨val, hval⟩ : ∃ v, v = prodQ (rows.getD k []) (x :: u) := ⟨_, rfl⟩
      rw [← hval] at y2
      have HVAL := Lib.hid hval
      obtain ⟨W5, hW5, hb5, hr5, -⟩ := box_prog wr (.int .i64 (k : Int)) (.int .i64 val) 29
      have s0 := row_cell hr5 (k := 0) (v := .int .i64 (k : Int)) rfl
      have s1 := row_cell hr5 (k := 1) (v := .int .i64 val) rfl
      obtain ⟨hrk, bO, oO, nO, cO, eO, qO⟩ := HO.out.get (k := k) (by omega)
      simp only [Value.slice.injEq] at eO
      obtain ⟨rfl, -, -⟩ := eO
      have HW5 := Lib.hid hW5
      have HFT := Lib.hid (fit_deal HD.out HP.out hlt (v := val) (by rw [HVAL.out]; exact prodQ_num _ _))
      have HR64k : Hid (R64 (k : Int)) := Lib.hid (R64.mk (by have := HFEW.out; omega) (by have := HFEW.out; omega))
      have HR64v : Hid (R64 val) := Lib.hid (by rw [HVAL.out]; exact num_r64 (prodQ_num _ _))
      have i0 : (0 : Int) ≤ (k : Int) := by omega
      have i1 : (k : Int) < (owners.length : Int) := by omega
      have i2 : (k : Int) < (rows.length : Int) := by omega
      have hfew := HFEW.out
      clear hk1 hval hr5 hW5 hrk hlr2
      replace HOW := Lib.hid (own_keep HOW.out hb5)
      replace c0 := below_cell hb5 c0
      replace c1 := below_cell hb5 c1
      replace c2 := below_cell hb5 c2
      replace c3 := below_cell hb5 c3
      replace qO := below_cell hb5 qO
      replace HR := Lib.hid (HR.out.below hb5)
      replace HO := Lib.hid (HO.out.below hb5)
      replace HC := Lib.hid (HC.out.below hb5)
      replace HS := Lib.hid (HS.out.below hb5)
      replace HWH := Lib.hid (HWH.out.below hb5)
      replace Q1 := Lib.hid ((hb5.block _ (row_lt Q1.out)).trans Q1.out)
      replace HB := Lib.hid (HB.out.trans (hb5.mono HB.out.size))
      replace HBW := Lib.hid (HBW.out.trans (hb5.mono HBW.out.size))
      clear hb5
      go_wp2_with (rw [← HW5.out])
      clear y1 y2 HW5
      with_reducible refine (fits_any _ _ _ rows owners (dealC (x :: u)) (k : Int) val _ HR.out HO.out HC.out HR64k.out HR64v.out).mono ?_
      rintro e w8 ⟨rfl, hb8⟩
      rw [HFT.out.1, HFT.out.2, decide_eq_true HVAL.out]
      replace HOW := Lib.hid (own_keep HOW.out hb8)
      replace c0 := below_cell hb8 c0
      replace c1 := below_cell hb8 c1
      replace c2 := below_cell hb8 c2
      replace c3 := below_cell hb8 c3
      replace qO := below_cell hb8 qO
      replace s0 := below_cell hb8 s0
      replace s1 := below_cell hb8 s1
      replace HR := Lib.hid (HR.out.below hb8)
      replace HO := Lib.hid (HO.out.below hb8)
      replace HC := Lib.hid (HC.out.below hb8)
      replace HS := Lib.hid (HS.out.below hb8)
      replace HWH := Lib.hid (HWH.out.below hb8)
      replace Q1 := Lib.hid ((hb8.block _ (row_lt Q1.out)).trans Q1.out)
      replace HB := Lib.hid (HB.out.trans (hb8.mono HB.out.size))
      replace HBW := Lib.hid (HBW.out.trans (hb8.mono HBW.out.size))
      clear hb8
      go_wp2_with fail
      with_reducible refine (rHas_any _ who (nth owners k) _ HWH.out).mono ?_
      rintro e wq ⟨rfl, rfl⟩
      by_cases hin : nth owners k ∈ who
      rotate_left
      · have HT1 : Hid (ownL owners who (k + 1) = ownL owners who k) := Lib.hid (ownL_no hin)
        rw [decide_eq_false hin]
        clear hin
        go_wp2_with fail
        go_roundw
        case rel => exact ⟨k + 1, _, by omega, rfl, by go_num, by rw [HT1.out]; exact HOW, HBW⟩
        case measure => simp [intOf]; omega
      rw [decide_eq_true hin]
      have HT1 : Hid ((ownL owners who (k + 1)).length = (ownL owners who k).length + 1) := Lib.hid (by rw [ownL_yes hin, List.length_append]; rfl)
      have HT2 : Hid (selL rows (x :: u) (ownL owners who (k + 1)) = selL rows (x :: u) (ownL owners who k) ++ [((k : Int), val)]) := Lib.hid (by rw [ownL_yes hin]; unfold selL; rw [List.map_append, HVAL.out]; rfl)
      have hnl : (ownL owners who k).length ≤ 1000000 := by have := ownL_len owners who k; omega
      have HN := Lib.hid (below_new w8 #[.int .i64 (k : Int), .int .i64 val] 29)
      have HOX := Lib.hid (own_keep HOW.out HN.out)
      have hq0 := World.alloc_heap_new w8 (.cells #[.int .i64 (k : Int), .int .i64 val] 29)
      have HQ0 := Lib.hid (row_cell hq0 (k := 0) rfl)
      have HQ1 := Lib.hid (row_cell hq0 (k := 1) rfl)
      have HB9 := Lib.hid (HBW.out.trans (HN.out.mono HBW.out.size))
      have HBS := Lib.hid HB9.out.size
      clear hq0 hin
      go_wp2_with (refine app_share rfl _ _ rfl wl.heap.size _ (selL rows (x :: u) (ownL owners who k)) (ownL owners who k).length rfl HOX.out w8.heap.size 0 1 ((k : Int), val) rfl HQ0.out HQ1.out hnl HBS.out ?_; intro g8 cap8 w9 h9 o9; have H9 := Lib.hid h9; have O9 := Lib.hid o9; clear h9 o9)
      go_roundw
      case rel => exact ⟨k + 1, _, by omega, rfl, by go_num, by rw [HT1.out, HT2.out]; exact H9, Lib.hid (HB9.out.trans (own_below HOX.out O9.out.1 HBS.out))⟩
      case measure => simp [intOf]; omega
    · obtain rfl : k = rows.length := by omega
      have HOF : Hid (selL rows (x :: u) (ownL owners who rows.length) = ofQ owners who (dealL rows (x :: u))) := Lib.hid (of_deal HWP.out).symm
      have HSUB := Lib.hid (of_sub (rows := rows) (owners := owners) (who := who) (s := x :: u) HWP.out)
      have HOWN : Hid (Shares wr T (ofQ owners who (dealL rows (x :: u)))) := Lib.hid (by rw [← HOF.out]; exact Shares.own HOW.out (fun p hp => by obtain ⟨i, hi, rfl⟩ := List.mem_map.1 hp; have h1 := (ownL_lt hi).1; have h2 := HFEW.out; exact dealF_r64 rows _ (by omega)) (by rw [selL_len]; have h1 := ownL_len owners who rows.length; have h2 := HFEW.out; omega))
      have HRC := Lib.hid (part_rec (owners := owners) HP.out HD.out.nums HSUB.out)
      have HOKR := Lib.hid (of_ok (rows := rows) (owners := owners) (who := who) (s := x :: u) HP.out HWP.out)
      obtain ⟨ta, tk, rfl, -⟩ := id HOWN.out
      have hdk : decide (rows.length < rows.length) = false := decide_eq_false (by omega)
      clear HOW hlr2
      go_wp2_with fail
      clear hdk
      with_reducible refine (accepts_any _ _ _ rows owners who _ HR.out HO.out HWH.out).mono ?_
      rintro e w14 ⟨yv, rfl, hy, hb14⟩
      rw [quest_ok HP.out HWP.out]
      replace c0 := below_cell hb14 c0
      replace c1 := below_cell hb14 c1
      replace c2 := below_cell hb14 c2
      replace c3 := below_cell hb14 c3
      replace HR := Lib.hid (HR.out.below hb14)
      replace HO := Lib.hid (HO.out.below hb14)
      replace HC := Lib.hid (HC.out.below hb14)
      replace HS := Lib.hid (HS.out.below hb14)
      replace HWH := Lib.hid (HWH.out.below hb14)
      replace HOWN := Lib.hid (HOWN.out.below hb14)
      replace Q1 := Lib.hid ((hb14.block _ (row_lt Q1.out)).trans Q1.out)
      replace HB := Lib.hid (HB.out.trans (hb14.mono HB.out.size))
      clear hb14
      obtain ⟨ay, ky, rfl, -⟩ := id hy
      clear hy
      go_wp2_with fail
      with_reducible refine (recover_any _ _ _ rows owners _ _ HR.out HO.out HOWN.out).mono ?_
      rintro e w15 ⟨rfl, hb15⟩
      replace c0 := below_cell hb15 c0
      replace c1 := below_cell hb15 c1
      replace c2 := below_cell hb15 c2
      replace c3 := below_cell hb15 c3
      replace HR := Lib.hid (HR.out.below hb15)
      replace HO := Lib.hid (HO.out.below hb15)
      replace HC := Lib.hid (HC.out.below hb15)
      replace HS := Lib.hid (HS.out.below hb15)
      replace HWH := Lib.hid (HWH.out.below hb15)
      replace HOWN := Lib.hid (HOWN.out.below hb15)
      replace Q1 := Lib.hid ((hb15.block _ (row_lt Q1.out)).trans Q1.out)
      replace HB := Lib.hid (HB.out.trans (hb15.mono HB.out.size))
      clear hb15
      rw [HRC.out.1, HRC.out.2.1, HRC.out.2.2, HOKR.out]
      cases accOk rows owners who with
      | false =>
        go_wp2_with fail
        go_ret
        exact ⟨rfl, HB.out⟩
      | true =>
        rw [if_pos rfl, show nth (x :: u) 0 = x from rfl]
        go_wp2_with fail
        go_ret
        exact ⟨rfl, HB.out⟩

end Go.Proofs.YtjjoadmkpbmhpaaGreat
