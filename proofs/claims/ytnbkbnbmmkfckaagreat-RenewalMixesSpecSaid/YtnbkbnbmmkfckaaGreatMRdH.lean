/- The reference of dealing: Deal, whatever comes of it. The reference of dealing: Recover, where it refuses; the append of a row in a drawn region. The reference of dealing: two rows of a call's own, side by side. -/
import Derived.Test.YtnbkbnbmmkfckaaGreatMRdE
import Derived.Test.YtnbkbnbmmkfckaaGreatMRegIn
namespace Go.Proofs.YtnbkbnbmmkfckaaGreat
open Go.RowKit FP

end Go.Proofs.YtnbkbnbmmkfckaaGreat

namespace Go.Proofs.YtnbkbnbmmkfckaaGreat
open Go.RowKit FP

set_option maxRecDepth 100000 in
set_option maxHeartbeats 4000000 in
theorem rRecover_no (rv ov lv : Value) (rows : List (List Int)) (owners : List Int) (l : List (Int × Int)) (w : World) (hR : Rows2 w rv rows) (hO : Ints w ov owners) (hL : Shares w lv l) (he : recE rows owners l ≠ 0) :
    Calls Tryz.prog 46 #[.agg #[rv, ov], lv] w fun r w' => r = .returned (.tuple #[.int .i64 (recV rows owners l), .bool (recB rows owners l), .int .i64 (recE rows owners l)]) ∧ Below w.heap.size w w' := by
  have HW : Hid (recB rows owners l = false) := Lib.hid (by unfold recB; rw [decide_eq_false he]; rfl)
  have HX : Hid (recV rows owners l = 0) := Lib.hid (by unfold recV; rw [HW.out]; rfl)
  obtain ⟨W1, hW1, hb1, hr1, hz⟩ := box_prog w rv ov 25
  have HR1 := Lib.hid (hR.below hb1)
  have HO1 := Lib.hid (hO.below hb1)
  have HL1 := Lib.hid (hL.below hb1)
  have HPC := Lib.hid (rpCheck_any rv ov rows owners W1 HR1.out HO1.out)
  obtain ⟨a, cap, rfl, -, hlen, -⟩ := id hR
  obtain ⟨a2, cap2, rfl, -, hlen2, -⟩ := id hO
  obtain ⟨a3, cap3, rfl, -, hlen3, -⟩ := id hL
  have c0 : W1.cell? ⟨w.heap.size, 0, none⟩ = some (.slice a rows.length cap) := row_cell hr1 rfl
  have c1 : W1.cell? ⟨w.heap.size, 1, none⟩ = some (.slice a2 owners.length cap2) := row_cell hr1 rfl
  have HW1 := Lib.hid hW1
  have HB1 := Lib.hid hb1
  clear hR hO hL hr1 hW1 hb1
  by_cases hp : progE rows owners = 0
  · have HSF : Hid (sharesB rows (-1) l = false) := Lib.hid (by
      cases e : sharesB rows (-1) l with
      | false => rfl
      | true => exact absurd (by unfold recE; rw [if_neg (by simp [hp]), if_pos e]) he)
    have HV : Hid (recE rows owners l = 340) := Lib.hid (by unfold recE; rw [if_neg (by simp [hp]), HSF.out]; rfl)
    rw [hp] at HPC
    clear hp he
    go_enter Tryz.func46, Tryz.ntmps46
    go_wp2_with fail
    rw [← HW1.out]
    refine HPC.out.mono ?_
    rintro r w2 ⟨rfl, hb2⟩
    have d0 := below_cell hb2 c0
    have d1 := below_cell hb2 c1
    have HR2 := Lib.hid (HR1.out.below hb2)
    have HO2 := Lib.hid (HO1.out.below hb2)
    have HL2 := Lib.hid (HL1.out.below hb2)
    have HB2 := Lib.hid (HB1.out.trans (hb2.mono HB1.out.size))
    clear hb2
    go_wp2_with fail
    refine (rShares_any _ _ _ rows owners l _ HR2.out HO2.out HL2.out).mono ?_
    rintro r w3 ⟨rfl, hb3⟩
    rw [HSF.out]
    go_wp2_with fail
    go_ret3
    exact ⟨by rw [HV.out, HW.out, HX.out]; rfl, HB2.out.trans (hb3.mono HB2.out.size)⟩
  · have HV : Hid (recE rows owners l = progE rows owners) := Lib.hid (by unfold recE; rw [if_pos hp])
    have h2 : (progE rows owners != 0) = true := bne_iff_ne.2 hp
    clear he
    go_enter Tryz.func46, Tryz.ntmps46
    go_wp2_with fail
    rw [← HW1.out]
    refine HPC.out.mono ?_
    rintro r w2 ⟨rfl, hb2⟩
    go_wp2_with fail
    go_ret3
    exact ⟨by rw [HV.out, HW.out, HX.out]; rfl, HB1.out.trans (hb2.mono HB1.out.size)⟩

end Go.Proofs.YtnbkbnbmmkfckaaGreat

namespace Go.Proofs.YtnbkbnbmmkfckaaGreat
open Go.RowKit FP

set_option maxRecDepth 100000 in
/-- One integer is appended; where the row lies then. -/
theorem app_int_lies {ops : Array Oper} {rest : List Oper} {o : Oper} {a : Act} {Q : Exit → Act → World → Prop} {W : World} (hgd : o.guard = none) (s x : Operand) (ho : o.op = .call { callee := .builtin .append, args := #[s, x], argTypes := #[23, 23] })
    (base n : Nat) (v : Value) (xs : List Value) (hs : a.eval s = v) (hown : W.ownsRow base 3 1 v n xs) (b c : Nat) (z : Int) (hx : a.eval x = .slice (some ⟨b, 0, none⟩) 1 c) (hcell : W.cell? ⟨b, 0, none⟩ = some (.int .i64 z)) (hn : n ≤ 1000000) (hbase : base ≤ W.heap.size)
    (h : ∀ g cap w', w'.ownsRow base 3 1 (.slice (some ⟨g, 0, none⟩) (n + 1) cap) (n + 1) (xs ++ [.int .i64 z]) → W.grownBy w' v.ownBlock → (v.ownBlock = some g ∨ g = W.heap.size) → wpList Tryz.prog ops Q rest (a.put o.dst (.slice (some ⟨g, 0, none⟩) (n + 1) cap)) w') : wpList Tryz.prog ops Q (o :: rest) a W := by
  obtain ⟨i0, hi0, hz0, hz1, hz2⟩ := info_parts infoInt
  refine wpList_append_lies _ hgd s x 23 ho base 3 i0 (.int .i64 0) 1 8 Tryz.underlying23 hi0 hz0 hz1 hz2 rfl (by decide) v n xs hs hown ⟨b, 0, none⟩ 1 c [.int .i64 z] hx rfl ?_ ?_ (by decide) ?_ ?_ hbase W.heap.size rfl ?_
  · intro j u hu
    cases j with
    | zero => simp at hu; subst hu; rw [add_off]; exact hcell
    | succ j => simp at hu
  · simp [Value.oneCell']
  · unfold maxLen; omega
  · omega
  · intro g cap w' h1 h2 h3 _
    exact h g cap w' h1 h2 h3

set_option maxRecDepth 100000 in
set_option maxHeartbeats 8000000 in
theorem rRecover_yes (rv ov lv : Value) (rows : List (List Int)) (owners : List Int) (l : List (Int × Int)) (w : World) (hR : Rows2 w rv rows) (hO : Ints w ov owners) (hL : Shares w lv l) (hp : progE rows owners = 0) (hS : sharesB rows (-1) l = true) :
    Calls Tryz.prog 46 #[.agg #[rv, ov], lv] w fun r w' => r = .returned (.tuple #[.int .i64 (recV rows owners l), .bool (recB rows owners l), .int .i64 (recE rows owners l)]) ∧ Below w.heap.size w w' := by
  have HV : Hid (recE rows owners l = 0) := Lib.hid (by unfold recE; rw [if_neg (by simp [hp]), if_pos hS])
  have HPO := Lib.hid (progE_ok hp)
  have HSA := Lib.hid hS
  obtain ⟨W1, hW1, hb1, hr1, hz⟩ := box_prog w rv ov 25
  have HR1 := Lib.hid (hR.below hb1)
  have HO1 := Lib.hid (hO.below hb1)
  have HL1 := Lib.hid (hL.below hb1)
  have HPC := Lib.hid (rpCheck_any rv ov rows owners W1 HR1.out HO1.out)
  rw [hp] at HPC
  obtain ⟨a, cap, rfl, -, hlen, -⟩ := id hR
  obtain ⟨a2, cap2, rfl, -, hlen2, -⟩ := id hO
  obtain ⟨a3, cap3, rfl, -, hlen3, -⟩ := id hL
  have c0 : W1.cell? ⟨w.heap.size, 0, none⟩ = some (.slice a rows.length cap) := row_cell hr1 rfl
  have c1 : W1.cell? ⟨w.heap.size, 1, none⟩ = some (.slice a2 owners.length cap2) := row_cell hr1 rfl
  have HW1 := Lib.hid hW1
  have HB1 := Lib.hid hb1
  clear hR hO hL hr1 hW1 hb1 hp hS
  go_enter Tryz.func46, Tryz.ntmps46
  go_wp2_with fail
  rw [← HW1.out]
  refine HPC.out.mono ?_
  rintro r w2 ⟨rfl, hb2⟩
  have d0 := below_cell hb2 c0
  have d1 := below_cell hb2 c1
  have HR2 := Lib.hid (HR1.out.below hb2)
  have HO2 := Lib.hid (HO1.out.below hb2)
  have HL2 := Lib.hid (HL1.out.below hb2)
  have HB2 := Lib.hid (HB1.out.trans (hb2.mono HB1.out.size))
  clear hb2 c0 c1 HR1 HO1 HL1 HPC
  go_wp2_with fail
  refine (rShares_any _ _ _ rows owners l _ HR2.out HO2.out HL2.out).mono ?_
  rintro r w3 ⟨rfl, hb3⟩
  rw [HSA.out]
  have x0 := below_cell hb3 d0
  have x1 := below_cell hb3 d1
  have HR3 := Lib.hid (HR2.out.below hb3)
  have HO3 := Lib.hid (HO2.out.below hb3)
  have HL3 := Lib.hid (HL2.out.below hb3)
  have HB3 := Lib.hid (HB2.out.trans (hb3.mono HB2.out.size))
  clear hb3 d0 d1 HR2 HO2 HL2
  obtain ⟨aa, cc, g, e1, hgs, hgr⟩ := rows_vals HR3.out
  simp only [Value.slice.injEq] at e1
  obtain ⟨rfl, -, rfl⟩ := e1
  have HGS := Lib.hid hgs
  have HGR := Lib.hid hgr
  clear hgs hgr
  have hn0 := below_new w3 #[] 23
  have hn1 := below_new (w3.alloc (.cells #[] 23)) #[] 3
  have hn01 := hn0.trans (hn1.mono hn0.size)
  have hs1 : (w3.alloc (.cells #[] 23)).heap.size = w3.heap.size + 1 := by simp
  have ho1 : ((w3.alloc (.cells #[] 23)).alloc (.cells #[] 3)).ownsRow w3.heap.size 23 1 (.slice (some ⟨w3.heap.size, 0, none⟩) 0 0) 0 ((List.range 0).map fun j => g (l.getD j (0, 0)).1.toNat) := own_keep (World.ownsRow_made w3 #[] 0 (Nat.le_refl _) (by unfold maxLen; omega) rfl) hn1
  have ho2 : ((w3.alloc (.cells #[] 23)).alloc (.cells #[] 3)).ownsRow w3.heap.size 3 1 (.slice (some ⟨w3.heap.size + 1, 0, none⟩) 0 0) 0 (((l.take 0).map Prod.snd).map (Value.int .i64)) := by
    have := World.ownsRow_made (e := 3) (size := 1) (base := w3.heap.size) (w3.alloc (.cells #[] 23)) #[] 0 (by simp) (by unfold maxLen; omega) rfl
    rw [hs1] at this; exact this
  have hap : ∀ q, (Value.slice (some ⟨w3.heap.size, 0, none⟩) 0 0).ownBlock = some q → (Value.slice (some ⟨w3.heap.size + 1, 0, none⟩) 0 0).ownBlock ≠ some q := fun q h1 h2 => by
    have e1 : w3.heap.size = q := by injection h1
    have e2 : w3.heap.size + 1 = q := by injection h2
    omega
  clear hn0 hn1 hs1
  go_wp2_with fail
  go_loopw [8, 9, 10] (fun R V i W => ∃ k : Nat, k ≤ l.length ∧ i = .int .i64 k ∧ W.ownsRow w3.heap.size 23 1 R k ((List.range k).map fun j => g (l.getD j (0, 0)).1.toNat) ∧ W.ownsRow w3.heap.size 3 1 V k (((l.take k).map Prod.snd).map (Value.int .i64)) ∧ (∀ q, R.ownBlock = some q → V.ownBlock ≠ some q) ∧ Below w3.heap.size w3 W) (fun _ _ i _ => l.length - (intOf i).toNat)
  case atStart => exact ⟨0, Nat.zero_le _, rfl, ho1, ho2, hap, hn01⟩
  case round =>
    clear ho1 ho2 hap hn01
    obtain ⟨k, hkl, rfl, hown1, hown2, hap, hb⟩ := hrel
    by_cases hlt : k < l.length
    · obtain ⟨al, cl, e1, -, -, hr64, hk⟩ := HL3.out
      obtain ⟨b, off, ha, q0, q1⟩ := hk k hlt
      simp only [Value.slice.injEq] at e1
      obtain ⟨rfl, -, rfl⟩ := e1
      subst ha
      have hin := (rightS_iff.1 ((sharesB_all HSA.out).1 _ (List.getElem_mem hlt))).1
      have hll := sharesB_len HSA.out
      have hfew := HPO.out.few
      obtain ⟨n, hn⟩ : ∃ n : Nat, l[k].1 = n := ⟨l[k].1.toNat, by omega⟩
      have hnl : n < rows.length := by omega
      obtain ⟨rb, ro, har, qr, -⟩ := HGR.out n hnl
      subst har
      obtain ⟨hx, hm, hc, hgn⟩ := HGS.out n
      have HG1 : Hid ((List.range (k + 1)).map (fun j => g (l.getD j (0, 0)).1.toNat) = (List.range k).map (fun j => g (l.getD j (0, 0)).1.toNat) ++ [.slice hx hm hc]) := Lib.hid (by rw [range_snoc, getD_at hlt, hn, Int.toNat_natCast, hgn])
      have HG2 : Hid (((l.take (k + 1)).map Prod.snd).map (Value.int .i64) = ((l.take k).map Prod.snd).map (Value.int .i64) ++ [.int .i64 l[k].2]) := Lib.hid (by rw [List.take_succ_eq_append_getElem hlt, List.map_append, List.map_append]; rfl)
      rw [hgn] at qr
      rw [hn] at q0
      have y0 := below_cell hb q0
      have y1 := below_cell hb q1
      have yr := below_cell hb qr
      have z0 := below_cell hb x0
      have HBW := Lib.hid hb
      have HOR := Lib.hid hown1
      have HOV := Lib.hid hown2
      have HAP := Lib.hid hap
      have i0 : 0 ≤ (k : Int) := by omega
      have i1 : (k : Int) < (l.length : Int) := by omega
      have i2 : 0 ≤ (n : Int) := by omega
      have i3 : (n : Int) < (rows.length : Int) := by omega
      have hk6 : k ≤ 1000000 := by omega
      clear hk hr64 hb hown1 hown2 hap hin hgn hn
      generalize l[k].2 = v1 at *
      go_wp2_with fail
      have hbd : Below wr.heap.size wr (wr.alloc (.cells #[.slice hx hm hc] 23)).drew := ((Below.refl _ _).alloc (Nat.le_refl _) _).drew
      have HOK := Lib.hid (own_keep HOR.out hbd)
      have HOV2 := Lib.hid (own_keep HOV.out hbd)
      have HCN : Hid ((wr.alloc (.cells #[.slice hx hm hc] 23)).drew.cell? ⟨wr.heap.size, 0, none⟩ = some (.slice hx hm hc)) := Lib.hid (cell_new1 _ _ _)
      have HBD := Lib.hid (HBW.out.trans (hbd.mono HBW.out.size))
      have HBS := Lib.hid HBD.out.size
      have hzz : (wr.alloc (.cells #[.slice hx hm hc] 23)).drew.heap.size = wr.heap.size + 1 := by simp
      have HZZ := Lib.hid hzz
      have HVL := Lib.hid (own_lt HOV.out)
      clear hbd hzz
      have HFAR : Hid (∀ w9, (wr.alloc (.cells #[.slice hx hm hc] 23)).drew.grownBy w9 u8.ownBlock → Below w3.heap.size w3 w9) := Lib.hid (fun w9 hg => HBD.out.trans (own_below HOK.out hg HBS.out))
      go_region_held3 (fun w' => w'.cell? ⟨w.heap.size, 0, none⟩ = some (.slice (some ⟨rb, ro, none⟩) rows.length cap) ∧ w'.cell? ⟨b, off + k * 2, none⟩ = some (.int .i64 n) ∧ w'.cell? ⟨rb, ro + n, none⟩ = some (.slice hx hm hc)) (first | go_keep | exact ⟨t0, t1, t2⟩)
        (first
          | (refine step_app_row (by rfl) _ _ (by rfl) w3.heap.size k _ _ (by rfl) HOK.out wr.heap.size 1 (.slice hx hm hc) (by rfl) HCN.out (by rfl) hk6 HBS.out (wr.heap.size + 1) HZZ.out ?_; intro g9 cap9 w9 h9 hg9 hat9 hlt9; have t0 := below_cell (HFAR.out w9 hg9) x0; have t1 := below_cell (HFAR.out w9 hg9) q0; have t2 := below_cell (HFAR.out w9 hg9) qr; have t3 := below_cell (HFAR.out w9 hg9) q1; have H9 := Lib.hid h9; have HG9 := Lib.hid hg9; have HAT := Lib.hid hat9; clear h9 hg9 hat9))
      have hov9 := own_apart HOV2.out HG9.out (fun q h1 h2 => HAP.out q h2 h1)
      have hb9 := HFAR.out w9 HG9.out
      have hap9 : ∀ q, (Value.slice (some ⟨g9, 0, none⟩) (k + 1) cap9).ownBlock = some q → u9.ownBlock ≠ some q := fun q h1 h2 => by
        have e1 : g9 = q := by injection h1
        subst e1
        rcases HAT.out with h | h
        · exact HAP.out g9 h h2
        · have := (HVL.out g9 h2).2; omega
      have hbn := below_new w9 #[.int .i64 v1] 3
      have HOX := Lib.hid (own_keep hov9 hbn)
      have H9X := Lib.hid (own_keep H9.out hbn)
      have HB9 := Lib.hid (hb9.trans (hbn.mono hb9.size))
      have HBS9 := Lib.hid HB9.out.size
      have HQ0 : Hid ((w9.alloc (.cells #[.int .i64 v1] 3)).cell? ⟨w9.heap.size, 0, none⟩ = some (.int .i64 v1)) := Lib.hid (row_cell (World.alloc_heap_new _ _) rfl)
      have HAP9 := Lib.hid hap9
      have HGL := Lib.hid (own_lt H9.out)
      have hzz : (w9.alloc (.cells #[.int .i64 v1] 3)).heap.size = w9.heap.size + 1 := by simp
      have HZ9 := Lib.hid hzz
      clear hov9 hb9 hap9 hbn hzz
      go_wp2_with (refine app_int_lies rfl _ _ rfl w3.heap.size k _ _ rfl HOX.out w9.heap.size 1 v1 rfl HQ0.out hk6 HBS9.out ?_; intro g10 cap10 w10 h10 hg10 hat10; have H10 := Lib.hid h10; have HG10 := Lib.hid hg10; have HAT10 := Lib.hid hat10; clear h10 hg10 hat10)
      go_roundw
      case rel =>
        refine ⟨k + 1, by omega, by go_num, ?_, by rw [HG2.out]; exact H10.out, ?_, HB9.out.trans (own_below HOX.out HG10.out HBS9.out)⟩
        · rw [HG1.out]; exact own_apart H9X.out HG10.out HAP9.out
        · intro q h1 h2
          have e2 : g10 = q := by injection h2
          subst e2
          rcases HAT10.out with h | h
          · exact HAP9.out g10 h1 h
          · have := (HGL.out g10 h1).2; have := HZ9.out; omega
      case measure => simp [intOf]; omega
    · obtain rfl : k = l.length := by omega
      have hdk : decide (l.length < l.length) = false := decide_eq_false (by omega)
      have hll := sharesB_len HSA.out
      have hfew := HPO.out.few
      have hll2 : l.length ≤ 64 := by omega
      have hr64 : ∀ p ∈ l, R64 p.1 ∧ R64 p.2 := by obtain ⟨_, _, _, _, _, h, _⟩ := HL3.out; exact h
      have HIN := Lib.hid (fun p hp => (rightS_iff.1 ((sharesB_all HSA.out).1 p hp)).1)
      have HRW := Lib.hid (Rows2.own (rows := rowsOf rows l) hown1 (by simp [rowsOf]) (by simp [rowsOf]; omega) (by
        intro j h1 h2
        have hj : j < l.length := by simpa [rowsOf] using h1
        have hin := HIN.out _ (List.getElem_mem hj)
        have hnl : l[j].1.toNat < rows.length := by omega
        obtain ⟨_, _, _, _, hI⟩ := HGR.out _ hnl
        have e1 : (rowsOf rows l)[j] = rows[l[j].1.toNat] := by simp only [rowsOf, List.getElem_map]; exact getD_at hnl []
        rw [e1, List.getElem_map, List.getElem_range, getD_at hj]
        exact hI.below hb))
      rw [List.take_length] at hown2
      have HVW := Lib.hid (Ints.own (zs := valsOf l) hown2 (by
        intro z hz
        obtain ⟨p, hp, rfl⟩ := List.mem_map.1 hz
        exact (hr64 p hp).2) (by simp [valsOf]; omega))
      have HRX := Lib.hid (HR3.out.below hb)
      have HOX := Lib.hid (HO3.out.below hb)
      have HBX := Lib.hid (HB3.out.trans (hb.mono HB3.out.size))
      have y0 := below_cell hb x0
      have y1 := below_cell hb x1
      have hc1 := HPO.out.cols
      have hc2 := HPO.out.cols_le
      have HRT := Lib.hid (rowsOf_right HPO.out HSA.out)
      have HEX := Lib.hid (examErr_right HRT.out (tgt_num _) (by rw [tgt_len]; exact HPO.out.cols_le))
      have HYL := Lib.hid (show (rcombY (rowsOf rows l) (tgt (colsQ rows))).length = l.length by rw [rcombY_len]; simp [rowsOf])
      obtain ⟨ru, rc, hu8, -⟩ := id HRW.out
      obtain ⟨vu, vc, hu9, -⟩ := id HVW.out
      rw [hu8] at HRW
      rw [hu9] at HVW
      obtain ⟨wl, hwl⟩ : ∃ wl : World, wl = wr := ⟨_, rfl⟩
      rw [← hwl] at HRW HVW HRX HOX HBX y0 y1 ⊢
      subst hu8 hu9
      clear hown1 hown2 hap hb hwl hr64 HGR HGS HR3 HO3 HL3 HB3 x0 x1
      go_wp2_with fail
      refine (rTarget_any _ _ rows owners _ HRX.out HOX.out hc1 hc2).mono ?_
      rintro e w5 ⟨tv, rfl, ht, hb5⟩
      have HT5 := Lib.hid ht
      have HR5 := Lib.hid (HRW.out.below hb5)
      have HV5 := Lib.hid (HVW.out.below hb5)
      have HB5 := Lib.hid (HBX.out.trans (hb5.mono HBX.out.size))
      clear ht hb5 y0 y1
      go_wp2_with fail
      refine (rCombine_any _ _ (rowsOf rows l) (tgt (colsQ rows)) _ HR5.out HT5.out).mono ?_
      rintro e w6 ⟨yv, rfl, hy, hb6⟩
      rw [HEX.out] at hy ⊢
      have HV6 := Lib.hid (HV5.out.below hb6)
      have HB6 := Lib.hid (HB5.out.trans (hb6.mono HB5.out.size))
      have HRO := Lib.hid (show recOk rows l = rcombOk (rowsOf rows l) (tgt (colsQ rows)) from rfl)
      have HRY := Lib.hid (show recY rows l = rcombY (rowsOf rows l) (tgt (colsQ rows)) from rfl)
      clear hb6
      cases hok : rcombOk (rowsOf rows l) (tgt (colsQ rows)) with
      | false =>
        have HW : Hid (recB rows owners l = false) := Lib.hid (by unfold recB; rw [HRO.out, hok]; simp)
        have HX : Hid (recV rows owners l = 0) := Lib.hid (by unfold recV; rw [HW.out]; rfl)
        rw [hok] at hy
        rw [if_neg (by rintro ⟨-, h⟩; cases h)] at hy
        obtain ⟨ya, yc, rfl, -⟩ := id hy
        clear hy hok
        go_wp2_with fail
        go_ret3
        exact ⟨by rw [HV.out, HW.out, HX.out]; rfl, HB6.out⟩
      | true =>
        have HW : Hid (recB rows owners l = true) := Lib.hid (by unfold recB; rw [HRO.out, hok, HV.out]; rfl)
        have HX : Hid (recV rows owners l = prodQ (rcombY (rowsOf rows l) (tgt (colsQ rows))) (valsOf l)) := Lib.hid (by unfold recV; rw [if_pos HW.out, HRY.out])
        rw [hok] at hy
        rw [if_pos ⟨rfl, rfl⟩] at hy
        have HP := Lib.hid (rProduct34_any _ _ _ (valsOf l) _ hy HV6.out (by rw [HYL.out]; simp [valsOf]))
        obtain ⟨ya, yc, rfl, -⟩ := id hy
        clear hy hok
        go_wp2_with fail
        refine HP.out.mono ?_
        rintro e w7 ⟨rfl, hb7⟩
        go_wp2_with fail
        go_ret3
        exact ⟨by rw [HV.out, HW.out, HX.out]; rfl, HB6.out.trans (hb7.mono HB6.out.size)⟩

set_option maxRecDepth 100000 in
theorem rRecover_any (rv ov lv : Value) (rows : List (List Int)) (owners : List Int) (l : List (Int × Int)) (w : World) (hR : Rows2 w rv rows) (hO : Ints w ov owners) (hL : Shares w lv l) :
    Calls Tryz.prog 46 #[.agg #[rv, ov], lv] w fun r w' => r = .returned (.tuple #[.int .i64 (recV rows owners l), .bool (recB rows owners l), .int .i64 (recE rows owners l)]) ∧ Below w.heap.size w w' := by
  by_cases he : recE rows owners l = 0
  · by_cases hp : progE rows owners = 0
    · cases hs : sharesB rows (-1) l with
      | true => exact rRecover_yes rv ov lv rows owners l w hR hO hL hp hs
      | false => unfold recE at he; rw [if_neg (by simp [hp]), hs] at he; cases he
    · unfold recE at he; rw [if_pos hp] at he; exact absurd he hp
  · exact rRecover_no rv ov lv rows owners l w hR hO hL he

end Go.Proofs.YtnbkbnbmmkfckaaGreat
