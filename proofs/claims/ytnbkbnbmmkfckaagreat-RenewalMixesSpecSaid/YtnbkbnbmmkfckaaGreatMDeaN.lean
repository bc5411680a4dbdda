/- Package dealing: Recover. Dealing: the examples, reckoned; calls whose values are known. -/
import Derived.Test.YtnbkbnbmmkfckaaGreatMRange4
import Derived.Test.YtnbkbnbmmkfckaaGreatMLaF
namespace Go.Proofs.YtnbkbnbmmkfckaaGreat
open Go.RowKit FP

/-- The target of a program. -/
def tgtF (i : Nat) : Int := if i = 0 then 1 else 0
def tgt (n : Nat) : List Int := (List.range n).map tgtF
theorem tgt_len (n : Nat) : (tgt n).length = n := by simp [tgt]
theorem tgt_num (n : Nat) : ∀ z ∈ tgt n, 0 ≤ z ∧ z < 1073741789 := by
  intro z hz
  obtain ⟨i, -, rfl⟩ := List.mem_map.1 hz
  unfold tgtF; split <;> omega
/-- The error of shares. -/
def recE (rows : List (List Int)) (owners : List Int) (l : List (Int × Int)) : Int :=
  if progE rows owners ≠ 0 then progE rows owners else if sharesB rows (-1) l = true then 0 else 340
/-- Are shares enough, and what they recover. -/
def recY (rows : List (List Int)) (l : List (Int × Int)) : List Int := rcombY (rowsOf rows l) (tgt (colsQ rows))
def recOk (rows : List (List Int)) (l : List (Int × Int)) : Bool := rcombOk (rowsOf rows l) (tgt (colsQ rows))
def recB (rows : List (List Int)) (owners : List Int) (l : List (Int × Int)) : Bool := decide (recE rows owners l = 0) && recOk rows l
def recV (rows : List (List Int)) (owners : List Int) (l : List (Int × Int)) : Int := if recB rows owners l = true then prodQ (recY rows l) (valsOf l) else 0

theorem rowsOf_right {rows : List (List Int)} {owners : List Int} {l : List (Int × Int)} (hP : ProgOK rows owners) (hS : sharesB rows (-1) l = true) : Right (rowsOf rows l) (tgt (colsQ rows)).length := by
  rw [tgt_len]
  have hl := sharesB_len hS
  have hfew := hP.few
  have hall := (sharesB_all hS).1
  have hrow : ∀ r ∈ rowsOf rows l, ∃ k, ∃ hk : k < rows.length, r = rows[k] := by
    intro r hr
    obtain ⟨p, hp, rfl⟩ := List.mem_map.1 hr
    have h1 := (rightS_iff.1 (hall p hp)).1
    have hk : p.1.toNat < rows.length := by omega
    exact ⟨_, hk, getD_at hk []⟩
  refine ⟨by simp [rowsOf]; omega, .inl hP.cols_le, ?_, ?_⟩
  · intro r hr
    obtain ⟨k, hk, rfl⟩ := hrow r hr
    exact hP.row hk
  · intro r hr
    obtain ⟨k, hk, rfl⟩ := hrow r hr
    exact hP.right.num _ (List.getElem_mem hk)
theorem examErr_right {rows : List (List Int)} {t : List Int} (h : Right rows t.length) (ht : ∀ z ∈ t, 0 ≤ z ∧ z < 1073741789) (hl : t.length ≤ 64) : examErr rows t = 0 := by
  unfold examErr
  rw [if_pos (right_check h), if_pos (kind1_ok hl (any_odd_of ht)), if_pos]
  by_cases hr : rows = []
  · exact .inl (by rw [hr]; rfl)
  · exact .inr (right_wide h hr)

set_option maxRecDepth 100000 in
set_option maxHeartbeats 8000000 in
theorem recover_any (rv ov lv : Value) (rows : List (List Int)) (owners : List Int) (l : List (Int × Int)) (w : World) (hR : Rows2 w rv rows) (hO : Ints w ov owners) (hL : Shares w lv l) :
    Calls Tryz.prog 41 #[.agg #[rv, ov], lv] w fun r w' => r = .returned (.tuple #[.int .i64 (recV rows owners l), .bool (recB rows owners l), .int .i64 (recE rows owners l)]) ∧ Below w.heap.size w w' := by
  obtain ⟨W1, hW1, hb1, hr1, hz⟩ := box_prog w rv ov 25
  have HR1 := Lib.hid (hR.below hb1)
  have HO1 := Lib.hid (hO.below hb1)
  have HL1 := Lib.hid (hL.below hb1)
  have HPC := Lib.hid (pCheck_any rv ov rows owners W1 HR1.out HO1.out)
  obtain ⟨a, cap, rfl, -, hlen, -⟩ := id hR
  obtain ⟨a2, cap2, rfl, -, hlen2, -⟩ := id hO
  obtain ⟨a3, cap3, rfl, -, hlen3, -⟩ := id hL
  have c0 : W1.cell? ⟨w.heap.size, 0, none⟩ = some (.slice a rows.length cap) := row_cell hr1 rfl
  have c1 : W1.cell? ⟨w.heap.size, 1, none⟩ = some (.slice a2 owners.length cap2) := row_cell hr1 rfl
  have HW1 := Lib.hid hW1
  have HB1 := Lib.hid hb1
  clear hR hO hL hr1 hW1 hb1
  by_cases hp : progE rows owners = 0
  · have HPO := Lib.hid (progE_ok hp)
    have HE := Lib.hid (show recE rows owners l = if sharesB rows (-1) l = true then 0 else 340 by unfold recE; rw [if_neg (by simp [hp])])
    rw [hp] at HPC
    clear hp
    go_enter Tryz.func41, Tryz.ntmps41
    go_wp2_with fail
    rw [← HW1.out]
    refine HPC.out.mono ?_
    rintro r w2 ⟨rfl, hb2⟩
    have d0 := below_cell hb2 c0
    have d1 := below_cell hb2 c1
    have HR2 := Lib.hid (HR1.out.below hb2)
    have HO2 := Lib.hid (HO1.out.below hb2)
    have HL2 := Lib.hid (HL1.out.below hb2)
    have HB2 := Lib.hid (HB1.out.trans (hb2.mono HB1.out.size))
    clear hb2 c0 c1 HPC HR1 HO1 HL1
    go_wp2_with fail
    go_loopw [8, 20] (fun last i W => ∃ k : Nat, k ≤ l.length ∧ i = .int .i64 k ∧ last = .int .i64 (lastR (-1) (l.take k)) ∧ Hid (sharesB rows (-1) (l.take k) = true) ∧ Below w2.heap.size w2 W) (fun _ i _ => l.length - (intOf i).toNat)
    case atStart => exact ⟨0, Nat.zero_le _, rfl, rfl, Lib.hid rfl, Below.refl _ _⟩
    case round =>
      obtain ⟨k, hkl, rfl, rfl, HS, hb⟩ := hrel
      have x0 := below_cell hb d0
      have x1 := below_cell hb d1
      have HRW := Lib.hid (HR2.out.below hb)
      have HOW := Lib.hid (HO2.out.below hb)
      by_cases hlt : k < l.length
      · obtain ⟨al, cl, e1, -, -, hr64, hk⟩ := HL2.out
        obtain ⟨b, off, ha, q0, q1⟩ := hk k hlt
        simp only [Value.slice.injEq] at e1
        obtain ⟨rfl, -, rfl⟩ := e1
        subst ha
        obtain ⟨hr0, hv0⟩ := hr64 _ (List.getElem_mem hlt)
        have y0 := below_cell hb q0
        have y1 := below_cell hb q1
        have HTK := Lib.hid (sharesB_take (rows := rows) (last := -1) hlt)
        have HLT := Lib.hid (lastR_take (last := -1) hlt)
        have HBD := Lib.hid (fun h => sharesB_bad (rows := rows) (l := l) (last := -1) (k := k) h)
        have hbn := below_new wr #[.int .i64 l[k].1, .int .i64 l[k].2] 47
        have z0 : (wr.alloc (.cells #[.int .i64 l[k].1, .int .i64 l[k].2] 47)).cell? ⟨wr.heap.size, 0, none⟩ = some (.int .i64 l[k].1) := row_cell (World.alloc_heap_new _ _) rfl
        have z1 : (wr.alloc (.cells #[.int .i64 l[k].1, .int .i64 l[k].2] 47)).cell? ⟨wr.heap.size, 1, none⟩ = some (.int .i64 l[k].2) := row_cell (World.alloc_heap_new _ _) rfl
        have t0 := below_cell hbn x0
        have t1 := below_cell hbn x1
        have HRT := Lib.hid (dright_any _ _ rows owners l[k].1 l[k].2 _ (HRW.out.below hbn) (HOW.out.below hbn) hv0)
        have HBN := Lib.hid (hb.alloc hb.size (.cells #[.int .i64 l[k].1, .int .i64 l[k].2] 47))
        clear hk hr64 q0 q1 hbn hb
        generalize l[k].1 = r1 at *
        generalize l[k].2 = v1 at *
        cases er : rightS rows r1 v1 with
        | false =>
          have HV : Hid (recE rows owners l = 340) := Lib.hid (by
            rw [HE.out, if_neg]; rw [HBD.out (by rw [HTK.out, er]; simp)]; simp)
          have HW : Hid (recB rows owners l = false) := Lib.hid (by unfold recB; rw [HV.out]; rfl)
          have HX : Hid (recV rows owners l = 0) := Lib.hid (by unfold recV; rw [HW.out]; rfl)
          rw [er] at HRT
          clear er
          go_wp2_with fail
          refine HRT.out.mono ?_
          rintro e w3 ⟨rfl, hb3⟩
          go_wp2_with fail
          go_ret3
          exact ⟨by rw [HV.out, HW.out, HX.out]; rfl, HB2.out.trans ((HBN.out.trans (hb3.mono HBN.out.size)).mono HB2.out.size)⟩
        | true =>
          have HER := Lib.hid er
          rw [er] at HRT
          clear er
          obtain ⟨la, hla⟩ : ∃ la, la = lastR (-1) (l.take k) := ⟨_, rfl⟩
          rw [← hla] at HTK
          have HLA := Lib.hid hla.symm
          by_cases hlast : la < r1
          · have hd : decide (r1 ≤ la) = false := decide_eq_false (by omega)
            have HNX : Hid (sharesB rows (-1) (l.take (k + 1)) = true) := Lib.hid (by rw [HTK.out, HS.out, HER.out, decide_eq_true hlast]; rfl)
            have hlast2 : lastR (-1) (l.take k) < r1 := by rw [← hla]; exact hlast
            clear hla
            go_wp2_with fail
            refine HRT.out.mono ?_
            rintro e w3 ⟨rfl, hb3⟩
            have s0 := below_cell hb3 z0
            have s1 := below_cell hb3 z1
            go_wp2_with fail
            go_roundw
            case rel => exact ⟨k + 1, by omega, by go_num, by rw [HLT.out], HNX, HBN.out.trans (hb3.mono HBN.out.size)⟩
            case measure => simp [intOf]; omega
          · have hd : decide (r1 ≤ la) = true := decide_eq_true (by omega)
            have HV : Hid (recE rows owners l = 340) := Lib.hid (by
              rw [HE.out, if_neg]; rw [HBD.out (by rw [HTK.out, HER.out, decide_eq_false hlast]; simp)]; simp)
            have HW : Hid (recB rows owners l = false) := Lib.hid (by unfold recB; rw [HV.out]; rfl)
            have HX : Hid (recV rows owners l = 0) := Lib.hid (by unfold recV; rw [HW.out]; rfl)
            have hlast2 : r1 ≤ lastR (-1) (l.take k) := by rw [← hla]; omega
            clear hla
            go_wp2_with fail
            refine HRT.out.mono ?_
            rintro e w3 ⟨rfl, hb3⟩
            have s0 := below_cell hb3 z0
            have s1 := below_cell hb3 z1
            go_wp2_with fail
            go_ret3
            exact ⟨by rw [HV.out, HW.out, HX.out]; rfl, HB2.out.trans ((HBN.out.trans (hb3.mono HBN.out.size)).mono HB2.out.size)⟩
      · have hk2 : k = l.length := by omega
        have HSA : Hid (sharesB rows (-1) l = true) := Lib.hid (by have := HS.out; rwa [hk2, List.take_length] at this)
        have HV : Hid (recE rows owners l = 0) := Lib.hid (by rw [HE.out, if_pos HSA.out])
        have HLW := Lib.hid (HL2.out.below hb)
        have HBW := Lib.hid (HB2.out.trans (hb.mono HB2.out.size))
        have hdk : decide (k < l.length) = false := decide_eq_false hlt
        obtain ⟨wl, hwl⟩ : ∃ wl : World, wl = wr := ⟨_, rfl⟩
        rw [← hwl] at HRW HOW HLW HBW x0 x1 ⊢
        clear hk2 hb hwl HS
        go_wp2_with fail
        refine (columns_any _ _ rows owners _ HRW.out HOW.out).mono ?_
        rintro e w3 ⟨rfl, hb3⟩
        have y0 := below_cell hb3 x0
        have y1 := below_cell hb3 x1
        have HR3 := Lib.hid (HRW.out.below hb3)
        have HO3 := Lib.hid (HOW.out.below hb3)
        have HL3 := Lib.hid (HLW.out.below hb3)
        have HB3 := Lib.hid (HBW.out.trans (hb3.mono HBW.out.size))
        have hc1 := HPO.out.cols
        have hc2 := HPO.out.cols_le
        have HOKN : Hid (1 ≤ colsQ rows ∧ colsQ rows ≤ 64) := Lib.hid ⟨hc1, hc2⟩
        obtain ⟨n, hn⟩ : ∃ n, n = colsQ rows := ⟨_, rfl⟩
        rw [← hn] at hc1 hc2 ⊢
        have HN := Lib.hid hn
        have hmk := run_ints n (by omega)
        have hm0 : (madeCells #[.int .i64 0] n)[0]? = some (.int .i64 0) := by
          have h := (IBlk.made w3 n 3).cell 0 (by omega)
          rwa [World.cell?_alloc_at _ _ _ _ rfl] at h
        have n1 : (0 : Int) < (n : Int) := by omega
        clear hb3 x0 x1 hn HRW HOW HLW HBW
        obtain ⟨C, hC⟩ : ∃ C, C = (madeCells #[.int .i64 0] n).setIfInBounds 0 (.int .i64 1) := ⟨_, rfl⟩
        have hib : IBlk (w3.alloc (.cells C 3)) w3.heap.size n tgtF := by
          have h1 := (IBlk.made w3 n 3).set (k := 0) 1
          have h2 : (w3.alloc (.cells (madeCells #[.int .i64 0] n) 3)).setCell ⟨w3.heap.size, 0, none⟩ (.int .i64 1) = w3.alloc (.cells C 3) := by rw [hC]; simp [go_sem]
          rw [h2] at h1
          exact h1
        have hti := hib.ints (c := n) (Nat.le_refl _) (by omega) (fun i _ => by unfold tgtF; split <;> exact R64.mk (by omega) (by omega))
        have hbm := below_new w3 C 3
        have HT4 : Hid (Ints (w3.alloc (.cells C 3)) (.slice (some ⟨w3.heap.size, 0, none⟩) n n) (tgt n)) := Lib.hid hti
        have z0 := below_cell hbm y0
        have z1 := below_cell hbm y1
        have HR4 := Lib.hid (HR3.out.below hbm)
        have HL4 := Lib.hid (HL3.out.below hbm)
        have HB4 := Lib.hid (HB3.out.trans (hbm.mono HB3.out.size))
        rw [hC] at z0 z1
        have HC := Lib.hid hC
        clear hib hti hbm hC
        go_wp2_with fail
        rw [← HC.out]
        obtain ⟨w4, hw4⟩ : ∃ w4, w4 = w3.alloc (.cells C 3) := ⟨_, rfl⟩
        rw [← hw4] at HT4 HR4 HL4 HB4 ⊢
        clear hw4 z0 z1 y0 y1 HC
        with_reducible refine (drows_any _ _ _ _ ⟨_, _, _, rfl⟩ ⟨_, _, _, rfl⟩ ⟨_, _, _, rfl⟩).mono ?_
        rintro e w5 ⟨rfl, hw5⟩
        have hb5 : Below w4.heap.size w4 w5 := by
          rw [hw5]
          have h1 := below_new w4 #[.slice a rows.length cap, .slice a2 owners.length cap2] 25
          exact h1.trans ((below_new _ _ _).mono h1.size)
        have hin : ∀ p ∈ l, 0 ≤ p.1 ∧ p.1 < (rows.length : Int) := fun p hp => (rightS_iff.1 ((sharesB_all HSA.out).1 p hp)).1
        have hll : l.length ≤ 1000000 := by have := sharesB_len HSA.out; have := HPO.out.few; omega
        have HCR := Lib.hid (crows_any _ (.slice a2 owners.length cap2) _ rows l w4 w5 hw5 HR4.out HL4.out hin hll)
        have HRT := Lib.hid (rowsOf_right HPO.out HSA.out)
        have HEX := Lib.hid (examErr_right HRT.out (tgt_num _) (by rw [tgt_len]; exact HPO.out.cols_le))
        have HT5 := Lib.hid (HT4.out.below hb5)
        have HL5 := Lib.hid (HL4.out.below hb5)
        have HB5 := Lib.hid (HB4.out.trans (hb5.mono HB4.out.size))
        clear hw5 hb5 hin HR4 HL4 HT4 hmk n1 hm0
        go_wp2_with fail
        refine HCR.out.mono ?_
        rintro e w6 ⟨v6, rfl, hr6, hb6⟩
        have HR6 := Lib.hid hr6
        have HT6 := Lib.hid (HT5.out.below hb6)
        have HL6 := Lib.hid (HL5.out.below hb6)
        have HB6 := Lib.hid (HB5.out.trans (hb6.mono HB5.out.size))
        clear hr6 hb6 HCR
        have HRO := Lib.hid (show recOk rows l = rcombOk (rowsOf rows l) (tgt n) by unfold recOk; rw [HN.out])
        have HRY := Lib.hid (show recY rows l = rcombY (rowsOf rows l) (tgt n) by unfold recY; rw [HN.out])
        rw [← HN.out] at HEX
        cases hok : recOk rows l with
        | false =>
          have HW : Hid (recB rows owners l = false) := Lib.hid (by unfold recB; rw [hok]; simp)
          have HX : Hid (recV rows owners l = 0) := Lib.hid (by unfold recV; rw [HW.out]; rfl)
          have HCM := Lib.hid (Comb_no _ _ (rowsOf rows l) (tgt n) _ HR6.out HT6.out HEX.out (by rw [← HRO.out]; exact hok))
          clear hok
          go_wp2_with fail
          refine HCM.out.mono ?_
          rintro e w7 ⟨yv, rfl, hy, hb7⟩
          obtain ⟨ya, yc, rfl, -⟩ := id hy
          have HB7 := Lib.hid (HB6.out.trans (hb7.mono HB6.out.size))
          have HB8 := Lib.hid (HB7.out.alloc HB7.out.size (.cells #[.slice ya ([] : List Int).length yc] 23))
          clear hy hb7
          go_wp2_with fail
          go_ret3
          exact ⟨by rw [HV.out, HW.out, HX.out]; rfl, HB8.out⟩
        | true =>
          have HW : Hid (recB rows owners l = true) := Lib.hid (by unfold recB; rw [hok, HV.out]; rfl)
          have HX : Hid (recV rows owners l = prodQ (rcombY (rowsOf rows l) (tgt n)) (valsOf l)) := Lib.hid (by unfold recV; rw [if_pos HW.out, HRY.out])
          have HCM := Lib.hid (Comb_yes _ _ (rowsOf rows l) (tgt n) _ HR6.out HT6.out HEX.out (by rw [← HRO.out]; exact hok))
          have HYL := Lib.hid (show (rcombY (rowsOf rows l) (tgt n)).length = l.length by rw [rcombY_len]; simp [rowsOf])
          have hmf : ∀ (fn : Fn) (first cap : Array Value) (w : World), (Instr.makeFunc fn first cap).run Tryz.prog w = .ok (.func fn first cap) w := fun _ _ _ _ => rfl
          generalize rcombY (rowsOf rows l) (tgt n) = y at *
          clear hok
          go_wp2_with fail
          refine HCM.out.mono ?_
          rintro e w7 ⟨yv, rfl, hy, hb7⟩
          have hbn := below_new w7 #[yv] 23
          have hcy : (w7.alloc (.cells #[yv] 23)).cell? ⟨w7.heap.size, 0, none⟩ = some yv := row_cell (World.alloc_heap_new _ _) rfl
          have HSM := Lib.hid (ssum_any _ yv l y w7.heap.size _ ((HL6.out.below hb7).below hbn) (hy.below hbn) HYL.out hcy)
          obtain ⟨ya, yc, rfl, -⟩ := id hy
          have HB7 := Lib.hid (HB6.out.trans (hb7.mono HB6.out.size))
          have HB8 := Lib.hid (HB7.out.trans (hbn.mono HB7.out.size))
          clear hy hb7 hbn hcy HYL
          go_wp2_with fail
          refine HSM.out.mono ?_
          rintro e w9 ⟨rfl, hb9⟩
          go_wp2_with fail
          go_ret3
          exact ⟨by rw [HV.out, HW.out, HX.out]; rfl, HB8.out.trans (hb9.mono HB8.out.size)⟩
  · have HV : Hid (recE rows owners l = progE rows owners) := Lib.hid (by unfold recE; rw [if_pos hp])
    have HW : Hid (recB rows owners l = false) := Lib.hid (by unfold recB; rw [HV.out, decide_eq_false hp]; rfl)
    have HX : Hid (recV rows owners l = 0) := Lib.hid (by unfold recV; rw [HW.out]; rfl)
    have h2 : (progE rows owners != 0) = true := bne_iff_ne.2 hp
    go_enter Tryz.func41, Tryz.ntmps41
    go_wp2_with fail
    rw [← HW1.out]
    refine HPC.out.mono ?_
    rintro r w2 ⟨rfl, hb2⟩
    go_wp2_with fail
    go_ret3
    exact ⟨by rw [HV.out, HW.out, HX.out]; rfl, HB1.out.trans (hb2.mono HB1.out.size)⟩

end Go.Proofs.YtnbkbnbmmkfckaaGreat

namespace Go.Proofs.YtnbkbnbmmkfckaaGreat
open Go.RowKit FP

theorem right_lit (rows : List (List Int)) (m : Nat) (h : (decide (rows.length ≤ 64) && (decide (m ≤ 64) && rows.all fun r => decide (r.length = m) && r.all fun z => decide (0 ≤ z) && decide (z < 1073741789))) = true) : Right rows m := by
  simp only [Bool.and_eq_true, decide_eq_true_eq, List.all_eq_true] at h
  obtain ⟨h1, h2, h3⟩ := h
  exact ⟨h1, .inl h2, fun r hr => (h3 r hr).1, fun r hr z hz => (h3 r hr).2 z hz⟩
theorem num_lit (t : List Int) (h : (t.all fun z => decide (0 ≤ z) && decide (z < 1073741789)) = true) : ∀ z ∈ t, 0 ≤ z ∧ z < 1073741789 := by
  simp only [Bool.and_eq_true, decide_eq_true_eq, List.all_eq_true] at h
  exact h
end Go.Proofs.YtnbkbnbmmkfckaaGreat
