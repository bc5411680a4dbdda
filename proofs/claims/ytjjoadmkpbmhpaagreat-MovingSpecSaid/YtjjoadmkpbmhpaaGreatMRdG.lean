/- The reference of dealing: Deal. The reference of dealing: Deal, whatever comes of it. A region that draws its order inside a round of a range over a function: as outside, where no operation is about to call a Go function. A region that draws its order, where a condition on the world holds up to certain operations only (stores into what was loaded). -/
import Derived.Test.YtjjoadmkpbmhpaaGreatMRdC
import Derived.Test.YtjjoadmkpbmhpaaGreatMRange
import Derived.OrdersIn
import Derived.Deep.RegionHeld3
import Derived.OrdersHeld
namespace Go.Proofs.YtjjoadmkpbmhpaaGreat
open Go.RowKit FP

theorem own_fresh (w : World) (x : Value) (t : TypeId) (B : Nat) (hB : w.heap.size = B) : (w.alloc (.cells #[x] t)).ownsRow B t 1 (.slice (some ⟨B, 0, none⟩) 1 1) 1 [x] := by
  subst hB
  exact ⟨rfl, .inr ⟨_, _, _, rfl, Nat.le_refl _, World.alloc_heap_new w _, Nat.le_refl _, by unfold maxLen; omega, rfl, rfl⟩⟩

set_option maxRecDepth 100000 in
set_option maxHeartbeats 8000000 in
theorem rDeal_yes (rv ov mv : Value) (rows : List (List Int)) (owners : List Int) (x : Int) (rnd : List Int) (w : World) (hR : Rows2 w rv rows) (hO : Ints w ov owners) (hM : Ints w mv rnd) (hD : DealOK rows owners x rnd) (hp0 : progE rows owners = 0) :
    Calls Tryz.prog 36 #[.agg #[rv, ov], .int .i64 x, mv] w fun r w' => ∃ lv cv, r = .returned (.tuple #[lv, cv, .int .i64 0]) ∧ Shares w' lv (dealL rows (x :: rnd)) ∧ Ints w' cv (dealC (x :: rnd)) ∧ Below w.heap.size w w' := by
  obtain ⟨W1, hW1, hb1, hr1, hz⟩ := box_prog w rv ov 25
  have HR1 := Lib.hid (hR.below hb1)
  have HO1 := Lib.hid (hO.below hb1)
  have HM1 := Lib.hid (hM.below hb1)
  have HPC := Lib.hid (rpCheck_any rv ov rows owners W1 HR1.out HO1.out)
  rw [hp0] at HPC
  obtain ⟨a, cap, rfl, -, hlen, -⟩ := id hR
  obtain ⟨a2, cap2, rfl, -, hlen2, -⟩ := id hO
  obtain ⟨a3, cap3, rfl, -, hlen3, -⟩ := id hM
  have c0 : W1.cell? ⟨w.heap.size, 0, none⟩ = some (.slice a rows.length cap) := row_cell hr1 rfl
  have c1 : W1.cell? ⟨w.heap.size, 1, none⟩ = some (.slice a2 owners.length cap2) := row_cell hr1 rfl
  have HW1 := Lib.hid hW1
  have HB1 := Lib.hid hb1
  have hx : R64 x := num_r64 hD.hx
  have HX : Hid ((!oddQ x) = true) := Lib.hid (by rw [oddQ_of hD.hx]; rfl)
  have HRn : Hid ((!rnd.any oddQ) = true) := Lib.hid (by rw [any_odd_of hD.hr]; rfl)
  have hcl := hD.len
  have hcu := hD.prog.cols_le
  have hci : (1 : Int) ≤ (colsQ rows : Nat) := by omega
  have hcv : ((colsQ rows : Nat) : Int) ≤ 64 := by omega
  have hlb : ((rnd.length : Int) != ((colsQ rows : Nat) : Int) - 1) = false := bne_eq_false_iff_eq.2 (by omega)
  have HD := Lib.hid hD
  have HS64 : Hid (∀ z ∈ x :: rnd, R64 z) := Lib.hid (by
    intro z hz
    rcases List.mem_cons.1 hz with rfl | hz
    · exact hx
    · exact num_r64 (hD.hr z hz))
  clear hR hO hM hr1 hW1 hb1 hp0 hD
  go_enter Tryz.func36, Tryz.ntmps36
  go_wp2_with fail
  rw [← HW1.out]
  refine HPC.out.mono ?_
  rintro r w2 ⟨rfl, hb2⟩
  have HB2 := Lib.hid (HB1.out.trans (hb2.mono HB1.out.size))
  have HM2 := Lib.hid (HM1.out.below hb2)
  have HR2 := Lib.hid (HR1.out.below hb2)
  have HO2 := Lib.hid (HO1.out.below hb2)
  have d0 := below_cell hb2 c0
  have d1 := below_cell hb2 c1
  clear hb2 HPC c0 c1
  go_wp2_with fail
  with_reducible refine (rnumber34_any x _).mono ?_
  rintro r w3 ⟨rfl, rfl⟩
  rw [HX.out]
  go_wp2_with fail
  refine (rcolumns_any _ _ rows owners _ HR2.out HO2.out).mono ?_
  rintro r w6 ⟨rfl, hb6⟩
  have f0 := below_cell hb6 d0
  have HM6 := Lib.hid (HM2.out.below hb6)
  have HR6 := Lib.hid (HR2.out.below hb6)
  have HB6 := Lib.hid (HB2.out.trans (hb6.mono HB2.out.size))
  clear hb6 d0 d1
  go_wp2_with fail
  refine (rNumbers34_any _ rnd _ HM6.out).mono ?_
  rintro r w7 ⟨rfl, rfl⟩
  rw [HRn.out]
  have hn1 := below_new w6 #[.int .i64 x] 3
  have hof := own_fresh w6 (.int .i64 x) 3 w6.heap.size rfl
  have HOF := Lib.hid hof
  have HMN := Lib.hid (HM6.out.below hn1)
  have hbs : w6.heap.size ≤ (w6.alloc (.cells #[.int .i64 x] 3)).heap.size := by simp
  have HBS := Lib.hid hbs
  have HN1 := Lib.hid hn1
  clear hof hn1 hbs
  go_wp2_with (refine app_ints_any rfl _ _ rfl w6.heap.size w6.heap.size 1 1 [.int .i64 x] rfl HOF.out _ rnd rfl HMN.out (by omega) (Nat.le_refl _) HBS.out ?_; intro v8 w8 hown8 hbl8; have HOW := Lib.hid hown8; have HG := Lib.hid hbl8; clear hown8 hbl8)
  obtain ⟨s, hs⟩ : ∃ s, s = x :: rnd := ⟨_, rfl⟩
  have HSN := Lib.hid (show s.length = colsQ rows by rw [hs, List.length_cons]; exact hcl)
  have hs7 : Ints w8 v8 s := by
    rw [hs]
    exact Ints.own (zs := x :: rnd) HOW.out HS64.out (by simp; omega)
  have HSS := Lib.hid hs
  clear hs
  have hb67 := HN1.out.trans HG.out
  have HS7 := Lib.hid hs7
  have HR7 := Lib.hid (HR6.out.below hb67)
  have HB7 := Lib.hid (HB6.out.trans (hb67.mono HB6.out.size))
  have x0 := below_cell hb67 f0
  obtain ⟨a10, c10, rfl, -⟩ := id hs7
  have h00 : (w8.alloc (.cells #[] 29)).ownsRow w8.heap.size 29 2 (.slice (some ⟨w8.heap.size, 0, none⟩) 0 0) 0 (((List.range 0).map (dealF rows s)).flatMap shaC) := World.ownsRow_made _ #[] 0 (Nat.le_refl _) (by unfold maxLen; omega) rfl
  have hba := below_new w8 #[] 29
  clear hs7 hb67 f0 HOF HMN HBS HN1 HOW HG HM6 HR6 HM2 HR2 HO2 HM1 HR1 HO1
  go_loopw [11, 12] (fun L i W => ∃ k : Nat, k ≤ rows.length ∧ i = .int .i64 k ∧ W.ownsRow w8.heap.size 29 2 L k (((List.range k).map (dealF rows s)).flatMap shaC) ∧ Below w8.heap.size w8 W) (fun _ i _ => rows.length - (intOf i).toNat)
  case atStart => exact ⟨0, Nat.zero_le _, rfl, h00, hba⟩
  case round =>
    clear h00 hba
    obtain ⟨k, hkl, rfl, hown, hb⟩ := hrel
    have y0 := below_cell hb x0
    by_cases hlt : k < rows.length
    · obtain ⟨aa, cc, e1, -, -, hk⟩ := HR7.out
      obtain ⟨b, off, r, ha, q1, hI⟩ := hk k hlt
      simp only [Value.slice.injEq] at e1
      obtain ⟨rfl, -, rfl⟩ := e1
      subst ha
      have y1 := below_cell hb q1
      have HI := Lib.hid (hI.below hb)
      have HSW := Lib.hid (HS7.out.below hb)
      obtain ⟨ra, rc, rfl, -⟩ := id hI
      have hrl := HD.out.prog.row hlt
      have hfew := HD.out.prog.few
      have HT := Lib.hid (rProduct34_any _ _ rows[k] s wr HI.out HSW.out (by rw [hrl, HSN.out]; exact Nat.le_refl _))
      have HF : Hid (dealF rows s k = ((k : Int), prodQ rows[k] s)) := Lib.hid (by unfold dealF; rw [getD_at hlt])
      have HBW := Lib.hid hb
      have HOW := Lib.hid hown
      have i0 : 0 ≤ (k : Int) := by omega
      have i1 : (k : Int) < (rows.length : Int) := by omega
      clear hk hI q1 hb hown hrl
      generalize rows[k] = row at *
      generalize prodQ row s = pr at *
      go_wp2_with fail
      refine HT.out.mono ?_
      rintro r w9 ⟨rfl, hb8⟩
      have hb9 := hb8.alloc hb8.size (.cells #[.int .i64 k, .int .i64 pr] 29)
      have HOX := Lib.hid (own_keep HOW.out hb9)
      have hrw := World.alloc_heap_new w9 (.cells #[.int .i64 k, .int .i64 pr] 29)
      have hq0 : (w9.alloc (.cells #[.int .i64 k, .int .i64 pr] 29)).cell? ⟨w9.heap.size, 0, none⟩ = some (.int .i64 k) := row_cell hrw rfl
      have hq1 : (w9.alloc (.cells #[.int .i64 k, .int .i64 pr] 29)).cell? ⟨w9.heap.size, 0 + 1, none⟩ = some (.int .i64 pr) := row_cell hrw rfl
      have HQ0 := Lib.hid hq0
      have HQ1 := Lib.hid hq1
      have HB9 := Lib.hid (HBW.out.trans (hb9.mono HBW.out.size))
      have hbs : w8.heap.size ≤ (w9.alloc (.cells #[.int .i64 k, .int .i64 pr] 29)).heap.size := HB9.out.size
      have HBS := Lib.hid hbs
      clear hb8 hb9 hrw hq0 hq1 hbs
      go_wp2_with (refine app_share rfl _ _ rfl w8.heap.size _ ((List.range k).map (dealF rows s)) k rfl HOX.out w9.heap.size 0 1 ((k : Int), pr) rfl HQ0.out HQ1.out (by omega) HBS.out ?_; intro g8 cap8 wz h9 o9; have H9 := Lib.hid h9; have O9 := Lib.hid o9; clear h9 o9)
      go_roundw
      case rel => exact ⟨k + 1, by omega, by go_num, by rw [range_snoc, HF.out]; exact H9.out, HB9.out.trans (own_below HOX.out O9.out.1 HBS.out)⟩
      case measure => simp [intOf]; omega
    · obtain rfl : k = rows.length := by omega
      have hfew := HD.out.prog.few
      have hdk : decide (rows.length < rows.length) = false := decide_eq_false (by omega)
      have HL := Lib.hid hown
      have HBL := Lib.hid hb
      have HSL := Lib.hid (HS7.out.below hb)
      obtain ⟨wl, hwl⟩ : ∃ wl : World, wl = wr := ⟨_, rfl⟩
      rw [← hwl] at HL HBL HSL y0 ⊢
      clear hown hb hwl x0
      have h01 : (wl.alloc (.cells #[] 3)).ownsRow wl.heap.size 3 1 (.slice (some ⟨wl.heap.size, 0, none⟩) 0 0) 0 (((s.take 0).map (powE 4)).map (Value.int .i64)) := World.ownsRow_made _ #[] 0 (Nat.le_refl _) (by unfold maxLen; omega) rfl
      have hba := below_new wl #[] 3
      go_wp2_with fail
      go_loopw [13, 14] (fun C i W => ∃ k : Nat, k ≤ s.length ∧ i = .int .i64 k ∧ W.ownsRow wl.heap.size 3 1 C k (((s.take k).map (powE 4)).map (Value.int .i64)) ∧ Below wl.heap.size wl W) (fun _ i _ => s.length - (intOf i).toNat)
      case atStart => exact ⟨0, Nat.zero_le _, rfl, h01, hba⟩
      case round =>
        clear h01 hba y0
        obtain ⟨k, hkl, rfl, hown, hb⟩ := hrel
        by_cases hlt : k < s.length
        · obtain ⟨a9, c9, e9, -, -, hrr, hk⟩ := HSL.out
          obtain ⟨b, off, ha, q1⟩ := hk k hlt
          simp only [Value.slice.injEq] at e9
          obtain ⟨rfl, -, rfl⟩ := e9
          subst ha
          have y1 := below_cell hb q1
          have hz64 := hrr _ (List.getElem_mem hlt)
          have HTK : Hid ((s.take (k + 1)).map (powE 4) = (s.take k).map (powE 4) ++ [powE 4 s[k]]) := Lib.hid (by rw [List.take_succ_eq_append_getElem hlt, List.map_append]; rfl)
          have HPW := Lib.hid (fun w => rpower34_any 4 s[k] w el_four hz64)
          have hk65 : k ≤ 64 := by have := HSN.out; omega
          have i0 : 0 ≤ (k : Int) := by omega
          have i1 : (k : Int) < (s.length : Int) := by omega
          have HBW := Lib.hid hb
          have HOW := Lib.hid hown
          have HN := Lib.hid (below_new wr #[.int .i64 (powE 4 s[k])] 3)
          clear hk hrr q1 hb hown
          generalize s[k] = z at *
          generalize powE 4 z = pz at *
          have HOX := Lib.hid (own_keep HOW.out HN.out)
          have hq0 : (wr.alloc (.cells #[.int .i64 pz] 3)).cell? ⟨wr.heap.size, 0, none⟩ = some (.int .i64 pz) := row_cell (World.alloc_heap_new _ _) rfl
          have HQ0 := Lib.hid hq0
          have HB9 := Lib.hid (HBW.out.trans (HN.out.mono HBW.out.size))
          have HBS := Lib.hid HB9.out.size
          clear hq0
          go_wp2_with fail
          with_reducible refine (HPW.out _).mono ?_
          rintro r w9 ⟨rfl, rfl⟩
          go_wp2_with (refine app_int rfl _ _ rfl wl.heap.size k _ _ rfl HOX.out wr.heap.size 1 pz rfl HQ0.out (by omega) HBS.out ?_; intro v9 wz h9 o9; have H9 := Lib.hid h9; have O9 := Lib.hid o9; clear h9 o9)
          go_roundw
          case rel => exact ⟨k + 1, by omega, by go_num, by rw [HTK.out, List.map_append]; exact H9.out, HB9.out.trans (own_below HOX.out O9.out HBS.out)⟩
          case measure => simp [intOf]; omega
        · have hk2 : k = s.length := by omega
          rw [hk2, List.take_length] at hown
          have HLO := Lib.hid (own_keep HL.out hb)
          have HLS := Lib.hid (Shares.own (l := dealL rows s) HLO.out (by
            intro p hp
            obtain ⟨i, hi, rfl⟩ := List.mem_map.1 hp
            exact dealF_r64 rows _ (by have := List.mem_range.1 hi; omega)) (by unfold dealL; simp; omega))
          have hsl : s.length ≤ 64 := by have := HSN.out; omega
          have HCS := Lib.hid (Ints.own (zs := dealC s) hown (by
            intro z hz
            obtain ⟨n, -, rfl⟩ := List.mem_map.1 hz
            exact (el_powE el_four n).r64) (by unfold dealC; simp; omega))
          have HBF := Lib.hid (HB7.out.trans ((HBL.out.trans (hb.mono HBL.out.size)).mono HB7.out.size))
          have hdk2 : decide (k < s.length) = false := decide_eq_false (by omega)
          clear hown hb HL HLO hk2
          go_wp2_with fail
          go_ret3
          exact ⟨_, _, rfl, HSS.out ▸ HLS.out, HSS.out ▸ HCS.out, HBF.out⟩

end Go.Proofs.YtjjoadmkpbmhpaaGreat

namespace Go.Proofs.YtjjoadmkpbmhpaaGreat
open Go.RowKit FP

set_option maxRecDepth 100000 in
set_option maxHeartbeats 4000000 in
theorem rDeal_no (rv ov mv : Value) (rows : List (List Int)) (owners : List Int) (x : Int) (rnd : List Int) (w : World) (hR : Rows2 w rv rows) (hO : Ints w ov owners) (hM : Ints w mv rnd) (he : dealE rows owners x rnd ≠ 0) :
    Calls Tryz.prog 36 #[.agg #[rv, ov], .int .i64 x, mv] w fun r w' => r = .returned (.tuple #[.slice none 0 0, .slice none 0 0, .int .i64 (dealE rows owners x rnd)]) ∧ Below w.heap.size w w' := by
  obtain ⟨W1, hW1, hb1, hr1, hz⟩ := box_prog w rv ov 25
  have HR1 := Lib.hid (hR.below hb1)
  have HO1 := Lib.hid (hO.below hb1)
  have HM1 := Lib.hid (hM.below hb1)
  have HPC := Lib.hid (rpCheck_any rv ov rows owners W1 HR1.out HO1.out)
  obtain ⟨a, cap, rfl, -, hlen, -⟩ := id hR
  obtain ⟨a2, cap2, rfl, -, hlen2, -⟩ := id hO
  obtain ⟨a3, cap3, rfl, -, hlen3, -⟩ := id hM
  have c0 : W1.cell? ⟨w.heap.size, 0, none⟩ = some (.slice a rows.length cap) := row_cell hr1 rfl
  have c1 : W1.cell? ⟨w.heap.size, 1, none⟩ = some (.slice a2 owners.length cap2) := row_cell hr1 rfl
  have HW1 := Lib.hid hW1
  have HB1 := Lib.hid hb1
  clear hR hO hM hr1 hW1 hb1
  by_cases hp : progE rows owners = 0
  · have HV : Hid (dealE rows owners x rnd = 1) := Lib.hid (by
      unfold dealE at he ⊢
      rw [if_neg (by simp [hp])] at he ⊢
      split at he
      · rename_i h2; rw [if_pos h2]
      · exact absurd rfl he)
    have HPO := Lib.hid (progE_ok hp)
    rw [hp] at HPC
    have HE0 := Lib.hid he
    have HP0 := Lib.hid hp
    clear he hp
    have hcc := HPO.out.cols
    have hcu := HPO.out.cols_le
    have hci : (1 : Int) ≤ (colsQ rows : Nat) := by omega
    have hcv : ((colsQ rows : Nat) : Int) ≤ 64 := by omega
    cases ex : oddQ x with
    | true =>
      have HX : Hid ((!oddQ x) = false) := Lib.hid (by rw [ex]; rfl)
      clear ex
      go_enter Tryz.func36, Tryz.ntmps36
      go_wp2_with fail
      rw [← HW1.out]
      refine HPC.out.mono ?_
      rintro r w2 ⟨rfl, hb2⟩
      have HB2 := Lib.hid (HB1.out.trans (hb2.mono HB1.out.size))
      have d0 := below_cell hb2 c0
      have d1 := below_cell hb2 c1
      clear hb2
      go_wp2_with fail
      with_reducible refine (rnumber34_any x _).mono ?_
      rintro r w3 ⟨rfl, rfl⟩
      rw [HX.out]
      go_wp2_with fail
      go_ret3
      exact ⟨by rw [HV.out]; rfl, HB2.out⟩
    | false =>
      have HXE := Lib.hid ex
      have HX : Hid ((!oddQ x) = true) := Lib.hid (by rw [ex]; rfl)
      clear ex
      by_cases hl : rnd.length + 1 = colsQ rows
      · have hlb : ((rnd.length : Int) != ((colsQ rows : Nat) : Int) - 1) = false := bne_eq_false_iff_eq.2 (by omega)
        have HRn : Hid ((!rnd.any oddQ) = false) := Lib.hid (by
          cases er : rnd.any oddQ with
          | true => rfl
          | false =>
            exfalso
            apply HE0.out
            unfold dealE
            rw [if_neg (by simp [HP0.out]), if_neg]
            rw [HXE.out, er]
            rintro (h | h | h)
            · cases h
            · cases h
            · exact h hl)
        go_enter Tryz.func36, Tryz.ntmps36
        go_wp2_with fail
        rw [← HW1.out]
        refine HPC.out.mono ?_
        rintro r w2 ⟨rfl, hb2⟩
        have HB2 := Lib.hid (HB1.out.trans (hb2.mono HB1.out.size))
        have HM2 := Lib.hid (HM1.out.below hb2)
        have HR2 := Lib.hid (HR1.out.below hb2)
        have HO2 := Lib.hid (HO1.out.below hb2)
        have d0 := below_cell hb2 c0
        have d1 := below_cell hb2 c1
        clear hb2
        go_wp2_with fail
        with_reducible refine (rnumber34_any x _).mono ?_
        rintro r w3 ⟨rfl, rfl⟩
        rw [HX.out]
        go_wp2_with fail
        refine (rcolumns_any _ _ rows owners _ HR2.out HO2.out).mono ?_
        rintro r w6 ⟨rfl, hb6⟩
        have HM6 := Lib.hid (HM2.out.below hb6)
        have HB6 := Lib.hid (HB2.out.trans (hb6.mono HB2.out.size))
        clear hb6
        go_wp2_with fail
        refine (rNumbers34_any _ rnd _ HM6.out).mono ?_
        rintro r w7 ⟨rfl, rfl⟩
        rw [HRn.out]
        go_wp2_with fail
        go_ret3
        exact ⟨by rw [HV.out]; rfl, HB6.out⟩
      · have hlb : ((rnd.length : Int) != ((colsQ rows : Nat) : Int) - 1) = true := bne_iff_ne.2 (by omega)
        go_enter Tryz.func36, Tryz.ntmps36
        go_wp2_with fail
        rw [← HW1.out]
        refine HPC.out.mono ?_
        rintro r w2 ⟨rfl, hb2⟩
        have HB2 := Lib.hid (HB1.out.trans (hb2.mono HB1.out.size))
        have HR2 := Lib.hid (HR1.out.below hb2)
        have HO2 := Lib.hid (HO1.out.below hb2)
        have d0 := below_cell hb2 c0
        have d1 := below_cell hb2 c1
        clear hb2
        go_wp2_with fail
        with_reducible refine (rnumber34_any x _).mono ?_
        rintro r w3 ⟨rfl, rfl⟩
        rw [HX.out]
        go_wp2_with fail
        refine (rcolumns_any _ _ rows owners _ HR2.out HO2.out).mono ?_
        rintro r w6 ⟨rfl, hb6⟩
        go_wp2_with fail
        go_ret3
        exact ⟨by rw [HV.out]; rfl, HB2.out.trans (hb6.mono HB2.out.size)⟩
  · have HV : Hid (dealE rows owners x rnd = progE rows owners) := Lib.hid (by unfold dealE; rw [if_pos hp])
    have h2 : (progE rows owners != 0) = true := bne_iff_ne.2 hp
    clear he
    go_enter Tryz.func36, Tryz.ntmps36
    go_wp2_with fail
    rw [← HW1.out]
    refine HPC.out.mono ?_
    rintro r w2 ⟨rfl, hb2⟩
    go_wp2_with fail
    go_ret3
    exact ⟨by rw [HV.out]; rfl, HB1.out.trans (hb2.mono HB1.out.size)⟩

set_option maxRecDepth 100000 in
theorem rDeal_any (rv ov mv : Value) (rows : List (List Int)) (owners : List Int) (x : Int) (rnd : List Int) (w : World) (hR : Rows2 w rv rows) (hO : Ints w ov owners) (hM : Ints w mv rnd) :
    Calls Tryz.prog 36 #[.agg #[rv, ov], .int .i64 x, mv] w fun r w' => ∃ lv cv, r = .returned (.tuple #[lv, cv, .int .i64 (dealE rows owners x rnd)]) ∧ Shares w' lv (if dealE rows owners x rnd = 0 then dealL rows (x :: rnd) else []) ∧ Ints w' cv (if dealE rows owners x rnd = 0 then dealC (x :: rnd) else []) ∧ Below w.heap.size w w' := by
  by_cases he : dealE rows owners x rnd = 0
  · have hp : progE rows owners = 0 := by
      unfold dealE at he
      by_cases hp : progE rows owners = 0
      · exact hp
      · rw [if_pos hp] at he; exact absurd he hp
    rw [if_pos he, if_pos he, he]
    exact rDeal_yes rv ov mv rows owners x rnd w hR hO hM (dealE_ok he) hp
  · rw [if_neg he, if_neg he]
    exact (rDeal_no rv ov mv rows owners x rnd w hR hO hM he).mono fun r w' ⟨h1, h2⟩ => ⟨_, _, h1, Shares.nil _ _ _, Ints.nil _ _ _, h2⟩

end Go.Proofs.YtjjoadmkpbmhpaaGreat

namespace Go.Proofs.YtjjoadmkpbmhpaaGreat
open Go.RowKit

/-- The operation ends at once: it enters no function. -/
def Ends : Result Go.Next → Prop
  | .ok (.enter _ _) _ => False
  | .ok (.row _ _) _ => False
  | .ok (.round _ _ _ _ _) _ => False
  | _ => True
structure PlainOp (P : Program) (o : Oper) : Prop where
  nodefer : ∀ c, o.op ≠ .defer c
  about : ∀ w ρ, o.about P w ρ = none
  ends : ∀ w ρ, Ends ((execOp ρ o).run P w)
theorem uponIn_of_upon {F : Fence} {n : Nat} {P : Program} {o : Oper} {a : Act} {K K' : Act → World → Prop} {Q : Exit → Act → World → Prop} (hK : ∀ a w, K a w → K' a w) : ∀ {r : Result Go.Next}, Ends r → o.upon P a K Q r → o.uponIn F n P a K' Q r
  | .ok x w, he, h => by
    cases x <;> simp only [Oper.upon, Oper.uponIn, Ends] at * <;> first | exact hK _ _ h | exact he.elim | exact h.elim | skip
  | .halt x w, _, h => by
    cases x <;> simp only [Oper.upon, Oper.uponIn] at * <;> first | exact h | exact h.elim | skip
theorem wpIn_of_wp {F : Fence} {n : Nat} {P : Program} {o : Oper} {a : Act} {w : World} {K K' : Act → World → Prop} {Q : Exit → Act → World → Prop} (hp : PlainOp P o) (hK : ∀ a w, K a w → K' a w) (h : o.wp P a w K Q) : o.wpIn F n P a w K' Q := by
  refine ⟨fun f hf => by (rw [hp.about] at hf; exact nomatch hf), ?_⟩
  rw [Oper.semAt_eq _ _ _ hp.nodefer]
  exact uponIn_of_upon hK (hp.ends w a.eval) h
theorem ends_v {P : Program} (s : Sem Value) (w : World) : Ends (Sem.run P (do pure (Go.Next.value (← s))) w) := by
  rw [Sem.run_bind]
  cases s.run P w <;> simp [Result.andThen, Ends, pure]
theorem ends_u {P : Program} (s : Sem Unit) (w : World) : Ends (Sem.run P (do s; pure Go.Next.skip) w) := by
  rw [Sem.run_bind]
  cases s.run P w <;> simp [Result.andThen, Ends, pure]
section
variable {P : Program} {d : Option Tmp} {t : TypeId} {p : String} {af : Array Edge} {g : Option (Nat × Bool)}
theorem plain_move {x : Operand} : PlainOp P ⟨d, .move x, t, p, af, g⟩ := ⟨(fun _ h => by cases h), fun _ _ => rfl, fun _ _ => trivial⟩
theorem plain_load {x : Operand} {ty : TypeId} : PlainOp P ⟨d, .load ty x, t, p, af, g⟩ := ⟨(fun _ h => by cases h), fun _ _ => rfl, fun w _ => ends_v _ w⟩
theorem plain_buildSlice {ty : TypeId} {n : Nat} {xs : Array (Nat × Operand)} : PlainOp P ⟨d, .buildSlice ty n xs, t, p, af, g⟩ := ⟨(fun _ h => by cases h), fun _ _ => rfl, fun w _ => ends_v _ w⟩
theorem plain_store {ty : TypeId} {x y : Operand} : PlainOp P ⟨d, .store ty x y, t, p, af, g⟩ := ⟨(fun _ h => by cases h), fun _ _ => rfl, fun w _ => ends_u _ w⟩
theorem plain_append {xs : Array Operand} {ts : Array TypeId} : PlainOp P ⟨d, .call { callee := .builtin .append, args := xs, argTypes := ts }, t, p, af, g⟩ := ⟨(fun _ h => by cases h), fun _ _ => rfl, fun w _ => ends_v _ w⟩
end

end Go.Proofs.YtjjoadmkpbmhpaaGreat

namespace Go.Proofs.YtjjoadmkpbmhpaaGreat
open Go.RowKit

section
variable {P : Program} {ops : Array Oper} {Q : Exit → Act → World → Prop} {md : Region.Mode} {S : World → Prop} {T : List Nat}

/-- Whatever order is picked from here on; S holds behind every operation that is carried out ahead of those of T. -/
def wpAnyL (P : Program) (md : Region.Mode) (ops : Array Oper) (Q : Exit → Act → World → Prop) (S : World → Prop) (T : List Nat) : Nat → Array Bool → Act → World → Prop
  | 0, listed, a, w => Region.ready md ops listed = [] ∧ Q .normal a w
  | fuel + 1, listed, a, w =>
    (Region.ready md ops listed = [] → Q .normal a w) ∧
    ∀ i ∈ Region.ready md ops listed, wpOp P ops Q i (fun a' w' => (i ∉ T → (∀ t ∈ T, listed.getD t true = false) → S w') ∧ wpAnyL P md ops Q S T fuel (listed.setIfInBounds i true) a' w') a w

theorem wpAnyL_first {U : List Nat} {i : Nat} {oi : Oper} {v : Value} (hi : ops[i]? = some oi) (hsel : ∀ (j : Nat) (o : Oper) cs b, ops[j]? = some o → o.op ≠ .select cs b)
    (hQ : ∀ c a w, Q (.panic c) (a.put oi.dst v) w → Q (.panic c) a w) (hTU : ∀ t ∈ T, t ∈ U) (hU : ∀ u ∈ U, ∃ o, ops[u]? = some o ∧ ∃ e ∈ o.after, Region.binds md e = true ∧ (e.on = i ∨ e.on ∈ U)) (hiU : i ∉ U) :
    ∀ (fuel : Nat) (listed : Array Bool) (a : Act) (w : World),
      (∀ j oj, ops[j]? = some oj → j ≠ i → listed.getD j true = false → (∀ e ∈ oj.after, Region.binds md e = true → e.on ≠ i) → oi.apart ops oj = true) →
      i ∈ Region.ready md ops listed → (∀ u ∈ U, listed.getD u true = false) → YieldsIf P ops S oi v a → S w →
      wpAnyL P md ops Q S T fuel (listed.setIfInBounds i true) (a.put oi.dst v) w → wpAnyL P md ops Q S T (fuel + 1) listed a w := by
  have away : ∀ {listed : Array Bool} {k : Nat}, listed.getD k true = false → listed.getD k false = true → False := fun {listed k} h0 h1 => by
    rcases Nat.lt_or_ge k listed.size with h' | h'
    · simp [h'] at h0 h1; rw [h0] at h1; cases h1
    · simp [Array.getElem?_eq_none h'] at h1
  intro fuel
  induction fuel with
  | zero =>
    intro listed a w _ hr hun hy hS H
    refine ⟨fun h => (by rw [h] at hr; cases hr), fun j hj => ?_⟩
    by_cases hji : j = i
    · subst hji; exact hy.wpOp hi hS ⟨fun _ _ => hS, H⟩
    · have := ready_mono hj hji
      rw [H.1] at this
      cases this
  | succ fuel ih =>
    intro listed a w hfree hr hun hy hS H
    refine ⟨fun h => (by rw [h] at hr; cases hr), fun j hj => ?_⟩
    by_cases hji : j = i
    · subst hji; exact hy.wpOp hi hS ⟨fun _ _ => hS, H⟩
    · have h1 := H.2 j (ready_mono hj hji)
      obtain ⟨hjun, oj, hoj, hall⟩ := mem_ready.1 hj
      have hjU : j ∉ U := fun hm => by
        obtain ⟨o, ho, e, he, hb, hon⟩ := hU j hm
        rw [hoj] at ho
        injection ho with ho
        subst ho
        have h1 := hall e he hb
        rcases hon with hon | hon
        · rw [hon] at h1; exact away (mem_ready.1 hr).1 h1
        · exact away (hun _ hon) h1
      have hnot : ∀ e ∈ oj.after, Region.binds md e = true → e.on ≠ i := fun e he hb heq => by
        have h1 := hall e he hb
        rw [heq] at h1
        exact away (mem_ready.1 hr).1 h1
      have h2 := wpOp_putIf hoj (hfree j oj hoj hji hjun hnot) (fun cs b => hsel i oi cs b hi) (fun cs b => hsel j oj cs b hoj) hQ hy h1
      have hfree' : ∀ k ok, ops[k]? = some ok → k ≠ i → (listed.setIfInBounds j true).getD k true = false →
          (∀ e ∈ ok.after, Region.binds md e = true → e.on ≠ i) → oi.apart ops ok = true := fun k ok hk hki hun2 hno => by
        refine hfree k ok hk hki ?_ hno
        by_cases hjk : j = k
        · subst hjk; exact hjun
        · rw [getD_set_ne true hjk] at hun2; exact hun2
      have hun' : ∀ u ∈ U, (listed.setIfInBounds j true).getD u true = false := fun u hu => by
        rw [getD_set_ne true (fun e => hjU (by rw [e]; exact hu))]; exact hun u hu
      have hSi : ∀ w', (j ∉ T → (∀ t ∈ T, (listed.setIfInBounds i true).getD t true = false) → S w') → S w' := fun w' h =>
        h (fun hm => hjU (hTU j hm)) (fun t ht => by
          rw [getD_set_ne true (fun e => hiU (by rw [e]; exact hTU t ht))]; exact hun t (hTU t ht))
      refine wpOp_mono (fun a' w' h3 => ⟨fun _ _ => hSi w' h3.2.1, ih (listed.setIfInBounds j true) a' w' hfree' (ready_mono hr (Ne.symm hji)) hun' h3.1 (hSi w' h3.2.1) ?_⟩) h2
      rw [Array.setIfInBounds_comm _ _ hji]
      exact h3.2.2

/-- Does each of U wait for i, or for another one of U? -/
def waits (md : Region.Mode) (ops : Array Oper) (U : List Nat) (i : Nat) : Bool := U.all fun u => match ops[u]? with
  | some o => o.after.any fun e => Region.binds md e && (e.on == i || U.contains e.on)
  | none => false
theorem waits_spec {U : List Nat} {i : Nat} (h : waits md ops U i = true) : ∀ u ∈ U, ∃ o, ops[u]? = some o ∧ ∃ e ∈ o.after, Region.binds md e = true ∧ (e.on = i ∨ e.on ∈ U) := fun u hu => by
  have h1 := List.all_eq_true.1 h u hu
  cases ho : ops[u]? with
  | none => rw [ho] at h1; cases h1
  | some o =>
    rw [ho] at h1
    obtain ⟨k, hk, h2⟩ := Array.any_eq_true.1 h1
    simp only [Bool.and_eq_true, Bool.or_eq_true, beq_iff_eq, List.contains_iff_mem] at h2
    exact ⟨o, rfl, _, Array.getElem_mem hk, h2⟩
theorem takeL (U : List Nat) (d : Option Tmp) (v : Value) {i : Nat} {oi : Oper} {fuel : Nat} {listed : Array Bool} {a : Act} {w : World} (hi : ops[i]? = some oi) (hd : oi.dst = d) (hs : Region.noSelect ops = true) (hf : Region.free md ops listed i = true) (hr : (Region.ready md ops listed).contains i = true)
    (hQ : ∀ c a w, Q (.panic c) (a.put d v) w → Q (.panic c) a w) (hTU : T.all U.contains = true) (hU : waits md ops U i = true) (hiU : U.contains i = false) (hun : (U.all fun u => !listed.getD u true) = true) (hw : Region.wanted oi (yielded ops a.tmps) = true) (hy : ∀ w, S w → (execOp a.eval oi).run P w = .ok (.value v) w) (hS : S w)
    (h : wpAnyL P md ops Q S T fuel (listed.setIfInBounds i true) (a.put d v) w) : wpAnyL P md ops Q S T (fuel + 1) listed a w := by
  subst hd
  refine wpAnyL_first (U := U) hi (Region.noSelect_spec hs) hQ (fun t ht => by simpa using List.all_eq_true.1 hTU t ht) (waits_spec hU) (fun hm => by rw [List.contains_iff_mem.2 hm] at hiU; cases hiU) fuel listed a w (Region.free_spec hi hf) (by simpa using hr) (fun u hu => by simpa using List.all_eq_true.1 hun u hu) (Or.inl ⟨hw, hy⟩) hS h

/-- Each of the operations 'rs' comes up next. -/
def AllReadyL (P : Program) (md : Region.Mode) (ops : Array Oper) (Q : Exit → Act → World → Prop) (S : World → Prop) (T : List Nat) (fuel : Nat) (listed : Array Bool) (a : Act) (w : World) (rs : List Nat) : Prop :=
  ∀ i ∈ rs, wpOp P ops Q i (fun a' w' => (i ∉ T → (∀ t ∈ T, listed.getD t true = false) → S w') ∧ wpAnyL P md ops Q S T fuel (listed.setIfInBounds i true) a' w') a w
theorem AllReadyL.nil {fuel : Nat} {listed : Array Bool} {a : Act} {w : World} : AllReadyL P md ops Q S T fuel listed a w [] := fun _ h => by cases h
theorem AllReadyL.cons {fuel : Nat} {listed : Array Bool} {a : Act} {w : World} {i : Nat} {o : Oper} {rs : List Nat} (ho : ops[i]? = some o) (hT : T.contains i = false)
    (h : ∀ K' : Act → World → Prop, Shut (∀ a w, S w → wpAnyL P md ops Q S T fuel (listed.setIfInBounds i true) a w → K' a w) → if Region.wanted o (yielded ops a.tmps) = true then Oper.wp P o a w K' Q else K' (a.put o.dst undef) w)
    (hs : AllReadyL P md ops Q S T fuel listed a w rs) : AllReadyL P md ops Q S T fuel listed a w (i :: rs) := fun j hj => by
  rcases List.mem_cons.1 hj with rfl | hj
  · exact wpOp_step ho (fun K' hK => h K' (fun a w hS hW => hK a w ⟨fun _ _ => hS, hW⟩))
  · exact hs j hj
theorem AllReadyL.late {fuel : Nat} {listed : Array Bool} {a : Act} {w : World} {i : Nat} {o : Oper} {rs : List Nat} (ho : ops[i]? = some o) (hT : T.contains i = true)
    (h : ∀ K' : Act → World → Prop, Shut (∀ a w, wpAnyL P md ops Q S T fuel (listed.setIfInBounds i true) a w → K' a w) → if Region.wanted o (yielded ops a.tmps) = true then Oper.wp P o a w K' Q else K' (a.put o.dst undef) w)
    (hs : AllReadyL P md ops Q S T fuel listed a w rs) : AllReadyL P md ops Q S T fuel listed a w (i :: rs) := fun j hj => by
  rcases List.mem_cons.1 hj with rfl | hj
  · exact wpOp_step ho (fun K' hK => h K' (fun a w hW => hK a w ⟨fun hn => absurd (List.contains_iff_mem.1 hT) hn, hW⟩))
  · exact hs j hj
theorem wpAnyL_ready {rs : List Nat} {fuel : Nat} {listed : Array Bool} {a : Act} {w : World} (hr : Region.ready md ops listed = rs) (hne : rs ≠ [])
    (h : AllReadyL P md ops Q S T fuel listed a w rs) : wpAnyL P md ops Q S T (fuel + 1) listed a w := ⟨fun h0 => absurd (hr ▸ h0) hne, hr ▸ h⟩
theorem wpAnyL_done {listed : Array Bool} {a : Act} {w : World} (hr : Region.ready md ops listed = []) (h : Q .normal a w) : ∀ fuel, wpAnyL P md ops Q S T fuel listed a w
  | 0 => ⟨hr, h⟩
  | _ + 1 => ⟨fun _ => h, by rw [hr]; simp⟩

theorem wpAnyIn_of_L {F : Fence} {n : Nat} (hp : ∀ o ∈ ops.toList, PlainOp P o) (hQ : ¬ LetsOut Q) : ∀ (fuel : Nat) (listed : Array Bool) (a : Act) (w : World), wpAnyL P md ops Q S T fuel listed a w → wpAnyIn F n P md ops Q fuel listed a w
  | 0, _, _, _, h => h
  | fuel + 1, listed, a, w, h => ⟨h.1, fun i hi => by
    have h2 := h.2 i hi
    unfold wpOp at h2
    unfold wpOpIn
    cases ho : ops[i]? with
    | none => rw [ho] at h2; exact wpAnyIn_of_L hp hQ fuel _ _ _ h2.2
    | some o =>
      rw [ho] at h2
      have hm : PlainOp P o := hp o (by
        obtain ⟨hlt, rfl⟩ := Array.getElem?_eq_some_iff.1 ho
        exact Array.getElem_mem_toList hlt)
      simp only at h2 ⊢
      split
      · rename_i hw
        rw [if_pos hw] at h2
        rcases h2 with h2 | h2
        · exact wpIn_of_wp hm (fun a' w' h' => wpAnyIn_of_L hp hQ fuel _ a' w' h'.2) h2
        · exact absurd h2.2 hQ
      · rename_i hw
        rw [if_neg hw] at h2
        exact ⟨fun f hf => by (rw [hm.about] at hf; exact nomatch hf), wpAnyIn_of_L hp hQ fuel _ _ _ h2.2⟩⟩
/-- The beginning, inside a round. -/
theorem wpIn_region_L {F : Fence} {n : Nat} {id : Nat} {a : Act} {w : World} (S : World → Prop) (T : List Nat) (hm : P.follows .mixedOrders = true) (hp : ∀ o ∈ ops.toList, PlainOp P o) (hQ : ¬ LetsOut Q)
    (h : wpAnyL P .any ops Q S T ops.size (Array.replicate ops.size false) a w.drew) : (Code.region id ops true).wpIn F n P Q a w :=
  wpIn_region_any hm (wpAnyIn_of_L hp hQ _ _ _ _ h)
end

end Go.Proofs.YtjjoadmkpbmhpaaGreat
