/- The reference of dealing: Deal. The reference of dealing: Deal, whatever comes of it. -/
import Derived.Test.YtggnipkfliompaaGreatDoorMCoM
namespace Go.Proofs.YtggnipkfliompaaGreatDoor
open Go.RowKit FP

theorem own_from {W : World} {base size n b0 : Nat} {e : TypeId} {v : Value} {xs : List Value} (h : W.ownsRow base e size v n xs) (hb : b0 ≤ base) : ∀ b, v.ownBlock = some b → b0 ≤ b := fun b e1 => by
  rcases h.2 with ⟨rfl, -⟩ | ⟨g, cap, cur, rfl, hg, -⟩
  · cases e1
  · simp only [Value.ownBlock, Option.some.injEq] at e1
    omega
theorem own_fresh (w : World) (x : Value) (t : TypeId) (B : Nat) (hB : w.heap.size = B) : (w.alloc (.cells #[x] t)).ownsRow B t 1 (.slice (some ⟨B, 0, none⟩) 1 1) 1 [x] := by
  subst hB
  exact ⟨rfl, .inr ⟨_, _, _, rfl, Nat.le_refl _, World.alloc_heap_new w _, Nat.le_refl _, by unfold maxLen; omega, rfl, rfl⟩⟩

set_option maxRecDepth 100000 in
set_option maxHeartbeats 8000000 in
theorem rDeal_fresh (rv ov mv : Value) (rows : List (List Int)) (owners : List Int) (x : Int) (rnd : List Int) (w : World) (hR : Rows2 w rv rows) (hO : Ints w ov owners) (hM : Ints w mv rnd) (hD : DealOK rows owners x rnd) (hp0 : progE rows owners = 0) :
    Calls Tryz.prog 69 #[.agg #[rv, ov], .int .i64 x, mv] w fun r w' => ∃ lv cv, r = .returned (.tuple #[lv, cv, .int .i64 0]) ∧ Shares w' lv (dealL rows (x :: rnd)) ∧ Ints w' cv (dealC (x :: rnd)) ∧ (∀ b, lv.ownBlock = some b → w.heap.size ≤ b) ∧ (∀ b, cv.ownBlock = some b → w.heap.size ≤ b) ∧ Below w.heap.size w w' := by
  obtain ⟨W1, hW1, hb1, hr1, hz⟩ := box_prog w rv ov 25
  have HR1 := Lib.hid (hR.below hb1)
  have HO1 := Lib.hid (hO.below hb1)
  have HM1 := Lib.hid (hM.below hb1)
  have HPC := Lib.hid (rpCheck_any rv ov rows owners W1 HR1.out HO1.out)
  rw [hp0] at HPC
  obtain ⟨a, cap, rfl, -, hlen, -⟩ := id hR
  obtain ⟨a2, cap2, rfl, -, hlen2, -⟩ := id hO
  obtain ⟨a3, cap3, rfl, -, hlen3, -⟩ := id hM
  have c0 : W1.cell? ⟨w.heap.size, 0, none⟩ = some (.slice a rows.length cap) := row_cell hr1 rfl
  have c1 : W1.cell? ⟨w.heap.size, 1, none⟩ = some (.slice a2 owners.length cap2) := row_cell hr1 rfl
  have HW1 := Lib.hid hW1
  have HB1 := Lib.hid hb1
  have hx : R64 x := num_r64 hD.hx
  have HX : Hid ((!oddQ x) = true) := Lib.hid (by rw [oddQ_of hD.hx]; rfl)
  have HRn : Hid ((!rnd.any oddQ) = true) := Lib.hid (by rw [any_odd_of hD.hr]; rfl)
  have hcl := hD.len
  have hcu := hD.prog.cols_le
  have hci : (1 : Int) ≤ (colsQ rows : Nat) := by omega
  have hcv : ((colsQ rows : Nat) : Int) ≤ 64 := by omega
  have hlb : ((rnd.length : Int) != ((colsQ rows : Nat) : Int) - 1) = false := bne_eq_false_iff_eq.2 (by omega)
  have HD := Lib.hid hD
  have HS64 : Hid (∀ z ∈ x :: rnd, R64 z) := Lib.hid (by
    intro z hz
    rcases List.mem_cons.1 hz with rfl | hz
    · exact hx
    · exact num_r64 (hD.hr z hz))
  clear hR hO hM hr1 hW1 hb1 hp0 hD
  go_enter Tryz.func69, Tryz.ntmps69
  go_wp2_with fail
  rw [← HW1.out]
  refine HPC.out.mono ?_
  rintro r w2 ⟨rfl, hb2⟩
  have HB2 := Lib.hid (HB1.out.trans (hb2.mono HB1.out.size))
  have HM2 := Lib.hid (HM1.out.below hb2)
  have HR2 := Lib.hid (HR1.out.below hb2)
  have HO2 := Lib.hid (HO1.out.below hb2)
  have d0 := below_cell hb2 c0
  have d1 := below_cell hb2 c1
  clear hb2 HPC c0 c1
  go_wp2_with fail
  with_reducible refine (rnumber34_any x _).mono ?_
  rintro r w3 ⟨rfl, rfl⟩
  rw [HX.out]
  go_wp2_with fail
  refine (rcolumns_any _ _ rows owners _ HR2.out HO2.out).mono ?_
  rintro r w6 ⟨rfl, hb6⟩
  have f0 := below_cell hb6 d0
  have HM6 := Lib.hid (HM2.out.below hb6)
  have HR6 := Lib.hid (HR2.out.below hb6)
  have HB6 := Lib.hid (HB2.out.trans (hb6.mono HB2.out.size))
  clear hb6 d0 d1
  go_wp2_with fail
  refine (rNumbers34_any _ rnd _ HM6.out).mono ?_
  rintro r w7 ⟨rfl, rfl⟩
  rw [HRn.out]
  have hn1 := below_new w6 #[.int .i64 x] 3
  have hof := own_fresh w6 (.int .i64 x) 3 w6.heap.size rfl
  have HOF := Lib.hid hof
  have HMN := Lib.hid (HM6.out.below hn1)
  have hbs : w6.heap.size ≤ (w6.alloc (.cells #[.int .i64 x] 3)).heap.size := by simp
  have HBS := Lib.hid hbs
  have HN1 := Lib.hid hn1
  clear hof hn1 hbs
  go_wp2_with (refine app_ints_any rfl _ _ rfl w6.heap.size w6.heap.size 1 1 [.int .i64 x] rfl HOF.out _ rnd rfl HMN.out (by omega) (Nat.le_refl _) HBS.out ?_; intro v8 w8 hown8 hbl8; have HOW := Lib.hid hown8; have HG := Lib.hid hbl8; clear hown8 hbl8)
  obtain ⟨s, hs⟩ : ∃ s, s = x :: rnd := ⟨_, rfl⟩
  have HSN := Lib.hid (show s.length = colsQ rows by rw [hs, List.length_cons]; exact hcl)
  have hs7 : Ints w8 v8 s := by
    rw [hs]
    exact Ints.own (zs := x :: rnd) HOW.out HS64.out (by simp; omega)
  have HSS := Lib.hid hs
  clear hs
  have hb67 := HN1.out.trans HG.out
  have HS7 := Lib.hid hs7
  have HR7 := Lib.hid (HR6.out.below hb67)
  have HB7 := Lib.hid (HB6.out.trans (hb67.mono HB6.out.size))
  have x0 := below_cell hb67 f0
  obtain ⟨a10, c10, rfl, -⟩ := id hs7
  have h00 : (w8.alloc (.cells #[] 68)).ownsRow w8.heap.size 68 2 (.slice (some ⟨w8.heap.size, 0, none⟩) 0 0) 0 (((List.range 0).map (dealF rows s)).flatMap shaC) := World.ownsRow_made _ #[] 0 (Nat.le_refl _) (by unfold maxLen; omega) rfl
  have hba := below_new w8 #[] 68
  clear hs7 hb67 f0 HOF HMN HBS HN1 HOW HG HM6 HR6 HM2 HR2 HO2 HM1 HR1 HO1
  go_loopw [11, 12] (fun L i W => ∃ k : Nat, k ≤ rows.length ∧ i = .int .i64 k ∧ W.ownsRow w8.heap.size 68 2 L k (((List.range k).map (dealF rows s)).flatMap shaC) ∧ Below w8.heap.size w8 W) (fun _ i _ => rows.length - (intOf i).toNat)
  case atStart => exact ⟨0, Nat.zero_le _, rfl, h00, hba⟩
  case round =>
    clear h00 hba
    obtain ⟨k, hkl, rfl, hown, hb⟩ := hrel
    have y0 := below_cell hb x0
    by_cases hlt : k < rows.length
    · obtain ⟨aa, cc, e1, -, -, hk⟩ := HR7.out
      obtain ⟨b, off, r, ha, q1, hI⟩ := hk k hlt
      simp only [Value.slice.injEq] at e1
      obtain ⟨rfl, -, rfl⟩ := e1
      subst ha
      have y1 := below_cell hb q1
      have HI := Lib.hid (hI.below hb)
      have HSW := Lib.hid (HS7.out.below hb)
      obtain ⟨ra, rc, rfl, -⟩ := id hI
      have hrl := HD.out.prog.row hlt
      have hfew := HD.out.prog.few
      have HT := Lib.hid (rProduct34_any _ _ rows[k] s wr HI.out HSW.out (by rw [hrl, HSN.out]; exact Nat.le_refl _))
      have HF : Hid (dealF rows s k = ((k : Int), prodQ rows[k] s)) := Lib.hid (by unfold dealF; rw [getD_at hlt])
      have HBW := Lib.hid hb
      have HOW := Lib.hid hown
      have i0 : 0 ≤ (k : Int) := by omega
      have i1 : (k : Int) < (rows.length : Int) := by omega
      clear hk hI q1 hb hown hrl
      generalize rows[k] = row at *
      generalize prodQ row s = pr at *
      go_wp2_with fail
      refine HT.out.mono ?_
      rintro r w9 ⟨rfl, hb8⟩
      have hb9 := hb8.alloc hb8.size (.cells #[.int .i64 k, .int .i64 pr] 68)
      have HOX := Lib.hid (own_keep HOW.out hb9)
      have hrw := World.alloc_heap_new w9 (.cells #[.int .i64 k, .int .i64 pr] 68)
      have hq0 : (w9.alloc (.cells #[.int .i64 k, .int .i64 pr] 68)).cell? ⟨w9.heap.size, 0, none⟩ = some (.int .i64 k) := row_cell hrw rfl
      have hq1 : (w9.alloc (.cells #[.int .i64 k, .int .i64 pr] 68)).cell? ⟨w9.heap.size, 0 + 1, none⟩ = some (.int .i64 pr) := row_cell hrw rfl
      have HQ0 := Lib.hid hq0
      have HQ1 := Lib.hid hq1
      have HB9 := Lib.hid (HBW.out.trans (hb9.mono HBW.out.size))
      have hbs : w8.heap.size ≤ (w9.alloc (.cells #[.int .i64 k, .int .i64 pr] 68)).heap.size := HB9.out.size
      have HBS := Lib.hid hbs
      clear hb8 hb9 hrw hq0 hq1 hbs
      go_wp2_with (refine app_share rfl _ _ rfl w8.heap.size _ ((List.range k).map (dealF rows s)) k rfl HOX.out w9.heap.size 0 1 ((k : Int), pr) rfl HQ0.out HQ1.out (by omega) HBS.out ?_; intro g8 cap8 wz h9 o9; have H9 := Lib.hid h9; have O9 := Lib.hid o9; clear h9 o9)
      go_roundw
      case rel => exact ⟨k + 1, by omega, by go_num, by rw [range_snoc, HF.out]; exact H9.out, HB9.out.trans (own_below HOX.out O9.out.1 HBS.out)⟩
      case measure => simp [intOf]; omega
    · obtain rfl : k = rows.length := by omega
      have hfew := HD.out.prog.few
      have hdk : decide (rows.length < rows.length) = false := decide_eq_false (by omega)
      have HL := Lib.hid hown
      have HBL := Lib.hid hb
      have HSL := Lib.hid (HS7.out.below hb)
      obtain ⟨wl, hwl⟩ : ∃ wl : World, wl = wr := ⟨_, rfl⟩
      rw [← hwl] at HL HBL HSL y0 ⊢
      clear hown hb hwl x0
      have h01 : (wl.alloc (.cells #[] 3)).ownsRow wl.heap.size 3 1 (.slice (some ⟨wl.heap.size, 0, none⟩) 0 0) 0 (((s.take 0).map (powE 4)).map (Value.int .i64)) := World.ownsRow_made _ #[] 0 (Nat.le_refl _) (by unfold maxLen; omega) rfl
      have hba := below_new wl #[] 3
      go_wp2_with fail
      go_loopw [13, 14] (fun C i W => ∃ k : Nat, k ≤ s.length ∧ i = .int .i64 k ∧ W.ownsRow wl.heap.size 3 1 C k (((s.take k).map (powE 4)).map (Value.int .i64)) ∧ Below wl.heap.size wl W) (fun _ i _ => s.length - (intOf i).toNat)
      case atStart => exact ⟨0, Nat.zero_le _, rfl, h01, hba⟩
      case round =>
        clear h01 hba y0
        obtain ⟨k, hkl, rfl, hown, hb⟩ := hrel
        by_cases hlt : k < s.length
        · obtain ⟨a9, c9, e9, -, -, hrr, hk⟩ := HSL.out
          obtain ⟨b, off, ha, q1⟩ := hk k hlt
          simp only [Value.slice.injEq] at e9
          obtain ⟨rfl, -, rfl⟩ := e9
          subst ha
          have y1 := below_cell hb q1
          have hz64 := hrr _ (List.getElem_mem hlt)
          have HTK : Hid ((s.take (k + 1)).map (powE 4) = (s.take k).map (powE 4) ++ [powE 4 s[k]]) := Lib.hid (by rw [List.take_succ_eq_append_getElem hlt, List.map_append]; rfl)
          have HPW := Lib.hid (fun w => rpower34_any 4 s[k] w el_four hz64)
          have hk65 : k ≤ 64 := by have := HSN.out; omega
          have i0 : 0 ≤ (k : Int) := by omega
          have i1 : (k : Int) < (s.length : Int) := by omega
          have HBW := Lib.hid hb
          have HOW := Lib.hid hown
          have HN := Lib.hid (below_new wr #[.int .i64 (powE 4 s[k])] 3)
          clear hk hrr q1 hb hown
          generalize s[k] = z at *
          generalize powE 4 z = pz at *
          have HOX := Lib.hid (own_keep HOW.out HN.out)
          have hq0 : (wr.alloc (.cells #[.int .i64 pz] 3)).cell? ⟨wr.heap.size, 0, none⟩ = some (.int .i64 pz) := row_cell (World.alloc_heap_new _ _) rfl
          have HQ0 := Lib.hid hq0
          have HB9 := Lib.hid (HBW.out.trans (HN.out.mono HBW.out.size))
          have HBS := Lib.hid HB9.out.size
          clear hq0
          go_wp2_with fail
          with_reducible refine (HPW.out _).mono ?_
          rintro r w9 ⟨rfl, rfl⟩
          go_wp2_with (refine app_int rfl _ _ rfl wl.heap.size k _ _ rfl HOX.out wr.heap.size 1 pz rfl HQ0.out (by omega) HBS.out ?_; intro v9 wz h9 o9; have H9 := Lib.hid h9; have O9 := Lib.hid o9; clear h9 o9)
          go_roundw
          case rel => exact ⟨k + 1, by omega, by go_num, by rw [HTK.out, List.map_append]; exact H9.out, HB9.out.trans (own_below HOX.out O9.out HBS.out)⟩
          case measure => simp [intOf]; omega
        · have hk2 : k = s.length := by omega
          rw [hk2, List.take_length] at hown
          have HLO := Lib.hid (own_keep HL.out hb)
          have HLS := Lib.hid (Shares.own (l := dealL rows s) HLO.out (by
            intro p hp
            obtain ⟨i, hi, rfl⟩ := List.mem_map.1 hp
            exact dealF_r64 rows _ (by have := List.mem_range.1 hi; omega)) (by unfold dealL; simp; omega))
          have hsl : s.length ≤ 64 := by have := HSN.out; omega
          have HCS := Lib.hid (Ints.own (zs := dealC s) hown (by
            intro z hz
            obtain ⟨n, -, rfl⟩ := List.mem_map.1 hz
            exact (el_powE el_four n).r64) (by unfold dealC; simp; omega))
          have HBF := Lib.hid (HB7.out.trans ((HBL.out.trans (hb.mono HBL.out.size)).mono HB7.out.size))
          have hdk2 : decide (k < s.length) = false := decide_eq_false (by omega)
          have HF1 := Lib.hid (own_from HLO.out (Nat.le_trans HB7.out.size (Nat.le_refl _)))
          have HF2 := Lib.hid (own_from hown (Nat.le_trans HB7.out.size HBL.out.size))
          clear hown hb HL HLO hk2
          go_wp2_with fail
          go_ret3
          exact ⟨_, _, rfl, HSS.out ▸ HLS.out, HSS.out ▸ HCS.out, HF1.out, HF2.out, HBF.out⟩
end Go.Proofs.YtggnipkfliompaaGreatDoor

namespace Go.Proofs.YtggnipkfliompaaGreatDoor
open Go.RowKit FP

end Go.Proofs.YtggnipkfliompaaGreatDoor
