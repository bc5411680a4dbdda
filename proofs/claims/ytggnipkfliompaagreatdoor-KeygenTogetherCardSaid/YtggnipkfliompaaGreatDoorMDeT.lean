/- Values whose memory is of a known type; Deal once more: its lists are of its own making. -/
import Derived.Test.YtggnipkfliompaaGreatDoorMDeaF
import Derived.Test.YtggnipkfliompaaGreatDoorMLinF
set_option maxHeartbeats 8000000
set_option maxRecDepth 100000
namespace Go.Proofs.YtggnipkfliompaaGreatDoor
open Go.RowKit FP
def RowT (W : World) (t : TypeId) (v : Value) : Prop := ∀ b, v.ownBlock = some b → ∃ cs fz, W.heap[b]? = some (.cells cs t fz)
theorem RowT.below {W W' : World} {t : TypeId} {v : Value} (h : RowT W t v) (hb : Below W.heap.size W W') : RowT W' t v := fun b e => by
 obtain ⟨cs, fz, h1⟩ := h b e
 exact ⟨cs, fz, (hb.block _ (row_lt h1)).trans h1⟩
theorem RowT.own {W : World} {base size n : Nat} {t : TypeId} {v : Value} {xs : List Value} (h : W.ownsRow base t size v n xs) : RowT W t v := fun b e => by
 rcases h.2 with ⟨rfl, -⟩ | ⟨g, cap, cur, rfl, -, hg, -⟩
 ·cases e
 ·injection e with e
  subst e
  exact ⟨cur, _, hg⟩
theorem RowT.ne {W : World} {base size n : Nat} {t e : TypeId} {v u : Value} {xs : List Value} (h : RowT W t v) (ho : W.ownsRow base e size u n xs) (hne : t ≠ e) : ∀ b, v.ownBlock = some b → u.ownBlock ≠ some b := fun b h1 h2 => by
 obtain ⟨cs, fz, h3⟩ := h b h1
 obtain ⟨cs2, fz2, h4⟩ := RowT.own ho b h2
 rw [h3] at h4
 injection h4 with h4
 injection h4 with _ h5 _
 exact hne h5
theorem RowT.grown {W W' : World} {base size n : Nat} {t e : TypeId} {v u : Value} {xs : List Value} (h : RowT W t v) (ho : W.ownsRow base e size u n xs) (hne : t ≠ e) (hg : W.grownBy W' u.ownBlock) : RowT W' t v := fun b h1 => by
 obtain ⟨cs, fz, h3⟩ := h b h1
 exact ⟨cs, fz, (hg.block b (row_lt h3) (fun e2 => h.ne ho hne b h1 e2.symm)).trans h3⟩
def RI (W : World) (v : Value) (zs : List Int) : Prop := Ints W v zs ∧ RowT W 3 v
def RS (W : World) (v : Value) (l : List (Int × Int)) : Prop := Shares W v l ∧ RowT W 68 v
theorem RI.grown {W W' : World} {base size n : Nat} {e : TypeId} {v u : Value} {xs : List Value} {zs : List Int} (h : RI W v zs) (ho : W.ownsRow base e size u n xs) (hne : 3 ≠ e) (hg : W.grownBy W' u.ownBlock) : RI W' v zs := by
 refine ⟨?_, h.2.grown ho hne hg⟩
 obtain ⟨⟨a, cap, rfl, h2, h3, h4, h5⟩, hT⟩ := h
 refine ⟨a, cap, rfl, h2, h3, h4, fun k hk => ?_⟩
 obtain ⟨b, off, rfl, h7⟩ := h5 k hk
 exact ⟨b, off, rfl, hg.cell h7 (fun e2 => hT.ne ho hne b rfl e2.symm)⟩
theorem RI.own {W : World} {base n : Nat} {v : Value} {zs : List Int} (h : W.ownsRow base 3 1 v n (zs.map (Value.int .i64))) (hr : ∀ z ∈ zs, R64 z) (hl : zs.length ≤ 17592186044416) : RI W v zs := ⟨Ints.own h hr hl, RowT.own h⟩
theorem RS.own {W : World} {base n : Nat} {v : Value} {l : List (Int × Int)} (h : W.ownsRow base 68 2 v n (l.flatMap shaC)) (hr : ∀ p ∈ l, R64 p.1 ∧ R64 p.2) (hl : l.length ≤ 1000000) : RS W v l := ⟨Shares.own h hr hl, RowT.own h⟩
theorem deal_fresh (rv ov mv : Value) (rows : List (List Int)) (owners : List Int) (x : Int) (rnd : List Int) (w : World) (hR : Rows2 w rv rows) (hO : Ints w ov owners) (hM : Ints w mv rnd) (hD : DealOK rows owners x rnd) (hp0 : progE rows owners = 0) :
  Calls Tryz.prog 91 #[.agg #[rv, ov], .int .i64 x, mv] w fun r w' => ∃ lv cv, r = .returned (.tuple #[lv, cv, .int .i64 0]) ∧ RS w' lv (dealL rows (x :: rnd)) ∧ RI w' cv (dealC (x :: rnd)) ∧ (∀ b, cv.ownBlock = some b → w.heap.size ≤ b) ∧ Below w.heap.size w w' := by
 obtain ⟨W1, hW1, hb1, hr1, hz⟩ := box_prog w rv ov 25
 have HR1 := Lib.hid (hR.below hb1)
 have HO1 := Lib.hid (hO.below hb1)
 have HM1 := Lib.hid (hM.below hb1)
 have HPC := Lib.hid (pCheck_any rv ov rows owners W1 HR1.out HO1.out)
 rw [hp0] at HPC
 obtain ⟨a, cap, rfl, -, hlen, -⟩ := id hR
 obtain ⟨a2, cap2, rfl, -, hlen2, -⟩ := id hO
 obtain ⟨a3, cap3, rfl, -, hlen3, -⟩ := id hM
 have c0 : W1.cell? ⟨w.heap.size, 0, none⟩ = some (.slice a rows.length cap) := row_cell hr1 rfl
 have c1 : W1.cell? ⟨w.heap.size, 1, none⟩ = some (.slice a2 owners.length cap2) := row_cell hr1 rfl
 have HW1 := Lib.hid hW1
 have HB1 := Lib.hid hb1
 have hx : R64 x := num_r64 hD.hx
 have HX := Lib.hid (oddQ_of hD.hx)
 have HRn := Lib.hid (any_odd_of hD.hr)
 have hcl := hD.len
 have hcu := hD.prog.cols_le
 have hci : (1 : Int) ≤ (colsQ rows : Nat) := by omega
 have hcv : ((colsQ rows : Nat) : Int) ≤ 64 := by omega
 have hlb : ((rnd.length : Int) != ((colsQ rows : Nat) : Int) - 1) = false := bne_eq_false_iff_eq.2 (by omega)
 have HD := Lib.hid hD
 have HS64 : Hid (∀ z ∈ x :: rnd, R64 z) := Lib.hid (by
  intro z hz
  rcases List.mem_cons.1 hz with rfl | hz
  ·exact hx
  ·exact num_r64 (hD.hr z hz))
 clear hR hO hM hr1 hW1 hb1 hp0 hD
 go_enter Tryz.func91, Tryz.ntmps91
 go_wp2_with fail
 rw [← HW1.out]
 refine HPC.out.mono ?_
 rintro r w2 ⟨rfl, hb2⟩
 have HB2 := Lib.hid (HB1.out.trans (hb2.mono HB1.out.size))
 have HM2 := Lib.hid (HM1.out.below hb2)
 have HR2 := Lib.hid (HR1.out.below hb2)
 have HO2 := Lib.hid (HO1.out.below hb2)
 have d0 := below_cell hb2 c0
 have d1 := below_cell hb2 c1
 clear hb2 HPC c0 c1
 go_wp2_with fail
 refine (numbers_any _ [x] _ (ints_one w2 x 3 _ rfl hx)).mono ?_
 rintro r w3 ⟨rfl, hb3⟩
 rw [one_any, HX.out]
 have hb3' := (below_new w2 #[.int .i64 x] 3).trans (hb3.mono (by simp))
 have HM3 := Lib.hid (HM2.out.below hb3')
 have HR3 := Lib.hid (HR2.out.below hb3')
 have HO3 := Lib.hid (HO2.out.below hb3')
 have f0 := below_cell hb3' d0
 have f1 := below_cell hb3' d1
 have HB4 := Lib.hid (HB2.out.trans (hb3'.mono HB2.out.size))
 clear hb3 hb3' d0 d1
 go_wp2_with fail
 refine (numbers_any _ rnd _ HM3.out).mono ?_
 rintro r w4 ⟨rfl, hb5⟩
 rw [HRn.out]
 have g0 := below_cell hb5 f0
 have g1 := below_cell hb5 f1
 have HM5 := Lib.hid (HM3.out.below hb5)
 have HR5 := Lib.hid (HR3.out.below hb5)
 have HO5 := Lib.hid (HO3.out.below hb5)
 have HB5 := Lib.hid (HB4.out.trans (hb5.mono HB4.out.size))
 clear hb5 f0 f1
 go_wp2_with fail
 refine (columns_any _ _ rows owners _ HR5.out HO5.out).mono ?_
 rintro r w6 ⟨rfl, hb6⟩
 have d0 := below_cell hb6 g0
 have HM6 := Lib.hid (HM5.out.below hb6)
 have HR6 := Lib.hid (HR5.out.below hb6)
 have HB6 := Lib.hid (HB5.out.trans (hb6.mono HB5.out.size))
 -- the two slices that are put together
 have ho1 := ints_one w6 x 3 _ rfl hx
 have hn1 := below_new w6 #[.int .i64 x] 3
 have hn2 := below_new (w6.alloc (.cells #[.int .i64 x] 3)) #[.slice (some ⟨w6.heap.size, 0, none⟩) 1 1, .slice a3 rnd.length cap3] 23
 have hrw := World.alloc_heap_new (w6.alloc (.cells #[.int .i64 x] 3)) (.cells #[.slice (some ⟨w6.heap.size, 0, none⟩) 1 1, .slice a3 rnd.length cap3] 23)
 have hsz1 : (w6.alloc (.cells #[.int .i64 x] 3)).heap.size = w6.heap.size + 1 := by simp
 rw [hsz1] at hrw
 have HCC := Lib.hid (iconcat_any (w6.heap.size + 1) _ _ x rnd _ (ho1.below hn2) ((HM6.out.below hn1).below hn2) (by omega) (row_cell hrw (k := 0) rfl) (row_cell hrw (k := 1) rfl))
 have hn12 := hn1.trans (hn2.mono hn1.size)
 have HN12 := Lib.hid hn12
 clear hb6 g0 g1 ho1 hn1 hn2 hrw hn12 hsz1 HR5 HM5 HO5 HO3 HR3 HM3 HM2 HR2 HO2 HR1 HO1 HM1
 go_wp2_with fail
 refine HCC.out.mono ?_
 rintro r w7 ⟨sv, rfl, hs7, hb7⟩
 obtain ⟨s, hs⟩ : ∃ s, s = x :: rnd := ⟨_, rfl⟩
 have HSN := Lib.hid (show s.length = colsQ rows by rw [hs, List.length_cons]; exact hcl)
 have HSS := Lib.hid hs
 rw [← hs] at hs7
 clear hs
 have hb67 := HN12.out.trans (hb7.mono HN12.out.size)
 have HS7 := Lib.hid hs7
 have HR7 := Lib.hid (HR6.out.below hb67)
 have HB7 := Lib.hid (HB6.out.trans (hb67.mono HB6.out.size))
 have x0 := below_cell hb67 d0
 obtain ⟨a10, c10, rfl, -⟩ := id hs7
 clear hs7 hb7 hb67 d0 HCC HN12 HM6 HR6
 have h00 : w7.ownsRow w7.heap.size 68 2 (.slice none 0 0) 0 (((List.range 0).map (dealF rows s)).flatMap shaC) := World.ownsRow_nil _ _ _ _
 go_wp2_with fail
 go_loopw [6, 47] (fun L i W => ∃ k : Nat, k ≤ rows.length ∧ i = .int .i64 k ∧ W.ownsRow w7.heap.size 68 2 L k (((List.range k).map (dealF rows s)).flatMap shaC) ∧ Below w7.heap.size w7 W) (fun _ i _ => rows.length - (intOf i).toNat)
 case atStart => exact ⟨0, Nat.zero_le _, rfl, h00, Below.refl _ _⟩
 case round =>
  clear h00
  obtain ⟨k, hkl, rfl, hown, hb⟩ := hrel
  by_cases hlt : k < rows.length
  ·obtain ⟨aa, cc, e1, -, -, hk⟩ := HR7.out
   obtain ⟨b, off, r, ha, q1, hI⟩ := hk k hlt
   simp only [Value.slice.injEq] at e1
   obtain ⟨rfl, -, rfl⟩ := e1
   subst ha
   have y1 := below_cell hb q1
   have HI := Lib.hid (hI.below hb)
   have HSW := Lib.hid (HS7.out.below hb)
   obtain ⟨ra, rc, rfl, -⟩ := id hI
   have hrl := HD.out.prog.row hlt
   have hfew := HD.out.prog.few
   have HT := Lib.hid (dtimes_any _ _ rows[k] s wr HI.out HSW.out (by rw [hrl, HSN.out]; exact Nat.le_refl _))
   have HF : Hid (dealF rows s k = ((k : Int), prodQ rows[k] s)) := Lib.hid (by unfold dealF; rw [getD_at hlt])
   have HBW := Lib.hid hb
   have HOW := Lib.hid hown
   clear hk hI q1 hb hown hrl
   generalize rows[k] = row at *
   generalize prodQ row s = pr at *
   go_wp2_with fail
   refine HT.out.mono ?_
   rintro r w8 ⟨rfl, hb8⟩
   have hb9 := hb8.alloc hb8.size (.cells #[.int .i64 k, .int .i64 pr] 68)
   have HOX := Lib.hid (own_keep HOW.out hb9)
   have hrw := World.alloc_heap_new w8 (.cells #[.int .i64 k, .int .i64 pr] 68)
   have hq0 : (w8.alloc (.cells #[.int .i64 k, .int .i64 pr] 68)).cell? ⟨w8.heap.size, 0, none⟩ = some (.int .i64 k) := row_cell hrw rfl
   have hq1 : (w8.alloc (.cells #[.int .i64 k, .int .i64 pr] 68)).cell? ⟨w8.heap.size, 0 + 1, none⟩ = some (.int .i64 pr) := row_cell hrw rfl
   have HQ0 := Lib.hid hq0
   have HQ1 := Lib.hid hq1
   have HB9 := Lib.hid (HBW.out.trans (hb9.mono HBW.out.size))
   have hbs : w7.heap.size ≤ (w8.alloc (.cells #[.int .i64 k, .int .i64 pr] 68)).heap.size := HB9.out.size
   have HBS := Lib.hid hbs
   clear hb8 hb9 hrw hq0 hq1 hbs
   go_wp2_with (refine app_share rfl _ _ rfl w7.heap.size _ ((List.range k).map (dealF rows s)) k rfl HOX.out w8.heap.size 0 1 ((k : Int), pr) rfl HQ0.out HQ1.out (by omega) HBS.out ?_; intro g8 cap8 w9 h9 o9; have H9 := Lib.hid h9; have O9 := Lib.hid o9; clear h9 o9)
   go_roundw
   case rel => exact ⟨k + 1, by omega, by go_num, by rw [range_snoc, HF.out]; exact H9.out, HB9.out.trans (own_below HOX.out O9.out.1 HBS.out)⟩
   case measure => simp [intOf]; omega
  ·obtain rfl : k = rows.length := by omega
   have hfew := HD.out.prog.few
   have HL := Lib.hid hown
   have HBL := Lib.hid hb
   have HSL := Lib.hid (HS7.out.below hb)
   obtain ⟨wl, hwl⟩ : ∃ wl : World, wl = wr := ⟨_, rfl⟩
   rw [← hwl] at HL HBL HSL ⊢
   clear hown hb hwl x0
   have h01 : wl.ownsRow wl.heap.size 3 1 (.slice none 0 0) 0 (((s.take 0).map (powE 4)).map (Value.int .i64)) := World.ownsRow_nil _ _ _ _
   go_wp2_with fail
   go_loopw [6, 7, 63] (fun L' C i W => ∃ k : Nat, k ≤ s.length ∧ i = .int .i64 k ∧ L' = u6 ∧ W.ownsRow wl.heap.size 3 1 C k (((s.take k).map (powE 4)).map (Value.int .i64)) ∧ Below wl.heap.size wl W) (fun _ _ i _ => s.length - (intOf i).toNat)
   case atStart => exact ⟨0, Nat.zero_le _, rfl, rfl, h01, Below.refl _ _⟩
   case round =>
    clear h01
    obtain ⟨k, hkl, rfl, rfl, hown, hb⟩ := hrel
    by_cases hlt : k < s.length
    ·obtain ⟨a9, c9, e9, -, -, hrr, hk⟩ := HSL.out
     obtain ⟨b, off, ha, q1⟩ := hk k hlt
     simp only [Value.slice.injEq] at e9
     obtain ⟨rfl, -, rfl⟩ := e9
     subst ha
     have y1 := below_cell hb q1
     have hz64 := hrr _ (List.getElem_mem hlt)
     have HTK : Hid ((s.take (k + 1)).map (powE 4) = (s.take k).map (powE 4) ++ [powE 4 s[k]]) := Lib.hid (by rw [List.take_succ_eq_append_getElem hlt, List.map_append]; rfl)
     have HPW := Lib.hid (fun w => pow_yes 4 s[k] w el_four hz64)
     have hk65 : k ≤ 64 := by have := HSN.out; omega
     have HBW := Lib.hid hb
     have HOW := Lib.hid hown
     clear hk hrr q1 hb hown
     generalize s[k] = z at *
     generalize powE 4 z = pz at *
     go_wp2_with fail
     refine (HPW.out _).mono ?_
     rintro r w8 ⟨rfl, hb8⟩
     have hb9 := hb8.alloc hb8.size (.cells #[.int .i64 pz] 3)
     have HOX := Lib.hid (own_keep HOW.out hb9)
     have hq0 : (w8.alloc (.cells #[.int .i64 pz] 3)).cell? ⟨w8.heap.size, 0, none⟩ = some (.int .i64 pz) := row_cell (World.alloc_heap_new _ _) rfl
     have HQ0 := Lib.hid hq0
     have HB9 := Lib.hid (HBW.out.trans (hb9.mono HBW.out.size))
     have hbs : wl.heap.size ≤ (w8.alloc (.cells #[.int .i64 pz] 3)).heap.size := HB9.out.size
     have HBS := Lib.hid hbs
     clear hb8 hb9 hq0 hbs
     go_wp2_with (refine app_int rfl _ _ rfl wl.heap.size k _ _ rfl HOX.out w8.heap.size 1 pz rfl HQ0.out (by omega) HBS.out ?_; intro v9 w9 h9 o9; have H9 := Lib.hid h9; have O9 := Lib.hid o9; clear h9 o9)
     go_roundw
     case rel => exact ⟨k + 1, by omega, by go_num, rfl, by rw [HTK.out, List.map_append]; exact H9.out, HB9.out.trans (own_below HOX.out O9.out HBS.out)⟩
     case measure => simp [intOf]; omega
    ·have hk2 : k = s.length := by omega
     rw [hk2, List.take_length] at hown
     have HLO := Lib.hid (own_keep HL.out hb)
     have HLS := Lib.hid (RS.own (l := dealL rows s) HLO.out (by
      intro p hp
      obtain ⟨i, hi, rfl⟩ := List.mem_map.1 hp
      exact dealF_r64 rows _ (by have := List.mem_range.1 hi; omega)) (by unfold dealL; simp; omega))
     have hsl : s.length ≤ 64 := by have := HSN.out; omega
     have HCS := Lib.hid (RI.own (zs := dealC s) hown (by
      intro z hz
      obtain ⟨n, -, rfl⟩ := List.mem_map.1 hz
      exact (el_powE el_four n).r64) (by unfold dealC; simp; omega))
     have HBF := Lib.hid (HB7.out.trans ((HBL.out.trans (hb.mono HBL.out.size)).mono HB7.out.size))
     have HSE := HSS.out
     subst HSE
     have HFR := Lib.hid (fun b h => Nat.le_trans (Nat.le_trans HB7.out.size HBL.out.size) (own_lt hown b h).1)
     clear hown hb HL HLO
     have hdk : decide (k < (x :: rnd).length) = false := decide_eq_false (by omega)
     go_wp2_with fail
     go_ret3
     exact ⟨_, _, rfl, HLS.out, HCS.out, HFR.out, HBF.out⟩
theorem deal_typed (rv ov mv : Value) (rows : List (List Int)) (owners : List Int) (x : Int) (rnd : List Int) (w : World) (hR : Rows2 w rv rows) (hO : Ints w ov owners) (hM : Ints w mv rnd) (hD : DealOK rows owners x rnd) (hp0 : progE rows owners = 0) :
  Calls Tryz.prog 91 #[.agg #[rv, ov], .int .i64 x, mv] w fun r w' => ∃ lv cv, r = .returned (.tuple #[lv, cv, .int .i64 0]) ∧ RS w' lv (dealL rows (x :: rnd)) ∧ RI w' cv (dealC (x :: rnd)) ∧ Below w.heap.size w w' := by
 exact (deal_fresh rv ov mv rows owners x rnd w hR hO hM hD hp0).mono fun _ _ ⟨lv, cv, h1, h2, h3, _, h4⟩ => ⟨lv, cv, h1, h2, h3, h4⟩
end Go.Proofs.YtggnipkfliompaaGreatDoor
