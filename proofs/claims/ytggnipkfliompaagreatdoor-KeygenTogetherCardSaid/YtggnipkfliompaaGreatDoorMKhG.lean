/- The laws of keygen: KeygenTogether. -/
import Derived.Test.YtggnipkfliompaaGreatDoorMKgD
import Derived.Test.YtggnipkfliompaaGreatDoorMKhE
import Derived.Test.YtggnipkfliompaaGreatDoorMKgS
import Derived.Test.YtggnipkfliompaaGreatDoorMRegL
import Derived.Lib.MinMax
set_option maxHeartbeats 16000000
set_option maxRecDepth 100000
namespace Go.Proofs.YtggnipkfliompaaGreatDoor
open Go.RowKit FP
structure FTo36 (w0 : World) (pb : Nat) (rv : Value) (ov : Value) (sb : Nat) (so : Nat) (ns : Nat) (cs : Nat) (m : Nat) (i : Nat) (s : Int) (ds : Value) (lv : Value) (r : Int) (x : Int) (done : Nat → Bool) (v : Nat → Value) (w : World) : Prop where
 b : Below w0.heap.size w0 w
 f0 : done 0 = true → v 0 = .agg #[rv, ov]
 f1 : done 1 = true → v 1 = .slice (some ⟨sb, so, none⟩) ns cs
 f2 : done 2 = true → v 2 = .int .i64 (m : Int)
 f3 : done 3 = true → v 3 = .pointer (some ⟨sb, so + m, none⟩)
 f4 : done 4 = true → v 4 = .int .i64 s
 f5 : done 5 = true → v 5 = .int .i64 (i : Int)
 f6 : done 6 = true → v 6 = ds
 f7 : done 7 = true → v 7 = lv
 f8 : done 8 = true → v 8 = .tuple #[.agg #[.int .i64 r, .int .i64 x], .int .i64 0]
 f9 : done 9 = true → v 9 = .tuple #[.agg #[.int .i64 r, .int .i64 x], .int .i64 0]
 f10 : done 10 = true → v 10 = .agg #[.int .i64 r, .int .i64 x]
 f11 : done 11 = true → v 11 = .int .i64 0
 f14 : done 14 = true → v 14 = .int .i64 0
 bx : SBox w0.heap.size w (done 12) (done 13) (v 12) r x
theorem keygenTogether_any (rv ov sv dv wv : Value) (rows : List (List Int)) (owners secrets : List Int) (dl : List (Int × Int)) (who : List Int) (w : World) (hG : Glob w) (hR : Rows2 w rv rows) (hO : Ints w ov owners) (hS : Ints w sv secrets) (hD : Duos w dv dl) (hW : Ints w wv who) :
  Calls Tryz.prog 12 #[.agg #[rv, ov], sv, dv, wv] w fun r w' => r = .returned (.bool true) ∧ Below w.heap.size w w' := by
 obtain ⟨W0, hW0, hb, r0, -⟩ := box_prog w rv ov 25
 have HG := Lib.hid (hG.below hb)
 have HR := Lib.hid (hR.below hb)
 have HO := Lib.hid (hO.below hb)
 have HS := Lib.hid (hS.below hb)
 have HD := Lib.hid (hD.below hb)
 have HW := Lib.hid (hW.below hb)
 have HB := Lib.hid hb
 obtain ⟨a1, k1, rfl, -, hl1, -⟩ := id hR
 obtain ⟨a2, k2, rfl, -, hl2, -⟩ := id hO
 obtain ⟨a3, k3, rfl, -, hl3, -⟩ := id hS
 obtain ⟨a4, k4, rfl, -, hl4, -⟩ := id hD
 obtain ⟨a5, k5, rfl, -, hl5, -⟩ := id hW
 have c0 := row_cell r0 (k := 0) (v := .slice a1 rows.length k1) rfl
 have c1 := row_cell r0 (k := 1) (v := .slice a2 owners.length k2) rfl
 have HW0 := Lib.hid hW0
 clear hG hR hO hS hD hW hb r0 hW0
 go_enter Tryz.func12, Tryz.ntmps12
 go_wp2_with (rw [← HW0.out])
 clear HW0
 with_reducible refine (sane37_any _ HG.out).mono ?_
 rintro e w2 ⟨rfl, hb2⟩
 replace c0 := below_cell hb2 c0
 replace c1 := below_cell hb2 c1
 replace HG := Lib.hid (HG.out.below hb2)
 replace HR := Lib.hid (HR.out.below hb2)
 replace HO := Lib.hid (HO.out.below hb2)
 replace HS := Lib.hid (HS.out.below hb2)
 replace HD := Lib.hid (HD.out.below hb2)
 replace HW := Lib.hid (HW.out.below hb2)
 replace HB := Lib.hid (HB.out.trans (hb2.mono HB.out.size))
 clear hb2
 go_wp2_with fail
 with_reducible refine (keysOf_any _ _ _ rows owners secrets _ HR.out HO.out HS.out).mono ?_
 rintro e w3 ⟨ka, kn, kc, ok, rfl, hb3, hkeys⟩
 replace c0 := below_cell hb3 c0
 replace c1 := below_cell hb3 c1
 replace HG := Lib.hid (HG.out.below hb3)
 replace HR := Lib.hid (HR.out.below hb3)
 replace HO := Lib.hid (HO.out.below hb3)
 replace HS := Lib.hid (HS.out.below hb3)
 replace HD := Lib.hid (HD.out.below hb3)
 replace HW := Lib.hid (HW.out.below hb3)
 replace HB := Lib.hid (HB.out.trans (hb3.mono HB.out.size))
 clear hb3
 cases ok with
 | false =>
  go_wp2_with fail
  go_ret
  exact ⟨rfl, HB.out⟩
 | true =>
 obtain ⟨rfl, hki, hko, hp0, hs10⟩ := hkeys rfl
 obtain ⟨keys, hkk⟩ : ∃ keys, keys = secrets.map (powE 4) := ⟨_, rfl⟩
 rw [← hkk] at hki hko
 have HK := Lib.hid hki
 have HKO := Lib.hid hko
 have HP0 := Lib.hid hp0
 clear hkeys hki hko hp0 hkk
 by_cases h0 : dl.length = 0
 ·have d1 : ((dl.length : Int) == 0) = true := beq_iff_eq.2 (by omega)
  have d2 : (dl.length == 0) = true := beq_iff_eq.2 h0
  go_wp2_with fail
  go_ret
  exact ⟨rfl, HB.out⟩
 have d1 : ((dl.length : Int) == 0) = false := beq_eq_false_iff_ne.2 (by omega)
 have d2 : (dl.length == 0) = false := beq_eq_false_iff_ne.2 h0
 by_cases h1 : dl.length ≤ 3
 rotate_left
 ·have d3 : decide ((3 : Int) < (dl.length : Int)) = true := decide_eq_true (by omega)
  have d4 : decide (3 < dl.length) = true := decide_eq_true (by omega)
  go_wp2_with fail
  go_ret
  exact ⟨rfl, HB.out⟩
 have d3 : decide ((3 : Int) < (dl.length : Int)) = false := decide_eq_false (by omega)
 have d4 : decide (3 < dl.length) = false := decide_eq_false (by omega)
 go_wp2_with fail
 with_reducible refine (rPeople_any _ who _ HW.out).mono ?_
 rintro e w4 ⟨rfl, hb4⟩
 replace c0 := below_cell hb4 c0
 replace c1 := below_cell hb4 c1
 replace HG := Lib.hid (HG.out.below hb4)
 replace HR := Lib.hid (HR.out.below hb4)
 replace HO := Lib.hid (HO.out.below hb4)
 replace HS := Lib.hid (HS.out.below hb4)
 replace HD := Lib.hid (HD.out.below hb4)
 replace HW := Lib.hid (HW.out.below hb4)
 replace HK := Lib.hid (HK.out.below hb4)
 replace HB := Lib.hid (HB.out.trans (hb4.mono HB.out.size))
 clear hb4
 cases hpp : peopleB (-1) who with
 | false =>
  go_wp2_with fail
  go_ret
  exact ⟨rfl, HB.out⟩
 | true =>
 have HPP := Lib.hid hpp
 clear hpp d1 d2 d3 d4
 have HLN := Lib.hid (And.intro h0 h1)
 obtain ⟨wb, rfl⟩ : ∃ x, x = w4 := ⟨_, rfl⟩
 go_wp2_with fail
 go_loopw [11, 12, 65] (fun x s i Y => ∃ (k : Nat) (T : List Dl) (zs : List DV), k ≤ dl.length ∧ i = .int .i64 k ∧ Hid (T.length = k ∧ zs.length = k) ∧ Hid (DlOK rows owners keys T) ∧ s = .int .i64 (sumX T) ∧ Hid (zs.map (·.1) = dlL rows owners keys T) ∧ Hid (∀ z ∈ zs, DvT Y z) ∧ Y.ownsRow wb.heap.size 28 3 x k (zs.flatMap dvC) ∧ Below wb.heap.size wb Y) (fun _ _ i _ => dl.length - (intOf i).toNat)
 case atStart => exact ⟨0, [], [], Nat.zero_le _, rfl, Lib.hid ⟨rfl, rfl⟩, Lib.hid (fun k h => absurd h (Nat.not_lt_zero _)), rfl, Lib.hid rfl, Lib.hid (fun z h => by cases h), World.ownsRow_nil _ _ _ _, Below.refl _ _⟩
 case round =>
  obtain ⟨k, T, zs, hkl, rfl, HTK, HDL, rfl, HZS, HDV, hown, hb⟩ := hrel
  obtain ⟨wr0, rfl⟩ : ∃ x, x = wr := ⟨_, rfl⟩
  by_cases hlt : k < dl.length
  ·obtain ⟨b, off, ea, hpr, q0_, q1_⟩ := (HD.out.below hb).at hlt
   subst ea
   have hgd := hpr
   generalize dl[k].1 = xa at *
   generalize dl[k].2 = xb at *
   obtain ⟨W5, W6, hW5, hW6, hT6, hs5, hb5, r50, r51⟩ := TogI.boxes wr0 (k : Int) xa xb xb
   have p0_ := row_cell r50 (k := 0) (v := .int .i64 (k : Int)) rfl
   have p1_ := row_cell r51 (k := 0) (v := .int .u32 xa) rfl
   have p2_ := row_cell r51 (k := 1) (v := .int .u32 xb) rfl
   have wxb : IntKind.i64.wrap xb = xb := IntWalk.i64_in _ (by omega)
   have HW5 := Lib.hid hW5
   have HW6 := Lib.hid hW6
   have HT6 := Lib.hid hT6
   have HS5 := Lib.hid hs5
   have HBW := Lib.hid (hb.trans (hT6.be.mono hb.size))
   have i0 : (0 : Int) ≤ (k : Int) := Int.natCast_nonneg k
   have i1 : (k : Int) < (dl.length : Int) := by omega
   have HLT := Lib.hid hlt
   have HOW0 := Lib.hid hown
   have HDV0 := HDV
   have HB0 := Lib.hid hb
   have c0_ := below_cell (hb.trans (hT6.be.mono hb.size)) c0
   have c1_ := below_cell (hb.trans (hT6.be.mono hb.size)) c1
   obtain ⟨la, ln, lc, rfl⟩ := own_sl hown
   have HPR := Lib.hid hpr
   clear hown hb hW5 hW6 hT6 hs5 hb5 r50 r51 hpr HDV hgd
   go_wp2_with (first | rw [← HW5.out] | rw [← HW6.out, HS5.out])
   have HRC := Lib.hid (HR.out.below HBW.out)
   have HOC := Lib.hid (HO.out.below HBW.out)
   with_reducible refine (rCols_any _ _ rows _ HRC.out ⟨_, _, _, rfl⟩).mono ?_
   rintro e w7 ⟨rfl, hb7⟩
   have HT7 := Lib.hid (HT6.out.below (hb7.mono HT6.out.size))
   replace c0_ := below_cell hb7 c0_
   replace c1_ := below_cell hb7 c1_
   have HB7 := Lib.hid (HBW.out.trans (hb7.mono HBW.out.size))
   clear hb7 HT6 HRC HOC p0_ p1_ p2_ q0_ q1_ wxb
   obtain ⟨N, hN⟩ : ∃ N, colsQ rows = N + 1 := ⟨colsQ rows - 1, by have := (progE_ok HP0.out).cols; omega⟩
   have hN64 : N ≤ 64 := by have := (progE_ok HP0.out).cols_le; omega
   have HN := Lib.hid hN
   rw [hN]
   have hN1 : ((N + 1 : Nat) : Int) - 1 = (N : Int) := by omega
   have wN : IntKind.i64.wrap (N : Int) = (N : Int) := IntWalk.i64_in _ (by omega)
   have wN1 : IntKind.i64.wrap (((N + 1 : Nat) : Int) - 1) = (N : Int) := by rw [hN1]; exact wN
   have ht7 := HT7.out
   obtain ⟨wn, hwn⟩ : ∃ x, x = w7 := ⟨_, rfl⟩
   clear hN
   go_wp2_with fail
   go_loopw [17, 77] (fun x i Y => ∃ (j : Nat) (z : Int) (rnd : List Int), j ≤ N ∧ i = .int .i64 j ∧ Hid (rnd.length = j ∧ ∀ y ∈ rnd, 0 ≤ y ∧ y < 1073741789) ∧ Hid (0 ≤ z ∧ z < 4294967296) ∧ TogI wr0 (k : Int) xa xb z Y ∧ Y.ownsRow (wr0.heap.size + 3) 3 1 x j (rnd.map (Value.int .i64))) (fun _ i _ => N - (intOf i).toNat)
   case atStart => exact ⟨0, xb, [], Nat.zero_le _, rfl, Lib.hid ⟨rfl, fun y h => by cases h⟩, Lib.hid ⟨HPR.out.2.1, HPR.out.2.2⟩, ht7, World.ownsRow_nil _ _ _ _⟩
   case round =>
    clear ht7 hN1 wN wN1 HT7
    obtain ⟨j, z, rnd, hjl, rfl, HRN, HZR, ht, hown⟩ := hrel
    by_cases hjt : j < N
    ·have HTT := Lib.hid ht
     have HOW := Lib.hid hown
     have HJT := Lib.hid hjt
     obtain ⟨xs, xn, xc, rfl⟩ := own_sl hown
     have i3 : (0 : Int) ≤ (j : Int) := Int.natCast_nonneg j
     have i4 : (j : Int) < (N : Int) := by omega
     have HK3 : Hid (0 ≤ (k : Int) ∧ (k : Int) ≤ 3) := Lib.hid (by have := HLT.out; omega)
     clear ht hown
     go_wp2_with fail
     with_reducible refine (tog1_any wr0 (k : Int) xa xb z _ HTT.out HK3.out HZR.out).mono ?_
     rintro e w9 ⟨y, rfl, hy, hT9, w8, hb8, hw9⟩
     have ho9 := own_keep_set (own_keep HOW.out hb8) (b := wr0.heap.size + 2) (o := 0) (by omega) (.int .i64 y)
     rw [← hw9] at ho9
     obtain ⟨W10, hW10⟩ : ∃ W, W = w9.alloc (.cells #[.int .i64 y] 3) := ⟨_, rfl⟩
     have hb10 : Below w9.heap.size w9 W10 := by rw [hW10]; exact below_new _ _ _
     have HC10 : Hid (W10.cell? ⟨w9.heap.size, 0, none⟩ = some (.int .i64 y)) := Lib.hid (by rw [hW10]; exact row_cell (World.alloc_heap_new _ _) rfl)
     have HO10 := Lib.hid (own_keep ho9 hb10)
     have HT10 := Lib.hid (hT9.below (hb10.mono hT9.size))
     have HS10 : Hid (wr0.heap.size + 3 ≤ W10.heap.size) := Lib.hid HT10.out.size
     have HW10 := Lib.hid hW10
     have HY := Lib.hid hy
     have HJ6 : Hid (j ≤ 1000000) := Lib.hid (by omega)
     have HR2 : Hid ((rnd ++ [y]).length = j + 1 ∧ ∀ y' ∈ rnd ++ [y], 0 ≤ y' ∧ y' < 1073741789) := Lib.hid ⟨by rw [List.length_append, HRN.out.1]; rfl, fun y' h => by
      rcases List.mem_append.1 h with h | h
      ·exact HRN.out.2 _ h
      ·rw [List.mem_singleton.1 h]; exact hy⟩
     clear hy hT9 hb8 hw9 ho9 hW10 hb10
     go_wp2_with (first | rw [← HW10.out] | (at_builtin; refine app_int rfl _ _ rfl (wr0.heap.size + 3) j _ _ rfl HO10.out w9.heap.size 1 y rfl HC10.out HJ6.out HS10.out ?_; intro v11 w11 h11 g11; have H11 := Lib.hid h11; have B11 := Lib.hid (own_below HO10.out g11 HS10.out); clear h11 g11))
     go_roundw
     case rel => exact ⟨j + 1, y, rnd ++ [y], HJT.out, by go_num, HR2, Lib.hid ⟨HY.out.1, by have := HY.out.2; omega⟩, HT10.out.below B11.out, by rw [List.map_append]; exact H11.out⟩
     case measure =>
      have h9 := HJT.out
      simp [intOf]; omega
    ·obtain rfl : N = j := by omega
     obtain ⟨wm, rfl⟩ : ∃ x, x = wr := ⟨_, rfl⟩
     have HGL := Lib.hid (fun g e9 => (own_lt hown g e9).2)
     have HOM := Lib.hid hown
     have HTM := Lib.hid ht
     have HSM := Lib.hid ht.size
     have cm0 := below_cell (HB0.out.trans (ht.be.mono HB0.out.size)) c0
     obtain ⟨xs, xn, xc, rfl⟩ := own_sl hown
     clear ht hown c0_ c1_
     go_wp2_with fail
     go_loopw [18, 88] (fun x i Y => ∃ (j : Nat) (z : Int) (us : List Int), j ≤ rows.length ∧ i = .int .i64 j ∧ Hid (us.length = j ∧ ∀ y ∈ us, 1 ≤ y ∧ y ≤ 1073741788) ∧ Hid (0 ≤ z ∧ z < 4294967296) ∧ TogI wr0 (k : Int) xa xb z Y ∧ Hid (Y.ownsRow (wr0.heap.size + 3) 3 1 (.slice xs xn xc) N (rnd.map (Value.int .i64))) ∧ Hid (wm.heap.size ≤ Y.heap.size) ∧ Y.ownsRow wm.heap.size 3 1 x j (us.map (Value.int .i64))) (fun _ i _ => rows.length - (intOf i).toNat)
     case atStart => exact ⟨0, z, [], Nat.zero_le _, rfl, Lib.hid ⟨rfl, fun y h => by cases h⟩, HZR, HTM.out, HOM, Lib.hid (Nat.le_refl _), World.ownsRow_nil _ _ _ _⟩
     case round =>
      clear HOM HTM HZR
      obtain ⟨j, z, us, hjl, rfl, HUS, HZR, ht, HRO, HWS, hown⟩ := hrel
      by_cases hjt : j < rows.length
      ·have HTT := Lib.hid ht
       have HOW := Lib.hid hown
       have HJT := Lib.hid hjt
       obtain ⟨xs2, xn2, xc2, rfl⟩ := own_sl hown
       have i3 : (0 : Int) ≤ (j : Int) := Int.natCast_nonneg j
       have i4 : (j : Int) < (rows.length : Int) := by omega
       have HK3 : Hid (0 ≤ (k : Int) ∧ (k : Int) ≤ 3) := Lib.hid (by have := HLT.out; omega)
       have hr64 := (progE_ok HP0.out).few
       have HJ6 : Hid (j ≤ 1000000) := Lib.hid (by omega)
       clear ht hown hr64
       go_wp2_with fail
       with_reducible refine (tog1_any wr0 (k : Int) xa xb z _ HTT.out HK3.out HZR.out).mono ?_
       rintro e w9 ⟨y, rfl, hy, hT9, w8, hb8, hw9⟩
       have ho9 := own_keep_set (own_keep HOW.out hb8) (b := wr0.heap.size + 2) (o := 0) (by have := HSM.out; omega) (.int .i64 y)
       have hr9 := own_keep_set (own_keep HRO.out hb8) (b := wr0.heap.size + 2) (o := 0) (by omega) (.int .i64 y)
       rw [← hw9] at ho9 hr9
       obtain ⟨u, hu⟩ : ∃ u, u = max 1 y := ⟨_, rfl⟩
       have hun : 1 ≤ u ∧ u ≤ 1073741788 := by omega
       obtain ⟨W10, hW10⟩ : ∃ W, W = w9.alloc (.cells #[.int .i64 u] 3) := ⟨_, rfl⟩
       have hb10 : Below w9.heap.size w9 W10 := by rw [hW10]; exact below_new _ _ _
       have HC10 : Hid (W10.cell? ⟨w9.heap.size, 0, none⟩ = some (.int .i64 u)) := Lib.hid (by rw [hW10]; exact row_cell (World.alloc_heap_new _ _) rfl)
       have HO10 := Lib.hid (own_keep ho9 hb10)
       have HR10 := Lib.hid (own_keep hr9 hb10)
       have HT10 := Lib.hid (hT9.below (hb10.mono hT9.size))
       have HS10 : Hid (wm.heap.size ≤ W10.heap.size) := Lib.hid (by
        have h9 := hb10.size
        have h8 : w9.heap.size = w8.heap.size := by rw [hw9]; simp [World.setCell]
        have h7 := hb8.size
        have h6 := HWS.out
        omega)
       have HW10 := Lib.hid hW10
       have HY := Lib.hid hy
       have HU := Lib.hid hu
       have HU2 : Hid ((us ++ [u]).length = j + 1 ∧ ∀ y' ∈ us ++ [u], 1 ≤ y' ∧ y' ≤ 1073741788) := Lib.hid ⟨by rw [List.length_append, HUS.out.1]; rfl, fun y' h => by
        rcases List.mem_append.1 h with h | h
        ·exact HUS.out.2 _ h
        ·rw [List.mem_singleton.1 h]; exact hun⟩
       clear hy hT9 hb8 hw9 ho9 hr9 hW10 hb10 hu hun
       go_wp2_with (first | rw [← HU.out] | rw [← HW10.out] | (at_builtin; refine app_int rfl _ _ rfl wm.heap.size j _ _ rfl HO10.out w9.heap.size 1 u rfl HC10.out HJ6.out HS10.out ?_; intro v11 w11 h11 g11; have H11 := Lib.hid h11; have B11 := Lib.hid (own_below HO10.out g11 HS10.out); clear h11 g11))
       go_roundw
       case rel => exact ⟨j + 1, y, us ++ [u], HJT.out, by go_num, HU2, Lib.hid ⟨HY.out.1, by have := HY.out.2; omega⟩, HT10.out.below (B11.out.mono HSM.out), Lib.hid (own_keepB HR10.out B11.out HGL.out), Lib.hid (Nat.le_trans HS10.out B11.out.size), by rw [List.map_append]; exact H11.out⟩
       case measure =>
        have h9 := HJT.out
        simp [intOf]; omega
      ·obtain rfl : j = rows.length := by omega
       obtain ⟨wl, rfl⟩ : ∃ x, x = wr := ⟨_, rfl⟩
       have hr64 := (progE_ok HP0.out).few
       have HIR := Lib.hid (Ints.own HRO.out (fun y hy => num_r64 (HRN.out.2 y hy)) (by rw [HRN.out.1]; omega))
       have HIU := Lib.hid (Ints.own hown (fun y hy => num_r64 ⟨by have := HUS.out.2 y hy; omega, by have := HUS.out.2 y hy; omega⟩) (by rw [HUS.out.1]; omega))
       obtain ⟨xs2, xn2, xc2, rfl⟩ := own_sl hown
       have hbl := HB0.out.trans (ht.be.mono HB0.out.size)
       have HO2 := Lib.hid (own_keep HOW0.out ht.be)
       have HV2 := Lib.hid (fun z hz => (HDV0.out z hz).below ht.be)
       have p0_ := row_cell ht.ci (k := 0) (v := .int .i64 (k : Int)) rfl
       have p1_ := row_cell ht.cx (k := 0) (v := .int .u32 xa) rfl
       have c0_ := below_cell hbl c0
       have c1_ := below_cell hbl c1
       have HBL := Lib.hid hbl
       have HG2 := Lib.hid (HG.out.below hbl)
       have HR2 := Lib.hid (HR.out.below hbl)
       have HO3 := Lib.hid (HO.out.below hbl)
       have HK2 := Lib.hid (HK.out.below hbl)
       obtain ⟨sx, hsx⟩ : ∃ sx, sx = xa % 1073741789 := ⟨_, rfl⟩
       have hsn : 0 ≤ sx ∧ sx < 1073741789 := by omega
       have hxa := HPR.out.1
       have hdo : DealOK rows owners sx rnd := ⟨progE_ok HP0.out, hsn, HRN.out.2, by rw [HRN.out.1, HN.out]⟩
       have hk3 : k ≤ 2 := by have := HLT.out; omega
       have hkd : KdOK rows owners keys (2 * (k : Int)) sx rnd us := ⟨HP0.out, HKO.out.ok, ⟨by omega, by omega⟩, hdo, dealE_of hdo HP0.out, HUS.out.1, HUS.out.2⟩
       have HKD := Lib.hid hkd
       have wxa : IntKind.i64.wrap xa = xa := IntWalk.i64_in _ (by omega)
       have w2k : IntKind.i64.wrap (2 * (k : Int)) = 2 * (k : Int) := IntWalk.i64_in _ (by omega)
       have HMO := Lib.hid (fun W => mod_any xa W (R64.mk (by omega) (by omega)))
       rw [← hsx] at HMO
       have HDR : Hid (R64 (2 * (k : Int)) ∧ R64 sx) := Lib.hid ⟨R64.mk (by omega) (by omega), num_r64 hsn⟩
       clear ht hown hbl hsx hdo hkd hxa hr64 HWS HRO HZR HGL
       go_wp2_with fail
       with_reducible refine (HMO.out _).mono ?_
       rintro e w9 ⟨rfl, rfl⟩
       clear HMO wxa
       go_wp2_with fail
       with_reducible refine (kDealT_any _ _ _ _ _ rows owners keys (2 * (k : Int)) sx rnd us _ HG2.out HR2.out HO3.out HK2.out HDR.out.1 HDR.out.2 HIR.out HIU.out).mono ?_
       rintro e w10 ⟨v, rfl, hdv, hb10, htt⟩
       rw [kdE_ok.2 HKD.out] at htt ⊢
       obtain ⟨D, hDe⟩ : ∃ D, D = kdD rows owners keys (2 * (k : Int)) sx rnd us := ⟨_, rfl⟩
       rw [← hDe] at hdv
       obtain ⟨cv9, pv9, rfl, hrx, hxc, hxp⟩ := hdv
       obtain ⟨d9, cv8, pv8, e9, htc, htp⟩ := htt rfl
       cases e9
       obtain ⟨ya, yk, rfl, -⟩ := id hxc
       obtain ⟨za, zk, rfl, -⟩ := id hxp
       obtain ⟨W11, hW11, hb11, hr11⟩ := newB w10 D.dealer (.slice ya D.cs.length yk) (.slice za D.ps.length zk)
       have m0_ := row_cell hr11 (k := 0) (v := .int .i64 D.dealer) rfl
       have m1_ := row_cell hr11 (k := 1) (v := .slice ya D.cs.length yk) rfl
       have m2_ := row_cell hr11 (k := 2) (v := .slice za D.ps.length zk) rfl
       obtain ⟨W12, hW12, hb12, hr12⟩ := newB W11 D.dealer (.slice ya D.cs.length yk) (.slice za D.ps.length zk)
       have hbx := hb11.trans (hb12.mono hb11.size)
       have hby := hb10.trans (hbx.mono hb10.size)
       have HO12 := Lib.hid (own_keep HO2.out hby)
       have HV12 : Hid (∀ z ∈ zs ++ [((D, (.slice ya D.cs.length yk, .slice za D.ps.length zk)) : DV)], DvT W12 z) := Lib.hid (fun z hz => by
        rcases List.mem_append.1 hz with h9 | h9
        ·exact (HV2.out z h9).below hby
        ·rw [List.mem_singleton.1 h9]
         exact DvT.below ⟨⟨hrx, hxc, hxp⟩, htc, htp⟩ hbx)
       have HB12 := Lib.hid (HBL.out.trans (hby.mono HBL.out.size))
       have HC12 : Hid (∀ j u, (dvC (D, (.slice ya D.cs.length yk, .slice za D.ps.length zk)))[j]? = some u → W12.cell? ⟨W11.heap.size, j, none⟩ = some u) := Lib.hid (dv_cells hr12)
       have HS12 : Hid (wb.heap.size ≤ W12.heap.size) := Lib.hid HB12.out.size
       have HK6 : Hid (k ≤ 1000000) := Lib.hid (by omega)
       have HW11 := Lib.hid hW11
       have HW12 := Lib.hid hW12
       have HDE := Lib.hid hDe
       clear hW11 hW12 hb11 hb12 hr11 hr12 hbx hby hDe htc htp htt hrx hxc hxp hb10 w2k
       go_wp2_with (first | rw [← HW11.out] | rw [← HW12.out] | (at_builtin; refine app_dlg rfl _ _ rfl wb.heap.size _ zs k rfl HO12.out W11.heap.size 1 (D, (.slice ya D.cs.length yk, .slice za D.ps.length zk)) rfl ⟨⟨_, _, _, rfl⟩, ⟨_, _, _, rfl⟩⟩ HC12.out HK6.out HS12.out ?_; intro g9 c9 w13 h9 o9; have H9 := Lib.hid h9; have B9 := Lib.hid (own_below HO12.out o9.1 HS12.out); have V9 := Lib.hid (fun z hz => (HV12.out z hz).grown HO12.out o9.1); clear h9 o9))
       with_reducible refine (add_any (sumX T) sx _ (num_r64 sumX_num) HDR.out.2).mono ?_
       rintro e w14 ⟨rfl, hb14⟩
       have H14 := Lib.hid (own_keep H9.out hb14)
       have V14 := Lib.hid (fun z hz => (V9.out z hz).below hb14)
       have hb13 := HB12.out.trans B9.out
       have B14 := Lib.hid (hb13.trans (hb14.mono hb13.size))
       clear hb14 hb13 H9 V9 B9
       go_wp2_with fail
       go_roundw
       case rel =>
        refine ⟨k + 1, T ++ [(sx, rnd, us)], zs ++ [((D, (.slice ya D.cs.length yk, .slice za D.ps.length zk)) : DV)], HLT.out, by go_num, Lib.hid ⟨by rw [List.length_append, HTK.out.1]; rfl, by rw [List.length_append, HTK.out.2]; rfl⟩, Lib.hid (dlOK_snoc HDL.out (by rw [HTK.out.1]; exact HKD.out)), by rw [sumX_snoc], Lib.hid ?_, V14, H14.out, B14.out⟩
        rw [List.map_append, HZS.out, dlL_snoc, HTK.out.1, HDE.out]
        rfl
       case measure =>
        have h9 := HLT.out
        simp [intOf]; omega
  ·obtain rfl : k = dl.length := by omega
   replace c0 := below_cell hb c0
   replace c1 := below_cell hb c1
   replace HG := Lib.hid (HG.out.below hb)
   replace HR := Lib.hid (HR.out.below hb)
   replace HO := Lib.hid (HO.out.below hb)
   replace HS := Lib.hid (HS.out.below hb)
   replace HD := Lib.hid (HD.out.below hb)
   replace HW := Lib.hid (HW.out.below hb)
   replace HK := Lib.hid (HK.out.below hb)
   replace HB := Lib.hid (HB.out.trans (hb.mono HB.out.size))
   clear hb
   obtain ⟨wc, rfl⟩ : ∃ x, x = wr0 := ⟨_, rfl⟩
   have htl := HTK.out.1
   have hTn : T ≠ [] := fun e9 => by rw [e9, List.length_nil] at htl; omega
   have hx := Dlgs.own hown (fun z hz => (HDV.out z hz).ok) (by rw [HTK.out.2]; omega)
   rw [HZS.out] at hx
   obtain ⟨hqe, hqq⟩ := dl_quE HDL.out hTn HKO.out HP0.out (by omega)
   have hcom := dl_com HDL.out hTn
   have hkey := dl_key HDL.out hTn
   have HOI := Lib.hid (fun i (hi : i < rows.length) => dl_own HDL.out hTn HKO.out HP0.out (by omega) hi)
   have hrec := shr_rec (owners := owners) (who := who) HP0.out HPP.out (sumT_num HDL.out)
   rw [sumT_head HDL.out hTn] at hrec
   have HREC := Lib.hid hrec
   have hzl : (dlL rows owners keys T).length = dl.length := by rw [dlL_len]; exact htl
   obtain ⟨vq, hvq⟩ : ∃ x, x = dvV zs := ⟨_, rfl⟩
   rw [← hvq] at hx
   have hXn : 0 ≤ sumX T ∧ sumX T < 1073741789 := sumX_num
   generalize dlL rows owners keys T = zl at *
   generalize sumX T = X at *
   generalize sumT T = S at *
   obtain ⟨la, lc, rfl, -⟩ := id hx
   have HX := Lib.hid hx
   have HQE := Lib.hid hqe
   have HQQ := Lib.hid hqq
   have HCOM := Lib.hid hcom
   have HKEY := Lib.hid hkey
   have HXN := Lib.hid hXn
   have HZL := Lib.hid hzl
   clear hown HDV HZS HDL hTn htl hx hqe hqq hcom hkey hrec hzl hvq hXn HTK
   go_wp2_with fail
   with_reducible refine (kQualified_any _ _ _ _ _ rows owners keys zl vq [] _ HG.out HR.out HO.out HK.out HX.out (Cmps.nil _ none 0)).mono ?_
   rintro e w7 ⟨v, kv, rfl, hb7, -, hon⟩
   rw [HQE.out, HQQ.out] at hon
   rw [HQE.out]
   obtain ⟨hvi, cv2, rfl, hci⟩ := hon rfl
   rw [HCOM.out] at hci
   obtain ⟨va, vc, rfl, -⟩ := id hvi
   obtain ⟨za, zc, rfl, -⟩ := id hci
   rw [dlrL_len] at hvi ⊢
   obtain ⟨W8, hW8, hb8, hr8⟩ := newK w7 (.int .i64 0) (.slice a1 rows.length k1) (.slice a2 owners.length k2) (.slice za (dealC S).length zc)
   have hb78 := hb7.trans (hb8.mono hb7.size)
   have HW8 := Lib.hid hW8
   have HVI := Lib.hid (hvi.below hb8)
   have HCI := Lib.hid (hci.below hb8)
   have oc0 := below_cell hb7 c0
   have oc1 := below_cell hb7 c1
   replace c0 := below_cell hb78 c0
   replace c1 := below_cell hb78 c1
   replace HG := Lib.hid (HG.out.below hb78)
   replace HR := Lib.hid (HR.out.below hb78)
   replace HO := Lib.hid (HO.out.below hb78)
   replace HS := Lib.hid (HS.out.below hb78)
   replace HD := Lib.hid (HD.out.below hb78)
   replace HW := Lib.hid (HW.out.below hb78)
   replace HK := Lib.hid (HK.out.below hb78)
   replace HX := Lib.hid (HX.out.below hb78)
   replace HB := Lib.hid (HB.out.trans (hb78.mono HB.out.size))
   clear hb78
   have k0_ := row_cell hr8 (k := 0) rfl
   have k1_ := row_cell hr8 (k := 1) rfl
   have k2_ := row_cell hr8 (k := 2) rfl
   have k3_ := row_cell hr8 (k := 3) rfl
   have e1 : ((dealC S).length == 0) = false := beq_eq_false_iff_ne.2 (by have := HKEY.out.2; omega)
   have e2 : (((dealC S).length : Int) == 0) = false := beq_eq_false_iff_ne.2 (by have := HKEY.out.2; omega)
   have e3 : ((zl.length : Int) != (zl.length : Int)) = false := bne_self_eq_false _
   clear hW8 hr8 hvi hci hon hb7 hb8
   go_wp2_with (rw [← HW8.out])
   clear HW8 oc0 oc1 e1 e2 e3
   go_loopw [25, 148] (fun x i Y => ∃ j : Nat, j ≤ owners.length ∧ i = .int .i64 j ∧ Y.ownsRow W8.heap.size 68 2 x (shrL rows owners who S j).length ((shrL rows owners who S j).flatMap shaC) ∧ Below W8.heap.size W8 Y) (fun _ i _ => owners.length - (intOf i).toNat)
   case atStart => exact ⟨0, Nat.zero_le _, rfl, World.ownsRow_nil _ _ _ _, Below.refl _ _⟩
   case round =>
    obtain ⟨j, hjl, rfl, hown, hb⟩ := hrel
    by_cases hjt : j < owners.length
    ·have hjr : j < rows.length := by rw [(progE_ok HP0.out).len]; exact hjt
     have hj64 : j ≤ 64 := by have := (progE_ok HP0.out).few; omega
     have hat := HKO.out.at hjt
     obtain ⟨ob, oo, ea, qo_⟩ := ints_at (HO.out.below hb) hjt
     subst ea
     obtain ⟨m, hm⟩ : ∃ m : Nat, owners[j] = (m : Int) := ⟨owners[j].toNat, by have := HKO.out.own _ (List.getElem_mem hjt); omega⟩
     have hmn : nth owners j = (m : Int) := by rw [nth_at hjt]; exact hm
     have hms : m < secrets.length := by have h9 := hat.1; rw [hmn, Int.toNat_natCast] at h9; exact h9
     obtain ⟨sb, so, ea, qs_⟩ := ints_at (HS.out.below hb) hms
     subst ea
     have hsm : secrets[m] = secOf owners secrets j := by unfold secOf; rw [hmn, Int.toNat_natCast, nth_at hms]
     rw [hm] at qo_
     rw [hsm] at qs_
     have hvr := HOI.out j hjr
     have hsr : R64 (secOf owners secrets j) := num_r64 ⟨by have := hat.2.1; omega, by have := hat.2.1; omega⟩
     have hjr64 : R64 (j : Int) := R64.mk (by omega) (by omega)
     have HOW0 := Lib.hid (fun W (h : Below wr.heap.size wr W) => kOwn_any (.slice a1 rows.length k1) (.slice (some ⟨ob, oo, none⟩) owners.length k2) (.slice va zl.length vc) (.slice la zl.length lc) rows owners (secOf owners secrets j) (j : Int) (dlrL zl) zl vq W ((HG.out.below hb).below h) ((HR.out.below hb).below h) ((HO.out.below hb).below h) hsr hjr64 ((HVI.out.below hb).below h) ((HX.out.below hb).below h))
     rw [hvr.1, hvr.2.1, hvr.2.2] at HOW0
     have hyes := shrL_yes (rows := rows) (owners := owners) (who := who) (s := S) (n := j)
     have hno := shrL_no (rows := rows) (owners := owners) (who := who) (s := S) (n := j)
     rw [hmn] at hyes hno
     have hsl := shrL_len (rows := rows) (owners := owners) (who := who) S j
     clear hvr hat hmn hsm hm
     generalize prodQ (rows.getD j []) S = x at *
     generalize secOf owners secrets j = sec at *
     have HOW : Hid (∀ W, Below wr.heap.size wr W → Calls Tryz.prog 33 #[.agg #[.slice a1 rows.length k1, .slice (some ⟨ob, oo, none⟩) owners.length k2], .int .i64 sec, .int .i64 (j : Int), .slice va zl.length vc, .slice la zl.length lc] W fun r w' => r = .returned (.tuple #[.agg #[.int .i64 (j : Int), .int .i64 x], .int .i64 0]) ∧ Below W.heap.size W w') := Lib.hid (fun W h => (HOW0.out W h).mono fun r w' h9 => h9)
     obtain ⟨L, hL⟩ : ∃ L, L = shrL rows owners who S j := ⟨_, rfl⟩
     rw [← hL] at hown hyes hno hsl
     obtain ⟨xa, xn, xc, rfl⟩ := own_sl hown
     have HOR := Lib.hid hown
     have HBW := Lib.hid hb
     have HJT := Lib.hid hjt
     have HW2 := Lib.hid (HW.out.below hb)
     have HL6 : Hid (L.length ≤ 1000000) := Lib.hid (by omega)
     have c0_ := below_cell hb c0
     have c1_ := below_cell hb c1
     have i0 : (0 : Int) ≤ (j : Int) := Int.natCast_nonneg j
     have i1 : (j : Int) < (owners.length : Int) := by omega
     have i5 : (0 : Int) ≤ (m : Int) := Int.natCast_nonneg m
     have i6 : (m : Int) < (secrets.length : Int) := by omega
     clear hb hjr64 hsr HOW0 hms hjr hown hL hsl
     go_wp2_with fail
     with_reducible refine (rHas_any _ who (m : Int) _ HW2.out).mono ?_
     rintro e w9 ⟨rfl, rfl⟩
     by_cases hmw : (m : Int) ∈ who
     rotate_left
     ·have HN := Lib.hid (hno hmw)
      have e4 : decide ((m : Int) ∈ who) = false := decide_eq_false hmw
      rw [e4]
      clear hyes hno hmw e4
      go_wp2_with fail
      go_roundw
      case rel => exact ⟨j + 1, HJT.out, by go_num, by rw [HN.out]; exact HOR.out, HBW.out⟩
      case measure =>
       have h9 := HJT.out
       simp [intOf]; omega
     have HN := Lib.hid (hyes hmw)
     have e4 : decide ((m : Int) ∈ who) = true := decide_eq_true hmw
     rw [e4]
     clear hyes hno hmw e4
     go_wp2_with fail
     refine wp_region_flowsG (by kernel_rfl) (by kernel_rfl) (by kernel_rfl) (by kernel_rfl) (fun done v W => FTo36 wr (w.heap.size) (.slice a1 rows.length k1) (.slice (some ⟨ob, oo, none⟩) owners.length k2) (sb) (so) (secrets.length) (k3) (m) (j) (sec) (.slice va zl.length vc) (.slice la zl.length lc) ((j : Int)) (x) done v W) (fun v => ?_) ?_ (fun v W h => ?_)
     ·exact ⟨(Below.refl _ _).drew, (fun h => by cases h), (fun h => by cases h), (fun h => by cases h), (fun h => by cases h), (fun h => by cases h), (fun h => by cases h), (fun h => by cases h), (fun h => by cases h), (fun h => by cases h), (fun h => by cases h), (fun h => by cases h), (fun h => by cases h), (fun h => by cases h), SBox.nil _ _ _ _ _⟩
     ·refine ⟨?_, ?_, ?_, ?_, ?_, ?_, ?_, ?_, ?_, ?_, ?_, ?_, ?_, ?_, ?_, trivial⟩
      ·intro done v W A h hd hp hu hA hB hdf
       have e0 : A.tmps[4]?.getD undef = .pointer (some ⟨w.heap.size, 0, none⟩) := hB 4 rfl
       have y0_ := below_cell h.b c0_
       have y1_ := below_cell h.b c1_
       clear hA hB hp hu hdf
       go_simp
       exact ⟨_, rfl, { h with f0 := (fun _ => rfl) }⟩
      ·intro done v W A h hd hp hu hA hB hdf
       have e0 : A.tmps[1]?.getD undef = .slice (some ⟨sb, so, none⟩) secrets.length k3 := hB 1 rfl
       clear hA hB hp hu hdf
       go_simp
       exact ⟨_, rfl, { h with f1 := (fun _ => rfl) }⟩
      ·intro done v W A h hd hp hu hA hB hdf
       have e0 : A.tmps[27]?.getD undef = .int .i64 (m : Int) := hB 27 rfl
       clear hA hB hp hu hdf
       go_simp
       exact ⟨_, rfl, { h with f2 := (fun _ => rfl) }⟩
      ·intro done v W A h hd hp hu hA hB hdf
       have hd1 : done 1 = true := hp 1 rfl
       have hd2 : done 2 = true := hp 2 rfl
       have e0 := (hA 1 159 rfl hd1).trans (h.f1 hd1)
       have e1 := (hA 2 160 rfl hd2).trans (h.f2 hd2)
       clear hA hB hp hu hdf
       go_simp
       exact ⟨_, rfl, { h with f3 := (fun _ => rfl) }⟩
      ·intro done v W A h hd hp hu hA hB hdf
       have hd3 : done 3 = true := hp 3 rfl
       have e0 := (hA 3 161 rfl hd3).trans (h.f3 hd3)
       have y0_ := below_cell h.b qs_
       clear hA hB hp hu hdf
       go_simp
       exact ⟨_, rfl, { h with f4 := (fun _ => rfl) }⟩
      ·intro done v W A h hd hp hu hA hB hdf
       have e0 : A.tmps[26]?.getD undef = .int .i64 (j : Int) := hB 26 rfl
       clear hA hB hp hu hdf
       go_simp
       exact ⟨_, rfl, { h with f5 := (fun _ => rfl) }⟩
      ·intro done v W A h hd hp hu hA hB hdf
       have e0 : A.tmps[22]?.getD undef = .slice va zl.length vc := hB 22 rfl
       clear hA hB hp hu hdf
       go_simp
       exact ⟨_, rfl, { h with f6 := (fun _ => rfl) }⟩
      ·intro done v W A h hd hp hu hA hB hdf
       have e0 : A.tmps[11]?.getD undef = .slice la zl.length lc := hB 11 rfl
       clear hA hB hp hu hdf
       go_simp
       exact ⟨_, rfl, { h with f7 := (fun _ => rfl) }⟩
      ·intro done v W A h hd hp hu hA hB hdf
       have hd0 : done 0 = true := hp 0 rfl
       have hd4 : done 4 = true := hp 4 rfl
       have hd5 : done 5 = true := hp 5 rfl
       have hd6 : done 6 = true := hp 6 rfl
       have hd7 : done 7 = true := hp 7 rfl
       have e0 := (hA 0 158 rfl hd0).trans (h.f0 hd0)
       have e1 := (hA 4 162 rfl hd4).trans (h.f4 hd4)
       have e2 := (hA 5 163 rfl hd5).trans (h.f5 hd5)
       have e3 := (hA 6 164 rfl hd6).trans (h.f6 hd6)
       have e4 := (hA 7 165 rfl hd7).trans (h.f7 hd7)
       clear hA hB hp hu hdf
       go_simp
       with_reducible refine (HOW.out W h.b).mono ?_
       rintro e wq ⟨rfl, hb⟩
       exact ⟨_, rfl, { h with b := h.b.trans (hb.mono h.b.size), f8 := (fun _ => rfl), bx := (h.bx.below hb) }⟩
      ·intro done v W A h hd hp hu hA hB hdf
       have hd8 : done 8 = true := hp 8 rfl
       have e0 := (hA 8 166 rfl hd8).trans (h.f8 hd8)
       clear hA hB hp hu hdf
       go_simp
       exact ⟨_, rfl, { h with f9 := (fun _ => rfl) }⟩
      ·intro done v W A h hd hp hu hA hB hdf
       have hd9 : done 9 = true := hp 9 rfl
       have e0 := (hA 9 157 rfl hd9).trans (h.f9 hd9)
       clear hA hB hp hu hdf
       go_simp
       exact ⟨_, rfl, { h with f10 := (fun _ => rfl) }⟩
      ·intro done v W A h hd hp hu hA hB hdf
       have hd9 : done 9 = true := hp 9 rfl
       have e0 := (hA 9 157 rfl hd9).trans (h.f9 hd9)
       clear hA hB hp hu hdf
       go_simp
       exact ⟨_, rfl, { h with f11 := (fun _ => rfl) }⟩
      ·intro done v W A h hd hp hu hA hB hdf
       have n13_12 : done 13 = false := flow_not (fun hj => hu 13 12 rfl (hj)) hd
       have hb := below_new W #[.int .i64 0, .int .i64 0] 68
       have hn := h.b.size
       clear hA hB hp hu hdf
       go_simp
       exact ⟨_, rfl, { h with b := h.b.trans (hb.mono h.b.size), bx := (h.bx.alloc n13_12 hn) }⟩
      ·intro done v W A h hd hp hu hA hB hdf
       have hd10 : done 10 = true := hp 10 rfl
       have hd12 : done 12 = true := hp 12 rfl
       obtain ⟨B, eB, hn0, -, hS⟩ := h.bx hd12
       simp only [hd, Bool.false_eq_true, if_false] at hS
       have e1 := (hA 12 28 rfl hd12).trans eB
       have e2 := (hA 10 167 rfl hd10).trans (h.f10 hd10)
       have u0 := row_cell hS (k := 0) (v := .int .i64 0) rfl
       have u1 := row_cell hS (k := 1) (v := .int .i64 0) rfl
       have g0 := row_free hS 0
       have g1 := row_free hS 1
       clear hA hB hp hu hdf
       go_simp
       exact ⟨undef, { h with b := sput_below (C := B) (.int .i64 (j : Int)) (.int .i64 x) h.b hn0, bx := (h.bx.store eB hd12 hS) }⟩
      ·intro done v W A h hd hp hu hA hB hdf
       have hd11 : done 11 = true := hp 11 rfl
       have e0 := (hA 11 168 rfl hd11).trans (h.f11 hd11)
       clear hA hB hp hu hdf
       go_simp
       exact ⟨_, rfl, { h with f14 := (fun _ => rfl) }⟩
     simp only [putL, Act.put, Nat.reduceAdd, List.setIfInBounds_toArray, List.set_cons_zero, List.set_cons_succ]
     rw [h.f14 rfl]
     have hbr := h.b
     obtain ⟨B, eB, hB0, -, hBR⟩ := h.bx rfl
     rw [eB]
     clear h eB HOW
     obtain ⟨W1, rfl⟩ : ∃ x, x = W := ⟨_, rfl⟩
     have hBR2 : W1.heap[B]? = some (.cells #[.int .i64 (j : Int), .int .i64 x] 68 (0, 0)) := hBR
     have g0 := row_cell hBR2 (k := 0) (v := .int .i64 (j : Int)) rfl
     have g1 := row_cell hBR2 (k := 1) (v := .int .i64 x) rfl
     obtain ⟨W2, hW2, hb2, hr2⟩ : ∃ W, W = W1.alloc (.cells #[.int .i64 (j : Int), .int .i64 x] 68) ∧ Below W1.heap.size W1 W ∧ W.heap[W1.heap.size]? = some (.cells #[.int .i64 (j : Int), .int .i64 x] 68 (0, 0)) := ⟨_, rfl, below_new _ _ _, World.alloc_heap_new _ _⟩
     have hb12 := hbr.trans (hb2.mono hbr.size)
     have HOX := Lib.hid (own_keep HOR.out hb12)
     have HB2 := Lib.hid (HBW.out.trans (hb12.mono HBW.out.size))
     have HC0 := Lib.hid (row_cell hr2 (k := 0) (v := .int .i64 (j : Int)) rfl)
     have HC1 := Lib.hid (row_cell hr2 (k := 1) (v := .int .i64 x) rfl)
     have HS2 : Hid (W8.heap.size ≤ W2.heap.size) := Lib.hid HB2.out.size
     have HWW := Lib.hid hW2
     clear hbr hBR hBR2 hW2 hb2 hr2 hb12
     go_wp2_with (first | rw [← HWW.out] | (at_builtin; refine app_share rfl _ _ rfl W8.heap.size _ L L.length rfl HOX.out W1.heap.size 0 1 ((j : Int), x) rfl HC0.out HC1.out HL6.out HS2.out ?_; intro g9 c9 w8 h9 o9; have H9 := Lib.hid h9; have B9 := Lib.hid (own_below HOX.out o9.1 HS2.out); clear h9 o9))
     go_roundw
     case rel => exact ⟨j + 1, HJT.out, by go_num, by rw [HN.out, List.length_append]; exact H9.out, HB2.out.trans B9.out⟩
     case measure =>
      have h9 := HJT.out
      simp [intOf]; omega
    ·obtain rfl : j = owners.length := by omega
     obtain ⟨wq, rfl⟩ : ∃ x, x = wr := ⟨_, rfl⟩
     have hrl := (progE_ok HP0.out).len
     have hr64 := (progE_ok HP0.out).few
     rw [← hrl] at hown
     have hsl := shrL_len (rows := rows) (owners := owners) (who := who) S rows.length
     have HSH := Lib.hid (Shares.own hown (fun p hp => by
      obtain ⟨i, hi, rfl⟩ := List.mem_map.1 hp
      have h9 := (ownL_lt hi).1
      exact dealF_r64 rows S (by omega)) (by omega))
     obtain ⟨xa, xn, xc, rfl⟩ := own_sl hown
     have hrc := HREC.out
     have HPW := Lib.hid (fun W => pow_yes 4 X W el_four (num_r64 HXN.out))
     replace c0 := below_cell hb c0
     replace c1 := below_cell hb c1
     replace k0_ := below_cell hb k0_
     replace k1_ := below_cell hb k1_
     replace k2_ := below_cell hb k2_
     replace k3_ := below_cell hb k3_
     replace HG := Lib.hid (HG.out.below hb)
     replace HR := Lib.hid (HR.out.below hb)
     replace HO := Lib.hid (HO.out.below hb)
     replace HS := Lib.hid (HS.out.below hb)
     replace HD := Lib.hid (HD.out.below hb)
     replace HW := Lib.hid (HW.out.below hb)
     replace HK := Lib.hid (HK.out.below hb)
     replace HX := Lib.hid (HX.out.below hb)
     replace HVI := Lib.hid (HVI.out.below hb)
     replace HCI := Lib.hid (HCI.out.below hb)
     replace HB := Lib.hid (HB.out.trans (hb.mono HB.out.size))
     clear hb
     obtain ⟨zb, zo, ea, z0_⟩ := ints_at HCI.out (show 0 < (dealC S).length from HKEY.out.2)
     subst ea
     rw [← nth_at, HKEY.out.1, Nat.add_zero] at z0_
     have i7 : 0 < (dealC S).length := HKEY.out.2
     have i8 : (0 : Int) < ((dealC S).length : Int) := by omega
     clear hown hsl hr64 hrl
     have hqz := questE_of (rows := rows) (owners := owners) (who := who) HP0.out HPP.out
     obtain ⟨pw, hpw⟩ : ∃ z, z = powE 4 X := ⟨_, rfl⟩
     rw [← hpw] at z0_ HPW
     clear hpw
     have HQZ := Lib.hid hqz
     clear hqz
     cases hac : accOk rows owners who with
     | true =>
      rw [hac] at hrc
      rw [if_pos rfl] at hrc
      have HAC := Lib.hid hac
      clear hac
      go_wp2_with fail
      with_reducible refine (accepts_any _ _ _ rows owners who _ HR.out HO.out HW.out).mono ?_
      rintro e w10 ⟨yv, rfl, hy, hb10⟩
      obtain ⟨yl, yc, rfl, -⟩ := id hy
      rw [HQZ.out, HAC.out]
      replace c0 := below_cell hb10 c0
      replace c1 := below_cell hb10 c1
      replace k0_ := below_cell hb10 k0_
      replace k1_ := below_cell hb10 k1_
      replace k2_ := below_cell hb10 k2_
      replace k3_ := below_cell hb10 k3_
      replace z0_ := below_cell hb10 z0_
      replace HG := Lib.hid (HG.out.below hb10)
      replace HR := Lib.hid (HR.out.below hb10)
      replace HO := Lib.hid (HO.out.below hb10)
      replace HS := Lib.hid (HS.out.below hb10)
      replace HD := Lib.hid (HD.out.below hb10)
      replace HW := Lib.hid (HW.out.below hb10)
      replace HK := Lib.hid (HK.out.below hb10)
      replace HX := Lib.hid (HX.out.below hb10)
      replace HVI := Lib.hid (HVI.out.below hb10)
      replace HCI := Lib.hid (HCI.out.below hb10)
      replace HSH := Lib.hid (HSH.out.below hb10)
      replace HB := Lib.hid (HB.out.trans (hb10.mono HB.out.size))
      clear hb10
      clear hy
      go_wp2_with fail
      with_reducible refine (hrc _ _ _ _ HR.out HO.out HSH.out).mono ?_
      rintro e w11 ⟨rfl, hb11⟩
      replace c0 := below_cell hb11 c0
      replace c1 := below_cell hb11 c1
      replace k0_ := below_cell hb11 k0_
      replace k1_ := below_cell hb11 k1_
      replace k2_ := below_cell hb11 k2_
      replace k3_ := below_cell hb11 k3_
      replace z0_ := below_cell hb11 z0_
      replace HG := Lib.hid (HG.out.below hb11)
      replace HR := Lib.hid (HR.out.below hb11)
      replace HO := Lib.hid (HO.out.below hb11)
      replace HS := Lib.hid (HS.out.below hb11)
      replace HD := Lib.hid (HD.out.below hb11)
      replace HW := Lib.hid (HW.out.below hb11)
      replace HK := Lib.hid (HK.out.below hb11)
      replace HX := Lib.hid (HX.out.below hb11)
      replace HVI := Lib.hid (HVI.out.below hb11)
      replace HCI := Lib.hid (HCI.out.below hb11)
      replace HSH := Lib.hid (HSH.out.below hb11)
      replace HB := Lib.hid (HB.out.trans (hb11.mono HB.out.size))
      clear hb11
      go_wp2_with fail
      with_reducible refine (HPW.out _).mono ?_
      rintro e w12 ⟨rfl, hb12⟩
      replace c0 := below_cell hb12 c0
      replace c1 := below_cell hb12 c1
      replace k0_ := below_cell hb12 k0_
      replace k1_ := below_cell hb12 k1_
      replace k2_ := below_cell hb12 k2_
      replace k3_ := below_cell hb12 k3_
      replace z0_ := below_cell hb12 z0_
      replace HG := Lib.hid (HG.out.below hb12)
      replace HR := Lib.hid (HR.out.below hb12)
      replace HO := Lib.hid (HO.out.below hb12)
      replace HS := Lib.hid (HS.out.below hb12)
      replace HD := Lib.hid (HD.out.below hb12)
      replace HW := Lib.hid (HW.out.below hb12)
      replace HK := Lib.hid (HK.out.below hb12)
      replace HX := Lib.hid (HX.out.below hb12)
      replace HVI := Lib.hid (HVI.out.below hb12)
      replace HCI := Lib.hid (HCI.out.below hb12)
      replace HSH := Lib.hid (HSH.out.below hb12)
      replace HB := Lib.hid (HB.out.trans (hb12.mono HB.out.size))
      clear hb12
      go_wp2_with fail
      go_ret
      exact ⟨rfl, HB.out⟩
     | false =>
      rw [hac] at hrc
      rw [if_neg (by decide)] at hrc
      have HAC := Lib.hid hac
      clear hac
      go_wp2_with fail
      with_reducible refine (accepts_any _ _ _ rows owners who _ HR.out HO.out HW.out).mono ?_
      rintro e w10 ⟨yv, rfl, hy, hb10⟩
      obtain ⟨yl, yc, rfl, -⟩ := id hy
      rw [HQZ.out, HAC.out]
      replace c0 := below_cell hb10 c0
      replace c1 := below_cell hb10 c1
      replace k0_ := below_cell hb10 k0_
      replace k1_ := below_cell hb10 k1_
      replace k2_ := below_cell hb10 k2_
      replace k3_ := below_cell hb10 k3_
      replace z0_ := below_cell hb10 z0_
      replace HG := Lib.hid (HG.out.below hb10)
      replace HR := Lib.hid (HR.out.below hb10)
      replace HO := Lib.hid (HO.out.below hb10)
      replace HS := Lib.hid (HS.out.below hb10)
      replace HD := Lib.hid (HD.out.below hb10)
      replace HW := Lib.hid (HW.out.below hb10)
      replace HK := Lib.hid (HK.out.below hb10)
      replace HX := Lib.hid (HX.out.below hb10)
      replace HVI := Lib.hid (HVI.out.below hb10)
      replace HCI := Lib.hid (HCI.out.below hb10)
      replace HSH := Lib.hid (HSH.out.below hb10)
      replace HB := Lib.hid (HB.out.trans (hb10.mono HB.out.size))
      clear hb10
      clear hy
      go_wp2_with fail
      with_reducible refine (hrc _ _ _ _ HR.out HO.out HSH.out).mono ?_
      rintro e w11 ⟨rfl, hb11⟩
      replace c0 := below_cell hb11 c0
      replace c1 := below_cell hb11 c1
      replace k0_ := below_cell hb11 k0_
      replace k1_ := below_cell hb11 k1_
      replace k2_ := below_cell hb11 k2_
      replace k3_ := below_cell hb11 k3_
      replace z0_ := below_cell hb11 z0_
      replace HG := Lib.hid (HG.out.below hb11)
      replace HR := Lib.hid (HR.out.below hb11)
      replace HO := Lib.hid (HO.out.below hb11)
      replace HS := Lib.hid (HS.out.below hb11)
      replace HD := Lib.hid (HD.out.below hb11)
      replace HW := Lib.hid (HW.out.below hb11)
      replace HK := Lib.hid (HK.out.below hb11)
      replace HX := Lib.hid (HX.out.below hb11)
      replace HVI := Lib.hid (HVI.out.below hb11)
      replace HCI := Lib.hid (HCI.out.below hb11)
      replace HSH := Lib.hid (HSH.out.below hb11)
      replace HB := Lib.hid (HB.out.trans (hb11.mono HB.out.size))
      clear hb11
      go_wp2_with fail
      with_reducible refine (HPW.out _).mono ?_
      rintro e w12 ⟨rfl, hb12⟩
      replace c0 := below_cell hb12 c0
      replace c1 := below_cell hb12 c1
      replace k0_ := below_cell hb12 k0_
      replace k1_ := below_cell hb12 k1_
      replace k2_ := below_cell hb12 k2_
      replace k3_ := below_cell hb12 k3_
      replace z0_ := below_cell hb12 z0_
      replace HG := Lib.hid (HG.out.below hb12)
      replace HR := Lib.hid (HR.out.below hb12)
      replace HO := Lib.hid (HO.out.below hb12)
      replace HS := Lib.hid (HS.out.below hb12)
      replace HD := Lib.hid (HD.out.below hb12)
      replace HW := Lib.hid (HW.out.below hb12)
      replace HK := Lib.hid (HK.out.below hb12)
      replace HX := Lib.hid (HX.out.below hb12)
      replace HVI := Lib.hid (HVI.out.below hb12)
      replace HCI := Lib.hid (HCI.out.below hb12)
      replace HSH := Lib.hid (HSH.out.below hb12)
      replace HB := Lib.hid (HB.out.trans (hb12.mono HB.out.size))
      clear hb12
      go_wp2_with fail
      go_ret
      exact ⟨rfl, HB.out⟩
theorem keygenTogether_all (rv ov sv dv wv : Value) (rows : List (List Int)) (owners secrets : List Int) (dl : List (Int × Int)) (who : List Int) (w : World) (hR : Rows2 w rv rows) (hO : Ints w ov owners) (hS : Ints w sv secrets) (hD : Duos w dv dl) (hW : Ints w wv who) (hG : Glob w) :
  Calls Tryz.prog 12 #[.agg #[rv, ov], sv, dv, wv] w fun r w' => r = .returned (.bool true) ∧ Below w.heap.size w w' :=
 keygenTogether_any rv ov sv dv wv rows owners secrets dl who w hG hR hO hS hD hW
end Go.Proofs.YtggnipkfliompaaGreatDoor
