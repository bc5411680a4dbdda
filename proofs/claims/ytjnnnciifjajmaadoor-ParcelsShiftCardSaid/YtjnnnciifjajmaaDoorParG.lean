/- The reference of parcels: what is right; the examples. -/
import Derived.Test.YtjnnnciifjajmaaDoorParF
namespace Go.Proofs.YtjnnnciifjajmaaDoor
open Go.RowKit FP

theorem lt_le_dec (n : Int) : decide (n < 1073741789) = decide (n ≤ 1073741788) := decide_eq_decide.2 (by omega)
theorem lt_le_64 (n : Int) : decide (n < 64) = decide (n ≤ 63) := decide_eq_decide.2 (by omega)

set_option maxRecDepth 100000 in
theorem secret35_any (n : Int) (w : World) : Calls Tryd.prog 18 #[.int .i64 n] w fun r w' => r = .returned (.bool (inB n 1 1073741788)) ∧ w = w' := by
  by_cases h1 : 1 ≤ n
  · have H := Lib.hid (show inB n 1 1073741788 = decide (n < 1073741789) by unfold inB; rw [decide_eq_true h1, Bool.true_and, lt_le_dec])
    go_enter Tryd.func18, Tryd.ntmps18
    go_wp2_with fail
    go_ret
    exact ⟨ret_bool H.out.symm, rfl⟩
  · have H := Lib.hid (show inB n 1 1073741788 = false by unfold inB; rw [decide_eq_false h1, Bool.false_and])
    go_enter Tryd.func18, Tryd.ntmps18
    go_wp2_with fail
    go_ret
    exact ⟨ret_bool H.out.symm, rfl⟩
set_option maxRecDepth 100000 in
theorem number35_any (n : Int) (w : World) : Calls Tryd.prog 23 #[.int .i64 n] w fun r w' => r = .returned (.bool (inB n 0 1073741788)) ∧ w = w' := by
  by_cases h1 : 0 ≤ n
  · have H := Lib.hid (show inB n 0 1073741788 = decide (n < 1073741789) by unfold inB; rw [decide_eq_true h1, Bool.true_and, lt_le_dec])
    go_enter Tryd.func23, Tryd.ntmps23
    go_wp2_with fail
    go_ret
    exact ⟨ret_bool H.out.symm, rfl⟩
  · have H := Lib.hid (show inB n 0 1073741788 = false by unfold inB; rw [decide_eq_false h1, Bool.false_and])
    go_enter Tryd.func23, Tryd.ntmps23
    go_wp2_with fail
    go_ret
    exact ⟨ret_bool H.out.symm, rfl⟩
set_option maxRecDepth 100000 in
theorem person35_any (n : Int) (w : World) : Calls Tryd.prog 21 #[.int .i64 n] w fun r w' => r = .returned (.bool (inB n 0 63)) ∧ w = w' := by
  by_cases h1 : 0 ≤ n
  · have H := Lib.hid (show inB n 0 63 = decide (n < 64) by unfold inB; rw [decide_eq_true h1, Bool.true_and, lt_le_64])
    go_enter Tryd.func21, Tryd.ntmps21
    go_wp2_with fail
    go_ret
    exact ⟨ret_bool H.out.symm, rfl⟩
  · have H := Lib.hid (show inB n 0 63 = false by unfold inB; rw [decide_eq_false h1, Bool.false_and])
    go_enter Tryd.func21, Tryd.ntmps21
    go_wp2_with fail
    go_ret
    exact ⟨ret_bool H.out.symm, rfl⟩
set_option maxRecDepth 100000 in
theorem row35_any (n : Int) (w : World) : Calls Tryd.prog 22 #[.int .i64 n] w fun r w' => r = .returned (.bool (inB n 0 63)) ∧ w = w' := by
  by_cases h1 : 0 ≤ n
  · have H := Lib.hid (show inB n 0 63 = decide (n < 64) by unfold inB; rw [decide_eq_true h1, Bool.true_and, lt_le_64])
    go_enter Tryd.func22, Tryd.ntmps22
    go_wp2_with fail
    go_ret
    exact ⟨ret_bool H.out.symm, rfl⟩
  · have H := Lib.hid (show inB n 0 63 = false by unfold inB; rw [decide_eq_false h1, Bool.false_and])
    go_enter Tryd.func22, Tryd.ntmps22
    go_wp2_with fail
    go_ret
    exact ⟨ret_bool H.out.symm, rfl⟩

theorem cell_agg3 (w : World) (a b c : Int) (t : TypeId) : Below w.heap.size w (w.alloc (.cells #[.int .i64 a, .int .i64 b, .int .i64 c] t)) ∧ (w.alloc (.cells #[.int .i64 a, .int .i64 b, .int .i64 c] t)).cell? ⟨w.heap.size, 0, none⟩ = some (.int .i64 a) ∧ (w.alloc (.cells #[.int .i64 a, .int .i64 b, .int .i64 c] t)).cell? ⟨w.heap.size, 1, none⟩ = some (.int .i64 b) ∧ (w.alloc (.cells #[.int .i64 a, .int .i64 b, .int .i64 c] t)).cell? ⟨w.heap.size, 2, none⟩ = some (.int .i64 c) := by
  have h := World.alloc_heap_new w (.cells #[.int .i64 a, .int .i64 b, .int .i64 c] t)
  exact ⟨below_new _ _ _, row_cell h rfl, row_cell h rfl, row_cell h rfl⟩

set_option maxRecDepth 100000 in
set_option maxHeartbeats 1000000 in
theorem right35_any (row pt c : Int) (w : World) (hp : R64 pt) :
    Calls Tryd.prog 24 #[.agg #[.int .i64 row, .int .i64 pt, .int .i64 c]] w fun r w' => r = .returned (.bool (rightB row pt c)) ∧ Below w.heap.size w w' := by
  obtain ⟨hb, c0, c1, c2⟩ := cell_agg3 w row pt c 31
  have HB := Lib.hid hb
  clear hb
  go_enter Tryd.func24, Tryd.ntmps24
  go_wp2_with fail
  with_reducible refine (row35_any row _).mono ?_
  rintro r w1 ⟨rfl, rfl⟩
  cases e1 : inB row 0 63 with
  | false =>
    have E1 := Lib.hid e1
    clear e1
    go_wp2_with fail
    go_ret
    exact ⟨ret_bool (by unfold rightB; rw [E1.out]; rfl), HB.out⟩
  | true =>
    have E1 := Lib.hid e1
    clear e1
    go_wp2_with fail
    with_reducible refine (rvalid_any _ _ hp).mono ?_
    rintro r w1 ⟨rfl, rfl⟩
    cases e2 : elB pt with
    | false =>
      have E2 := Lib.hid e2
      clear e2
      go_wp2_with fail
      go_ret
      exact ⟨ret_bool (by unfold rightB; rw [E1.out, E2.out]; rfl), HB.out⟩
    | true =>
      have E2 := Lib.hid e2
      clear e2
      go_wp2_with fail
      with_reducible refine (number35_any c _).mono ?_
      rintro r w1 ⟨rfl, rfl⟩
      go_wp2_with fail
      go_ret
      exact ⟨ret_bool (by unfold rightB; rw [E1.out, E2.out, Bool.true_and, Bool.true_and]), HB.out⟩

/-! The examples. -/
theorem p4_5 : powE 4 5 = 1024 := by decide
theorem ex_e1 : sealE 0 4 0 0 0 = 110 := by unfold sealE; rw [firstE_cons, if_neg (by decide)]
theorem ex_e2 : sealE 1 2 0 0 0 = 100 := by unfold sealE; rw [firstE_cons, if_pos (by decide), firstE_cons, if_neg (by rw [elB_false.2 not_el_2]; decide)]
theorem ex_e3 : sealE 1 4 64 0 0 = 1 := by unfold sealE; rw [firstE_cons, if_pos (by decide), firstE_cons, if_pos (elB_iff.2 el_four), firstE_cons, if_neg (by decide)]
theorem ex_e4 : sealE 1 4 0 0 1073741789 = 350 := by unfold sealE; rw [firstE_cons, if_pos (by decide), firstE_cons, if_pos (elB_iff.2 el_four), firstE_cons, if_pos (by decide), firstE_cons, if_pos (by decide), firstE_cons, if_neg (by decide)]
theorem ex_e5 : openE 1 0 0 0 0 = 350 := by
  unfold openE
  rw [firstE_cons, if_pos (by decide), firstE_cons, if_pos (by decide), firstE_cons, if_neg (by unfold rightB; rw [elB_false.2 not_el_0]; decide)]

set_option maxRecDepth 100000 in
/-- Seal and Open at values that are known. -/
theorem seal_is (u key dealer row value e : Int) (w : World) (hk : R64 key) (he : sealE u key dealer row value = e) (h : e ≠ 0) :
    Calls Tryd.prog 16 #[.int .i64 u, .int .i64 key, .int .i64 dealer, .int .i64 row, .int .i64 value] w fun r w' => r = .returned (.tuple #[.agg #[.int .i64 0, .int .i64 0, .int .i64 0], .int .i64 e]) ∧ Below w.heap.size w w' := by
  subst he; exact seal_no u key dealer row value w hk h
set_option maxRecDepth 100000 in
theorem open_is (s dealer row pt c e : Int) (w : World) (hp : R64 pt) (he : openE s dealer row pt c = e) (h : e ≠ 0) :
    Calls Tryd.prog 19 #[.int .i64 s, .int .i64 dealer, .agg #[.int .i64 row, .int .i64 pt, .int .i64 c]] w fun r w' => r = .returned (.tuple #[.int .i64 0, .int .i64 e]) ∧ Below w.heap.size w w' := by
  subst he; exact open_no s dealer row pt c w hp h
set_option maxRecDepth 100000 in
theorem seal_val (u key dealer row value pt c : Int) (w : World) (hS : Sealed u key dealer row value) (hp : powE 4 u = pt) (hc : cipV u key dealer row value = c) (hG : Glob w) :
    Calls Tryd.prog 16 #[.int .i64 u, .int .i64 key, .int .i64 dealer, .int .i64 row, .int .i64 value] w fun r w' => r = .returned (.tuple #[.agg #[.int .i64 row, .int .i64 pt, .int .i64 c], .int .i64 0]) ∧ Below w.heap.size w w' := by
  subst hp hc; exact seal_yes u key dealer row value w hS hG
set_option maxRecDepth 100000 in
theorem open_val (s dealer row pt c v : Int) (w : World) (hs : 1 ≤ s ∧ s ≤ 1073741788) (hl : 0 ≤ dealer ∧ dealer ≤ 63) (hR : RightP row pt c) (hv : opnV (powE pt s) dealer row c = v) (hG : Glob w) :
    Calls Tryd.prog 19 #[.int .i64 s, .int .i64 dealer, .agg #[.int .i64 row, .int .i64 pt, .int .i64 c]] w fun r w' => r = .returned (.tuple #[.int .i64 v, .int .i64 0]) ∧ Below w.heap.size w w' := by
  subst hv; exact open_yes s dealer row pt c w hs hl hR hG

set_option maxRecDepth 100000 in
set_option maxHeartbeats 4000000 in
theorem sane35_any (w : World) (hG : Glob w) :
    Calls Tryd.prog 15 #[] w fun r w' => r = .returned (.bool true) ∧ Below w.heap.size w w' := by
  have hk := el_powE el_four 77
  obtain ⟨C1, hC1⟩ : ∃ c, cipV 5 (powE 4 77) 3 2 1000 = c := ⟨_, rfl⟩
  obtain ⟨C2, hC2⟩ : ∃ c, cipV 5 (powE 4 77) 3 2 1001 = c := ⟨_, rfl⟩
  have hS1 : Sealed 5 (powE 4 77) 3 2 1000 := ⟨by omega, hk, by omega, by omega, by omega⟩
  have hS2 : Sealed 5 (powE 4 77) 3 2 1001 := ⟨by omega, hk, by omega, by omega, by omega⟩
  have hn1 := cipV_num 5 (powE 4 77) 3 2 1000
  have hn2 := cipV_num 5 (powE 4 77) 3 2 1001
  have hd : (C2 - C1) % 1073741789 = 1 := by
    rw [← hC1, ← hC2]; unfold cipV
    have := padV_num (powE (powE 4 77) 5) 3 2
    omega
  rw [hC1] at hn1
  rw [hC2] at hn2
  have hR1 : RightP 2 1024 C1 := by have := sealed_right hS1; rw [hC1, p4_5] at this; exact this
  have hR2 : RightP 2 1024 C2 := by have := sealed_right hS2; rw [hC2, p4_5] at this; exact this
  have hpk : powE 1024 77 = powE (powE 4 77) 5 := by rw [← p4_5]; exact point_key 5 77
  have hv1 : opnV (powE 1024 77) 3 2 C1 = 1000 := by rw [hpk, ← hC1]; exact opnV_cipV (by omega)
  have hv2 : opnV (powE 1024 77) 3 2 C2 = 1001 := by rw [hpk, ← hC2]; exact opnV_cipV (by omega)
  have HP := Lib.hid (fun w => pow_yes 4 77 w el_four ⟨by omega, by omega⟩)
  have HS1 := Lib.hid (fun w hG => seal_val 5 (powE 4 77) 3 2 1000 1024 C1 w hS1 p4_5 hC1 hG)
  have HS2 := Lib.hid (fun w hG => seal_val 5 (powE 4 77) 3 2 1001 1024 C2 w hS2 p4_5 hC2 hG)
  have HO1 := Lib.hid (fun w hG => open_val 77 3 2 1024 C1 1000 w (by omega) (by omega) hR1 hv1 hG)
  have HO2 := Lib.hid (fun w hG => open_val 77 3 2 1024 C2 1001 w (by omega) (by omega) hR2 hv2 hG)
  have HD := Lib.hid hd
  generalize powE 4 77 = key at *
  obtain ⟨a1, a2⟩ := hn1
  obtain ⟨b1, b2⟩ := hn2
  clear hk hC1 hC2 hS1 hS2 hR1 hR2 hpk hv1 hv2 hd
  go_enter Tryd.func15, Tryd.ntmps15
  go_wp2_with fail
  with_reducible refine (HP.out _).mono ?_
  rintro r w1 ⟨rfl, hb1⟩
  have HG1 := Lib.hid (hG.below hb1)
  have HB1 := Lib.hid hb1
  clear hb1
  go_wp2_with fail
  with_reducible refine (HS1.out _ HG1.out).mono ?_
  rintro r w2 ⟨rfl, hb2⟩
  obtain ⟨hb3, c0, c1, c2⟩ := cell_agg3 w2 2 1024 C1 31
  have HB2 := Lib.hid (HB1.out.trans (hb2.mono HB1.out.size))
  have HB3 := Lib.hid (HB2.out.trans (hb3.mono HB2.out.size))
  have HG3 := Lib.hid (hG.below HB3.out)
  clear hb2 hb3
  go_wp2_with fail
  with_reducible refine (HS2.out _ HG3.out).mono ?_
  rintro r w4 ⟨rfl, hb4⟩
  have x0 := below_cell hb4 c0
  have x1 := below_cell hb4 c1
  have x2 := below_cell hb4 c2
  obtain ⟨hb5, d0, d1, d2⟩ := cell_agg3 w4 2 1024 C2 31
  have y0 := below_cell hb5 x0
  have y1 := below_cell hb5 x1
  have y2 := below_cell hb5 x2
  have HB4 := Lib.hid (HB3.out.trans (hb4.mono HB3.out.size))
  have HB5 := Lib.hid (HB4.out.trans (hb5.mono HB4.out.size))
  have HG5 := Lib.hid (hG.below HB5.out)
  clear hb4 hb5 c0 c1 c2 x0 x1 x2
  go_wp2_with fail
  with_reducible refine (HO1.out _ HG5.out).mono ?_
  rintro r w6 ⟨rfl, hb6⟩
  have x0 := below_cell hb6 y0
  have x1 := below_cell hb6 y1
  have x2 := below_cell hb6 y2
  have z0 := below_cell hb6 d0
  have z1 := below_cell hb6 d1
  have z2 := below_cell hb6 d2
  have HB6 := Lib.hid (HB5.out.trans (hb6.mono HB5.out.size))
  have HG6 := Lib.hid (hG.below HB6.out)
  clear hb6 y0 y1 y2 d0 d1 d2
  go_wp2_with fail
  with_reducible refine (HO2.out _ HG6.out).mono ?_
  rintro r w7 ⟨rfl, hb7⟩
  have y0 := below_cell hb7 x0
  have y1 := below_cell hb7 x1
  have y2 := below_cell hb7 x2
  have v0 := below_cell hb7 z0
  have v1 := below_cell hb7 z1
  have v2 := below_cell hb7 z2
  have HB7 := Lib.hid (HB6.out.trans (hb7.mono HB6.out.size))
  clear hb7 x0 x1 x2 z0 z1 z2
  go_wp2_with fail
  with_reducible refine (seal_is 0 4 0 0 0 110 _ (R64.mk (by omega) (by omega)) ex_e1 (by decide)).mono ?_
  rintro r w8 ⟨rfl, hb8⟩
  obtain ⟨hb9, -, -, -⟩ := cell_agg3 w8 0 0 0 31
  have hb10 := hb8.trans (hb9.mono hb8.size)
  have x0 := below_cell hb10 y0
  have x1 := below_cell hb10 y1
  have x2 := below_cell hb10 y2
  have z0 := below_cell hb10 v0
  have z1 := below_cell hb10 v1
  have z2 := below_cell hb10 v2
  have HB8 := Lib.hid (HB7.out.trans (hb10.mono HB7.out.size))
  clear hb8 hb9 hb10 y0 y1 y2 v0 v1 v2
  go_wp2_with fail
  with_reducible refine (seal_is 1 2 0 0 0 100 _ (R64.mk (by omega) (by omega)) ex_e2 (by decide)).mono ?_
  rintro r w9 ⟨rfl, hb8⟩
  obtain ⟨hb9, -, -, -⟩ := cell_agg3 w9 0 0 0 31
  have hb10 := hb8.trans (hb9.mono hb8.size)
  have y0 := below_cell hb10 x0
  have y1 := below_cell hb10 x1
  have y2 := below_cell hb10 x2
  have v0 := below_cell hb10 z0
  have v1 := below_cell hb10 z1
  have v2 := below_cell hb10 z2
  have HB9 := Lib.hid (HB8.out.trans (hb10.mono HB8.out.size))
  clear hb8 hb9 hb10 x0 x1 x2 z0 z1 z2
  go_wp2_with fail
  with_reducible refine (seal_is 1 4 64 0 0 1 _ (R64.mk (by omega) (by omega)) ex_e3 (by decide)).mono ?_
  rintro r w10 ⟨rfl, hb8⟩
  obtain ⟨hb9, -, -, -⟩ := cell_agg3 w10 0 0 0 31
  have hb10 := hb8.trans (hb9.mono hb8.size)
  have x0 := below_cell hb10 y0
  have x1 := below_cell hb10 y1
  have x2 := below_cell hb10 y2
  have z0 := below_cell hb10 v0
  have z1 := below_cell hb10 v1
  have z2 := below_cell hb10 v2
  have HB10 := Lib.hid (HB9.out.trans (hb10.mono HB9.out.size))
  clear hb8 hb9 hb10 y0 y1 y2 v0 v1 v2
  go_wp2_with fail
  with_reducible refine (seal_is 1 4 0 0 1073741789 350 _ (R64.mk (by omega) (by omega)) ex_e4 (by decide)).mono ?_
  rintro r w11 ⟨rfl, hb8⟩
  obtain ⟨hb9, -, -, -⟩ := cell_agg3 w11 0 0 0 31
  have hb10 := hb8.trans (hb9.mono hb8.size)
  have y0 := below_cell hb10 x0
  have y1 := below_cell hb10 x1
  have y2 := below_cell hb10 x2
  have v0 := below_cell hb10 z0
  have v1 := below_cell hb10 z1
  have v2 := below_cell hb10 z2
  have HB11 := Lib.hid (HB10.out.trans (hb10.mono HB10.out.size))
  clear hb8 hb9 hb10 x0 x1 x2 z0 z1 z2
  go_wp2_with fail
  with_reducible refine (open_is 1 0 0 0 0 350 _ (R64.mk (by omega) (by omega)) ex_e5 (by decide)).mono ?_
  rintro r w12 ⟨rfl, hb8⟩
  have x0 := below_cell hb8 y0
  have x1 := below_cell hb8 y1
  have x2 := below_cell hb8 y2
  have z0 := below_cell hb8 v0
  have z1 := below_cell hb8 v1
  have z2 := below_cell hb8 v2
  have HB12 := Lib.hid (HB11.out.trans (hb8.mono HB11.out.size))
  clear hb8 y0 y1 y2 v0 v1 v2
  go_wp2_with fail
  rw [HD.out]
  go_ret
  exact ⟨rfl, HB12.out⟩

end Go.Proofs.YtjnnnciifjajmaaDoor
