/- ParcelsRevealed: what is revealed opens a parcel for everybody, with a proof. -/
import Derived.Test.YtjnnnciifjajmaaDoorLpP
import Derived.Test.YtjnnnciifjajmaaDoorLwP
namespace Go.Proofs.YtjnnnciifjajmaaDoor
open Go.RowKit FP

set_option maxRecDepth 100000 in
theorem with_val (d dealer row pt c v : Int) (w : World) (hd : El d) (hl : 0 ≤ dealer ∧ dealer ≤ 63) (hR : RightP row pt c) (hv : opnV d dealer row c = v) (hG : Glob w) :
    Calls Tryd.prog 26 #[.int .i64 d, .int .i64 dealer, .agg #[.int .i64 row, .int .i64 pt, .int .i64 c]] w fun r w' => r = .returned (.tuple #[.int .i64 v, .int .i64 0]) ∧ Below w.heap.size w w' := by
  subst hv; exact with_yes d dealer row pt c w hd hl hR hG

set_option maxRecDepth 100000 in
set_option maxHeartbeats 4000000 in
theorem revealed_any (s dealer row pt c : Int) (w : World) (_hs : R64 s) (_hd : R64 dealer) (_hr : R64 row) (hp : R64 pt) (_hc : R64 c) (hG : Glob w) :
    Calls Tryd.prog 9 #[.int .i64 s, .int .i64 dealer, .agg #[.int .i64 row, .int .i64 pt, .int .i64 c]] w fun r w' => r = .returned (.bool true) ∧ Below w.heap.size w w' := by
  obtain ⟨hb0, c0, c1, c2⟩ := cell_agg3 w row pt c 31
  have HB0 := Lib.hid hb0
  have HG0 := Lib.hid (hG.below hb0)
  clear hb0
  go_enter Tryd.func9, Tryd.ntmps9
  go_wp2_with fail
  with_reducible refine (sane35_any _ HG0.out).mono ?_
  rintro r w1 ⟨rfl, hb1⟩
  have x0 := below_cell hb1 c0
  have x1 := below_cell hb1 c1
  have x2 := below_cell hb1 c2
  have HB1 := Lib.hid (HB0.out.trans (hb1.mono HB0.out.size))
  have HG1 := Lib.hid (hG.below HB1.out)
  clear hb1 c0 c1 c2
  go_wp2_with fail
  with_reducible refine (secret35_any s _).mono ?_
  rintro r w2 ⟨rfl, rfl⟩
  cases e1 : inB s 1 1073741788 with
  | false =>
    clear e1
    go_wp2_with fail
    go_ret
    exact ⟨rfl, HB1.out⟩
  | true =>
    have E1 := Lib.hid (inB_iff.1 e1)
    clear e1
    go_wp2_with fail
    with_reducible refine (person35_any dealer _).mono ?_
    rintro r w2 ⟨rfl, rfl⟩
    cases e2 : inB dealer 0 63 with
    | false =>
      clear e2
      go_wp2_with fail
      go_ret
      exact ⟨rfl, HB1.out⟩
    | true =>
      have E2 := Lib.hid (inB_iff.1 e2)
      clear e2
      go_wp2_with fail
      with_reducible refine (right35_any row pt c _ hp).mono ?_
      rintro r w3 ⟨rfl, hb3⟩
      have y0 := below_cell hb3 x0
      have y1 := below_cell hb3 x1
      have y2 := below_cell hb3 x2
      have HB3 := Lib.hid (HB1.out.trans (hb3.mono HB1.out.size))
      have HG3 := Lib.hid (hG.below HB3.out)
      clear hb3 x0 x1 x2
      cases e3 : rightB row pt c with
      | false =>
        clear e3
        go_wp2_with fail
        go_ret
        exact ⟨rfl, HB3.out⟩
      | true =>
        have hR := rightB_iff.1 e3
        have hs := E1.out
        have hl := E2.out
        have hn := opnV_num (powE pt s) dealer row c
        have HN : Hid (inB (opnV (powE pt s) dealer row c) 0 1073741788 = true) := Lib.hid (inB_iff.2 (by omega))
        have HPW := Lib.hid (fun w => pow_yes 4 s w el_four (R64.mk (by omega) (by omega)))
        have HPR := Lib.hid (fun w hG => prove_yes s pt w hs.1 (by omega) hR.pt hG)
        have HCK := Lib.hid (fun w hG => honest_check hR.pt s w hG)
        have HOP := Lib.hid (fun w hG => open_val s dealer row pt c _ w hs hl hR rfl hG)
        have HWT := Lib.hid (fun w hG => with_val (powE pt s) dealer row pt c _ w (el_powE hR.pt s) hl hR rfl hG)
        clear e3 hn
        generalize opnV (powE pt s) dealer row c = v at *
        generalize powE 4 s = key at *
        generalize powE pt s = d at *
        generalize prE s pt = E at *
        generalize prS s pt = S at *
        clear hR hs hl
        go_wp2_with fail
        with_reducible refine (HPW.out _).mono ?_
        rintro r w4 ⟨rfl, hb4⟩
        have x0 := below_cell hb4 y0
        have x1 := below_cell hb4 y1
        have x2 := below_cell hb4 y2
        have HB4 := Lib.hid (HB3.out.trans (hb4.mono HB3.out.size))
        have HG4 := Lib.hid (hG.below HB4.out)
        clear hb4 y0 y1 y2
        go_wp2_with fail
        with_reducible refine (HPR.out _ HG4.out).mono ?_
        rintro r w5 ⟨rfl, hb5⟩
        obtain ⟨hb6, d0, d1⟩ := cell_agg2 w5 E S 23
        have y0 := below_cell hb6 (below_cell hb5 x0)
        have y1 := below_cell hb6 (below_cell hb5 x1)
        have y2 := below_cell hb6 (below_cell hb5 x2)
        have HB5 := Lib.hid (HB4.out.trans (hb5.mono HB4.out.size))
        have HB6 := Lib.hid (HB5.out.trans (hb6.mono HB5.out.size))
        have HG6 := Lib.hid (hG.below HB6.out)
        clear hb5 hb6 x0 x1 x2
        go_wp2_with fail
        with_reducible refine (HOP.out _ HG6.out).mono ?_
        rintro r w7 ⟨rfl, hb7⟩
        have x0 := below_cell hb7 y0
        have x1 := below_cell hb7 y1
        have x2 := below_cell hb7 y2
        have k0 := below_cell hb7 d0
        have k1 := below_cell hb7 d1
        have HB7 := Lib.hid (HB6.out.trans (hb7.mono HB6.out.size))
        have HG7 := Lib.hid (hG.below HB7.out)
        clear hb7 y0 y1 y2 d0 d1
        go_wp2_with fail
        with_reducible refine (HWT.out _ HG7.out).mono ?_
        rintro r w8 ⟨rfl, hb8⟩
        have y0 := below_cell hb8 x0
        have y1 := below_cell hb8 x1
        have y2 := below_cell hb8 x2
        have d0 := below_cell hb8 k0
        have d1 := below_cell hb8 k1
        have HB8 := Lib.hid (HB7.out.trans (hb8.mono HB7.out.size))
        have HG8 := Lib.hid (hG.below HB8.out)
        clear hb8 x0 x1 x2 k0 k1
        go_wp2_with fail
        with_reducible refine (HCK.out _ HG8.out).mono ?_
        rintro r w9 ⟨rfl, hb9⟩
        have HB9 := Lib.hid (HB8.out.trans (hb9.mono HB8.out.size))
        clear hb9 y0 y1 y2 d0 d1
        go_wp2_with fail
        with_reducible refine (number35_any v _).mono ?_
        rintro r w10 ⟨rfl, rfl⟩
        rw [HN.out]
        go_wp2_with fail
        go_ret
        exact ⟨rfl, HB9.out⟩

end Go.Proofs.YtjnnnciifjajmaaDoor
