/- The reference of keygen: Deal. -/
import Derived.Test.YtggnipkfliompaaGreatDoorMKgE
import Derived.Test.YtggnipkfliompaaGreatDoorMParG
import Derived.Test.YtggnipkfliompaaGreatDoorMRefN
import Derived.Test.YtggnipkfliompaaGreatDoorMRdH
namespace Go.Proofs.YtggnipkfliompaaGreatDoor
open Go.RowKit FP

structure FKr19 (w0 : World) (pb : Nat) (ub : Nat) (uo : Nat) (nu : Nat) (k5 : Nat) (ob : Nat) (oo : Nat) (no : Nat) (k2 : Nat) (kb : Nat) (ko : Nat) (nk : Nat) (k6 : Nat) (lb : Nat) (lo : Nat) (nl : Nat) (cl : Nat) (k : Nat) (m : Nat) (dealer : Int) (u : Int) (key : Int) (vv : Int) (pt : Int) (ci : Int) (done : Nat → Bool) (v : Nat → Value) (w : World) : Prop where
  b : Below w0.heap.size w0 w
  f0 : done 0 = true → v 0 = .slice (some ⟨ub, uo, none⟩) nu k5
  f1 : done 1 = true → v 1 = .int .i64 (k : Int)
  f2 : done 2 = true → v 2 = .pointer (some ⟨ub, uo + k, none⟩)
  f3 : done 3 = true → v 3 = .int .i64 u
  f4 : done 4 = true → v 4 = .slice (some ⟨kb, ko, none⟩) nk k6
  f5 : done 5 = true → v 5 = .pointer (some ⟨pb, 1, none⟩)
  f6 : done 6 = true → v 6 = .slice (some ⟨ob, oo, none⟩) no k2
  f7 : done 7 = true → v 7 = .int .i64 (k : Int)
  f8 : done 8 = true → v 8 = .pointer (some ⟨ob, oo + k, none⟩)
  f9 : done 9 = true → v 9 = .int .i64 (m : Int)
  f10 : done 10 = true → v 10 = .pointer (some ⟨kb, ko + m, none⟩)
  f11 : done 11 = true → v 11 = .int .i64 key
  f12 : done 12 = true → v 12 = .int .i64 dealer
  f13 : done 13 = true → v 13 = .int .i64 (k : Int)
  f14 : done 14 = true → v 14 = .slice (some ⟨lb, lo, none⟩) nl cl
  f15 : done 15 = true → v 15 = .int .i64 (k : Int)
  f16 : done 16 = true → v 16 = .pointer (some ⟨lb, lo + k * 2, none⟩)
  f17 : done 17 = true → v 17 = .pointer (some ⟨lb, lo + k * 2 + 1, none⟩)
  f18 : done 18 = true → v 18 = .int .i64 vv
  f19 : done 19 = true → v 19 = .tuple #[.agg #[.int .i64 (k : Int), .int .i64 pt, .int .i64 ci], .int .i64 0]
  f20 : done 20 = true → v 20 = .tuple #[.agg #[.int .i64 (k : Int), .int .i64 pt, .int .i64 ci], .int .i64 0]
  f21 : done 21 = true → v 21 = .agg #[.int .i64 (k : Int), .int .i64 pt, .int .i64 ci]
  f22 : done 22 = true → v 22 = .int .i64 0
  f25 : done 25 = true → v 25 = .int .i64 0
  bx : Box3 w0.heap.size w (done 23) (done 24) (v 23) (.int .i64 (k : Int)) (.int .i64 pt) (.int .i64 ci)

set_option maxRecDepth 100000 in
set_option maxHeartbeats 16000000 in
theorem rDeal37_any (rv ov kv mv uv : Value) (rows : List (List Int)) (owners keys : List Int) (dealer x : Int) (rnd us : List Int) (w : World) (hR : Rows2 w rv rows) (hO : Ints w ov owners) (hK : Ints w kv keys) (hd : R64 dealer) (_hx : R64 x) (hM : Ints w mv rnd) (hU : Ints w uv us) :
    Calls Tryz.prog 27 #[.agg #[rv, ov], kv, .int .i64 dealer, .int .i64 x, mv, uv] w (KdPost (kdE rows owners keys dealer x rnd us) (kdD rows owners keys dealer x rnd us) w) := by
  obtain ⟨W0, hW0, hb0, hr0, -⟩ := box_prog w rv ov 25
  have hs0 : W0.heap.size = w.heap.size + 1 := by rw [hW0]; simp
  obtain ⟨W1, hW1, hb1, hr1, hs1⟩ := box36 W0 (.int .i64 0) (.slice none 0 0) (.slice none 0 0) 28
  have hb := hb0.trans (hb1.mono hb0.size)
  rw [hs0] at hr1
  have Q1 := Lib.hid (hb1.block _ (row_lt hr0) |>.trans hr0)
  have QD := Lib.hid hr1
  have HR := Lib.hid (hR.below hb)
  have HO := Lib.hid (hO.below hb)
  have HK := Lib.hid (hK.below hb)
  have HM := Lib.hid (hM.below hb)
  have HU := Lib.hid (hU.below hb)
  obtain ⟨a1, k1, rfl, -, hl1, -⟩ := id hR
  obtain ⟨a2, k2, rfl, -, hl2, -⟩ := id hO
  obtain ⟨a3, k6, rfl, -, hl3, hr3k, -⟩ := id hK
  obtain ⟨a4, k4, rfl, -, hl4, -⟩ := id hM
  obtain ⟨a5, k5, rfl, -, hl5, hr5, -⟩ := id hU
  rw [hW0] at hW1
  have HW := Lib.hid hW1
  have HB := Lib.hid hb
  have HN := Lib.hid (And.intro hd hr3k)
  have c0 := row_cell Q1.out (k := 0) (v := .slice a1 rows.length k1) rfl
  have c1 := row_cell Q1.out (k := 1) (v := .slice a2 owners.length k2) rfl
  clear hR hO hK hM hU hb hb0 hb1 hr0 hr1 hW0 hW1 hs0 hs1 hd hr5 hr3k
  obtain ⟨ME, hME⟩ : ∃ z, z = kdE rows owners keys dealer x rnd us := ⟨_, rfl⟩
  obtain ⟨MD, hMD⟩ : ∃ z, z = kdD rows owners keys dealer x rnd us := ⟨_, rfl⟩
  rw [← hME, ← hMD]
  have HE : Hid (ME = kdE rows owners keys dealer x rnd us) := Lib.hid hME
  have HMD : Hid (MD = if ME = 0 then ⟨dealer, dealC (x :: rnd), sealL rows owners keys dealer us (x :: rnd) rows.length⟩ else ⟨0, [], []⟩) := Lib.hid (by rw [hMD, hME]; rfl)
  have HOFF : Hid (∀ q, ME = q → q ≠ 0 → MD = ⟨0, [], []⟩) := Lib.hid (fun q h hq => by rw [HMD.out, if_neg (by rw [h]; exact hq)])
  clear hME hMD
  unfold kdE at HE
  go_enter Tryz.func27, Tryz.ntmps27
  go_wp2_with (rw [← HW.out])
  clear HW
  with_reducible refine (rpCheck_any _ _ rows owners _ HR.out HO.out).mono ?_
  rintro e w4 ⟨rfl, hb4⟩
  replace c0 := below_cell hb4 c0
  replace c1 := below_cell hb4 c1
  replace HR := Lib.hid (HR.out.below hb4)
  replace HO := Lib.hid (HO.out.below hb4)
  replace HK := Lib.hid (HK.out.below hb4)
  replace HM := Lib.hid (HM.out.below hb4)
  replace HU := Lib.hid (HU.out.below hb4)
  replace Q1 := Lib.hid ((hb4.block _ (row_lt Q1.out)).trans Q1.out)
  replace QD := Lib.hid ((hb4.block _ (row_lt QD.out)).trans QD.out)
  replace HB := Lib.hid (HB.out.trans (hb4.mono HB.out.size))
  clear hb4
  by_cases hp : progE rows owners = 0
  rotate_left
  · have HV := Lib.hid (HE.out.trans (if_pos hp))
    have HNZ := Lib.hid hp
    have d0 : (progE rows owners != 0) = true := bne_iff_ne.2 hp
    clear hp HE
    generalize progE rows owners = q at *
    have q0 := row_cell QD.out (k := 0) (v := .int .i64 0) rfl
    have q1 := row_cell QD.out (k := 1) (v := .slice none 0 0) rfl
    have q2 := row_cell QD.out (k := 2) (v := .slice none 0 0) rfl
    have f0 := row_free QD.out 0
    have f1 := row_free QD.out 1
    have f2 := row_free QD.out 2
    have hq := row_set (row_set (row_set QD.out 0 (.int .i64 0)) 1 (.slice none 0 0)) 2 (.slice none 0 0)
    have p0 := row_cell hq (k := 0) (v := .int .i64 0) rfl
    have p1 := row_cell hq (k := 1) (v := .slice none 0 0) rfl
    have p2 := row_cell hq (k := 2) (v := .slice none 0 0) rfl
    have hle : w.heap.size ≤ w.heap.size + 1 := by omega
    have HBQ := Lib.hid (((HB.out.setCell (p := ⟨w.heap.size + 1, 0, none⟩) hle (.int .i64 0)).setCell (p := ⟨w.heap.size + 1, 1, none⟩) hle (.slice none 0 0)).setCell (p := ⟨w.heap.size + 1, 2, none⟩) hle (.slice none 0 0))
    clear hq hle
    go_wp2_with fail
    refine bodyPost_ret (v := .tuple #[.agg #[.int .i64 0, .slice none 0 0, .slice none 0 0], .int .i64 q]) (by simp [results, Tryz.results27, go_sem, p0, p1, p2]) rfl ⟨_, by rw [HV.out], by rw [HOFF.out _ HV.out HNZ.out]; exact dlgV_none _, HBQ.out⟩
  replace HE := Lib.hid (HE.out.trans (if_neg (by simp [hp])))
  have HPO := Lib.hid (progE_ok hp)
  have HP0 := Lib.hid hp
  rw [hp]
  clear hp
  go_wp2_with fail
  with_reducible refine (rKeys_any _ _ _ owners keys _ ⟨_, _, _, rfl⟩ HO.out HK.out (fun o h => (HPO.out.own o h).1)).mono ?_
  rintro e w5 ⟨rfl, hb5⟩
  replace c0 := below_cell hb5 c0
  replace c1 := below_cell hb5 c1
  replace HR := Lib.hid (HR.out.below hb5)
  replace HO := Lib.hid (HO.out.below hb5)
  replace HK := Lib.hid (HK.out.below hb5)
  replace HM := Lib.hid (HM.out.below hb5)
  replace HU := Lib.hid (HU.out.below hb5)
  replace Q1 := Lib.hid ((hb5.block _ (row_lt Q1.out)).trans Q1.out)
  replace QD := Lib.hid ((hb5.block _ (row_lt QD.out)).trans QD.out)
  replace HB := Lib.hid (HB.out.trans (hb5.mono HB.out.size))
  clear hb5
  cases hkb : keysB owners keys with
  | false =>
    have HV := Lib.hid (HE.out.trans (if_pos hkb))
    clear hkb HE
    have q0 := row_cell QD.out (k := 0) (v := .int .i64 0) rfl
    have q1 := row_cell QD.out (k := 1) (v := .slice none 0 0) rfl
    have q2 := row_cell QD.out (k := 2) (v := .slice none 0 0) rfl
    have f0 := row_free QD.out 0
    have f1 := row_free QD.out 1
    have f2 := row_free QD.out 2
    have hq := row_set (row_set (row_set QD.out 0 (.int .i64 0)) 1 (.slice none 0 0)) 2 (.slice none 0 0)
    have p0 := row_cell hq (k := 0) (v := .int .i64 0) rfl
    have p1 := row_cell hq (k := 1) (v := .slice none 0 0) rfl
    have p2 := row_cell hq (k := 2) (v := .slice none 0 0) rfl
    have hle : w.heap.size ≤ w.heap.size + 1 := by omega
    have HBQ := Lib.hid (((HB.out.setCell (p := ⟨w.heap.size + 1, 0, none⟩) hle (.int .i64 0)).setCell (p := ⟨w.heap.size + 1, 1, none⟩) hle (.slice none 0 0)).setCell (p := ⟨w.heap.size + 1, 2, none⟩) hle (.slice none 0 0))
    clear hq hle
    go_wp2_with fail
    refine bodyPost_ret (v := .tuple #[.agg #[.int .i64 0, .slice none 0 0, .slice none 0 0], .int .i64 370]) (by simp [results, Tryz.results27, go_sem, p0, p1, p2]) rfl ⟨_, by rw [HV.out], by rw [HOFF.out _ HV.out (by decide)]; exact dlgV_none _, HBQ.out⟩
  | true =>
  replace HE := Lib.hid (HE.out.trans (if_neg (by rw [hkb]; decide)))
  have HKO := Lib.hid (keysB_iff.1 hkb)
  clear hkb
  by_cases h1 : dealer < 0
  · have HV := Lib.hid (HE.out.trans (if_pos (inB_false (by omega))))
    clear HE
    have q0 := row_cell QD.out (k := 0) (v := .int .i64 0) rfl
    have q1 := row_cell QD.out (k := 1) (v := .slice none 0 0) rfl
    have q2 := row_cell QD.out (k := 2) (v := .slice none 0 0) rfl
    have f0 := row_free QD.out 0
    have f1 := row_free QD.out 1
    have f2 := row_free QD.out 2
    have hq := row_set (row_set (row_set QD.out 0 (.int .i64 0)) 1 (.slice none 0 0)) 2 (.slice none 0 0)
    have p0 := row_cell hq (k := 0) (v := .int .i64 0) rfl
    have p1 := row_cell hq (k := 1) (v := .slice none 0 0) rfl
    have p2 := row_cell hq (k := 2) (v := .slice none 0 0) rfl
    have hle : w.heap.size ≤ w.heap.size + 1 := by omega
    have HBQ := Lib.hid (((HB.out.setCell (p := ⟨w.heap.size + 1, 0, none⟩) hle (.int .i64 0)).setCell (p := ⟨w.heap.size + 1, 1, none⟩) hle (.slice none 0 0)).setCell (p := ⟨w.heap.size + 1, 2, none⟩) hle (.slice none 0 0))
    clear hq hle
    go_wp2_with fail
    refine bodyPost_ret (v := .tuple #[.agg #[.int .i64 0, .slice none 0 0, .slice none 0 0], .int .i64 1]) (by simp [results, Tryz.results27, go_sem, p0, p1, p2]) rfl ⟨_, by rw [HV.out], by rw [HOFF.out _ HV.out (by decide)]; exact dlgV_none _, HBQ.out⟩
  by_cases h2 : 64 ≤ dealer
  · have HV := Lib.hid (HE.out.trans (if_pos (inB_false (by omega))))
    clear HE
    have q0 := row_cell QD.out (k := 0) (v := .int .i64 0) rfl
    have q1 := row_cell QD.out (k := 1) (v := .slice none 0 0) rfl
    have q2 := row_cell QD.out (k := 2) (v := .slice none 0 0) rfl
    have f0 := row_free QD.out 0
    have f1 := row_free QD.out 1
    have f2 := row_free QD.out 2
    have hq := row_set (row_set (row_set QD.out 0 (.int .i64 0)) 1 (.slice none 0 0)) 2 (.slice none 0 0)
    have p0 := row_cell hq (k := 0) (v := .int .i64 0) rfl
    have p1 := row_cell hq (k := 1) (v := .slice none 0 0) rfl
    have p2 := row_cell hq (k := 2) (v := .slice none 0 0) rfl
    have hle : w.heap.size ≤ w.heap.size + 1 := by omega
    have HBQ := Lib.hid (((HB.out.setCell (p := ⟨w.heap.size + 1, 0, none⟩) hle (.int .i64 0)).setCell (p := ⟨w.heap.size + 1, 1, none⟩) hle (.slice none 0 0)).setCell (p := ⟨w.heap.size + 1, 2, none⟩) hle (.slice none 0 0))
    clear hq hle
    go_wp2_with fail
    refine bodyPost_ret (v := .tuple #[.agg #[.int .i64 0, .slice none 0 0, .slice none 0 0], .int .i64 1]) (by simp [results, Tryz.results27, go_sem, p0, p1, p2]) rfl ⟨_, by rw [HV.out], by rw [HOFF.out _ HV.out (by decide)]; exact dlgV_none _, HBQ.out⟩
  have hdb : inB dealer 0 63 = true := inB_iff.2 (by omega)
  replace HE := Lib.hid (HE.out.trans (if_neg (by rw [hdb]; decide)))
  have HDL := Lib.hid (inB_iff.1 hdb)
  clear hdb
  go_wp2_with fail
  by_cases hde : dealE rows owners x rnd = 0
  rotate_left
  · have HV := Lib.hid (HE.out.trans (if_pos hde))
    have HNZ := Lib.hid hde
    have d0 : (dealE rows owners x rnd != 0) = true := bne_iff_ne.2 hde
    with_reducible refine (rDeal_any _ _ _ rows owners x rnd _ HR.out HO.out HM.out).mono ?_
    rintro e w6 ⟨lv, cv, rfl, hsl, hcs, hb6⟩
    replace c0 := below_cell hb6 c0
    replace c1 := below_cell hb6 c1
    replace HR := Lib.hid (HR.out.below hb6)
    replace HO := Lib.hid (HO.out.below hb6)
    replace HK := Lib.hid (HK.out.below hb6)
    replace HM := Lib.hid (HM.out.below hb6)
    replace HU := Lib.hid (HU.out.below hb6)
    replace Q1 := Lib.hid ((hb6.block _ (row_lt Q1.out)).trans Q1.out)
    replace QD := Lib.hid ((hb6.block _ (row_lt QD.out)).trans QD.out)
    replace HB := Lib.hid (HB.out.trans (hb6.mono HB.out.size))
    clear hb6
    obtain ⟨al, cl, rfl, -⟩ := hsl
    obtain ⟨ac, cc, rfl, -⟩ := hcs
    clear hde HE
    generalize dealE rows owners x rnd = q at *
    have q0 := row_cell QD.out (k := 0) (v := .int .i64 0) rfl
    have q1 := row_cell QD.out (k := 1) (v := .slice none 0 0) rfl
    have q2 := row_cell QD.out (k := 2) (v := .slice none 0 0) rfl
    have f0 := row_free QD.out 0
    have f1 := row_free QD.out 1
    have f2 := row_free QD.out 2
    have hq := row_set (row_set (row_set QD.out 0 (.int .i64 0)) 1 (.slice none 0 0)) 2 (.slice none 0 0)
    have p0 := row_cell hq (k := 0) (v := .int .i64 0) rfl
    have p1 := row_cell hq (k := 1) (v := .slice none 0 0) rfl
    have p2 := row_cell hq (k := 2) (v := .slice none 0 0) rfl
    have hle : w.heap.size ≤ w.heap.size + 1 := by omega
    have HBQ := Lib.hid (((HB.out.setCell (p := ⟨w.heap.size + 1, 0, none⟩) hle (.int .i64 0)).setCell (p := ⟨w.heap.size + 1, 1, none⟩) hle (.slice none 0 0)).setCell (p := ⟨w.heap.size + 1, 2, none⟩) hle (.slice none 0 0))
    clear hq hle
    go_wp2_with fail
    refine bodyPost_ret (v := .tuple #[.agg #[.int .i64 0, .slice none 0 0, .slice none 0 0], .int .i64 q]) (by simp [results, Tryz.results27, go_sem, p0, p1, p2]) rfl ⟨_, by rw [HV.out], by rw [HOFF.out _ HV.out HNZ.out]; exact dlgV_none _, HBQ.out⟩
  replace HE := Lib.hid (HE.out.trans (if_neg (by simp [hde])))
  have HDK := Lib.hid (dealE_ok hde)
  clear hde
  with_reducible refine (rDeal_yes _ _ _ rows owners x rnd _ HR.out HO.out HM.out HDK.out HP0.out).mono ?_
  rintro e w6 ⟨lv, cv, rfl, hsl, hcs, hb6⟩
  replace c0 := below_cell hb6 c0
  replace c1 := below_cell hb6 c1
  replace HR := Lib.hid (HR.out.below hb6)
  replace HO := Lib.hid (HO.out.below hb6)
  replace HK := Lib.hid (HK.out.below hb6)
  replace HM := Lib.hid (HM.out.below hb6)
  replace HU := Lib.hid (HU.out.below hb6)
  replace Q1 := Lib.hid ((hb6.block _ (row_lt Q1.out)).trans Q1.out)
  replace QD := Lib.hid ((hb6.block _ (row_lt QD.out)).trans QD.out)
  replace HB := Lib.hid (HB.out.trans (hb6.mono HB.out.size))
  clear hb6
  obtain ⟨al, cl, rfl, hSL⟩ : ∃ al cl, lv = .slice al rows.length cl ∧ Shares w6 (.slice al rows.length cl) (dealL rows (x :: rnd)) := by
    obtain ⟨al, cl, e1, -⟩ := id hsl
    rw [dealL_len] at e1
    exact ⟨al, cl, e1, by rw [← e1]; exact hsl⟩
  have HSL := Lib.hid hSL
  have HCS := Lib.hid hcs
  obtain ⟨ac, nc, cc, rfl⟩ : ∃ a n c, cv = .slice a n c := by
    obtain ⟨a, c, e1, -⟩ := id hcs
    exact ⟨_, _, _, e1⟩
  clear hsl hSL hcs
  obtain ⟨s, hs⟩ : ∃ s, s = x :: rnd := ⟨_, rfl⟩
  rw [← hs] at HSL HCS HMD
  clear hs
  by_cases hul : us.length = rows.length
  rotate_left
  · have HV := Lib.hid (HE.out.trans (if_pos (.inl hul)))
    have x1 : ((us.length : Int) != (rows.length : Int)) = true := bne_iff_ne.2 (by omega)
    clear hul HE
    have q0 := row_cell QD.out (k := 0) (v := .int .i64 0) rfl
    have q1 := row_cell QD.out (k := 1) (v := .slice none 0 0) rfl
    have q2 := row_cell QD.out (k := 2) (v := .slice none 0 0) rfl
    have f0 := row_free QD.out 0
    have f1 := row_free QD.out 1
    have f2 := row_free QD.out 2
    have hq := row_set (row_set (row_set QD.out 0 (.int .i64 0)) 1 (.slice none 0 0)) 2 (.slice none 0 0)
    have p0 := row_cell hq (k := 0) (v := .int .i64 0) rfl
    have p1 := row_cell hq (k := 1) (v := .slice none 0 0) rfl
    have p2 := row_cell hq (k := 2) (v := .slice none 0 0) rfl
    have hle : w.heap.size ≤ w.heap.size + 1 := by omega
    have HBQ := Lib.hid (((HB.out.setCell (p := ⟨w.heap.size + 1, 0, none⟩) hle (.int .i64 0)).setCell (p := ⟨w.heap.size + 1, 1, none⟩) hle (.slice none 0 0)).setCell (p := ⟨w.heap.size + 1, 2, none⟩) hle (.slice none 0 0))
    clear hq hle
    go_wp2_with fail
    refine bodyPost_ret (v := .tuple #[.agg #[.int .i64 0, .slice none 0 0, .slice none 0 0], .int .i64 1]) (by simp [results, Tryz.results27, go_sem, p0, p1, p2]) rfl ⟨_, by rw [HV.out], by rw [HOFF.out _ HV.out (by decide)]; exact dlgV_none _, HBQ.out⟩
  have x1 : ((us.length : Int) != (rows.length : Int)) = false := by rw [hul]; simp
  have HUL := Lib.hid hul
  obtain ⟨W5, hW5, hb5, hr5, hs5⟩ := box36 w6 (.int .i64 dealer) (.slice ac nc cc) (.slice none 0 0) 28
  have HI0 : Hid (KdI w6 dealer (.slice ac nc cc) (sealL rows owners keys dealer us s 0) 0 W5) := Lib.hid ⟨_, hr5, World.ownsRow_nil _ _ _ _, hb5⟩
  have HW5 := Lib.hid hW5
  clear hW5 hb5 hr5 hs5 hul
  go_wp2_with (rw [← HW5.out])
  have hi0 := HI0.out
  clear HI0 HW5
  go_loopw [19, 20, 21] (fun i _ _ W => ∃ k : Nat, k ≤ rows.length ∧ i = .int .i64 k ∧ Hid (∀ j (h : j < us.length), j < k → 1 ≤ us[j] ∧ us[j] ≤ 1073741788) ∧ KdI w6 dealer (.slice ac nc cc) (sealL rows owners keys dealer us s k) k W) (fun i _ _ _ => rows.length - (intOf i).toNat)
  case atStart => exact ⟨0, Nat.zero_le _, rfl, Lib.hid (fun j _ h => absurd h (Nat.not_lt_zero j)), hi0⟩
  case round =>
    clear hi0 x1
    obtain ⟨k, hkl, rfl, HUP, L, hrow, hown, hb⟩ := hrel
    have hrl := HPO.out.few
    obtain ⟨a9, n9, k9, rfl⟩ := own_sl hown
    by_cases hlt : k < rows.length
    · have hks : k < us.length := by rw [HUL.out]; exact hlt
      have hko : k < owners.length := by rw [← HPO.out.len]; exact hlt
      obtain ⟨lb, lo, ea, l0, l1⟩ := shares_at (HSL.out.below hb) (k := k) (by rw [dealL_len]; exact hlt)
      subst ea
      rw [dealL_at rows s (by rw [dealL_len]; exact hlt)] at l0 l1
      obtain ⟨ub, uo, ea, qu⟩ := ints_at (HU.out.below hb) hks
      subst ea
      have HBAD : Hid (inB us[k] 1 1073741788 = false → us.any oddU = true) := Lib.hid (fun h => List.any_eq_true.2 ⟨us[k], List.getElem_mem hks, by unfold oddU; rw [h]; rfl⟩)
      have hun : nth us k = us[k] := nth_at hks
      have HUN : Hid (1 ≤ us[k] ∧ us[k] ≤ 1073741788 → ∀ j (h : j < us.length), j < k + 1 → 1 ≤ us[j] ∧ us[j] ≤ 1073741788) := Lib.hid (fun h j hj h2 => by
        by_cases e : j = k
        · subst e; exact h
        · exact HUP.out j hj (by omega))
      obtain ⟨u, hu⟩ : ∃ u, u = us[k] := ⟨_, rfl⟩
      rw [← hu] at qu hun HBAD HUN
      clear hu
      have HSX := Lib.hid (fun w => secret35_any u w)
      have i0 : (0 : Int) ≤ (k : Int) := Int.natCast_nonneg k
      have i1 : (k : Int) < (us.length : Int) := by omega
      have i5 : (k : Int) < (rows.length : Int) := by omega
      cases hin : inB u 1 1073741788 with
      | false =>
        rw [hin] at HSX
        have HV := Lib.hid (HE.out.trans (if_pos (.inr (HBAD.out hin))))
        have HBW := Lib.hid (HB.out.trans (hb.mono HB.out.size))
        replace QD := Lib.hid ((hb.block _ (row_lt QD.out)).trans QD.out)
        replace HB := HBW
        clear hin HBAD HUN hun hko hks HBW l0 l1 hrow hown hb
        go_wp2_with fail
        with_reducible refine (HSX.out _).mono ?_
        rintro e w9 ⟨rfl, rfl⟩
        have q0 := row_cell QD.out (k := 0) (v := .int .i64 0) rfl
        have q1 := row_cell QD.out (k := 1) (v := .slice none 0 0) rfl
        have q2 := row_cell QD.out (k := 2) (v := .slice none 0 0) rfl
        have f0 := row_free QD.out 0
        have f1 := row_free QD.out 1
        have f2 := row_free QD.out 2
        have hq := row_set (row_set (row_set QD.out 0 (.int .i64 0)) 1 (.slice none 0 0)) 2 (.slice none 0 0)
        have p0 := row_cell hq (k := 0) (v := .int .i64 0) rfl
        have p1 := row_cell hq (k := 1) (v := .slice none 0 0) rfl
        have p2 := row_cell hq (k := 2) (v := .slice none 0 0) rfl
        have hle : w.heap.size ≤ w.heap.size + 1 := by omega
        have HBQ := Lib.hid (((HB.out.setCell (p := ⟨w.heap.size + 1, 0, none⟩) hle (.int .i64 0)).setCell (p := ⟨w.heap.size + 1, 1, none⟩) hle (.slice none 0 0)).setCell (p := ⟨w.heap.size + 1, 2, none⟩) hle (.slice none 0 0))
        clear hq hle
        go_wp2_with fail
        refine bodyPost_ret (v := .tuple #[.agg #[.int .i64 0, .slice none 0 0, .slice none 0 0], .int .i64 1]) (by simp [results, Tryz.results27, go_sem, p0, p1, p2]) rfl ⟨_, by rw [HV.out], by rw [HOFF.out _ HV.out (by decide)]; exact dlgV_none _, HBQ.out⟩
      | true =>
      rw [hin] at HSX
      have hu1 := inB_iff.1 hin
      obtain ⟨ob, oo, ea, qo⟩ := ints_at (HO.out.below hb) hko
      subst ea
      have hoN := HPO.out.own _ (List.getElem_mem hko)
      obtain ⟨hkk, hkel⟩ := HKO.out.key (fun o h => (HPO.out.own o h).1) hko
      obtain ⟨m, hm⟩ : ∃ m : Nat, owners[k] = (m : Int) := ⟨owners[k].toNat, by omega⟩
      have hmo : (nth owners k).toNat = m := by rw [nth_at hko, hm]; rfl
      rw [hmo] at hkk
      obtain ⟨kb, ko, ea, qk⟩ := ints_at (HK.out.below hb) hkk
      subst ea
      have hkey : keyOf owners keys k = keys[m] := by unfold keyOf; rw [hmo, nth_at hkk]
      rw [hkey] at hkel
      rw [hm] at qo
      have hpn := prodQ_num (rows.getD k []) s
      have hsk : sealK rows owners keys dealer us s k = ((k : Int), powE 4 u, cipV u keys[m] dealer (k : Int) (prodQ (rows.getD k []) s)) := by unfold sealK; rw [hun, hkey]
      replace l0 : wr.cell? ⟨lb, lo + k * 2, none⟩ = some (.int .i64 (k : Int)) := l0
      replace l1 : wr.cell? ⟨lb, lo + k * 2 + 1, none⟩ = some (.int .i64 (prodQ (rows.getD k []) s)) := l1
      obtain ⟨key, hky⟩ : ∃ u, u = keys[m] := ⟨_, rfl⟩
      obtain ⟨vv, hvv⟩ : ∃ u, u = prodQ (rows.getD k []) s := ⟨_, rfl⟩
      rw [← hky] at qk hkel hsk
      rw [← hvv] at l1 hpn hsk
      clear hky hvv hkey hun hmo hm hoN
      have hse : Sealed u key dealer (k : Int) vv := ⟨hu1, hkel, HDL.out, by omega, by omega⟩
      have h64 : R64 u ∧ R64 key ∧ R64 (k : Int) := ⟨R64.mk (by omega) (by omega), hkel.r64, R64.mk (by omega) (by omega)⟩
      have hsq := fun W => rseal_any u key dealer (k : Int) vv W h64.1 h64.2.1 HN.out.1 h64.2.2
      rw [sealA_yes (sealE_ok.2 hse), sealE_ok.2 hse] at hsq
      obtain ⟨pt, hpt⟩ : ∃ z, z = powE 4 u := ⟨_, rfl⟩
      obtain ⟨ci, hci⟩ : ∃ z, z = cipV u key dealer (k : Int) vv := ⟨_, rfl⟩
      rw [← hpt, ← hci] at hsk hsq
      have HSK := Lib.hid hsk
      have HSQ : Hid (∀ W, Below wr.heap.size wr W → Calls Tryz.prog 97 #[.int .i64 u, .int .i64 key, .int .i64 dealer, .int .i64 (k : Int), .int .i64 vv] W fun r w' => r = .returned (.tuple #[.agg #[.int .i64 (k : Int), .int .i64 pt, .int .i64 ci], .int .i64 0]) ∧ Below W.heap.size W w') := Lib.hid (fun W _ => hsq W)
      have HNX := Lib.hid (HUN.out hu1)
      have HKL : Hid (k ≤ 1000000) := Lib.hid (by omega)
      have HBB := Lib.hid hb
      have HOW := Lib.hid hown
      have QB := Lib.hid hrow
      have hbx : w6.heap.size < wr.heap.size := row_lt hrow
      have HBX := Lib.hid hbx
      have i2 : (k : Int) < (owners.length : Int) := by omega
      have i3 : (0 : Int) ≤ (m : Int) := Int.natCast_nonneg m
      have i4 : (m : Int) < (keys.length : Int) := by omega
      replace c1 := below_cell hb c1
      clear hpt hci hsk hkel hu1 hpn hks hko hkk hown hrow hb hrl hin hse h64 hsq HBAD HUN hbx
      go_wp2_with fail
      with_reducible refine (HSX.out _).mono ?_
      rintro e w9 ⟨rfl, rfl⟩
      go_wp2_with fail
      refine wp_region_flowsG (by kernel_rfl) (by kernel_rfl) (by kernel_rfl) (by kernel_rfl) (fun done v W => FKr19 wr (w.heap.size) (ub) (uo) (us.length) (k5) (ob) (oo) (owners.length) (k2) (kb) (ko) (keys.length) (k6) (lb) (lo) (rows.length) (cl) (k) (m) (dealer) (u) (key) (vv) (pt) (ci) done v W) (fun v => ?_) ?_ (fun v W h => ?_)
      · exact ⟨(Below.refl _ _).drew, (fun h => by cases h), (fun h => by cases h), (fun h => by cases h), (fun h => by cases h), (fun h => by cases h), (fun h => by cases h), (fun h => by cases h), (fun h => by cases h), (fun h => by cases h), (fun h => by cases h), (fun h => by cases h), (fun h => by cases h), (fun h => by cases h), (fun h => by cases h), (fun h => by cases h), (fun h => by cases h), (fun h => by cases h), (fun h => by cases h), (fun h => by cases h), (fun h => by cases h), (fun h => by cases h), (fun h => by cases h), (fun h => by cases h), (fun h => by cases h), Box3.nil _ _ _ _ _ _⟩
      · refine ⟨?_, ?_, ?_, ?_, ?_, ?_, ?_, ?_, ?_, ?_, ?_, ?_, ?_, ?_, ?_, ?_, ?_, ?_, ?_, ?_, ?_, ?_, ?_, ?_, ?_, ?_, trivial⟩
        · intro done v W A h hd hp hu hA hB hdf
          have e0 : A.tmps[5]?.getD undef = .slice (some ⟨ub, uo, none⟩) us.length k5 := hB 5 rfl
          clear hA hB hp hu hdf
          go_simp
          exact ⟨_, rfl, { h with f0 := (fun _ => rfl) }⟩
        · intro done v W A h hd hp hu hA hB hdf
          have e0 : A.tmps[19]?.getD undef = .int .i64 (k : Int) := hB 19 rfl
          clear hA hB hp hu hdf
          go_simp
          exact ⟨_, rfl, { h with f1 := (fun _ => rfl) }⟩
        · intro done v W A h hd hp hu hA hB hdf
          have hd0 : done 0 = true := hp 0 rfl
          have hd1 : done 1 = true := hp 1 rfl
          have e0 := (hA 0 76 rfl hd0).trans (h.f0 hd0)
          have e1 := (hA 1 77 rfl hd1).trans (h.f1 hd1)
          clear hA hB hp hu hdf
          go_simp
          exact ⟨_, rfl, { h with f2 := (fun _ => rfl) }⟩
        · intro done v W A h hd hp hu hA hB hdf
          have hd2 : done 2 = true := hp 2 rfl
          have e0 := (hA 2 78 rfl hd2).trans (h.f2 hd2)
          have y0_ := below_cell h.b qu
          clear hA hB hp hu hdf
          go_simp
          exact ⟨_, rfl, { h with f3 := (fun _ => rfl) }⟩
        · intro done v W A h hd hp hu hA hB hdf
          have e0 : A.tmps[1]?.getD undef = .slice (some ⟨kb, ko, none⟩) keys.length k6 := hB 1 rfl
          clear hA hB hp hu hdf
          go_simp
          exact ⟨_, rfl, { h with f4 := (fun _ => rfl) }⟩
        · intro done v W A h hd hp hu hA hB hdf
          have e0 : A.tmps[6]?.getD undef = .pointer (some ⟨w.heap.size, 0, none⟩) := hB 6 rfl
          clear hA hB hp hu hdf
          go_simp
          exact ⟨_, rfl, { h with f5 := (fun _ => rfl) }⟩
        · intro done v W A h hd hp hu hA hB hdf
          have hd5 : done 5 = true := hp 5 rfl
          have e0 := (hA 5 81 rfl hd5).trans (h.f5 hd5)
          have y0_ := below_cell h.b c1
          clear hA hB hp hu hdf
          go_simp
          exact ⟨_, rfl, { h with f6 := (fun _ => rfl) }⟩
        · intro done v W A h hd hp hu hA hB hdf
          have e0 : A.tmps[19]?.getD undef = .int .i64 (k : Int) := hB 19 rfl
          clear hA hB hp hu hdf
          go_simp
          exact ⟨_, rfl, { h with f7 := (fun _ => rfl) }⟩
        · intro done v W A h hd hp hu hA hB hdf
          have hd6 : done 6 = true := hp 6 rfl
          have hd7 : done 7 = true := hp 7 rfl
          have e0 := (hA 6 82 rfl hd6).trans (h.f6 hd6)
          have e1 := (hA 7 83 rfl hd7).trans (h.f7 hd7)
          clear hA hB hp hu hdf
          go_simp
          exact ⟨_, rfl, { h with f8 := (fun _ => rfl) }⟩
        · intro done v W A h hd hp hu hA hB hdf
          have hd8 : done 8 = true := hp 8 rfl
          have e0 := (hA 8 84 rfl hd8).trans (h.f8 hd8)
          have y0_ := below_cell h.b qo
          clear hA hB hp hu hdf
          go_simp
          exact ⟨_, rfl, { h with f9 := (fun _ => rfl) }⟩
        · intro done v W A h hd hp hu hA hB hdf
          have hd4 : done 4 = true := hp 4 rfl
          have hd9 : done 9 = true := hp 9 rfl
          have e0 := (hA 4 80 rfl hd4).trans (h.f4 hd4)
          have e1 := (hA 9 85 rfl hd9).trans (h.f9 hd9)
          clear hA hB hp hu hdf
          go_simp
          exact ⟨_, rfl, { h with f10 := (fun _ => rfl) }⟩
        · intro done v W A h hd hp hu hA hB hdf
          have hd10 : done 10 = true := hp 10 rfl
          have e0 := (hA 10 86 rfl hd10).trans (h.f10 hd10)
          have y0_ := below_cell h.b qk
          clear hA hB hp hu hdf
          go_simp
          exact ⟨_, rfl, { h with f11 := (fun _ => rfl) }⟩
        · intro done v W A h hd hp hu hA hB hdf
          have e0 : A.tmps[2]?.getD undef = .int .i64 dealer := hB 2 rfl
          clear hA hB hp hu hdf
          go_simp
          exact ⟨_, rfl, { h with f12 := (fun _ => rfl) }⟩
        · intro done v W A h hd hp hu hA hB hdf
          have e0 : A.tmps[19]?.getD undef = .int .i64 (k : Int) := hB 19 rfl
          clear hA hB hp hu hdf
          go_simp
          exact ⟨_, rfl, { h with f13 := (fun _ => rfl) }⟩
        · intro done v W A h hd hp hu hA hB hdf
          have e0 : A.tmps[15]?.getD undef = .slice (some ⟨lb, lo, none⟩) rows.length cl := hB 15 rfl
          clear hA hB hp hu hdf
          go_simp
          exact ⟨_, rfl, { h with f14 := (fun _ => rfl) }⟩
        · intro done v W A h hd hp hu hA hB hdf
          have e0 : A.tmps[19]?.getD undef = .int .i64 (k : Int) := hB 19 rfl
          clear hA hB hp hu hdf
          go_simp
          exact ⟨_, rfl, { h with f15 := (fun _ => rfl) }⟩
        · intro done v W A h hd hp hu hA hB hdf
          have hd14 : done 14 = true := hp 14 rfl
          have hd15 : done 15 = true := hp 15 rfl
          have e0 := (hA 14 90 rfl hd14).trans (h.f14 hd14)
          have e1 := (hA 15 91 rfl hd15).trans (h.f15 hd15)
          clear hA hB hp hu hdf
          go_simp
          exact ⟨_, rfl, { h with f16 := (fun _ => rfl) }⟩
        · intro done v W A h hd hp hu hA hB hdf
          have hd16 : done 16 = true := hp 16 rfl
          have e0 := (hA 16 92 rfl hd16).trans (h.f16 hd16)
          clear hA hB hp hu hdf
          go_simp
          exact ⟨_, rfl, { h with f17 := (fun _ => rfl) }⟩
        · intro done v W A h hd hp hu hA hB hdf
          have hd17 : done 17 = true := hp 17 rfl
          have e0 := (hA 17 93 rfl hd17).trans (h.f17 hd17)
          have y0_ := below_cell h.b l1
          clear hA hB hp hu hdf
          go_simp
          exact ⟨_, rfl, { h with f18 := (fun _ => rfl) }⟩
        · intro done v W A h hd hp hu hA hB hdf
          have hd3 : done 3 = true := hp 3 rfl
          have hd11 : done 11 = true := hp 11 rfl
          have hd12 : done 12 = true := hp 12 rfl
          have hd13 : done 13 = true := hp 13 rfl
          have hd18 : done 18 = true := hp 18 rfl
          have e0 := (hA 3 79 rfl hd3).trans (h.f3 hd3)
          have e1 := (hA 11 87 rfl hd11).trans (h.f11 hd11)
          have e2 := (hA 12 88 rfl hd12).trans (h.f12 hd12)
          have e3 := (hA 13 89 rfl hd13).trans (h.f13 hd13)
          have e4 := (hA 18 94 rfl hd18).trans (h.f18 hd18)
          clear hA hB hp hu hdf
          go_simp
          with_reducible refine (HSQ.out W h.b).mono ?_
          rintro e wq ⟨rfl, hb⟩
          exact ⟨_, rfl, { h with b := h.b.trans (hb.mono h.b.size), f19 := (fun _ => rfl), bx := (h.bx.below hb) }⟩
        · intro done v W A h hd hp hu hA hB hdf
          have hd19 : done 19 = true := hp 19 rfl
          have e0 := (hA 19 95 rfl hd19).trans (h.f19 hd19)
          clear hA hB hp hu hdf
          go_simp
          exact ⟨_, rfl, { h with f20 := (fun _ => rfl) }⟩
        · intro done v W A h hd hp hu hA hB hdf
          have hd20 : done 20 = true := hp 20 rfl
          have e0 := (hA 20 75 rfl hd20).trans (h.f20 hd20)
          clear hA hB hp hu hdf
          go_simp
          exact ⟨_, rfl, { h with f21 := (fun _ => rfl) }⟩
        · intro done v W A h hd hp hu hA hB hdf
          have hd20 : done 20 = true := hp 20 rfl
          have e0 := (hA 20 75 rfl hd20).trans (h.f20 hd20)
          clear hA hB hp hu hdf
          go_simp
          exact ⟨_, rfl, { h with f22 := (fun _ => rfl) }⟩
        · intro done v W A h hd hp hu hA hB hdf
          have n24_23 : done 24 = false := flow_not (fun hj => hu 24 23 rfl (hj)) hd
          have hb := below_new W zero3 49
          have hn := h.b.size
          clear hA hB hp hu hdf
          go_simp
          exact ⟨_, rfl, { h with b := h.b.trans (hb.mono h.b.size), bx := (h.bx.alloc n24_23 hn) }⟩
        · intro done v W A h hd hp hu hA hB hdf
          have hd21 : done 21 = true := hp 21 rfl
          have hd23 : done 23 = true := hp 23 rfl
          obtain ⟨B, eB, hn0, -, hS⟩ := h.bx hd23
          simp only [hd, Bool.false_eq_true, if_false] at hS
          have e1 := (hA 23 20 rfl hd23).trans eB
          have e2 := (hA 21 96 rfl hd21).trans (h.f21 hd21)
          have u0 := row_cell hS (k := 0) (v := .int .i64 0) rfl
          have u1 := row_cell hS (k := 1) (v := .int .i64 0) rfl
          have u2 := row_cell hS (k := 2) (v := .int .i64 0) rfl
          have g0 := row_free hS 0
          have g1 := row_free hS 1
          have g2 := row_free hS 2
          clear hA hB hp hu hdf
          go_simp
          exact ⟨undef, { h with b := put3_below _ _ _ h.b hn0, bx := (h.bx.store eB hd23 hS) }⟩
        · intro done v W A h hd hp hu hA hB hdf
          have hd22 : done 22 = true := hp 22 rfl
          have e0 := (hA 22 97 rfl hd22).trans (h.f22 hd22)
          clear hA hB hp hu hdf
          go_simp
          exact ⟨_, rfl, { h with f25 := (fun _ => rfl) }⟩
      simp only [putL, Act.put, Nat.reduceAdd, List.setIfInBounds_toArray, List.set_cons_zero, List.set_cons_succ]
      rw [h.f25 rfl]
      have hbr := h.b
      obtain ⟨bP, eX, -, -, hX⟩ := h.bx rfl
      have QP := Lib.hid (show W.heap[bP]? = some (.cells #[.int .i64 (k : Int), .int .i64 pt, .int .i64 ci] 49 (0, 0)) from hX)
      rw [eX]
      clear eX hX
      have HBW := Lib.hid hbr
      replace QB := Lib.hid ((hbr.block _ (row_lt QB.out)).trans QB.out)
      clear h hbr HSQ
      have z0 := row_cell QP.out (k := 0) (v := .int .i64 (k : Int)) rfl
      have z1 := row_cell QP.out (k := 1) (v := .int .i64 pt) rfl
      have z2 := row_cell QP.out (k := 2) (v := .int .i64 ci) rfl
      have b2 := row_cell QB.out (k := 2) (v := .slice a9 n9 k9) rfl
      have hr5 := World.alloc_heap_new W (.cells #[.int .i64 (k : Int), .int .i64 pt, .int .i64 ci] 49)
      have hb5 := below_new W #[.int .i64 (k : Int), .int .i64 pt, .int .i64 ci] 49
      have y0 := Lib.hid (row_cell hr5 (k := 0) (v := .int .i64 (k : Int)) rfl)
      have y1 := Lib.hid (row_cell hr5 (k := 1) (v := .int .i64 pt) rfl)
      have y2 := Lib.hid (row_cell hr5 (k := 2) (v := .int .i64 ci) rfl)
      have HOX := Lib.hid (own_keep (own_keep HOW.out HBW.out) hb5)
      have HB6 := Lib.hid (HBW.out.trans (hb5.mono HBW.out.size))
      have HBS : w6.heap.size + 1 ≤ (W.alloc (.cells #[.int .i64 (k : Int), .int .i64 pt, .int .i64 ci] 49)).heap.size := Nat.le_trans HBX.out HB6.out.size
      have HQ6 := Lib.hid ((hb5.block _ (row_lt QB.out)).trans QB.out)
      clear hr5 hb5
      go_wp2_with (refine app_parcel rfl _ _ rfl (w6.heap.size + 1) (.slice a9 n9 k9) _ k rfl HOX.out W.heap.size 0 1 ((k : Int), pt, ci) rfl y0.out y1.out y2.out HKL.out HBS ?_; intro g9 c9 w9 h9 o9; have hb9 := own_below HOX.out o9.1 HBS; have x1 : w9.heap[w6.heap.size]? = some (.cells #[.int .i64 dealer, .slice ac nc cc, .slice a9 n9 k9] 28 (0, 0)) := (hb9.block _ (Nat.lt_succ_self _)).trans HQ6.out; have x2 := row_cell x1 (k := 2) (v := .slice a9 n9 k9) rfl; have x3 := row_free x1 2; have H9 := Lib.hid h9; have X1 := Lib.hid x1; have B9 := Lib.hid hb9; clear h9 o9 x1 hb9)
      go_roundw
      case rel =>
        refine ⟨k + 1, by omega, by go_num, HNX.out, .slice (some ⟨g9, 0, none⟩) (k + 1) c9, row_set X1.out 2 _, ?_, ?_⟩
        · rw [sealL_snoc, HSK.out]; exact own_keep_set H9.out (Nat.lt_succ_self _) _
        · exact ((HBB.out.trans (HB6.out.mono HBB.out.size)).trans (B9.out.mono (Nat.le_succ _))).setCell (Nat.le_refl _) _
      case measure => simp [intOf]; omega
    · obtain rfl : k = rows.length := by omega
      have hsz : (sealL rows owners keys dealer us s rows.length).length = rows.length := sealL_len _ _ _ _ _ _ _
      have hrl2 : rows.length ≤ 1000000 := by omega
      have hDl : w.heap.size + 1 < w6.heap.size := row_lt QD.out
      have hou : us.any oddU = false := List.any_eq_false.2 fun u hu => by
        obtain ⟨j, hj, rfl⟩ := List.getElem_of_mem hu
        have := HUP.out j hj (by have := HUL.out; omega)
        unfold oddU
        rw [inB_iff.2 this]; simp
      have HV : Hid (ME = 0) := Lib.hid (HE.out.trans (if_neg (by rw [hou, HUL.out]; simp)))
      replace HMD := Lib.hid (HMD.out.trans (if_pos HV.out))
      have hbn : ∀ b o2, a9 = some ⟨b, o2, none⟩ → w6.heap.size < b := by
        intro b o2 e9
        rcases hown.2 with ⟨h0, -⟩ | ⟨g', cap', cur, e1, hg, -⟩
        · cases h0; cases e9
        · simp only [Value.slice.injEq] at e1
          rw [e1.1] at e9
          simp only [Option.some.injEq, Addr.mk.injEq] at e9
          omega
      have hps : Parcels wr (.slice a9 n9 k9) (sealL rows owners keys dealer us s rows.length) := Parcels.own hown (by
        intro p hp
        obtain ⟨i, hi, rfl⟩ := List.mem_map.1 hp
        have hi := List.mem_range.1 hi
        exact ⟨R64.mk (by show (-4611686018427387904 : Int) ≤ (i : Int); omega) (by show (i : Int) ≤ 4611686018427387904; omega), (el_powE el_four _).r64, num_r64 (cipV_num _ _ _ _ _)⟩) (by rw [hsz]; omega)
      have hqd := (hb.block _ (row_lt QD.out)).trans QD.out
      have hB9 := HB.out.trans (hb.mono HB.out.size)
      have hcs := HCS.out.below hb
      obtain ⟨W9, hW9⟩ : ∃ W9, W9 = put3 wr (w.heap.size + 1) (.int .i64 dealer) (.slice ac nc cc) (.slice a9 n9 k9) := ⟨_, rfl⟩
      have hqd9 : W9.heap[w.heap.size + 1]? = some (.cells #[.int .i64 dealer, .slice ac nc cc, .slice a9 n9 k9] 28 (0, 0)) := by rw [hW9]; exact put3_row _ _ _ _ hqd
      have HB9 : Hid (Below w.heap.size w W9) := Lib.hid (by rw [hW9]; exact put3_below _ _ _ hB9 (by omega))
      have HP9 : Hid (Parcels W9 (.slice a9 n9 k9) (sealL rows owners keys dealer us s rows.length)) := Lib.hid (by rw [hW9]; exact parcels_put3 hps (fun b o2 e9 => by have := hbn b o2 e9; omega) _ _ _)
      have HC9 : Hid (Ints W9 (.slice ac nc cc) (dealC s)) := Lib.hid (by
        rw [hW9]
        have hcs2 := hcs
        obtain ⟨a, c, e1, h1, h2, h3, h4⟩ := hcs
        refine ⟨a, c, e1, h1, h2, h3, fun j hj => ?_⟩
        obtain ⟨b, off, e2, hcell⟩ := h4 j hj
        refine ⟨b, off, e2, ?_⟩
        have n1 := ints_not hcs2 (dealC_pos s) hqd three_zero e1 hj e2
        unfold put3
        rw [cell_other (.inl n1.symm), cell_other (.inl n1.symm), cell_other (.inl n1.symm)]
        exact hcell)
      have b0 := row_cell hrow (k := 0) (v := .int .i64 dealer) rfl
      have b1 := row_cell hrow (k := 1) (v := .slice ac nc cc) rfl
      have b2 := row_cell hrow (k := 2) (v := .slice a9 n9 k9) rfl
      have t0 := row_cell hqd (k := 0) (v := .int .i64 0) rfl
      have t1 := row_cell hqd (k := 1) (v := .slice none 0 0) rfl
      have t2 := row_cell hqd (k := 2) (v := .slice none 0 0) rfl
      have f0 := row_free hqd 0
      have f1 := row_free hqd 1
      have f2 := row_free hqd 2
      have y0 := row_cell hqd9 (k := 0) (v := .int .i64 dealer) rfl
      have y1 := row_cell hqd9 (k := 1) (v := .slice ac nc cc) rfl
      have y2 := row_cell hqd9 (k := 2) (v := .slice a9 n9 k9) rfl
      unfold put3 at hW9
      have HW9 := Lib.hid hW9
      have d9 : decide ((rows.length : Int) < (rows.length : Int)) = false := decide_eq_false (by omega)
      have d8 : decide (rows.length < rows.length) = false := decide_eq_false (by omega)
      clear hW9 hqd9 hqd hB9 hcs hps hrow hown hb hbn hsz hrl hrl2 hkl hlt hou
      go_wp2_with (rw [← HW9.out])
      refine bodyPost_ret (v := .tuple #[.agg #[.int .i64 dealer, .slice ac nc cc, .slice a9 n9 k9], .int .i64 0]) (by simp [results, Tryz.results27, go_sem, y0, y1, y2]) rfl ⟨_, by rw [HV.out], by rw [HMD.out]; exact ⟨_, _, rfl, HN.out.1, HC9.out, HP9.out⟩, HB9.out⟩

end Go.Proofs.YtggnipkfliompaaGreatDoor
