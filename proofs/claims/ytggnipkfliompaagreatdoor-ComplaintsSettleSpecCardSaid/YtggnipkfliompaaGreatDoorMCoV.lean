/- The reference of complaints: Settle; the laws ComplaintsSpec and ComplaintsSettleSpec. The arguments of a law: read as rows and lists; and what a law's call leaves. -/
import Derived.Test.YtggnipkfliompaaGreatDoorMRefQ
import Derived.Test.YtggnipkfliompaaGreatDoorMCoL
import Derived.Test.YtggnipkfliompaaGreatDoorRows
import Derived.Test.YtggnipkfliompaaGreatDoorMBase
import Derived.ProofKit
import Derived.OpenShut
import Derived.Carry
import Derived.ChangeSlices
import Derived.ReadAgain
import Derived.Deep.Matrix
import Derived.SizedLaws
namespace Go.Proofs.YtggnipkfliompaaGreatDoor
open Go.RowKit FP

set_option maxRecDepth 100000 in
set_option maxHeartbeats 8000000 in
theorem rSettle36_any (rv ov cv pv : Value) (rows : List (List Int)) (owners : List Int) (dl : Int) (cs : List Int) (ps : List Pcl) (c : Cmp) (key : Int) (w : World) (hR : Rows2 w rv rows) (hO : Ints w ov owners) (hC : Ints w cv cs) (hP : Parcels w pv ps) (hkey : R64 key) (hc : CmpR c) :
    Calls Tryz.prog 18 #[.agg #[rv, ov], .int .i64 key, .agg #[.int .i64 dl, cv, pv], cmpV c] w fun r w' => r = .returned (.tuple #[.int .i64 (stG rows owners key ⟨dl, cs, ps⟩ c), .int .i64 (stE rows owners key ⟨dl, cs, ps⟩ c)]) ∧ Below w.heap.size w w' := by
  obtain ⟨W1, hW1, hb1, hr1, hr2⟩ := box_pd w rv ov (.int .i64 dl) cv pv
  have hs1 : W1.heap.size = w.heap.size + 1 + 1 := by rw [hW1]; simp
  obtain ⟨c1, c2, c3, c4, c5⟩ := c
  obtain ⟨hc1, hc2, hc3, hc4, hc5⟩ := hc
  obtain ⟨W2, hW2⟩ : ∃ W, W = W1.alloc (.cells #[.int .i64 c1, .int .i64 c2, .int .i64 c3, .int .i64 c4, .int .i64 c5] 34) := ⟨_, rfl⟩
  have hb2 : Below W1.heap.size W1 W2 := by rw [hW2]; exact below_new _ _ _
  have hr3 : W2.heap[w.heap.size + 1 + 1]? = some (.cells #[.int .i64 c1, .int .i64 c2, .int .i64 c3, .int .i64 c4, .int .i64 c5] 34 (0, 0)) := by rw [hW2, ← hs1]; exact World.alloc_heap_new _ _
  have hbq := hb1.trans (hb2.mono hb1.size)
  have HB := Lib.hid hbq
  have HR := Lib.hid (hR.below hbq)
  have HO := Lib.hid (hO.below hbq)
  have HC := Lib.hid (hC.below hbq)
  have HP := Lib.hid (hP.below hbq)
  obtain ⟨a1, k1, rfl, -⟩ := id hR
  obtain ⟨a2, k2, rfl, -, hl2, -⟩ := id hO
  obtain ⟨a3, k3, rfl, -, hl3, -⟩ := id hC
  obtain ⟨a4, k4, rfl, -, hl4, -⟩ := id hP
  have e1 := (hb2.block _ (row_lt hr1)).trans hr1
  have e2 := (hb2.block _ (row_lt hr2)).trans hr2
  have p0 := row_cell e1 (k := 0) (v := .slice a1 rows.length k1) rfl
  have p1 := row_cell e1 (k := 1) (v := .slice a2 owners.length k2) rfl
  have d0 := row_cell e2 (k := 0) (v := .int .i64 dl) rfl
  have d1 := row_cell e2 (k := 1) (v := .slice a3 cs.length k3) rfl
  have d2 := row_cell e2 (k := 2) (v := .slice a4 ps.length k4) rfl
  have x0 := row_cell hr3 (k := 0) (v := .int .i64 c1) rfl
  have x1 := row_cell hr3 (k := 1) (v := .int .i64 c2) rfl
  have x2 := row_cell hr3 (k := 2) (v := .int .i64 c3) rfl
  have x3 := row_cell hr3 (k := 3) (v := .int .i64 c4) rfl
  have x4 := row_cell hr3 (k := 4) (v := .int .i64 c5) rfl
  rw [hW1] at hW2
  have HW := Lib.hid hW2
  have HC64 := Lib.hid (And.intro hc2 (And.intro hc3 (And.intro hc4 (And.intro hc5 hkey))))
  clear hR hO hC hP hr1 hr2 hr3 hW1 hW2 hb1 hb2 hbq e1 e2 hs1 hc1 hc2 hc3 hc4 hc5 hkey
  unfold cmpV cmpA
  go_enter Tryz.func18, Tryz.ntmps18
  go_wp2_with (rw [← HW.out])
  with_reducible refine (rError36_any _ _ _ _ rows owners dl cs ps _ HR.out HO.out HC.out HP.out).mono ?_
  rintro e w2 ⟨rfl, hb⟩
  replace p0 := below_cell hb p0
  replace p1 := below_cell hb p1
  replace d0 := below_cell hb d0
  replace d1 := below_cell hb d1
  replace d2 := below_cell hb d2
  replace x0 := below_cell hb x0
  replace x1 := below_cell hb x1
  replace x2 := below_cell hb x2
  replace x3 := below_cell hb x3
  replace x4 := below_cell hb x4
  replace HR := Lib.hid (HR.out.below hb)
  replace HO := Lib.hid (HO.out.below hb)
  replace HC := Lib.hid (HC.out.below hb)
  replace HP := Lib.hid (HP.out.below hb)
  replace HB := Lib.hid (HB.out.trans (hb.mono HB.out.size))
  clear hb
  clear HW
  obtain ⟨q, hq⟩ : ∃ q, q = cE rows owners ⟨dl, cs, ps⟩ := ⟨_, rfl⟩
  rw [← hq]
  by_cases he : q = 0
  rotate_left
  · have HV := Lib.hid (st_c (key := key) (c := ⟨c1, c2, c3, c4, c5⟩) hq.symm he)
    have z0 : (q != 0) = true := bne_iff_ne.2 he
    clear hq he
    go_wp2_with fail
    go_ret2
    exact ⟨by rw [HV.out.1, HV.out.2]; rfl, HB.out⟩
  subst he
  have HCE := Lib.hid hq.symm
  clear hq
  have HCM := Lib.hid (cE_ok.1 HCE.out)
  have hlen : ps.length = rows.length := HCM.out.len
  have HSR := Lib.hid (fun h2 => st_r (key := key) (c := ⟨c1, c2, c3, c4, c5⟩) HCE.out h2)
  by_cases h1 : c1 = dl
  rotate_left
  · have HV := Lib.hid (HSR.out (.inl h1))
    have z0 : (c1 != dl) = true := bne_iff_ne.2 h1
    clear h1 hlen
    go_wp2_with fail
    go_ret2
    exact ⟨by rw [HV.out.1, HV.out.2]; rfl, HB.out⟩
  have z0 : (c1 != dl) = false := by rw [h1]; simp
  by_cases h2 : c2 < 0
  · have HV := Lib.hid (HSR.out (.inr (.inl h2)))
    clear h1 hlen
    go_wp2_with fail
    go_ret2
    exact ⟨by rw [HV.out.1, HV.out.2]; rfl, HB.out⟩
  by_cases h3 : (rows.length : Int) ≤ c2
  · have HV := Lib.hid (HSR.out (.inr (.inr (show (ps.length : Int) ≤ c2 by rw [hlen]; exact h3))))
    clear h1 hlen
    go_wp2_with fail
    go_ret2
    exact ⟨by rw [HV.out.1, HV.out.2]; rfl, HB.out⟩
  have HN : Hid (¬ ((⟨c1, c2, c3, c4, c5⟩ : Cmp).dealer ≠ (⟨dl, cs, ps⟩ : Dlg).dealer ∨ (⟨c1, c2, c3, c4, c5⟩ : Cmp).row < 0 ∨ (((⟨dl, cs, ps⟩ : Dlg).ps.length : Int) ≤ (⟨c1, c2, c3, c4, c5⟩ : Cmp).row))) := Lib.hid (by
    show ¬ (c1 ≠ dl ∨ c2 < 0 ∨ (ps.length : Int) ≤ c2)
    rw [hlen]; omega)
  obtain ⟨k, rfl⟩ : ∃ k : Nat, c2 = (k : Int) := ⟨c2.toNat, by omega⟩
  have hk : k < ps.length := by omega
  obtain ⟨gp, op, hga, t0, t1, t2⟩ := (show ∃ b off, a4 = some ⟨b, off, none⟩ ∧ w2.cell? ⟨b, off + k * 3, none⟩ = some (.int .i64 ps[k].1) ∧ w2.cell? ⟨b, off + k * 3 + 1, none⟩ = some (.int .i64 ps[k].2.1) ∧ w2.cell? ⟨b, off + k * 3 + 2, none⟩ = some (.int .i64 ps[k].2.2) by
    obtain ⟨a, cp, e, -, -, -, hh⟩ := HP.out
    injection e with e1 e2 e3
    subst e1
    exact hh k hk)
  subst hga
  obtain ⟨r1, r2, r3⟩ : R64 ps[k].1 ∧ R64 ps[k].2.1 ∧ R64 ps[k].2.2 := by
    obtain ⟨a, cp, e, -, -, hh, -⟩ := HP.out
    exact hh _ (List.getElem_mem hk)
  have HPA : Hid (parAt ⟨dl, cs, ps⟩ (k : Int) = ps[k]) := Lib.hid (by
    obtain ⟨_, h⟩ := parAt_mem (d := ⟨dl, cs, ps⟩) (row := (k : Int)) ⟨by omega, by show (k : Int) < (ps.length : Int); omega⟩
    exact h)
  have HD64 : Hid (R64 dl) := Lib.hid (by have := HCM.out.dealer; exact ⟨by have := this.1; simp only at this; omega, by have := this.2; simp only at this; omega⟩)
  have HFB := Lib.hid (fun v hv => fitB_com HCM.out (row := (k : Int)) (v := v) ⟨by omega, by show (k : Int) < (ps.length : Int); omega⟩ hv)
  have HK1 := Lib.hid (fun h => st_k (key := key) (c := ⟨c1, (k : Int), c3, c4, c5⟩) HCE.out HN.out h)
  have HK2 := Lib.hid (fun h => stE_w (key := key) (c := ⟨c1, (k : Int), c3, c4, c5⟩) HCE.out HN.out h)
  have HK4 := Lib.hid (fun h h3 b hf => st_f (rows := rows) (owners := owners) (key := key) (d := ⟨dl, cs, ps⟩) (c := ⟨c1, (k : Int), c3, c4, c5⟩) h h3 (b := b) hf)
  simp only at HK1 HK2 HK4
  rw [HPA.out] at HK1 HK2 HK4
  obtain ⟨n, hn⟩ : ∃ n, n = ps[k].1 := ⟨_, rfl⟩
  obtain ⟨pt, hpt⟩ : ∃ n, n = ps[k].2.1 := ⟨_, rfl⟩
  obtain ⟨ci, hci⟩ : ∃ n, n = ps[k].2.2 := ⟨_, rfl⟩
  rw [← hn] at t0 r1 HK2 HK4
  rw [← hpt] at t1 r2 HK1 HK2 HK4
  rw [← hci] at t2 HK2 HK4
  clear hn hpt hci HPA r3
  have HCH := Lib.hid (fun w => rcheck12_any key pt c3 c4 c5 w HC64.out.2.2.2.2 r2 HC64.out.2.1 HC64.out.2.2.1 HC64.out.2.2.2.1)
  have HWI := Lib.hid (fun w => rwith_any c3 dl n pt ci w HC64.out.2.1 HD64.out r1 r2)
  have hk0 : (0 : Int) ≤ (k : Int) := Int.natCast_nonneg k
  have hk1 : (k : Int) < (ps.length : Int) := by omega
  have hk3 : (k : Int) < (rows.length : Int) := by omega
  have hk4 : decide ((rows.length : Int) ≤ (k : Int)) = false := decide_eq_false (by omega)
  have hk5 : decide (rows.length ≤ k) = false := decide_eq_false (by omega)
  obtain ⟨W5, hW5, hb5, hr5, hs5⟩ := box36 w2 (.int .i64 n) (.int .i64 pt) (.int .i64 ci) 49
  have HW5 := Lib.hid hW5
  have u0 := row_cell hr5 (k := 0) (v := .int .i64 n) rfl
  have u1 := row_cell hr5 (k := 1) (v := .int .i64 pt) rfl
  have u2 := row_cell hr5 (k := 2) (v := .int .i64 ci) rfl
  clear hlen h2 h3 hk hr5 hW5 hs5 r1 r2
  subst h1
  have x2' := below_cell hb5 x2
  have x3' := below_cell hb5 x3
  have x4' := below_cell hb5 x4
  have HB5 := Lib.hid hb5
  clear hb5
  go_wp2_with (rw [← HW5.out])
  have hb5 := HB5.out
  clear t0 t1 t2 HW5 x2' x3' x4' HB5
  replace p0 := below_cell hb5 p0
  replace p1 := below_cell hb5 p1
  replace d0 := below_cell hb5 d0
  replace d1 := below_cell hb5 d1
  replace d2 := below_cell hb5 d2
  replace x0 := below_cell hb5 x0
  replace x1 := below_cell hb5 x1
  replace x2 := below_cell hb5 x2
  replace x3 := below_cell hb5 x3
  replace x4 := below_cell hb5 x4
  replace HR := Lib.hid (HR.out.below hb5)
  replace HO := Lib.hid (HO.out.below hb5)
  replace HC := Lib.hid (HC.out.below hb5)
  replace HP := Lib.hid (HP.out.below hb5)
  replace HB := Lib.hid (HB.out.trans (hb5.mono HB.out.size))
  clear hb5
  with_reducible refine (HCH.out _).mono ?_
  rintro e w6 ⟨rfl, hb⟩
  replace p0 := below_cell hb p0
  replace p1 := below_cell hb p1
  replace d0 := below_cell hb d0
  replace d1 := below_cell hb d1
  replace d2 := below_cell hb d2
  replace x0 := below_cell hb x0
  replace x1 := below_cell hb x1
  replace x2 := below_cell hb x2
  replace x3 := below_cell hb x3
  replace x4 := below_cell hb x4
  replace u0 := below_cell hb u0
  replace u1 := below_cell hb u1
  replace u2 := below_cell hb u2
  replace HR := Lib.hid (HR.out.below hb)
  replace HO := Lib.hid (HO.out.below hb)
  replace HC := Lib.hid (HC.out.below hb)
  replace HP := Lib.hid (HP.out.below hb)
  replace HB := Lib.hid (HB.out.trans (hb.mono HB.out.size))
  clear hb
  cases hch : chkB key pt c3 c4 c5 with
  | false =>
    have HV := Lib.hid (HK1.out hch)
    clear hch HK1 HK2 HK4
    go_wp2_with fail
    go_ret2
    exact ⟨by rw [HV.out.1, HV.out.2]; rfl, HB.out⟩
  | true =>
  have HWE := Lib.hid (HK2.out hch)
  replace HK4 := Lib.hid (fun h => HK4.out h hch)
  clear hch HK1 HK2
  go_wp2_with fail
  with_reducible refine (HWI.out _).mono ?_
  rintro e w7 ⟨rfl, hb⟩
  replace p0 := below_cell hb p0
  replace p1 := below_cell hb p1
  replace d0 := below_cell hb d0
  replace d1 := below_cell hb d1
  replace d2 := below_cell hb d2
  replace x0 := below_cell hb x0
  replace x1 := below_cell hb x1
  replace x2 := below_cell hb x2
  replace x3 := below_cell hb x3
  replace x4 := below_cell hb x4
  replace u0 := below_cell hb u0
  replace u1 := below_cell hb u1
  replace u2 := below_cell hb u2
  replace HR := Lib.hid (HR.out.below hb)
  replace HO := Lib.hid (HO.out.below hb)
  replace HC := Lib.hid (HC.out.below hb)
  replace HP := Lib.hid (HP.out.below hb)
  replace HB := Lib.hid (HB.out.trans (hb.mono HB.out.size))
  clear hb
  obtain ⟨F, hF⟩ : ∃ x, x = withE c3 c1 n pt ci := ⟨_, rfl⟩
  obtain ⟨V, hV⟩ : ∃ x, x = withV c3 c1 n pt ci := ⟨_, rfl⟩
  have HVV : Hid (F = 0 → V = opnV c3 c1 n ci ∧ (0 ≤ V ∧ V < 1073741789)) := Lib.hid (fun h => by
    have e := hV.trans (withV_yes (hF ▸ h))
    exact ⟨e, by rw [e]; exact opnV_num _ _ _ _⟩)
  rw [← hF, ← hV]
  rw [← hF] at HWE
  clear hF hV HWI
  by_cases hF0 : F = 0
  rotate_left
  · have HV := Lib.hid (st_w HWE.out hF0)
    have z1 : (F != 0) = true := bne_iff_ne.2 hF0
    clear hF0
    go_wp2_with fail
    go_ret2
    exact ⟨by rw [HV.out.1, HV.out.2]; rfl, HB.out⟩
  subst hF0
  have hVN := (HVV.out rfl).2
  have HVO := Lib.hid (HVV.out rfl).1
  replace HK4 := Lib.hid (HK4.out HWE.out)
  have hV64 : R64 V := ⟨by omega, by omega⟩
  have hk64 : R64 (k : Int) := HC64.out.1
  replace HFB := Lib.hid (HFB.out V hVN)
  clear HVV HWE hVN
  go_wp2_with fail
  with_reducible refine (rFits36_any _ _ _ _ rows owners c1 cs ps (k : Int) V _ HR.out HO.out HC.out HP.out hk64 hV64).mono ?_
  rintro e w8 ⟨rfl, hb⟩
  replace p0 := below_cell hb p0
  replace p1 := below_cell hb p1
  replace d0 := below_cell hb d0
  replace d1 := below_cell hb d1
  replace d2 := below_cell hb d2
  replace x0 := below_cell hb x0
  replace x1 := below_cell hb x1
  replace x2 := below_cell hb x2
  replace x3 := below_cell hb x3
  replace x4 := below_cell hb x4
  replace u0 := below_cell hb u0
  replace u1 := below_cell hb u1
  replace u2 := below_cell hb u2
  replace HR := Lib.hid (HR.out.below hb)
  replace HO := Lib.hid (HO.out.below hb)
  replace HC := Lib.hid (HC.out.below hb)
  replace HP := Lib.hid (HP.out.below hb)
  replace HB := Lib.hid (HB.out.trans (hb.mono HB.out.size))
  clear hb
  rw [HFB.out]
  rw [HVO.out]
  have HVF := Lib.hid (HK4.out _ rfl)
  cases hf : fitV rows ⟨c1, cs, ps⟩ (k : Int) (opnV c3 c1 n ci) with
  | true =>
    rw [hf] at HVF
    clear hf
    go_wp2_with fail
    go_ret2
    exact ⟨by rw [HVF.out.1, HVF.out.2]; rfl, HB.out⟩
  | false =>
    rw [hf] at HVF
    clear hf
    go_wp2_with fail
    go_ret2
    exact ⟨by rw [HVF.out.1, HVF.out.2]; rfl, HB.out⟩

set_option maxRecDepth 100000 in
set_option maxHeartbeats 8000000 in
theorem complaintsSpec_any (rv ov cv pv : Value) (rows : List (List Int)) (owners : List Int) (s dl : Int) (cs : List Int) (ps : List Pcl) (row : Int) (w : World) (hR : Rows2 w rv rows) (hO : Ints w ov owners) (hs : R64 s) (_hd : R64 dl) (hC : Ints w cv cs) (hP : Parcels w pv ps) (hrow : R64 row) (hG : Glob w) :
    Calls Tryz.prog 3 #[.agg #[rv, ov], .int .i64 s, .agg #[.int .i64 dl, cv, pv], .int .i64 row] w fun r w' => r = .returned (.bool true) ∧ Below w.heap.size w w' := by
  obtain ⟨W1, hW1, hb1, hr1, hr2⟩ := box_pd w rv ov (.int .i64 dl) cv pv
  have HB := Lib.hid hb1
  have HR := Lib.hid (hR.below hb1)
  have HO := Lib.hid (hO.below hb1)
  have HC := Lib.hid (hC.below hb1)
  have HP := Lib.hid (hP.below hb1)
  have HG := Lib.hid (hG.below hb1)
  obtain ⟨a1, k1, rfl, -⟩ := id hR
  obtain ⟨a2, k2, rfl, -, hl2, -⟩ := id hO
  obtain ⟨a3, k3, rfl, -, hl3, -⟩ := id hC
  obtain ⟨a4, k4, rfl, -, hl4, -⟩ := id hP
  have p0 := row_cell hr1 (k := 0) (v := .slice a1 rows.length k1) rfl
  have p1 := row_cell hr1 (k := 1) (v := .slice a2 owners.length k2) rfl
  have d0 := row_cell hr2 (k := 0) (v := .int .i64 dl) rfl
  have d1 := row_cell hr2 (k := 1) (v := .slice a3 cs.length k3) rfl
  have d2 := row_cell hr2 (k := 2) (v := .slice a4 ps.length k4) rfl
  have HW := Lib.hid hW1
  have HN := Lib.hid (And.intro hs hrow)
  clear hR hO hC hP hG hr1 hr2 hW1 hb1 hs hrow
  go_enter Tryz.func3, Tryz.ntmps3
  go_wp2_with (rw [← HW.out])
  clear HW
  with_reducible refine (sane36_any _ HG.out).mono ?_
  rintro e w2 ⟨rfl, hb⟩
  replace p0 := below_cell hb p0
  replace p1 := below_cell hb p1
  replace d0 := below_cell hb d0
  replace d1 := below_cell hb d1
  replace d2 := below_cell hb d2
  replace HR := Lib.hid (HR.out.below hb)
  replace HO := Lib.hid (HO.out.below hb)
  replace HC := Lib.hid (HC.out.below hb)
  replace HP := Lib.hid (HP.out.below hb)
  replace HG := Lib.hid (HG.out.below hb)
  replace HB := Lib.hid (HB.out.trans (hb.mono HB.out.size))
  clear hb
  go_wp2_with fail
  with_reducible refine (rFew36_any _ _ _ _ rows owners dl cs ps _ HR.out HO.out HC.out HP.out).mono ?_
  rintro e w3 ⟨b, rfl, -, hb⟩
  replace p0 := below_cell hb p0
  replace p1 := below_cell hb p1
  replace d0 := below_cell hb d0
  replace d1 := below_cell hb d1
  replace d2 := below_cell hb d2
  replace HR := Lib.hid (HR.out.below hb)
  replace HO := Lib.hid (HO.out.below hb)
  replace HC := Lib.hid (HC.out.below hb)
  replace HP := Lib.hid (HP.out.below hb)
  replace HG := Lib.hid (HG.out.below hb)
  replace HB := Lib.hid (HB.out.trans (hb.mono HB.out.size))
  clear hb
  cases b with
  | false =>
    go_wp2_with fail
    go_ret
    exact ⟨rfl, HB.out⟩
  | true =>
  go_wp2_with fail
  with_reducible refine (cMake_any _ _ _ _ rows owners ⟨dl, cs, ps⟩ s row _ HG.out HR.out HO.out HC.out HP.out HN.out.1 HN.out.2).mono ?_
  rintro e w4 ⟨rfl, hb⟩
  replace p0 := below_cell hb p0
  replace p1 := below_cell hb p1
  replace d0 := below_cell hb d0
  replace d1 := below_cell hb d1
  replace d2 := below_cell hb d2
  replace HR := Lib.hid (HR.out.below hb)
  replace HO := Lib.hid (HO.out.below hb)
  replace HC := Lib.hid (HC.out.below hb)
  replace HP := Lib.hid (HP.out.below hb)
  replace HG := Lib.hid (HG.out.below hb)
  replace HB := Lib.hid (HB.out.trans (hb.mono HB.out.size))
  clear hb
  have HM := Lib.hid (fun W h1 h2 h3 h4 => rMake36_any (.slice a1 rows.length k1) (.slice a2 owners.length k2) (.slice a3 cs.length k3) (.slice a4 ps.length k4) rows owners dl cs ps s row W h1 h2 h3 h4 HN.out.1 HN.out.2)
  obtain ⟨C, hC⟩ : ∃ c, c = mkC rows owners s ⟨dl, cs, ps⟩ row := ⟨_, rfl⟩
  obtain ⟨b, hb'⟩ : ∃ b, b = mkB rows owners s ⟨dl, cs, ps⟩ row := ⟨_, rfl⟩
  obtain ⟨q, hq⟩ : ∃ q, q = mkE rows owners s ⟨dl, cs, ps⟩ row := ⟨_, rfl⟩
  rw [← hC, ← hb', ← hq] at HM ⊢
  clear hC hb' hq
  obtain ⟨c1, c2, c3, c4, c5⟩ := C
  unfold cmpV cmpA at HM ⊢
  obtain ⟨W5, hW5⟩ : ∃ W, W = w4.alloc (.cells #[.int .i64 c1, .int .i64 c2, .int .i64 c3, .int .i64 c4, .int .i64 c5] 34) := ⟨_, rfl⟩
  have hb5 : Below w4.heap.size w4 W5 := by rw [hW5]; exact below_new _ _ _
  have hr5 : W5.heap[w4.heap.size]? = some (.cells #[.int .i64 c1, .int .i64 c2, .int .i64 c3, .int .i64 c4, .int .i64 c5] 34 (0, 0)) := by rw [hW5]; exact World.alloc_heap_new _ _
  have HW5 := Lib.hid hW5
  have x0 := row_cell hr5 (k := 0) (v := .int .i64 c1) rfl
  have x1 := row_cell hr5 (k := 1) (v := .int .i64 c2) rfl
  have x2 := row_cell hr5 (k := 2) (v := .int .i64 c3) rfl
  have x3 := row_cell hr5 (k := 3) (v := .int .i64 c4) rfl
  have x4 := row_cell hr5 (k := 4) (v := .int .i64 c5) rfl
  clear hr5 hW5
  have p0' := below_cell hb5 p0
  have p1' := below_cell hb5 p1
  have d0' := below_cell hb5 d0
  have d1' := below_cell hb5 d1
  have d2' := below_cell hb5 d2
  have HB5 := Lib.hid hb5
  clear hb5
  go_wp2_with (rw [← HW5.out])
  have hb5 := HB5.out
  clear HW5 p0' p1' d0' d1' d2' HB5
  replace p0 := below_cell hb5 p0
  replace p1 := below_cell hb5 p1
  replace d0 := below_cell hb5 d0
  replace d1 := below_cell hb5 d1
  replace d2 := below_cell hb5 d2
  replace HR := Lib.hid (HR.out.below hb5)
  replace HO := Lib.hid (HO.out.below hb5)
  replace HC := Lib.hid (HC.out.below hb5)
  replace HP := Lib.hid (HP.out.below hb5)
  replace HG := Lib.hid (HG.out.below hb5)
  replace HB := Lib.hid (HB.out.trans (hb5.mono HB.out.size))
  clear hb5
  with_reducible refine (HM.out _ HR.out HO.out HC.out HP.out).mono ?_
  rintro e w6 ⟨rfl, hb⟩
  replace p0 := below_cell hb p0
  replace p1 := below_cell hb p1
  replace d0 := below_cell hb d0
  replace d1 := below_cell hb d1
  replace d2 := below_cell hb d2
  replace x0 := below_cell hb x0
  replace x1 := below_cell hb x1
  replace x2 := below_cell hb x2
  replace x3 := below_cell hb x3
  replace x4 := below_cell hb x4
  replace HR := Lib.hid (HR.out.below hb)
  replace HO := Lib.hid (HO.out.below hb)
  replace HC := Lib.hid (HC.out.below hb)
  replace HP := Lib.hid (HP.out.below hb)
  replace HG := Lib.hid (HG.out.below hb)
  replace HB := Lib.hid (HB.out.trans (hb.mono HB.out.size))
  clear hb
  have hb7 := below_new w6 #[.int .i64 c1, .int .i64 c2, .int .i64 c3, .int .i64 c4, .int .i64 c5] 34
  have hr7 := World.alloc_heap_new w6 (.cells #[.int .i64 c1, .int .i64 c2, .int .i64 c3, .int .i64 c4, .int .i64 c5] 34)
  obtain ⟨W7, hW7⟩ : ∃ W, W = w6.alloc (.cells #[.int .i64 c1, .int .i64 c2, .int .i64 c3, .int .i64 c4, .int .i64 c5] 34) := ⟨_, rfl⟩
  rw [← hW7] at hb7 hr7
  have HW7 := Lib.hid hW7
  have y0 := row_cell hr7 (k := 0) (v := .int .i64 c1) rfl
  have y1 := row_cell hr7 (k := 1) (v := .int .i64 c2) rfl
  have y2 := row_cell hr7 (k := 2) (v := .int .i64 c3) rfl
  have y3 := row_cell hr7 (k := 3) (v := .int .i64 c4) rfl
  have y4 := row_cell hr7 (k := 4) (v := .int .i64 c5) rfl
  clear hr7 hW7
  have x0' := below_cell hb7 x0
  have x1' := below_cell hb7 x1
  have x2' := below_cell hb7 x2
  have x3' := below_cell hb7 x3
  have x4' := below_cell hb7 x4
  have HB7 := Lib.hid (HB.out.trans (hb7.mono HB.out.size))
  clear hb7
  go_wp2_with (rw [← HW7.out])
  go_ret
  exact ⟨by simp, HB7.out⟩

set_option maxRecDepth 100000 in
set_option maxHeartbeats 8000000 in
theorem complaintsSettleSpec_any (rv ov cv pv : Value) (rows : List (List Int)) (owners : List Int) (key dl : Int) (cs : List Int) (ps : List Pcl) (c : Cmp) (w : World) (hR : Rows2 w rv rows) (hO : Ints w ov owners) (hkey : R64 key) (_hd : R64 dl) (hC : Ints w cv cs) (hP : Parcels w pv ps) (hc : CmpR c) (hG : Glob w) :
    Calls Tryz.prog 4 #[.agg #[rv, ov], .int .i64 key, .agg #[.int .i64 dl, cv, pv], cmpV c] w fun r w' => r = .returned (.bool true) ∧ Below w.heap.size w w' := by
  obtain ⟨W1, hW1, hb1, hr1, hr2⟩ := box_pd w rv ov (.int .i64 dl) cv pv
  have hs1 : W1.heap.size = w.heap.size + 1 + 1 := by rw [hW1]; simp
  have HCC := Lib.hid hc
  have HST := Lib.hid (fun W h0 h1 h2 h3 h4 => cSettle_any rv ov cv pv rows owners ⟨dl, cs, ps⟩ c key W h0 h1 h2 h3 h4 hkey hc)
  have HRS := Lib.hid (fun W h1 h2 h3 h4 => rSettle36_any rv ov cv pv rows owners dl cs ps c key W h1 h2 h3 h4 hkey hc)
  obtain ⟨g, hg⟩ : ∃ b, b = stG rows owners key ⟨dl, cs, ps⟩ c := ⟨_, rfl⟩
  obtain ⟨q, hq⟩ : ∃ q, q = stE rows owners key ⟨dl, cs, ps⟩ c := ⟨_, rfl⟩
  rw [← hg, ← hq] at HST HRS
  clear hg hq hc
  obtain ⟨c1, c2, c3, c4, c5⟩ := c
  unfold cmpV cmpA at HST HRS ⊢
  obtain ⟨W2, hW2⟩ : ∃ W, W = W1.alloc (.cells #[.int .i64 c1, .int .i64 c2, .int .i64 c3, .int .i64 c4, .int .i64 c5] 34) := ⟨_, rfl⟩
  have hb2 : Below W1.heap.size W1 W2 := by rw [hW2]; exact below_new _ _ _
  have hr3 : W2.heap[w.heap.size + 1 + 1]? = some (.cells #[.int .i64 c1, .int .i64 c2, .int .i64 c3, .int .i64 c4, .int .i64 c5] 34 (0, 0)) := by rw [hW2, ← hs1]; exact World.alloc_heap_new _ _
  have hbq := hb1.trans (hb2.mono hb1.size)
  have HB := Lib.hid hbq
  have HR := Lib.hid (hR.below hbq)
  have HO := Lib.hid (hO.below hbq)
  have HC := Lib.hid (hC.below hbq)
  have HP := Lib.hid (hP.below hbq)
  have HG := Lib.hid (hG.below hbq)
  obtain ⟨a1, k1, rfl, -⟩ := id hR
  obtain ⟨a2, k2, rfl, -, hl2, -⟩ := id hO
  obtain ⟨a3, k3, rfl, -, hl3, -⟩ := id hC
  obtain ⟨a4, k4, rfl, -, hl4, -⟩ := id hP
  have e1 := (hb2.block _ (row_lt hr1)).trans hr1
  have e2 := (hb2.block _ (row_lt hr2)).trans hr2
  have p0 := row_cell e1 (k := 0) (v := .slice a1 rows.length k1) rfl
  have p1 := row_cell e1 (k := 1) (v := .slice a2 owners.length k2) rfl
  have d0 := row_cell e2 (k := 0) (v := .int .i64 dl) rfl
  have d1 := row_cell e2 (k := 1) (v := .slice a3 cs.length k3) rfl
  have d2 := row_cell e2 (k := 2) (v := .slice a4 ps.length k4) rfl
  have x0 := row_cell hr3 (k := 0) (v := .int .i64 c1) rfl
  have x1 := row_cell hr3 (k := 1) (v := .int .i64 c2) rfl
  have x2 := row_cell hr3 (k := 2) (v := .int .i64 c3) rfl
  have x3 := row_cell hr3 (k := 3) (v := .int .i64 c4) rfl
  have x4 := row_cell hr3 (k := 4) (v := .int .i64 c5) rfl
  rw [hW1] at hW2
  have HW := Lib.hid hW2
  clear hR hO hC hP hG hr1 hr2 hr3 hW1 hW2 hb1 hb2 hbq e1 e2 hs1 hkey
  go_enter Tryz.func4, Tryz.ntmps4
  go_wp2_with (rw [← HW.out])
  clear HW
  with_reducible refine (sane36_any _ HG.out).mono ?_
  rintro e w2 ⟨rfl, hb⟩
  replace p0 := below_cell hb p0
  replace p1 := below_cell hb p1
  replace d0 := below_cell hb d0
  replace d1 := below_cell hb d1
  replace d2 := below_cell hb d2
  replace x0 := below_cell hb x0
  replace x1 := below_cell hb x1
  replace x2 := below_cell hb x2
  replace x3 := below_cell hb x3
  replace x4 := below_cell hb x4
  replace HR := Lib.hid (HR.out.below hb)
  replace HO := Lib.hid (HO.out.below hb)
  replace HC := Lib.hid (HC.out.below hb)
  replace HP := Lib.hid (HP.out.below hb)
  replace HG := Lib.hid (HG.out.below hb)
  replace HB := Lib.hid (HB.out.trans (hb.mono HB.out.size))
  clear hb
  go_wp2_with fail
  with_reducible refine (rFew36_any _ _ _ _ rows owners dl cs ps _ HR.out HO.out HC.out HP.out).mono ?_
  rintro e w3 ⟨b, rfl, -, hb⟩
  replace p0 := below_cell hb p0
  replace p1 := below_cell hb p1
  replace d0 := below_cell hb d0
  replace d1 := below_cell hb d1
  replace d2 := below_cell hb d2
  replace x0 := below_cell hb x0
  replace x1 := below_cell hb x1
  replace x2 := below_cell hb x2
  replace x3 := below_cell hb x3
  replace x4 := below_cell hb x4
  replace HR := Lib.hid (HR.out.below hb)
  replace HO := Lib.hid (HO.out.below hb)
  replace HC := Lib.hid (HC.out.below hb)
  replace HP := Lib.hid (HP.out.below hb)
  replace HG := Lib.hid (HG.out.below hb)
  replace HB := Lib.hid (HB.out.trans (hb.mono HB.out.size))
  clear hb
  cases b with
  | false =>
    go_wp2_with fail
    go_ret
    exact ⟨rfl, HB.out⟩
  | true =>
  go_wp2_with fail
  with_reducible refine (HST.out _ HG.out HR.out HO.out HC.out HP.out).mono ?_
  rintro e w4 ⟨rfl, hb⟩
  replace p0 := below_cell hb p0
  replace p1 := below_cell hb p1
  replace d0 := below_cell hb d0
  replace d1 := below_cell hb d1
  replace d2 := below_cell hb d2
  replace x0 := below_cell hb x0
  replace x1 := below_cell hb x1
  replace x2 := below_cell hb x2
  replace x3 := below_cell hb x3
  replace x4 := below_cell hb x4
  replace HR := Lib.hid (HR.out.below hb)
  replace HO := Lib.hid (HO.out.below hb)
  replace HC := Lib.hid (HC.out.below hb)
  replace HP := Lib.hid (HP.out.below hb)
  replace HG := Lib.hid (HG.out.below hb)
  replace HB := Lib.hid (HB.out.trans (hb.mono HB.out.size))
  clear hb
  go_wp2_with fail
  with_reducible refine (HRS.out _ HR.out HO.out HC.out HP.out).mono ?_
  rintro e w5 ⟨rfl, hb⟩
  replace p0 := below_cell hb p0
  replace p1 := below_cell hb p1
  replace d0 := below_cell hb d0
  replace d1 := below_cell hb d1
  replace d2 := below_cell hb d2
  replace x0 := below_cell hb x0
  replace x1 := below_cell hb x1
  replace x2 := below_cell hb x2
  replace x3 := below_cell hb x3
  replace x4 := below_cell hb x4
  replace HR := Lib.hid (HR.out.below hb)
  replace HO := Lib.hid (HO.out.below hb)
  replace HC := Lib.hid (HC.out.below hb)
  replace HP := Lib.hid (HP.out.below hb)
  replace HG := Lib.hid (HG.out.below hb)
  replace HB := Lib.hid (HB.out.trans (hb.mono HB.out.size))
  clear hb
  go_wp2_with fail
  go_ret
  exact ⟨by simp, HB.out⟩

end Go.Proofs.YtggnipkfliompaaGreatDoor

namespace Go.Proofs.YtggnipkfliompaaGreatDoor
open Go.ChangeShapes Go.WideShapes Go.ChangeAt Go.RowKit Go.Deep

set_option maxRecDepth 100000 in
theorem ownKnobP : ownKnob Tryz.prog.godebug = none := by kernel_rfl
set_option maxRecDepth 100000 in
theorem laidOutP : laidOutB Tryz.prog = true := by kernel_rfl
set_option maxRecDepth 100000 in
theorem cellsInt : Tryz.prog.cellsOf 3 = 1 := by kernel_rfl
set_option maxRecDepth 100000 in
theorem cellsRow : Tryz.prog.cellsOf 23 = 1 := by kernel_rfl
set_option maxRecDepth 100000 in
theorem bytesInt : Tryz.prog.bytesOf 3 = 8 := by kernel_rfl
set_option maxRecDepth 100000 in
theorem bytesRow : Tryz.prog.bytesOf 23 = 24 := by kernel_rfl
theorem reach_is : reachBytes = 140737488351232 := rfl

theorem wf_r64 {n : Int} (h : (Lit.int .i64 n).wf = true) : R64 n := by
  simp [Lit.wf, IntKind.min, IntKind.max, IntKind.signed, IntKind.bits] at h
  unfold R64; omega

/-- All weights of a datum are within the reach. -/
def Light {H : Type} (t : TypeId) (d : DataW H) : Prop := ∀ n ∈ d.weights Tryz.prog t, n ≤ reachBytes

set_option maxRecDepth 100000 in
theorem light_of {H : Type} {ts : List TypeId} {ds : List (DataW H)} (h : (DataW.weightsEach Tryz.prog ts ds).all (· ≤ reachBytes) = true) {j : Nat} {t : TypeId} {d : DataW H} (ht : ts[j]? = some t) (hd : ds[j]? = some d) : Light t d := fun n hn => by
  have := List.all_eq_true.1 h _ (DataW.weights_mem_each ht hd n hn)
  simpa using this

set_option maxRecDepth 100000 in
theorem weightsAll_mem {H : Type} {e : TypeId} {ds : List (DataW H)} {d : DataW H} (hd : d ∈ ds) {n : Nat} (hn : n ∈ d.weights Tryz.prog e) : n ∈ DataW.weightsAll Tryz.prog e ds := by
  induction ds with
  | nil => cases hd
  | cons a l ih =>
    simp only [DataW.weightsAll, List.mem_append]
    rcases List.mem_cons.1 hd with rfl | h
    · exact .inl hn
    · exact .inr (ih h)

section
variable {H : Type} {enc : TypeId × Value → H} {W : World}

set_option maxRecDepth 100000 in
/-- A list of integers as an argument. -/
theorem open_list {v : Value} {d : DataW H} {ps : List MemPlace} (hs : ∃ a n c, v = .slice a n c) (h : DataW.Trod enc Tryz.prog W 0 (fun _ => true) true 23 v d ps) (hl : Light 23 d) : ∃ zs, Ints W v zs := by
  obtain ⟨a0, len, cap, rfl⟩ := hs
  obtain ⟨fuel, hf⟩ := h
  rcases open_ints Tryz.underlying23 Tryz.underlying3 cellsInt hf with ⟨hcs, -⟩ | ⟨a, len', cap', zs, hcs, -, hle, hm, hz, hx, hcell, hwf⟩
  · simp [Value.cells] at hcs
    obtain ⟨rfl, rfl, rfl⟩ := hcs
    exact ⟨[], Ints.nil _ _ _⟩
  · simp [Value.cells] at hcs
    obtain ⟨rfl, rfl, rfl⟩ := hcs
    simp only [if_true] at hz
    simp only [Prod.mk.injEq] at hx
    have hlen : cap ≤ 17592186044416 := by
      have := hl ((zs.take len).length + (zs.drop len).length |>.mul 8) (by
        rw [hx.1]
        simp only [DataW.weights, Tryz.underlying23, bytesInt, lits, List.length_map]
        exact List.mem_cons_self ..)
      have h2 : ((zs.take len).length + (zs.drop len).length) * 8 ≤ reachBytes := this
      rw [reach_is] at h2
      simp at h2
      omega
    refine ⟨zs.take len, some a, cap, by simp [hz, hle], by simp; omega, by simp; omega, fun z hzz => wf_r64 (hwf z (List.mem_of_mem_take hzz)), fun k hk => ?_⟩
    simp at hk
    have hc := hcell k (by omega)
    obtain ⟨b, o, sp⟩ := a
    have hsp : sp = none := by
      have h0 := World.cell?_spot (hcell 0 (by omega))
      simpa [Addr.add] using h0
    subst hsp
    refine ⟨b, o, rfl, ?_⟩
    rw [← add_plain, hc]
    simp [List.getD, List.getElem?_eq_getElem (show k < zs.length by omega)]

set_option maxRecDepth 100000 in
theorem intRow_light {A : Option Addr} {L : Nat} {zs : List Int} (h : Light 23 (intRow (H := H) .i64 A L zs)) (hA : A ≠ none) : zs.length ≤ 17592186044416 := by
  cases A with
  | none => exact absurd rfl hA
  | some a =>
    have h2 : ((zs.take L).length + (zs.drop L).length) * 8 ≤ reachBytes := h _ (by
      simp only [intRow, DataW.weights, Tryz.underlying23, bytesInt, lits, List.length_map]
      exact List.mem_cons_self ..)
    rw [reach_is] at h2
    simp at h2
    omega

set_option maxRecDepth 100000 in
/-- Rows as an argument. -/
theorem open_rows {v : Value} {d : DataW H} {ps : List MemPlace} (hs : ∃ a n c, v = .slice a n c) (h : DataW.Trod enc Tryz.prog W 0 (fun _ => true) true 22 v d ps) (hl : Light 22 d) : ∃ rows, Rows2 W v rows := by
  obtain ⟨a0, len, cap, rfl⟩ := hs
  obtain ⟨fuel, hf⟩ := h
  rcases open_int_rows Tryz.underlying22 Tryz.underlying23 Tryz.underlying3 cellsRow cellsInt hf with ⟨hcs, -⟩ | ⟨a, len', cap', A, L, C, Z, hcs, -, hle, hm, hx, hrows⟩
  · simp [Value.cells] at hcs
    obtain ⟨rfl, rfl, rfl⟩ := hcs
    exact ⟨[], Rows2.nil _ _ _⟩
  · simp [Value.cells] at hcs
    obtain ⟨rfl, rfl, rfl⟩ := hcs
    simp only [Prod.mk.injEq] at hx
    have hlen : cap * 24 ≤ reachBytes := by
      have := hl ((len + (cap - len)) * 24) (by
        rw [hx.1]
        simp only [DataW.weights, Tryz.underlying22, bytesRow, List.length_map, List.length_range]
        exact List.mem_cons_self ..)
      rwa [show len + (cap - len) = cap by omega] at this
    rw [reach_is] at hlen
    have hrow : ∀ r, r < len → ∃ zs : List Int, Ints W (.slice (A r) (L r) (C r)) zs := fun r hr => by
      obtain ⟨h1, h2, h3, h4, h5, h6, h7⟩ := hrows r (by omega)
      cases hA : A r with
      | none =>
        have := h6 hA
        have hL : L r = 0 := by omega
        rw [hL]; exact ⟨[], Ints.nil _ _ _⟩
      | some a' =>
        obtain ⟨-, hcell⟩ := h7 a' hA
        have hlt : Light 23 (intRow (H := H) .i64 (A r) (L r) (Z r)) := fun n hn => hl n (by
          rw [hx.1]
          simp only [DataW.weights, Tryz.underlying22]
          refine List.mem_cons_of_mem _ (List.mem_append_left _ (weightsAll_mem (List.mem_map.2 ⟨r, List.mem_range.2 hr, rfl⟩) hn)))
        have hzl := intRow_light hlt (by rw [hA]; simp)
        refine ⟨(Z r).take (L r), some a', C r, by simp [h4, h2], by simp; omega, by simp; omega, fun z hzz => wf_r64 (h5 z (List.mem_of_mem_take hzz)), fun k hk => ?_⟩
        simp at hk
        obtain ⟨b, o, sp⟩ := a'
        have hsp : sp = none := by
          have h0 := World.cell?_spot (hcell 0 (by omega))
          simpa [Addr.add] using h0
        subst hsp
        refine ⟨b, o, rfl, ?_⟩
        rw [← add_plain, hcell k (by omega)]
        simp [List.getD, List.getElem?_eq_getElem (show k < (Z r).length by omega)]
    obtain ⟨f, hfz⟩ : ∃ f : Nat → List Int, ∀ r, r < len → Ints W (.slice (A r) (L r) (C r)) (f r) :=
      ⟨fun r => if hr : r < len then (hrow r hr).choose else [], fun r hr => by simp only [dif_pos hr]; exact (hrow r hr).choose_spec⟩
    refine ⟨(List.range len).map f, some a, cap, by simp, by simp [hle], by simp; omega, fun k hk => ?_⟩
    simp at hk
    obtain ⟨b, o, sp⟩ := a
    have hsp : sp = none := by
      have h0 := World.cell?_spot (hrows 0 (by omega)).1
      simpa [Addr.add] using h0
    subst hsp
    refine ⟨b, o, .slice (A k) (L k) (C k), rfl, ?_, ?_⟩
    · rw [← add_plain]; exact (hrows k (by omega)).1
    · simpa using hfz k hk

set_option maxRecDepth 100000 in
theorem trodAll_below {W' : World} (hb : Below W.heap.size W W') : ∀ {ts : List TypeId} {vs : List Value} {ds : List (DataW H)} {ps : List MemPlace}, (∀ t ∈ ts, Tryz.prog.readableRec t = true ∧ t < Tryz.prog.types.size) →
    DataW.TrodAll enc Tryz.prog W 0 (fun _ => true) true ts vs ds ps → (∀ x ∈ ps, x.block < W.heap.size) → DataW.TrodAll enc Tryz.prog W' 0 (fun b => decide (b < W.heap.size)) true ts vs ds ps
  | [], vs, ds, ps, _, h, _ => by
    obtain ⟨rfl, rfl, rfl⟩ := trodAll_nil h
    exact trodAll_mk0
  | t :: ts, vs, ds, ps, ht, h, hlt => by
    obtain ⟨v, vs', d, ds', p, q, rfl, rfl, rfl, h1, h2⟩ := trodAll_cons h
    exact trodAll_cons_mk (Below.trod laidOutP (ht t (by simp)).1 (ht t (by simp)).2 h1 hb (fun x hx => hlt x (List.mem_append_left _ hx)))
      (trodAll_below hb (fun t' ht' => ht t' (by simp [ht'])) h2 (fun x hx => hlt x (List.mem_append_right _ hx)))

set_option maxRecDepth 100000 in
/-- A law's post, where the call returned true and all that there was is as it was. -/
theorem law_post {f : Func} {s : ChangeSpec} {W' : World} {args : Array Value} {ds : List (DataW H)} {before : List MemPlace} {apart : Bool} (hvars : s.vars = []) (hres : f.resultTypes = #[4])
    (hts : (f.params.toList.all fun t => Tryz.prog.readableRec t && decide (t < Tryz.prog.types.size)) = true) (hA : DataW.TrodAll enc Tryz.prog W 0 (fun _ => true) true f.params.toList args.toList ds before)
    (hW : DataW.Whole enc Tryz.prog f.params.toList s.vars apart W args.toList ds [] before) (hb : Below W.heap.size W W') (hfn : s.fn H (ds ++ []) = { results := [.lit (.bool true)], args := ds }) :
    s.post enc Tryz.prog f apart true false false W args (.bool true) W' := by
  refine ⟨ds, [], before, [], before, [], hW, ?_, ?_, ?_, hb.frame _, fun h => by cases h⟩
  · rw [hfn, hres]; exact trodAll_mk1 (shut_bool Tryz.underlying4 true)
  · rw [hfn]; exact trodAll_below hb (fun t ht => by have := List.all_eq_true.1 hts t ht; simpa using this) hA (fun x hx => by simpa using hW.lt x hx)
  · rw [hfn, hvars]; rfl

end
end Go.Proofs.YtggnipkfliompaaGreatDoor
