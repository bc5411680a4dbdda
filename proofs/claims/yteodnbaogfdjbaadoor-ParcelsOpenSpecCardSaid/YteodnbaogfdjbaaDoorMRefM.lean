/- The reference of parcels: With, Open. The reference of parcels: Seal. ParcelsOpenSpec, ParcelsSpec: Open, With and Seal are the reference's. -/
import Derived.Test.YteodnbaogfdjbaaDoorMRefA
import Derived.Test.YteodnbaogfdjbaaDoorMParF
import Derived.Test.YteodnbaogfdjbaaDoorMRegG
namespace Go.Proofs.YteodnbaogfdjbaaDoor
open Go.RowKit

/-- What With and Open return. -/
def withV (d dealer row pt c : Int) : Int := if withE d dealer row pt c = 0 then opnV d dealer row c else 0
def openV (s dealer row pt c : Int) : Int := if openE s dealer row pt c = 0 then opnV (powE pt s) dealer row c else 0
theorem withV_no {d dealer row pt c : Int} (h : withE d dealer row pt c ≠ 0) : withV d dealer row pt c = 0 := if_neg h
theorem withV_yes {d dealer row pt c : Int} (h : withE d dealer row pt c = 0) : withV d dealer row pt c = opnV d dealer row c := if_pos h
theorem openV_no {s dealer row pt c : Int} (h : openE s dealer row pt c ≠ 0) : openV s dealer row pt c = 0 := if_neg h
theorem openV_yes {s dealer row pt c : Int} (h : openE s dealer row pt c = 0) : openV s dealer row pt c = opnV (powE pt s) dealer row c := if_pos h

structure FWi7 (w0 : World) (bb : Nat) (d : Int) (dealer : Int) (row : Int) (c : Int) (q1 : Int) (pd : Int) (q2 : Int) (q3 : Int) (done : Nat → Bool) (v : Nat → Value) (w : World) : Prop where
  b : Below w0.heap.size w0 w
  f0 : done 0 = true → v 0 = .pointer (some ⟨bb, 2, none⟩)
  f1 : done 1 = true → v 1 = .int .i64 c
  f2 : done 2 = true → v 2 = .int .i64 q1
  f3 : done 3 = true → v 3 = .int .i64 d
  f4 : done 4 = true → v 4 = .int .i64 dealer
  f5 : done 5 = true → v 5 = .pointer (some ⟨bb, 0, none⟩)
  f6 : done 6 = true → v 6 = .int .i64 row
  f7 : done 7 = true → v 7 = .int .i64 pd
  f8 : done 8 = true → v 8 = .int .i64 q2
  f9 : done 9 = true → v 9 = .int .i64 q3
  f10 : done 10 = true → v 10 = .int .i64 q3
  f11 : done 11 = true → v 11 = .int .i64 0


set_option maxRecDepth 100000 in
set_option maxHeartbeats 4000000 in
theorem rwith_any (d dealer row pt c : Int) (w : World) (hd : R64 d) (hl : R64 dealer) (hr : R64 row) (hp : R64 pt) :
    Calls Tryd.prog 17 #[.int .i64 d, .int .i64 dealer, .agg #[.int .i64 row, .int .i64 pt, .int .i64 c]] w fun r w' => r = .returned (.tuple #[.int .i64 (withV d dealer row pt c), .int .i64 (withE d dealer row pt c)]) ∧ Below w.heap.size w w' := by
  obtain ⟨hb, c0, c1, c2⟩ := cell_agg3 w row pt c 31
  obtain ⟨W1, hW1⟩ : ∃ W, W = w.alloc (.cells #[.int .i64 row, .int .i64 pt, .int .i64 c] 31) := ⟨_, rfl⟩
  rw [← hW1] at hb c0 c1 c2
  have HB := Lib.hid hb
  have HW1 := Lib.hid hW1
  have HPA := Lib.hid (rpad_any d dealer row)
  have HRR := Lib.hid (And.intro hd (And.intro hl hr))
  clear hb hW1
  go_enter Tryd.func17, Tryd.ntmps17
  go_wp2_with (rw [← HW1.out])
  with_reducible refine (rvalid_any d _ hd).mono ?_
  rintro e w2 ⟨rfl, rfl⟩
  cases e1 : elB d with
  | false =>
    have HV : Hid (withE d dealer row pt c = 100) := Lib.hid (by unfold withE; rw [e1]; rfl)
    clear e1
    go_wp2_with fail
    go_ret2
    exact ⟨by rw [withV_no (by rw [HV.out]; decide), HV.out]; rfl, HB.out⟩
  | true =>
  go_wp2_with fail
  with_reducible refine (person35_any dealer _).mono ?_
  rintro e w2 ⟨rfl, rfl⟩
  cases e2 : inB dealer 0 63 with
  | false =>
    have HV : Hid (withE d dealer row pt c = 1) := Lib.hid (by unfold withE; rw [e1, e2]; rfl)
    clear e1 e2
    go_wp2_with fail
    go_ret2
    exact ⟨by rw [withV_no (by rw [HV.out]; decide), HV.out]; rfl, HB.out⟩
  | true =>
  go_wp2_with fail
  with_reducible refine (right35_any row pt c _ hp).mono ?_
  rintro e w3 ⟨rfl, hb3⟩
  replace c0 := below_cell hb3 c0
  replace c1 := below_cell hb3 c1
  replace c2 := below_cell hb3 c2
  replace HB := Lib.hid (HB.out.trans (hb3.mono HB.out.size))
  clear hb3 HW1
  cases e3 : rightB row pt c with
  | false =>
    have HV : Hid (withE d dealer row pt c = 350) := Lib.hid (by unfold withE; rw [e1, e2, e3]; rfl)
    clear e1 e2 e3
    go_wp2_with fail
    go_ret2
    exact ⟨by rw [withV_no (by rw [HV.out]; decide), HV.out]; rfl, HB.out⟩
  | true =>
  have HV : Hid (withE d dealer row pt c = 0) := Lib.hid (by unfold withE; rw [e1, e2, e3]; rfl)
  have hcn : 0 ≤ c ∧ c ≤ 1073741788 := by
    unfold rightB at e3
    rw [Bool.and_eq_true, Bool.and_eq_true] at e3
    exact inB_iff.1 e3.2.2
  have hpn := padV_num d dealer row
  obtain ⟨pd, hpd⟩ : ∃ p, p = padV d dealer row := ⟨_, rfl⟩
  obtain ⟨q1, hq1⟩ : ∃ q, q = c + 1073741789 := ⟨_, rfl⟩
  obtain ⟨q2, hq2⟩ : ∃ q, q = q1 - pd := ⟨_, rfl⟩
  obtain ⟨q3, hq3⟩ : ∃ q, q = q2 % 1073741789 := ⟨_, rfl⟩
  rw [← hpd] at hpn HPA
  have HO : Hid (opnV d dealer row c = q3) := Lib.hid (by unfold opnV; rw [hq3, hq2, hq1, hpd]; congr 1; omega)
  have HPD := Lib.hid (fun W (h : Below w3.heap.size w3 W) => HPA.out W (fun z hz => by
    simp only [List.mem_cons, List.not_mem_nil, or_false] at hz
    rcases hz with rfl | rfl | rfl
    · exact HRR.out.1
    · exact HRR.out.2.1
    · exact HRR.out.2.2))
  have m1 : IntKind.i64.wrap (c + 1073741789) = q1 := by rw [hq1]; exact IntWalk.i64_in _ (by omega)
  have m2 : IntKind.i64.wrap (q1 - pd) = q2 := by rw [hq2]; exact IntWalk.i64_in _ (by omega)
  have m3 : q2.tmod 1073741789 = q3 := by rw [hq3]; exact Int.tmod_eq_emod_of_nonneg (by omega)
  clear e1 e2 e3 hcn hpn hpd hq1 hq2 hq3 HPA
  go_wp2_with fail
  refine wp_region_flowsG (by kernel_rfl) (by kernel_rfl) (by kernel_rfl) (by kernel_rfl) (fun done v W => FWi7 w3 (w.heap.size) (d) (dealer) (row) (c) (q1) (pd) (q2) (q3) done v W) (fun v => ?_) ?_ (fun v W h => ?_)
  · exact ⟨(Below.refl _ _).drew, (fun h => by cases h), (fun h => by cases h), (fun h => by cases h), (fun h => by cases h), (fun h => by cases h), (fun h => by cases h), (fun h => by cases h), (fun h => by cases h), (fun h => by cases h), (fun h => by cases h), (fun h => by cases h), (fun h => by cases h)⟩
  · refine ⟨?_, ?_, ?_, ?_, ?_, ?_, ?_, ?_, ?_, ?_, ?_, ?_, trivial⟩
    · intro done v W A h hd hp hu hA hB hdf
      have e0 : A.tmps[5]?.getD undef = .pointer (some ⟨w.heap.size, 0, none⟩) := hB 5 rfl
      clear hA hB hp hu hdf
      go_simp
      exact ⟨_, rfl, { h with f0 := (fun _ => rfl) }⟩
    · intro done v W A h hd hp hu hA hB hdf
      have hd0 : done 0 = true := hp 0 rfl
      have e0 := (hA 0 17 rfl hd0).trans (h.f0 hd0)
      have y0_ := below_cell h.b c2
      clear hA hB hp hu hdf
      go_simp
      exact ⟨_, rfl, { h with f1 := (fun _ => rfl) }⟩
    · intro done v W A h hd hp hu hA hB hdf
      have hd1 : done 1 = true := hp 1 rfl
      have e0 := (hA 1 18 rfl hd1).trans (h.f1 hd1)
      clear hA hB hp hu hdf
      go_simp
      exact ⟨_, rfl, { h with f2 := (fun _ => rfl) }⟩
    · intro done v W A h hd hp hu hA hB hdf
      have e0 : A.tmps[0]?.getD undef = .int .i64 d := hB 0 rfl
      clear hA hB hp hu hdf
      go_simp
      exact ⟨_, rfl, { h with f3 := (fun _ => rfl) }⟩
    · intro done v W A h hd hp hu hA hB hdf
      have e0 : A.tmps[1]?.getD undef = .int .i64 dealer := hB 1 rfl
      clear hA hB hp hu hdf
      go_simp
      exact ⟨_, rfl, { h with f4 := (fun _ => rfl) }⟩
    · intro done v W A h hd hp hu hA hB hdf
      have e0 : A.tmps[5]?.getD undef = .pointer (some ⟨w.heap.size, 0, none⟩) := hB 5 rfl
      clear hA hB hp hu hdf
      go_simp
      exact ⟨_, rfl, { h with f5 := (fun _ => rfl) }⟩
    · intro done v W A h hd hp hu hA hB hdf
      have hd5 : done 5 = true := hp 5 rfl
      have e0 := (hA 5 22 rfl hd5).trans (h.f5 hd5)
      have y0_ := below_cell h.b c0
      clear hA hB hp hu hdf
      go_simp
      exact ⟨_, rfl, { h with f6 := (fun _ => rfl) }⟩
    · intro done v W A h hd hp hu hA hB hdf
      have hd3 : done 3 = true := hp 3 rfl
      have hd4 : done 4 = true := hp 4 rfl
      have hd6 : done 6 = true := hp 6 rfl
      have e0 := (hA 3 20 rfl hd3).trans (h.f3 hd3)
      have e1 := (hA 4 21 rfl hd4).trans (h.f4 hd4)
      have e2 := (hA 6 23 rfl hd6).trans (h.f6 hd6)
      clear hA hB hp hu hdf
      go_simp
      with_reducible refine (HPD.out W h.b).mono ?_
      rintro e wq ⟨rfl, hb⟩
      exact ⟨_, rfl, { h with b := h.b.trans (hb.mono h.b.size), f7 := (fun _ => rfl) }⟩
    · intro done v W A h hd hp hu hA hB hdf
      have hd2 : done 2 = true := hp 2 rfl
      have hd7 : done 7 = true := hp 7 rfl
      have e0 := (hA 2 19 rfl hd2).trans (h.f2 hd2)
      have e1 := (hA 7 24 rfl hd7).trans (h.f7 hd7)
      clear hA hB hp hu hdf
      go_simp
      exact ⟨_, rfl, { h with f8 := (fun _ => rfl) }⟩
    · intro done v W A h hd hp hu hA hB hdf
      have hd8 : done 8 = true := hp 8 rfl
      have e0 := (hA 8 25 rfl hd8).trans (h.f8 hd8)
      clear hA hB hp hu hdf
      go_simp
      exact ⟨_, rfl, { h with f9 := (fun _ => rfl) }⟩
    · intro done v W A h hd hp hu hA hB hdf
      have hd9 : done 9 = true := hp 9 rfl
      have e0 := (hA 9 26 rfl hd9).trans (h.f9 hd9)
      clear hA hB hp hu hdf
      go_simp
      exact ⟨_, rfl, { h with f10 := (fun _ => rfl) }⟩
    · intro done v W A h hd hp hu hA hB hdf
      clear hA hB hp hu hdf
      go_simp
      exact ⟨_, rfl, { h with f11 := (fun _ => rfl) }⟩
  simp only [putL, Act.put, Nat.reduceAdd, List.setIfInBounds_toArray, List.set_cons_zero, List.set_cons_succ]
  rw [h.f10 rfl]
  rw [h.f11 rfl]
  have hbr := h.b
  replace HB := Lib.hid (HB.out.trans (hbr.mono HB.out.size))
  clear h hbr HPD
  go_wp2_with fail
  go_ret2
  exact ⟨by rw [withV_yes HV.out, HV.out, HO.out]; rfl, HB.out⟩

set_option maxRecDepth 100000 in
set_option maxHeartbeats 4000000 in
theorem ropen_any (s dealer row pt c : Int) (w : World) (hs : R64 s) (hl : R64 dealer) (hr : R64 row) (hp : R64 pt) :
    Calls Tryd.prog 15 #[.int .i64 s, .int .i64 dealer, .agg #[.int .i64 row, .int .i64 pt, .int .i64 c]] w fun r w' => r = .returned (.tuple #[.int .i64 (openV s dealer row pt c), .int .i64 (openE s dealer row pt c)]) ∧ Below w.heap.size w w' := by
  obtain ⟨hb, c0, c1, c2⟩ := cell_agg3 w row pt c 31
  obtain ⟨W1, hW1⟩ : ∃ W, W = w.alloc (.cells #[.int .i64 row, .int .i64 pt, .int .i64 c] 31) := ⟨_, rfl⟩
  rw [← hW1] at hb c0 c1 c2
  have HB := Lib.hid hb
  have HW1 := Lib.hid hW1
  clear hb hW1
  go_enter Tryd.func15, Tryd.ntmps15
  go_wp2_with (rw [← HW1.out])
  with_reducible refine (secret35_any s _).mono ?_
  rintro e w2 ⟨rfl, rfl⟩
  cases e1 : inB s 1 1073741788 with
  | false =>
    have HV : Hid (openE s dealer row pt c = 110) := Lib.hid (by unfold openE; rw [e1]; rfl)
    clear e1
    go_wp2_with fail
    go_ret2
    exact ⟨by rw [openV_no (by rw [HV.out]; decide), HV.out]; rfl, HB.out⟩
  | true =>
  go_wp2_with fail
  with_reducible refine (person35_any dealer _).mono ?_
  rintro e w2 ⟨rfl, rfl⟩
  cases e2 : inB dealer 0 63 with
  | false =>
    have HV : Hid (openE s dealer row pt c = 1) := Lib.hid (by unfold openE; rw [e1, e2]; rfl)
    clear e1 e2
    go_wp2_with fail
    go_ret2
    exact ⟨by rw [openV_no (by rw [HV.out]; decide), HV.out]; rfl, HB.out⟩
  | true =>
  go_wp2_with fail
  with_reducible refine (right35_any row pt c _ hp).mono ?_
  rintro e w3 ⟨rfl, hb3⟩
  replace c0 := below_cell hb3 c0
  replace c1 := below_cell hb3 c1
  replace c2 := below_cell hb3 c2
  replace HB := Lib.hid (HB.out.trans (hb3.mono HB.out.size))
  clear hb3 HW1
  cases e3 : rightB row pt c with
  | false =>
    have HV : Hid (openE s dealer row pt c = 350) := Lib.hid (by unfold openE; rw [e1, e2, e3]; rfl)
    clear e1 e2 e3
    go_wp2_with fail
    go_ret2
    exact ⟨by rw [openV_no (by rw [HV.out]; decide), HV.out]; rfl, HB.out⟩
  | true =>
  have HV : Hid (openE s dealer row pt c = 0) := Lib.hid (by unfold openE; rw [e1, e2, e3]; rfl)
  have hel : El pt := by
    unfold rightB at e3
    rw [Bool.and_eq_true, Bool.and_eq_true] at e3
    exact elB_iff.1 e3.2.1
  have HE := Lib.hid (el_powE hel s)
  have HW0 : Hid (withE (powE pt s) dealer row pt c = 0) := Lib.hid (by unfold withE; rw [elB_iff.2 (el_powE hel s), e2, e3]; rfl)
  clear e1 e2 e3
  obtain ⟨d, hd⟩ : ∃ d, d = powE pt s := ⟨_, rfl⟩
  have HPW := Lib.hid (fun W => rpow_yes pt s W hel hs)
  rw [← hd] at HE HW0 HPW
  have HDD := Lib.hid hd
  clear hd hel
  go_wp2_with fail
  with_reducible refine (HPW.out _).mono ?_
  rintro e w4 ⟨rfl, rfl⟩
  go_wp2_with fail
  with_reducible refine (rwith_any d dealer row pt c _ HE.out.r64 hl hr hp).mono ?_
  rintro e w5 ⟨rfl, hb5⟩
  rw [withV_yes HW0.out, HW0.out]
  go_wp2_with fail
  go_ret2
  exact ⟨by rw [openV_yes HV.out, HV.out, ← HDD.out]; rfl, HB.out.trans (hb5.mono HB.out.size)⟩

end Go.Proofs.YteodnbaogfdjbaaDoor

namespace Go.Proofs.YteodnbaogfdjbaaDoor
open Go.RowKit

/-- What Seal returns. -/
def sealA (u key dealer row value : Int) : Array Value := if sealE u key dealer row value = 0 then #[.int .i64 row, .int .i64 (powE 4 u), .int .i64 (cipV u key dealer row value)] else #[.int .i64 0, .int .i64 0, .int .i64 0]
theorem sealA_no {u key dealer row value : Int} (h : sealE u key dealer row value ≠ 0) : sealA u key dealer row value = #[.int .i64 0, .int .i64 0, .int .i64 0] := if_neg h
theorem sealA_yes {u key dealer row value : Int} (h : sealE u key dealer row value = 0) : sealA u key dealer row value = #[.int .i64 row, .int .i64 (powE 4 u), .int .i64 (cipV u key dealer row value)] := if_pos h

set_option maxRecDepth 100000 in
set_option maxHeartbeats 8000000 in
theorem rseal_any (u key dealer row value : Int) (w : World) (hu : R64 u) (hk : R64 key) (hl : R64 dealer) (hr : R64 row) :
    Calls Tryd.prog 13 #[.int .i64 u, .int .i64 key, .int .i64 dealer, .int .i64 row, .int .i64 value] w fun r w' => r = .returned (.tuple #[.agg (sealA u key dealer row value), .int .i64 (sealE u key dealer row value)]) ∧ Below w.heap.size w w' := by
  obtain ⟨W1, hW1⟩ : ∃ W, W = w.alloc (.cells #[.int .i64 0, .int .i64 0, .int .i64 0] 31) := ⟨_, rfl⟩
  have hb1 : Below w.heap.size w W1 := by rw [hW1]; exact below_new _ _ _
  have hr1 : W1.heap[w.heap.size]? = some (.cells #[.int .i64 0, .int .i64 0, .int .i64 0] 31 (0, 0)) := by rw [hW1]; exact World.alloc_heap_new _ _
  have HB := Lib.hid hb1
  have Q := Lib.hid hr1
  have HW1 := Lib.hid hW1
  have HRR := Lib.hid (And.intro hu (And.intro hk (And.intro hl hr)))
  clear hb1 hr1 hW1
  go_enter Tryd.func13, Tryd.ntmps13
  go_wp2_with (rw [← HW1.out])
  with_reducible refine (secret35_any u _).mono ?_
  rintro e w2 ⟨rfl, rfl⟩
  clear HW1
  cases e1 : inB u 1 1073741788 with
  | false =>
    have HV : Hid (sealE u key dealer row value = 110) := Lib.hid (by unfold sealE; rw [e1]; rfl)
    clear e1
    have z0 := row_cell Q.out (k := 0) (v := .int .i64 0) rfl
    have f0 := row_free Q.out 0
    have z1 := row_cell Q.out (k := 1) (v := .int .i64 0) rfl
    have f1 := row_free Q.out 1
    have z2 := row_cell Q.out (k := 2) (v := .int .i64 0) rfl
    have f2 := row_free Q.out 2
    obtain ⟨Wf, hWf⟩ : ∃ W, W = (((W1.setCell ⟨w.heap.size, 0, none⟩ (.int .i64 0)).setCell ⟨w.heap.size, 1, none⟩ (.int .i64 0)).setCell ⟨w.heap.size, 2, none⟩ (.int .i64 0)) := ⟨_, rfl⟩
    have qf : Wf.heap[w.heap.size]? = some (.cells #[.int .i64 0, .int .i64 0, .int .i64 0] 31 (0, 0)) := by rw [hWf]; exact (row_set (row_set (row_set Q.out 0 (.int .i64 0)) 1 (.int .i64 0)) 2 (.int .i64 0))
    have HBF : Hid (Below w.heap.size w Wf) := Lib.hid (by rw [hWf]; exact (((HB.out.setCell (Nat.le_refl _) _).setCell (Nat.le_refl _) _).setCell (Nat.le_refl _) _))
    have y0 := row_cell qf (k := 0) (v := .int .i64 0) rfl
    have y1 := row_cell qf (k := 1) (v := .int .i64 0) rfl
    have y2 := row_cell qf (k := 2) (v := .int .i64 0) rfl
    have HWf := Lib.hid hWf
    clear hWf qf
    go_wp2_with (rw [← HWf.out])
    refine bodyPost_ret (v := .tuple #[.agg #[.int .i64 0, .int .i64 0, .int .i64 0], .int .i64 110]) (by simp [results, Tryd.results13, go_sem, y0, y1, y2]) rfl ?_
    exact ⟨by rw [sealA_no (by rw [HV.out]; decide), HV.out], HBF.out⟩
  | true =>
  go_wp2_with fail
  with_reducible refine (rvalid_any key _ HRR.out.2.1).mono ?_
  rintro e w2 ⟨rfl, rfl⟩
  cases e2 : elB key with
  | false =>
    have HV : Hid (sealE u key dealer row value = 100) := Lib.hid (by unfold sealE; rw [e1, e2]; rfl)
    clear e1 e2
    have z0 := row_cell Q.out (k := 0) (v := .int .i64 0) rfl
    have f0 := row_free Q.out 0
    have z1 := row_cell Q.out (k := 1) (v := .int .i64 0) rfl
    have f1 := row_free Q.out 1
    have z2 := row_cell Q.out (k := 2) (v := .int .i64 0) rfl
    have f2 := row_free Q.out 2
    obtain ⟨Wf, hWf⟩ : ∃ W, W = (((W1.setCell ⟨w.heap.size, 0, none⟩ (.int .i64 0)).setCell ⟨w.heap.size, 1, none⟩ (.int .i64 0)).setCell ⟨w.heap.size, 2, none⟩ (.int .i64 0)) := ⟨_, rfl⟩
    have qf : Wf.heap[w.heap.size]? = some (.cells #[.int .i64 0, .int .i64 0, .int .i64 0] 31 (0, 0)) := by rw [hWf]; exact (row_set (row_set (row_set Q.out 0 (.int .i64 0)) 1 (.int .i64 0)) 2 (.int .i64 0))
    have HBF : Hid (Below w.heap.size w Wf) := Lib.hid (by rw [hWf]; exact (((HB.out.setCell (Nat.le_refl _) _).setCell (Nat.le_refl _) _).setCell (Nat.le_refl _) _))
    have y0 := row_cell qf (k := 0) (v := .int .i64 0) rfl
    have y1 := row_cell qf (k := 1) (v := .int .i64 0) rfl
    have y2 := row_cell qf (k := 2) (v := .int .i64 0) rfl
    have HWf := Lib.hid hWf
    clear hWf qf
    go_wp2_with (rw [← HWf.out])
    refine bodyPost_ret (v := .tuple #[.agg #[.int .i64 0, .int .i64 0, .int .i64 0], .int .i64 100]) (by simp [results, Tryd.results13, go_sem, y0, y1, y2]) rfl ?_
    exact ⟨by rw [sealA_no (by rw [HV.out]; decide), HV.out], HBF.out⟩
  | true =>
  go_wp2_with fail
  with_reducible refine (person35_any dealer _).mono ?_
  rintro e w2 ⟨rfl, rfl⟩
  cases e3 : inB dealer 0 63 with
  | false =>
    have HV : Hid (sealE u key dealer row value = 1) := Lib.hid (by unfold sealE; rw [e1, e2, e3]; rfl)
    clear e1 e2 e3
    have z0 := row_cell Q.out (k := 0) (v := .int .i64 0) rfl
    have f0 := row_free Q.out 0
    have z1 := row_cell Q.out (k := 1) (v := .int .i64 0) rfl
    have f1 := row_free Q.out 1
    have z2 := row_cell Q.out (k := 2) (v := .int .i64 0) rfl
    have f2 := row_free Q.out 2
    obtain ⟨Wf, hWf⟩ : ∃ W, W = (((W1.setCell ⟨w.heap.size, 0, none⟩ (.int .i64 0)).setCell ⟨w.heap.size, 1, none⟩ (.int .i64 0)).setCell ⟨w.heap.size, 2, none⟩ (.int .i64 0)) := ⟨_, rfl⟩
    have qf : Wf.heap[w.heap.size]? = some (.cells #[.int .i64 0, .int .i64 0, .int .i64 0] 31 (0, 0)) := by rw [hWf]; exact (row_set (row_set (row_set Q.out 0 (.int .i64 0)) 1 (.int .i64 0)) 2 (.int .i64 0))
    have HBF : Hid (Below w.heap.size w Wf) := Lib.hid (by rw [hWf]; exact (((HB.out.setCell (Nat.le_refl _) _).setCell (Nat.le_refl _) _).setCell (Nat.le_refl _) _))
    have y0 := row_cell qf (k := 0) (v := .int .i64 0) rfl
    have y1 := row_cell qf (k := 1) (v := .int .i64 0) rfl
    have y2 := row_cell qf (k := 2) (v := .int .i64 0) rfl
    have HWf := Lib.hid hWf
    clear hWf qf
    go_wp2_with (rw [← HWf.out])
    refine bodyPost_ret (v := .tuple #[.agg #[.int .i64 0, .int .i64 0, .int .i64 0], .int .i64 1]) (by simp [results, Tryd.results13, go_sem, y0, y1, y2]) rfl ?_
    exact ⟨by rw [sealA_no (by rw [HV.out]; decide), HV.out], HBF.out⟩
  | true =>
  go_wp2_with fail
  with_reducible refine (row35_any row _).mono ?_
  rintro e w2 ⟨rfl, rfl⟩
  cases e4 : inB row 0 63 with
  | false =>
    have HV : Hid (sealE u key dealer row value = 1) := Lib.hid (by unfold sealE; rw [e1, e2, e3, e4]; rfl)
    clear e1 e2 e3 e4
    have z0 := row_cell Q.out (k := 0) (v := .int .i64 0) rfl
    have f0 := row_free Q.out 0
    have z1 := row_cell Q.out (k := 1) (v := .int .i64 0) rfl
    have f1 := row_free Q.out 1
    have z2 := row_cell Q.out (k := 2) (v := .int .i64 0) rfl
    have f2 := row_free Q.out 2
    obtain ⟨Wf, hWf⟩ : ∃ W, W = (((W1.setCell ⟨w.heap.size, 0, none⟩ (.int .i64 0)).setCell ⟨w.heap.size, 1, none⟩ (.int .i64 0)).setCell ⟨w.heap.size, 2, none⟩ (.int .i64 0)) := ⟨_, rfl⟩
    have qf : Wf.heap[w.heap.size]? = some (.cells #[.int .i64 0, .int .i64 0, .int .i64 0] 31 (0, 0)) := by rw [hWf]; exact (row_set (row_set (row_set Q.out 0 (.int .i64 0)) 1 (.int .i64 0)) 2 (.int .i64 0))
    have HBF : Hid (Below w.heap.size w Wf) := Lib.hid (by rw [hWf]; exact (((HB.out.setCell (Nat.le_refl _) _).setCell (Nat.le_refl _) _).setCell (Nat.le_refl _) _))
    have y0 := row_cell qf (k := 0) (v := .int .i64 0) rfl
    have y1 := row_cell qf (k := 1) (v := .int .i64 0) rfl
    have y2 := row_cell qf (k := 2) (v := .int .i64 0) rfl
    have HWf := Lib.hid hWf
    clear hWf qf
    go_wp2_with (rw [← HWf.out])
    refine bodyPost_ret (v := .tuple #[.agg #[.int .i64 0, .int .i64 0, .int .i64 0], .int .i64 1]) (by simp [results, Tryd.results13, go_sem, y0, y1, y2]) rfl ?_
    exact ⟨by rw [sealA_no (by rw [HV.out]; decide), HV.out], HBF.out⟩
  | true =>
  go_wp2_with fail
  with_reducible refine (number35_any value _).mono ?_
  rintro e w2 ⟨rfl, rfl⟩
  cases e5 : inB value 0 1073741788 with
  | false =>
    have HV : Hid (sealE u key dealer row value = 350) := Lib.hid (by unfold sealE; rw [e1, e2, e3, e4, e5]; rfl)
    clear e1 e2 e3 e4 e5
    have z0 := row_cell Q.out (k := 0) (v := .int .i64 0) rfl
    have f0 := row_free Q.out 0
    have z1 := row_cell Q.out (k := 1) (v := .int .i64 0) rfl
    have f1 := row_free Q.out 1
    have z2 := row_cell Q.out (k := 2) (v := .int .i64 0) rfl
    have f2 := row_free Q.out 2
    obtain ⟨Wf, hWf⟩ : ∃ W, W = (((W1.setCell ⟨w.heap.size, 0, none⟩ (.int .i64 0)).setCell ⟨w.heap.size, 1, none⟩ (.int .i64 0)).setCell ⟨w.heap.size, 2, none⟩ (.int .i64 0)) := ⟨_, rfl⟩
    have qf : Wf.heap[w.heap.size]? = some (.cells #[.int .i64 0, .int .i64 0, .int .i64 0] 31 (0, 0)) := by rw [hWf]; exact (row_set (row_set (row_set Q.out 0 (.int .i64 0)) 1 (.int .i64 0)) 2 (.int .i64 0))
    have HBF : Hid (Below w.heap.size w Wf) := Lib.hid (by rw [hWf]; exact (((HB.out.setCell (Nat.le_refl _) _).setCell (Nat.le_refl _) _).setCell (Nat.le_refl _) _))
    have y0 := row_cell qf (k := 0) (v := .int .i64 0) rfl
    have y1 := row_cell qf (k := 1) (v := .int .i64 0) rfl
    have y2 := row_cell qf (k := 2) (v := .int .i64 0) rfl
    have HWf := Lib.hid hWf
    clear hWf qf
    go_wp2_with (rw [← HWf.out])
    refine bodyPost_ret (v := .tuple #[.agg #[.int .i64 0, .int .i64 0, .int .i64 0], .int .i64 350]) (by simp [results, Tryd.results13, go_sem, y0, y1, y2]) rfl ?_
    exact ⟨by rw [sealA_no (by rw [HV.out]; decide), HV.out], HBF.out⟩
  | true =>
  have HV : Hid (sealE u key dealer row value = 0) := Lib.hid (by unfold sealE; rw [e1, e2, e3, e4, e5]; rfl)
  have hel := elB_iff.1 e2
  have hvn := inB_iff.1 e5
  have HPU := Lib.hid (fun W => rpow_yes 4 u W el_four HRR.out.1)
  have HPK := Lib.hid (fun W => rpow_yes key u W hel HRR.out.1)
  have HD := Lib.hid (el_powE hel u).r64
  have hpn := padV_num (powE key u) dealer row
  have HPA := Lib.hid (rpad_any (powE key u) dealer row)
  obtain ⟨pt, hpt⟩ : ∃ p, p = powE 4 u := ⟨_, rfl⟩
  obtain ⟨d, hd⟩ : ∃ p, p = powE key u := ⟨_, rfl⟩
  rw [← hpt] at HPU
  rw [← hd] at HPK HD hpn HPA
  obtain ⟨pd, hpd⟩ : ∃ p, p = padV d dealer row := ⟨_, rfl⟩
  rw [← hpd] at hpn HPA
  obtain ⟨q1, hq1⟩ : ∃ q, q = value + pd := ⟨_, rfl⟩
  obtain ⟨q2, hq2⟩ : ∃ q, q = q1 % 1073741789 := ⟨_, rfl⟩
  have HO : Hid (sealA u key dealer row value = #[.int .i64 row, .int .i64 pt, .int .i64 q2]) := Lib.hid (by
    rw [sealA_yes HV.out, hpt, hq2, hq1, hpd, hd]; rfl)
  have m1 : IntKind.i64.wrap (value + pd) = q1 := by rw [hq1]; exact IntWalk.i64_in _ (by omega)
  have m2 : q1.tmod 1073741789 = q2 := by rw [hq2]; exact Int.tmod_eq_emod_of_nonneg (by omega)
  clear e1 e2 e3 e4 e5 hel hvn hpn hpt hd hpd hq1 hq2
  go_wp2_with fail
  with_reducible refine (HPU.out _).mono ?_
  rintro e w3 ⟨rfl, rfl⟩
  go_wp2_with fail
  with_reducible refine (HPK.out _).mono ?_
  rintro e w4 ⟨rfl, rfl⟩
  go_wp2_with fail
  with_reducible refine (HPA.out _ (fun z hz => by
    simp only [List.mem_cons, List.not_mem_nil, or_false] at hz
    rcases hz with rfl | rfl | rfl
    · exact HD.out
    · exact HRR.out.2.2.1
    · exact HRR.out.2.2.2)).mono ?_
  rintro e w5 ⟨rfl, hb5⟩
  replace Q := Lib.hid ((hb5.block _ (row_lt Q.out)).trans Q.out)
  replace HB := Lib.hid (HB.out.trans (hb5.mono HB.out.size))
  clear hb5
  have z0 := row_cell Q.out (k := 0) (v := .int .i64 0) rfl
  have f0 := row_free Q.out 0
  have z1 := row_cell Q.out (k := 1) (v := .int .i64 0) rfl
  have f1 := row_free Q.out 1
  have z2 := row_cell Q.out (k := 2) (v := .int .i64 0) rfl
  have f2 := row_free Q.out 2
  obtain ⟨Wf, hWf⟩ : ∃ W, W = (((w5.setCell ⟨w.heap.size, 0, none⟩ (.int .i64 row)).setCell ⟨w.heap.size, 1, none⟩ (.int .i64 pt)).setCell ⟨w.heap.size, 2, none⟩ (.int .i64 q2)) := ⟨_, rfl⟩
  have qf : Wf.heap[w.heap.size]? = some (.cells #[.int .i64 row, .int .i64 pt, .int .i64 q2] 31 (0, 0)) := by rw [hWf]; exact (row_set (row_set (row_set Q.out 0 (.int .i64 row)) 1 (.int .i64 pt)) 2 (.int .i64 q2))
  have HBF : Hid (Below w.heap.size w Wf) := Lib.hid (by rw [hWf]; exact (((HB.out.setCell (Nat.le_refl _) _).setCell (Nat.le_refl _) _).setCell (Nat.le_refl _) _))
  have y0 := row_cell qf (k := 0) (v := .int .i64 row) rfl
  have y1 := row_cell qf (k := 1) (v := .int .i64 pt) rfl
  have y2 := row_cell qf (k := 2) (v := .int .i64 q2) rfl
  have HWf := Lib.hid hWf
  clear hWf qf
  go_wp2_with (rw [← HWf.out])
  refine bodyPost_ret (v := .tuple #[.agg #[.int .i64 row, .int .i64 pt, .int .i64 q2], .int .i64 0]) (by simp [results, Tryd.results13, go_sem, y0, y1, y2]) rfl ?_
  exact ⟨by rw [HO.out, HV.out], HBF.out⟩

end Go.Proofs.YteodnbaogfdjbaaDoor

namespace Go.Proofs.YteodnbaogfdjbaaDoor
open Go.RowKit FP

set_option maxRecDepth 100000 in
theorem with_all (d dealer row pt c : Int) (w : World) (hd : R64 d) (hp : R64 pt) (hG : Glob w) :
    Calls Tryd.prog 16 #[.int .i64 d, .int .i64 dealer, .agg #[.int .i64 row, .int .i64 pt, .int .i64 c]] w fun r w' => r = .returned (.tuple #[.int .i64 (withV d dealer row pt c), .int .i64 (withE d dealer row pt c)]) ∧ Below w.heap.size w w' := by
  by_cases h : withE d dealer row pt c = 0
  · obtain ⟨h1, h2, h3⟩ := withE_ok.1 h
    rw [withV_yes h, h]
    exact with_yes d dealer row pt c w h1 h2 h3 hG
  · rw [withV_no h]
    exact with_no d dealer row pt c w hd hp h
set_option maxRecDepth 100000 in
theorem open_all (s dealer row pt c : Int) (w : World) (hp : R64 pt) (hG : Glob w) :
    Calls Tryd.prog 14 #[.int .i64 s, .int .i64 dealer, .agg #[.int .i64 row, .int .i64 pt, .int .i64 c]] w fun r w' => r = .returned (.tuple #[.int .i64 (openV s dealer row pt c), .int .i64 (openE s dealer row pt c)]) ∧ Below w.heap.size w w' := by
  by_cases h : openE s dealer row pt c = 0
  · obtain ⟨h1, h2, h3⟩ := openE_ok.1 h
    rw [openV_yes h, h]
    exact open_yes s dealer row pt c w h1 h2 h3 hG
  · rw [openV_no h]
    exact open_no s dealer row pt c w hp h
set_option maxRecDepth 100000 in
theorem seal_all (u key dealer row value : Int) (w : World) (hk : R64 key) (hG : Glob w) :
    Calls Tryd.prog 12 #[.int .i64 u, .int .i64 key, .int .i64 dealer, .int .i64 row, .int .i64 value] w fun r w' => r = .returned (.tuple #[.agg (sealA u key dealer row value), .int .i64 (sealE u key dealer row value)]) ∧ Below w.heap.size w w' := by
  by_cases h : sealE u key dealer row value = 0
  · rw [sealA_yes h, h]
    exact seal_yes u key dealer row value w (sealE_ok.1 h) hG
  · rw [sealA_no h]
    exact seal_no u key dealer row value w hk h
theorem sealA_three (u key dealer row value : Int) : ∃ x y z : Int, sealA u key dealer row value = #[.int .i64 x, .int .i64 y, .int .i64 z] := by
  by_cases h : sealE u key dealer row value = 0
  · exact ⟨_, _, _, sealA_yes h⟩
  · exact ⟨_, _, _, sealA_no h⟩

set_option maxRecDepth 100000 in
set_option maxHeartbeats 4000000 in
theorem sealSpec_any (u key dealer row value : Int) (w : World) (hu : R64 u) (hk : R64 key) (hl : R64 dealer) (hr : R64 row) (_hv : R64 value) (hG : Glob w) :
    Calls Tryd.prog 4 #[.int .i64 u, .int .i64 key, .int .i64 dealer, .int .i64 row, .int .i64 value] w fun r w' => r = .returned (.bool true) ∧ Below w.heap.size w w' := by
  have HS := Lib.hid (fun w hG => seal_all u key dealer row value w hk hG)
  have HR := Lib.hid (fun w => rseal_any u key dealer row value w hu hk hl hr)
  obtain ⟨x, y, z, hA⟩ := sealA_three u key dealer row value
  rw [hA] at HS HR
  generalize sealE u key dealer row value = E at *
  clear hA hu hk hl hr
  go_enter Tryd.func4, Tryd.ntmps4
  go_wp2_with fail
  with_reducible refine (sane35_any _ hG).mono ?_
  rintro r w1 ⟨rfl, hb1⟩
  have HB1 := Lib.hid hb1
  have HG1 := Lib.hid (hG.below hb1)
  clear hb1
  go_wp2_with fail
  with_reducible refine (HS.out _ HG1.out).mono ?_
  rintro r w2 ⟨rfl, hb2⟩
  obtain ⟨hb3, c0, c1, c2⟩ := cell_agg3 w2 x y z 31
  have HB2 := Lib.hid (HB1.out.trans (hb2.mono HB1.out.size))
  have HB3 := Lib.hid (HB2.out.trans (hb3.mono HB2.out.size))
  clear hb2 hb3
  go_wp2_with fail
  with_reducible refine (HR.out _).mono ?_
  rintro r w4 ⟨rfl, hb4⟩
  have x0 := below_cell hb4 c0
  have x1 := below_cell hb4 c1
  have x2 := below_cell hb4 c2
  obtain ⟨hb5, d0, d1, d2⟩ := cell_agg3 w4 x y z 31
  have y0 := below_cell hb5 x0
  have y1 := below_cell hb5 x1
  have y2 := below_cell hb5 x2
  have HB4 := Lib.hid (HB3.out.trans (hb4.mono HB3.out.size))
  have HB5 := Lib.hid (HB4.out.trans (hb5.mono HB4.out.size))
  clear hb4 hb5 c0 c1 c2 x0 x1 x2
  go_wp2_with fail
  go_ret
  exact ⟨rfl, HB5.out⟩

set_option maxRecDepth 100000 in
set_option maxHeartbeats 4000000 in
theorem openSpec_any (s dealer row pt c : Int) (w : World) (hs : R64 s) (hl : R64 dealer) (hr : R64 row) (hp : R64 pt) (_hc : R64 c) (hG : Glob w) :
    Calls Tryd.prog 5 #[.int .i64 s, .int .i64 dealer, .agg #[.int .i64 row, .int .i64 pt, .int .i64 c]] w fun r w' => r = .returned (.bool true) ∧ Below w.heap.size w w' := by
  have HO := Lib.hid (fun w hG => open_all s dealer row pt c w hp hG)
  have HRO := Lib.hid (fun w => ropen_any s dealer row pt c w hs hl hr hp)
  have HI := Lib.hid (fun w hG => with_all s dealer row pt c w hs hp hG)
  have HRI := Lib.hid (fun w => rwith_any s dealer row pt c w hs hl hr hp)
  generalize openV s dealer row pt c = A at *
  generalize openE s dealer row pt c = E at *
  generalize withV s dealer row pt c = B at *
  generalize withE s dealer row pt c = F at *
  clear hs hl hr hp
  obtain ⟨hb0, c0, c1, c2⟩ := cell_agg3 w row pt c 31
  have HB := Lib.hid hb0
  have HG := Lib.hid (hG.below hb0)
  clear hb0
  go_enter Tryd.func5, Tryd.ntmps5
  go_wp2_with fail
  with_reducible refine (sane35_any _ HG.out).mono ?_
  rintro r w1 ⟨rfl, hb1⟩
  replace c0 := below_cell hb1 c0
  replace c1 := below_cell hb1 c1
  replace c2 := below_cell hb1 c2
  replace HB := Lib.hid (HB.out.trans (hb1.mono HB.out.size))
  replace HG := Lib.hid (hG.below HB.out)
  clear hb1
  go_wp2_with fail
  with_reducible refine (HO.out _ HG.out).mono ?_
  rintro r w2 ⟨rfl, hb1⟩
  replace c0 := below_cell hb1 c0
  replace c1 := below_cell hb1 c1
  replace c2 := below_cell hb1 c2
  replace HB := Lib.hid (HB.out.trans (hb1.mono HB.out.size))
  replace HG := Lib.hid (hG.below HB.out)
  clear hb1
  go_wp2_with fail
  with_reducible refine (HRO.out _).mono ?_
  rintro r w3 ⟨rfl, hb1⟩
  replace c0 := below_cell hb1 c0
  replace c1 := below_cell hb1 c1
  replace c2 := below_cell hb1 c2
  replace HB := Lib.hid (HB.out.trans (hb1.mono HB.out.size))
  replace HG := Lib.hid (hG.below HB.out)
  clear hb1
  go_wp2_with fail
  with_reducible refine (HI.out _ HG.out).mono ?_
  rintro r w4 ⟨rfl, hb1⟩
  replace c0 := below_cell hb1 c0
  replace c1 := below_cell hb1 c1
  replace c2 := below_cell hb1 c2
  replace HB := Lib.hid (HB.out.trans (hb1.mono HB.out.size))
  clear hb1
  go_wp2_with fail
  with_reducible refine (HRI.out _).mono ?_
  rintro r w5 ⟨rfl, hb1⟩
  replace HB := Lib.hid (HB.out.trans (hb1.mono HB.out.size))
  clear hb1 c0 c1 c2
  go_wp2_with fail
  go_ret
  exact ⟨rfl, HB.out⟩

end Go.Proofs.YteodnbaogfdjbaaDoor
