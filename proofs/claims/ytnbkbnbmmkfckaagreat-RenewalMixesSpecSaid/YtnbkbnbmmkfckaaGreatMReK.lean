/- Package renewal: Mixes. -/
import Derived.Test.YtnbkbnbmmkfckaaGreatMRange6
import Derived.Test.YtnbkbnbmmkfckaaGreatMReF
namespace Go.Proofs.YtnbkbnbmmkfckaaGreat
open Go.RowKit FP

/-! What Mixes says. -/
def mixE (rows : List (List Int)) (owners : List Int) (ep : Int) (cs : List Int) (rows2 : List (List Int)) (owners2 : List Int) (ep2 : Int) (cs2 : List Int) (a b : List (Int × Int)) : Int :=
  if progE rows owners ≠ 0 then progE rows owners else if owners ≠ owners2 ∨ rows ≠ rows2 then 380 else if keyB rows ep cs = false ∨ keyB rows2 ep2 cs2 = false then 380 else if nth cs 0 ≠ nth cs2 0 ∨ ep2 ≤ ep then 380 else if fitL rows cs a = false ∨ fitL rows2 cs2 b = false then 340 else recE rows owners (mrgL a b)
def mixB (rows : List (List Int)) (owners : List Int) (ep : Int) (cs : List Int) (rows2 : List (List Int)) (owners2 : List Int) (ep2 : Int) (cs2 : List Int) (a b : List (Int × Int)) : Bool :=
  decide (mixE rows owners ep cs rows2 owners2 ep2 cs2 a b = 0) && (recB rows owners (mrgL a b) && powE 4 (recV rows owners (mrgL a b)) == nth cs 0)
theorem mix_off {rows : List (List Int)} {owners : List Int} {ep : Int} {cs : List Int} {rows2 : List (List Int)} {owners2 : List Int} {ep2 : Int} {cs2 : List Int} {a b : List (Int × Int)} {q : Int} (h : mixE rows owners ep cs rows2 owners2 ep2 cs2 a b = q) (hq : q ≠ 0) :
    Ending.returned (.tuple #[.bool false, .int .i64 q]) = .returned (.tuple #[.bool (mixB rows owners ep cs rows2 owners2 ep2 cs2 a b), .int .i64 (mixE rows owners ep cs rows2 owners2 ep2 cs2 a b)]) := by
  unfold mixB; rw [h, decide_eq_false hq]; rfl
theorem mix_on {rows : List (List Int)} {owners : List Int} {ep : Int} {cs : List Int} {rows2 : List (List Int)} {owners2 : List Int} {ep2 : Int} {cs2 : List Int} {a b : List (Int × Int)} {t : Bool} (h : mixE rows owners ep cs rows2 owners2 ep2 cs2 a b = 0) (ht : (recB rows owners (mrgL a b) && powE 4 (recV rows owners (mrgL a b)) == nth cs 0) = t) :
    Ending.returned (.tuple #[.bool t, .int .i64 0]) = .returned (.tuple #[.bool (mixB rows owners ep cs rows2 owners2 ep2 cs2 a b), .int .i64 (mixE rows owners ep cs rows2 owners2 ep2 cs2 a b)]) := by
  unfold mixB; rw [h, ht]; rfl

theorem mrgS_mem (a b : List (Int × Int)) : ∀ j, (∀ p ∈ (mrgS a b j).1, p ∈ a) ∧ (∀ p ∈ (mrgS a b j).2, p ∈ b)
  | 0 => ⟨fun _ h => h, fun _ h => h⟩
  | j + 1 => by
    have ih := mrgS_mem a b j
    show (∀ p ∈ (mrgN (mrgS a b j)).1, p ∈ a) ∧ (∀ p ∈ (mrgN (mrgS a b j)).2, p ∈ b)
    unfold mrgN
    by_cases e : takeB (mrgS a b j).1 (mrgS a b j).2 = true
    · rw [if_pos e]; exact ⟨ih.1, fun p h => ih.2 p (List.mem_of_mem_tail h)⟩
    · rw [if_neg e]; exact ⟨fun p h => ih.1 p (List.mem_of_mem_tail h), ih.2⟩
theorem headD_mem {l : List (Int × Int)} (h : 0 < l.length) : l.headD (0, 0) ∈ l := by
  match l, h with
  | x :: t, _ => simp
theorem mrgE_mem {a b : List (Int × Int)} {j : Nat} (hj : j < a.length + b.length) : mrgE a b j ∈ a ∨ mrgE a b j ∈ b := by
  have hl := mrgS_len a b j (by omega)
  have hm := mrgS_mem a b j
  unfold mrgE mrgH
  by_cases e : takeB (mrgS a b j).1 (mrgS a b j).2 = true
  · rw [if_pos e]
    refine .inr (hm.2 _ (headD_mem ?_))
    unfold takeB at e
    simp only [Bool.or_eq_true, Bool.and_eq_true, decide_eq_true_eq] at e
    rcases e with e | e <;> omega
  · rw [if_neg e]
    refine .inl (hm.1 _ (headD_mem ?_))
    unfold takeB at e
    simp only [Bool.or_eq_true, Bool.and_eq_true, decide_eq_true_eq, not_or] at e
    omega
theorem mrgL_mem {a b : List (Int × Int)} {p : Int × Int} (h : p ∈ mrgL a b) : p ∈ a ∨ p ∈ b := by
  unfold mrgL at h
  obtain ⟨j, hj, rfl⟩ := List.mem_map.1 h
  exact mrgE_mem (List.mem_range.1 hj)
theorem mrgL_length (a b : List (Int × Int)) : (mrgL a b).length = a.length + b.length := by simp [mrgL]
theorem recV_r64 (rows : List (List Int)) (owners : List Int) (l : List (Int × Int)) : R64 (recV rows owners l) := by
  unfold recV
  by_cases h : recB rows owners l = true
  · rw [if_pos h]; have := prodQ_num (recY rows l) (valsOf l); unfold R64; omega
  · rw [if_neg h]; unfold R64; omega
theorem boxS_both (va vb : Value) (a b : List (Int × Int)) (w : World) : BoxS w w.heap.size (w.heap.size + 1) va vb a b 0 ((w.alloc (.cells #[va] 28)).alloc (.cells #[vb] 28)) := by
  have hs : (w.alloc (.cells #[va] 28)).heap.size = w.heap.size + 1 := by simp
  have h2 := below_new (w.alloc (.cells #[va] 28)) #[vb] 28
  refine ⟨(below_new _ _ _).trans (h2.mono (by omega)), (h2.block _ (by omega)).trans (World.alloc_heap_new _ _), ?_⟩
  have := World.alloc_heap_new (w.alloc (.cells #[va] 28)) (.cells #[vb] 28)
  rwa [hs] at this

set_option maxRecDepth 100000 in
set_option maxHeartbeats 16000000 in
theorem mixes_any (ep ep2 : Int) (rv ov cv rv2 ov2 cv2 av bv : Value) (rows rows2 : List (List Int)) (owners owners2 cs cs2 : List Int) (a b : List (Int × Int)) (w : World) (hR : Rows2 w rv rows) (hO : Ints w ov owners) (hC : Ints w cv cs) (hR2 : Rows2 w rv2 rows2) (hO2 : Ints w ov2 owners2) (hC2 : Ints w cv2 cs2) (hA : Shares w av a) (hB : Shares w bv b) :
    Calls Tryz.prog 14 #[.agg #[.int .i64 ep, rv, ov, cv], .agg #[.int .i64 ep2, rv2, ov2, cv2], av, bv] w fun e w' => e = .returned (.tuple #[.bool (mixB rows owners ep cs rows2 owners2 ep2 cs2 a b), .int .i64 (mixE rows owners ep cs rows2 owners2 ep2 cs2 a b)]) ∧ Below w.heap.size w w' := by
  obtain ⟨W0, hW0, hb0, hr0, hs0⟩ := box_key w (.int .i64 ep) rv ov cv 27
  obtain ⟨W1, hW1, hb1, hr1, hs1⟩ := box_key W0 (.int .i64 ep2) rv2 ov2 cv2 27
  have hb : Below w.heap.size w W1 := hb0.trans (hb1.mono hb0.size)
  have HR := Lib.hid (hR.below hb)
  have HO := Lib.hid (hO.below hb)
  have HC := Lib.hid (hC.below hb)
  have HR2 := Lib.hid (hR2.below hb)
  have HO2 := Lib.hid (hO2.below hb)
  have HC2 := Lib.hid (hC2.below hb)
  have HA := Lib.hid (hA.below hb)
  have HB := Lib.hid (hB.below hb)
  obtain ⟨a1, k1, rfl, -, hl1, -⟩ := id hR
  obtain ⟨a2, k2, rfl, -, hl2, -⟩ := id hO
  obtain ⟨a3, k3, rfl, -, hl3, -⟩ := id hC
  obtain ⟨a4, k4, rfl, -, hl4, -⟩ := id hR2
  obtain ⟨a5, k5, rfl, -, hl5, -⟩ := id hO2
  obtain ⟨a6, k6, rfl, -, hl6, -⟩ := id hC2
  obtain ⟨a7, k7, rfl, -, hl7, har, -⟩ := id hA
  obtain ⟨a8, k8, rfl, -, hl8, hbr, -⟩ := id hB
  have HAR := Lib.hid har
  have HBR := Lib.hid hbr
  have Q1 := Lib.hid ((hb1.block _ (row_lt hr0)).trans hr0)
  rw [hs0] at hr1
  have Q2 := Lib.hid hr1
  rw [hW0] at hW1
  have HW1 := Lib.hid hW1
  have HBB := Lib.hid hb
  clear hR hO hC hR2 hO2 hC2 hA hB hb hb0 hb1 hr0 hr1 hW0 hW1 hs0 hs1 har hbr
  have HPC := Lib.hid (pCheck_any _ _ rows owners _ HR.out HO.out)
  have c1 := row_cell Q1.out (k := 1) rfl
  have c2 := row_cell Q1.out (k := 2) rfl
  go_enter Tryz.func14, Tryz.ntmps14
  go_wp2_with (rw [← HW1.out])
  clear c1 c2
  refine (HPC.out).mono ?_
  rintro e w2 ⟨rfl, hb2⟩
  replace HR := Lib.hid (HR.out.below hb2)
  replace HO := Lib.hid (HO.out.below hb2)
  replace HC := Lib.hid (HC.out.below hb2)
  replace HR2 := Lib.hid (HR2.out.below hb2)
  replace HO2 := Lib.hid (HO2.out.below hb2)
  replace HC2 := Lib.hid (HC2.out.below hb2)
  replace HA := Lib.hid (HA.out.below hb2)
  replace HB := Lib.hid (HB.out.below hb2)
  replace Q1 := Lib.hid ((hb2.block _ (row_lt Q1.out)).trans Q1.out)
  replace Q2 := Lib.hid ((hb2.block _ (row_lt Q2.out)).trans Q2.out)
  replace HBB := Lib.hid (HBB.out.trans (hb2.mono HBB.out.size))
  clear hb2
  by_cases hp : progE rows owners = 0
  rotate_left
  · have HV : Hid (mixE rows owners ep cs rows2 owners2 ep2 cs2 a b = progE rows owners) := Lib.hid (by unfold mixE; rw [if_pos hp])
    have HNZ := Lib.hid hp
    have d0 : (progE rows owners != 0) = true := bne_iff_ne.2 hp
    clear hp HPC
    go_wp2_with fail
    go_ret2
    exact ⟨mix_off HV.out HNZ.out, HBB.out⟩
  have HP0 := Lib.hid hp
  have HE : Hid (mixE rows owners ep cs rows2 owners2 ep2 cs2 a b = if owners ≠ owners2 ∨ rows ≠ rows2 then 380 else if keyB rows ep cs = false ∨ keyB rows2 ep2 cs2 = false then 380 else if nth cs 0 ≠ nth cs2 0 ∨ ep2 ≤ ep then 380 else if fitL rows cs a = false ∨ fitL rows2 cs2 b = false then 340 else recE rows owners (mrgL a b)) := Lib.hid (by unfold mixE; rw [if_neg (by simp [hp])])
  rw [hp]
  clear hp HPC
  have c2 := row_cell Q1.out (k := 2) rfl
  have e2 := row_cell Q2.out (k := 2) rfl
  go_wp2_with fail
  clear c2 e2
  refine (equalI_any _ _ owners owners2 _ HO.out HO2.out).mono ?_
  rintro e w3 ⟨rfl, hb3⟩
  replace HR := Lib.hid (HR.out.below hb3)
  replace HO := Lib.hid (HO.out.below hb3)
  replace HC := Lib.hid (HC.out.below hb3)
  replace HR2 := Lib.hid (HR2.out.below hb3)
  replace HO2 := Lib.hid (HO2.out.below hb3)
  replace HC2 := Lib.hid (HC2.out.below hb3)
  replace HA := Lib.hid (HA.out.below hb3)
  replace HB := Lib.hid (HB.out.below hb3)
  replace Q1 := Lib.hid ((hb3.block _ (row_lt Q1.out)).trans Q1.out)
  replace Q2 := Lib.hid ((hb3.block _ (row_lt Q2.out)).trans Q2.out)
  replace HBB := Lib.hid (HBB.out.trans (hb3.mono HBB.out.size))
  clear hb3
  by_cases ho : owners = owners2
  rotate_left
  · have HV : Hid (mixE rows owners ep cs rows2 owners2 ep2 cs2 a b = 380) := Lib.hid (HE.out.trans (if_pos (.inl ho)))
    rw [decide_eq_false ho]
    clear ho
    go_wp2_with fail
    have hbd : Below w3.heap.size w3 w3.drew := (Below.refl _ _).drew
    replace HR := Lib.hid (HR.out.below hbd)
    replace HO := Lib.hid (HO.out.below hbd)
    replace HC := Lib.hid (HC.out.below hbd)
    replace HR2 := Lib.hid (HR2.out.below hbd)
    replace HO2 := Lib.hid (HO2.out.below hbd)
    replace HC2 := Lib.hid (HC2.out.below hbd)
    replace HA := Lib.hid (HA.out.below hbd)
    replace HB := Lib.hid (HB.out.below hbd)
    replace HBB := Lib.hid (HBB.out.drew)
    clear hbd
    refine wp_region_held_drew (S := (fun w' => True)) (by kernel_rfl) (by (try dsimp only); (all_goals trivial)) (fun hHeld => ?_)
    refine take_yes (i := 0) (some 37) (.bool false) rfl (by kernel_rfl) (by kernel_rfl) (by kernel_rfl) (by kernel_rfl) (fun _ _ _ h => h) (by kernel_rfl) (fun w _ => by rfl) (by assumption) ?_
    simp only [Act.put, List.setIfInBounds_toArray, List.set_cons_zero, List.set_cons_succ]
    refine take_yes (i := 1) (some 38) (.bool true) rfl (by kernel_rfl) (by kernel_rfl) (by kernel_rfl) (by kernel_rfl) (fun _ _ _ h => h) (by kernel_rfl) (fun w _ => by rfl) (by assumption) ?_
    simp only [Act.put, List.setIfInBounds_toArray, List.set_cons_zero, List.set_cons_succ]
    refine take_yes (i := 2) (some 39) (.bool true) rfl (by kernel_rfl) (by kernel_rfl) (by kernel_rfl) (by kernel_rfl) (fun _ _ _ h => h) (by kernel_rfl) (fun w _ => by rfl) (by assumption) ?_
    simp only [Act.put, List.setIfInBounds_toArray, List.set_cons_zero, List.set_cons_succ]
    refine take_no (i := 3) (some 40) rfl (by kernel_rfl) (by kernel_rfl) (by kernel_rfl) (by kernel_rfl) (fun _ _ _ h => h) (by kernel_rfl) (by assumption) ?_
    simp only [Act.put, List.setIfInBounds_toArray, List.set_cons_zero, List.set_cons_succ]
    refine take_no (i := 4) (some 41) rfl (by kernel_rfl) (by kernel_rfl) (by kernel_rfl) (by kernel_rfl) (fun _ _ _ h => h) (by kernel_rfl) (by assumption) ?_
    simp only [Act.put, List.setIfInBounds_toArray, List.set_cons_zero, List.set_cons_succ]
    refine take_no (i := 5) (some 42) rfl (by kernel_rfl) (by kernel_rfl) (by kernel_rfl) (by kernel_rfl) (fun _ _ _ h => h) (by kernel_rfl) (by assumption) ?_
    simp only [Act.put, List.setIfInBounds_toArray, List.set_cons_zero, List.set_cons_succ]
    refine take_no (i := 6) (some 43) rfl (by kernel_rfl) (by kernel_rfl) (by kernel_rfl) (by kernel_rfl) (fun _ _ _ h => h) (by kernel_rfl) (by assumption) ?_
    simp only [Act.put, List.setIfInBounds_toArray, List.set_cons_zero, List.set_cons_succ]
    refine take_yes (i := 7) (some 44) (.bool true) rfl (by kernel_rfl) (by kernel_rfl) (by kernel_rfl) (by kernel_rfl) (fun _ _ _ h => h) (by kernel_rfl) (fun w _ => by rfl) (by assumption) ?_
    simp only [Act.put, List.setIfInBounds_toArray, List.set_cons_zero, List.set_cons_succ]
    refine take_yes (i := 8) (some 45) (.bool true) rfl (by kernel_rfl) (by kernel_rfl) (by kernel_rfl) (by kernel_rfl) (fun _ _ _ h => h) (by kernel_rfl) (fun w _ => by rfl) (by assumption) ?_
    simp only [Act.put, List.setIfInBounds_toArray, List.set_cons_zero, List.set_cons_succ]
    refine take_no (i := 9) (some 46) rfl (by kernel_rfl) (by kernel_rfl) (by kernel_rfl) (by kernel_rfl) (fun _ _ _ h => h) (by kernel_rfl) (by assumption) ?_
    simp only [Act.put, List.setIfInBounds_toArray, List.set_cons_zero, List.set_cons_succ]
    refine take_no (i := 10) (some 47) rfl (by kernel_rfl) (by kernel_rfl) (by kernel_rfl) (by kernel_rfl) (fun _ _ _ h => h) (by kernel_rfl) (by assumption) ?_
    simp only [Act.put, List.setIfInBounds_toArray, List.set_cons_zero, List.set_cons_succ]
    refine take_no (i := 11) (some 48) rfl (by kernel_rfl) (by kernel_rfl) (by kernel_rfl) (by kernel_rfl) (fun _ _ _ h => h) (by kernel_rfl) (by assumption) ?_
    simp only [Act.put, List.setIfInBounds_toArray, List.set_cons_zero, List.set_cons_succ]
    refine take_no (i := 12) (some 49) rfl (by kernel_rfl) (by kernel_rfl) (by kernel_rfl) (by kernel_rfl) (fun _ _ _ h => h) (by kernel_rfl) (by assumption) ?_
    simp only [Act.put, List.setIfInBounds_toArray, List.set_cons_zero, List.set_cons_succ]
    refine take_yes (i := 13) (some 50) (.bool true) rfl (by kernel_rfl) (by kernel_rfl) (by kernel_rfl) (by kernel_rfl) (fun _ _ _ h => h) (by kernel_rfl) (fun w _ => by rfl) (by assumption) ?_
    simp only [Act.put, List.setIfInBounds_toArray, List.set_cons_zero, List.set_cons_succ]
    refine take_yes (i := 14) (some 51) (.bool true) rfl (by kernel_rfl) (by kernel_rfl) (by kernel_rfl) (by kernel_rfl) (fun _ _ _ h => h) (by kernel_rfl) (fun w _ => by rfl) (by assumption) ?_
    simp only [Act.put, List.setIfInBounds_toArray, List.set_cons_zero, List.set_cons_succ]
    refine take_no (i := 15) (some 52) rfl (by kernel_rfl) (by kernel_rfl) (by kernel_rfl) (by kernel_rfl) (fun _ _ _ h => h) (by kernel_rfl) (by assumption) ?_
    simp only [Act.put, List.setIfInBounds_toArray, List.set_cons_zero, List.set_cons_succ]
    refine take_no (i := 16) (some 53) rfl (by kernel_rfl) (by kernel_rfl) (by kernel_rfl) (by kernel_rfl) (fun _ _ _ h => h) (by kernel_rfl) (by assumption) ?_
    simp only [Act.put, List.setIfInBounds_toArray, List.set_cons_zero, List.set_cons_succ]
    refine take_no (i := 17) (some 54) rfl (by kernel_rfl) (by kernel_rfl) (by kernel_rfl) (by kernel_rfl) (fun _ _ _ h => h) (by kernel_rfl) (by assumption) ?_
    simp only [Act.put, List.setIfInBounds_toArray, List.set_cons_zero, List.set_cons_succ]
    refine take_no (i := 18) (some 55) rfl (by kernel_rfl) (by kernel_rfl) (by kernel_rfl) (by kernel_rfl) (fun _ _ _ h => h) (by kernel_rfl) (by assumption) ?_
    simp only [Act.put, List.setIfInBounds_toArray, List.set_cons_zero, List.set_cons_succ]
    refine take_no (i := 19) (some 56) rfl (by kernel_rfl) (by kernel_rfl) (by kernel_rfl) (by kernel_rfl) (fun _ _ _ h => h) (by kernel_rfl) (by assumption) ?_
    simp only [Act.put, List.setIfInBounds_toArray, List.set_cons_zero, List.set_cons_succ]
    refine take_no (i := 20) (some 57) rfl (by kernel_rfl) (by kernel_rfl) (by kernel_rfl) (by kernel_rfl) (fun _ _ _ h => h) (by kernel_rfl) (by assumption) ?_
    simp only [Act.put, List.setIfInBounds_toArray, List.set_cons_zero, List.set_cons_succ]
    refine take_no (i := 21) (some 58) rfl (by kernel_rfl) (by kernel_rfl) (by kernel_rfl) (by kernel_rfl) (fun _ _ _ h => h) (by kernel_rfl) (by assumption) ?_
    simp only [Act.put, List.setIfInBounds_toArray, List.set_cons_zero, List.set_cons_succ]
    refine take_no (i := 22) (some 59) rfl (by kernel_rfl) (by kernel_rfl) (by kernel_rfl) (by kernel_rfl) (fun _ _ _ h => h) (by kernel_rfl) (by assumption) ?_
    simp only [Act.put, List.setIfInBounds_toArray, List.set_cons_zero, List.set_cons_succ]
    refine take_no (i := 23) (some 60) rfl (by kernel_rfl) (by kernel_rfl) (by kernel_rfl) (by kernel_rfl) (fun _ _ _ h => h) (by kernel_rfl) (by assumption) ?_
    simp only [Act.put, List.setIfInBounds_toArray, List.set_cons_zero, List.set_cons_succ]
    refine take_yes (i := 24) (some 61) (.bool true) rfl (by kernel_rfl) (by kernel_rfl) (by kernel_rfl) (by kernel_rfl) (fun _ _ _ h => h) (by kernel_rfl) (fun w _ => by rfl) (by assumption) ?_
    simp only [Act.put, List.setIfInBounds_toArray, List.set_cons_zero, List.set_cons_succ]
    refine take_yes (i := 25) (some 62) (.bool true) rfl (by kernel_rfl) (by kernel_rfl) (by kernel_rfl) (by kernel_rfl) (fun _ _ _ h => h) (by kernel_rfl) (fun w _ => by rfl) (by assumption) ?_
    simp only [Act.put, List.setIfInBounds_toArray, List.set_cons_zero, List.set_cons_succ]
    refine take_no (i := 26) (some 63) rfl (by kernel_rfl) (by kernel_rfl) (by kernel_rfl) (by kernel_rfl) (fun _ _ _ h => h) (by kernel_rfl) (by assumption) ?_
    simp only [Act.put, List.setIfInBounds_toArray, List.set_cons_zero, List.set_cons_succ]
    refine take_no (i := 27) (some 64) rfl (by kernel_rfl) (by kernel_rfl) (by kernel_rfl) (by kernel_rfl) (fun _ _ _ h => h) (by kernel_rfl) (by assumption) ?_
    simp only [Act.put, List.setIfInBounds_toArray, List.set_cons_zero, List.set_cons_succ]
    refine take_no (i := 28) (some 65) rfl (by kernel_rfl) (by kernel_rfl) (by kernel_rfl) (by kernel_rfl) (fun _ _ _ h => h) (by kernel_rfl) (by assumption) ?_
    simp only [Act.put, List.setIfInBounds_toArray, List.set_cons_zero, List.set_cons_succ]
    refine take_no (i := 29) (some 66) rfl (by kernel_rfl) (by kernel_rfl) (by kernel_rfl) (by kernel_rfl) (fun _ _ _ h => h) (by kernel_rfl) (by assumption) ?_
    simp only [Act.put, List.setIfInBounds_toArray, List.set_cons_zero, List.set_cons_succ]
    refine take_no (i := 30) (some 67) rfl (by kernel_rfl) (by kernel_rfl) (by kernel_rfl) (by kernel_rfl) (fun _ _ _ h => h) (by kernel_rfl) (by assumption) ?_
    simp only [Act.put, List.setIfInBounds_toArray, List.set_cons_zero, List.set_cons_succ]
    refine take_yes (i := 31) (some 68) (.bool true) rfl (by kernel_rfl) (by kernel_rfl) (by kernel_rfl) (by kernel_rfl) (fun _ _ _ h => h) (by kernel_rfl) (fun w _ => by rfl) (by assumption) ?_
    simp only [Act.put, List.setIfInBounds_toArray, List.set_cons_zero, List.set_cons_succ]
    refine wpAnyH_done (by kernel_rfl) ?_ _
    clear hHeld
    go_wp2_with fail
    go_ret2
    exact ⟨mix_off HV.out (by decide), HBB.out⟩
  subst ho
  rw [decide_eq_true rfl]
  have c1 := row_cell Q1.out (k := 1) rfl
  have e1 := row_cell Q2.out (k := 1) rfl
  go_wp2_with fail
  clear c1 e1
  refine (efInts_any _ _ rows rows2 _ HR.out HR2.out).mono ?_
  rintro e w4 ⟨rfl, hb4⟩
  replace HR := Lib.hid (HR.out.below hb4)
  replace HO := Lib.hid (HO.out.below hb4)
  replace HC := Lib.hid (HC.out.below hb4)
  replace HR2 := Lib.hid (HR2.out.below hb4)
  replace HO2 := Lib.hid (HO2.out.below hb4)
  replace HC2 := Lib.hid (HC2.out.below hb4)
  replace HA := Lib.hid (HA.out.below hb4)
  replace HB := Lib.hid (HB.out.below hb4)
  replace Q1 := Lib.hid ((hb4.block _ (row_lt Q1.out)).trans Q1.out)
  replace Q2 := Lib.hid ((hb4.block _ (row_lt Q2.out)).trans Q2.out)
  replace HBB := Lib.hid (HBB.out.trans (hb4.mono HBB.out.size))
  clear hb4
  by_cases hrr : rows = rows2
  rotate_left
  · have HV : Hid (mixE rows owners ep cs rows2 owners ep2 cs2 a b = 380) := Lib.hid (HE.out.trans (if_pos (.inr hrr)))
    rw [decide_eq_false hrr]
    clear hrr
    go_wp2_with fail
    have hbd : Below w4.heap.size w4 w4.drew := (Below.refl _ _).drew
    replace HR := Lib.hid (HR.out.below hbd)
    replace HO := Lib.hid (HO.out.below hbd)
    replace HC := Lib.hid (HC.out.below hbd)
    replace HR2 := Lib.hid (HR2.out.below hbd)
    replace HO2 := Lib.hid (HO2.out.below hbd)
    replace HC2 := Lib.hid (HC2.out.below hbd)
    replace HA := Lib.hid (HA.out.below hbd)
    replace HB := Lib.hid (HB.out.below hbd)
    replace HBB := Lib.hid (HBB.out.drew)
    clear hbd
    refine wp_region_held_drew (S := (fun w' => True)) (by kernel_rfl) (by (try dsimp only); (all_goals trivial)) (fun hHeld => ?_)
    refine take_yes (i := 0) (some 37) (.bool false) rfl (by kernel_rfl) (by kernel_rfl) (by kernel_rfl) (by kernel_rfl) (fun _ _ _ h => h) (by kernel_rfl) (fun w _ => by rfl) (by assumption) ?_
    simp only [Act.put, List.setIfInBounds_toArray, List.set_cons_zero, List.set_cons_succ]
    refine take_yes (i := 1) (some 38) (.bool true) rfl (by kernel_rfl) (by kernel_rfl) (by kernel_rfl) (by kernel_rfl) (fun _ _ _ h => h) (by kernel_rfl) (fun w _ => by rfl) (by assumption) ?_
    simp only [Act.put, List.setIfInBounds_toArray, List.set_cons_zero, List.set_cons_succ]
    refine take_yes (i := 2) (some 39) (.bool true) rfl (by kernel_rfl) (by kernel_rfl) (by kernel_rfl) (by kernel_rfl) (fun _ _ _ h => h) (by kernel_rfl) (fun w _ => by rfl) (by assumption) ?_
    simp only [Act.put, List.setIfInBounds_toArray, List.set_cons_zero, List.set_cons_succ]
    refine take_no (i := 3) (some 40) rfl (by kernel_rfl) (by kernel_rfl) (by kernel_rfl) (by kernel_rfl) (fun _ _ _ h => h) (by kernel_rfl) (by assumption) ?_
    simp only [Act.put, List.setIfInBounds_toArray, List.set_cons_zero, List.set_cons_succ]
    refine take_no (i := 4) (some 41) rfl (by kernel_rfl) (by kernel_rfl) (by kernel_rfl) (by kernel_rfl) (fun _ _ _ h => h) (by kernel_rfl) (by assumption) ?_
    simp only [Act.put, List.setIfInBounds_toArray, List.set_cons_zero, List.set_cons_succ]
    refine take_no (i := 5) (some 42) rfl (by kernel_rfl) (by kernel_rfl) (by kernel_rfl) (by kernel_rfl) (fun _ _ _ h => h) (by kernel_rfl) (by assumption) ?_
    simp only [Act.put, List.setIfInBounds_toArray, List.set_cons_zero, List.set_cons_succ]
    refine take_no (i := 6) (some 43) rfl (by kernel_rfl) (by kernel_rfl) (by kernel_rfl) (by kernel_rfl) (fun _ _ _ h => h) (by kernel_rfl) (by assumption) ?_
    simp only [Act.put, List.setIfInBounds_toArray, List.set_cons_zero, List.set_cons_succ]
    refine take_yes (i := 7) (some 44) (.bool true) rfl (by kernel_rfl) (by kernel_rfl) (by kernel_rfl) (by kernel_rfl) (fun _ _ _ h => h) (by kernel_rfl) (fun w _ => by rfl) (by assumption) ?_
    simp only [Act.put, List.setIfInBounds_toArray, List.set_cons_zero, List.set_cons_succ]
    refine take_yes (i := 8) (some 45) (.bool true) rfl (by kernel_rfl) (by kernel_rfl) (by kernel_rfl) (by kernel_rfl) (fun _ _ _ h => h) (by kernel_rfl) (fun w _ => by rfl) (by assumption) ?_
    simp only [Act.put, List.setIfInBounds_toArray, List.set_cons_zero, List.set_cons_succ]
    refine take_no (i := 9) (some 46) rfl (by kernel_rfl) (by kernel_rfl) (by kernel_rfl) (by kernel_rfl) (fun _ _ _ h => h) (by kernel_rfl) (by assumption) ?_
    simp only [Act.put, List.setIfInBounds_toArray, List.set_cons_zero, List.set_cons_succ]
    refine take_no (i := 10) (some 47) rfl (by kernel_rfl) (by kernel_rfl) (by kernel_rfl) (by kernel_rfl) (fun _ _ _ h => h) (by kernel_rfl) (by assumption) ?_
    simp only [Act.put, List.setIfInBounds_toArray, List.set_cons_zero, List.set_cons_succ]
    refine take_no (i := 11) (some 48) rfl (by kernel_rfl) (by kernel_rfl) (by kernel_rfl) (by kernel_rfl) (fun _ _ _ h => h) (by kernel_rfl) (by assumption) ?_
    simp only [Act.put, List.setIfInBounds_toArray, List.set_cons_zero, List.set_cons_succ]
    refine take_no (i := 12) (some 49) rfl (by kernel_rfl) (by kernel_rfl) (by kernel_rfl) (by kernel_rfl) (fun _ _ _ h => h) (by kernel_rfl) (by assumption) ?_
    simp only [Act.put, List.setIfInBounds_toArray, List.set_cons_zero, List.set_cons_succ]
    refine take_yes (i := 13) (some 50) (.bool true) rfl (by kernel_rfl) (by kernel_rfl) (by kernel_rfl) (by kernel_rfl) (fun _ _ _ h => h) (by kernel_rfl) (fun w _ => by rfl) (by assumption) ?_
    simp only [Act.put, List.setIfInBounds_toArray, List.set_cons_zero, List.set_cons_succ]
    refine take_yes (i := 14) (some 51) (.bool true) rfl (by kernel_rfl) (by kernel_rfl) (by kernel_rfl) (by kernel_rfl) (fun _ _ _ h => h) (by kernel_rfl) (fun w _ => by rfl) (by assumption) ?_
    simp only [Act.put, List.setIfInBounds_toArray, List.set_cons_zero, List.set_cons_succ]
    refine take_no (i := 15) (some 52) rfl (by kernel_rfl) (by kernel_rfl) (by kernel_rfl) (by kernel_rfl) (fun _ _ _ h => h) (by kernel_rfl) (by assumption) ?_
    simp only [Act.put, List.setIfInBounds_toArray, List.set_cons_zero, List.set_cons_succ]
    refine take_no (i := 16) (some 53) rfl (by kernel_rfl) (by kernel_rfl) (by kernel_rfl) (by kernel_rfl) (fun _ _ _ h => h) (by kernel_rfl) (by assumption) ?_
    simp only [Act.put, List.setIfInBounds_toArray, List.set_cons_zero, List.set_cons_succ]
    refine take_no (i := 17) (some 54) rfl (by kernel_rfl) (by kernel_rfl) (by kernel_rfl) (by kernel_rfl) (fun _ _ _ h => h) (by kernel_rfl) (by assumption) ?_
    simp only [Act.put, List.setIfInBounds_toArray, List.set_cons_zero, List.set_cons_succ]
    refine take_no (i := 18) (some 55) rfl (by kernel_rfl) (by kernel_rfl) (by kernel_rfl) (by kernel_rfl) (fun _ _ _ h => h) (by kernel_rfl) (by assumption) ?_
    simp only [Act.put, List.setIfInBounds_toArray, List.set_cons_zero, List.set_cons_succ]
    refine take_no (i := 19) (some 56) rfl (by kernel_rfl) (by kernel_rfl) (by kernel_rfl) (by kernel_rfl) (fun _ _ _ h => h) (by kernel_rfl) (by assumption) ?_
    simp only [Act.put, List.setIfInBounds_toArray, List.set_cons_zero, List.set_cons_succ]
    refine take_no (i := 20) (some 57) rfl (by kernel_rfl) (by kernel_rfl) (by kernel_rfl) (by kernel_rfl) (fun _ _ _ h => h) (by kernel_rfl) (by assumption) ?_
    simp only [Act.put, List.setIfInBounds_toArray, List.set_cons_zero, List.set_cons_succ]
    refine take_no (i := 21) (some 58) rfl (by kernel_rfl) (by kernel_rfl) (by kernel_rfl) (by kernel_rfl) (fun _ _ _ h => h) (by kernel_rfl) (by assumption) ?_
    simp only [Act.put, List.setIfInBounds_toArray, List.set_cons_zero, List.set_cons_succ]
    refine take_no (i := 22) (some 59) rfl (by kernel_rfl) (by kernel_rfl) (by kernel_rfl) (by kernel_rfl) (fun _ _ _ h => h) (by kernel_rfl) (by assumption) ?_
    simp only [Act.put, List.setIfInBounds_toArray, List.set_cons_zero, List.set_cons_succ]
    refine take_no (i := 23) (some 60) rfl (by kernel_rfl) (by kernel_rfl) (by kernel_rfl) (by kernel_rfl) (fun _ _ _ h => h) (by kernel_rfl) (by assumption) ?_
    simp only [Act.put, List.setIfInBounds_toArray, List.set_cons_zero, List.set_cons_succ]
    refine take_yes (i := 24) (some 61) (.bool true) rfl (by kernel_rfl) (by kernel_rfl) (by kernel_rfl) (by kernel_rfl) (fun _ _ _ h => h) (by kernel_rfl) (fun w _ => by rfl) (by assumption) ?_
    simp only [Act.put, List.setIfInBounds_toArray, List.set_cons_zero, List.set_cons_succ]
    refine take_yes (i := 25) (some 62) (.bool true) rfl (by kernel_rfl) (by kernel_rfl) (by kernel_rfl) (by kernel_rfl) (fun _ _ _ h => h) (by kernel_rfl) (fun w _ => by rfl) (by assumption) ?_
    simp only [Act.put, List.setIfInBounds_toArray, List.set_cons_zero, List.set_cons_succ]
    refine take_no (i := 26) (some 63) rfl (by kernel_rfl) (by kernel_rfl) (by kernel_rfl) (by kernel_rfl) (fun _ _ _ h => h) (by kernel_rfl) (by assumption) ?_
    simp only [Act.put, List.setIfInBounds_toArray, List.set_cons_zero, List.set_cons_succ]
    refine take_no (i := 27) (some 64) rfl (by kernel_rfl) (by kernel_rfl) (by kernel_rfl) (by kernel_rfl) (fun _ _ _ h => h) (by kernel_rfl) (by assumption) ?_
    simp only [Act.put, List.setIfInBounds_toArray, List.set_cons_zero, List.set_cons_succ]
    refine take_no (i := 28) (some 65) rfl (by kernel_rfl) (by kernel_rfl) (by kernel_rfl) (by kernel_rfl) (fun _ _ _ h => h) (by kernel_rfl) (by assumption) ?_
    simp only [Act.put, List.setIfInBounds_toArray, List.set_cons_zero, List.set_cons_succ]
    refine take_no (i := 29) (some 66) rfl (by kernel_rfl) (by kernel_rfl) (by kernel_rfl) (by kernel_rfl) (fun _ _ _ h => h) (by kernel_rfl) (by assumption) ?_
    simp only [Act.put, List.setIfInBounds_toArray, List.set_cons_zero, List.set_cons_succ]
    refine take_no (i := 30) (some 67) rfl (by kernel_rfl) (by kernel_rfl) (by kernel_rfl) (by kernel_rfl) (fun _ _ _ h => h) (by kernel_rfl) (by assumption) ?_
    simp only [Act.put, List.setIfInBounds_toArray, List.set_cons_zero, List.set_cons_succ]
    refine take_yes (i := 31) (some 68) (.bool true) rfl (by kernel_rfl) (by kernel_rfl) (by kernel_rfl) (by kernel_rfl) (fun _ _ _ h => h) (by kernel_rfl) (fun w _ => by rfl) (by assumption) ?_
    simp only [Act.put, List.setIfInBounds_toArray, List.set_cons_zero, List.set_cons_succ]
    refine wpAnyH_done (by kernel_rfl) ?_ _
    clear hHeld
    go_wp2_with fail
    go_ret2
    exact ⟨mix_off HV.out (by decide), HBB.out⟩
  subst hrr
  rw [decide_eq_true rfl]
  replace HE := Lib.hid (HE.out.trans (if_neg (by simp)))
  go_wp2_with fail
  have hbd : Below w4.heap.size w4 w4.drew := (Below.refl _ _).drew
  replace HR := Lib.hid (HR.out.below hbd)
  replace HO := Lib.hid (HO.out.below hbd)
  replace HC := Lib.hid (HC.out.below hbd)
  replace HR2 := Lib.hid (HR2.out.below hbd)
  replace HO2 := Lib.hid (HO2.out.below hbd)
  replace HC2 := Lib.hid (HC2.out.below hbd)
  replace HA := Lib.hid (HA.out.below hbd)
  replace HB := Lib.hid (HB.out.below hbd)
  replace HBB := Lib.hid (HBB.out.drew)
  clear hbd
  have HKR := Lib.hid (fun ww h1 h2 => kright_any ep (.slice a1 rows.length k1) (.slice a2 owners.length k2) (.slice a3 cs.length k3) rows cs ww h1 ⟨_, _, _, rfl⟩ h2)
  have HKX := Lib.hid (fun ww h1 h2 => kright_any ep2 (.slice a4 rows.length k4) (.slice a5 owners.length k5) (.slice a6 cs2.length k6) rows cs2 ww h1 ⟨_, _, _, rfl⟩ h2)
  have s0 := row_cell Q1.out (k := 0) rfl
  have s1 := row_cell Q1.out (k := 1) rfl
  have s2 := row_cell Q1.out (k := 2) rfl
  have s3 := row_cell Q1.out (k := 3) rfl
  have s4 := row_cell Q2.out (k := 0) rfl
  have s5 := row_cell Q2.out (k := 1) rfl
  have s6 := row_cell Q2.out (k := 2) rfl
  have s7 := row_cell Q2.out (k := 3) rfl
  cases hk1 : keyB rows ep cs with
  | false =>
    have HV : Hid (mixE rows owners ep cs rows owners ep2 cs2 a b = 380) := Lib.hid (HE.out.trans (if_pos (.inl hk1)))
    rw [hk1] at HKR
    clear hk1
    refine wp_region_held_drew (S := (fun w' => w'.cell? ⟨w.heap.size, 0, none⟩ = some (.int .i64 ep) ∧ w'.cell? ⟨w.heap.size, 1, none⟩ = some (.slice a1 rows.length k1) ∧ w'.cell? ⟨w.heap.size, 2, none⟩ = some (.slice a2 owners.length k2) ∧ w'.cell? ⟨w.heap.size, 3, none⟩ = some (.slice a3 cs.length k3) ∧ w'.cell? ⟨w.heap.size + 1, 0, none⟩ = some (.int .i64 ep2) ∧ w'.cell? ⟨w.heap.size + 1, 1, none⟩ = some (.slice a4 rows.length k4) ∧ w'.cell? ⟨w.heap.size + 1, 2, none⟩ = some (.slice a5 owners.length k5) ∧ w'.cell? ⟨w.heap.size + 1, 3, none⟩ = some (.slice a6 cs2.length k6))) (by kernel_rfl) (by (try dsimp only); (first | exact ⟨z0, z1, z2, z3, z4, z5, z6, z7⟩ | exact ⟨s0, s1, s2, s3, s4, s5, s6, s7⟩ | go_keep)) (fun hHeld => ?_)
    refine take_yes (i := 0) (some 37) (.bool true) rfl (by kernel_rfl) (by kernel_rfl) (by kernel_rfl) (by kernel_rfl) (fun _ _ _ h => h) (by kernel_rfl) (fun w _ => by rfl) (by assumption) ?_
    simp only [Act.put, List.setIfInBounds_toArray, List.set_cons_zero, List.set_cons_succ]
    refine take_yes (i := 1) (some 38) (.bool false) rfl (by kernel_rfl) (by kernel_rfl) (by kernel_rfl) (by kernel_rfl) (fun _ _ _ h => h) (by kernel_rfl) (fun w _ => by rfl) (by assumption) ?_
    simp only [Act.put, List.setIfInBounds_toArray, List.set_cons_zero, List.set_cons_succ]
    refine take_yes (i := 2) (some 39) (.bool false) rfl (by kernel_rfl) (by kernel_rfl) (by kernel_rfl) (by kernel_rfl) (fun _ _ _ h => h) (by kernel_rfl) (fun w _ => by rfl) (by assumption) ?_
    simp only [Act.put, List.setIfInBounds_toArray, List.set_cons_zero, List.set_cons_succ]
    refine take_yes (i := 3) (some 40) ?_ rfl (by kernel_rfl) (by kernel_rfl) (by kernel_rfl) (by kernel_rfl) (fun _ _ _ h => h) (by kernel_rfl) ?_ (by assumption) ?_
    rotate_left
    · (intro w hSw; (try dsimp only at hSw); go_simp; (try with_reducible rfl))
    simp only [Act.put, List.setIfInBounds_toArray, List.set_cons_zero, List.set_cons_succ]
    refine take_yes (i := 4) (some 41) ?_ rfl (by kernel_rfl) (by kernel_rfl) (by kernel_rfl) (by kernel_rfl) (fun _ _ _ h => h) (by kernel_rfl) ?_ (by assumption) ?_
    rotate_left
    · (intro w hSw; (try dsimp only at hSw); go_simp; (try with_reducible rfl))
    simp only [Act.put, List.setIfInBounds_toArray, List.set_cons_zero, List.set_cons_succ]
    refine wpAnyH_ready (rs := [5]) (by kernel_rfl) (by simp) ?_
    refine AllReadyH.cons rfl (fun K hK => ?_) AllReadyH.nil
    rw [if_pos (by rfl)]
    go_simp
    (go_at_call 21; (with_reducible refine (HKR.out _ HR.out HC.out).mono ?_); rintro e w6 ⟨rfl, hb6⟩; have z0 := below_cell hb6 s0; have z1 := below_cell hb6 s1; have z2 := below_cell hb6 s2; have z3 := below_cell hb6 s3; have z4 := below_cell hb6 s4; have z5 := below_cell hb6 s5; have z6 := below_cell hb6 s6; have z7 := below_cell hb6 s7; replace HR := Lib.hid (HR.out.below hb6); replace HO := Lib.hid (HO.out.below hb6); replace HC := Lib.hid (HC.out.below hb6); replace HR2 := Lib.hid (HR2.out.below hb6); replace HO2 := Lib.hid (HO2.out.below hb6); replace HC2 := Lib.hid (HC2.out.below hb6); replace HA := Lib.hid (HA.out.below hb6); replace HB := Lib.hid (HB.out.below hb6); replace Q1 := Lib.hid ((hb6.block _ (row_lt Q1.out)).trans Q1.out); replace Q2 := Lib.hid ((hb6.block _ (row_lt Q2.out)).trans Q2.out); replace HBB := Lib.hid (HBB.out.trans (hb6.mono HBB.out.size)); clear hb6)
    refine hK.out _ _ (by (try dsimp only); (first | exact ⟨z0, z1, z2, z3, z4, z5, z6, z7⟩ | exact ⟨s0, s1, s2, s3, s4, s5, s6, s7⟩ | go_keep)) (fun hHeld => ?_)
    clear hK K
    try simp only [Act.put, List.setIfInBounds_toArray, List.set_cons_zero, List.set_cons_succ]
    refine take_yes (i := 6) (some 43) (.bool true) rfl (by kernel_rfl) (by kernel_rfl) (by kernel_rfl) (by kernel_rfl) (fun _ _ _ h => h) (by kernel_rfl) (fun w _ => by rfl) (by assumption) ?_
    simp only [Act.put, List.setIfInBounds_toArray, List.set_cons_zero, List.set_cons_succ]
    refine take_yes (i := 7) (some 44) (.bool true) rfl (by kernel_rfl) (by kernel_rfl) (by kernel_rfl) (by kernel_rfl) (fun _ _ _ h => h) (by kernel_rfl) (fun w _ => by rfl) (by assumption) ?_
    simp only [Act.put, List.setIfInBounds_toArray, List.set_cons_zero, List.set_cons_succ]
    refine take_yes (i := 8) (some 45) (.bool true) rfl (by kernel_rfl) (by kernel_rfl) (by kernel_rfl) (by kernel_rfl) (fun _ _ _ h => h) (by kernel_rfl) (fun w _ => by rfl) (by assumption) ?_
    simp only [Act.put, List.setIfInBounds_toArray, List.set_cons_zero, List.set_cons_succ]
    refine take_no (i := 9) (some 46) rfl (by kernel_rfl) (by kernel_rfl) (by kernel_rfl) (by kernel_rfl) (fun _ _ _ h => h) (by kernel_rfl) (by assumption) ?_
    simp only [Act.put, List.setIfInBounds_toArray, List.set_cons_zero, List.set_cons_succ]
    refine take_no (i := 10) (some 47) rfl (by kernel_rfl) (by kernel_rfl) (by kernel_rfl) (by kernel_rfl) (fun _ _ _ h => h) (by kernel_rfl) (by assumption) ?_
    simp only [Act.put, List.setIfInBounds_toArray, List.set_cons_zero, List.set_cons_succ]
    refine take_no (i := 11) (some 48) rfl (by kernel_rfl) (by kernel_rfl) (by kernel_rfl) (by kernel_rfl) (fun _ _ _ h => h) (by kernel_rfl) (by assumption) ?_
    simp only [Act.put, List.setIfInBounds_toArray, List.set_cons_zero, List.set_cons_succ]
    refine take_no (i := 12) (some 49) rfl (by kernel_rfl) (by kernel_rfl) (by kernel_rfl) (by kernel_rfl) (fun _ _ _ h => h) (by kernel_rfl) (by assumption) ?_
    simp only [Act.put, List.setIfInBounds_toArray, List.set_cons_zero, List.set_cons_succ]
    refine take_yes (i := 13) (some 50) (.bool true) rfl (by kernel_rfl) (by kernel_rfl) (by kernel_rfl) (by kernel_rfl) (fun _ _ _ h => h) (by kernel_rfl) (fun w _ => by rfl) (by assumption) ?_
    simp only [Act.put, List.setIfInBounds_toArray, List.set_cons_zero, List.set_cons_succ]
    refine take_yes (i := 14) (some 51) (.bool true) rfl (by kernel_rfl) (by kernel_rfl) (by kernel_rfl) (by kernel_rfl) (fun _ _ _ h => h) (by kernel_rfl) (fun w _ => by rfl) (by assumption) ?_
    simp only [Act.put, List.setIfInBounds_toArray, List.set_cons_zero, List.set_cons_succ]
    refine take_no (i := 15) (some 52) rfl (by kernel_rfl) (by kernel_rfl) (by kernel_rfl) (by kernel_rfl) (fun _ _ _ h => h) (by kernel_rfl) (by assumption) ?_
    simp only [Act.put, List.setIfInBounds_toArray, List.set_cons_zero, List.set_cons_succ]
    refine take_no (i := 16) (some 53) rfl (by kernel_rfl) (by kernel_rfl) (by kernel_rfl) (by kernel_rfl) (fun _ _ _ h => h) (by kernel_rfl) (by assumption) ?_
    simp only [Act.put, List.setIfInBounds_toArray, List.set_cons_zero, List.set_cons_succ]
    refine take_no (i := 17) (some 54) rfl (by kernel_rfl) (by kernel_rfl) (by kernel_rfl) (by kernel_rfl) (fun _ _ _ h => h) (by kernel_rfl) (by assumption) ?_
    simp only [Act.put, List.setIfInBounds_toArray, List.set_cons_zero, List.set_cons_succ]
    refine take_no (i := 18) (some 55) rfl (by kernel_rfl) (by kernel_rfl) (by kernel_rfl) (by kernel_rfl) (fun _ _ _ h => h) (by kernel_rfl) (by assumption) ?_
    simp only [Act.put, List.setIfInBounds_toArray, List.set_cons_zero, List.set_cons_succ]
    refine take_no (i := 19) (some 56) rfl (by kernel_rfl) (by kernel_rfl) (by kernel_rfl) (by kernel_rfl) (fun _ _ _ h => h) (by kernel_rfl) (by assumption) ?_
    simp only [Act.put, List.setIfInBounds_toArray, List.set_cons_zero, List.set_cons_succ]
    refine take_no (i := 20) (some 57) rfl (by kernel_rfl) (by kernel_rfl) (by kernel_rfl) (by kernel_rfl) (fun _ _ _ h => h) (by kernel_rfl) (by assumption) ?_
    simp only [Act.put, List.setIfInBounds_toArray, List.set_cons_zero, List.set_cons_succ]
    refine take_no (i := 21) (some 58) rfl (by kernel_rfl) (by kernel_rfl) (by kernel_rfl) (by kernel_rfl) (fun _ _ _ h => h) (by kernel_rfl) (by assumption) ?_
    simp only [Act.put, List.setIfInBounds_toArray, List.set_cons_zero, List.set_cons_succ]
    refine take_no (i := 22) (some 59) rfl (by kernel_rfl) (by kernel_rfl) (by kernel_rfl) (by kernel_rfl) (fun _ _ _ h => h) (by kernel_rfl) (by assumption) ?_
    simp only [Act.put, List.setIfInBounds_toArray, List.set_cons_zero, List.set_cons_succ]
    refine take_no (i := 23) (some 60) rfl (by kernel_rfl) (by kernel_rfl) (by kernel_rfl) (by kernel_rfl) (fun _ _ _ h => h) (by kernel_rfl) (by assumption) ?_
    simp only [Act.put, List.setIfInBounds_toArray, List.set_cons_zero, List.set_cons_succ]
    refine take_yes (i := 24) (some 61) (.bool true) rfl (by kernel_rfl) (by kernel_rfl) (by kernel_rfl) (by kernel_rfl) (fun _ _ _ h => h) (by kernel_rfl) (fun w _ => by rfl) (by assumption) ?_
    simp only [Act.put, List.setIfInBounds_toArray, List.set_cons_zero, List.set_cons_succ]
    refine take_yes (i := 25) (some 62) (.bool true) rfl (by kernel_rfl) (by kernel_rfl) (by kernel_rfl) (by kernel_rfl) (fun _ _ _ h => h) (by kernel_rfl) (fun w _ => by rfl) (by assumption) ?_
    simp only [Act.put, List.setIfInBounds_toArray, List.set_cons_zero, List.set_cons_succ]
    refine take_no (i := 26) (some 63) rfl (by kernel_rfl) (by kernel_rfl) (by kernel_rfl) (by kernel_rfl) (fun _ _ _ h => h) (by kernel_rfl) (by assumption) ?_
    simp only [Act.put, List.setIfInBounds_toArray, List.set_cons_zero, List.set_cons_succ]
    refine take_no (i := 27) (some 64) rfl (by kernel_rfl) (by kernel_rfl) (by kernel_rfl) (by kernel_rfl) (fun _ _ _ h => h) (by kernel_rfl) (by assumption) ?_
    simp only [Act.put, List.setIfInBounds_toArray, List.set_cons_zero, List.set_cons_succ]
    refine take_no (i := 28) (some 65) rfl (by kernel_rfl) (by kernel_rfl) (by kernel_rfl) (by kernel_rfl) (fun _ _ _ h => h) (by kernel_rfl) (by assumption) ?_
    simp only [Act.put, List.setIfInBounds_toArray, List.set_cons_zero, List.set_cons_succ]
    refine take_no (i := 29) (some 66) rfl (by kernel_rfl) (by kernel_rfl) (by kernel_rfl) (by kernel_rfl) (fun _ _ _ h => h) (by kernel_rfl) (by assumption) ?_
    simp only [Act.put, List.setIfInBounds_toArray, List.set_cons_zero, List.set_cons_succ]
    refine take_no (i := 30) (some 67) rfl (by kernel_rfl) (by kernel_rfl) (by kernel_rfl) (by kernel_rfl) (fun _ _ _ h => h) (by kernel_rfl) (by assumption) ?_
    simp only [Act.put, List.setIfInBounds_toArray, List.set_cons_zero, List.set_cons_succ]
    refine take_yes (i := 31) (some 68) (.bool true) rfl (by kernel_rfl) (by kernel_rfl) (by kernel_rfl) (by kernel_rfl) (fun _ _ _ h => h) (by kernel_rfl) (fun w _ => by rfl) (by assumption) ?_
    simp only [Act.put, List.setIfInBounds_toArray, List.set_cons_zero, List.set_cons_succ]
    refine wpAnyH_done (by kernel_rfl) ?_ _
    clear hHeld
    clear s0 z0 s1 z1 s2 z2 s3 z3 s4 z4 s5 z5 s6 z6 s7 z7
    go_wp2_with fail
    go_ret2
    exact ⟨mix_off HV.out (by decide), HBB.out⟩
  | true =>
  rw [hk1] at HKR
  cases hk2 : keyB rows ep2 cs2 with
  | false =>
    have HV : Hid (mixE rows owners ep cs rows owners ep2 cs2 a b = 380) := Lib.hid (HE.out.trans (if_pos (.inr hk2)))
    rw [hk2] at HKX
    clear hk1 hk2
    refine wp_region_held_drew (S := (fun w' => w'.cell? ⟨w.heap.size, 0, none⟩ = some (.int .i64 ep) ∧ w'.cell? ⟨w.heap.size, 1, none⟩ = some (.slice a1 rows.length k1) ∧ w'.cell? ⟨w.heap.size, 2, none⟩ = some (.slice a2 owners.length k2) ∧ w'.cell? ⟨w.heap.size, 3, none⟩ = some (.slice a3 cs.length k3) ∧ w'.cell? ⟨w.heap.size + 1, 0, none⟩ = some (.int .i64 ep2) ∧ w'.cell? ⟨w.heap.size + 1, 1, none⟩ = some (.slice a4 rows.length k4) ∧ w'.cell? ⟨w.heap.size + 1, 2, none⟩ = some (.slice a5 owners.length k5) ∧ w'.cell? ⟨w.heap.size + 1, 3, none⟩ = some (.slice a6 cs2.length k6))) (by kernel_rfl) (by (try dsimp only); (first | exact ⟨z0, z1, z2, z3, z4, z5, z6, z7⟩ | exact ⟨s0, s1, s2, s3, s4, s5, s6, s7⟩ | go_keep)) (fun hHeld => ?_)
    refine take_yes (i := 0) (some 37) (.bool true) rfl (by kernel_rfl) (by kernel_rfl) (by kernel_rfl) (by kernel_rfl) (fun _ _ _ h => h) (by kernel_rfl) (fun w _ => by rfl) (by assumption) ?_
    simp only [Act.put, List.setIfInBounds_toArray, List.set_cons_zero, List.set_cons_succ]
    refine take_yes (i := 1) (some 38) (.bool false) rfl (by kernel_rfl) (by kernel_rfl) (by kernel_rfl) (by kernel_rfl) (fun _ _ _ h => h) (by kernel_rfl) (fun w _ => by rfl) (by assumption) ?_
    simp only [Act.put, List.setIfInBounds_toArray, List.set_cons_zero, List.set_cons_succ]
    refine take_yes (i := 2) (some 39) (.bool false) rfl (by kernel_rfl) (by kernel_rfl) (by kernel_rfl) (by kernel_rfl) (fun _ _ _ h => h) (by kernel_rfl) (fun w _ => by rfl) (by assumption) ?_
    simp only [Act.put, List.setIfInBounds_toArray, List.set_cons_zero, List.set_cons_succ]
    refine take_yes (i := 3) (some 40) ?_ rfl (by kernel_rfl) (by kernel_rfl) (by kernel_rfl) (by kernel_rfl) (fun _ _ _ h => h) (by kernel_rfl) ?_ (by assumption) ?_
    rotate_left
    · (intro w hSw; (try dsimp only at hSw); go_simp; (try with_reducible rfl))
    simp only [Act.put, List.setIfInBounds_toArray, List.set_cons_zero, List.set_cons_succ]
    refine take_yes (i := 4) (some 41) ?_ rfl (by kernel_rfl) (by kernel_rfl) (by kernel_rfl) (by kernel_rfl) (fun _ _ _ h => h) (by kernel_rfl) ?_ (by assumption) ?_
    rotate_left
    · (intro w hSw; (try dsimp only at hSw); go_simp; (try with_reducible rfl))
    simp only [Act.put, List.setIfInBounds_toArray, List.set_cons_zero, List.set_cons_succ]
    refine wpAnyH_ready (rs := [5]) (by kernel_rfl) (by simp) ?_
    refine AllReadyH.cons rfl (fun K hK => ?_) AllReadyH.nil
    rw [if_pos (by rfl)]
    go_simp
    (go_at_call 21; (with_reducible refine (HKR.out _ HR.out HC.out).mono ?_); rintro e w6 ⟨rfl, hb6⟩; have z0 := below_cell hb6 s0; have z1 := below_cell hb6 s1; have z2 := below_cell hb6 s2; have z3 := below_cell hb6 s3; have z4 := below_cell hb6 s4; have z5 := below_cell hb6 s5; have z6 := below_cell hb6 s6; have z7 := below_cell hb6 s7; replace HR := Lib.hid (HR.out.below hb6); replace HO := Lib.hid (HO.out.below hb6); replace HC := Lib.hid (HC.out.below hb6); replace HR2 := Lib.hid (HR2.out.below hb6); replace HO2 := Lib.hid (HO2.out.below hb6); replace HC2 := Lib.hid (HC2.out.below hb6); replace HA := Lib.hid (HA.out.below hb6); replace HB := Lib.hid (HB.out.below hb6); replace Q1 := Lib.hid ((hb6.block _ (row_lt Q1.out)).trans Q1.out); replace Q2 := Lib.hid ((hb6.block _ (row_lt Q2.out)).trans Q2.out); replace HBB := Lib.hid (HBB.out.trans (hb6.mono HBB.out.size)); clear hb6)
    refine hK.out _ _ (by (try dsimp only); (first | exact ⟨z0, z1, z2, z3, z4, z5, z6, z7⟩ | exact ⟨s0, s1, s2, s3, s4, s5, s6, s7⟩ | go_keep)) (fun hHeld => ?_)
    clear hK K
    try simp only [Act.put, List.setIfInBounds_toArray, List.set_cons_zero, List.set_cons_succ]
    refine take_yes (i := 6) (some 43) (.bool false) rfl (by kernel_rfl) (by kernel_rfl) (by kernel_rfl) (by kernel_rfl) (fun _ _ _ h => h) (by kernel_rfl) (fun w _ => by rfl) (by assumption) ?_
    simp only [Act.put, List.setIfInBounds_toArray, List.set_cons_zero, List.set_cons_succ]
    refine take_yes (i := 7) (some 44) (.bool false) rfl (by kernel_rfl) (by kernel_rfl) (by kernel_rfl) (by kernel_rfl) (fun _ _ _ h => h) (by kernel_rfl) (fun w _ => by rfl) (by assumption) ?_
    simp only [Act.put, List.setIfInBounds_toArray, List.set_cons_zero, List.set_cons_succ]
    refine take_yes (i := 8) (some 45) (.bool false) rfl (by kernel_rfl) (by kernel_rfl) (by kernel_rfl) (by kernel_rfl) (fun _ _ _ h => h) (by kernel_rfl) (fun w _ => by rfl) (by assumption) ?_
    simp only [Act.put, List.setIfInBounds_toArray, List.set_cons_zero, List.set_cons_succ]
    refine take_yes (i := 9) (some 46) ?_ rfl (by kernel_rfl) (by kernel_rfl) (by kernel_rfl) (by kernel_rfl) (fun _ _ _ h => h) (by kernel_rfl) ?_ (by assumption) ?_
    rotate_left
    · (intro w hSw; (try dsimp only at hSw); go_simp; (try with_reducible rfl))
    simp only [Act.put, List.setIfInBounds_toArray, List.set_cons_zero, List.set_cons_succ]
    refine take_yes (i := 10) (some 47) ?_ rfl (by kernel_rfl) (by kernel_rfl) (by kernel_rfl) (by kernel_rfl) (fun _ _ _ h => h) (by kernel_rfl) ?_ (by assumption) ?_
    rotate_left
    · (intro w hSw; (try dsimp only at hSw); go_simp; (try with_reducible rfl))
    simp only [Act.put, List.setIfInBounds_toArray, List.set_cons_zero, List.set_cons_succ]
    refine wpAnyH_ready (rs := [11]) (by kernel_rfl) (by simp) ?_
    refine AllReadyH.cons rfl (fun K hK => ?_) AllReadyH.nil
    rw [if_pos (by rfl)]
    go_simp
    (go_at_call 21; (with_reducible refine (HKX.out _ HR2.out HC2.out).mono ?_); rintro e w7 ⟨rfl, hb7⟩; replace z0 := below_cell hb7 z0; replace z1 := below_cell hb7 z1; replace z2 := below_cell hb7 z2; replace z3 := below_cell hb7 z3; replace z4 := below_cell hb7 z4; replace z5 := below_cell hb7 z5; replace z6 := below_cell hb7 z6; replace z7 := below_cell hb7 z7; replace HR := Lib.hid (HR.out.below hb7); replace HO := Lib.hid (HO.out.below hb7); replace HC := Lib.hid (HC.out.below hb7); replace HR2 := Lib.hid (HR2.out.below hb7); replace HO2 := Lib.hid (HO2.out.below hb7); replace HC2 := Lib.hid (HC2.out.below hb7); replace HA := Lib.hid (HA.out.below hb7); replace HB := Lib.hid (HB.out.below hb7); replace Q1 := Lib.hid ((hb7.block _ (row_lt Q1.out)).trans Q1.out); replace Q2 := Lib.hid ((hb7.block _ (row_lt Q2.out)).trans Q2.out); replace HBB := Lib.hid (HBB.out.trans (hb7.mono HBB.out.size)); clear hb7)
    refine hK.out _ _ (by (try dsimp only); (first | exact ⟨z0, z1, z2, z3, z4, z5, z6, z7⟩ | exact ⟨s0, s1, s2, s3, s4, s5, s6, s7⟩ | go_keep)) (fun hHeld => ?_)
    clear hK K
    try simp only [Act.put, List.setIfInBounds_toArray, List.set_cons_zero, List.set_cons_succ]
    refine take_yes (i := 12) (some 49) (.bool true) rfl (by kernel_rfl) (by kernel_rfl) (by kernel_rfl) (by kernel_rfl) (fun _ _ _ h => h) (by kernel_rfl) (fun w _ => by rfl) (by assumption) ?_
    simp only [Act.put, List.setIfInBounds_toArray, List.set_cons_zero, List.set_cons_succ]
    refine take_yes (i := 13) (some 50) (.bool true) rfl (by kernel_rfl) (by kernel_rfl) (by kernel_rfl) (by kernel_rfl) (fun _ _ _ h => h) (by kernel_rfl) (fun w _ => by rfl) (by assumption) ?_
    simp only [Act.put, List.setIfInBounds_toArray, List.set_cons_zero, List.set_cons_succ]
    refine take_yes (i := 14) (some 51) (.bool true) rfl (by kernel_rfl) (by kernel_rfl) (by kernel_rfl) (by kernel_rfl) (fun _ _ _ h => h) (by kernel_rfl) (fun w _ => by rfl) (by assumption) ?_
    simp only [Act.put, List.setIfInBounds_toArray, List.set_cons_zero, List.set_cons_succ]
    refine take_no (i := 15) (some 52) rfl (by kernel_rfl) (by kernel_rfl) (by kernel_rfl) (by kernel_rfl) (fun _ _ _ h => h) (by kernel_rfl) (by assumption) ?_
    simp only [Act.put, List.setIfInBounds_toArray, List.set_cons_zero, List.set_cons_succ]
    refine take_no (i := 16) (some 53) rfl (by kernel_rfl) (by kernel_rfl) (by kernel_rfl) (by kernel_rfl) (fun _ _ _ h => h) (by kernel_rfl) (by assumption) ?_
    simp only [Act.put, List.setIfInBounds_toArray, List.set_cons_zero, List.set_cons_succ]
    refine take_no (i := 17) (some 54) rfl (by kernel_rfl) (by kernel_rfl) (by kernel_rfl) (by kernel_rfl) (fun _ _ _ h => h) (by kernel_rfl) (by assumption) ?_
    simp only [Act.put, List.setIfInBounds_toArray, List.set_cons_zero, List.set_cons_succ]
    refine take_no (i := 18) (some 55) rfl (by kernel_rfl) (by kernel_rfl) (by kernel_rfl) (by kernel_rfl) (fun _ _ _ h => h) (by kernel_rfl) (by assumption) ?_
    simp only [Act.put, List.setIfInBounds_toArray, List.set_cons_zero, List.set_cons_succ]
    refine take_no (i := 19) (some 56) rfl (by kernel_rfl) (by kernel_rfl) (by kernel_rfl) (by kernel_rfl) (fun _ _ _ h => h) (by kernel_rfl) (by assumption) ?_
    simp only [Act.put, List.setIfInBounds_toArray, List.set_cons_zero, List.set_cons_succ]
    refine take_no (i := 20) (some 57) rfl (by kernel_rfl) (by kernel_rfl) (by kernel_rfl) (by kernel_rfl) (fun _ _ _ h => h) (by kernel_rfl) (by assumption) ?_
    simp only [Act.put, List.setIfInBounds_toArray, List.set_cons_zero, List.set_cons_succ]
    refine take_no (i := 21) (some 58) rfl (by kernel_rfl) (by kernel_rfl) (by kernel_rfl) (by kernel_rfl) (fun _ _ _ h => h) (by kernel_rfl) (by assumption) ?_
    simp only [Act.put, List.setIfInBounds_toArray, List.set_cons_zero, List.set_cons_succ]
    refine take_no (i := 22) (some 59) rfl (by kernel_rfl) (by kernel_rfl) (by kernel_rfl) (by kernel_rfl) (fun _ _ _ h => h) (by kernel_rfl) (by assumption) ?_
    simp only [Act.put, List.setIfInBounds_toArray, List.set_cons_zero, List.set_cons_succ]
    refine take_no (i := 23) (some 60) rfl (by kernel_rfl) (by kernel_rfl) (by kernel_rfl) (by kernel_rfl) (fun _ _ _ h => h) (by kernel_rfl) (by assumption) ?_
    simp only [Act.put, List.setIfInBounds_toArray, List.set_cons_zero, List.set_cons_succ]
    refine take_yes (i := 24) (some 61) (.bool true) rfl (by kernel_rfl) (by kernel_rfl) (by kernel_rfl) (by kernel_rfl) (fun _ _ _ h => h) (by kernel_rfl) (fun w _ => by rfl) (by assumption) ?_
    simp only [Act.put, List.setIfInBounds_toArray, List.set_cons_zero, List.set_cons_succ]
    refine take_yes (i := 25) (some 62) (.bool true) rfl (by kernel_rfl) (by kernel_rfl) (by kernel_rfl) (by kernel_rfl) (fun _ _ _ h => h) (by kernel_rfl) (fun w _ => by rfl) (by assumption) ?_
    simp only [Act.put, List.setIfInBounds_toArray, List.set_cons_zero, List.set_cons_succ]
    refine take_no (i := 26) (some 63) rfl (by kernel_rfl) (by kernel_rfl) (by kernel_rfl) (by kernel_rfl) (fun _ _ _ h => h) (by kernel_rfl) (by assumption) ?_
    simp only [Act.put, List.setIfInBounds_toArray, List.set_cons_zero, List.set_cons_succ]
    refine take_no (i := 27) (some 64) rfl (by kernel_rfl) (by kernel_rfl) (by kernel_rfl) (by kernel_rfl) (fun _ _ _ h => h) (by kernel_rfl) (by assumption) ?_
    simp only [Act.put, List.setIfInBounds_toArray, List.set_cons_zero, List.set_cons_succ]
    refine take_no (i := 28) (some 65) rfl (by kernel_rfl) (by kernel_rfl) (by kernel_rfl) (by kernel_rfl) (fun _ _ _ h => h) (by kernel_rfl) (by assumption) ?_
    simp only [Act.put, List.setIfInBounds_toArray, List.set_cons_zero, List.set_cons_succ]
    refine take_no (i := 29) (some 66) rfl (by kernel_rfl) (by kernel_rfl) (by kernel_rfl) (by kernel_rfl) (fun _ _ _ h => h) (by kernel_rfl) (by assumption) ?_
    simp only [Act.put, List.setIfInBounds_toArray, List.set_cons_zero, List.set_cons_succ]
    refine take_no (i := 30) (some 67) rfl (by kernel_rfl) (by kernel_rfl) (by kernel_rfl) (by kernel_rfl) (fun _ _ _ h => h) (by kernel_rfl) (by assumption) ?_
    simp only [Act.put, List.setIfInBounds_toArray, List.set_cons_zero, List.set_cons_succ]
    refine take_yes (i := 31) (some 68) (.bool true) rfl (by kernel_rfl) (by kernel_rfl) (by kernel_rfl) (by kernel_rfl) (fun _ _ _ h => h) (by kernel_rfl) (fun w _ => by rfl) (by assumption) ?_
    simp only [Act.put, List.setIfInBounds_toArray, List.set_cons_zero, List.set_cons_succ]
    refine wpAnyH_done (by kernel_rfl) ?_ _
    clear hHeld
    clear s0 z0 s1 z1 s2 z2 s3 z3 s4 z4 s5 z5 s6 z6 s7 z7
    go_wp2_with fail
    go_ret2
    exact ⟨mix_off HV.out (by decide), HBB.out⟩
  | true =>
  rw [hk2] at HKX
  replace HE := Lib.hid (HE.out.trans (if_neg (by rw [hk1, hk2]; decide)))
  obtain ⟨-, -, hcb⟩ := keyB_ok hk1
  obtain ⟨-, -, hcb2⟩ := keyB_ok hk2
  have HD1 := Lib.hid (comB_dchk HP0.out hcb)
  have HD2 := Lib.hid (comB_dchk HP0.out hcb2)
  have hcl := (progE_ok HP0.out).cols
  have hce := (comB_el hcb).2
  have hce2 := (comB_el hcb2).2
  obtain ⟨-, b3, o3, nc, kc, ec, s8⟩ := HC.out.get (k := 0) (by rw [hce]; exact hcl)
  obtain ⟨-, b6, o6, nc6, kc6, ec6, s9⟩ := HC2.out.get (k := 0) (by rw [hce2]; exact hcl)
  simp only [Value.slice.injEq] at ec ec6
  obtain ⟨rfl, -, -⟩ := ec
  obtain ⟨rfl, -, -⟩ := ec6
  rw [Nat.add_zero] at s8 s9
  have j1 : (0 : Int) < (cs.length : Int) := by rw [hce]; omega
  have j2 : (0 : Int) < (cs2.length : Int) := by rw [hce2]; omega
  have j3 : 0 < cs.length := by omega
  have j4 : 0 < cs2.length := by omega
  clear hcb hcb2 hcl hce hce2 hk1 hk2
  obtain ⟨x, hx⟩ : ∃ x, x = nth cs 0 := ⟨_, rfl⟩
  obtain ⟨y, hy⟩ : ∃ y, y = nth cs2 0 := ⟨_, rfl⟩
  rw [← hx] at s8
  rw [← hy] at s9
  rw [← hx, ← hy] at HE
  have HX := Lib.hid hx
  clear hx hy
  by_cases hxy : x = y
  rotate_left
  · have HV : Hid (mixE rows owners ep cs rows owners ep2 cs2 a b = 380) := Lib.hid (HE.out.trans (if_pos (.inl hxy)))
    have d1 : (x != y) = true := bne_iff_ne.2 hxy
    clear hxy
    refine wp_region_held_drew (S := (fun w' => w'.cell? ⟨w.heap.size, 0, none⟩ = some (.int .i64 ep) ∧ w'.cell? ⟨w.heap.size, 1, none⟩ = some (.slice a1 rows.length k1) ∧ w'.cell? ⟨w.heap.size, 2, none⟩ = some (.slice a2 owners.length k2) ∧ w'.cell? ⟨w.heap.size, 3, none⟩ = some (.slice (some ⟨b3, o3, none⟩) cs.length k3) ∧ w'.cell? ⟨w.heap.size + 1, 0, none⟩ = some (.int .i64 ep2) ∧ w'.cell? ⟨w.heap.size + 1, 1, none⟩ = some (.slice a4 rows.length k4) ∧ w'.cell? ⟨w.heap.size + 1, 2, none⟩ = some (.slice a5 owners.length k5) ∧ w'.cell? ⟨w.heap.size + 1, 3, none⟩ = some (.slice (some ⟨b6, o6, none⟩) cs2.length k6) ∧ w'.cell? ⟨b3, o3, none⟩ = some (.int .i64 x) ∧ w'.cell? ⟨b6, o6, none⟩ = some (.int .i64 y))) (by kernel_rfl) (by (try dsimp only); (first | exact ⟨z0, z1, z2, z3, z4, z5, z6, z7, z8, z9⟩ | exact ⟨s0, s1, s2, s3, s4, s5, s6, s7, s8, s9⟩ | go_keep)) (fun hHeld => ?_)
    refine take_yes (i := 0) (some 37) (.bool true) rfl (by kernel_rfl) (by kernel_rfl) (by kernel_rfl) (by kernel_rfl) (fun _ _ _ h => h) (by kernel_rfl) (fun w _ => by rfl) (by assumption) ?_
    simp only [Act.put, List.setIfInBounds_toArray, List.set_cons_zero, List.set_cons_succ]
    refine take_yes (i := 1) (some 38) (.bool false) rfl (by kernel_rfl) (by kernel_rfl) (by kernel_rfl) (by kernel_rfl) (fun _ _ _ h => h) (by kernel_rfl) (fun w _ => by rfl) (by assumption) ?_
    simp only [Act.put, List.setIfInBounds_toArray, List.set_cons_zero, List.set_cons_succ]
    refine take_yes (i := 2) (some 39) (.bool false) rfl (by kernel_rfl) (by kernel_rfl) (by kernel_rfl) (by kernel_rfl) (fun _ _ _ h => h) (by kernel_rfl) (fun w _ => by rfl) (by assumption) ?_
    simp only [Act.put, List.setIfInBounds_toArray, List.set_cons_zero, List.set_cons_succ]
    refine take_yes (i := 3) (some 40) ?_ rfl (by kernel_rfl) (by kernel_rfl) (by kernel_rfl) (by kernel_rfl) (fun _ _ _ h => h) (by kernel_rfl) ?_ (by assumption) ?_
    rotate_left
    · (intro w hSw; (try dsimp only at hSw); go_simp; (try with_reducible rfl))
    simp only [Act.put, List.setIfInBounds_toArray, List.set_cons_zero, List.set_cons_succ]
    refine take_yes (i := 4) (some 41) ?_ rfl (by kernel_rfl) (by kernel_rfl) (by kernel_rfl) (by kernel_rfl) (fun _ _ _ h => h) (by kernel_rfl) ?_ (by assumption) ?_
    rotate_left
    · (intro w hSw; (try dsimp only at hSw); go_simp; (try with_reducible rfl))
    simp only [Act.put, List.setIfInBounds_toArray, List.set_cons_zero, List.set_cons_succ]
    refine wpAnyH_ready (rs := [5]) (by kernel_rfl) (by simp) ?_
    refine AllReadyH.cons rfl (fun K hK => ?_) AllReadyH.nil
    rw [if_pos (by rfl)]
    go_simp
    (go_at_call 21; (with_reducible refine (HKR.out _ HR.out HC.out).mono ?_); rintro e w6 ⟨rfl, hb6⟩; have z0 := below_cell hb6 s0; have z1 := below_cell hb6 s1; have z2 := below_cell hb6 s2; have z3 := below_cell hb6 s3; have z4 := below_cell hb6 s4; have z5 := below_cell hb6 s5; have z6 := below_cell hb6 s6; have z7 := below_cell hb6 s7; have z8 := below_cell hb6 s8; have z9 := below_cell hb6 s9; replace HR := Lib.hid (HR.out.below hb6); replace HO := Lib.hid (HO.out.below hb6); replace HC := Lib.hid (HC.out.below hb6); replace HR2 := Lib.hid (HR2.out.below hb6); replace HO2 := Lib.hid (HO2.out.below hb6); replace HC2 := Lib.hid (HC2.out.below hb6); replace HA := Lib.hid (HA.out.below hb6); replace HB := Lib.hid (HB.out.below hb6); replace Q1 := Lib.hid ((hb6.block _ (row_lt Q1.out)).trans Q1.out); replace Q2 := Lib.hid ((hb6.block _ (row_lt Q2.out)).trans Q2.out); replace HBB := Lib.hid (HBB.out.trans (hb6.mono HBB.out.size)); clear hb6)
    refine hK.out _ _ (by (try dsimp only); (first | exact ⟨z0, z1, z2, z3, z4, z5, z6, z7, z8, z9⟩ | exact ⟨s0, s1, s2, s3, s4, s5, s6, s7, s8, s9⟩ | go_keep)) (fun hHeld => ?_)
    clear hK K
    try simp only [Act.put, List.setIfInBounds_toArray, List.set_cons_zero, List.set_cons_succ]
    refine take_yes (i := 6) (some 43) (.bool false) rfl (by kernel_rfl) (by kernel_rfl) (by kernel_rfl) (by kernel_rfl) (fun _ _ _ h => h) (by kernel_rfl) (fun w _ => by rfl) (by assumption) ?_
    simp only [Act.put, List.setIfInBounds_toArray, List.set_cons_zero, List.set_cons_succ]
    refine take_yes (i := 7) (some 44) (.bool false) rfl (by kernel_rfl) (by kernel_rfl) (by kernel_rfl) (by kernel_rfl) (fun _ _ _ h => h) (by kernel_rfl) (fun w _ => by rfl) (by assumption) ?_
    simp only [Act.put, List.setIfInBounds_toArray, List.set_cons_zero, List.set_cons_succ]
    refine take_yes (i := 8) (some 45) (.bool false) rfl (by kernel_rfl) (by kernel_rfl) (by kernel_rfl) (by kernel_rfl) (fun _ _ _ h => h) (by kernel_rfl) (fun w _ => by rfl) (by assumption) ?_
    simp only [Act.put, List.setIfInBounds_toArray, List.set_cons_zero, List.set_cons_succ]
    refine take_yes (i := 9) (some 46) ?_ rfl (by kernel_rfl) (by kernel_rfl) (by kernel_rfl) (by kernel_rfl) (fun _ _ _ h => h) (by kernel_rfl) ?_ (by assumption) ?_
    rotate_left
    · (intro w hSw; (try dsimp only at hSw); go_simp; (try with_reducible rfl))
    simp only [Act.put, List.setIfInBounds_toArray, List.set_cons_zero, List.set_cons_succ]
    refine take_yes (i := 10) (some 47) ?_ rfl (by kernel_rfl) (by kernel_rfl) (by kernel_rfl) (by kernel_rfl) (fun _ _ _ h => h) (by kernel_rfl) ?_ (by assumption) ?_
    rotate_left
    · (intro w hSw; (try dsimp only at hSw); go_simp; (try with_reducible rfl))
    simp only [Act.put, List.setIfInBounds_toArray, List.set_cons_zero, List.set_cons_succ]
    refine wpAnyH_ready (rs := [11]) (by kernel_rfl) (by simp) ?_
    refine AllReadyH.cons rfl (fun K hK => ?_) AllReadyH.nil
    rw [if_pos (by rfl)]
    go_simp
    (go_at_call 21; (with_reducible refine (HKX.out _ HR2.out HC2.out).mono ?_); rintro e w7 ⟨rfl, hb7⟩; replace z0 := below_cell hb7 z0; replace z1 := below_cell hb7 z1; replace z2 := below_cell hb7 z2; replace z3 := below_cell hb7 z3; replace z4 := below_cell hb7 z4; replace z5 := below_cell hb7 z5; replace z6 := below_cell hb7 z6; replace z7 := below_cell hb7 z7; replace z8 := below_cell hb7 z8; replace z9 := below_cell hb7 z9; replace HR := Lib.hid (HR.out.below hb7); replace HO := Lib.hid (HO.out.below hb7); replace HC := Lib.hid (HC.out.below hb7); replace HR2 := Lib.hid (HR2.out.below hb7); replace HO2 := Lib.hid (HO2.out.below hb7); replace HC2 := Lib.hid (HC2.out.below hb7); replace HA := Lib.hid (HA.out.below hb7); replace HB := Lib.hid (HB.out.below hb7); replace Q1 := Lib.hid ((hb7.block _ (row_lt Q1.out)).trans Q1.out); replace Q2 := Lib.hid ((hb7.block _ (row_lt Q2.out)).trans Q2.out); replace HBB := Lib.hid (HBB.out.trans (hb7.mono HBB.out.size)); clear hb7)
    refine hK.out _ _ (by (try dsimp only); (first | exact ⟨z0, z1, z2, z3, z4, z5, z6, z7, z8, z9⟩ | exact ⟨s0, s1, s2, s3, s4, s5, s6, s7, s8, s9⟩ | go_keep)) (fun hHeld => ?_)
    clear hK K
    try simp only [Act.put, List.setIfInBounds_toArray, List.set_cons_zero, List.set_cons_succ]
    refine take_yes (i := 12) (some 49) (.bool false) rfl (by kernel_rfl) (by kernel_rfl) (by kernel_rfl) (by kernel_rfl) (fun _ _ _ h => h) (by kernel_rfl) (fun w _ => by rfl) (by assumption) ?_
    simp only [Act.put, List.setIfInBounds_toArray, List.set_cons_zero, List.set_cons_succ]
    refine take_yes (i := 13) (some 50) (.bool false) rfl (by kernel_rfl) (by kernel_rfl) (by kernel_rfl) (by kernel_rfl) (fun _ _ _ h => h) (by kernel_rfl) (fun w _ => by rfl) (by assumption) ?_
    simp only [Act.put, List.setIfInBounds_toArray, List.set_cons_zero, List.set_cons_succ]
    refine take_yes (i := 14) (some 51) (.bool false) rfl (by kernel_rfl) (by kernel_rfl) (by kernel_rfl) (by kernel_rfl) (fun _ _ _ h => h) (by kernel_rfl) (fun w _ => by rfl) (by assumption) ?_
    simp only [Act.put, List.setIfInBounds_toArray, List.set_cons_zero, List.set_cons_succ]
    refine take_yes (i := 15) (some 52) ?_ rfl (by kernel_rfl) (by kernel_rfl) (by kernel_rfl) (by kernel_rfl) (fun _ _ _ h => h) (by kernel_rfl) ?_ (by assumption) ?_
    rotate_left
    · (intro w hSw; (try dsimp only at hSw); go_simp; (try with_reducible rfl))
    simp only [Act.put, List.setIfInBounds_toArray, List.set_cons_zero, List.set_cons_succ]
    refine take_yes (i := 16) (some 53) ?_ rfl (by kernel_rfl) (by kernel_rfl) (by kernel_rfl) (by kernel_rfl) (fun _ _ _ h => h) (by kernel_rfl) ?_ (by assumption) ?_
    rotate_left
    · (intro w hSw; (try dsimp only at hSw); go_simp; (try with_reducible rfl))
    simp only [Act.put, List.setIfInBounds_toArray, List.set_cons_zero, List.set_cons_succ]
    refine take_yes (i := 17) (some 54) ?_ rfl (by kernel_rfl) (by kernel_rfl) (by kernel_rfl) (by kernel_rfl) (fun _ _ _ h => h) (by kernel_rfl) ?_ (by assumption) ?_
    rotate_left
    · (intro w hSw; (try dsimp only at hSw); go_simp; (try with_reducible rfl))
    simp only [Act.put, List.setIfInBounds_toArray, List.set_cons_zero, List.set_cons_succ]
    refine take_yes (i := 18) (some 55) ?_ rfl (by kernel_rfl) (by kernel_rfl) (by kernel_rfl) (by kernel_rfl) (fun _ _ _ h => h) (by kernel_rfl) ?_ (by assumption) ?_
    rotate_left
    · (intro w hSw; (try dsimp only at hSw); go_simp; (try with_reducible rfl))
    simp only [Act.put, List.setIfInBounds_toArray, List.set_cons_zero, List.set_cons_succ]
    refine take_yes (i := 19) (some 56) ?_ rfl (by kernel_rfl) (by kernel_rfl) (by kernel_rfl) (by kernel_rfl) (fun _ _ _ h => h) (by kernel_rfl) ?_ (by assumption) ?_
    rotate_left
    · (intro w hSw; (try dsimp only at hSw); go_simp; (try with_reducible rfl))
    simp only [Act.put, List.setIfInBounds_toArray, List.set_cons_zero, List.set_cons_succ]
    refine take_yes (i := 20) (some 57) ?_ rfl (by kernel_rfl) (by kernel_rfl) (by kernel_rfl) (by kernel_rfl) (fun _ _ _ h => h) (by kernel_rfl) ?_ (by assumption) ?_
    rotate_left
    · (intro w hSw; (try dsimp only at hSw); go_simp; (try with_reducible rfl))
    simp only [Act.put, List.setIfInBounds_toArray, List.set_cons_zero, List.set_cons_succ]
    refine take_yes (i := 21) (some 58) ?_ rfl (by kernel_rfl) (by kernel_rfl) (by kernel_rfl) (by kernel_rfl) (fun _ _ _ h => h) (by kernel_rfl) ?_ (by assumption) ?_
    rotate_left
    · (intro w hSw; (try dsimp only at hSw); go_simp; (try with_reducible rfl))
    simp only [Act.put, List.setIfInBounds_toArray, List.set_cons_zero, List.set_cons_succ]
    refine take_yes (i := 22) (some 59) ?_ rfl (by kernel_rfl) (by kernel_rfl) (by kernel_rfl) (by kernel_rfl) (fun _ _ _ h => h) (by kernel_rfl) ?_ (by assumption) ?_
    rotate_left
    · (intro w hSw; (try dsimp only at hSw); go_simp; (try with_reducible rfl))
    simp only [Act.put, List.setIfInBounds_toArray, List.set_cons_zero, List.set_cons_succ]
    refine take_yes (i := 23) (some 60) ?_ rfl (by kernel_rfl) (by kernel_rfl) (by kernel_rfl) (by kernel_rfl) (fun _ _ _ h => h) (by kernel_rfl) ?_ (by assumption) ?_
    rotate_left
    · (intro w hSw; (try dsimp only at hSw); go_simp; (try with_reducible rfl))
    simp only [Act.put, List.setIfInBounds_toArray, List.set_cons_zero, List.set_cons_succ]
    refine take_yes (i := 24) (some 61) (.bool true) rfl (by kernel_rfl) (by kernel_rfl) (by kernel_rfl) (by kernel_rfl) (fun _ _ _ h => h) (by kernel_rfl) (fun w _ => by rfl) (by assumption) ?_
    simp only [Act.put, List.setIfInBounds_toArray, List.set_cons_zero, List.set_cons_succ]
    refine take_yes (i := 25) (some 62) (.bool true) rfl (by kernel_rfl) (by kernel_rfl) (by kernel_rfl) (by kernel_rfl) (fun _ _ _ h => h) (by kernel_rfl) (fun w _ => by rfl) (by assumption) ?_
    simp only [Act.put, List.setIfInBounds_toArray, List.set_cons_zero, List.set_cons_succ]
    refine take_no (i := 26) (some 63) rfl (by kernel_rfl) (by kernel_rfl) (by kernel_rfl) (by kernel_rfl) (fun _ _ _ h => h) (by kernel_rfl) (by assumption) ?_
    simp only [Act.put, List.setIfInBounds_toArray, List.set_cons_zero, List.set_cons_succ]
    refine take_no (i := 27) (some 64) rfl (by kernel_rfl) (by kernel_rfl) (by kernel_rfl) (by kernel_rfl) (fun _ _ _ h => h) (by kernel_rfl) (by assumption) ?_
    simp only [Act.put, List.setIfInBounds_toArray, List.set_cons_zero, List.set_cons_succ]
    refine take_no (i := 28) (some 65) rfl (by kernel_rfl) (by kernel_rfl) (by kernel_rfl) (by kernel_rfl) (fun _ _ _ h => h) (by kernel_rfl) (by assumption) ?_
    simp only [Act.put, List.setIfInBounds_toArray, List.set_cons_zero, List.set_cons_succ]
    refine take_no (i := 29) (some 66) rfl (by kernel_rfl) (by kernel_rfl) (by kernel_rfl) (by kernel_rfl) (fun _ _ _ h => h) (by kernel_rfl) (by assumption) ?_
    simp only [Act.put, List.setIfInBounds_toArray, List.set_cons_zero, List.set_cons_succ]
    refine take_no (i := 30) (some 67) rfl (by kernel_rfl) (by kernel_rfl) (by kernel_rfl) (by kernel_rfl) (fun _ _ _ h => h) (by kernel_rfl) (by assumption) ?_
    simp only [Act.put, List.setIfInBounds_toArray, List.set_cons_zero, List.set_cons_succ]
    refine take_yes (i := 31) (some 68) (.bool true) rfl (by kernel_rfl) (by kernel_rfl) (by kernel_rfl) (by kernel_rfl) (fun _ _ _ h => h) (by kernel_rfl) (fun w _ => by rfl) (by assumption) ?_
    simp only [Act.put, List.setIfInBounds_toArray, List.set_cons_zero, List.set_cons_succ]
    refine wpAnyH_done (by kernel_rfl) ?_ _
    clear hHeld
    clear s0 z0 s1 z1 s2 z2 s3 z3 s4 z4 s5 z5 s6 z6 s7 z7 s8 z8 s9 z9
    go_wp2_with fail
    go_ret2
    exact ⟨mix_off HV.out (by decide), HBB.out⟩
  have d1 : (x != y) = false := by rw [hxy]; exact bne_self_eq_false _
  by_cases hle : ep2 ≤ ep
  · have HV : Hid (mixE rows owners ep cs rows owners ep2 cs2 a b = 380) := Lib.hid (HE.out.trans (if_pos (.inr hle)))
    have d2 : decide (ep2 ≤ ep) = true := decide_eq_true hle
    clear hle hxy
    refine wp_region_held_drew (S := (fun w' => w'.cell? ⟨w.heap.size, 0, none⟩ = some (.int .i64 ep) ∧ w'.cell? ⟨w.heap.size, 1, none⟩ = some (.slice a1 rows.length k1) ∧ w'.cell? ⟨w.heap.size, 2, none⟩ = some (.slice a2 owners.length k2) ∧ w'.cell? ⟨w.heap.size, 3, none⟩ = some (.slice (some ⟨b3, o3, none⟩) cs.length k3) ∧ w'.cell? ⟨w.heap.size + 1, 0, none⟩ = some (.int .i64 ep2) ∧ w'.cell? ⟨w.heap.size + 1, 1, none⟩ = some (.slice a4 rows.length k4) ∧ w'.cell? ⟨w.heap.size + 1, 2, none⟩ = some (.slice a5 owners.length k5) ∧ w'.cell? ⟨w.heap.size + 1, 3, none⟩ = some (.slice (some ⟨b6, o6, none⟩) cs2.length k6) ∧ w'.cell? ⟨b3, o3, none⟩ = some (.int .i64 x) ∧ w'.cell? ⟨b6, o6, none⟩ = some (.int .i64 y))) (by kernel_rfl) (by (try dsimp only); (first | exact ⟨z0, z1, z2, z3, z4, z5, z6, z7, z8, z9⟩ | exact ⟨s0, s1, s2, s3, s4, s5, s6, s7, s8, s9⟩ | go_keep)) (fun hHeld => ?_)
    refine take_yes (i := 0) (some 37) (.bool true) rfl (by kernel_rfl) (by kernel_rfl) (by kernel_rfl) (by kernel_rfl) (fun _ _ _ h => h) (by kernel_rfl) (fun w _ => by rfl) (by assumption) ?_
    simp only [Act.put, List.setIfInBounds_toArray, List.set_cons_zero, List.set_cons_succ]
    refine take_yes (i := 1) (some 38) (.bool false) rfl (by kernel_rfl) (by kernel_rfl) (by kernel_rfl) (by kernel_rfl) (fun _ _ _ h => h) (by kernel_rfl) (fun w _ => by rfl) (by assumption) ?_
    simp only [Act.put, List.setIfInBounds_toArray, List.set_cons_zero, List.set_cons_succ]
    refine take_yes (i := 2) (some 39) (.bool false) rfl (by kernel_rfl) (by kernel_rfl) (by kernel_rfl) (by kernel_rfl) (fun _ _ _ h => h) (by kernel_rfl) (fun w _ => by rfl) (by assumption) ?_
    simp only [Act.put, List.setIfInBounds_toArray, List.set_cons_zero, List.set_cons_succ]
    refine take_yes (i := 3) (some 40) ?_ rfl (by kernel_rfl) (by kernel_rfl) (by kernel_rfl) (by kernel_rfl) (fun _ _ _ h => h) (by kernel_rfl) ?_ (by assumption) ?_
    rotate_left
    · (intro w hSw; (try dsimp only at hSw); go_simp; (try with_reducible rfl))
    simp only [Act.put, List.setIfInBounds_toArray, List.set_cons_zero, List.set_cons_succ]
    refine take_yes (i := 4) (some 41) ?_ rfl (by kernel_rfl) (by kernel_rfl) (by kernel_rfl) (by kernel_rfl) (fun _ _ _ h => h) (by kernel_rfl) ?_ (by assumption) ?_
    rotate_left
    · (intro w hSw; (try dsimp only at hSw); go_simp; (try with_reducible rfl))
    simp only [Act.put, List.setIfInBounds_toArray, List.set_cons_zero, List.set_cons_succ]
    refine wpAnyH_ready (rs := [5]) (by kernel_rfl) (by simp) ?_
    refine AllReadyH.cons rfl (fun K hK => ?_) AllReadyH.nil
    rw [if_pos (by rfl)]
    go_simp
    (go_at_call 21; (with_reducible refine (HKR.out _ HR.out HC.out).mono ?_); rintro e w6 ⟨rfl, hb6⟩; have z0 := below_cell hb6 s0; have z1 := below_cell hb6 s1; have z2 := below_cell hb6 s2; have z3 := below_cell hb6 s3; have z4 := below_cell hb6 s4; have z5 := below_cell hb6 s5; have z6 := below_cell hb6 s6; have z7 := below_cell hb6 s7; have z8 := below_cell hb6 s8; have z9 := below_cell hb6 s9; replace HR := Lib.hid (HR.out.below hb6); replace HO := Lib.hid (HO.out.below hb6); replace HC := Lib.hid (HC.out.below hb6); replace HR2 := Lib.hid (HR2.out.below hb6); replace HO2 := Lib.hid (HO2.out.below hb6); replace HC2 := Lib.hid (HC2.out.below hb6); replace HA := Lib.hid (HA.out.below hb6); replace HB := Lib.hid (HB.out.below hb6); replace Q1 := Lib.hid ((hb6.block _ (row_lt Q1.out)).trans Q1.out); replace Q2 := Lib.hid ((hb6.block _ (row_lt Q2.out)).trans Q2.out); replace HBB := Lib.hid (HBB.out.trans (hb6.mono HBB.out.size)); clear hb6)
    refine hK.out _ _ (by (try dsimp only); (first | exact ⟨z0, z1, z2, z3, z4, z5, z6, z7, z8, z9⟩ | exact ⟨s0, s1, s2, s3, s4, s5, s6, s7, s8, s9⟩ | go_keep)) (fun hHeld => ?_)
    clear hK K
    try simp only [Act.put, List.setIfInBounds_toArray, List.set_cons_zero, List.set_cons_succ]
    refine take_yes (i := 6) (some 43) (.bool false) rfl (by kernel_rfl) (by kernel_rfl) (by kernel_rfl) (by kernel_rfl) (fun _ _ _ h => h) (by kernel_rfl) (fun w _ => by rfl) (by assumption) ?_
    simp only [Act.put, List.setIfInBounds_toArray, List.set_cons_zero, List.set_cons_succ]
    refine take_yes (i := 7) (some 44) (.bool false) rfl (by kernel_rfl) (by kernel_rfl) (by kernel_rfl) (by kernel_rfl) (fun _ _ _ h => h) (by kernel_rfl) (fun w _ => by rfl) (by assumption) ?_
    simp only [Act.put, List.setIfInBounds_toArray, List.set_cons_zero, List.set_cons_succ]
    refine take_yes (i := 8) (some 45) (.bool false) rfl (by kernel_rfl) (by kernel_rfl) (by kernel_rfl) (by kernel_rfl) (fun _ _ _ h => h) (by kernel_rfl) (fun w _ => by rfl) (by assumption) ?_
    simp only [Act.put, List.setIfInBounds_toArray, List.set_cons_zero, List.set_cons_succ]
    refine take_yes (i := 9) (some 46) ?_ rfl (by kernel_rfl) (by kernel_rfl) (by kernel_rfl) (by kernel_rfl) (fun _ _ _ h => h) (by kernel_rfl) ?_ (by assumption) ?_
    rotate_left
    · (intro w hSw; (try dsimp only at hSw); go_simp; (try with_reducible rfl))
    simp only [Act.put, List.setIfInBounds_toArray, List.set_cons_zero, List.set_cons_succ]
    refine take_yes (i := 10) (some 47) ?_ rfl (by kernel_rfl) (by kernel_rfl) (by kernel_rfl) (by kernel_rfl) (fun _ _ _ h => h) (by kernel_rfl) ?_ (by assumption) ?_
    rotate_left
    · (intro w hSw; (try dsimp only at hSw); go_simp; (try with_reducible rfl))
    simp only [Act.put, List.setIfInBounds_toArray, List.set_cons_zero, List.set_cons_succ]
    refine wpAnyH_ready (rs := [11]) (by kernel_rfl) (by simp) ?_
    refine AllReadyH.cons rfl (fun K hK => ?_) AllReadyH.nil
    rw [if_pos (by rfl)]
    go_simp
    (go_at_call 21; (with_reducible refine (HKX.out _ HR2.out HC2.out).mono ?_); rintro e w7 ⟨rfl, hb7⟩; replace z0 := below_cell hb7 z0; replace z1 := below_cell hb7 z1; replace z2 := below_cell hb7 z2; replace z3 := below_cell hb7 z3; replace z4 := below_cell hb7 z4; replace z5 := below_cell hb7 z5; replace z6 := below_cell hb7 z6; replace z7 := below_cell hb7 z7; replace z8 := below_cell hb7 z8; replace z9 := below_cell hb7 z9; replace HR := Lib.hid (HR.out.below hb7); replace HO := Lib.hid (HO.out.below hb7); replace HC := Lib.hid (HC.out.below hb7); replace HR2 := Lib.hid (HR2.out.below hb7); replace HO2 := Lib.hid (HO2.out.below hb7); replace HC2 := Lib.hid (HC2.out.below hb7); replace HA := Lib.hid (HA.out.below hb7); replace HB := Lib.hid (HB.out.below hb7); replace Q1 := Lib.hid ((hb7.block _ (row_lt Q1.out)).trans Q1.out); replace Q2 := Lib.hid ((hb7.block _ (row_lt Q2.out)).trans Q2.out); replace HBB := Lib.hid (HBB.out.trans (hb7.mono HBB.out.size)); clear hb7)
    refine hK.out _ _ (by (try dsimp only); (first | exact ⟨z0, z1, z2, z3, z4, z5, z6, z7, z8, z9⟩ | exact ⟨s0, s1, s2, s3, s4, s5, s6, s7, s8, s9⟩ | go_keep)) (fun hHeld => ?_)
    clear hK K
    try simp only [Act.put, List.setIfInBounds_toArray, List.set_cons_zero, List.set_cons_succ]
    refine take_yes (i := 12) (some 49) (.bool false) rfl (by kernel_rfl) (by kernel_rfl) (by kernel_rfl) (by kernel_rfl) (fun _ _ _ h => h) (by kernel_rfl) (fun w _ => by rfl) (by assumption) ?_
    simp only [Act.put, List.setIfInBounds_toArray, List.set_cons_zero, List.set_cons_succ]
    refine take_yes (i := 13) (some 50) (.bool false) rfl (by kernel_rfl) (by kernel_rfl) (by kernel_rfl) (by kernel_rfl) (fun _ _ _ h => h) (by kernel_rfl) (fun w _ => by rfl) (by assumption) ?_
    simp only [Act.put, List.setIfInBounds_toArray, List.set_cons_zero, List.set_cons_succ]
    refine take_yes (i := 14) (some 51) (.bool false) rfl (by kernel_rfl) (by kernel_rfl) (by kernel_rfl) (by kernel_rfl) (fun _ _ _ h => h) (by kernel_rfl) (fun w _ => by rfl) (by assumption) ?_
    simp only [Act.put, List.setIfInBounds_toArray, List.set_cons_zero, List.set_cons_succ]
    refine take_yes (i := 15) (some 52) ?_ rfl (by kernel_rfl) (by kernel_rfl) (by kernel_rfl) (by kernel_rfl) (fun _ _ _ h => h) (by kernel_rfl) ?_ (by assumption) ?_
    rotate_left
    · (intro w hSw; (try dsimp only at hSw); go_simp; (try with_reducible rfl))
    simp only [Act.put, List.setIfInBounds_toArray, List.set_cons_zero, List.set_cons_succ]
    refine take_yes (i := 16) (some 53) ?_ rfl (by kernel_rfl) (by kernel_rfl) (by kernel_rfl) (by kernel_rfl) (fun _ _ _ h => h) (by kernel_rfl) ?_ (by assumption) ?_
    rotate_left
    · (intro w hSw; (try dsimp only at hSw); go_simp; (try with_reducible rfl))
    simp only [Act.put, List.setIfInBounds_toArray, List.set_cons_zero, List.set_cons_succ]
    refine take_yes (i := 17) (some 54) ?_ rfl (by kernel_rfl) (by kernel_rfl) (by kernel_rfl) (by kernel_rfl) (fun _ _ _ h => h) (by kernel_rfl) ?_ (by assumption) ?_
    rotate_left
    · (intro w hSw; (try dsimp only at hSw); go_simp; (try with_reducible rfl))
    simp only [Act.put, List.setIfInBounds_toArray, List.set_cons_zero, List.set_cons_succ]
    refine take_yes (i := 18) (some 55) ?_ rfl (by kernel_rfl) (by kernel_rfl) (by kernel_rfl) (by kernel_rfl) (fun _ _ _ h => h) (by kernel_rfl) ?_ (by assumption) ?_
    rotate_left
    · (intro w hSw; (try dsimp only at hSw); go_simp; (try with_reducible rfl))
    simp only [Act.put, List.setIfInBounds_toArray, List.set_cons_zero, List.set_cons_succ]
    refine take_yes (i := 19) (some 56) ?_ rfl (by kernel_rfl) (by kernel_rfl) (by kernel_rfl) (by kernel_rfl) (fun _ _ _ h => h) (by kernel_rfl) ?_ (by assumption) ?_
    rotate_left
    · (intro w hSw; (try dsimp only at hSw); go_simp; (try with_reducible rfl))
    simp only [Act.put, List.setIfInBounds_toArray, List.set_cons_zero, List.set_cons_succ]
    refine take_yes (i := 20) (some 57) ?_ rfl (by kernel_rfl) (by kernel_rfl) (by kernel_rfl) (by kernel_rfl) (fun _ _ _ h => h) (by kernel_rfl) ?_ (by assumption) ?_
    rotate_left
    · (intro w hSw; (try dsimp only at hSw); go_simp; (try with_reducible rfl))
    simp only [Act.put, List.setIfInBounds_toArray, List.set_cons_zero, List.set_cons_succ]
    refine take_yes (i := 21) (some 58) ?_ rfl (by kernel_rfl) (by kernel_rfl) (by kernel_rfl) (by kernel_rfl) (fun _ _ _ h => h) (by kernel_rfl) ?_ (by assumption) ?_
    rotate_left
    · (intro w hSw; (try dsimp only at hSw); go_simp; (try with_reducible rfl))
    simp only [Act.put, List.setIfInBounds_toArray, List.set_cons_zero, List.set_cons_succ]
    refine take_yes (i := 22) (some 59) ?_ rfl (by kernel_rfl) (by kernel_rfl) (by kernel_rfl) (by kernel_rfl) (fun _ _ _ h => h) (by kernel_rfl) ?_ (by assumption) ?_
    rotate_left
    · (intro w hSw; (try dsimp only at hSw); go_simp; (try with_reducible rfl))
    simp only [Act.put, List.setIfInBounds_toArray, List.set_cons_zero, List.set_cons_succ]
    refine take_yes (i := 23) (some 60) ?_ rfl (by kernel_rfl) (by kernel_rfl) (by kernel_rfl) (by kernel_rfl) (fun _ _ _ h => h) (by kernel_rfl) ?_ (by assumption) ?_
    rotate_left
    · (intro w hSw; (try dsimp only at hSw); go_simp; (try with_reducible rfl))
    simp only [Act.put, List.setIfInBounds_toArray, List.set_cons_zero, List.set_cons_succ]
    refine take_yes (i := 24) (some 61) (.bool false) rfl (by kernel_rfl) (by kernel_rfl) (by kernel_rfl) (by kernel_rfl) (fun _ _ _ h => h) (by kernel_rfl) (fun w _ => by rfl) (by assumption) ?_
    simp only [Act.put, List.setIfInBounds_toArray, List.set_cons_zero, List.set_cons_succ]
    refine take_yes (i := 25) (some 62) (.bool false) rfl (by kernel_rfl) (by kernel_rfl) (by kernel_rfl) (by kernel_rfl) (fun _ _ _ h => h) (by kernel_rfl) (fun w _ => by rfl) (by assumption) ?_
    simp only [Act.put, List.setIfInBounds_toArray, List.set_cons_zero, List.set_cons_succ]
    refine take_yes (i := 26) (some 63) ?_ rfl (by kernel_rfl) (by kernel_rfl) (by kernel_rfl) (by kernel_rfl) (fun _ _ _ h => h) (by kernel_rfl) ?_ (by assumption) ?_
    rotate_left
    · (intro w hSw; (try dsimp only at hSw); go_simp; (try with_reducible rfl))
    simp only [Act.put, List.setIfInBounds_toArray, List.set_cons_zero, List.set_cons_succ]
    refine take_yes (i := 27) (some 64) ?_ rfl (by kernel_rfl) (by kernel_rfl) (by kernel_rfl) (by kernel_rfl) (fun _ _ _ h => h) (by kernel_rfl) ?_ (by assumption) ?_
    rotate_left
    · (intro w hSw; (try dsimp only at hSw); go_simp; (try with_reducible rfl))
    simp only [Act.put, List.setIfInBounds_toArray, List.set_cons_zero, List.set_cons_succ]
    refine take_yes (i := 28) (some 65) ?_ rfl (by kernel_rfl) (by kernel_rfl) (by kernel_rfl) (by kernel_rfl) (fun _ _ _ h => h) (by kernel_rfl) ?_ (by assumption) ?_
    rotate_left
    · (intro w hSw; (try dsimp only at hSw); go_simp; (try with_reducible rfl))
    simp only [Act.put, List.setIfInBounds_toArray, List.set_cons_zero, List.set_cons_succ]
    refine take_yes (i := 29) (some 66) ?_ rfl (by kernel_rfl) (by kernel_rfl) (by kernel_rfl) (by kernel_rfl) (fun _ _ _ h => h) (by kernel_rfl) ?_ (by assumption) ?_
    rotate_left
    · (intro w hSw; (try dsimp only at hSw); go_simp; (try with_reducible rfl))
    simp only [Act.put, List.setIfInBounds_toArray, List.set_cons_zero, List.set_cons_succ]
    refine take_yes (i := 30) (some 67) ?_ rfl (by kernel_rfl) (by kernel_rfl) (by kernel_rfl) (by kernel_rfl) (fun _ _ _ h => h) (by kernel_rfl) ?_ (by assumption) ?_
    rotate_left
    · (intro w hSw; (try dsimp only at hSw); go_simp; (try with_reducible rfl))
    simp only [Act.put, List.setIfInBounds_toArray, List.set_cons_zero, List.set_cons_succ]
    refine take_yes (i := 31) (some 68) (.bool true) rfl (by kernel_rfl) (by kernel_rfl) (by kernel_rfl) (by kernel_rfl) (fun _ _ _ h => h) (by kernel_rfl) (fun w _ => by rfl) (by assumption) ?_
    simp only [Act.put, List.setIfInBounds_toArray, List.set_cons_zero, List.set_cons_succ]
    refine wpAnyH_done (by kernel_rfl) ?_ _
    clear hHeld
    clear s0 z0 s1 z1 s2 z2 s3 z3 s4 z4 s5 z5 s6 z6 s7 z7 s8 z8 s9 z9
    go_wp2_with fail
    go_ret2
    exact ⟨mix_off HV.out (by decide), HBB.out⟩
  have d2 : decide (ep2 ≤ ep) = false := decide_eq_false hle
  replace HE := Lib.hid (HE.out.trans (if_neg (by simp only [hxy, not_or, ne_eq, not_true_eq_false, not_false_eq_true, true_and]; exact hle)))
  have SX := Lib.hid s8
  clear hle hxy
  refine wp_region_held_drew (S := (fun w' => w'.cell? ⟨w.heap.size, 0, none⟩ = some (.int .i64 ep) ∧ w'.cell? ⟨w.heap.size, 1, none⟩ = some (.slice a1 rows.length k1) ∧ w'.cell? ⟨w.heap.size, 2, none⟩ = some (.slice a2 owners.length k2) ∧ w'.cell? ⟨w.heap.size, 3, none⟩ = some (.slice (some ⟨b3, o3, none⟩) cs.length k3) ∧ w'.cell? ⟨w.heap.size + 1, 0, none⟩ = some (.int .i64 ep2) ∧ w'.cell? ⟨w.heap.size + 1, 1, none⟩ = some (.slice a4 rows.length k4) ∧ w'.cell? ⟨w.heap.size + 1, 2, none⟩ = some (.slice a5 owners.length k5) ∧ w'.cell? ⟨w.heap.size + 1, 3, none⟩ = some (.slice (some ⟨b6, o6, none⟩) cs2.length k6) ∧ w'.cell? ⟨b3, o3, none⟩ = some (.int .i64 x) ∧ w'.cell? ⟨b6, o6, none⟩ = some (.int .i64 y))) (by kernel_rfl) (by (try dsimp only); (first | exact ⟨z0, z1, z2, z3, z4, z5, z6, z7, z8, z9⟩ | exact ⟨s0, s1, s2, s3, s4, s5, s6, s7, s8, s9⟩ | go_keep)) (fun hHeld => ?_)
  refine take_yes (i := 0) (some 37) (.bool true) rfl (by kernel_rfl) (by kernel_rfl) (by kernel_rfl) (by kernel_rfl) (fun _ _ _ h => h) (by kernel_rfl) (fun w _ => by rfl) (by assumption) ?_
  simp only [Act.put, List.setIfInBounds_toArray, List.set_cons_zero, List.set_cons_succ]
  refine take_yes (i := 1) (some 38) (.bool false) rfl (by kernel_rfl) (by kernel_rfl) (by kernel_rfl) (by kernel_rfl) (fun _ _ _ h => h) (by kernel_rfl) (fun w _ => by rfl) (by assumption) ?_
  simp only [Act.put, List.setIfInBounds_toArray, List.set_cons_zero, List.set_cons_succ]
  refine take_yes (i := 2) (some 39) (.bool false) rfl (by kernel_rfl) (by kernel_rfl) (by kernel_rfl) (by kernel_rfl) (fun _ _ _ h => h) (by kernel_rfl) (fun w _ => by rfl) (by assumption) ?_
  simp only [Act.put, List.setIfInBounds_toArray, List.set_cons_zero, List.set_cons_succ]
  refine take_yes (i := 3) (some 40) ?_ rfl (by kernel_rfl) (by kernel_rfl) (by kernel_rfl) (by kernel_rfl) (fun _ _ _ h => h) (by kernel_rfl) ?_ (by assumption) ?_
  rotate_left
  · (intro w hSw; (try dsimp only at hSw); go_simp; (try with_reducible rfl))
  simp only [Act.put, List.setIfInBounds_toArray, List.set_cons_zero, List.set_cons_succ]
  refine take_yes (i := 4) (some 41) ?_ rfl (by kernel_rfl) (by kernel_rfl) (by kernel_rfl) (by kernel_rfl) (fun _ _ _ h => h) (by kernel_rfl) ?_ (by assumption) ?_
  rotate_left
  · (intro w hSw; (try dsimp only at hSw); go_simp; (try with_reducible rfl))
  simp only [Act.put, List.setIfInBounds_toArray, List.set_cons_zero, List.set_cons_succ]
  refine wpAnyH_ready (rs := [5]) (by kernel_rfl) (by simp) ?_
  refine AllReadyH.cons rfl (fun K hK => ?_) AllReadyH.nil
  rw [if_pos (by rfl)]
  go_simp
  (go_at_call 21; (with_reducible refine (HKR.out _ HR.out HC.out).mono ?_); rintro e w6 ⟨rfl, hb6⟩; have z0 := below_cell hb6 s0; have z1 := below_cell hb6 s1; have z2 := below_cell hb6 s2; have z3 := below_cell hb6 s3; have z4 := below_cell hb6 s4; have z5 := below_cell hb6 s5; have z6 := below_cell hb6 s6; have z7 := below_cell hb6 s7; have z8 := below_cell hb6 s8; have z9 := below_cell hb6 s9; replace HR := Lib.hid (HR.out.below hb6); replace HO := Lib.hid (HO.out.below hb6); replace HC := Lib.hid (HC.out.below hb6); replace HR2 := Lib.hid (HR2.out.below hb6); replace HO2 := Lib.hid (HO2.out.below hb6); replace HC2 := Lib.hid (HC2.out.below hb6); replace HA := Lib.hid (HA.out.below hb6); replace HB := Lib.hid (HB.out.below hb6); replace Q1 := Lib.hid ((hb6.block _ (row_lt Q1.out)).trans Q1.out); replace Q2 := Lib.hid ((hb6.block _ (row_lt Q2.out)).trans Q2.out); replace HBB := Lib.hid (HBB.out.trans (hb6.mono HBB.out.size)); clear hb6)
  refine hK.out _ _ (by (try dsimp only); (first | exact ⟨z0, z1, z2, z3, z4, z5, z6, z7, z8, z9⟩ | exact ⟨s0, s1, s2, s3, s4, s5, s6, s7, s8, s9⟩ | go_keep)) (fun hHeld => ?_)
  clear hK K
  try simp only [Act.put, List.setIfInBounds_toArray, List.set_cons_zero, List.set_cons_succ]
  refine take_yes (i := 6) (some 43) (.bool false) rfl (by kernel_rfl) (by kernel_rfl) (by kernel_rfl) (by kernel_rfl) (fun _ _ _ h => h) (by kernel_rfl) (fun w _ => by rfl) (by assumption) ?_
  simp only [Act.put, List.setIfInBounds_toArray, List.set_cons_zero, List.set_cons_succ]
  refine take_yes (i := 7) (some 44) (.bool false) rfl (by kernel_rfl) (by kernel_rfl) (by kernel_rfl) (by kernel_rfl) (fun _ _ _ h => h) (by kernel_rfl) (fun w _ => by rfl) (by assumption) ?_
  simp only [Act.put, List.setIfInBounds_toArray, List.set_cons_zero, List.set_cons_succ]
  refine take_yes (i := 8) (some 45) (.bool false) rfl (by kernel_rfl) (by kernel_rfl) (by kernel_rfl) (by kernel_rfl) (fun _ _ _ h => h) (by kernel_rfl) (fun w _ => by rfl) (by assumption) ?_
  simp only [Act.put, List.setIfInBounds_toArray, List.set_cons_zero, List.set_cons_succ]
  refine take_yes (i := 9) (some 46) ?_ rfl (by kernel_rfl) (by kernel_rfl) (by kernel_rfl) (by kernel_rfl) (fun _ _ _ h => h) (by kernel_rfl) ?_ (by assumption) ?_
  rotate_left
  · (intro w hSw; (try dsimp only at hSw); go_simp; (try with_reducible rfl))
  simp only [Act.put, List.setIfInBounds_toArray, List.set_cons_zero, List.set_cons_succ]
  refine take_yes (i := 10) (some 47) ?_ rfl (by kernel_rfl) (by kernel_rfl) (by kernel_rfl) (by kernel_rfl) (fun _ _ _ h => h) (by kernel_rfl) ?_ (by assumption) ?_
  rotate_left
  · (intro w hSw; (try dsimp only at hSw); go_simp; (try with_reducible rfl))
  simp only [Act.put, List.setIfInBounds_toArray, List.set_cons_zero, List.set_cons_succ]
  refine wpAnyH_ready (rs := [11]) (by kernel_rfl) (by simp) ?_
  refine AllReadyH.cons rfl (fun K hK => ?_) AllReadyH.nil
  rw [if_pos (by rfl)]
  go_simp
  (go_at_call 21; (with_reducible refine (HKX.out _ HR2.out HC2.out).mono ?_); rintro e w7 ⟨rfl, hb7⟩; replace z0 := below_cell hb7 z0; replace z1 := below_cell hb7 z1; replace z2 := below_cell hb7 z2; replace z3 := below_cell hb7 z3; replace z4 := below_cell hb7 z4; replace z5 := below_cell hb7 z5; replace z6 := below_cell hb7 z6; replace z7 := below_cell hb7 z7; replace z8 := below_cell hb7 z8; replace z9 := below_cell hb7 z9; replace HR := Lib.hid (HR.out.below hb7); replace HO := Lib.hid (HO.out.below hb7); replace HC := Lib.hid (HC.out.below hb7); replace HR2 := Lib.hid (HR2.out.below hb7); replace HO2 := Lib.hid (HO2.out.below hb7); replace HC2 := Lib.hid (HC2.out.below hb7); replace HA := Lib.hid (HA.out.below hb7); replace HB := Lib.hid (HB.out.below hb7); replace Q1 := Lib.hid ((hb7.block _ (row_lt Q1.out)).trans Q1.out); replace Q2 := Lib.hid ((hb7.block _ (row_lt Q2.out)).trans Q2.out); replace HBB := Lib.hid (HBB.out.trans (hb7.mono HBB.out.size)); clear hb7)
  refine hK.out _ _ (by (try dsimp only); (first | exact ⟨z0, z1, z2, z3, z4, z5, z6, z7, z8, z9⟩ | exact ⟨s0, s1, s2, s3, s4, s5, s6, s7, s8, s9⟩ | go_keep)) (fun hHeld => ?_)
  clear hK K
  try simp only [Act.put, List.setIfInBounds_toArray, List.set_cons_zero, List.set_cons_succ]
  refine take_yes (i := 12) (some 49) (.bool false) rfl (by kernel_rfl) (by kernel_rfl) (by kernel_rfl) (by kernel_rfl) (fun _ _ _ h => h) (by kernel_rfl) (fun w _ => by rfl) (by assumption) ?_
  simp only [Act.put, List.setIfInBounds_toArray, List.set_cons_zero, List.set_cons_succ]
  refine take_yes (i := 13) (some 50) (.bool false) rfl (by kernel_rfl) (by kernel_rfl) (by kernel_rfl) (by kernel_rfl) (fun _ _ _ h => h) (by kernel_rfl) (fun w _ => by rfl) (by assumption) ?_
  simp only [Act.put, List.setIfInBounds_toArray, List.set_cons_zero, List.set_cons_succ]
  refine take_yes (i := 14) (some 51) (.bool false) rfl (by kernel_rfl) (by kernel_rfl) (by kernel_rfl) (by kernel_rfl) (fun _ _ _ h => h) (by kernel_rfl) (fun w _ => by rfl) (by assumption) ?_
  simp only [Act.put, List.setIfInBounds_toArray, List.set_cons_zero, List.set_cons_succ]
  refine take_yes (i := 15) (some 52) ?_ rfl (by kernel_rfl) (by kernel_rfl) (by kernel_rfl) (by kernel_rfl) (fun _ _ _ h => h) (by kernel_rfl) ?_ (by assumption) ?_
  rotate_left
  · (intro w hSw; (try dsimp only at hSw); go_simp; (try with_reducible rfl))
  simp only [Act.put, List.setIfInBounds_toArray, List.set_cons_zero, List.set_cons_succ]
  refine take_yes (i := 16) (some 53) ?_ rfl (by kernel_rfl) (by kernel_rfl) (by kernel_rfl) (by kernel_rfl) (fun _ _ _ h => h) (by kernel_rfl) ?_ (by assumption) ?_
  rotate_left
  · (intro w hSw; (try dsimp only at hSw); go_simp; (try with_reducible rfl))
  simp only [Act.put, List.setIfInBounds_toArray, List.set_cons_zero, List.set_cons_succ]
  refine take_yes (i := 17) (some 54) ?_ rfl (by kernel_rfl) (by kernel_rfl) (by kernel_rfl) (by kernel_rfl) (fun _ _ _ h => h) (by kernel_rfl) ?_ (by assumption) ?_
  rotate_left
  · (intro w hSw; (try dsimp only at hSw); go_simp; (try with_reducible rfl))
  simp only [Act.put, List.setIfInBounds_toArray, List.set_cons_zero, List.set_cons_succ]
  refine take_yes (i := 18) (some 55) ?_ rfl (by kernel_rfl) (by kernel_rfl) (by kernel_rfl) (by kernel_rfl) (fun _ _ _ h => h) (by kernel_rfl) ?_ (by assumption) ?_
  rotate_left
  · (intro w hSw; (try dsimp only at hSw); go_simp; (try with_reducible rfl))
  simp only [Act.put, List.setIfInBounds_toArray, List.set_cons_zero, List.set_cons_succ]
  refine take_yes (i := 19) (some 56) ?_ rfl (by kernel_rfl) (by kernel_rfl) (by kernel_rfl) (by kernel_rfl) (fun _ _ _ h => h) (by kernel_rfl) ?_ (by assumption) ?_
  rotate_left
  · (intro w hSw; (try dsimp only at hSw); go_simp; (try with_reducible rfl))
  simp only [Act.put, List.setIfInBounds_toArray, List.set_cons_zero, List.set_cons_succ]
  refine take_yes (i := 20) (some 57) ?_ rfl (by kernel_rfl) (by kernel_rfl) (by kernel_rfl) (by kernel_rfl) (fun _ _ _ h => h) (by kernel_rfl) ?_ (by assumption) ?_
  rotate_left
  · (intro w hSw; (try dsimp only at hSw); go_simp; (try with_reducible rfl))
  simp only [Act.put, List.setIfInBounds_toArray, List.set_cons_zero, List.set_cons_succ]
  refine take_yes (i := 21) (some 58) ?_ rfl (by kernel_rfl) (by kernel_rfl) (by kernel_rfl) (by kernel_rfl) (fun _ _ _ h => h) (by kernel_rfl) ?_ (by assumption) ?_
  rotate_left
  · (intro w hSw; (try dsimp only at hSw); go_simp; (try with_reducible rfl))
  simp only [Act.put, List.setIfInBounds_toArray, List.set_cons_zero, List.set_cons_succ]
  refine take_yes (i := 22) (some 59) ?_ rfl (by kernel_rfl) (by kernel_rfl) (by kernel_rfl) (by kernel_rfl) (fun _ _ _ h => h) (by kernel_rfl) ?_ (by assumption) ?_
  rotate_left
  · (intro w hSw; (try dsimp only at hSw); go_simp; (try with_reducible rfl))
  simp only [Act.put, List.setIfInBounds_toArray, List.set_cons_zero, List.set_cons_succ]
  refine take_yes (i := 23) (some 60) ?_ rfl (by kernel_rfl) (by kernel_rfl) (by kernel_rfl) (by kernel_rfl) (fun _ _ _ h => h) (by kernel_rfl) ?_ (by assumption) ?_
  rotate_left
  · (intro w hSw; (try dsimp only at hSw); go_simp; (try with_reducible rfl))
  simp only [Act.put, List.setIfInBounds_toArray, List.set_cons_zero, List.set_cons_succ]
  refine take_yes (i := 24) (some 61) (.bool false) rfl (by kernel_rfl) (by kernel_rfl) (by kernel_rfl) (by kernel_rfl) (fun _ _ _ h => h) (by kernel_rfl) (fun w _ => by rfl) (by assumption) ?_
  simp only [Act.put, List.setIfInBounds_toArray, List.set_cons_zero, List.set_cons_succ]
  refine take_yes (i := 25) (some 62) (.bool false) rfl (by kernel_rfl) (by kernel_rfl) (by kernel_rfl) (by kernel_rfl) (fun _ _ _ h => h) (by kernel_rfl) (fun w _ => by rfl) (by assumption) ?_
  simp only [Act.put, List.setIfInBounds_toArray, List.set_cons_zero, List.set_cons_succ]
  refine take_yes (i := 26) (some 63) ?_ rfl (by kernel_rfl) (by kernel_rfl) (by kernel_rfl) (by kernel_rfl) (fun _ _ _ h => h) (by kernel_rfl) ?_ (by assumption) ?_
  rotate_left
  · (intro w hSw; (try dsimp only at hSw); go_simp; (try with_reducible rfl))
  simp only [Act.put, List.setIfInBounds_toArray, List.set_cons_zero, List.set_cons_succ]
  refine take_yes (i := 27) (some 64) ?_ rfl (by kernel_rfl) (by kernel_rfl) (by kernel_rfl) (by kernel_rfl) (fun _ _ _ h => h) (by kernel_rfl) ?_ (by assumption) ?_
  rotate_left
  · (intro w hSw; (try dsimp only at hSw); go_simp; (try with_reducible rfl))
  simp only [Act.put, List.setIfInBounds_toArray, List.set_cons_zero, List.set_cons_succ]
  refine take_yes (i := 28) (some 65) ?_ rfl (by kernel_rfl) (by kernel_rfl) (by kernel_rfl) (by kernel_rfl) (fun _ _ _ h => h) (by kernel_rfl) ?_ (by assumption) ?_
  rotate_left
  · (intro w hSw; (try dsimp only at hSw); go_simp; (try with_reducible rfl))
  simp only [Act.put, List.setIfInBounds_toArray, List.set_cons_zero, List.set_cons_succ]
  refine take_yes (i := 29) (some 66) ?_ rfl (by kernel_rfl) (by kernel_rfl) (by kernel_rfl) (by kernel_rfl) (fun _ _ _ h => h) (by kernel_rfl) ?_ (by assumption) ?_
  rotate_left
  · (intro w hSw; (try dsimp only at hSw); go_simp; (try with_reducible rfl))
  simp only [Act.put, List.setIfInBounds_toArray, List.set_cons_zero, List.set_cons_succ]
  refine take_yes (i := 30) (some 67) ?_ rfl (by kernel_rfl) (by kernel_rfl) (by kernel_rfl) (by kernel_rfl) (fun _ _ _ h => h) (by kernel_rfl) ?_ (by assumption) ?_
  rotate_left
  · (intro w hSw; (try dsimp only at hSw); go_simp; (try with_reducible rfl))
  simp only [Act.put, List.setIfInBounds_toArray, List.set_cons_zero, List.set_cons_succ]
  refine take_yes (i := 31) (some 68) (.bool false) rfl (by kernel_rfl) (by kernel_rfl) (by kernel_rfl) (by kernel_rfl) (fun _ _ _ h => h) (by kernel_rfl) (fun w _ => by rfl) (by assumption) ?_
  simp only [Act.put, List.setIfInBounds_toArray, List.set_cons_zero, List.set_cons_succ]
  refine wpAnyH_done (by kernel_rfl) ?_ _
  clear hHeld
  clear s0 z0 s1 z1 s2 z2 s3 z3 s4 z4 s5 z5 s6 z6 s7 z7 s8 z8 s9 z9
  have HFEW := Lib.hid (progE_ok HP0.out).few
  have c0 := row_cell Q1.out (k := 0) rfl
  have c1 := row_cell Q1.out (k := 1) rfl
  have c2 := row_cell Q1.out (k := 2) rfl
  have c3 := row_cell Q1.out (k := 3) rfl
  go_wp2_with fail
  clear c0 c1 c2 c3
  refine (kfit_any ep _ _ _ _ _ rows owners cs a _ HR.out HO.out ⟨_, _, _, rfl⟩ HC.out HA.out HD1.out).mono ?_
  rintro e w8 ⟨rfl, hb8⟩
  replace HR := Lib.hid (HR.out.below hb8)
  replace HO := Lib.hid (HO.out.below hb8)
  replace HC := Lib.hid (HC.out.below hb8)
  replace HR2 := Lib.hid (HR2.out.below hb8)
  replace HO2 := Lib.hid (HO2.out.below hb8)
  replace HC2 := Lib.hid (HC2.out.below hb8)
  replace HA := Lib.hid (HA.out.below hb8)
  replace HB := Lib.hid (HB.out.below hb8)
  replace Q1 := Lib.hid ((hb8.block _ (row_lt Q1.out)).trans Q1.out)
  replace Q2 := Lib.hid ((hb8.block _ (row_lt Q2.out)).trans Q2.out)
  replace HBB := Lib.hid (HBB.out.trans (hb8.mono HBB.out.size))
  clear hb8
  cases hf1 : fitL rows cs a with
  | false =>
    have HV : Hid (mixE rows owners ep cs rows owners ep2 cs2 a b = 340) := Lib.hid (HE.out.trans (if_pos (.inl hf1)))
    clear hf1
    go_wp2_with fail
    go_ret2
    exact ⟨mix_off HV.out (by decide), HBB.out⟩
  | true =>
  have e0 := row_cell Q2.out (k := 0) rfl
  have e1 := row_cell Q2.out (k := 1) rfl
  have e2 := row_cell Q2.out (k := 2) rfl
  have e3 := row_cell Q2.out (k := 3) rfl
  go_wp2_with fail
  clear e0 e1 e2 e3
  refine (kfit_any ep2 _ _ _ _ _ rows owners cs2 b _ HR2.out HO2.out ⟨_, _, _, rfl⟩ HC2.out HB.out HD2.out).mono ?_
  rintro e w9 ⟨rfl, hb9⟩
  replace HR := Lib.hid (HR.out.below hb9)
  replace HO := Lib.hid (HO.out.below hb9)
  replace HC := Lib.hid (HC.out.below hb9)
  replace HR2 := Lib.hid (HR2.out.below hb9)
  replace HO2 := Lib.hid (HO2.out.below hb9)
  replace HC2 := Lib.hid (HC2.out.below hb9)
  replace HA := Lib.hid (HA.out.below hb9)
  replace HB := Lib.hid (HB.out.below hb9)
  replace Q1 := Lib.hid ((hb9.block _ (row_lt Q1.out)).trans Q1.out)
  replace Q2 := Lib.hid ((hb9.block _ (row_lt Q2.out)).trans Q2.out)
  replace HBB := Lib.hid (HBB.out.trans (hb9.mono HBB.out.size))
  clear hb9
  cases hf2 : fitL rows cs2 b with
  | false =>
    have HV : Hid (mixE rows owners ep cs rows owners ep2 cs2 a b = 340) := Lib.hid (HE.out.trans (if_pos (.inr hf2)))
    clear hf1 hf2
    go_wp2_with fail
    go_ret2
    exact ⟨mix_off HV.out (by decide), HBB.out⟩
  | true =>
  replace HE := Lib.hid (HE.out.trans (if_neg (by rw [hf1, hf2]; decide)))
  have hla := sharesB_len ((Bool.and_eq_true _ _).mp hf1).1
  have hlb := sharesB_len ((Bool.and_eq_true _ _).mp hf2).1
  have HN : Hid (a.length + b.length ≤ 1000000) := Lib.hid (by have := HFEW.out; omega)
  have HML : Hid ((mrgL a b).length ≤ 1000000) := Lib.hid (by rw [mrgL_length]; exact HN.out)
  have HMR : Hid (∀ p ∈ mrgL a b, R64 p.1 ∧ R64 p.2) := Lib.hid (fun p h => (mrgL_mem h).elim (HAR.out p) (HBR.out p))
  clear hla hlb hf1 hf2
  go_wp2_with fail
  have hbd : Below w9.heap.size w9 w9.drew := (Below.refl _ _).drew
  replace HR := Lib.hid (HR.out.below hbd)
  replace HO := Lib.hid (HO.out.below hbd)
  replace HC := Lib.hid (HC.out.below hbd)
  replace HR2 := Lib.hid (HR2.out.below hbd)
  replace HO2 := Lib.hid (HO2.out.below hbd)
  replace HC2 := Lib.hid (HC2.out.below hbd)
  replace HA := Lib.hid (HA.out.below hbd)
  replace HB := Lib.hid (HB.out.below hbd)
  replace HBB := Lib.hid (HBB.out.drew)
  clear hbd
  have HA0 := Lib.hid HA.out
  have HB0 := Lib.hid HB.out
  have s1 := row_cell Q1.out (k := 1) rfl
  have s2 := row_cell Q1.out (k := 2) rfl
  refine wp_region_held_drew (S := (fun w' => w'.cell? ⟨w.heap.size, 1, none⟩ = some (.slice a1 rows.length k1) ∧ w'.cell? ⟨w.heap.size, 2, none⟩ = some (.slice a2 owners.length k2))) (by kernel_rfl) (by (try dsimp only); (first | exact ⟨z1, z2⟩ | exact ⟨s1, s2⟩ | go_keep)) (fun hHeld => ?_)
  refine take_yes (i := 0) (some 86) ?_ rfl (by kernel_rfl) (by kernel_rfl) (by kernel_rfl) (by kernel_rfl) (fun _ _ _ h => h) (by kernel_rfl) ?_ (by assumption) ?_
  rotate_left
  · (intro w hSw; (try dsimp only at hSw); go_simp; (try with_reducible rfl))
  simp only [Act.put, List.setIfInBounds_toArray, List.set_cons_zero, List.set_cons_succ]
  refine take_yes (i := 1) (some 87) ?_ rfl (by kernel_rfl) (by kernel_rfl) (by kernel_rfl) (by kernel_rfl) (fun _ _ _ h => h) (by kernel_rfl) ?_ (by assumption) ?_
  rotate_left
  · (intro w hSw; (try dsimp only at hSw); go_simp; (try with_reducible rfl))
  simp only [Act.put, List.setIfInBounds_toArray, List.set_cons_zero, List.set_cons_succ]
  refine take_yes (i := 2) (some 88) _ rfl (by kernel_rfl) (by kernel_rfl) (by kernel_rfl) (by kernel_rfl) (fun _ _ _ h => h) (by kernel_rfl) (fun w _ => by rfl) (by assumption) ?_
  simp only [Act.put, List.setIfInBounds_toArray, List.set_cons_zero, List.set_cons_succ]
  refine take_yes (i := 3) (some 89) _ rfl (by kernel_rfl) (by kernel_rfl) (by kernel_rfl) (by kernel_rfl) (fun _ _ _ h => h) (by kernel_rfl) (fun w _ => by rfl) (by assumption) ?_
  simp only [Act.put, List.setIfInBounds_toArray, List.set_cons_zero, List.set_cons_succ]
  refine wpAnyH_ready (rs := [4]) (by kernel_rfl) (by simp) ?_
  refine AllReadyH.cons rfl (fun K hK => ?_) AllReadyH.nil
  rw [if_pos (by rfl)]
  go_simp
  (go_at_call 43; (with_reducible refine (both_any _ _ _ ⟨_, _, _, rfl⟩ ⟨_, _, _, rfl⟩).mono ?_); rintro e w10 ⟨rfl, hw10⟩; have HBS : Hid (BoxS w9.drew w9.drew.heap.size (w9.drew.heap.size + 1) (.slice a7 a.length k7) (.slice a8 b.length k8) a b 0 w10) := Lib.hid (by rw [hw10]; exact boxS_both _ _ _ _ _); clear hw10; have z1 := below_cell HBS.out.be s1; have z2 := below_cell HBS.out.be s2)
  refine hK.out _ _ (by (try dsimp only); (first | exact ⟨z1, z2⟩ | exact ⟨s1, s2⟩ | go_keep)) (fun hHeld => ?_)
  clear hK K
  try simp only [Act.put, List.setIfInBounds_toArray, List.set_cons_zero, List.set_cons_succ]
  refine wpAnyH_ready (rs := [5]) (by kernel_rfl) (by simp) ?_
  refine AllReadyH.cons rfl (fun K hK => ?_) AllReadyH.nil
  rw [if_pos (by rfl)]
  go_simp
  (go_at_call 42; (refine (collectS_any (.slice a7 a.length k7) (.slice a8 b.length k8) a b w9.drew w10 _ _ (Nat.ne_of_lt (Nat.lt_succ_self _)) (Nat.le_refl _) (Nat.le_succ _) HA0.out HB0.out HN.out HBS.out).mono ?_); rintro e w11 ⟨v, rfl, hov, hb11⟩; have HM := Lib.hid (Shares.own hov HMR.out HML.out); clear hov; obtain ⟨ma, mk, rfl, -⟩ := id HM.out; replace z1 := below_cell hb11 s1; replace z2 := below_cell hb11 s2; replace HR := Lib.hid (HR.out.below hb11); replace HO := Lib.hid (HO.out.below hb11); replace HC := Lib.hid (HC.out.below hb11); replace HR2 := Lib.hid (HR2.out.below hb11); replace HO2 := Lib.hid (HO2.out.below hb11); replace HC2 := Lib.hid (HC2.out.below hb11); replace HA := Lib.hid (HA.out.below hb11); replace HB := Lib.hid (HB.out.below hb11); replace Q1 := Lib.hid ((hb11.block _ (row_lt Q1.out)).trans Q1.out); replace Q2 := Lib.hid ((hb11.block _ (row_lt Q2.out)).trans Q2.out); replace HBB := Lib.hid (HBB.out.trans (hb11.mono HBB.out.size)); clear hb11)
  refine hK.out _ _ (by (try dsimp only); (first | exact ⟨z1, z2⟩ | exact ⟨s1, s2⟩ | go_keep)) (fun hHeld => ?_)
  clear hK K
  try simp only [Act.put, List.setIfInBounds_toArray, List.set_cons_zero, List.set_cons_succ]
  refine wpAnyH_ready (rs := [6]) (by kernel_rfl) (by simp) ?_
  refine AllReadyH.cons rfl (fun K hK => ?_) AllReadyH.nil
  rw [if_pos (by rfl)]
  go_simp
  (go_at_call 41; (with_reducible refine (recover_any _ _ _ rows owners (mrgL a b) _ HR.out HO.out HM.out).mono ?_); rintro e w12 ⟨rfl, hb12⟩; replace z1 := below_cell hb12 z1; replace z2 := below_cell hb12 z2; replace HR := Lib.hid (HR.out.below hb12); replace HO := Lib.hid (HO.out.below hb12); replace HC := Lib.hid (HC.out.below hb12); replace HR2 := Lib.hid (HR2.out.below hb12); replace HO2 := Lib.hid (HO2.out.below hb12); replace HC2 := Lib.hid (HC2.out.below hb12); replace HA := Lib.hid (HA.out.below hb12); replace HB := Lib.hid (HB.out.below hb12); replace Q1 := Lib.hid ((hb12.block _ (row_lt Q1.out)).trans Q1.out); replace Q2 := Lib.hid ((hb12.block _ (row_lt Q2.out)).trans Q2.out); replace HBB := Lib.hid (HBB.out.trans (hb12.mono HBB.out.size)); clear hb12)
  refine hK.out _ _ (by (try dsimp only); (first | exact ⟨z1, z2⟩ | exact ⟨s1, s2⟩ | go_keep)) (fun hHeld => ?_)
  clear hK K
  try simp only [Act.put, List.setIfInBounds_toArray, List.set_cons_zero, List.set_cons_succ]
  refine take_yes (i := 7) (some 85) _ rfl (by kernel_rfl) (by kernel_rfl) (by kernel_rfl) (by kernel_rfl) (fun _ _ _ h => h) (by kernel_rfl) (fun w _ => by rfl) (by assumption) ?_
  simp only [Act.put, List.setIfInBounds_toArray, List.set_cons_zero, List.set_cons_succ]
  refine take_yes (i := 8) (some 93) _ rfl (by kernel_rfl) (by kernel_rfl) (by kernel_rfl) (by kernel_rfl) (fun _ _ _ h => h) (by kernel_rfl) (fun w _ => by rfl) (by assumption) ?_
  simp only [Act.put, List.setIfInBounds_toArray, List.set_cons_zero, List.set_cons_succ]
  refine take_yes (i := 9) (some 94) _ rfl (by kernel_rfl) (by kernel_rfl) (by kernel_rfl) (by kernel_rfl) (fun _ _ _ h => h) (by kernel_rfl) (fun w _ => by rfl) (by assumption) ?_
  simp only [Act.put, List.setIfInBounds_toArray, List.set_cons_zero, List.set_cons_succ]
  refine take_yes (i := 10) (some 95) _ rfl (by kernel_rfl) (by kernel_rfl) (by kernel_rfl) (by kernel_rfl) (fun _ _ _ h => h) (by kernel_rfl) (fun w _ => by rfl) (by assumption) ?_
  simp only [Act.put, List.setIfInBounds_toArray, List.set_cons_zero, List.set_cons_succ]
  refine take_yes (i := 11) (some 12) _ rfl (by kernel_rfl) (by kernel_rfl) (by kernel_rfl) (by kernel_rfl) (fun _ _ _ h => h) (by kernel_rfl) (fun w _ => by rfl) (by assumption) ?_
  simp only [Act.put, List.setIfInBounds_toArray, List.set_cons_zero, List.set_cons_succ]
  refine take_yes (i := 12) (some 13) _ rfl (by kernel_rfl) (by kernel_rfl) (by kernel_rfl) (by kernel_rfl) (fun _ _ _ h => h) (by kernel_rfl) (fun w _ => by rfl) (by assumption) ?_
  simp only [Act.put, List.setIfInBounds_toArray, List.set_cons_zero, List.set_cons_succ]
  refine take_yes (i := 13) (some 9) _ rfl (by kernel_rfl) (by kernel_rfl) (by kernel_rfl) (by kernel_rfl) (fun _ _ _ h => h) (by kernel_rfl) (fun w _ => by rfl) (by assumption) ?_
  simp only [Act.put, List.setIfInBounds_toArray, List.set_cons_zero, List.set_cons_succ]
  refine wpAnyH_done (by kernel_rfl) ?_ _
  clear hHeld s1 s2 z1 z2
  simp only [Act.eval, Array.getD_eq_getD_getElem?, List.getElem?_toArray, List.getElem?_cons_succ, List.getElem?_cons_zero, Option.getD_some, List.getElem_toArray, List.getElem_cons_succ, List.getElem_cons_zero]
  by_cases hre : recE rows owners (mrgL a b) = 0
  rotate_left
  · have HV := Lib.hid HE.out
    have HNZ := Lib.hid hre
    have d3 : (recE rows owners (mrgL a b) != 0) = true := bne_iff_ne.2 hre
    clear hre
    generalize recE rows owners (mrgL a b) = q at *
    go_wp2_with fail
    go_ret2
    exact ⟨mix_off HV.out HNZ.out, HBB.out⟩
  have HV := Lib.hid (HE.out.trans hre)
  rw [hre]
  clear hre HE
  have HON := Lib.hid (fun t h => mix_on (t := t) HV.out h)
  have HN64 := Lib.hid (recV_r64 rows owners (mrgL a b))
  rw [← HX.out] at HON
  generalize recV rows owners (mrgL a b) = n at *
  generalize recB rows owners (mrgL a b) = t at *
  go_wp2_with fail
  refine (pow_yes 4 n _ el_four HN64.out).mono ?_
  rintro e w13 ⟨rfl, hb13⟩
  replace HR := Lib.hid (HR.out.below hb13)
  replace HO := Lib.hid (HO.out.below hb13)
  replace HC := Lib.hid (HC.out.below hb13)
  replace HR2 := Lib.hid (HR2.out.below hb13)
  replace HO2 := Lib.hid (HO2.out.below hb13)
  replace HC2 := Lib.hid (HC2.out.below hb13)
  replace HA := Lib.hid (HA.out.below hb13)
  replace HB := Lib.hid (HB.out.below hb13)
  replace Q1 := Lib.hid ((hb13.block _ (row_lt Q1.out)).trans Q1.out)
  replace Q2 := Lib.hid ((hb13.block _ (row_lt Q2.out)).trans Q2.out)
  replace HBB := Lib.hid (HBB.out.trans (hb13.mono HBB.out.size))
  clear hb13
  generalize powE 4 n = g at *
  cases t with
  | false =>
    go_wp2_with fail
    go_ret2
    exact ⟨HON.out _ rfl, HBB.out⟩
  | true =>
  have c3 := row_cell Q1.out (k := 3) rfl
  obtain ⟨-, b9, o9, n9, k9, e9, x8⟩ := HC.out.get j3
  simp only [Value.slice.injEq, Option.some.injEq, Addr.mk.injEq] at e9
  obtain ⟨⟨rfl, rfl, -⟩, -, -⟩ := e9
  rw [Nat.add_zero, ← HX.out] at x8
  cases hg : g == x with
  | false =>
    have HG := Lib.hid hg
    go_wp2_with fail
    go_ret2
    exact ⟨HON.out _ (by rw [HG.out]; rfl), HBB.out⟩
  | true =>
    have HG := Lib.hid hg
    go_wp2_with fail
    go_ret2
    exact ⟨HON.out _ (by rw [HG.out]; rfl), HBB.out⟩

end Go.Proofs.YtnbkbnbmmkfckaaGreat
