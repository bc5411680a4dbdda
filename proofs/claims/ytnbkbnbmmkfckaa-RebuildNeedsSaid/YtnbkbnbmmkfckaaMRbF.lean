/- Package rebuild and its reference: Part. Package rebuild and its reference: Finish. The reference of rebuilding a share: Rows, Some. -/
import Derived.Test.YtnbkbnbmmkfckaaMRbC
import Derived.Test.YtnbkbnbmmkfckaaMDeaN
import Derived.Test.YtnbkbnbmmkfckaaMDeaS
import Derived.Test.YtnbkbnbmmkfckaaMRdA
import Derived.Test.YtnbkbnbmmkfckaaMRdH
import Derived.Laws.ResultCell
namespace Go.Proofs.Ytnbkbnbmmkfckaa
open Go.RowKit FP

theorem partE_no {y r v : Int} {ms : List Int} : partE y r v ms = if oddQ y = true ∨ allQ ms = false then 1 else if r < 0 ∨ 64 ≤ r ∨ oddQ v = true then 340 else 0 := by
  unfold partE
  by_cases h : oddQ y = true ∨ allQ ms = false
  · rw [if_pos h, if_pos (h.imp_right allQ_iff.1)]
  · rw [if_neg h, if_neg (fun h2 => h (h2.imp_right allQ_iff.2))]
theorem oddQ_no {z : Int} (h : oddQ z = false) : 0 ≤ z ∧ z < 1073741789 := oddQ_num h
theorem wrap_mulQ {y v : Int} (hy : 0 ≤ y ∧ y < 1073741789) (hv : 0 ≤ v ∧ v < 1073741789) : 0 ≤ y * v ∧ y * v ≤ 1152921429444920521 := by
  refine ⟨Int.mul_nonneg hy.1 hv.1, ?_⟩
  have : y * v ≤ 1073741789 * 1073741789 := Int.mul_le_mul (by omega) (by omega) hv.1 (by omega)
  omega

theorem ints_two (w : World) (x y : Int) (t : TypeId) (B : Nat) (hB : w.heap.size = B) (hx : R64 x) (hy : R64 y) : Ints (w.alloc (.cells #[.int .i64 x, .int .i64 y] t)) (.slice (some ⟨B, 0, none⟩) 2 2) [x, y] := by
  subst hB
  have h := World.alloc_heap_new w (.cells #[.int .i64 x, .int .i64 y] t)
  exact ints_of2 (row_cell h rfl) (row_cell h rfl) hx hy (Nat.le_refl _)
theorem tot_two (x y : Int) : totQ [x % 1073741789, y] = (x % 1073741789 + y) % 1073741789 := by
  show ((0 + x % 1073741789) % 1073741789 + y) % 1073741789 = _
  omega
set_option maxRecDepth 100000 in
theorem tot2_any (x y : Int) (w : World) (t : TypeId) (hy : 0 ≤ y ∧ y < 1073741789) :
    Calls Try.prog 58 #[.slice (some ⟨w.heap.size, 0, none⟩) 2 2] (w.alloc (.cells #[.int .i64 (x % 1073741789), .int .i64 y] t)).drew fun r w' => r = .returned (.int .i64 ((x % 1073741789 + y) % 1073741789)) ∧ (w.alloc (.cells #[.int .i64 (x % 1073741789), .int .i64 y] t)).drew = w' := by
  have h0 : 0 ≤ x % 1073741789 ∧ x % 1073741789 < 1073741789 := by omega
  rw [← tot_two]
  exact tot_any _ _ _ ((ints_two w _ _ t _ rfl (num_r64 h0) (num_r64 hy)).below ((Below.refl _ _).drew)) (by
    intro z hz
    simp only [List.mem_cons, List.not_mem_nil, or_false] at hz
    rcases hz with rfl | rfl
    · exact h0
    · exact hy)
theorem wrap_tmod {p : Int} (h : 0 ≤ p ∧ p ≤ 1152921429444920521) : IntKind.i64.wrap p = p ∧ p.tmod 1073741789 = p % 1073741789 := by
  refine ⟨?_, ?_⟩
  · rw [IntKind.wrap_i64]; omega
  · rw [Int.tmod_eq_emod_of_nonneg h.1]

set_option maxRecDepth 100000 in
set_option maxHeartbeats 8000000 in
theorem part_any (y r v : Int) (mv : Value) (ms : List Int) (w : World) (hM : Ints w mv ms) :
    Calls Try.prog 16 #[.int .i64 y, .agg #[.int .i64 r, .int .i64 v], mv] w fun e w' => e = .returned (.tuple #[.int .i64 (partV y r v ms), .int .i64 (partE y r v ms)]) ∧ Below w.heap.size w w' := by
  have off : partE y r v ms ≠ 0 → partV y r v ms = 0 := fun h => by unfold partV; rw [if_neg h]
  obtain ⟨W1, hW1⟩ : ∃ W1, W1 = w.alloc (.cells #[.int .i64 r, .int .i64 v] 27) := ⟨_, rfl⟩
  have hb1 : Below w.heap.size w W1 := hW1 ▸ below_new _ _ _
  have hr1 : W1.heap[w.heap.size]? = some (.cells #[.int .i64 r, .int .i64 v] 27 (0, 0)) := by rw [hW1]; exact World.alloc_heap_new _ _
  have c0 : W1.cell? ⟨w.heap.size, 0, none⟩ = some (.int .i64 r) := row_cell hr1 rfl
  have c1 : W1.cell? ⟨w.heap.size, 1, none⟩ = some (.int .i64 v) := row_cell hr1 rfl
  have HM := Lib.hid (hM.below hb1)
  obtain ⟨a3, k3, rfl, -, hl3, -⟩ := id hM
  have HB := Lib.hid hb1
  have HW1 := Lib.hid hW1
  have HOFF := Lib.hid off
  clear hM hb1 hr1 hW1 off
  cases hoy : oddQ y with
  | true =>
    have HV : Hid (partE y r v ms = 1) := Lib.hid (by rw [partE_no, if_pos (.inl hoy)])
    have HX := Lib.hid (HOFF.out (by rw [HV.out]; decide))
    have HI := Lib.hid (inorder_any y W1)
    rw [hoy] at HI
    clear hoy
    go_enter Try.func16, Try.ntmps16
    go_wp2_with (rw [← HW1.out])
    refine (HI.out).mono ?_
    rintro e w2 ⟨rfl, rfl⟩
    go_wp2_with fail
    go_ret2
    exact ⟨by rw [HV.out, HX.out]; rfl, HB.out⟩
  | false =>
    have hyn := oddQ_no hoy
    have HI := Lib.hid (inorder_any y W1)
    rw [hoy] at HI
    cases hall : allQ ms with
    | false =>
      have HV : Hid (partE y r v ms = 1) := Lib.hid (by rw [partE_no, if_pos (.inr hall)])
      have HX := Lib.hid (HOFF.out (by rw [HV.out]; decide))
      have HA := Lib.hid (all_any _ ms W1 HM.out)
      rw [hall] at HA
      clear hoy hall hyn
      go_enter Try.func16, Try.ntmps16
      go_wp2_with (rw [← HW1.out])
      refine (HI.out).mono ?_
      rintro e w2 ⟨rfl, rfl⟩
      go_wp2_with fail
      refine (HA.out).mono ?_
      rintro e w3 ⟨rfl, hb3⟩
      replace c0 := below_cell hb3 c0
      replace c1 := below_cell hb3 c1
      replace HM := Lib.hid (HM.out.below hb3)
      replace HB := Lib.hid (HB.out.trans (hb3.mono HB.out.size))
      clear hb3
      go_wp2_with fail
      go_ret2
      exact ⟨by rw [HV.out, HX.out]; rfl, HB.out⟩
    | true =>
      have HA := Lib.hid (all_any _ ms W1 HM.out)
      rw [hall] at HA
      have HNU := Lib.hid (allQ_ok hall).2
      have HE : Hid (partE y r v ms = if r < 0 ∨ 64 ≤ r ∨ oddQ v = true then 340 else 0) := Lib.hid (by rw [partE_no, if_neg (by rw [hoy, hall]; simp)])
      by_cases hr0 : r < 0
      · have HV : Hid (partE y r v ms = 340) := Lib.hid (by rw [HE.out, if_pos (.inl hr0)])
        have HX := Lib.hid (HOFF.out (by rw [HV.out]; decide))
        have d0 : decide (r < 0) = true := decide_eq_true hr0
        clear hoy hall hyn hr0
        go_enter Try.func16, Try.ntmps16
        go_wp2_with (rw [← HW1.out])
        refine (HI.out).mono ?_
        rintro e w2 ⟨rfl, rfl⟩
        go_wp2_with fail
        refine (HA.out).mono ?_
        rintro e w3 ⟨rfl, hb3⟩
        replace c0 := below_cell hb3 c0
        replace c1 := below_cell hb3 c1
        replace HM := Lib.hid (HM.out.below hb3)
        replace HB := Lib.hid (HB.out.trans (hb3.mono HB.out.size))
        clear hb3
        go_wp2_with fail
        go_ret2
        exact ⟨by rw [HV.out, HX.out]; rfl, HB.out⟩
      have d0 : decide (r < 0) = false := decide_eq_false hr0
      by_cases hr1 : 64 ≤ r
      · have HV : Hid (partE y r v ms = 340) := Lib.hid (by rw [HE.out, if_pos (.inr (.inl hr1))])
        have HX := Lib.hid (HOFF.out (by rw [HV.out]; decide))
        have d1 : decide (64 ≤ r) = true := decide_eq_true hr1
        clear hoy hall hyn hr0 hr1
        go_enter Try.func16, Try.ntmps16
        go_wp2_with (rw [← HW1.out])
        refine (HI.out).mono ?_
        rintro e w2 ⟨rfl, rfl⟩
        go_wp2_with fail
        refine (HA.out).mono ?_
        rintro e w3 ⟨rfl, hb3⟩
        replace c0 := below_cell hb3 c0
        replace c1 := below_cell hb3 c1
        replace HM := Lib.hid (HM.out.below hb3)
        replace HB := Lib.hid (HB.out.trans (hb3.mono HB.out.size))
        clear hb3
        go_wp2_with fail
        go_ret2
        exact ⟨by rw [HV.out, HX.out]; rfl, HB.out⟩
      have d1 : decide (64 ≤ r) = false := decide_eq_false hr1
      cases hov : oddQ v with
      | true =>
        have HV : Hid (partE y r v ms = 340) := Lib.hid (by rw [HE.out, if_pos (.inr (.inr hov))])
        have HX := Lib.hid (HOFF.out (by rw [HV.out]; decide))
        have HI2 := Lib.hid (fun ww => inorder_any v ww)
        rw [hov] at HI2
        clear hoy hall hyn hr0 hr1 hov
        go_enter Try.func16, Try.ntmps16
        go_wp2_with (rw [← HW1.out])
        refine (HI.out).mono ?_
        rintro e w2 ⟨rfl, rfl⟩
        go_wp2_with fail
        refine (HA.out).mono ?_
        rintro e w3 ⟨rfl, hb3⟩
        replace c0 := below_cell hb3 c0
        replace c1 := below_cell hb3 c1
        replace HM := Lib.hid (HM.out.below hb3)
        replace HB := Lib.hid (HB.out.trans (hb3.mono HB.out.size))
        clear hb3
        go_wp2_with fail
        refine (HI2.out _).mono ?_
        rintro e w4 ⟨rfl, rfl⟩
        go_wp2_with fail
        go_ret2
        exact ⟨by rw [HV.out, HX.out]; rfl, HB.out⟩
      | false =>
        have HV : Hid (partE y r v ms = 0) := Lib.hid (by rw [HE.out, if_neg (by rw [hov]; simp; omega)])
        have HX : Hid (partV y r v ms = (y * v + totQ ms) % 1073741789) := Lib.hid (by unfold partV; rw [HV.out, if_pos rfl]; generalize y * v = q; omega)
        have HI2 := Lib.hid (fun ww => inorder_any v ww)
        rw [hov] at HI2
        have hvn := oddQ_no hov
        have hyv := wrap_mulQ hyn hvn
        have htn := totQ_num ms
        have HT : Hid (∀ z, totQ [y * v % 1073741789, z] = (y * v % 1073741789 + z) % 1073741789) := Lib.hid fun z => by
          show ((0 + y * v % 1073741789) % 1073741789 + z) % 1073741789 = _
          omega
        obtain ⟨s, hs⟩ : ∃ s, s = totQ ms := ⟨_, rfl⟩
        have HTM := Lib.hid (fun ww (h : Ints ww (.slice a3 ms.length k3) ms) => tot_any _ ms ww h HNU.out)
        rw [← hs] at HX HTM htn
        clear hoy hall hr0 hr1 hov hs
        go_enter Try.func16, Try.ntmps16
        go_wp2_with (rw [← HW1.out])
        refine (HI.out).mono ?_
        rintro e w2 ⟨rfl, rfl⟩
        go_wp2_with fail
        refine (HA.out).mono ?_
        rintro e w3 ⟨rfl, hb3⟩
        replace c0 := below_cell hb3 c0
        replace c1 := below_cell hb3 c1
        replace HM := Lib.hid (HM.out.below hb3)
        replace HB := Lib.hid (HB.out.trans (hb3.mono HB.out.size))
        clear hb3
        go_wp2_with fail
        refine (HI2.out _).mono ?_
        rintro e w4 ⟨rfl, rfl⟩
        have HBN := Lib.hid ((HB.out.alloc HB.out.size (.cells #[.int .i64 (y * v % 1073741789), .int .i64 s] 3)).drew)
        have hbd : Below w3.heap.size w3 w3.drew := (Below.refl _ _).drew
        replace HM := Lib.hid (HM.out.below hbd)
        replace HB := Lib.hid (HB.out.drew)
        clear hbd
        go_wp2_with fail
        have c1d : w3.drew.cell? ⟨w.heap.size, 1, none⟩ = some (.int .i64 v) := c1
        have HTT := Lib.hid (fun ww => tot2_any (y * v) s ww 3 htn)
        obtain ⟨hwp, htp⟩ := wrap_tmod hyv
        go_region_held3 (fun w' => w'.cell? ⟨w.heap.size, 1, none⟩ = some (.int .i64 v)) (first | go_keep | exact c1d | exact below_cell (((Below.refl _ _).alloc (Nat.le_refl _) _).drew) c1)
          (first
            | (go_at_call 58; (with_reducible refine (HTM.out _ HM.out).mono ?_); rintro e w5 ⟨rfl, rfl⟩)
            | (go_at_call 58; (with_reducible refine (HTT.out _).mono ?_); rintro e w6 ⟨rfl, rfl⟩))
        all_goals
          go_wp2_with fail
          go_ret2
          exact ⟨by rw [HV.out, HX.out]; rfl, HBN.out⟩

end Go.Proofs.Ytnbkbnbmmkfckaa

namespace Go.Proofs.Ytnbkbnbmmkfckaa
open Go.RowKit FP

theorem results_cell_tmp2 {fn : Func} {p u v : Tmp} {ty : TypeId} (h : fn.results = #[.cell p ty, .tmp u, .tmp v]) (tmps : Array Value) (P : Program) (w : World) :
    (results fn tmps).run P w = ((asAddr (tmps.getD p undef)).run P w).andThen fun a w₁ => ((loadVar ty a).run P w₁).andThen fun x w₂ => .ok (.tuple #[x, tmps.getD u undef, tmps.getD v undef]) w₂ := by
  simp only [results, h]
  simp [Sem.run_bind, Result.andThen]
/-- A key in a box. -/
theorem box_key (w : World) (e rv ov cv : Value) (t : TypeId) : ∃ W, W = w.alloc (.cells #[e, rv, ov, cv] t) ∧ Below w.heap.size w W ∧ W.heap[w.heap.size]? = some (.cells #[e, rv, ov, cv] t (0, 0)) ∧ W.heap.size = w.heap.size + 1 :=
  ⟨_, rfl, below_new _ _ _, World.alloc_heap_new _ _, by simp⟩
theorem finE_pub {rows : List (List Int)} {owners cs parts : List Int} {row : Int} (h : pubE rows owners cs row ≠ 0) : finE rows owners cs row parts = pubE rows owners cs row ∧ finB rows owners cs row parts = false := by
  have h1 : finE rows owners cs row parts = pubE rows owners cs row := by unfold finE; rw [if_pos h]
  exact ⟨h1, by unfold finB; rw [h1, decide_eq_false h]; rfl⟩
theorem finE_part {rows : List (List Int)} {owners cs parts : List Int} {row : Int} (h : pubE rows owners cs row = 0) : finE rows owners cs row parts = if allQ parts = true then 0 else 1 := by
  unfold finE
  rw [if_neg (by simp [h])]
  cases e : allQ parts with
  | false => rw [if_pos (allQ_iff.1 e)]; rfl
  | true => rw [if_neg (fun h2 => by rw [allQ_iff.2 h2] at e; cases e)]; rfl
theorem fin_off {rows : List (List Int)} {owners cs parts : List Int} {row : Int} (h : finB rows owners cs row parts = false) : finR rows owners cs row parts = 0 ∧ finV rows owners cs row parts = 0 := by
  unfold finR finV; rw [h]; exact ⟨rfl, rfl⟩
theorem fin_on {rows : List (List Int)} {owners cs parts : List Int} {row : Int} (h : finB rows owners cs row parts = true) : finR rows owners cs row parts = row ∧ finV rows owners cs row parts = totQ parts := by
  unfold finR finV; rw [h]; exact ⟨rfl, rfl⟩
theorem pubE_ok {rows : List (List Int)} {owners cs : List Int} {row : Int} (h : pubE rows owners cs row = 0) : dchkE rows owners cs = 0 ∧ 0 ≤ row ∧ row < (rows.length : Int) := by
  unfold pubE at h
  by_cases hd : dchkE rows owners cs = 0
  · rw [if_neg (by simp [hd])] at h
    by_cases hr : row < 0 ∨ (rows.length : Int) ≤ row
    · rw [if_pos hr] at h; cases h
    · exact ⟨hd, by omega, by omega⟩
  · rw [if_pos hd] at h; exact absurd h hd
theorem fitE_zero {rows : List (List Int)} {owners cs : List Int} {row v : Int} (h : pubE rows owners cs row = 0) (hv : 0 ≤ v ∧ v < 1073741789) : fitE rows owners cs row v = 0 := by
  obtain ⟨h1, h2⟩ := pubE_ok h
  unfold fitE
  rw [if_neg (by simp [h1]), if_pos (rightS_iff.2 ⟨h2, hv⟩)]

set_option maxRecDepth 100000 in
set_option maxHeartbeats 8000000 in
theorem finish_any (ep row : Int) (rv ov cv pv : Value) (rows : List (List Int)) (owners cs parts : List Int) (w : World) (hR : Rows2 w rv rows) (hO : Ints w ov owners) (hC : Ints w cv cs) (hP : Ints w pv parts) (hrow : R64 row) :
    Calls Try.prog 19 #[.agg #[.int .i64 ep, rv, ov, cv], .int .i64 row, pv] w fun r w' =>
      r = .returned (.tuple #[.agg #[.int .i64 (finR rows owners cs row parts), .int .i64 (finV rows owners cs row parts)], .bool (finB rows owners cs row parts), .int .i64 (finE rows owners cs row parts)]) ∧ Below w.heap.size w w' := by
  obtain ⟨W0, hW0, hb0, hr0, hs0⟩ := box_key w (.int .i64 ep) rv ov cv 38
  obtain ⟨W1, hW1, hb1, hr1, hz⟩ := box_prog W0 (.int .i64 0) (.int .i64 0) 27
  have hb : Below w.heap.size w W1 := hb0.trans (hb1.mono hb0.size)
  have HR := Lib.hid (hR.below hb)
  have HO := Lib.hid (hO.below hb)
  have HC := Lib.hid (hC.below hb)
  have HP := Lib.hid (hP.below hb)
  have HR0 := Lib.hid hR
  have HO0 := Lib.hid hO
  have HC0 := Lib.hid hC
  obtain ⟨a1, k1, rfl, -, hl1, -⟩ := id hR
  obtain ⟨a2, k2, rfl, -, hl2, -⟩ := id hO
  obtain ⟨a3, k3, rfl, -, hl3, -⟩ := id hC
  obtain ⟨a4, k4, rfl, -, hl4, -⟩ := id hP
  have c1 : W1.cell? ⟨w.heap.size, 1, none⟩ = some (.slice a1 rows.length k1) := below_cell hb1 (row_cell hr0 rfl)
  have c2 : W1.cell? ⟨w.heap.size, 2, none⟩ = some (.slice a2 owners.length k2) := below_cell hb1 (row_cell hr0 rfl)
  have c3 : W1.cell? ⟨w.heap.size, 3, none⟩ = some (.slice a3 cs.length k3) := below_cell hb1 (row_cell hr0 rfl)
  rw [hs0] at hr1
  have Q := Lib.hid hr1
  rw [hW0] at hW1
  have HW1 := Lib.hid hW1
  have HB := Lib.hid hb
  clear hR hO hC hP hb hb0 hb1 hr0 hr1 hW0 hW1 hz
  have HPB := Lib.hid (public_any _ _ _ rows owners cs row _ HR.out HO.out HC.out hrow)
  by_cases hp : pubE rows owners cs row = 0
  rotate_left
  · obtain ⟨x1, x2⟩ := finE_pub (parts := parts) hp
    obtain ⟨x3, x4⟩ := fin_off x2
    have HV := Lib.hid (And.intro x1 (And.intro x2 (And.intro x3 x4)))
    have d0 : (pubE rows owners cs row != 0) = true := bne_iff_ne.2 hp
    generalize pubE rows owners cs row = q at *
    generalize pubR rows owners cs row = q2 at *
    clear hp x1 x2 x3 x4
    go_enter Try.func19, Try.ntmps19
    go_wp2_with (rw [← HW1.out])
    refine (HPB.out).mono ?_
    rintro e w2 ⟨rfl, hb2⟩
    replace c1 := below_cell hb2 c1
    replace c2 := below_cell hb2 c2
    replace c3 := below_cell hb2 c3
    replace HR := Lib.hid (HR.out.below hb2)
    replace HO := Lib.hid (HO.out.below hb2)
    replace HC := Lib.hid (HC.out.below hb2)
    replace HP := Lib.hid (HP.out.below hb2)
    replace Q := Lib.hid ((hb2.block _ (row_lt Q.out)).trans Q.out)
    replace HB := Lib.hid (HB.out.trans (hb2.mono HB.out.size))
    clear hb2
    have x0 := row_cell Q.out (k := 0) rfl
    have x1 := row_cell Q.out (k := 1) rfl
    have f0 := row_free Q.out 0
    have f1 := row_free Q.out 1
    go_wp2_with fail
    try simp only [Exit.inBlock, Exit.then]
    refine bodyPost_ret (v := .tuple #[.agg #[.int .i64 0, .int .i64 0], .bool false, .int .i64 q]) ?_ rfl ?_
    · rw [results_cell_tmp2 rfl]
      go_simp
    · exact ⟨by rw [HV.out.1, HV.out.2.1, HV.out.2.2.1, HV.out.2.2.2], (HB.out.setCell (Nat.le_succ _) _).setCell (Nat.le_succ _) _⟩
  have HE := Lib.hid (finE_part (parts := parts) hp)
  have HF0 := Lib.hid (fun v hv => fitE_zero (v := v) hp hv)
  have HIN := Lib.hid (pubE_ok hp).2
  rw [hp] at HPB
  generalize pubR rows owners cs row = q2 at *
  clear hp
  cases hall : allQ parts with
  | false =>
    have HV : Hid (finE rows owners cs row parts = 1) := Lib.hid (by rw [HE.out, hall]; rfl)
    have x2 : finB rows owners cs row parts = false := by unfold finB; rw [HV.out]; rfl
    obtain ⟨x3, x4⟩ := fin_off x2
    have HX := Lib.hid (And.intro x2 (And.intro x3 x4))
    have HA := Lib.hid (fun ww h => all_any (.slice a4 parts.length k4) parts ww h)
    rw [hall] at HA
    clear hall x2 x3 x4
    go_enter Try.func19, Try.ntmps19
    go_wp2_with (rw [← HW1.out])
    refine (HPB.out).mono ?_
    rintro e w2 ⟨rfl, hb2⟩
    replace c1 := below_cell hb2 c1
    replace c2 := below_cell hb2 c2
    replace c3 := below_cell hb2 c3
    replace HR := Lib.hid (HR.out.below hb2)
    replace HO := Lib.hid (HO.out.below hb2)
    replace HC := Lib.hid (HC.out.below hb2)
    replace HP := Lib.hid (HP.out.below hb2)
    replace Q := Lib.hid ((hb2.block _ (row_lt Q.out)).trans Q.out)
    replace HB := Lib.hid (HB.out.trans (hb2.mono HB.out.size))
    clear hb2
    go_wp2_with fail
    refine (HA.out _ HP.out).mono ?_
    rintro e w3 ⟨rfl, hb3⟩
    replace c1 := below_cell hb3 c1
    replace c2 := below_cell hb3 c2
    replace c3 := below_cell hb3 c3
    replace HR := Lib.hid (HR.out.below hb3)
    replace HO := Lib.hid (HO.out.below hb3)
    replace HC := Lib.hid (HC.out.below hb3)
    replace HP := Lib.hid (HP.out.below hb3)
    replace Q := Lib.hid ((hb3.block _ (row_lt Q.out)).trans Q.out)
    replace HB := Lib.hid (HB.out.trans (hb3.mono HB.out.size))
    clear hb3
    have x0 := row_cell Q.out (k := 0) rfl
    have x1 := row_cell Q.out (k := 1) rfl
    have f0 := row_free Q.out 0
    have f1 := row_free Q.out 1
    go_wp2_with fail
    try simp only [Exit.inBlock, Exit.then]
    refine bodyPost_ret (v := .tuple #[.agg #[.int .i64 0, .int .i64 0], .bool false, .int .i64 1]) ?_ rfl ?_
    · rw [results_cell_tmp2 rfl]
      go_simp
    · exact ⟨by rw [HV.out, HX.out.1, HX.out.2.1, HX.out.2.2], (HB.out.setCell (Nat.le_succ _) _).setCell (Nat.le_succ _) _⟩
  | true =>
    have HV : Hid (finE rows owners cs row parts = 0) := Lib.hid (by rw [HE.out, hall]; rfl)
    have HNU := Lib.hid (allQ_ok hall).2
    have htn := totQ_num parts
    have HBV : Hid (finB rows owners cs row parts = fitB rows owners cs row (totQ parts)) := Lib.hid (by unfold finB; rw [HV.out]; rfl)
    have HOFF := Lib.hid (fun h => fin_off (rows := rows) (owners := owners) (cs := cs) (row := row) (parts := parts) h)
    have HON := Lib.hid (fun h => fin_on (rows := rows) (owners := owners) (cs := cs) (row := row) (parts := parts) h)
    have HA := Lib.hid (fun ww h => all_any (.slice a4 parts.length k4) parts ww h)
    rw [hall] at HA
    have HTM := Lib.hid (fun ww (h : Ints ww (.slice a4 parts.length k4) parts) => tot_any _ parts ww h HNU.out)
    obtain ⟨s, hs⟩ : ∃ s, s = totQ parts := ⟨_, rfl⟩
    rw [← hs] at HTM htn HBV HON
    have hs64 : R64 s := num_r64 htn
    have HFE := Lib.hid (HF0.out s htn)
    have HFT := Lib.hid (fun rv ov cv ww h1 h2 h3 => fits_any rv ov cv rows owners cs row s ww h1 h2 h3 hrow hs64)
    rw [HFE.out] at HFT
    clear hall hs HF0 HE HFE
    go_enter Try.func19, Try.ntmps19
    go_wp2_with (rw [← HW1.out])
    refine (HPB.out).mono ?_
    rintro e w2 ⟨rfl, hb2⟩
    replace c1 := below_cell hb2 c1
    replace c2 := below_cell hb2 c2
    replace c3 := below_cell hb2 c3
    replace HR := Lib.hid (HR.out.below hb2)
    replace HO := Lib.hid (HO.out.below hb2)
    replace HC := Lib.hid (HC.out.below hb2)
    replace HP := Lib.hid (HP.out.below hb2)
    replace Q := Lib.hid ((hb2.block _ (row_lt Q.out)).trans Q.out)
    replace HB := Lib.hid (HB.out.trans (hb2.mono HB.out.size))
    clear hb2
    go_wp2_with fail
    refine (HA.out _ HP.out).mono ?_
    rintro e w3 ⟨rfl, hb3⟩
    replace c1 := below_cell hb3 c1
    replace c2 := below_cell hb3 c2
    replace c3 := below_cell hb3 c3
    replace HR := Lib.hid (HR.out.below hb3)
    replace HO := Lib.hid (HO.out.below hb3)
    replace HC := Lib.hid (HC.out.below hb3)
    replace HP := Lib.hid (HP.out.below hb3)
    replace Q := Lib.hid ((hb3.block _ (row_lt Q.out)).trans Q.out)
    replace HB := Lib.hid (HB.out.trans (hb3.mono HB.out.size))
    clear hb3
    go_wp2_with fail
    refine (HTM.out _ HP.out).mono ?_
    rintro e w4 ⟨rfl, rfl⟩
    have x0 := row_cell Q.out (k := 0) rfl
    have x1 := row_cell Q.out (k := 1) rfl
    have f0 := row_free Q.out 0
    have f1 := row_free Q.out 1
    have HSZ : Hid (w.heap.size < w3.heap.size) := Lib.hid (by have := row_lt Q.out; omega)
    obtain ⟨W5, hW5⟩ : ∃ W5, W5 = (w3.setCell ⟨w.heap.size + 1, 0, none⟩ (.int .i64 row)).setCell ⟨w.heap.size + 1, 1, none⟩ (.int .i64 s) := ⟨_, rfl⟩
    have hq : W5.heap[w.heap.size + 1]? = some (.cells #[.int .i64 row, .int .i64 s] 27 (0, 0)) := by
      rw [hW5]; exact row_set (row_set Q.out 0 _) 1 _
    have hb5 : Below (w.heap.size + 1) w3 W5 := by
      rw [hW5]
      exact ((Below.refl (w.heap.size + 1) w3).setCell (p := ⟨w.heap.size + 1, 0, none⟩) (Nat.le_refl _) _).setCell (p := ⟨w.heap.size + 1, 1, none⟩) (Nat.le_refl _) _
    have HB5 : Hid (Below w.heap.size w W5) := Lib.hid (HB.out.trans (hb5.mono (Nat.le_succ _)))
    have HR5 := Lib.hid (HR0.out.below HB5.out)
    have HO5 := Lib.hid (HO0.out.below HB5.out)
    have HC5 := Lib.hid (HC0.out.below HB5.out)
    have c1 := (hb5.cell (p := ⟨w.heap.size, 1, none⟩) (Nat.lt_succ_self _)).trans c1
    have c2 := (hb5.cell (p := ⟨w.heap.size, 2, none⟩) (Nat.lt_succ_self _)).trans c2
    have c3 := (hb5.cell (p := ⟨w.heap.size, 3, none⟩) (Nat.lt_succ_self _)).trans c3
    have y0 := row_cell hq (k := 0) rfl
    have y1 := row_cell hq (k := 1) rfl
    have Q5 := Lib.hid hq
    have HW5 := Lib.hid hW5
    clear hW5 hq hb5 Q HR HO HC HP HB
    cases hfb : fitB rows owners cs row s with
    | false =>
      rw [hfb] at HFT HBV
      have HX := Lib.hid (HOFF.out HBV.out)
      clear hfb
      go_wp2_with (rw [← HW5.out])
      clear x0 x1 f0 f1
      refine (HFT.out _ _ _ _ HR5.out HO5.out HC5.out).mono ?_
      rintro e w6 ⟨rfl, hb6⟩
      replace c1 := below_cell hb6 c1
      replace c2 := below_cell hb6 c2
      replace c3 := below_cell hb6 c3
      replace HR5 := Lib.hid (HR5.out.below hb6)
      replace HO5 := Lib.hid (HO5.out.below hb6)
      replace HC5 := Lib.hid (HC5.out.below hb6)
      replace Q5 := Lib.hid ((hb6.block _ (row_lt Q5.out)).trans Q5.out)
      replace HB5 := Lib.hid (HB5.out.trans (hb6.mono HB5.out.size))
      clear hb6
      have x0 := row_cell Q5.out (k := 0) rfl
      have x1 := row_cell Q5.out (k := 1) rfl
      have f0 := row_free Q5.out 0
      have f1 := row_free Q5.out 1
      go_wp2_with fail
      try simp only [Exit.inBlock, Exit.then]
      refine bodyPost_ret (v := .tuple #[.agg #[.int .i64 0, .int .i64 0], .bool false, .int .i64 0]) ?_ rfl ?_
      · rw [results_cell_tmp2 rfl]
        go_simp
      · exact ⟨by rw [HV.out, HBV.out, HX.out.1, HX.out.2], (HB5.out.setCell (Nat.le_succ _) _).setCell (Nat.le_succ _) _⟩
    | true =>
      rw [hfb] at HFT HBV
      have HX := Lib.hid (HON.out HBV.out)
      clear hfb
      go_wp2_with (rw [← HW5.out])
      clear x0 x1 f0 f1
      refine (HFT.out _ _ _ _ HR5.out HO5.out HC5.out).mono ?_
      rintro e w6 ⟨rfl, hb6⟩
      replace c1 := below_cell hb6 c1
      replace c2 := below_cell hb6 c2
      replace c3 := below_cell hb6 c3
      replace HR5 := Lib.hid (HR5.out.below hb6)
      replace HO5 := Lib.hid (HO5.out.below hb6)
      replace HC5 := Lib.hid (HC5.out.below hb6)
      replace Q5 := Lib.hid ((hb6.block _ (row_lt Q5.out)).trans Q5.out)
      replace HB5 := Lib.hid (HB5.out.trans (hb6.mono HB5.out.size))
      clear hb6
      have x0 := row_cell Q5.out (k := 0) rfl
      have x1 := row_cell Q5.out (k := 1) rfl
      have f0 := row_free Q5.out 0
      have f1 := row_free Q5.out 1
      go_wp2_with fail
      try simp only [Exit.inBlock, Exit.then]
      refine bodyPost_ret (v := .tuple #[.agg #[.int .i64 row, .int .i64 s], .bool true, .int .i64 0]) ?_ rfl ?_
      · rw [results_cell_tmp2 rfl]
        go_simp
      · exact ⟨by rw [HV.out, HBV.out, HX.out.1, HX.out.2], (HB5.out.setCell (Nat.le_succ _) _).setCell (Nat.le_succ _) _⟩

end Go.Proofs.Ytnbkbnbmmkfckaa

namespace Go.Proofs.Ytnbkbnbmmkfckaa
open Go.RowKit FP

/-- Are rows helpers for a row of a program? -/
def rowsB (rows : List (List Int)) (row : Int) (hs : List Int) : Bool := (decide (0 ≤ row) && decide (row < (rows.length : Int))) && helpB rows row hs
theorem rowsB_off {rows : List (List Int)} {row : Int} {hs : List Int} (h : helpB rows row hs = false) : rowsB rows row hs = false := by
  unfold rowsB; rw [h, Bool.and_false]
theorem helpOne_of {n : Nat} {row la x : Int} (h1 : la < x) (h2 : x < (n : Int)) (h3 : x ≠ row) : helpOne n row la x = true := by
  unfold helpOne; rw [decide_eq_true h1, decide_eq_true h2, decide_eq_true h3]; rfl
theorem helpOne_off {n : Nat} {row la x : Int} (h : x ≤ la ∨ (n : Int) ≤ x ∨ x = row) : helpOne n row la x = false := by
  unfold helpOne
  rcases h with h | h | h
  · rw [decide_eq_false (by omega : ¬ la < x)]; rfl
  · rw [decide_eq_false (by omega : ¬ x < (n : Int)), Bool.false_and, Bool.and_false]
  · rw [decide_eq_false (by simp [h] : ¬ x ≠ row), Bool.and_false, Bool.and_false]

set_option maxRecDepth 100000 in
set_option maxHeartbeats 8000000 in
theorem rRows40_any (rv ov hv : Value) (rows : List (List Int)) (row : Int) (hs : List Int) (w : World) (hR : Rows2 w rv rows) (ho : ∃ a n c, ov = .slice a n c) (hH : Ints w hv hs) :
    Calls Try.prog 26 #[.agg #[rv, ov], .int .i64 row, hv] w fun r w' => r = .returned (.bool (rowsB rows row hs)) ∧ Below w.heap.size w w' := by
  obtain ⟨W1, hW1, hb1, hr1, hz⟩ := box_prog w rv ov 25
  have HC := Lib.hid (fun k (hk : k < hs.length) => (hH.below hb1).get hk)
  obtain ⟨a1, k1, rfl, -, hl1, -⟩ := id hR
  obtain ⟨a2, n2, k2, rfl⟩ := ho
  obtain ⟨a3, k3, rfl, -, hl3, -⟩ := id hH
  have x0 : W1.cell? ⟨w.heap.size, 0, none⟩ = some (.slice a1 rows.length k1) := row_cell hr1 rfl
  have HW1 := Lib.hid hW1
  have HB1 := Lib.hid hb1
  clear hR hH hr1 hW1 hb1 hz
  go_enter Try.func26, Try.ntmps26
  go_wp2_with (rw [← HW1.out])
  go_loopw [7] (fun i W => ∃ k : Nat, k ≤ hs.length ∧ i = .int .i64 k ∧ Hid (helpB rows row (hs.take k) = true) ∧ Below W1.heap.size W1 W) (fun i _ => hs.length - (intOf i).toNat)
  case atStart => exact ⟨0, Nat.zero_le _, rfl, Lib.hid (by rw [List.take_zero]; rfl), Below.refl _ _⟩
  case round =>
    obtain ⟨k, hkl, rfl, HP, hb⟩ := hrel
    have z0 := below_cell hb x0
    by_cases hlt : k < hs.length
    · obtain ⟨hr9, b, off, n9, k9, e9, q9⟩ := HC.out k hlt
      simp only [Value.slice.injEq] at e9
      obtain ⟨rfl, -, -⟩ := e9
      rw [nth_at hlt] at q9 hr9
      have HST := Lib.hid (helpB_take hlt HP.out)
      have HBD : Hid (helpOne rows.length row (lastH (hs.take k)) hs[k] = false → rowsB rows row hs = false) := Lib.hid (fun h => rowsB_off (helpB_bad (k := k + 1) ((helpB_take hlt HP.out).trans h)))
      have hge := lastH_ge HP.out
      have HLA : Hid (∀ j (h : j < hs.length), j + 1 = k → lastH (hs.take k) = hs[j]) := Lib.hid (fun j h e => by subst e; exact lastH_take h)
      have HL0 : Hid (k = 0 → lastH (hs.take k) = -1) := Lib.hid (fun e => by subst e; rw [List.take_zero]; rfl)
      have y0 := below_cell hb q9
      have i0 : 0 ≤ (k : Int) := by omega
      have i1 : (k : Int) < (hs.length : Int) := by omega
      obtain ⟨la, hla⟩ : ∃ la, la = lastH (hs.take k) := ⟨_, rfl⟩
      obtain ⟨x, hx⟩ : ∃ x, x = hs[k] := ⟨_, rfl⟩
      rw [← hla] at hge HST HBD HLA HL0
      rw [← hx] at y0 hr9 HST HBD
      have HBW := Lib.hid hb
      clear hx hla q9 hb
      by_cases h0 : x < 0
      · have d0 : decide (x < 0) = true := decide_eq_true h0
        have HV := Lib.hid (HBD.out (helpOne_off (.inl (by omega))))
        clear h0
        go_wp2_with fail
        go_quiet (fail)
        go_wp2_with fail
        go_ret
        exact ⟨ret_bool HV.out.symm, HB1.out.trans ((below_drewN HBW.out _).mono HB1.out.size)⟩
      have d0 : decide (x < 0) = false := decide_eq_false h0
      by_cases h1 : (rows.length : Int) ≤ x
      · have d1 : decide ((rows.length : Int) ≤ x) = true := decide_eq_true h1
        have HV := Lib.hid (HBD.out (helpOne_off (.inr (.inl h1))))
        clear h0 h1
        go_wp2_with fail
        go_quiet (fail)
        go_wp2_with fail
        go_ret
        exact ⟨ret_bool HV.out.symm, HB1.out.trans ((below_drewN HBW.out _).mono HB1.out.size)⟩
      have d1 : decide ((rows.length : Int) ≤ x) = false := decide_eq_false h1
      by_cases h2 : x = row
      · have d2 : (x == row) = true := beq_iff_eq.2 h2
        have HV := Lib.hid (HBD.out (helpOne_off (.inr (.inr h2))))
        clear h0 h1 h2
        go_wp2_with fail
        go_quiet (fail)
        go_wp2_with fail
        go_ret
        exact ⟨ret_bool HV.out.symm, HB1.out.trans ((below_drewN HBW.out _).mono HB1.out.size)⟩
      have d2 : (x == row) = false := beq_eq_false_iff_ne.2 h2
      by_cases hk0 : k = 0
      · have d3 : decide (0 < k) = false := decide_eq_false (by omega)
        have HN := Lib.hid (HST.out.trans (helpOne_of (by rw [HL0.out hk0]; omega) (by omega) h2))
        clear h0 h1 h2 hk0
        go_wp2_with fail
        go_quiet (fail)
        go_wp2_with fail
        go_roundw
        case rel => exact ⟨k + 1, by omega, by go_num, HN, below_drewN HBW.out _⟩
        case measure => simp [intOf]; omega
      have d3 : decide (0 < k) = true := decide_eq_true (by omega)
      obtain ⟨j, hj⟩ : ∃ j, j = k - 1 := ⟨_, rfl⟩
      have hw : IntKind.i64.wrap ((k : Int) - 1) = (j : Int) := by rw [IntKind.wrap_i64]; omega
      have HLJ := Lib.hid (HLA.out j (by omega) (by omega))
      obtain ⟨hr8, b2, off2, n8, k8, e8, q8⟩ := HC.out j (by omega)
      rw [nth_at (show j < hs.length by omega)] at q8 hr8
      simp only [Value.slice.injEq, Option.some.injEq, Addr.mk.injEq] at e8
      obtain ⟨⟨rfl, rfl, -⟩, -, -⟩ := e8
      have j0 : 0 ≤ (j : Int) := by omega
      have j1 : (j : Int) < (hs.length : Int) := by omega
      obtain ⟨y, hy⟩ : ∃ y, y = hs[j]'(by omega) := ⟨_, rfl⟩
      rw [← hy] at q8 hr8 HLJ
      have y1 := below_cell HBW.out q8
      have HK0 := Lib.hid hk0
      clear hy q8 hj
      by_cases hle : x ≤ y
      · have d4 : decide (x ≤ y) = true := decide_eq_true hle
        have HV := Lib.hid (HBD.out (helpOne_off (.inl (by rw [HLJ.out]; exact hle))))
        clear h0 h1 h2 hk0 hle
        go_wp2_with fail
        go_quiet (fail)
        go_wp2_with fail
        go_ret
        exact ⟨ret_bool HV.out.symm, HB1.out.trans ((below_drewN HBW.out _).mono HB1.out.size)⟩
      · have d4 : decide (x ≤ y) = false := decide_eq_false hle
        have HN := Lib.hid (HST.out.trans (helpOne_of (by rw [HLJ.out]; omega) (by omega) h2))
        clear h0 h1 h2 hk0 hle
        go_wp2_with fail
        go_quiet (fail)
        go_wp2_with fail
        go_roundw
        case rel => exact ⟨k + 1, by omega, by go_num, HN, below_drewN HBW.out _⟩
        case measure => simp [intOf]; omega
    · have HV : Hid (rowsB rows row hs = (decide (0 ≤ row) && decide (row < (rows.length : Int)))) := Lib.hid (by
        unfold rowsB
        rw [show helpB rows row hs = true by have h := HP.out; rwa [List.take_of_length_le (by omega)] at h, Bool.and_true])
      have HBW := Lib.hid hb
      clear hb
      by_cases h0 : 0 ≤ row
      · have d0 : decide (0 ≤ row) = true := decide_eq_true h0
        by_cases h1 : row < (rows.length : Int)
        · have d1 : decide (row < (rows.length : Int)) = true := decide_eq_true h1
          rw [d0, d1] at HV
          clear h0 h1
          go_wp2_with fail
          go_ret
          exact ⟨ret_bool HV.out.symm, HB1.out.trans (HBW.out.mono HB1.out.size)⟩
        · have d1 : decide (row < (rows.length : Int)) = false := decide_eq_false h1
          rw [d0, d1] at HV
          clear h0 h1
          go_wp2_with fail
          go_ret
          exact ⟨ret_bool HV.out.symm, HB1.out.trans (HBW.out.mono HB1.out.size)⟩
      · have d0 : decide (0 ≤ row) = false := decide_eq_false h0
        rw [d0] at HV
        clear h0
        go_wp2_with fail
        go_ret
        exact ⟨ret_bool HV.out.symm, HB1.out.trans (HBW.out.mono HB1.out.size)⟩

set_option maxRecDepth 100000 in
set_option maxHeartbeats 8000000 in
theorem rSome_any (rv ov hv : Value) (rows : List (List Int)) (row : Int) (hs : List Int) (w : World) (hR : Rows2 w rv rows) (ho : ∃ a n c, ov = .slice a n c) (hH : Ints w hv hs) (hh : helpB rows row hs = true) (hl : hs.length ≤ 1000000) :
    Calls Try.prog 29 #[.agg #[rv, ov], hv] w fun r w' => ∃ v, r = .returned v ∧ Rows2 w' v (someQ rows hs) ∧ Below w.heap.size w w' := by
  obtain ⟨W1, hW1, hb1, hr1, hz⟩ := box_prog w rv ov 25
  have HC := Lib.hid (fun k (hk : k < hs.length) => (hH.below hb1).get hk)
  obtain ⟨a1, k1, g, rfl, hgs, hgr⟩ := rows_vals (hR.below hb1)
  obtain ⟨a2, n2, k2, rfl⟩ := ho
  obtain ⟨a3, k3, rfl, -, hl3, -⟩ := id hH
  obtain ⟨-, -, -, -, hl1, -⟩ := id hR
  have x0 : W1.cell? ⟨w.heap.size, 0, none⟩ = some (.slice a1 rows.length k1) := row_cell hr1 rfl
  have HW1 := Lib.hid hW1
  have HB1 := Lib.hid hb1
  have HGS := Lib.hid hgs
  have HGR := Lib.hid hgr
  have HIN := Lib.hid (fun r hr => (helpB_in hh r hr).1)
  clear hR hH hr1 hW1 hb1 hz hgs hgr hh
  have hba := below_new W1 #[] 23
  have ho1 : (W1.alloc (.cells #[] 23)).ownsRow W1.heap.size 23 1 (.slice (some ⟨W1.heap.size, 0, none⟩) 0 0) 0 ((List.range 0).map fun j => g (hs.getD j 0).toNat) := World.ownsRow_made W1 #[] 0 (Nat.le_refl _) (by unfold maxLen; omega) rfl
  go_enter Try.func29, Try.ntmps29
  go_wp2_with (rw [← HW1.out])
  go_loopw [5, 6] (fun R i W => ∃ k : Nat, k ≤ hs.length ∧ i = .int .i64 k ∧ W.ownsRow W1.heap.size 23 1 R k ((List.range k).map fun j => g (hs.getD j 0).toNat) ∧ Below W1.heap.size W1 W) (fun _ i _ => hs.length - (intOf i).toNat)
  case atStart => exact ⟨0, Nat.zero_le _, rfl, ho1, hba⟩
  case round =>
    clear ho1 hba
    obtain ⟨k, hkl, rfl, hown, hb⟩ := hrel
    by_cases hlt : k < hs.length
    · obtain ⟨hr9, b, off, n9, k9, e9, q9⟩ := HC.out k hlt
      simp only [Value.slice.injEq] at e9
      obtain ⟨rfl, -, -⟩ := e9
      rw [nth_at hlt] at q9 hr9
      have hin := HIN.out _ (List.getElem_mem hlt)
      obtain ⟨n, hn⟩ : ∃ n : Nat, hs[k] = n := ⟨hs[k].toNat, by omega⟩
      have hnl : n < rows.length := by omega
      obtain ⟨rb, ro, har, qr, -⟩ := HGR.out n hnl
      subst har
      obtain ⟨hx, hm, hc, hgn⟩ := HGS.out n
      have HG1 : Hid ((List.range (k + 1)).map (fun j => g (hs.getD j 0).toNat) = (List.range k).map (fun j => g (hs.getD j 0).toNat) ++ [.slice hx hm hc]) := Lib.hid (by rw [range_snoc, getD_at hlt, hn, Int.toNat_natCast, hgn])
      rw [hgn] at qr
      rw [hn] at q9
      have y0 := below_cell hb q9
      have yr := below_cell hb qr
      have z0 := below_cell hb x0
      have HBW := Lib.hid hb
      have HOR := Lib.hid hown
      have i0 : 0 ≤ (k : Int) := by omega
      have i1 : (k : Int) < (hs.length : Int) := by omega
      have i2 : 0 ≤ (n : Int) := by omega
      have i3 : (n : Int) < (rows.length : Int) := by omega
      have hk6 : k ≤ 1000000 := by omega
      clear hb hown hin hgn hn hr9
      go_wp2_with fail
      have hbd : Below wr.heap.size wr (wr.alloc (.cells #[.slice hx hm hc] 23)).drew := ((Below.refl _ _).alloc (Nat.le_refl _) _).drew
      have HOK := Lib.hid (own_keep HOR.out hbd)
      have HCN : Hid ((wr.alloc (.cells #[.slice hx hm hc] 23)).drew.cell? ⟨wr.heap.size, 0, none⟩ = some (.slice hx hm hc)) := Lib.hid (cell_new1 _ _ _)
      have HBD := Lib.hid (HBW.out.trans (hbd.mono HBW.out.size))
      have HBS := Lib.hid HBD.out.size
      have hzz : (wr.alloc (.cells #[.slice hx hm hc] 23)).drew.heap.size = wr.heap.size + 1 := by simp
      have HZZ := Lib.hid hzz
      clear hbd hzz
      have HFAR : Hid (∀ w9, (wr.alloc (.cells #[.slice hx hm hc] 23)).drew.grownBy w9 u5.ownBlock → Below W1.heap.size W1 w9) := Lib.hid (fun w9 hg => HBD.out.trans (own_below HOK.out hg HBS.out))
      go_region_held3 (fun w' => w'.cell? ⟨w.heap.size, 0, none⟩ = some (.slice (some ⟨rb, ro, none⟩) rows.length k1) ∧ w'.cell? ⟨b, off + k, none⟩ = some (.int .i64 n) ∧ w'.cell? ⟨rb, ro + n, none⟩ = some (.slice hx hm hc)) (first | go_keep | exact ⟨t0, t1, t2⟩)
        (first
          | (refine step_app_row (by rfl) _ _ (by rfl) W1.heap.size k _ _ (by rfl) HOK.out wr.heap.size 1 (.slice hx hm hc) (by rfl) HCN.out (by rfl) hk6 HBS.out (wr.heap.size + 1) HZZ.out ?_; intro g9 cap9 w9 h9 hg9 hat9 hlt9; have t0 := below_cell (HFAR.out w9 hg9) x0; have t1 := below_cell (HFAR.out w9 hg9) q9; have t2 := below_cell (HFAR.out w9 hg9) qr; have H9 := Lib.hid h9; have HG9 := Lib.hid hg9; clear h9 hg9 hat9))
      go_wp2_with fail
      go_roundw
      case rel => exact ⟨k + 1, by omega, by go_num, by rw [HG1.out]; exact H9.out, HFAR.out w9 HG9.out⟩
      case measure => simp [intOf]; omega
    · obtain rfl : k = hs.length := by omega
      have hdk : decide (hs.length < hs.length) = false := decide_eq_false (by omega)
      have HRW := Lib.hid (Rows2.own (rows := someQ rows hs) hown (by rw [someQ_len]; simp) (by rw [someQ_len]; omega) (by
        intro j h1 h2
        have hj : j < hs.length := by simpa [someQ_len] using h1
        have hin := HIN.out _ (List.getElem_mem hj)
        have hnl : hs[j].toNat < rows.length := by omega
        obtain ⟨_, _, _, _, hI⟩ := HGR.out _ hnl
        have e1 : (someQ rows hs)[j] = rows[hs[j].toNat] := by rw [someQ_at rows hs hj]; exact getD_at hnl []
        rw [e1, List.getElem_map, List.getElem_range, getD_at hj]
        exact hI.below hb))
      have HBX := Lib.hid (HB1.out.trans (hb.mono HB1.out.size))
      clear hown hb
      go_wp2_with fail
      go_ret
      exact ⟨_, rfl, HRW.out, HBX.out⟩

end Go.Proofs.Ytnbkbnbmmkfckaa
