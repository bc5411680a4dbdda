/- The laws of rebuilding: the examples, reckoned; calls whose values are known; the program of three rows. The laws of rebuilding: the examples hold (sane). -/
import Derived.Test.YtnbkbnbmmkfckaaMRbI
import Derived.Test.YtnbkbnbmmkfckaaMRbA
import Derived.Test.YtnbkbnbmmkfckaaMSane
namespace Go.Proofs.Ytnbkbnbmmkfckaa
open Go.RowKit FP

abbrev R3 : List (List Int) := [[1, 1], [1, 2], [1, 3]]
abbrev W3 : List Int := [0, 1, 2]
theorem exk_p : progE R3 W3 = 0 := by decide
theorem exk_1 : planOk R3 W3 0 [1, 2] = true ∧ planY R3 W3 0 [1, 2] = [2, 1073741788] ∧ planE R3 W3 0 [1, 2] = 0 := by
  have h := comb_same (rows := [[1, 2], [1, 3]]) (t := [1, 1]) (right_lit _ _ (by decide)) (num_lit _ (by decide))
  have hE : planE R3 W3 0 [1, 2] = 0 := by decide
  have hc : combOk [[1, 2], [1, 3]] [1, 1] = true ∧ combY [[1, 2], [1, 3]] [1, 1] = [2, 1073741788] := by
    unfold combOk combY combM; rw [redM_E]; decide +kernel
  have hO : planOk R3 W3 0 [1, 2] = true := by
    unfold planOk; rw [hE]
    show (true && rcombOk [[1, 2], [1, 3]] [1, 1]) = true
    rw [← h.1, hc.1]; rfl
  refine ⟨hO, ?_, hE⟩
  unfold planY; rw [if_pos hO]
  show rcombY [[1, 2], [1, 3]] [1, 1] = _
  rw [← h.2, hc.2]
theorem exk_2 : planOk R3 W3 0 [] = false ∧ planY R3 W3 0 [] = [] ∧ planE R3 W3 0 [] = 0 := by
  have h := comb_same (rows := []) (t := [1, 1]) (right_lit _ _ (by decide)) (num_lit _ (by decide))
  have hE : planE R3 W3 0 [] = 0 := by decide
  have hc : combOk [] [1, 1] = false := by
    unfold combOk combM; rw [redM_E]; decide +kernel
  have hO : planOk R3 W3 0 [] = false := by
    unfold planOk; rw [hE]
    show (true && rcombOk [] [1, 1]) = false
    rw [← h.1, hc]; rfl
  exact ⟨hO, by unfold planY; rw [hO]; rfl, hE⟩
theorem exk_3 : planOk R3 W3 0 [0, 1] = false ∧ planY R3 W3 0 [0, 1] = [] ∧ planE R3 W3 0 [0, 1] = 1 := by
  have hE : planE R3 W3 0 [0, 1] = 1 := by decide
  have hO : planOk R3 W3 0 [0, 1] = false := by unfold planOk; rw [hE]; rfl
  exact ⟨hO, by unfold planY; rw [hO]; rfl, hE⟩
theorem exk_a : partV 0 0 0 [] = 0 ∧ partE 0 0 0 [] = 0 := by decide
theorem exk_b : partV 1 0 5 [1073741784] = 0 ∧ partE 1 0 5 [1073741784] = 0 := by decide
theorem exk_c : partV 1073741789 0 0 [] = 0 ∧ partE 1073741789 0 0 [] = 1 := by decide
theorem exk_d : partV 0 64 0 [] = 0 ∧ partE 0 64 0 [] = 340 := by decide
theorem exk_e : partV 2 1 118 [50] = 286 ∧ partE 2 1 118 [50] = 0 := by decide
theorem exk_f : partV 1073741788 2 127 [1073741739] = 1073741612 ∧ partE 1073741788 2 127 [1073741739] = 0 := by decide
theorem exk_g : dealE R3 W3 100 [9] = 0 := by decide
theorem exk_dok : DealOK R3 W3 100 [9] := dealE_ok exk_g
theorem exk_fit {v : Int} (hv : 0 ≤ v ∧ v < 1073741789) : fitB R3 W3 (dealC [100, 9]) 0 v = decide (v = 109) := by
  have h := (fit_deal exk_dok exk_p (k := 0) (by decide) hv).2
  rw [show prodQ (R3.getD 0 []) [100, 9] = 109 by decide] at h
  exact h
theorem exk_pub : pubE R3 W3 (dealC [100, 9]) 0 = 0 ∧ pubE R3 W3 (dealC [100, 9]) 3 = 1 := by
  have h := dchkE_of (com_deal exk_dok exk_p)
  unfold pubE
  rw [h]
  decide
theorem exk_4 : finE R3 W3 (dealC [100, 9]) 0 [286, 1073741612] = 0 ∧ finB R3 W3 (dealC [100, 9]) 0 [286, 1073741612] = true ∧ finR R3 W3 (dealC [100, 9]) 0 [286, 1073741612] = 0 ∧ finV R3 W3 (dealC [100, 9]) 0 [286, 1073741612] = 109 := by
  have hE : finE R3 W3 (dealC [100, 9]) 0 [286, 1073741612] = 0 := by rw [finE_part exk_pub.1]; decide
  have hB : finB R3 W3 (dealC [100, 9]) 0 [286, 1073741612] = true := by
    unfold finB; rw [hE, exk_fit (totQ_num _)]; decide
  exact ⟨hE, hB, (fin_on hB).1, (fin_on hB).2⟩
theorem exk_5 : finE R3 W3 (dealC [100, 9]) 0 [286, 1073741612, 1] = 0 ∧ finB R3 W3 (dealC [100, 9]) 0 [286, 1073741612, 1] = false ∧ finR R3 W3 (dealC [100, 9]) 0 [286, 1073741612, 1] = 0 ∧ finV R3 W3 (dealC [100, 9]) 0 [286, 1073741612, 1] = 0 := by
  have hE : finE R3 W3 (dealC [100, 9]) 0 [286, 1073741612, 1] = 0 := by rw [finE_part exk_pub.1]; decide
  have hB : finB R3 W3 (dealC [100, 9]) 0 [286, 1073741612, 1] = false := by
    unfold finB; rw [hE, exk_fit (totQ_num _)]; decide
  exact ⟨hE, hB, fin_off hB⟩
theorem exk_6 : finE R3 W3 (dealC [100, 9]) 3 [] = 1 ∧ finB R3 W3 (dealC [100, 9]) 3 [] = false ∧ finR R3 W3 (dealC [100, 9]) 3 [] = 0 ∧ finV R3 W3 (dealC [100, 9]) 3 [] = 0 := by
  obtain ⟨h1, h2⟩ := finE_pub (rows := R3) (owners := W3) (cs := dealC [100, 9]) (row := 3) (parts := []) (by rw [exk_pub.2]; decide)
  exact ⟨by rw [h1, exk_pub.2], h2, fin_off h2⟩
theorem exk_7 : finE R3 W3 [] 3 [] = 340 ∧ finB R3 W3 [] 3 [] = false ∧ finR R3 W3 [] 3 [] = 0 ∧ finV R3 W3 [] 3 [] = 0 := by
  have hp : pubE R3 W3 [] 3 = 340 := by decide
  obtain ⟨h1, h2⟩ := finE_pub (rows := R3) (owners := W3) (cs := []) (row := 3) (parts := []) (by rw [hp]; decide)
  exact ⟨by rw [h1, hp], h2, fin_off h2⟩

set_option maxRecDepth 100000 in
theorem plan_val (rv ov hv : Value) (rows : List (List Int)) (owners : List Int) (row : Int) (hs y : List Int) (b : Bool) (e : Int) (w : World) (hR : Rows2 w rv rows) (hO : Ints w ov owners) (hH : Ints w hv hs) (hrow : R64 row) (hl : hs.length ≤ 1000000) (h : planOk rows owners row hs = b ∧ planY rows owners row hs = y ∧ planE rows owners row hs = e) :
    Calls Try.prog 14 #[.agg #[rv, ov], .int .i64 row, hv] w fun r w' => ∃ yv, r = .returned (.tuple #[yv, .bool b, .int .i64 e]) ∧ Ints w' yv y ∧ Below w.heap.size w w' := by
  obtain ⟨rfl, rfl, rfl⟩ := h
  exact plan_any rv ov hv rows owners row hs w hR hO hH hrow hl
set_option maxRecDepth 100000 in
theorem part_val (y r v : Int) (mv : Value) (ms : List Int) (x e : Int) (w : World) (hM : Ints w mv ms) (h : partV y r v ms = x ∧ partE y r v ms = e) :
    Calls Try.prog 16 #[.int .i64 y, .agg #[.int .i64 r, .int .i64 v], mv] w fun o w' => o = .returned (.tuple #[.int .i64 x, .int .i64 e]) ∧ Below w.heap.size w w' := by
  obtain ⟨rfl, rfl⟩ := h
  exact part_any y r v mv ms w hM
set_option maxRecDepth 100000 in
theorem finish_val (ep row : Int) (rv ov cv pv : Value) (rows : List (List Int)) (owners cs parts : List Int) (e r v : Int) (b : Bool) (w : World) (hR : Rows2 w rv rows) (hO : Ints w ov owners) (hC : Ints w cv cs) (hP : Ints w pv parts) (hrow : R64 row) (h : finE rows owners cs row parts = e ∧ finB rows owners cs row parts = b ∧ finR rows owners cs row parts = r ∧ finV rows owners cs row parts = v) :
    Calls Try.prog 19 #[.agg #[.int .i64 ep, rv, ov, cv], .int .i64 row, pv] w fun o w' =>
      o = .returned (.tuple #[.agg #[.int .i64 r, .int .i64 v], .bool b, .int .i64 e]) ∧ Below w.heap.size w w' := by
  obtain ⟨rfl, rfl, rfl, rfl⟩ := h
  exact finish_any ep row rv ov cv pv rows owners cs parts w hR hO hC hP hrow

theorem rows_of3 {w : World} {b c : Nat} {r s t : Value} {x y z : List Int} (h : w.cell? ⟨b, 0, none⟩ = some r) (h2 : w.cell? ⟨b, 1, none⟩ = some s) (h3 : w.cell? ⟨b, 2, none⟩ = some t) (hI : Ints w r x) (hJ : Ints w s y) (hK : Ints w t z) (hc : 3 ≤ c) : Rows2 w (.slice (some ⟨b, 0, none⟩) 3 c) [x, y, z] :=
  ⟨_, c, rfl, hc, by simp, fun k hk => by
    match k, hk with
    | 0, _ => exact ⟨b, 0, r, rfl, h, hI⟩
    | 1, _ => exact ⟨b, 0, s, rfl, h2, hJ⟩
    | 2, _ => exact ⟨b, 0, t, rfl, h3, hK⟩⟩
theorem ints_of3 {w : World} {b c : Nat} {x y z : Int} (h : w.cell? ⟨b, 0, none⟩ = some (.int .i64 x)) (h2 : w.cell? ⟨b, 1, none⟩ = some (.int .i64 y)) (h3 : w.cell? ⟨b, 2, none⟩ = some (.int .i64 z)) (hx : R64 x) (hy : R64 y) (hz : R64 z) (hc : 3 ≤ c) : Ints w (.slice (some ⟨b, 0, none⟩) 3 c) [x, y, z] :=
  ⟨_, c, rfl, hc, by simp, by simp [hx, hy, hz], fun k hk => ⟨b, 0, rfl, by
    match k, hk with
    | 0, _ => exact h
    | 1, _ => exact h2
    | 2, _ => exact h3⟩⟩

set_option maxRecDepth 100000 in
set_option maxHeartbeats 4000000 in
theorem three40_any (w : World) :
    Calls Try.prog 48 #[] w fun r w' => ∃ a c b d, r = .returned (.agg #[.slice a 3 c, .slice b 3 d]) ∧ Rows2 w' (.slice a 3 c) R3 ∧ Ints w' (.slice b 3 d) W3 ∧ Below w.heap.size w w' := by
  have r : ∀ x : Int, -10 ≤ x ∧ x ≤ 10 → R64 x := fun x h => R64.mk (by omega) (by omega)
  have HR := Lib.hid r
  clear r
  go_enter Try.func48, Try.ntmps48
  go_wp2_with fail
  refine bodyPost_ret (v := .agg #[.slice (some ⟨w.heap.size + 1 + 1 + 1 + 1, 0, none⟩) 3 3, .slice (some ⟨w.heap.size + 1 + 1 + 1 + 1 + 1, 0, none⟩) 3 3]) (by simp [results, Try.results48, go_sem]) rfl ?_
  refine ⟨_, _, _, _, rfl, rows_of3 (r := .slice (some ⟨w.heap.size + 1, 0, none⟩) 2 2) (s := .slice (some ⟨w.heap.size + 1 + 1, 0, none⟩) 2 2) (t := .slice (some ⟨w.heap.size + 1 + 1 + 1, 0, none⟩) 2 2) (by simp [go_sem]) (by simp [go_sem]) (by simp [go_sem])
    (ints_of2 (by simp [go_sem]) (by simp [go_sem]) (HR.out _ (by omega)) (HR.out _ (by omega)) (Nat.le_refl _)) (ints_of2 (by simp [go_sem]) (by simp [go_sem]) (HR.out _ (by omega)) (HR.out _ (by omega)) (Nat.le_refl _)) (ints_of2 (by simp [go_sem]) (by simp [go_sem]) (HR.out _ (by omega)) (HR.out _ (by omega)) (Nat.le_refl _)) (Nat.le_refl _),
    ints_of3 (by simp [go_sem]) (by simp [go_sem]) (by simp [go_sem]) (HR.out _ (by omega)) (HR.out _ (by omega)) (HR.out _ (by omega)) (Nat.le_refl _), ?_⟩
  repeat (first | exact Below.refl _ _ | refine Below.setCell ?_ (by simp; try omega) _ | refine Below.alloc ?_ (by simp; try omega) _ | refine Below.drew ?_)

end Go.Proofs.Ytnbkbnbmmkfckaa

namespace Go.Proofs.Ytnbkbnbmmkfckaa
open Go.RowKit FP

theorem lit_ints40 (w : World) (zs : List Int) (cs : Array Value) (hc : cs = (zs.map (Value.int .i64)).toArray) (hr : (zs.all fun z => decide (-9223372036854775808 ≤ z ∧ z ≤ 9223372036854775807)) = true) (hn : zs.length ≤ 1000) : ∃ W, W = w.alloc (.cells cs 3) ∧ Below w.heap.size w W ∧ Ints W (sl w.heap.size zs.length) zs :=
  ⟨_, rfl, below_a _ _, ints_lit w zs cs _ hc (rall zs hr) hn⟩

set_option maxRecDepth 100000 in
set_option maxHeartbeats 16000000 in
theorem sane40_any (w : World) :
    Calls Try.prog 12 #[] w fun r w' => r = .returned (.bool true) ∧ Below w.heap.size w w' := by
  have r0 : R64 0 := R64.mk (by omega) (by omega)
  have r3 : R64 3 := R64.mk (by omega) (by omega)
  have r100 : R64 100 := R64.mk (by omega) (by omega)
  have HP1 := Lib.hid (fun rv ov hv w h1 h2 h3 => plan_val rv ov hv R3 W3 0 [1, 2] [2, 1073741788] true 0 w h1 h2 h3 r0 (by decide) exk_1)
  have HP2 := Lib.hid (fun rv ov w h1 h2 => plan_val rv ov (.slice none 0 0) R3 W3 0 [] [] false 0 w h1 h2 (Ints.nil _ _ _) r0 (by decide) exk_2)
  have HP3 := Lib.hid (fun rv ov hv w h1 h2 h3 => plan_val rv ov hv R3 W3 0 [0, 1] [] false 1 w h1 h2 h3 r0 (by decide) exk_3)
  have HA1 := Lib.hid (fun w => part_val 0 0 0 (.slice none 0 0) [] 0 0 w (Ints.nil _ _ _) exk_a)
  have HA2 := Lib.hid (fun mv w h => part_val 1 0 5 mv [1073741784] 0 0 w h exk_b)
  have HA3 := Lib.hid (fun w => part_val 1073741789 0 0 (.slice none 0 0) [] 0 1 w (Ints.nil _ _ _) exk_c)
  have HA4 := Lib.hid (fun w => part_val 0 64 0 (.slice none 0 0) [] 0 340 w (Ints.nil _ _ _) exk_d)
  have HA5 := Lib.hid (fun mv w h => part_val 2 1 118 mv [50] 286 0 w h exk_e)
  have HA6 := Lib.hid (fun mv w h => part_val 1073741788 2 127 mv [1073741739] 1073741612 0 w h exk_f)
  have HD := Lib.hid (fun rv ov mv w h1 h2 h3 => deal_ok rv ov mv R3 W3 100 [9] w h1 h2 h3 exk_dok exk_p)
  obtain ⟨C, hC⟩ : ∃ C, C = dealC [100, 9] := ⟨_, rfl⟩
  have HF1 := Lib.hid (fun ep rv ov cv pv w h1 h2 h3 h4 => finish_val ep 0 rv ov cv pv R3 W3 (dealC [100, 9]) [286, 1073741612] 0 0 109 true w h1 h2 h3 h4 r0 exk_4)
  have HF2 := Lib.hid (fun ep rv ov cv pv w h1 h2 h3 h4 => finish_val ep 0 rv ov cv pv R3 W3 (dealC [100, 9]) [286, 1073741612, 1] 0 0 0 false w h1 h2 h3 h4 r0 exk_5)
  have HF3 := Lib.hid (fun ep rv ov cv w h1 h2 h3 => finish_val ep 3 rv ov cv (.slice none 0 0) R3 W3 (dealC [100, 9]) [] 1 0 0 false w h1 h2 h3 (Ints.nil _ _ _) r3 exk_6)
  have HF4 := Lib.hid (fun ep rv ov w h1 h2 => finish_val ep 3 rv ov (.slice none 0 0) (.slice none 0 0) R3 W3 [] [] 340 0 0 false w h1 h2 (Ints.nil _ _ _) (Ints.nil _ _ _) r3 exk_7)
  rw [show colsQ R3 = 2 by decide] at HD
  rw [← hC] at HD HF1 HF2 HF3
  clear hC r0 r3 r100
  have HB := Lib.hid (Below.refl w.heap.size w)
  go_enter Try.func12, Try.ntmps12
  go_wp2_with fail
  refine (three40_any _).mono ?_
  rintro e w1 ⟨a1, k1, b1, d1, rfl, hr, ho, hb1⟩
  replace HB := Lib.hid (HB.out.trans (hb1.mono HB.out.size))
  clear hb1
  have HR := Lib.hid hr
  have HO := Lib.hid ho
  clear hr ho
  obtain ⟨W2, hW2, hb2, hi⟩ := lit_ints40 w1 [1, 2] #[.int .i64 1, .int .i64 2] rfl (by decide) (by decide)
  have HI := Lib.hid hi
  have HW2 := Lib.hid hW2
  clear hi hW2
  replace HR := Lib.hid (HR.out.below hb2)
  replace HO := Lib.hid (HO.out.below hb2)
  replace HB := Lib.hid (HB.out.trans (hb2.mono HB.out.size))
  clear hb2
  go_wp2_with (rw [← HW2.out])
  refine (HP1.out _ _ _ _ HR.out HO.out HI.out).mono ?_
  rintro e w3 ⟨yv, rfl, hy, hb3⟩
  replace HR := Lib.hid (HR.out.below hb3)
  replace HO := Lib.hid (HO.out.below hb3)
  replace HB := Lib.hid (HB.out.trans (hb3.mono HB.out.size))
  clear hb3
  obtain ⟨ya, yc, rfl, -⟩ := id hy
  have HY := Lib.hid hy
  clear hy HR HO HI
  go_wp2_with fail
  refine (three40_any _).mono ?_
  rintro e w4 ⟨a1, k1, b1, d1, rfl, hr, ho, hb4⟩
  replace HY := Lib.hid (HY.out.below hb4)
  replace HB := Lib.hid (HB.out.trans (hb4.mono HB.out.size))
  clear hb4
  have HR := Lib.hid hr
  have HO := Lib.hid ho
  clear hr ho
  go_wp2_with fail
  refine (HP2.out _ _ _ HR.out HO.out).mono ?_
  rintro e w5 ⟨yv5, rfl, hy, hb5⟩
  replace HY := Lib.hid (HY.out.below hb5)
  replace HB := Lib.hid (HB.out.trans (hb5.mono HB.out.size))
  clear hb5
  obtain ⟨ya5, yc5, rfl, -⟩ := id hy
  clear hy HR HO
  go_wp2_with fail
  refine (three40_any _).mono ?_
  rintro e w6 ⟨a1, k1, b1, d1, rfl, hr, ho, hb6⟩
  replace HY := Lib.hid (HY.out.below hb6)
  replace HB := Lib.hid (HB.out.trans (hb6.mono HB.out.size))
  clear hb6
  have HR := Lib.hid hr
  have HO := Lib.hid ho
  clear hr ho
  obtain ⟨W7, hW7, hb7, hi⟩ := lit_ints40 w6 [0, 1] #[.int .i64 0, .int .i64 1] rfl (by decide) (by decide)
  have HI := Lib.hid hi
  have HW7 := Lib.hid hW7
  clear hi hW7
  replace HY := Lib.hid (HY.out.below hb7)
  replace HR := Lib.hid (HR.out.below hb7)
  replace HO := Lib.hid (HO.out.below hb7)
  replace HB := Lib.hid (HB.out.trans (hb7.mono HB.out.size))
  clear hb7
  go_wp2_with (rw [← HW7.out])
  refine (HP3.out _ _ _ _ HR.out HO.out HI.out).mono ?_
  rintro e w8 ⟨yv8, rfl, hy, hb8⟩
  replace HY := Lib.hid (HY.out.below hb8)
  replace HR := Lib.hid (HR.out.below hb8)
  replace HO := Lib.hid (HO.out.below hb8)
  replace HB := Lib.hid (HB.out.trans (hb8.mono HB.out.size))
  clear hb8
  obtain ⟨ya8, yc8, rfl, -⟩ := id hy
  clear hy HR HO HI
  go_wp2_with fail
  refine (HA1.out _).mono ?_
  rintro e w9 ⟨rfl, hb9⟩
  replace HY := Lib.hid (HY.out.below hb9)
  replace HB := Lib.hid (HB.out.trans (hb9.mono HB.out.size))
  clear hb9
  obtain ⟨W10, hW10, hb10, hi⟩ := lit_ints40 w9 [1073741784] #[.int .i64 1073741784] rfl (by decide) (by decide)
  have HI := Lib.hid hi
  have HW10 := Lib.hid hW10
  clear hi hW10
  replace HY := Lib.hid (HY.out.below hb10)
  replace HB := Lib.hid (HB.out.trans (hb10.mono HB.out.size))
  clear hb10
  go_wp2_with (rw [← HW10.out])
  refine (HA2.out _ _ HI.out).mono ?_
  rintro e w11 ⟨rfl, hb11⟩
  replace HY := Lib.hid (HY.out.below hb11)
  replace HB := Lib.hid (HB.out.trans (hb11.mono HB.out.size))
  clear hb11
  clear HI
  go_wp2_with fail
  refine (HA3.out _).mono ?_
  rintro e w12 ⟨rfl, hb12⟩
  replace HY := Lib.hid (HY.out.below hb12)
  replace HB := Lib.hid (HB.out.trans (hb12.mono HB.out.size))
  clear hb12
  go_wp2_with fail
  refine (HA4.out _).mono ?_
  rintro e w13 ⟨rfl, hb13⟩
  replace HY := Lib.hid (HY.out.below hb13)
  replace HB := Lib.hid (HB.out.trans (hb13.mono HB.out.size))
  clear hb13
  obtain ⟨W14, hW14, hb14, hi⟩ := lit_ints40 w13 [2, 1073741788] #[.int .i64 2, .int .i64 1073741788] rfl (by decide) (by decide)
  have HI := Lib.hid hi
  have HW14 := Lib.hid hW14
  clear hi hW14
  replace HY := Lib.hid (HY.out.below hb14)
  replace HB := Lib.hid (HB.out.trans (hb14.mono HB.out.size))
  clear hb14
  go_wp2_with (rw [← HW14.out])
  refine (rSameInts40_any _ _ _ _ _ HY.out HI.out).mono ?_
  rintro e w15 ⟨rfl, hb15⟩
  replace HY := Lib.hid (HY.out.below hb15)
  replace HB := Lib.hid (HB.out.trans (hb15.mono HB.out.size))
  clear hb15
  rw [show sameQ [2, 1073741788] [2, 1073741788] = true by decide]
  clear HI HY
  go_wp2_with fail
  refine (three40_any _).mono ?_
  rintro e w16 ⟨a1, k1, b1, d1, rfl, hr, ho, hb16⟩
  replace HB := Lib.hid (HB.out.trans (hb16.mono HB.out.size))
  clear hb16
  have HR := Lib.hid hr
  have HO := Lib.hid ho
  clear hr ho
  obtain ⟨W17, hW17, hb17, hi⟩ := lit_ints40 w16 [9] #[.int .i64 9] rfl (by decide) (by decide)
  have HI := Lib.hid hi
  have HW17 := Lib.hid hW17
  clear hi hW17
  replace HR := Lib.hid (HR.out.below hb17)
  replace HO := Lib.hid (HO.out.below hb17)
  replace HB := Lib.hid (HB.out.trans (hb17.mono HB.out.size))
  clear hb17
  go_wp2_with (rw [← HW17.out])
  refine (HD.out _ _ _ _ HR.out HO.out HI.out).mono ?_
  rintro e w18 ⟨la, lc, ca, cc, rfl, -, hcm, hb18⟩
  replace HR := Lib.hid (HR.out.below hb18)
  replace HO := Lib.hid (HO.out.below hb18)
  replace HB := Lib.hid (HB.out.trans (hb18.mono HB.out.size))
  clear hb18
  have HC := Lib.hid hcm
  clear hcm HI HR HO
  go_wp2_with fail
  refine (three40_any _).mono ?_
  rintro e w19 ⟨a1, k1, b1, d1, rfl, hr, ho, hb19⟩
  replace HC := Lib.hid (HC.out.below hb19)
  replace HB := Lib.hid (HB.out.trans (hb19.mono HB.out.size))
  clear hb19
  have HR := Lib.hid hr
  have HO := Lib.hid ho
  clear hr ho
  obtain ⟨W20, hW20, hb20, hr20, hs20⟩ := box_key w19 (.int .i64 0) (.slice a1 3 k1) (.slice b1 3 d1) (.slice ca 2 cc) 38
  have Q := Lib.hid hr20
  have HW20 := Lib.hid hW20
  clear hW20 hr20 hs20
  replace HC := Lib.hid (HC.out.below hb20)
  replace HR := Lib.hid (HR.out.below hb20)
  replace HO := Lib.hid (HO.out.below hb20)
  replace HB := Lib.hid (HB.out.trans (hb20.mono HB.out.size))
  clear hb20
  obtain ⟨W21, hW21, hb21, hi⟩ := lit_ints40 W20 [50] #[.int .i64 50] rfl (by decide) (by decide)
  have HI := Lib.hid hi
  have HW21 := Lib.hid hW21
  clear hi hW21
  replace HC := Lib.hid (HC.out.below hb21)
  replace HR := Lib.hid (HR.out.below hb21)
  replace HO := Lib.hid (HO.out.below hb21)
  replace Q := Lib.hid ((hb21.block _ (row_lt Q.out)).trans Q.out)
  replace HB := Lib.hid (HB.out.trans (hb21.mono HB.out.size))
  clear hb21
  go_wp2_with (first | rw [← HW20.out] | rw [← HW21.out])
  refine (HA5.out _ _ HI.out).mono ?_
  rintro e w22 ⟨rfl, hb22⟩
  replace HC := Lib.hid (HC.out.below hb22)
  replace HR := Lib.hid (HR.out.below hb22)
  replace HO := Lib.hid (HO.out.below hb22)
  replace Q := Lib.hid ((hb22.block _ (row_lt Q.out)).trans Q.out)
  replace HB := Lib.hid (HB.out.trans (hb22.mono HB.out.size))
  clear hb22
  clear HI
  obtain ⟨W23, hW23, hb23, hi⟩ := lit_ints40 w22 [1073741739] #[.int .i64 1073741739] rfl (by decide) (by decide)
  have HI := Lib.hid hi
  have HW23 := Lib.hid hW23
  clear hi hW23
  replace HC := Lib.hid (HC.out.below hb23)
  replace HR := Lib.hid (HR.out.below hb23)
  replace HO := Lib.hid (HO.out.below hb23)
  replace Q := Lib.hid ((hb23.block _ (row_lt Q.out)).trans Q.out)
  replace HB := Lib.hid (HB.out.trans (hb23.mono HB.out.size))
  clear hb23
  go_wp2_with (rw [← HW23.out])
  refine (HA6.out _ _ HI.out).mono ?_
  rintro e w24 ⟨rfl, hb24⟩
  replace HC := Lib.hid (HC.out.below hb24)
  replace HR := Lib.hid (HR.out.below hb24)
  replace HO := Lib.hid (HO.out.below hb24)
  replace Q := Lib.hid ((hb24.block _ (row_lt Q.out)).trans Q.out)
  replace HB := Lib.hid (HB.out.trans (hb24.mono HB.out.size))
  clear hb24
  clear HI
  obtain ⟨W25, hW25, hb25, hi⟩ := lit_ints40 w24 [286, 1073741612] #[.int .i64 286, .int .i64 1073741612] rfl (by decide) (by decide)
  have HI := Lib.hid hi
  have HW25 := Lib.hid hW25
  clear hi hW25
  have z0 := row_cell Q.out (k := 0) rfl
  have z1 := row_cell Q.out (k := 1) rfl
  have z2 := row_cell Q.out (k := 2) rfl
  have z3 := row_cell Q.out (k := 3) rfl
  replace HC := Lib.hid (HC.out.below hb25)
  replace HR := Lib.hid (HR.out.below hb25)
  replace HO := Lib.hid (HO.out.below hb25)
  replace Q := Lib.hid ((hb25.block _ (row_lt Q.out)).trans Q.out)
  replace HB := Lib.hid (HB.out.trans (hb25.mono HB.out.size))
  clear hb25
  go_wp2_with (rw [← HW25.out])
  clear z0 z1 z2 z3
  refine (HF1.out _ _ _ _ _ _ HR.out HO.out HC.out HI.out).mono ?_
  rintro e w26 ⟨rfl, hb26⟩
  replace HC := Lib.hid (HC.out.below hb26)
  replace HR := Lib.hid (HR.out.below hb26)
  replace HO := Lib.hid (HO.out.below hb26)
  replace Q := Lib.hid ((hb26.block _ (row_lt Q.out)).trans Q.out)
  replace HB := Lib.hid (HB.out.trans (hb26.mono HB.out.size))
  clear hb26
  clear HI
  obtain ⟨W27, hW27, hb27, hr27, -⟩ := box_prog w26 (.int .i64 0) (.int .i64 109) 27
  have Q2 := Lib.hid hr27
  have HW27 := Lib.hid hW27
  clear hW27 hr27
  replace HC := Lib.hid (HC.out.below hb27)
  replace HR := Lib.hid (HR.out.below hb27)
  replace HO := Lib.hid (HO.out.below hb27)
  replace Q := Lib.hid ((hb27.block _ (row_lt Q.out)).trans Q.out)
  replace HB := Lib.hid (HB.out.trans (hb27.mono HB.out.size))
  clear hb27
  obtain ⟨W28, hW28, hb28, hi⟩ := lit_ints40 W27 [286, 1073741612, 1] #[.int .i64 286, .int .i64 1073741612, .int .i64 1] rfl (by decide) (by decide)
  have HI := Lib.hid hi
  have HW28 := Lib.hid hW28
  clear hi hW28
  have z0 := row_cell Q.out (k := 0) rfl
  have z1 := row_cell Q.out (k := 1) rfl
  have z2 := row_cell Q.out (k := 2) rfl
  have z3 := row_cell Q.out (k := 3) rfl
  replace HC := Lib.hid (HC.out.below hb28)
  replace HR := Lib.hid (HR.out.below hb28)
  replace HO := Lib.hid (HO.out.below hb28)
  replace Q := Lib.hid ((hb28.block _ (row_lt Q.out)).trans Q.out)
  replace Q2 := Lib.hid ((hb28.block _ (row_lt Q2.out)).trans Q2.out)
  replace HB := Lib.hid (HB.out.trans (hb28.mono HB.out.size))
  clear hb28
  go_wp2_with (first | rw [← HW27.out] | rw [← HW28.out])
  clear z0 z1 z2 z3
  refine (HF2.out _ _ _ _ _ _ HR.out HO.out HC.out HI.out).mono ?_
  rintro e w29 ⟨rfl, hb29⟩
  replace HC := Lib.hid (HC.out.below hb29)
  replace HR := Lib.hid (HR.out.below hb29)
  replace HO := Lib.hid (HO.out.below hb29)
  replace Q := Lib.hid ((hb29.block _ (row_lt Q.out)).trans Q.out)
  replace Q2 := Lib.hid ((hb29.block _ (row_lt Q2.out)).trans Q2.out)
  replace HB := Lib.hid (HB.out.trans (hb29.mono HB.out.size))
  clear hb29
  clear HI
  obtain ⟨W30, hW30, hb30, -, -⟩ := box_prog w29 (.int .i64 0) (.int .i64 0) 27
  have HW30 := Lib.hid hW30
  clear hW30
  replace HC := Lib.hid (HC.out.below hb30)
  replace HR := Lib.hid (HR.out.below hb30)
  replace HO := Lib.hid (HO.out.below hb30)
  replace Q := Lib.hid ((hb30.block _ (row_lt Q.out)).trans Q.out)
  replace Q2 := Lib.hid ((hb30.block _ (row_lt Q2.out)).trans Q2.out)
  replace HB := Lib.hid (HB.out.trans (hb30.mono HB.out.size))
  clear hb30
  have z0 := row_cell Q.out (k := 0) rfl
  have z1 := row_cell Q.out (k := 1) rfl
  have z2 := row_cell Q.out (k := 2) rfl
  have z3 := row_cell Q.out (k := 3) rfl
  rw [HW30.out] at z0 z1 z2 z3
  go_wp2_with fail
  rw [← HW30.out]
  clear z0 z1 z2 z3
  refine (HF3.out _ _ _ _ _ HR.out HO.out HC.out).mono ?_
  rintro e w31 ⟨rfl, hb31⟩
  replace HC := Lib.hid (HC.out.below hb31)
  replace HR := Lib.hid (HR.out.below hb31)
  replace HO := Lib.hid (HO.out.below hb31)
  replace Q := Lib.hid ((hb31.block _ (row_lt Q.out)).trans Q.out)
  replace Q2 := Lib.hid ((hb31.block _ (row_lt Q2.out)).trans Q2.out)
  replace HB := Lib.hid (HB.out.trans (hb31.mono HB.out.size))
  clear hb31
  clear HR HO HC
  clear Q
  have hb32 := below_new w31 #[.int .i64 0, .int .i64 0] 27
  replace Q2 := Lib.hid ((hb32.block _ (row_lt Q2.out)).trans Q2.out)
  replace HB := Lib.hid (HB.out.trans (hb32.mono HB.out.size))
  clear hb32
  go_wp2_with fail
  refine (three40_any _).mono ?_
  rintro e w33 ⟨a2, k2, b2, d2, rfl, hr, ho, hb33⟩
  replace Q2 := Lib.hid ((hb33.block _ (row_lt Q2.out)).trans Q2.out)
  replace HB := Lib.hid (HB.out.trans (hb33.mono HB.out.size))
  clear hb33
  have HR := Lib.hid hr
  have HO := Lib.hid ho
  clear hr ho
  go_wp2_with fail
  refine (HF4.out _ _ _ _ HR.out HO.out).mono ?_
  rintro e w34 ⟨rfl, hb34⟩
  replace Q2 := Lib.hid ((hb34.block _ (row_lt Q2.out)).trans Q2.out)
  replace HB := Lib.hid (HB.out.trans (hb34.mono HB.out.size))
  clear hb34
  clear HR HO
  have hb35 := below_new w34 #[.int .i64 0, .int .i64 0] 27
  replace Q2 := Lib.hid ((hb35.block _ (row_lt Q2.out)).trans Q2.out)
  replace HB := Lib.hid (HB.out.trans (hb35.mono HB.out.size))
  clear hb35
  have z0 := row_cell Q2.out (k := 0) rfl
  have z1 := row_cell Q2.out (k := 1) rfl
  go_wp2_with fail
  go_ret
  exact ⟨rfl, HB.out⟩

end Go.Proofs.Ytnbkbnbmmkfckaa
