/- The laws of complaints: Other. -/
import Derived.Test.YtggnipkfliompaaDoorMCoL
import Derived.Test.YtggnipkfliompaaDoorMCoT
import Derived.Test.YtggnipkfliompaaDoorMParG
import Derived.Lib.SmallJoins
namespace Go.Proofs.YtggnipkfliompaaDoor
open Go.RowKit FP

theorem chg_r64 {pt ci row : Int} {k : Nat} {l : List Pcl} (h : ∀ p ∈ l, R64 p.1 ∧ R64 p.2.1 ∧ R64 p.2.2) (hp : R64 pt) (hc : R64 ci) (hl : l.length ≤ 1000000) : ∀ p ∈ chgL pt ci row k l, R64 p.1 ∧ R64 p.2.1 ∧ R64 p.2.2 := fun p hm => by
  obtain ⟨j, hj, rfl⟩ := List.getElem_of_mem hm
  have hj2 : j < l.length := by rw [chg_len] at hj; exact hj
  rw [chg_at _ _ _ _ _ hj hj2]
  split
  · unfold chgP
    split
    · exact h _ (List.getElem_mem hj2)
    · exact ⟨R64.mk (by show (-4611686018427387904 : Int) ≤ (j : Int); omega) (by show (j : Int) ≤ 4611686018427387904; omega), hp, hc⟩
  · exact h _ (List.getElem_mem hj2)
theorem own_form36 {W : World} {base size n : Nat} {e : TypeId} {v : Value} {xs : List Value} (h : W.ownsRow base e size v n xs) (hn : 0 < n) : ∃ g cap, v = .slice (some ⟨g, 0, none⟩) n cap := by
  rcases h.2 with ⟨rfl, h0⟩ | ⟨g, cap, cur, rfl, -⟩
  · omega
  · exact ⟨g, cap, rfl⟩
theorem below_row {B : Nat} {w w' : World} {k : Nat} {o : Obj} (hb : Below B w w') (hk : k < B) (h : w.heap[k]? = some o) : w'.heap[k]? = some o := (hb.block _ hk).trans h
set_option maxRecDepth 100000 in
set_option maxHeartbeats 16000000 in
theorem other36_any (rv ov cv pv : Value) (rows : List (List Int)) (owners : List Int) (secret key dl : Int) (cs : List Int) (ps : List Pcl) (cd cr D E S xr xp xc : Int) (w : World) (hG : Glob w) (hR : Rows2 w rv rows) (hO : Ints w ov owners) (hs : R64 secret) (hk : R64 key) (hC : Ints w cv cs) (hP : Parcels w pv ps) (hc : CmpR ⟨cd, cr, D, E, S⟩) (hx : R64 xr ∧ R64 xp ∧ R64 xc) :
    Calls Tryd.prog 3 #[.agg #[rv, ov], .int .i64 secret, .int .i64 key, .agg #[.int .i64 dl, cv, pv], .agg #[.int .i64 cd, .int .i64 cr, .int .i64 D, .int .i64 E, .int .i64 S], .agg #[.int .i64 xr, .int .i64 xp, .int .i64 xc]] w fun r w' => r = .returned (.bool true) ∧ Below w.heap.size w w' := by
  have HG := Lib.hid (fun W (h : Below w.heap.size w W) => hG.below h)
  have HRF := Lib.hid (fun W (h : Below w.heap.size w W) => hR.below h)
  have HOF := Lib.hid (fun W (h : Below w.heap.size w W) => hO.below h)
  have HCF := Lib.hid (fun W (h : Below w.heap.size w W) => hC.below h)
  have HPF := Lib.hid (fun W (h : Below w.heap.size w W) => hP.below h)
  have HK := Lib.hid (And.intro hs hk)
  have HCR := Lib.hid hc
  have HXR := Lib.hid hx
  obtain ⟨W2, hW2, hb2, hr1, hr2⟩ := box_pd w rv ov (.int .i64 dl) cv pv
  have hs2 : W2.heap.size = w.heap.size + 2 := by rw [hW2]; simp
  obtain ⟨W3, hW3⟩ : ∃ W, W = W2.alloc (.cells #[.int .i64 cd, .int .i64 cr, .int .i64 D, .int .i64 E, .int .i64 S] 32) := ⟨_, rfl⟩
  have hb3 : Below W2.heap.size W2 W3 := by rw [hW3]; exact below_new _ _ _
  have hs3 : W3.heap.size = w.heap.size + 3 := by rw [hW3]; simp [hs2]
  obtain ⟨W4, hW4, hb4, hr4, hs4⟩ := box36 W3 (.int .i64 xr) (.int .i64 xp) (.int .i64 xc) 34
  have hb24 := hb3.trans (hb4.mono hb3.size)
  have hb := hb2.trans (hb24.mono hb2.size)
  have q3 : W3.heap[w.heap.size + 2]? = some (.cells #[.int .i64 cd, .int .i64 cr, .int .i64 D, .int .i64 E, .int .i64 S] 32 (0, 0)) := by rw [hW3, ← hs2]; exact World.alloc_heap_new _ _
  have HR := Lib.hid (hR.below hb)
  have HO := Lib.hid (hO.below hb)
  have HC := Lib.hid (hC.below hb)
  have HP := Lib.hid (hP.below hb)
  obtain ⟨a1, k1, rfl, -, hl1, -⟩ := id hR
  obtain ⟨a2, k2, rfl, -, hl2, -⟩ := id hO
  obtain ⟨a3, k3, rfl, -, hl3, -⟩ := id hC
  obtain ⟨a4, k4, rfl, -, hl4, -⟩ := id hP
  have Q1 := Lib.hid ((hb24.block _ (row_lt hr1)).trans hr1)
  have Q2 := Lib.hid ((hb24.block _ (row_lt hr2)).trans hr2)
  have Q3 := Lib.hid ((hb4.block _ (row_lt q3)).trans q3)
  rw [hs3] at hr4
  have Q4 := Lib.hid hr4
  have HB := Lib.hid hb
  have HSZ := Lib.hid (show w.heap.size + 4 = W4.heap.size by rw [hs4, hs3])
  rw [hW3, hW2] at hW4
  have HW4 := Lib.hid hW4
  clear hG hR hO hC hP hs hk hc hx hW2 hb2 hr1 hr2 hs2 hW3 hb3 hs3 hW4 hb4 hr4 hs4 hb24 hb q3
  have c0 := row_cell Q1.out (k := 0) (v := .slice a1 rows.length k1) rfl
  have c1 := row_cell Q1.out (k := 1) (v := .slice a2 owners.length k2) rfl
  have de0 := row_cell Q2.out (k := 0) (v := .int .i64 dl) rfl
  have de1 := row_cell Q2.out (k := 1) (v := .slice a3 cs.length k3) rfl
  have de2 := row_cell Q2.out (k := 2) (v := .slice a4 ps.length k4) rfl
  have cc0 := row_cell Q3.out (k := 0) (v := .int .i64 cd) rfl
  have cc1 := row_cell Q3.out (k := 1) (v := .int .i64 cr) rfl
  have cc2 := row_cell Q3.out (k := 2) (v := .int .i64 D) rfl
  have cc3 := row_cell Q3.out (k := 3) (v := .int .i64 E) rfl
  have cc4 := row_cell Q3.out (k := 4) (v := .int .i64 S) rfl
  have xx0 := row_cell Q4.out (k := 0) (v := .int .i64 xr) rfl
  have xx1 := row_cell Q4.out (k := 1) (v := .int .i64 xp) rfl
  have xx2 := row_cell Q4.out (k := 2) (v := .int .i64 xc) rfl
  go_enter Tryd.func3, Tryd.ntmps3
  go_wp2_with (rw [← HW4.out])
  with_reducible refine (sane36_any _ (HG.out _ HB.out)).mono ?_
  rintro e w5 ⟨rfl, hb5⟩
  replace HSZ := Lib.hid (show w.heap.size + 4 ≤ w5.heap.size from by have := HSZ.out; have := hb5.size; omega)
  replace c0 := below_cell hb5 c0
  replace c1 := below_cell hb5 c1
  replace de0 := below_cell hb5 de0
  replace de1 := below_cell hb5 de1
  replace de2 := below_cell hb5 de2
  replace cc0 := below_cell hb5 cc0
  replace cc1 := below_cell hb5 cc1
  replace cc2 := below_cell hb5 cc2
  replace cc3 := below_cell hb5 cc3
  replace cc4 := below_cell hb5 cc4
  replace xx0 := below_cell hb5 xx0
  replace xx1 := below_cell hb5 xx1
  replace xx2 := below_cell hb5 xx2
  replace HR := Lib.hid (HR.out.below hb5)
  replace HO := Lib.hid (HO.out.below hb5)
  replace HC := Lib.hid (HC.out.below hb5)
  replace HP := Lib.hid (HP.out.below hb5)
  replace Q1 := Lib.hid ((hb5.block _ (row_lt Q1.out)).trans Q1.out)
  replace Q2 := Lib.hid ((hb5.block _ (row_lt Q2.out)).trans Q2.out)
  replace Q3 := Lib.hid ((hb5.block _ (row_lt Q3.out)).trans Q3.out)
  replace Q4 := Lib.hid ((hb5.block _ (row_lt Q4.out)).trans Q4.out)
  replace HB := Lib.hid (HB.out.trans (hb5.mono HB.out.size))
  clear hb5
  clear HW4
  go_wp2_with fail
  with_reducible refine (rFew36_any _ _ _ _ rows owners dl cs ps _ HR.out HO.out HC.out HP.out).mono ?_
  rintro e w6 ⟨b, rfl, hfew, hb6⟩
  replace HSZ := Lib.hid (Nat.le_trans HSZ.out hb6.size)
  replace c0 := below_cell hb6 c0
  replace c1 := below_cell hb6 c1
  replace de0 := below_cell hb6 de0
  replace de1 := below_cell hb6 de1
  replace de2 := below_cell hb6 de2
  replace cc0 := below_cell hb6 cc0
  replace cc1 := below_cell hb6 cc1
  replace cc2 := below_cell hb6 cc2
  replace cc3 := below_cell hb6 cc3
  replace cc4 := below_cell hb6 cc4
  replace xx0 := below_cell hb6 xx0
  replace xx1 := below_cell hb6 xx1
  replace xx2 := below_cell hb6 xx2
  replace HR := Lib.hid (HR.out.below hb6)
  replace HO := Lib.hid (HO.out.below hb6)
  replace HC := Lib.hid (HC.out.below hb6)
  replace HP := Lib.hid (HP.out.below hb6)
  replace Q1 := Lib.hid ((hb6.block _ (row_lt Q1.out)).trans Q1.out)
  replace Q2 := Lib.hid ((hb6.block _ (row_lt Q2.out)).trans Q2.out)
  replace Q3 := Lib.hid ((hb6.block _ (row_lt Q3.out)).trans Q3.out)
  replace Q4 := Lib.hid ((hb6.block _ (row_lt Q4.out)).trans Q4.out)
  replace HB := Lib.hid (HB.out.trans (hb6.mono HB.out.size))
  clear hb6
  cases b with
  | false =>
    clear hfew
    go_wp2_with fail
    go_ret
    exact ⟨rfl, HB.out⟩
  | true =>
  have HFEW := Lib.hid (hfew rfl)
  clear hfew
  go_wp2_with fail
  with_reducible refine (rError36_any _ _ _ _ rows owners dl cs ps _ HR.out HO.out HC.out HP.out).mono ?_
  rintro e w7 ⟨rfl, hb7⟩
  replace HSZ := Lib.hid (Nat.le_trans HSZ.out hb7.size)
  replace c0 := below_cell hb7 c0
  replace c1 := below_cell hb7 c1
  replace de0 := below_cell hb7 de0
  replace de1 := below_cell hb7 de1
  replace de2 := below_cell hb7 de2
  replace cc0 := below_cell hb7 cc0
  replace cc1 := below_cell hb7 cc1
  replace cc2 := below_cell hb7 cc2
  replace cc3 := below_cell hb7 cc3
  replace cc4 := below_cell hb7 cc4
  replace xx0 := below_cell hb7 xx0
  replace xx1 := below_cell hb7 xx1
  replace xx2 := below_cell hb7 xx2
  replace HR := Lib.hid (HR.out.below hb7)
  replace HO := Lib.hid (HO.out.below hb7)
  replace HC := Lib.hid (HC.out.below hb7)
  replace HP := Lib.hid (HP.out.below hb7)
  replace Q1 := Lib.hid ((hb7.block _ (row_lt Q1.out)).trans Q1.out)
  replace Q2 := Lib.hid ((hb7.block _ (row_lt Q2.out)).trans Q2.out)
  replace Q3 := Lib.hid ((hb7.block _ (row_lt Q3.out)).trans Q3.out)
  replace Q4 := Lib.hid ((hb7.block _ (row_lt Q4.out)).trans Q4.out)
  replace HB := Lib.hid (HB.out.trans (hb7.mono HB.out.size))
  clear hb7
  by_cases hE0 : cE rows owners ⟨dl, cs, ps⟩ = 0
  rotate_left
  · have d0 : (cE rows owners ⟨dl, cs, ps⟩ != 0) = true := bne_iff_ne.2 hE0
    generalize cE rows owners ⟨dl, cs, ps⟩ = q at *
    clear hE0
    go_wp2_with fail
    go_ret
    exact ⟨rfl, HB.out⟩
  have HCM := Lib.hid (cE_ok.1 hE0)
  rw [hE0]
  clear hE0
  by_cases h1 : cr < 0
  · have d1 : decide (cr < 0) = true := decide_eq_true h1
    clear h1
    go_wp2_with fail
    go_ret
    exact ⟨rfl, HB.out⟩
  have d1 : decide (cr < 0) = false := decide_eq_false h1
  by_cases h2 : (ps.length : Int) ≤ cr
  · have d2 : decide ((ps.length : Int) ≤ cr) = true := decide_eq_true h2
    clear h1 h2
    go_wp2_with fail
    go_ret
    exact ⟨rfl, HB.out⟩
  have d2 : decide ((ps.length : Int) ≤ cr) = false := decide_eq_false h2
  have HRW : Hid (0 ≤ cr ∧ cr < (ps.length : Int)) := Lib.hid ⟨by omega, by omega⟩
  clear h1 h2
  go_wp2_with fail
  with_reducible refine (right35_any xr xp xc _ HXR.out.2.1).mono ?_
  rintro e w8 ⟨rfl, hb8⟩
  replace HSZ := Lib.hid (Nat.le_trans HSZ.out hb8.size)
  replace c0 := below_cell hb8 c0
  replace c1 := below_cell hb8 c1
  replace de0 := below_cell hb8 de0
  replace de1 := below_cell hb8 de1
  replace de2 := below_cell hb8 de2
  replace cc0 := below_cell hb8 cc0
  replace cc1 := below_cell hb8 cc1
  replace cc2 := below_cell hb8 cc2
  replace cc3 := below_cell hb8 cc3
  replace cc4 := below_cell hb8 cc4
  replace xx0 := below_cell hb8 xx0
  replace xx1 := below_cell hb8 xx1
  replace xx2 := below_cell hb8 xx2
  replace HR := Lib.hid (HR.out.below hb8)
  replace HO := Lib.hid (HO.out.below hb8)
  replace HC := Lib.hid (HC.out.below hb8)
  replace HP := Lib.hid (HP.out.below hb8)
  replace Q1 := Lib.hid ((hb8.block _ (row_lt Q1.out)).trans Q1.out)
  replace Q2 := Lib.hid ((hb8.block _ (row_lt Q2.out)).trans Q2.out)
  replace Q3 := Lib.hid ((hb8.block _ (row_lt Q3.out)).trans Q3.out)
  replace Q4 := Lib.hid ((hb8.block _ (row_lt Q4.out)).trans Q4.out)
  replace HB := Lib.hid (HB.out.trans (hb8.mono HB.out.size))
  clear hb8
  cases hrt : rightB xr xp xc with
  | false =>
    clear hrt
    go_wp2_with fail
    go_ret
    exact ⟨rfl, HB.out⟩
  | true =>
  clear hrt d1 d2
  have hpl : 0 < ps.length := by have := HRW.out; omega
  obtain ⟨pb, po, rfl, -⟩ := HP.out.at hpl
  have HPL := Lib.hid hpl
  clear hpl
  obtain ⟨W9, hW9, hb9, hr9, hs9⟩ := box36 w8 (.int .i64 dl) (.slice a3 cs.length k3) (.slice (some ⟨pb, po, none⟩) ps.length k4) 28
  obtain ⟨W10, hW10⟩ : ∃ W, W = W9.alloc (.cells #[] 34) := ⟨_, rfl⟩
  have hb10 : Below W9.heap.size W9 W10 := by rw [hW10]; exact below_new _ _ _
  have H10 : Hid (W10.ownsRow W9.heap.size 34 3 (.slice (some ⟨w8.heap.size + 1, 0, none⟩) 0 0) 0 []) := Lib.hid (by rw [hW10, ← hs9]; exact World.ownsRow_made _ #[] 0 (Nat.le_refl _) (by unfold maxLen; omega) rfl)
  have QO := Lib.hid ((hb10.block _ (row_lt hr9)).trans hr9)
  have HS9 : Hid (w.heap.size + 4 ≤ w8.heap.size ∧ W9.heap.size = w8.heap.size + 1) := Lib.hid ⟨HSZ.out, hs9⟩
  have hbx := hb9.trans (hb10.mono hb9.size)
  have HSB := Lib.hid hb10.size
  rw [hW9] at hW10
  have HW10 := Lib.hid hW10
  clear hW9 hW10 hr9 hs9 hb9 hb10
  have dx0 := de0
  have dx1 := de1
  have dx2 := de2
  replace c0 := below_cell hbx c0
  replace c1 := below_cell hbx c1
  replace de0 := below_cell hbx de0
  replace de1 := below_cell hbx de1
  replace de2 := below_cell hbx de2
  replace cc0 := below_cell hbx cc0
  replace cc1 := below_cell hbx cc1
  replace cc2 := below_cell hbx cc2
  replace cc3 := below_cell hbx cc3
  replace cc4 := below_cell hbx cc4
  replace xx0 := below_cell hbx xx0
  replace xx1 := below_cell hbx xx1
  replace xx2 := below_cell hbx xx2
  replace HR := Lib.hid (HR.out.below hbx)
  replace HO := Lib.hid (HO.out.below hbx)
  replace HC := Lib.hid (HC.out.below hbx)
  replace HP := Lib.hid (HP.out.below hbx)
  replace Q1 := Lib.hid ((hbx.block _ (row_lt Q1.out)).trans Q1.out)
  replace Q2 := Lib.hid ((hbx.block _ (row_lt Q2.out)).trans Q2.out)
  replace Q3 := Lib.hid ((hbx.block _ (row_lt Q3.out)).trans Q3.out)
  replace Q4 := Lib.hid ((hbx.block _ (row_lt Q4.out)).trans Q4.out)
  replace HB := Lib.hid (HB.out.trans (hbx.mono HB.out.size))
  clear hbx
  have oo0 := row_cell QO.out (k := 0) (v := .int .i64 dl) rfl
  have of0 := row_free QO.out 0
  have oo1 := row_cell QO.out (k := 1) (v := .slice a3 cs.length k3) rfl
  have of1 := row_free QO.out 1
  have oo2 := row_cell QO.out (k := 2) (v := .slice (some ⟨pb, po, none⟩) ps.length k4) rfl
  have of2 := row_free QO.out 2
  go_wp2_with (first | rw [← HW10.out] | rw [← HW12.out] | (refine app_parcels_any rfl _ _ rfl W9.heap.size 0 (.slice (some ⟨w8.heap.size + 1, 0, none⟩) 0 0) [] rfl H10.out ⟨pb, po, none⟩ k4 ps rfl HP.out (by have := HFEW.out; omega) HSB.out ?_; intro v11 w11 h11 hb11; rw [Nat.zero_add, List.nil_append] at h11; obtain ⟨g, cap, rfl⟩ := own_form36 h11 HPL.out; have qo := below_row hb11 (show w8.heap.size < W9.heap.size by have := HS9.out; omega) QO.out; have oy2 := row_cell qo (k := 2) (v := .slice (some ⟨pb, po, none⟩) ps.length k4) rfl; have oz2 := row_free qo 2; obtain ⟨W12, hW12⟩ : ∃ W, W = w11.setCell ⟨w8.heap.size, 2, none⟩ (.slice (some ⟨g, 0, none⟩) ps.length cap) := ⟨_, rfl⟩; have q12 := row_set qo 2 (.slice (some ⟨g, 0, none⟩) ps.length cap); rw [← hW12] at q12; have ov2 := row_cell q12 (k := 2) (v := .slice (some ⟨g, 0, none⟩) ps.length cap) rfl; have H11 := Lib.hid h11; have HB11 := Lib.hid hb11; have QO12 := Lib.hid q12; have HW12 := Lib.hid hW12; clear h11 hb11 q12 hW12 qo))
  clear dx0 dx1 dx2 HW10 H10 oy2 oz2 oo0 oo1 oo2 of0 of1 of2
  have hb12 : Below w8.heap.size W10 W12 := by rw [HW12.out]; exact (HB11.out.mono (show w8.heap.size ≤ W9.heap.size by have := HS9.out; omega)).setCell (p := ⟨w8.heap.size, 2, none⟩) (Nat.le_refl _) _
  have HB12 := Lib.hid (HB.out.trans (hb12.mono (by have := HS9.out; omega)))
  have P1 := Lib.hid (below_row hb12 (by have := HS9.out; omega) Q1.out)
  have P2 := Lib.hid (below_row hb12 (by have := HS9.out; omega) Q2.out)
  have P3 := Lib.hid (below_row hb12 (by have := HS9.out; omega) Q3.out)
  have P4 := Lib.hid (below_row hb12 (by have := HS9.out; omega) Q4.out)
  have H12 : Hid (W12.ownsRow W9.heap.size 34 3 (.slice (some ⟨g, 0, none⟩) ps.length cap) ps.length (ps.flatMap parC)) := Lib.hid (by rw [HW12.out]; exact own_keep_set (b := w8.heap.size) H11.out (by have := HS9.out; omega) _)
  clear hb12 HW12 H11 HB11 QO Q1 Q2 Q3 Q4 HB HR HO HC HP c0 c1 de0 de1 de2 cc0 cc1 cc2 cc3 cc4 xx0 xx1 xx2 HSB
  have h12 : W12.ownsRow W9.heap.size 34 3 (.slice (some ⟨g, 0, none⟩) ps.length cap) ps.length ((chgL xp xc cr 0 ps).flatMap parC) := by rw [chg_zero]; exact H12.out
  clear ov2
  go_loopw [14, 64] (fun _ i W => ∃ k : Nat, k ≤ ps.length ∧ i = .int .i64 k ∧ Below W9.heap.size W12 W ∧ W.ownsRow W9.heap.size 34 3 (.slice (some ⟨g, 0, none⟩) ps.length cap) ps.length ((chgL xp xc cr k ps).flatMap parC)) (fun _ i _ => ps.length - (intOf i).toNat)
  case atStart => exact ⟨0, Nat.zero_le _, rfl, Below.refl _ _, h12⟩
  case round =>
    clear h12
    obtain ⟨k, hkl, rfl, hbk, ho⟩ := hrel
    have HBK := Lib.hid hbk
    have HO := Lib.hid ho
    have HPC := Lib.hid (Parcels.own ho (chg_r64 (by obtain ⟨_, _, _, _, _, h4, _⟩ := HPF.out w (Below.refl _ _); exact h4) HXR.out.2.1 HXR.out.2.2 (by have := HFEW.out; omega)) (by rw [chg_len]; have := HFEW.out; omega))
    have hk5 := below_row hbk (show w8.heap.size < W9.heap.size by have := HS9.out; omega) QO12.out
    have hk3 := below_row hbk (show w.heap.size + 2 < W9.heap.size by have := HS9.out; omega) P3.out
    have hk4 := below_row hbk (show w.heap.size + 3 < W9.heap.size by have := HS9.out; omega) P4.out
    have ov2 := row_cell hk5 (k := 2) (v := .slice (some ⟨g, 0, none⟩) ps.length cap) rfl
    have cc1 := row_cell hk3 (k := 1) (v := .int .i64 cr) rfl
    have xx0 := row_cell hk4 (k := 0) (v := .int .i64 xr) rfl
    have xx1 := row_cell hk4 (k := 1) (v := .int .i64 xp) rfl
    have xx2 := row_cell hk4 (k := 2) (v := .int .i64 xc) rfl
    have K5 := Lib.hid hk5
    clear hk5 hk3 hk4 hbk ho
    by_cases hlt : k < ps.length
    · have j0 : 0 ≤ (k : Int) := by omega
      have j1 : (k : Int) < (ps.length : Int) := by omega
      have j2 : decide ((k : Int) < (ps.length : Int)) = true := decide_eq_true j1
      by_cases hkr : (k : Int) = cr
      · have d0 : ((k : Int) != cr) = false := bne_eq_false_iff_eq.2 hkr
        have HN := Lib.hid (chg_keep xp xc cr k ps hlt hkr)
        clear hkr
        go_wp2_with fail
        go_roundw
        case rel => exact ⟨k + 1, by omega, by go_num, HBK.out, by rw [← HN.out]; exact HO.out⟩
        case measure => simp [intOf]; omega
      · have d0 : ((k : Int) != cr) = true := bne_iff_ne.2 hkr
        have hkc : k < (chgL xp xc cr k ps).length := by rw [chg_len]; exact hlt
        obtain ⟨g2, o2, e9, z0, z1, z2, -⟩ := HPC.out.at hkc
        simp only [Option.some.injEq, Addr.mk.injEq, and_true] at e9
        obtain ⟨rfl, rfl⟩ := e9
        rw [Nat.zero_add] at z0 z1 z2
        obtain ⟨fz0, hgb, o0⟩ := own_set36 HO.out (k * 3) (.int .i64 xr)
        obtain ⟨-, -, o1⟩ := own_set36 o0 (k * 3 + 1) (.int .i64 xp)
        obtain ⟨-, -, o2⟩ := own_set36 o1 (k * 3 + 2) (.int .i64 xc)
        have fz1 := (own_set36 HO.out (k * 3 + 1) (.int .i64 xr)).1
        have fz2 := (own_set36 HO.out (k * 3 + 2) (.int .i64 xr)).1
        obtain ⟨W13, hW13⟩ : ∃ W, W = ((wr.setCell ⟨g, k * 3, none⟩ (.int .i64 xr)).setCell ⟨g, k * 3 + 1, none⟩ (.int .i64 xp)).setCell ⟨g, k * 3 + 2, none⟩ (.int .i64 xc) := ⟨_, rfl⟩
        rw [← hW13] at o2
        have hb13 : Below W9.heap.size wr W13 := by rw [hW13]; exact (((Below.refl _ _).setCell hgb _).setCell hgb _).setCell hgb _
        have P13 : Parcels W13 (.slice (some ⟨g, 0, none⟩) ps.length cap) ((chgL xp xc cr k ps).set k (xr, xp, xc)) := Parcels.own (by rw [← pflat_set _ _ hkc]; exact o2) (fun p hp => by
          rcases List.mem_or_eq_of_mem_set hp with hp | rfl
          · obtain ⟨_, _, _, _, _, h4, _⟩ := HPC.out
            exact h4 p hp
          · exact HXR.out) (by rw [List.length_set, chg_len]; have := HFEW.out; omega)
        obtain ⟨g3, o3, e9, s0, -, -, -⟩ := P13.at (k := k) (by rw [List.length_set]; exact hkc)
        simp only [Option.some.injEq, Addr.mk.injEq, and_true] at e9
        obtain ⟨rfl, rfl⟩ := e9
        rw [Nat.zero_add, List.getElem_set_self] at s0
        obtain ⟨fs0, -, o4⟩ := own_set36 o2 (k * 3) (.int .i64 (k : Int))
        obtain ⟨W14, hW14⟩ : ∃ W, W = W13.setCell ⟨g, k * 3, none⟩ (.int .i64 (k : Int)) := ⟨_, rfl⟩
        rw [← hW14, chg_store xp xc cr xr k ps hlt hkr] at o4
        have hb14 : Below W9.heap.size wr W14 := by rw [hW14]; exact hb13.setCell hgb _
        have ow2 := row_cell (below_row hb13 (show w8.heap.size < W9.heap.size by have := HS9.out; omega) K5.out) (k := 2) (v := .slice (some ⟨g, 0, none⟩) ps.length cap) rfl
        have HOF4 := Lib.hid o4
        have HBF4 := Lib.hid (HBK.out.trans hb14)
        have HW13 := Lib.hid hW13
        have HW14 := Lib.hid hW14
        generalize (chgL xp xc cr k ps)[k] = pk at *
        clear hkr hkc o0 o1 o2 hW13 hW14 hb13 hb14 P13 o4 hgb
        go_wp2_with (first | rw [← HW13.out] | rw [← HW14.out])
        go_roundw
        case rel => exact ⟨k + 1, by omega, by go_num, HBF4.out, HOF4.out⟩
        case measure => simp [intOf]; omega
    · obtain rfl : k = ps.length := by omega
      have HBW := Lib.hid (HB12.out.trans (HBK.out.mono (by have := HS9.out; omega)))
      have HRW2 := Lib.hid (HRF.out _ HBW.out)
      have HOW := Lib.hid (HOF.out _ HBW.out)
      have HCW := Lib.hid (HCF.out _ HBW.out)
      have HPW := Lib.hid (HPF.out _ HBW.out)
      have K1 := Lib.hid (below_row HBK.out (show w.heap.size < W9.heap.size by have := HS9.out; omega) P1.out)
      have K2 := Lib.hid (below_row HBK.out (show w.heap.size + 1 < W9.heap.size by have := HS9.out; omega) P2.out)
      have K3 := Lib.hid (below_row HBK.out (show w.heap.size + 2 < W9.heap.size by have := HS9.out; omega) P3.out)
      have HSM : Hid (mkE rows owners secret ⟨dl, cs, chgL xp xc cr ps.length ps⟩ cr = mkE rows owners secret ⟨dl, cs, ps⟩ cr ∧ mkB rows owners secret ⟨dl, cs, chgL xp xc cr ps.length ps⟩ cr = mkB rows owners secret ⟨dl, cs, ps⟩ cr ∧ mkC rows owners secret ⟨dl, cs, chgL xp xc cr ps.length ps⟩ cr = mkC rows owners secret ⟨dl, cs, ps⟩ cr ∧ stE rows owners key ⟨dl, cs, chgL xp xc cr ps.length ps⟩ ⟨cd, cr, D, E, S⟩ = stE rows owners key ⟨dl, cs, ps⟩ ⟨cd, cr, D, E, S⟩ ∧ stG rows owners key ⟨dl, cs, chgL xp xc cr ps.length ps⟩ ⟨cd, cr, D, E, S⟩ = stG rows owners key ⟨dl, cs, ps⟩ ⟨cd, cr, D, E, S⟩) := Lib.hid
        (chg_same (d := ⟨dl, cs, ps⟩) (c := ⟨cd, cr, D, E, S⟩) HCM.out HRW.out secret key)
      obtain ⟨⟨m1, m2, m3, m4, m5⟩, hm⟩ : ∃ m, m = mkC rows owners secret ⟨dl, cs, ps⟩ cr := ⟨_, rfl⟩
      obtain ⟨mb, hmb⟩ : ∃ b, b = mkB rows owners secret ⟨dl, cs, ps⟩ cr := ⟨_, rfl⟩
      obtain ⟨me, hme⟩ : ∃ b, b = mkE rows owners secret ⟨dl, cs, ps⟩ cr := ⟨_, rfl⟩
      obtain ⟨sg, hsg⟩ : ∃ b, b = stG rows owners key ⟨dl, cs, ps⟩ ⟨cd, cr, D, E, S⟩ := ⟨_, rfl⟩
      obtain ⟨se, hse⟩ : ∃ b, b = stE rows owners key ⟨dl, cs, ps⟩ ⟨cd, cr, D, E, S⟩ := ⟨_, rfl⟩
      have HCRR : Hid (R64 cr) := Lib.hid HCR.out.row
      have HMK1 := Lib.hid (fun W (h : Below wr.heap.size wr W) => show Calls Tryd.prog 8 #[.agg #[.slice a1 rows.length k1, .slice a2 owners.length k2], .int .i64 secret, .agg #[.int .i64 dl, .slice a3 cs.length k3, .slice (some ⟨pb, po, none⟩) ps.length k4], .int .i64 cr] W (fun r w' => r = .returned (.tuple #[.agg #[.int .i64 m1, .int .i64 m2, .int .i64 m3, .int .i64 m4, .int .i64 m5], .bool mb, .int .i64 me]) ∧ Below W.heap.size W w') from
        (cMake_any _ _ _ _ rows owners ⟨dl, cs, ps⟩ secret cr W (HG.out _ (HBW.out.trans (h.mono HBW.out.size))) (HRW2.out.below h) (HOW.out.below h) (HCW.out.below h) (HPW.out.below h) HK.out.1 HCRR.out).mono fun r w' ⟨e, h2⟩ => ⟨e.trans (by rw [← hm, ← hmb, ← hme]; rfl), h2⟩)
      have HMK2 := Lib.hid (fun W (h : Below wr.heap.size wr W) => show Calls Tryd.prog 8 #[.agg #[.slice a1 rows.length k1, .slice a2 owners.length k2], .int .i64 secret, .agg #[.int .i64 dl, .slice a3 cs.length k3, .slice (some ⟨g, 0, none⟩) ps.length cap], .int .i64 cr] W (fun r w' => r = .returned (.tuple #[.agg #[.int .i64 m1, .int .i64 m2, .int .i64 m3, .int .i64 m4, .int .i64 m5], .bool mb, .int .i64 me]) ∧ Below W.heap.size W w') from
        (cMake_any _ _ _ _ rows owners ⟨dl, cs, chgL xp xc cr ps.length ps⟩ secret cr W (HG.out _ (HBW.out.trans (h.mono HBW.out.size))) (HRW2.out.below h) (HOW.out.below h) (HCW.out.below h) (HPC.out.below h) HK.out.1 HCRR.out).mono fun r w' ⟨e, h2⟩ => ⟨e.trans (by rw [HSM.out.1, HSM.out.2.1, HSM.out.2.2.1, ← hm, ← hmb, ← hme]; rfl), h2⟩)
      have HST1 := Lib.hid (fun W (h : Below wr.heap.size wr W) => show Calls Tryd.prog 9 #[.agg #[.slice a1 rows.length k1, .slice a2 owners.length k2], .int .i64 key, .agg #[.int .i64 dl, .slice a3 cs.length k3, .slice (some ⟨pb, po, none⟩) ps.length k4], .agg #[.int .i64 cd, .int .i64 cr, .int .i64 D, .int .i64 E, .int .i64 S]] W (fun r w' => r = .returned (.tuple #[.int .i64 sg, .int .i64 se]) ∧ Below W.heap.size W w') from
        (cSettle_any _ _ _ _ rows owners ⟨dl, cs, ps⟩ ⟨cd, cr, D, E, S⟩ key W (HG.out _ (HBW.out.trans (h.mono HBW.out.size))) (HRW2.out.below h) (HOW.out.below h) (HCW.out.below h) (HPW.out.below h) HK.out.2 HCR.out).mono fun r w' ⟨e, h2⟩ => ⟨e.trans (by rw [← hsg, ← hse]), h2⟩)
      have HST2 := Lib.hid (fun W (h : Below wr.heap.size wr W) => show Calls Tryd.prog 9 #[.agg #[.slice a1 rows.length k1, .slice a2 owners.length k2], .int .i64 key, .agg #[.int .i64 dl, .slice a3 cs.length k3, .slice (some ⟨g, 0, none⟩) ps.length cap], .agg #[.int .i64 cd, .int .i64 cr, .int .i64 D, .int .i64 E, .int .i64 S]] W (fun r w' => r = .returned (.tuple #[.int .i64 sg, .int .i64 se]) ∧ Below W.heap.size W w') from
        (cSettle_any _ _ _ _ rows owners ⟨dl, cs, chgL xp xc cr ps.length ps⟩ ⟨cd, cr, D, E, S⟩ key W (HG.out _ (HBW.out.trans (h.mono HBW.out.size))) (HRW2.out.below h) (HOW.out.below h) (HCW.out.below h) (HPC.out.below h) HK.out.2 HCR.out).mono fun r w' ⟨e, h2⟩ => ⟨e.trans (by rw [HSM.out.2.2.2.1, HSM.out.2.2.2.2, ← hsg, ← hse]), h2⟩)
      have d9 : decide ((ps.length : Int) < (ps.length : Int)) = false := decide_eq_false (by omega)
      have d8 : decide (ps.length < ps.length) = false := decide_eq_false (by omega)
      clear hm hmb hme hsg hse HSM HCRR xx0 xx1 xx2 cc1 ov2 hkl hlt
      have c0 := row_cell K1.out (k := 0) (v := .slice a1 rows.length k1) rfl
      have c1 := row_cell K1.out (k := 1) (v := .slice a2 owners.length k2) rfl
      have de0 := row_cell K2.out (k := 0) (v := .int .i64 dl) rfl
      have de1 := row_cell K2.out (k := 1) (v := .slice a3 cs.length k3) rfl
      have de2 := row_cell K2.out (k := 2) (v := .slice (some ⟨pb, po, none⟩) ps.length k4) rfl
      have cc0 := row_cell K3.out (k := 0) (v := .int .i64 cd) rfl
      have cc1 := row_cell K3.out (k := 1) (v := .int .i64 cr) rfl
      have cc2 := row_cell K3.out (k := 2) (v := .int .i64 D) rfl
      have cc3 := row_cell K3.out (k := 3) (v := .int .i64 E) rfl
      have cc4 := row_cell K3.out (k := 4) (v := .int .i64 S) rfl
      have ov0 := row_cell K5.out (k := 0) (v := .int .i64 dl) rfl
      have ov1 := row_cell K5.out (k := 1) (v := .slice a3 cs.length k3) rfl
      have ov2 := row_cell K5.out (k := 2) (v := .slice (some ⟨g, 0, none⟩) ps.length cap) rfl
      have HBR := Lib.hid (Below.refl wr.heap.size wr)
      clear K1 K2 K3 K5 P1 P2 P3 P4
      go_wp2_with fail
      with_reducible refine (HMK1.out _ HBR.out).mono ?_
      rintro e x13 ⟨rfl, hb13⟩
      replace c0 := below_cell hb13 c0
      replace c1 := below_cell hb13 c1
      replace de0 := below_cell hb13 de0
      replace de1 := below_cell hb13 de1
      replace de2 := below_cell hb13 de2
      replace cc0 := below_cell hb13 cc0
      replace cc1 := below_cell hb13 cc1
      replace cc2 := below_cell hb13 cc2
      replace cc3 := below_cell hb13 cc3
      replace cc4 := below_cell hb13 cc4
      replace ov0 := below_cell hb13 ov0
      replace ov1 := below_cell hb13 ov1
      replace ov2 := below_cell hb13 ov2
      replace HBR := Lib.hid (HBR.out.trans (hb13.mono HBR.out.size))
      clear hb13
      obtain ⟨Y13, hY13⟩ : ∃ W, W = x13.alloc (.cells #[.int .i64 m1, .int .i64 m2, .int .i64 m3, .int .i64 m4, .int .i64 m5] 32) := ⟨_, rfl⟩
      have hby13 : Below x13.heap.size x13 Y13 := by rw [hY13]; exact below_new _ _ _
      have QA : Hid (Y13.heap[x13.heap.size]? = some (.cells #[.int .i64 m1, .int .i64 m2, .int .i64 m3, .int .i64 m4, .int .i64 m5] 32 (0, 0))) := Lib.hid (by rw [hY13]; exact World.alloc_heap_new _ _)
      have HY13 := Lib.hid hY13
      clear hY13
      replace c0 := below_cell hby13 c0
      replace c1 := below_cell hby13 c1
      replace de0 := below_cell hby13 de0
      replace de1 := below_cell hby13 de1
      replace de2 := below_cell hby13 de2
      replace cc0 := below_cell hby13 cc0
      replace cc1 := below_cell hby13 cc1
      replace cc2 := below_cell hby13 cc2
      replace cc3 := below_cell hby13 cc3
      replace cc4 := below_cell hby13 cc4
      replace ov0 := below_cell hby13 ov0
      replace ov1 := below_cell hby13 ov1
      replace ov2 := below_cell hby13 ov2
      replace HBR := Lib.hid (HBR.out.trans (hby13.mono HBR.out.size))
      clear hby13
      go_wp2_with (rw [← HY13.out])
      clear HY13
      with_reducible refine (HMK2.out _ HBR.out).mono ?_
      rintro e x14 ⟨rfl, hb14⟩
      replace c0 := below_cell hb14 c0
      replace c1 := below_cell hb14 c1
      replace de0 := below_cell hb14 de0
      replace de1 := below_cell hb14 de1
      replace de2 := below_cell hb14 de2
      replace cc0 := below_cell hb14 cc0
      replace cc1 := below_cell hb14 cc1
      replace cc2 := below_cell hb14 cc2
      replace cc3 := below_cell hb14 cc3
      replace cc4 := below_cell hb14 cc4
      replace ov0 := below_cell hb14 ov0
      replace ov1 := below_cell hb14 ov1
      replace ov2 := below_cell hb14 ov2
      replace QA := Lib.hid ((hb14.block _ (row_lt QA.out)).trans QA.out)
      replace HBR := Lib.hid (HBR.out.trans (hb14.mono HBR.out.size))
      clear hb14
      obtain ⟨Y14, hY14⟩ : ∃ W, W = x14.alloc (.cells #[.int .i64 m1, .int .i64 m2, .int .i64 m3, .int .i64 m4, .int .i64 m5] 32) := ⟨_, rfl⟩
      have hby14 : Below x14.heap.size x14 Y14 := by rw [hY14]; exact below_new _ _ _
      have QB : Hid (Y14.heap[x14.heap.size]? = some (.cells #[.int .i64 m1, .int .i64 m2, .int .i64 m3, .int .i64 m4, .int .i64 m5] 32 (0, 0))) := Lib.hid (by rw [hY14]; exact World.alloc_heap_new _ _)
      have HY14 := Lib.hid hY14
      clear hY14
      replace c0 := below_cell hby14 c0
      replace c1 := below_cell hby14 c1
      replace de0 := below_cell hby14 de0
      replace de1 := below_cell hby14 de1
      replace de2 := below_cell hby14 de2
      replace cc0 := below_cell hby14 cc0
      replace cc1 := below_cell hby14 cc1
      replace cc2 := below_cell hby14 cc2
      replace cc3 := below_cell hby14 cc3
      replace cc4 := below_cell hby14 cc4
      replace ov0 := below_cell hby14 ov0
      replace ov1 := below_cell hby14 ov1
      replace ov2 := below_cell hby14 ov2
      replace QA := Lib.hid ((hby14.block _ (row_lt QA.out)).trans QA.out)
      replace HBR := Lib.hid (HBR.out.trans (hby14.mono HBR.out.size))
      clear hby14
      go_wp2_with (rw [← HY14.out])
      clear HY14
      with_reducible refine (HST1.out _ HBR.out).mono ?_
      rintro e x15 ⟨rfl, hb15⟩
      replace c0 := below_cell hb15 c0
      replace c1 := below_cell hb15 c1
      replace de0 := below_cell hb15 de0
      replace de1 := below_cell hb15 de1
      replace de2 := below_cell hb15 de2
      replace cc0 := below_cell hb15 cc0
      replace cc1 := below_cell hb15 cc1
      replace cc2 := below_cell hb15 cc2
      replace cc3 := below_cell hb15 cc3
      replace cc4 := below_cell hb15 cc4
      replace ov0 := below_cell hb15 ov0
      replace ov1 := below_cell hb15 ov1
      replace ov2 := below_cell hb15 ov2
      replace QA := Lib.hid ((hb15.block _ (row_lt QA.out)).trans QA.out)
      replace QB := Lib.hid ((hb15.block _ (row_lt QB.out)).trans QB.out)
      replace HBR := Lib.hid (HBR.out.trans (hb15.mono HBR.out.size))
      clear hb15
      go_wp2_with fail
      with_reducible refine (HST2.out _ HBR.out).mono ?_
      rintro e x16 ⟨rfl, hb16⟩
      replace c0 := below_cell hb16 c0
      replace c1 := below_cell hb16 c1
      replace de0 := below_cell hb16 de0
      replace de1 := below_cell hb16 de1
      replace de2 := below_cell hb16 de2
      replace cc0 := below_cell hb16 cc0
      replace cc1 := below_cell hb16 cc1
      replace cc2 := below_cell hb16 cc2
      replace cc3 := below_cell hb16 cc3
      replace cc4 := below_cell hb16 cc4
      replace ov0 := below_cell hb16 ov0
      replace ov1 := below_cell hb16 ov1
      replace ov2 := below_cell hb16 ov2
      replace QA := Lib.hid ((hb16.block _ (row_lt QA.out)).trans QA.out)
      replace QB := Lib.hid ((hb16.block _ (row_lt QB.out)).trans QB.out)
      replace HBR := Lib.hid (HBR.out.trans (hb16.mono HBR.out.size))
      clear hb16
      have ya0 := row_cell QA.out (k := 0) (v := .int .i64 m1) rfl
      have ya1 := row_cell QA.out (k := 1) (v := .int .i64 m2) rfl
      have ya2 := row_cell QA.out (k := 2) (v := .int .i64 m3) rfl
      have ya3 := row_cell QA.out (k := 3) (v := .int .i64 m4) rfl
      have ya4 := row_cell QA.out (k := 4) (v := .int .i64 m5) rfl
      have yb0 := row_cell QB.out (k := 0) (v := .int .i64 m1) rfl
      have yb1 := row_cell QB.out (k := 1) (v := .int .i64 m2) rfl
      have yb2 := row_cell QB.out (k := 2) (v := .int .i64 m3) rfl
      have yb3 := row_cell QB.out (k := 3) (v := .int .i64 m4) rfl
      have yb4 := row_cell QB.out (k := 4) (v := .int .i64 m5) rfl
      go_wp2_with fail
      go_ret
      exact ⟨rfl, HBW.out.trans (HBR.out.mono HBW.out.size)⟩

set_option maxRecDepth 100000 in
theorem otherC_any (rv ov cv pv : Value) (rows : List (List Int)) (owners : List Int) (secret key dl : Int) (cs : List Int) (ps : List Pcl) (c : Cmp) (xr xp xc : Int) (w : World) (hR : Rows2 w rv rows) (hO : Ints w ov owners) (hs : R64 secret) (hk : R64 key) (_hd : R64 dl) (hC : Ints w cv cs) (hP : Parcels w pv ps) (hc : CmpR c) (h1 : R64 xr) (h2 : R64 xp) (h3 : R64 xc) (hG : Glob w) :
    Calls Tryd.prog 3 #[.agg #[rv, ov], .int .i64 secret, .int .i64 key, .agg #[.int .i64 dl, cv, pv], cmpV c, .agg #[.int .i64 xr, .int .i64 xp, .int .i64 xc]] w fun r w' => r = .returned (.bool true) ∧ Below w.heap.size w w' := by
  obtain ⟨cd, cr, D, E, S⟩ := c
  exact other36_any rv ov cv pv rows owners secret key dl cs ps cd cr D E S xr xp xc w hG hR hO hs hk hC hP hc ⟨h1, h2, h3⟩

end Go.Proofs.YtggnipkfliompaaDoor
