/- The reference of package program: SameInts, Same, Has. The laws of package program: the formulas of the examples. The laws of package program: the examples, reckoned. -/
import Derived.Test.YtohebkpgjaaljaaMProC
import Derived.Test.YtohebkpgjaaljaaMGatG
import Derived.Test.YtohebkpgjaaljaaMDeaS
import Derived.Test.YtohebkpgjaaljaaMDeaN
namespace Go.Proofs.Ytohebkpgjaaljaa
open Go.RowKit FP

set_option maxRecDepth 100000 in
set_option maxHeartbeats 1000000 in
theorem rSameInts23_any (v u : Value) (a b : List Int) (w : World) (hI : Ints w v a) (hJ : Ints w u b) :
    Calls Try.prog 24 #[v, u] w fun e w' => e = .returned (.bool (sameQ a b)) ∧ Below w.heap.size w w' := by
  obtain ⟨pa, ca, rfl, ha1, ha2, ha3, hka⟩ := hI
  obtain ⟨pb, cb, rfl, hb1, hb2, hb3, hkb⟩ := hJ
  by_cases hl : a.length = b.length
  · have hl' : ((a.length : Int) != (b.length : Int)) = false := by rw [hl]; simp
    have HL := Lib.hid hl
    have hb1 : a.length ≤ cb := by omega
    have hcells : ∀ k (h : k < a.length), ∃ y, y = b[k]'(by rw [← HL.out]; exact h) ∧ ∃ q off, pb = some ⟨q, off, none⟩ ∧ w.cell? ⟨q, off + k, none⟩ = some (.int .i64 y) := fun k h => ⟨_, rfl, hkb k (by omega)⟩
    rw [← hl] at hl' ⊢
    clear hl hb2
    clear hkb
    go_enter Try.func24, Try.ntmps24
    go_wp2_with fail
    go_loopw [5] (fun i wr => ∃ k : Nat, k ≤ a.length ∧ i = .int .i64 k ∧ Hid (∀ j (h1 : j < a.length) (h2 : j < b.length), j < k → a[j] = b[j]) ∧ Below w.heap.size w wr) (fun i _ => a.length - (intOf i).toNat)
    case atStart => exact ⟨0, Nat.zero_le _, rfl, Lib.hid fun j _ _ h => absurd h (Nat.not_lt_zero _), Below.refl _ _⟩
    case round =>
      obtain ⟨k, hkl, rfl, HP, hb⟩ := hrel
      by_cases hlt : k < a.length
      · obtain ⟨p, off, rfl, hc⟩ := hka k hlt
        obtain ⟨y, hy, p', off', rfl, hc'⟩ := hcells k hlt
        have hc := below_cell hb hc
        have hc' := below_cell hb hc'
        obtain ⟨x, hx⟩ : ∃ x, x = a[k] := ⟨_, rfl⟩
        rw [← hx] at hc
        have i1 : (0 : Int) ≤ (k : Int) := by omega
        have i2 : (k : Int) < (a.length : Int) := by omega
        have HX := Lib.hid hx
        have HY := Lib.hid hy
        clear hcells hka hx hy
        by_cases he : x = y
        · have he' : (x != y) = false := by simpa using he
          have HN := Lib.hid (show ∀ j (h1 : j < a.length) (h2 : j < b.length), j < k + 1 → a[j] = b[j] from fun j h1 h2 h3 => by
            by_cases e : j = k
            · subst e; rw [← HX.out, ← HY.out, he]
            · exact HP.out j h1 h2 (by omega))
          clear he
          go_wp2_with fail
          go_quiet (fail)
          go_wp2_with fail
          go_roundw
          case rel => exact ⟨k + 1, by omega, by go_num, HN, below_drewN hb _⟩
          case measure => simp [intOf]; omega
        · have he' : (x != y) = true := by simpa using he
          have HN := Lib.hid (sameQ_at hlt (by rw [← HL.out]; exact hlt) (by rw [← HX.out, ← HY.out]; exact he))
          clear he
          go_wp2_with fail
          go_quiet (fail)
          go_wp2_with fail
          go_ret
          exact ⟨ret_bool HN.out.symm, below_drewN hb _⟩
      · have HN := Lib.hid (sameQ_all HL.out fun k h1 h2 => HP.out k h1 h2 (by omega))
        go_wp2_with fail
        go_ret
        exact ⟨ret_bool HN.out.symm, hb⟩
  · have hl' : ((a.length : Int) != (b.length : Int)) = true := by rw [bne_iff_ne]; omega
    have HL := Lib.hid (sameQ_len hl)
    clear hl
    go_enter Try.func24, Try.ntmps24
    go_wp2_with fail
    go_ret
    exact ⟨ret_bool HL.out.symm, Below.refl _ _⟩

set_option maxRecDepth 100000 in
theorem rSame23_is (v u : Value) (a b : List Int) (c : Bool) (w : World) (hI : Ints w v a) (hJ : Ints w u b) (hc : sameQ a b = c) :
    Calls Try.prog 24 #[v, u] w fun r w' => r = .returned (.bool c) ∧ Below w.heap.size w w' :=
  (rSameInts23_any v u a b w hI hJ).mono fun r w' ⟨h1, h2⟩ => ⟨by rw [h1, hc], h2⟩

theorem Ints.drew {w : World} {v : Value} {zs : List Int} (h : Ints w v zs) : Ints w.drew v zs := h.below (Below.refl _ _).drew
theorem Rows2.drew {w : World} {v : Value} {rows : List (List Int)} (h : Rows2 w v rows) : Rows2 w.drew v rows := h.below (Below.refl _ _).drew
/-- Are two programs equal? -/
def sameP (rows rows2 : List (List Int)) (owners owners2 : List Int) : Bool := decide (rows = rows2) && sameQ owners owners2
theorem sameP_len {r s : List (List Int)} {o p : List Int} (h : r.length ≠ s.length) : sameP r s o p = false := by
  unfold sameP
  rw [decide_eq_false (fun e => h (by rw [e]))]; rfl
theorem sameP_own {r s : List (List Int)} {o p : List Int} (h : sameQ o p = false) : sameP r s o p = false := by
  unfold sameP; rw [h, Bool.and_false]
theorem sameP_at {r s : List (List Int)} {o p : List Int} {k : Nat} (h1 : k < r.length) (h2 : k < s.length) (h : sameQ r[k] s[k] = false) : sameP r s o p = false := by
  unfold sameP
  rw [decide_eq_false (fun e => (of_decide_eq_false h) (by subst e; rfl))]; rfl
theorem sameP_all {r s : List (List Int)} {o p : List Int} (h : r.length = s.length) (ho : sameQ o p = true) (h1 : ∀ k (h1 : k < r.length) (h2 : k < s.length), r[k] = s[k]) : sameP r s o p = true := by
  unfold sameP
  rw [decide_eq_true (List.ext_getElem h h1), ho]; rfl

set_option maxRecDepth 100000 in
set_option maxHeartbeats 4000000 in
theorem rSameP_any (rv ov rv2 ov2 : Value) (r s : List (List Int)) (o p : List Int) (w : World) (hR : Rows2 w rv r) (hO : Ints w ov o) (hS : Rows2 w rv2 s) (hP : Ints w ov2 p) :
    Calls Try.prog 19 #[.agg #[rv, ov], .agg #[rv2, ov2]] w fun e w' => e = .returned (.bool (sameP r s o p)) ∧ Below w.heap.size w w' := by
  obtain ⟨W1, hW1, hb1, hr1, hz⟩ := box_prog w rv ov 25
  obtain ⟨W2, hW2, hb2, hr2, hz2⟩ := box_prog W1 rv2 ov2 25
  have hs1 : W1.heap.size = w.heap.size + 1 := by rw [hW1]; simp
  have hb := hb1.trans (hb2.mono hb1.size)
  have HR := Lib.hid (hR.below hb)
  have HO := Lib.hid (hO.below hb)
  have HS := Lib.hid (hS.below hb)
  have HP := Lib.hid (hP.below hb)
  have hr1' := (hb2.block _ hz).trans hr1
  rw [hs1] at hr2
  obtain ⟨ar, cr, rfl, -, hlr, hkr⟩ := hR
  obtain ⟨ao, co, rfl, -, hlo, -⟩ := hO
  obtain ⟨a5, cs, rfl, -, hls, hks⟩ := hS
  obtain ⟨a6, cp, rfl, -, hlp, -⟩ := hP
  have c0 : W2.cell? ⟨w.heap.size, 0, none⟩ = some (.slice ar r.length cr) := row_cell hr1' rfl
  have c1 : W2.cell? ⟨w.heap.size, 1, none⟩ = some (.slice ao o.length co) := row_cell hr1' rfl
  have c2 : W2.cell? ⟨w.heap.size + 1, 0, none⟩ = some (.slice a5 s.length cs) := row_cell hr2 rfl
  have c3 : W2.cell? ⟨w.heap.size + 1, 1, none⟩ = some (.slice a6 p.length cp) := row_cell hr2 rfl
  have HB := Lib.hid hb
  have HW : Hid (W2 = (w.alloc (.cells #[.slice ar r.length cr, .slice ao o.length co] 25)).alloc (.cells #[.slice a5 s.length cs, .slice a6 p.length cp] 25)) := Lib.hid (by rw [hW2, hW1])
  clear hkr hks hr1 hr1' hr2 hb1 hb2 hb hz hz2 hW1 hW2 hs1
  by_cases hl : r.length = s.length
  rotate_left
  · have hq : ((r.length : Int) != (s.length : Int)) = true := by rw [bne_iff_ne]; omega
    have HV := Lib.hid (sameP_len (o := o) (p := p) hl)
    clear hl
    go_enter Try.func19, Try.ntmps19
    go_wp2_with (rw [← HW.out])
    go_ret
    exact ⟨ret_bool HV.out.symm, HB.out⟩
  · have hq : ((r.length : Int) != (s.length : Int)) = false := by rw [hl]; simp
    have HL := Lib.hid hl
    clear hl
    cases hso : sameQ o p with
    | false =>
      have HV := Lib.hid (sameP_own (r := r) (s := s) hso)
      have HSO := Lib.hid hso
      clear hso
      go_enter Try.func19, Try.ntmps19
      go_wp2_with (rw [← HW.out])
      with_reducible refine (rSame23_is _ _ o p false W2 HO.out HP.out HSO.out).mono ?_
      rintro e w3 ⟨rfl, hb3⟩
      have HB3 := Lib.hid (below_later HB.out (Nat.le_refl _) hb3)
      clear hb3
      go_wp2_with fail
      go_ret
      exact ⟨ret_bool HV.out.symm, HB3.out⟩
    | true =>
      have HSO := Lib.hid hso
      clear hso
      go_enter Try.func19, Try.ntmps19
      go_wp2_with (rw [← HW.out])
      with_reducible refine (rSame23_is _ _ o p true W2 HO.out HP.out HSO.out).mono ?_
      rintro e w3 ⟨rfl, hb3⟩
      have HB3 := Lib.hid hb3
      have HB4 := Lib.hid (below_later HB.out (Nat.le_refl _) hb3)
      have c0 := below_cell hb3 c0
      have c2 := below_cell hb3 c2
      have HR := Lib.hid (HR.out.below hb3)
      have HS := Lib.hid (HS.out.below hb3)
      clear hb3 c1 c3
      go_wp2_with fail
      go_loopw [5] (fun i W => ∃ k : Nat, k ≤ r.length ∧ i = .int .i64 k ∧ Hid (∀ j (h1 : j < r.length) (h2 : j < s.length), j < k → r[j] = s[j]) ∧ Below w3.heap.size w3 W) (fun i _ => r.length - (intOf i).toNat)
      case atStart => exact ⟨0, Nat.zero_le _, rfl, Lib.hid fun j _ _ h => absurd h (Nat.not_lt_zero _), Below.refl _ _⟩
      case round =>
        obtain ⟨k, hkl, rfl, HPR, hb⟩ := hrel
        have HBW := Lib.hid hb
        have y0 := below_cell hb c0
        have y2 := below_cell hb c2
        by_cases hlt : k < r.length
        · obtain ⟨a1, cc1, e1, -, -, hk1⟩ := HR.out
          obtain ⟨b1, o1, v1, ea1, q1, i1⟩ := hk1 k hlt
          simp only [Value.slice.injEq] at e1
          obtain ⟨rfl, -, -⟩ := e1
          subst ea1
          have hls2 : k < s.length := by rw [← HL.out]; exact hlt
          obtain ⟨a2, cc2, e2, -, -, hk2⟩ := HS.out
          obtain ⟨b2, o2, v2, ea2, q2, i2⟩ := hk2 k hls2
          simp only [Value.slice.injEq] at e2
          obtain ⟨rfl, -, -⟩ := e2
          subst ea2
          have y1 := below_cell hb q1
          have y3 := below_cell hb q2
          have HI1 := Lib.hid (i1.below hb)
          have HI2 := Lib.hid (i2.below hb)
          have j0 : (0 : Int) ≤ (k : Int) := by omega
          have j1 : (k : Int) < (r.length : Int) := by omega
          have j2 : (k : Int) < (s.length : Int) := by omega
          clear hk1 hk2 i1 i2 q1 q2 hb
          cases he : sameQ r[k] s[k] with
          | false =>
            have HV := Lib.hid (sameP_at (o := o) (p := p) hlt hls2 he)
            have HE := Lib.hid he
            clear he
            have y0d : wr.drew.cell? ⟨w.heap.size, 0, none⟩ = some (.slice (some ⟨b1, o1, none⟩) r.length cr) := y0
            have y1d : wr.drew.cell? ⟨b1, o1 + k, none⟩ = some v1 := y1
            have y2d : wr.drew.cell? ⟨w.heap.size + 1, 0, none⟩ = some (.slice (some ⟨b2, o2, none⟩) s.length cs) := y2
            have y3d : wr.drew.cell? ⟨b2, o2 + k, none⟩ = some v2 := y3
            have HBD := Lib.hid (below_later HB4.out (Nat.le_refl _) HBW.out.drew)
            go_wp2_with fail
            go_region_held3 (fun w' => w'.cell? ⟨w.heap.size, 0, none⟩ = some (.slice (some ⟨b1, o1, none⟩) r.length cr) ∧ w'.cell? ⟨w.heap.size + 1, 0, none⟩ = some (.slice (some ⟨b2, o2, none⟩) s.length cs) ∧ w'.cell? ⟨b1, o1 + k, none⟩ = some v1 ∧ w'.cell? ⟨b2, o2 + k, none⟩ = some v2) (go_keep)
              ((go_at_call 24; with_reducible refine (rSame23_is _ _ r[k] s[k] false _ HI1.out.drew HI2.out.drew HE.out).mono ?_; rintro e w6 ⟨rfl, hb7⟩; have k0 := below_cell hb7 y0d; have k1 := below_cell hb7 y1d; have k2 := below_cell hb7 y2d; have k3 := below_cell hb7 y3d))
            go_wp2_with fail
            go_ret
            exact ⟨ret_bool HV.out.symm, below_later HBD.out (Nat.le_refl _) hb7⟩
          | true =>
            have HN := Lib.hid (show ∀ j (h1 : j < r.length) (h2 : j < s.length), j < k + 1 → r[j] = s[j] from fun j h1 h2 h3 => by
              by_cases e : j = k
              · subst e; exact of_decide_eq_true he
              · exact HPR.out j h1 h2 (by omega))
            have HE := Lib.hid he
            clear he
            have y0d : wr.drew.cell? ⟨w.heap.size, 0, none⟩ = some (.slice (some ⟨b1, o1, none⟩) r.length cr) := y0
            have y1d : wr.drew.cell? ⟨b1, o1 + k, none⟩ = some v1 := y1
            have y2d : wr.drew.cell? ⟨w.heap.size + 1, 0, none⟩ = some (.slice (some ⟨b2, o2, none⟩) s.length cs) := y2
            have y3d : wr.drew.cell? ⟨b2, o2 + k, none⟩ = some v2 := y3
            have HBD := Lib.hid HBW.out.drew
            go_wp2_with fail
            go_region_held3 (fun w' => w'.cell? ⟨w.heap.size, 0, none⟩ = some (.slice (some ⟨b1, o1, none⟩) r.length cr) ∧ w'.cell? ⟨w.heap.size + 1, 0, none⟩ = some (.slice (some ⟨b2, o2, none⟩) s.length cs) ∧ w'.cell? ⟨b1, o1 + k, none⟩ = some v1 ∧ w'.cell? ⟨b2, o2 + k, none⟩ = some v2) (go_keep)
              ((go_at_call 24; with_reducible refine (rSame23_is _ _ r[k] s[k] true _ HI1.out.drew HI2.out.drew HE.out).mono ?_; rintro e w6 ⟨rfl, hb7⟩; have k0 := below_cell hb7 y0d; have k1 := below_cell hb7 y1d; have k2 := below_cell hb7 y2d; have k3 := below_cell hb7 y3d))
            go_wp2_with fail
            go_roundw
            case rel => exact ⟨k + 1, by omega, by go_num, HN, below_later HBD.out (Nat.le_refl _) hb7⟩
            case measure => simp [intOf]; omega
        · have HV := Lib.hid (sameP_all (o := o) (p := p) HL.out HSO.out fun j h1 h2 => HPR.out j h1 h2 (by omega))
          have HF := Lib.hid (below_later HB4.out (Nat.le_refl _) HBW.out)
          obtain rfl : k = r.length := by omega
          clear hb
          go_wp2_with fail
          go_ret
          exact ⟨ret_bool HV.out.symm, HF.out⟩

end Go.Proofs.Ytohebkpgjaaljaa

namespace Go.Proofs.Ytohebkpgjaaljaa
open Go.RowKit FP

abbrev leafV (p : Int) : Value := .agg #[.int .i64 p, .int .i64 0, .slice none 0 0]
abbrev leafG (p : Int) : GT := .mk p 0 []
theorem leaf_gate (w : World) (p : Int) (hp : R64 p) : GatW w (leafV p) (leafG p) :=
  GateV.mk (w := w) p 0 [] none 0 (fun _ => undef) hp (R64.mk (by omega) (by omega)) (Nat.le_refl _) (by simp) (fun k h => absurd h (Nat.not_lt_zero _)) (fun k h => absurd h (Nat.not_lt_zero _))

set_option maxRecDepth 100000 in
set_option maxHeartbeats 2000000 in
theorem leaf_any (p : Int) (w : World) :
    Calls Try.prog 45 #[.int .i64 p] w fun r w' => r = .returned (leafV p) ∧ Below w.heap.size w w' := by
  go_enter Try.func45, Try.ntmps45
  go_wp2_with fail
  refine bodyPost_ret (v := leafV p) (by simp [results, Try.results45, go_sem]) rfl ?_
  refine ⟨rfl, ?_⟩
  repeat (first | exact Below.refl _ _ | refine Below.setCell ?_ (by simp; try omega) _ | refine Below.alloc ?_ (by simp; try omega) _ | refine Below.drew ?_)

abbrev twoG : GT := .mk (-1) 2 [leafG 5, leafG 6, leafG 9]
theorem two_gate (w : World) (b : Nat) (c : Nat) (p : Nat → Int) (hc : 3 ≤ c) (hp : ∀ k, k < 3 → R64 (p k)) (h : ∀ k, k < 3 → w.cell? ⟨b, k * 3, none⟩ = some (.int .i64 (p k)) ∧ w.cell? ⟨b, k * 3 + 1, none⟩ = some (.int .i64 0) ∧ w.cell? ⟨b, k * 3 + 2, none⟩ = some (.slice none 0 0)) : GatW w (.agg #[.int .i64 (-1), .int .i64 2, .slice (some ⟨b, 0, none⟩) 3 c]) (.mk (-1) 2 [leafG (p 0), leafG (p 1), leafG (p 2)]) :=
  GateV.mk (w := w) (-1) 2 [leafG (p 0), leafG (p 1), leafG (p 2)] (some ⟨b, 0, none⟩) c (fun k => leafV (p k)) (R64.mk (by omega) (by omega)) (R64.mk (by omega) (by omega)) hc (by simp) (fun k hk => by
    obtain ⟨h1, h2, h3⟩ := h k (by simpa using hk)
    exact ⟨b, 0, _, _, _, _, _, rfl, rfl, by rw [Nat.zero_add]; exact h1, by rw [Nat.zero_add]; exact h2, by rw [Nat.zero_add]; exact h3⟩) (fun k hk => by
    match k, hk with
    | 0, _ => exact leaf_gate w _ (hp 0 (by omega))
    | 1, _ => exact leaf_gate w _ (hp 1 (by omega))
    | 2, _ => exact leaf_gate w _ (hp 2 (by omega)))

set_option maxRecDepth 100000 in
set_option maxHeartbeats 4000000 in
theorem two_any (w : World) :
    Calls Try.prog 44 #[] w fun r w' => ∃ b, r = .returned (.agg #[.int .i64 (-1), .int .i64 2, .slice (some ⟨b, 0, none⟩) 3 3]) ∧ GatW w' (.agg #[.int .i64 (-1), .int .i64 2, .slice (some ⟨b, 0, none⟩) 3 3]) twoG ∧ Below w.heap.size w w' := by
  go_enter Try.func44, Try.ntmps44
  have hr0 := World.alloc_heap_new w (.cells #[.int .i64 0, .int .i64 0, .slice none 0 0] 28)
  have hb0 := below_new w #[.int .i64 0, .int .i64 0, .slice none 0 0] 28
  have HR0 := Lib.hid hr0
  have HB0 := Lib.hid hb0
  clear hr0 hb0
  go_wp2_with fail
  refine (leaf_any 5 _).mono ?_
  rintro e w1 ⟨rfl, hb1⟩
  go_wp2_with fail
  refine (leaf_any 6 _).mono ?_
  rintro e w2 ⟨rfl, hb2⟩
  go_wp2_with fail
  refine (leaf_any 9 _).mono ?_
  rintro e w3 ⟨rfl, hb3⟩
  have hlt : w.heap.size < w1.heap.size := Nat.lt_of_lt_of_le (row_lt HR0.out) hb1.size
  have hb := hb1.trans ((hb2.trans (hb3.mono hb2.size)).mono hb1.size)
  have hr3 := (hb.block _ (row_lt HR0.out)).trans HR0.out
  have hb4 := HB0.out.trans (hb.mono HB0.out.size)
  obtain ⟨W4, hW4⟩ : ∃ W4, W4 = w3.alloc (.cells #[.int .i64 5, .int .i64 0, .slice none 0 0, .int .i64 6, .int .i64 0, .slice none 0 0, .int .i64 9, .int .i64 0, .slice none 0 0] 28) := ⟨_, rfl⟩
  have hr4 : W4.heap[w3.heap.size]? = some (.cells #[.int .i64 5, .int .i64 0, .slice none 0 0, .int .i64 6, .int .i64 0, .slice none 0 0, .int .i64 9, .int .i64 0, .slice none 0 0] 28 (0, 0)) := by rw [hW4]; exact World.alloc_heap_new _ _
  have hb5 : Below w3.heap.size w3 W4 := hW4 ▸ below_new _ _ _
  have hr5 := (hb5.block _ (row_lt hr3)).trans hr3
  have hne : w.heap.size ≠ w3.heap.size := by have := row_lt hr3; omega
  have c0 : W4.cell? ⟨w.heap.size, 0, none⟩ = some (.int .i64 0) := row_cell hr5 rfl
  have c1 : W4.cell? ⟨w.heap.size, 1, none⟩ = some (.int .i64 0) := row_cell hr5 rfl
  have c2 : W4.cell? ⟨w.heap.size, 2, none⟩ = some (.slice none 0 0) := row_cell hr5 rfl
  have f0 := row_free hr5 0
  have f1 := row_free hr5 1
  have f2 := row_free hr5 2
  have HB4 := Lib.hid (hb4.trans (hb5.mono hb4.size))
  have HR4 := Lib.hid hr4
  have HN := Lib.hid hne
  have HW4 := Lib.hid hW4
  clear hlt hb hb1 hb2 hb3 hb4 hr3 hb5 hr4 hr5 hne hW4
  go_wp2_with (rw [← HW4.out])
  refine bodyPost_ret (v := .agg #[.int .i64 (-1), .int .i64 2, .slice (some ⟨w3.heap.size, 0, none⟩) 3 3]) (by simp [results, Try.results44, go_sem, c0, c1, c2]) rfl ?_
  have hx : (((W4.setCell ⟨w.heap.size, 0, none⟩ (.int .i64 (-1))).setCell ⟨w.heap.size, 1, none⟩ (.int .i64 2)).setCell ⟨w.heap.size, 2, none⟩ (.slice (some ⟨w3.heap.size, 0, none⟩) 3 3)).heap[w3.heap.size]? = some (.cells #[.int .i64 5, .int .i64 0, .slice none 0 0, .int .i64 6, .int .i64 0, .slice none 0 0, .int .i64 9, .int .i64 0, .slice none 0 0] 28 (0, 0)) := by
    have e : w3.heap.size ≠ w.heap.size := fun e => HN.out e.symm
    rw [Below.heap_setCell _ _ _ _ e, Below.heap_setCell _ _ _ _ e, Below.heap_setCell _ _ _ _ e]; exact HR4.out
  refine ⟨_, rfl, two_gate _ _ 3 (fun k => if k = 0 then 5 else if k = 1 then 6 else 9) (Nat.le_refl _) (fun k _ => by split <;> (try split) <;> exact R64.mk (by omega) (by omega)) (fun k hk => ?_), ((HB4.out.setCell (Nat.le_refl _) _).setCell (Nat.le_refl _) _).setCell (Nat.le_refl _) _⟩
  have : k = 0 ∨ k = 1 ∨ k = 2 := by omega
  rcases this with rfl | rfl | rfl <;> exact ⟨row_cell hx rfl, row_cell hx rfl, row_cell hx rfl⟩

end Go.Proofs.Ytohebkpgjaaljaa

namespace Go.Proofs.Ytohebkpgjaaljaa
open Go.RowKit FP

abbrev P3 : List (List Int) := [[1, 1], [1, 2], [1, 3]]
abbrev O3 : List Int := [5, 6, 9]
abbrev oneG : GT := .mk (-1) 1 []
abbrev deepG : GT := .mk (-1) 2 [twoG, leafG 3]
abbrev P4 : List (List Int) := [[1, 1, 1], [1, 1, 2], [1, 1, 3], [1, 2, 0]]
abbrev O4 : List Int := [5, 6, 9, 3]

theorem exm_two : makE twoG = 0 ∧ makR twoG = P3 ∧ makO twoG = O3 := by decide +kernel
theorem exm_leaf : makE (leafG 4) = 0 ∧ makR (leafG 4) = [[1]] ∧ makO (leafG 4) = [4] := by decide +kernel
theorem exm_one : makE oneG = 0 ∧ makR oneG = [] ∧ makO oneG = [] := by decide +kernel
theorem exm_deep : makE deepG = 0 ∧ makR deepG = P4 ∧ makO deepG = O4 := by decide +kernel

theorem exc_3 : progE P3 O3 = 0 := by decide +kernel
theorem exc_0 : progE [[]] [0] = 230 := by decide +kernel
theorem exc_65 : progE (List.replicate 65 []) [] = 2 := by decide +kernel

theorem exq_1 : questE P3 O3 [5, 9] = 0 ∧ questE P3 O3 [5] = 0 ∧ questE [] [] [] = 0 ∧ questE P3 O3 [3, 3] = 1 := by decide +kernel
theorem exa_1 : accOk P3 O3 [5, 9] = true ∧ accY P3 O3 [5, 9] = [536870896, 0, 536870894] := by
  have h := comb_same (rows := [[1, 1], [1, 3]]) (t := [1, 0]) (right_lit _ _ (by decide)) (num_lit _ (by decide))
  have hk : combOk [[1, 1], [1, 3]] [1, 0] = true ∧ combY [[1, 1], [1, 3]] [1, 0] = [536870896, 536870894] := by
    unfold combOk combY combM; rw [redM_E]; decide +kernel
  have hp : pownR P3 O3 [5, 9] = [[1, 1], [1, 3]] := by decide +kernel
  have hB : accOk P3 O3 [5, 9] = true := by
    unfold accOk
    rw [exq_1.1, hp]
    show (true && rcombOk [[1, 1], [1, 3]] [1, 0]) = true
    rw [← h.1, hk.1]; rfl
  refine ⟨hB, ?_⟩
  unfold accY accN
  rw [if_pos hB, hp, show tgt (colsQ P3) = [1, 0] by decide +kernel, ← h.2, hk.2]
  decide +kernel
theorem exa_2 : accOk P3 O3 [5] = false ∧ accY P3 O3 [5] = [] := by
  have h := comb_same (rows := [[1, 1]]) (t := [1, 0]) (right_lit _ _ (by decide)) (num_lit _ (by decide))
  have hk : combOk [[1, 1]] [1, 0] = false := by
    unfold combOk combM; rw [redM_E]; decide +kernel
  have hp : pownR P3 O3 [5] = [[1, 1]] := by decide +kernel
  have hB : accOk P3 O3 [5] = false := by
    unfold accOk
    rw [exq_1.2.1, hp]
    show (true && rcombOk [[1, 1]] [1, 0]) = false
    rw [← h.1, hk]; rfl
  exact ⟨hB, by unfold accY; rw [hB]; rfl⟩
theorem exa_3 : accOk [] [] [] = false ∧ accY [] [] [] = [] := by
  have h := comb_same (rows := []) (t := [1]) (right_lit _ _ (by decide)) (num_lit _ (by decide))
  have hk : combOk [] [1] = false := by
    unfold combOk combM; rw [redM_E]; decide +kernel
  have hB : accOk [] [] [] = false := by
    unfold accOk
    show (_ && rcombOk [] [1]) = false
    rw [← h.1, hk, Bool.and_false]
  exact ⟨hB, by unfold accY; rw [hB]; rfl⟩
theorem exa_4 : accOk P3 O3 [3, 3] = false ∧ accY P3 O3 [3, 3] = [] := by
  have hB : accOk P3 O3 [3, 3] = false := by unfold accOk; rw [exq_1.2.2.2]; rfl
  exact ⟨hB, by unfold accY; rw [hB]; rfl⟩
theorem exs_1 : refY P3 O3 [5] = some [1, 1073741788] := by
  have h := sep_same (rows := [[1, 1]]) (t := [1, 0]) (right_lit _ _ (by decide)) (num_lit _ (by decide))
  have hp : pownR P3 O3 [5] = [[1, 1]] := by decide +kernel
  unfold refY
  rw [if_pos exq_1.2.1, hp]
  show rsepQ [[1, 1]] [1, 0] = _
  rw [← h]
  unfold sepQ sepC sepL sepM; rw [redM_E, invE_eq]; decide +kernel
theorem exs_2 : refY P3 O3 [5, 9] = none := by
  have h := sep_same (rows := [[1, 1], [1, 3]]) (t := [1, 0]) (right_lit _ _ (by decide)) (num_lit _ (by decide))
  have hp : pownR P3 O3 [5, 9] = [[1, 1], [1, 3]] := by decide +kernel
  unfold refY
  rw [if_pos exq_1.1, hp]
  show rsepQ [[1, 1], [1, 3]] [1, 0] = _
  rw [← h]
  unfold sepQ sepC sepL sepM; rw [redM_E, invE_eq]; decide +kernel
theorem exs_3 : refY [] [] [] = some [1] := by
  have h := sep_same (rows := []) (t := [1]) (right_lit _ _ (by decide)) (num_lit _ (by decide))
  unfold refY
  rw [if_pos exq_1.2.2.1]
  show rsepQ [] [1] = _
  rw [← h]
  unfold sepQ sepC sepL sepM; rw [redM_E, invE_eq]; decide +kernel

set_option maxRecDepth 100000 in
theorem make_val (vg : Value) (g : GT) (e : Int) (rows : List (List Int)) (owners : List Int) (w : World) (hg : GatW w vg g) (h : makE g = e ∧ makR g = rows ∧ makO g = owners) :
    Calls Try.prog 15 #[vg] w fun r w' => ∃ a c b d, r = .returned (.tuple #[.agg #[.slice a rows.length c, .slice b owners.length d], .int .i64 e]) ∧ Rows2 w' (.slice a rows.length c) rows ∧ Ints w' (.slice b owners.length d) owners ∧ Below w.heap.size w w' :=
  (make_any vg g w hg).mono fun r w' ⟨rv, ov, h1, h2, h3, h4⟩ => by
    rw [h.2.1] at h2; rw [h.2.2] at h3
    obtain ⟨a, c, rfl, -⟩ := id h2
    obtain ⟨b, d, rfl, -⟩ := id h3
    exact ⟨a, c, b, d, by rw [h1, h.1], h2, h3, h4⟩
set_option maxRecDepth 100000 in
theorem acc_val (rv ov wv : Value) (rows : List (List Int)) (owners who y : List Int) (ok : Bool) (e : Int) (w : World) (hR : Rows2 w rv rows) (hO : Ints w ov owners) (hW : Ints w wv who) (h : accOk rows owners who = ok ∧ accY rows owners who = y) (he : questE rows owners who = e) :
    Calls Try.prog 20 #[.agg #[rv, ov], wv] w fun r w' => ∃ a c, r = .returned (.tuple #[.slice a y.length c, .bool ok, .int .i64 e]) ∧ Ints w' (.slice a y.length c) y ∧ Below w.heap.size w w' :=
  (accepts_any rv ov wv rows owners who w hR hO hW).mono fun r w' ⟨yv, h1, h2, h3⟩ => by
    rw [h.2] at h2
    obtain ⟨a, c, rfl, -⟩ := id h2
    exact ⟨a, c, by rw [h1, h.1, he], h2, h3⟩
set_option maxRecDepth 100000 in
theorem ref_val (rv ov wv : Value) (rows : List (List Int)) (owners who y : List Int) (ok : Bool) (e : Int) (w : World) (hR : Rows2 w rv rows) (hO : Ints w ov owners) (hW : Ints w wv who) (h : (refY rows owners who).isSome = ok ∧ (refY rows owners who).getD [] = y) (he : questE rows owners who = e) :
    Calls Try.prog 22 #[.agg #[rv, ov], wv] w fun r w' => ∃ a c, r = .returned (.tuple #[.slice a y.length c, .bool ok, .int .i64 e]) ∧ Ints w' (.slice a y.length c) y ∧ Below w.heap.size w w' :=
  (refuses_any rv ov wv rows owners who w hR hO hW).mono fun r w' ⟨yv, h1, h2, h3⟩ => by
    rw [h.2] at h2
    obtain ⟨a, c, rfl, -⟩ := id h2
    exact ⟨a, c, by rw [h1, h.1, he], h2, h3⟩
set_option maxRecDepth 100000 in
theorem same_val (rv ov rv2 ov2 : Value) (r s : List (List Int)) (o p : List Int) (b : Bool) (w : World) (hR : Rows2 w rv r) (hO : Ints w ov o) (hS : Rows2 w rv2 s) (hP : Ints w ov2 p) (h : sameP r s o p = b) :
    Calls Try.prog 19 #[.agg #[rv, ov], .agg #[rv2, ov2]] w fun e w' => e = .returned (.bool b) ∧ Below w.heap.size w w' :=
  (rSameP_any rv ov rv2 ov2 r s o p w hR hO hS hP).mono fun r w' ⟨h1, h2⟩ => ⟨by rw [h1, h], h2⟩

end Go.Proofs.Ytohebkpgjaaljaa
