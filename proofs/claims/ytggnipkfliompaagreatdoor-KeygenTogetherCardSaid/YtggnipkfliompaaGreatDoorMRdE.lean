/- The reference of dealing: Numbers, Product, SameInts, Target. The reference of keygen: SameDealing and SameKey of equal ones; Small, Few. Package keygen: slices of complaints; does any count. -/
import Derived.Test.YtggnipkfliompaaGreatDoorMProF
import Derived.Test.YtggnipkfliompaaGreatDoorMKgA
import Derived.Test.YtggnipkfliompaaGreatDoorMKgT
import Derived.Test.YtggnipkfliompaaGreatDoorMRegL
set_option maxHeartbeats 8000000
set_option maxRecDepth 100000
namespace Go.Proofs.YtggnipkfliompaaGreatDoor
open Go.RowKit FP
theorem rSameInts34_any (v u : Value) (a b : List Int) (w : World) (hI : Ints w v a) (hJ : Ints w u b) :
  Calls Tryz.prog 35 #[v, u] w fun e w' => e = .returned (.bool (sameQ a b)) ∧ Below w.heap.size w w' := by
 obtain ⟨pa, ca, rfl, ha1, ha2, ha3, hka⟩ := hI
 obtain ⟨pb, cb, rfl, hb1, hb2, hb3, hkb⟩ := hJ
 by_cases hl : a.length = b.length
 ·have hl' : ((a.length : Int) != (b.length : Int)) = false := by rw [hl]; simp
  have HL := Lib.hid hl
  have hb1 : a.length ≤ cb := by omega
  have hcells : ∀ k (h : k < a.length), ∃ y, y = b[k]'(by rw [← HL.out]; exact h) ∧ ∃ q off, pb = some ⟨q, off, none⟩ ∧ w.cell? ⟨q, off + k, none⟩ = some (.int .i64 y) := fun k h => ⟨_, rfl, hkb k (by omega)⟩
  rw [← hl] at hl' ⊢
  clear hl hb2
  clear hkb
  go_enter Tryz.func35, Tryz.ntmps35
  go_wp2_with fail
  go_loopw [5] (fun i wr => ∃ k : Nat, k ≤ a.length ∧ i = .int .i64 k ∧ Hid (∀ j (h1 : j < a.length) (h2 : j < b.length), j < k → a[j] = b[j]) ∧ Below w.heap.size w wr) (fun i _ => a.length - (intOf i).toNat)
  case atStart => exact ⟨0, Nat.zero_le _, rfl, Lib.hid fun j _ _ h => absurd h (Nat.not_lt_zero _), Below.refl _ _⟩
  case round =>
   obtain ⟨k, hkl, rfl, HP, hb⟩ := hrel
   by_cases hlt : k < a.length
   ·obtain ⟨p, off, rfl, hc⟩ := hka k hlt
    obtain ⟨y, hy, p', off', rfl, hc'⟩ := hcells k hlt
    have hc := below_cell hb hc
    have hc' := below_cell hb hc'
    obtain ⟨x, hx⟩ : ∃ x, x = a[k] := ⟨_, rfl⟩
    rw [← hx] at hc
    have i1 : (0 : Int) ≤ (k : Int) := by omega
    have i2 : (k : Int) < (a.length : Int) := by omega
    have HX := Lib.hid hx
    have HY := Lib.hid hy
    clear hcells hka hx hy
    by_cases he : x = y
    ·have he' : (x != y) = false := by simpa using he
     have HN := Lib.hid (show ∀ j (h1 : j < a.length) (h2 : j < b.length), j < k + 1 → a[j] = b[j] from fun j h1 h2 h3 => by
      by_cases e : j = k
      ·subst e; rw [← HX.out, ← HY.out, he]
      ·exact HP.out j h1 h2 (by omega))
     clear he
     go_wp2_with fail
     go_quiet (fail)
     go_wp2_with fail
     go_roundw
     case rel => exact ⟨k + 1, by omega, by go_num, HN, below_drewN hb _⟩
     case measure => simp [intOf]; omega
    ·have he' : (x != y) = true := by simpa using he
     have HN := Lib.hid (sameQ_at hlt (by rw [← HL.out]; exact hlt) (by rw [← HX.out, ← HY.out]; exact he))
     clear he
     go_wp2_with fail
     go_quiet (fail)
     go_wp2_with fail
     go_ret
     exact ⟨ret_bool HN.out.symm, below_drewN hb _⟩
   ·have HN := Lib.hid (sameQ_all HL.out fun k h1 h2 => HP.out k h1 h2 (by omega))
    go_wp2_with fail
    go_ret
    exact ⟨ret_bool HN.out.symm, hb⟩
 ·have hl' : ((a.length : Int) != (b.length : Int)) = true := by rw [bne_iff_ne]; omega
  have HL := Lib.hid (sameQ_len hl)
  clear hl
  go_enter Tryz.func35, Tryz.ntmps35
  go_wp2_with fail
  go_ret
  exact ⟨ret_bool HL.out.symm, Below.refl _ _⟩
end Go.Proofs.YtggnipkfliompaaGreatDoor
namespace Go.Proofs.YtggnipkfliompaaGreatDoor
open Go.RowKit FP
theorem sameP_self (r : List (List Int)) (o : List Int) : sameP r r o o = true := by unfold sameP sameQ; rw [decide_eq_true rfl, decide_eq_true rfl]; rfl
theorem sameQ_self (o : List Int) : sameQ o o = true := by unfold sameQ; exact decide_eq_true rfl
theorem rSameKey37_any (ep : Int) (rv ov cv rv2 ov2 cv2 : Value) (rows : List (List Int)) (owners cs : List Int) (w : World) (hR : Rows2 w rv rows) (hO : Ints w ov owners) (hC : Ints w cv cs) (hR2 : Rows2 w rv2 rows) (hO2 : Ints w ov2 owners) (hC2 : Ints w cv2 cs) :
  Calls Tryz.prog 36 #[.agg #[.int .i64 ep, rv, ov, cv], .agg #[.int .i64 ep, rv2, ov2, cv2]] w fun e w' => e = .returned (.bool true) ∧ Below w.heap.size w w' := by
 obtain ⟨W0, hW0, hb0, hr0, hs0⟩ : ∃ W, W = w.alloc (.cells #[.int .i64 ep, rv, ov, cv] 64) ∧ Below w.heap.size w W ∧ W.heap[w.heap.size]? = some (.cells #[.int .i64 ep, rv, ov, cv] 64 (0, 0)) ∧ W.heap.size = w.heap.size + 1 := ⟨_, rfl, below_new _ _ _, World.alloc_heap_new _ _, by simp⟩
 obtain ⟨W1, hW1, hb1, hr1⟩ : ∃ W, W = W0.alloc (.cells #[.int .i64 ep, rv2, ov2, cv2] 64) ∧ Below W0.heap.size W0 W ∧ W.heap[W0.heap.size]? = some (.cells #[.int .i64 ep, rv2, ov2, cv2] 64 (0, 0)) := ⟨_, rfl, below_new _ _ _, World.alloc_heap_new _ _⟩
 have hb := hb0.trans (hb1.mono hb0.size)
 rw [hs0] at hr1
 have Q0 := Lib.hid ((hb1.block _ (row_lt hr0)).trans hr0)
 have Q1 := Lib.hid hr1
 have HR := Lib.hid (hR.below hb)
 have HO := Lib.hid (hO.below hb)
 have HC := Lib.hid (hC.below hb)
 have HR2 := Lib.hid (hR2.below hb)
 have HO2 := Lib.hid (hO2.below hb)
 have HC2 := Lib.hid (hC2.below hb)
 obtain ⟨a1, k1, rfl, -⟩ := id hR
 obtain ⟨a2, k2, rfl, -⟩ := id hO
 obtain ⟨a3, k3, rfl, -⟩ := id hC
 obtain ⟨a4, k4, rfl, -⟩ := id hR2
 obtain ⟨a5, k5, rfl, -⟩ := id hO2
 obtain ⟨a6, k6, rfl, -⟩ := id hC2
 rw [hW0] at hW1
 have HW := Lib.hid hW1
 have HB := Lib.hid hb
 clear hR hO hC hR2 hO2 hC2 hb hb0 hb1 hr0 hr1 hW0 hW1 hs0
 have c0 := row_cell Q0.out (k := 0) (v := .int .i64 ep) rfl
 have c1 := row_cell Q0.out (k := 1) (v := .slice a1 rows.length k1) rfl
 have c2 := row_cell Q0.out (k := 2) (v := .slice a2 owners.length k2) rfl
 have c3 := row_cell Q0.out (k := 3) (v := .slice a3 cs.length k3) rfl
 have e0 := row_cell Q1.out (k := 0) (v := .int .i64 ep) rfl
 have e1 := row_cell Q1.out (k := 1) (v := .slice a4 rows.length k4) rfl
 have e2 := row_cell Q1.out (k := 2) (v := .slice a5 owners.length k5) rfl
 have e3 := row_cell Q1.out (k := 3) (v := .slice a6 cs.length k6) rfl
 have HSP := Lib.hid (sameP_self rows owners)
 have HSQ := Lib.hid (sameQ_self cs)
 have z1 : (ep == ep) = true := by simp
 go_enter Tryz.func36, Tryz.ntmps36
 go_wp2_with (rw [← HW.out])
 clear HW
 with_reducible refine (rSameP_any _ _ _ _ rows rows owners owners _ HR.out HO.out HR2.out HO2.out).mono ?_
 rintro e w2 ⟨rfl, hb2⟩
 replace c0 := below_cell hb2 c0
 replace c1 := below_cell hb2 c1
 replace c2 := below_cell hb2 c2
 replace c3 := below_cell hb2 c3
 replace e0 := below_cell hb2 e0
 replace e1 := below_cell hb2 e1
 replace e2 := below_cell hb2 e2
 replace e3 := below_cell hb2 e3
 replace HR := Lib.hid (HR.out.below hb2)
 replace HO := Lib.hid (HO.out.below hb2)
 replace HC := Lib.hid (HC.out.below hb2)
 replace HR2 := Lib.hid (HR2.out.below hb2)
 replace HO2 := Lib.hid (HO2.out.below hb2)
 replace HC2 := Lib.hid (HC2.out.below hb2)
 replace HB := Lib.hid (HB.out.trans (hb2.mono HB.out.size))
 clear hb2
 rw [HSP.out]
 go_wp2_with fail
 with_reducible refine (rSameInts34_any _ _ cs cs _ HC.out HC2.out).mono ?_
 rintro e w3 ⟨rfl, hb3⟩
 replace c0 := below_cell hb3 c0
 replace c1 := below_cell hb3 c1
 replace c2 := below_cell hb3 c2
 replace c3 := below_cell hb3 c3
 replace e0 := below_cell hb3 e0
 replace e1 := below_cell hb3 e1
 replace e2 := below_cell hb3 e2
 replace e3 := below_cell hb3 e3
 replace HR := Lib.hid (HR.out.below hb3)
 replace HO := Lib.hid (HO.out.below hb3)
 replace HC := Lib.hid (HC.out.below hb3)
 replace HR2 := Lib.hid (HR2.out.below hb3)
 replace HO2 := Lib.hid (HO2.out.below hb3)
 replace HC2 := Lib.hid (HC2.out.below hb3)
 replace HB := Lib.hid (HB.out.trans (hb3.mono HB.out.size))
 clear hb3
 rw [HSQ.out]
 go_wp2_with fail
 go_ret
 exact ⟨rfl, HB.out⟩
theorem rSmall37_any (rv ov : Value) (rows : List (List Int)) (owners : List Int) (w : World) (hR : Rows2 w rv rows) (hO : Ints w ov owners) :
  Calls Tryz.prog 84 #[.agg #[rv, ov]] w fun r w' => (∃ b, r = .returned (.bool b)) ∧ Below w.heap.size w w' := by
 obtain ⟨W1, hW1, hb1, hr1, hz⟩ := box_prog w rv ov 25
 have HR := Lib.hid (hR.below hb1)
 obtain ⟨a1, k1, rfl, -, hl1, -⟩ := id hR
 obtain ⟨a2, k2, rfl, -, hl2, -⟩ := id hO
 have c0 := row_cell hr1 (k := 0) (v := .slice a1 rows.length k1) rfl
 have c1 := row_cell hr1 (k := 1) (v := .slice a2 owners.length k2) rfl
 have HW1 := Lib.hid hW1
 have HB := Lib.hid hb1
 clear hR hO hb1 hr1 hW1 hz
 go_enter Tryz.func84, Tryz.ntmps84
 go_wp2_with (rw [← HW1.out])
 go_loopw [3] (fun i W => ∃ k : Nat, k ≤ rows.length ∧ i = .int .i64 k ∧ W = W1) (fun i _ => rows.length - (intOf i).toNat)
 case atStart => exact ⟨0, Nat.zero_le _, rfl, rfl⟩
 case round =>
  obtain ⟨k, hkl, rfl, rfl⟩ := hrel
  have i0 : (0 : Int) ≤ (k : Int) := by omega
  by_cases hin : k < rows.length ∧ k < 70
  ·have i1 : (k : Int) < (rows.length : Int) := by omega
   have d1 : decide ((k : Int) < (rows.length : Int)) = true := decide_eq_true i1
   have d2 : decide ((k : Int) < 70) = true := decide_eq_true (by omega)
   obtain ⟨aa, cc, e1, -, -, hk⟩ := HR.out
   obtain ⟨b, off, r, ha, q1, hI⟩ := hk k hin.1
   simp only [Value.slice.injEq] at e1
   obtain ⟨rfl, -, rfl⟩ := e1
   subst ha
   obtain ⟨ra, rc, rfl, -⟩ := id hI
   have hkr := hin.1
   clear hk hI
   generalize rows[k].length = m at *
   clear hin
   by_cases h1 : 6 < m
   ·have t1 : decide ((6 : Int) < (m : Int)) = true := decide_eq_true (by omega)
    by_cases h2 : m ≤ 64
    ·have t2 : decide ((m : Int) ≤ 64) = true := decide_eq_true (by omega)
     go_wp2_with fail
     go_ret
     exact ⟨⟨_, rfl⟩, HB.out⟩
    ·have t2 : decide ((m : Int) ≤ 64) = false := decide_eq_false (by omega)
     by_cases h3 : 70 < m
     ·have t3 : decide ((70 : Int) < (m : Int)) = true := decide_eq_true (by omega)
      go_wp2_with fail
      go_ret
      exact ⟨⟨_, rfl⟩, HB.out⟩
     ·have t3 : decide ((70 : Int) < (m : Int)) = false := decide_eq_false (by omega)
      go_wp2_with fail
      go_roundw
      case rel => exact ⟨k + 1, by omega, by go_num, by trivial⟩
      case measure => simp [intOf]; omega
   ·have t1 : decide ((6 : Int) < (m : Int)) = false := decide_eq_false (by omega)
    have t3 : decide ((70 : Int) < (m : Int)) = false := decide_eq_false (by omega)
    go_wp2_with fail
    go_roundw
    case rel => exact ⟨k + 1, by omega, by go_num, by trivial⟩
    case measure => simp [intOf]; omega
  ·by_cases hlt : k < rows.length
   ·have d1 : decide ((k : Int) < (rows.length : Int)) = true := decide_eq_true (by omega)
    have d2 : decide ((k : Int) < 70) = false := decide_eq_false (by omega)
    clear hin
    by_cases g1 : rows.length ≤ 6
    ·have v1 : decide ((rows.length : Int) ≤ 6) = true := decide_eq_true (by omega)
     by_cases g4 : owners.length ≤ 70
     ·have v4 : decide ((owners.length : Int) ≤ 70) = true := decide_eq_true (by omega)
      go_wp2_with fail
      go_ret
      exact ⟨⟨_, rfl⟩, HB.out⟩
     ·have v4 : decide ((owners.length : Int) ≤ 70) = false := decide_eq_false (by omega)
      go_wp2_with fail
      go_ret
      exact ⟨⟨_, rfl⟩, HB.out⟩
    ·have v1 : decide ((rows.length : Int) ≤ 6) = false := decide_eq_false (by omega)
     by_cases g2 : 64 < rows.length
     ·have v2 : decide ((64 : Int) < (rows.length : Int)) = true := decide_eq_true (by omega)
      by_cases g3 : rows.length ≤ 70
      ·have v3 : decide ((rows.length : Int) ≤ 70) = true := decide_eq_true (by omega)
       by_cases g4 : owners.length ≤ 70
       ·have v4 : decide ((owners.length : Int) ≤ 70) = true := decide_eq_true (by omega)
        go_wp2_with fail
        go_ret
        exact ⟨⟨_, rfl⟩, HB.out⟩
       ·have v4 : decide ((owners.length : Int) ≤ 70) = false := decide_eq_false (by omega)
        go_wp2_with fail
        go_ret
        exact ⟨⟨_, rfl⟩, HB.out⟩
      ·have v3 : decide ((rows.length : Int) ≤ 70) = false := decide_eq_false (by omega)
       go_wp2_with fail
       go_ret
       exact ⟨⟨_, rfl⟩, HB.out⟩
     ·have v2 : decide ((64 : Int) < (rows.length : Int)) = false := decide_eq_false (by omega)
      go_wp2_with fail
      go_ret
      exact ⟨⟨_, rfl⟩, HB.out⟩
   ·have d1 : decide ((k : Int) < (rows.length : Int)) = false := decide_eq_false (by omega)
    have d1' : decide (k < rows.length) = false := decide_eq_false hlt
    clear hin
    by_cases g1 : rows.length ≤ 6
    ·have v1 : decide ((rows.length : Int) ≤ 6) = true := decide_eq_true (by omega)
     by_cases g4 : owners.length ≤ 70
     ·have v4 : decide ((owners.length : Int) ≤ 70) = true := decide_eq_true (by omega)
      go_wp2_with fail
      go_ret
      exact ⟨⟨_, rfl⟩, HB.out⟩
     ·have v4 : decide ((owners.length : Int) ≤ 70) = false := decide_eq_false (by omega)
      go_wp2_with fail
      go_ret
      exact ⟨⟨_, rfl⟩, HB.out⟩
    ·have v1 : decide ((rows.length : Int) ≤ 6) = false := decide_eq_false (by omega)
     by_cases g2 : 64 < rows.length
     ·have v2 : decide ((64 : Int) < (rows.length : Int)) = true := decide_eq_true (by omega)
      by_cases g3 : rows.length ≤ 70
      ·have v3 : decide ((rows.length : Int) ≤ 70) = true := decide_eq_true (by omega)
       by_cases g4 : owners.length ≤ 70
       ·have v4 : decide ((owners.length : Int) ≤ 70) = true := decide_eq_true (by omega)
        go_wp2_with fail
        go_ret
        exact ⟨⟨_, rfl⟩, HB.out⟩
       ·have v4 : decide ((owners.length : Int) ≤ 70) = false := decide_eq_false (by omega)
        go_wp2_with fail
        go_ret
        exact ⟨⟨_, rfl⟩, HB.out⟩
      ·have v3 : decide ((rows.length : Int) ≤ 70) = false := decide_eq_false (by omega)
       go_wp2_with fail
       go_ret
       exact ⟨⟨_, rfl⟩, HB.out⟩
     ·have v2 : decide ((64 : Int) < (rows.length : Int)) = false := decide_eq_false (by omega)
      go_wp2_with fail
      go_ret
      exact ⟨⟨_, rfl⟩, HB.out⟩
end Go.Proofs.YtggnipkfliompaaGreatDoor
namespace Go.Proofs.YtggnipkfliompaaGreatDoor
open Go.RowKit FP
def cmpC (c : Cmp) : List Value := [.int .i64 c.dealer, .int .i64 c.row, .int .i64 c.D, .int .i64 c.E, .int .i64 c.S]
def Cmps (w : World) (v : Value) (l : List Cmp) : Prop :=
 ∃ a cap, v = .slice a l.length cap ∧ l.length ≤ cap ∧ l.length ≤ 17592186044416 ∧ (∀ c ∈ l, CmpR c) ∧
  ∀ k (h : k < l.length), ∃ b off, a = some ⟨b, off, none⟩ ∧ ∀ j u, (cmpC l[k])[j]? = some u → w.cell? ⟨b, off + k * 5 + j, none⟩ = some u
theorem Cmps.below {w w' : World} {v : Value} {l : List Cmp} (h : Cmps w v l) (hb : Below w.heap.size w w') : Cmps w' v l := by
 obtain ⟨a, cap, rfl, hc, hl, hr, hk⟩ := h
 refine ⟨a, cap, rfl, hc, hl, hr, fun k hlt => ?_⟩
 obtain ⟨b, off, ha, h1⟩ := hk k hlt
 exact ⟨b, off, ha, fun j u hj => below_cell hb (h1 j u hj)⟩
theorem Cmps.nil (w : World) (a : Option Addr) (cap : Nat) : Cmps w (.slice a 0 cap) [] :=
 ⟨a, cap, rfl, Nat.zero_le _, by simp, by simp, fun k h => absurd h (Nat.not_lt_zero _)⟩
theorem Cmps.at {w : World} {a : Option Addr} {n c : Nat} {l : List Cmp} (h : Cmps w (.slice a n c) l) {k : Nat} (hk : k < l.length) : ∃ b off, a = some ⟨b, off, none⟩ ∧ CmpR l[k] ∧ w.cell? ⟨b, off + k * 5, none⟩ = some (.int .i64 l[k].dealer) ∧ w.cell? ⟨b, off + k * 5 + 1, none⟩ = some (.int .i64 l[k].row) ∧ w.cell? ⟨b, off + k * 5 + 2, none⟩ = some (.int .i64 l[k].D) ∧ w.cell? ⟨b, off + k * 5 + 3, none⟩ = some (.int .i64 l[k].E) ∧ w.cell? ⟨b, off + k * 5 + 4, none⟩ = some (.int .i64 l[k].S) := by
 obtain ⟨a', cap, h1, -, -, h4, h5⟩ := h
 cases h1
 obtain ⟨b, off, e, h6⟩ := h5 k hk
 exact ⟨b, off, e, h4 _ (List.getElem_mem hk), h6 0 _ rfl, h6 1 _ rfl, h6 2 _ rfl, h6 3 _ rfl, h6 4 _ rfl⟩
theorem cflat_at : ∀ (l : List Cmp) (k j : Nat) (hk : k < l.length), j < 5 → (l.flatMap cmpC)[k * 5 + j]? = (cmpC l[k])[j]?
 | [], k, _, hk, _ => absurd hk (Nat.not_lt_zero k)
 | z :: l, 0, j, _, hj => by
  rw [List.flatMap_cons, Nat.zero_mul, Nat.zero_add, List.getElem?_append_left (by show j < 5; exact hj)]; rfl
 | z :: l, k + 1, j, hk, hj => by
  rw [List.flatMap_cons, List.getElem?_append_right (by show 5 ≤ _; omega)]
  have e : (k + 1) * 5 + j - (cmpC z).length = k * 5 + j := by show (k + 1) * 5 + j - 5 = _; omega
  rw [e, cflat_at l k j (by simpa using hk) hj]; rfl
theorem cflat_size (l : List Cmp) : (l.flatMap cmpC).length = l.length * 5 := by
 induction l with
 | nil => rfl
 | cons z l ih => rw [List.flatMap_cons, List.length_append, ih, List.length_cons]; show 5 + _ = _; omega
theorem cflat_snoc (l : List Cmp) (z : Cmp) : (l ++ [z]).flatMap cmpC = l.flatMap cmpC ++ cmpC z := by rw [List.flatMap_append]; simp
theorem Cmps.own {w : World} {base n : Nat} {v : Value} {l : List Cmp} (h : w.ownsRow base 34 5 v n (l.flatMap cmpC)) (hr : ∀ c ∈ l, CmpR c) (hl : l.length ≤ 1000000) : Cmps w v l := by
 obtain ⟨hn, h⟩ := h
 rw [cflat_size] at hn
 obtain rfl : n = l.length := by omega
 rcases h with ⟨rfl, h0⟩ | ⟨g, cap, cur, rfl, -, hg, hnc, -, hcs, hcur⟩
 ·exact ⟨none, 0, by rw [h0], by omega, by omega, hr, fun k hk => absurd hk (by omega)⟩
 ·refine ⟨some ⟨g, 0, none⟩, cap, rfl, hnc, by omega, hr, fun k hk => ⟨g, 0, rfl, fun j u hu => ?_⟩⟩
  have hj : j < 5 := by
   have := (List.getElem?_eq_some_iff.1 hu).1
   simpa [cmpC] using this
  have e2 : (cur.toList.take (l.length * 5))[k * 5 + j]? = (cmpC l[k])[j]? := by rw [hcur, cflat_at l k j hk hj]
  rw [List.getElem?_take, if_pos (by omega)] at e2
  rw [Nat.zero_add]
  exact row_cell hg (by rw [← Array.getElem?_toList, e2]; exact hu)
theorem cmpV_eq (c : Cmp) : cmpV c = .agg #[.int .i64 c.dealer, .int .i64 c.row, .int .i64 c.D, .int .i64 c.E, .int .i64 c.S] := rfl
def indexG {α : Type} (p : α → Bool) : List α → Int
 | [] => -1
 | z :: l => if p z then 0 else if indexG p l < 0 then -1 else indexG p l + 1
theorem indexG_lo {α : Type} (p : α → Bool) (l : List α) : -1 ≤ indexG p l := by
 induction l with
 | nil => simp [indexG]
 | cons z l ih =>
  unfold indexG
  split
  ·omega
  ·split <;> omega
theorem indexG_none {α : Type} (p : α → Bool) (l : List α) (h : ∀ z ∈ l, p z = false) : indexG p l = -1 := by
 induction l with
 | nil => rfl
 | cons z l ih => unfold indexG; rw [if_neg (by simp [h z]), ih (fun y hy => h y (by simp [hy]))]; rfl
theorem indexG_at {α : Type} (p : α → Bool) (l : List α) (k : Nat) (hk : k < l.length) (h : ∀ z ∈ l.take k, p z = false) (hp : p l[k] = true) : indexG p l = k := by
 induction l generalizing k with
 | nil => simp at hk
 | cons z l ih =>
  unfold indexG
  cases k with
  | zero => simp at hp; simp [hp]
  | succ k =>
   simp at hp hk
   rw [if_neg (by rw [h z (by simp)]; simp), ih k hk (fun y hy => h y (by simp [hy])) hp, if_neg (by omega)]; rfl
theorem indexG_any {α : Type} (p : α → Bool) (l : List α) : decide (0 ≤ indexG p l) = l.any p := by
 by_cases h : l.any p = true
 ·rw [h]
  induction l with
  | nil => simp at h
  | cons z l ih =>
   unfold indexG
   by_cases hz : p z = true
   ·simp [hz]
   ·have h' : l.any p = true := by simpa [hz] using h
    have := ih h'
    simp at this
    simp [hz]; omega
 ·have h' : ∀ z ∈ l, p z = false := by
   intro z hz; simp at h; simpa using h z hz
  rw [indexG_none p l h']; simp at h ⊢; exact h
def TestsC (f : FuncId) (cap : Array Value) (w : World) (p : Cmp → Bool) (l : List Cmp) : Prop :=
 ∀ c ∈ l, ∀ w', Below w.heap.size w w' → Calls Tryz.prog f (#[cmpV c] ++ cap) w' fun e w'' => e = .returned (.bool (p c)) ∧ Below w'.heap.size w' w''
theorem indexFuncC_any (f : FuncId) (cap : Array Value) (p : Cmp → Bool) (v : Value) (l : List Cmp) (w : World) (hI : Cmps w v l) (hE : Goes Tryz.prog f) (hT : TestsC f cap w p l) :
  Calls Tryz.prog 170 #[v, .func (.func f) #[] cap] w fun e w' => e = .returned (.int .i64 (indexG p l)) ∧ Below w.heap.size w w' := by
 have HL := Lib.hid hI
 obtain ⟨a, cap', rfl, hcap, hlen, -⟩ := hI
 have HT := Lib.hid hT
 clear hT
 have hE' : ∀ (args : Array Value) (w : World), (callFunc f args).run Tryz.prog w = .ok (.enter f args) w := hE
 clear hE
 go_enter Tryz.func170, Tryz.ntmps170
 go_wp2_with fail
 go_loopw [5, 8] (fun _ i wr => ∃ k : Nat, k ≤ l.length ∧ i = .int .i64 k ∧ Hid (∀ z ∈ l.take k, p z = false) ∧ Below w.heap.size w wr) (fun _ i _ => l.length - (intOf i).toNat)
 case atStart => exact ⟨0, Nat.zero_le _, rfl, Lib.hid (by simp), Below.refl _ _⟩
 case round =>
  obtain ⟨k, hkl, rfl, HP, hb⟩ := hrel
  by_cases hlt : k < l.length
  ·obtain ⟨b, off, ha, -, y0, y1, y2, y3, y4⟩ := (HL.out.below hb).at hlt
   subst ha
   have HC := Lib.hid (HT.out l[k] (List.getElem_mem hlt) wr hb)
   rw [cmpV_eq] at HC
   obtain ⟨c, hc⟩ : ∃ c, c = l[k] := ⟨_, rfl⟩
   rw [← hc] at y0 y1 y2 y3 y4 HC
   have HCE := Lib.hid hc
   clear hc
   obtain ⟨c0, c1, c2, c3, c4⟩ := c
   simp only at y0 y1 y2 y3 y4 HC
   cases hp : p ⟨c0, c1, c2, c3, c4⟩
   ·have HN := Lib.hid (show ∀ z ∈ l.take (k + 1), p z = false by
     rw [List.take_succ_eq_append_getElem hlt]
     intro z hz
     rcases List.mem_append.1 hz with h | h
     ·exact HP.out z h
     ·rw [List.mem_singleton.1 h, ← HCE.out]; exact hp)
    rw [hp] at HC
    have HB := Lib.hid hb
    have i0 : (0 : Int) ≤ (k : Int) := by omega
    have i1 : (k : Int) < (l.length : Int) := by omega
    clear hp hb
    go_wp2_with fail
    refine HC.out.mono ?_
    rintro e w1 ⟨rfl, hb1⟩
    go_wp2_with fail
    go_roundw
    case rel => exact ⟨k + 1, by omega, by go_num, HN, below_later HB.out (Nat.le_refl _) hb1⟩
    case measure => simp [intOf]; omega
   ·have HR := Lib.hid (indexG_at p l k hlt HP.out (by rw [← HCE.out]; exact hp))
    rw [hp] at HC
    have HB := Lib.hid hb
    have i0 : (0 : Int) ≤ (k : Int) := by omega
    have i1 : (k : Int) < (l.length : Int) := by omega
    clear hp hb
    go_wp2_with fail
    refine HC.out.mono ?_
    rintro e w1 ⟨rfl, hb1⟩
    go_wp2_with fail
    go_ret
    exact ⟨ret_int HR.out.symm, below_later HB.out (Nat.le_refl _) hb1⟩
  ·have HR := Lib.hid (indexG_none p l (by have := HP.out; rwa [List.take_of_length_le (by omega)] at this))
   go_wp2_with fail
   go_ret
   exact ⟨ret_int HR.out.symm, hb⟩
theorem containsFuncC_any (f : FuncId) (cap : Array Value) (p : Cmp → Bool) (v : Value) (l : List Cmp) (w : World) (hI : Cmps w v l) (hE : Goes Tryz.prog f) (hT : TestsC f cap w p l) :
  Calls Tryz.prog 103 #[v, .func (.func f) #[] cap] w fun e w' => e = .returned (.bool (l.any p)) ∧ Below w.heap.size w w' := by
 have H := Lib.hid (indexG_any p l)
 have hlo := indexG_lo p l
 go_enter Tryz.func103, Tryz.ntmps103
 go_wp2_with (go_at_call 170; refine (indexFuncC_any f cap p v l _ hI hE hT).mono ?_; rintro e w1 ⟨rfl, hb1⟩)
 go_ret
 exact ⟨ret_bool H.out, hb1⟩
structure FQd1 (w0 : World) (pb : Nat) (kb : Nat) (db : Nat) (cb : Nat) (ob : Nat) (oo : Nat) (no : Nat) (k2 : Nat) (kk : Nat) (ko : Nat) (nk : Nat) (k3 : Nat) (k : Nat) (m : Nat) (rv : Value) (cv : Value) (pv : Value) (dl : Int) (key : Int) (c0 : Int) (c2 : Int) (c3 : Int) (c4 : Int) (g : Int) (q : Int) (done : Nat → Bool) (v : Nat → Value) (w : World) : Prop where
 b : Below w0.heap.size w0 w
 f0 : done 0 = true → v 0 = .agg #[rv, .slice (some ⟨ob, oo, none⟩) no k2]
 f1 : done 1 = true → v 1 = .slice (some ⟨kk, ko, none⟩) nk k3
 f2 : done 2 = true → v 2 = .pointer (some ⟨pb, 1, none⟩)
 f3 : done 3 = true → v 3 = .slice (some ⟨ob, oo, none⟩) no k2
 f4 : done 4 = true → v 4 = .pointer (some ⟨cb, 1, none⟩)
 f5 : done 5 = true → v 5 = .int .i64 (k : Int)
 f6 : done 6 = true → v 6 = .pointer (some ⟨ob, oo + k, none⟩)
 f7 : done 7 = true → v 7 = .int .i64 (m : Int)
 f8 : done 8 = true → v 8 = .pointer (some ⟨kk, ko + m, none⟩)
 f9 : done 9 = true → v 9 = .int .i64 key
 f10 : done 10 = true → v 10 = .agg #[.int .i64 dl, cv, pv]
 f11 : done 11 = true → v 11 = .agg #[.int .i64 c0, .int .i64 (k : Int), .int .i64 c2, .int .i64 c3, .int .i64 c4]
 f12 : done 12 = true → v 12 = .tuple #[.int .i64 g, .int .i64 q]
 f13 : done 13 = true → v 13 = .tuple #[.int .i64 g, .int .i64 q]
 f14 : done 14 = true → v 14 = .int .i64 g
 f15 : done 15 = true → v 15 = .int .i64 q
 f16 : done 16 = true → v 16 = .int .i64 g
 f17 : done 17 = true → v 17 = .int .i64 q
def setB (rows : List (List Int)) (owners keys : List Int) (d : Dlg) (c : Cmp) : Bool := stE rows owners (keyOf owners keys c.row.toNat) d c == 0 && stG rows owners (keyOf owners keys c.row.toNat) d c == 1
theorem qual1_goes : Goes Tryz.prog 102 := goes_of Tryz.func102 (by kernel_rfl) rfl
theorem qual1_any (pb kb db : Nat) (rv ov kv cv pv : Value) (rows : List (List Int)) (owners keys : List Int) (d : Dlg) (c : Cmp) (w : World) (hG : Glob w) (hR : Rows2 w rv rows) (hO : Ints w ov owners) (hK : Ints w kv keys) (hC : Ints w cv d.cs) (hP : Parcels w pv d.ps)
  (p0 : w.cell? ⟨pb, 0, none⟩ = some rv) (p1 : w.cell? ⟨pb, 1, none⟩ = some ov) (k0 : w.cell? ⟨kb, 0, none⟩ = some kv) (d0 : w.cell? ⟨db, 0, none⟩ = some (.int .i64 d.dealer)) (d1 : w.cell? ⟨db, 1, none⟩ = some cv) (d2 : w.cell? ⟨db, 2, none⟩ = some pv)
  (hc : CmpR c) (hr : 0 ≤ c.row ∧ c.row < (rows.length : Int)) (hlen : rows.length = owners.length) (ho : ∀ o ∈ owners, 0 ≤ o) (hko : KeysOK owners keys) :
  Calls Tryz.prog 102 #[cmpV c, .pointer (some ⟨pb, 0, none⟩), .pointer (some ⟨kb, 0, none⟩), .pointer (some ⟨db, 0, none⟩)] w fun r w' => r = .returned (.bool (setB rows owners keys d c)) ∧ Below w.heap.size w w' := by
 have HCC := Lib.hid hc
 obtain ⟨c0, c1, c2, c3, c4⟩ := c
 simp only at hr
 obtain ⟨k, rfl⟩ : ∃ k : Nat, c1 = (k : Int) := ⟨c1.toNat, by omega⟩
 have hkr : k < rows.length := by omega
 have hkO : k < owners.length := by omega
 obtain ⟨hkk, hkel⟩ := hko.key ho hkO
 have hon : 0 ≤ owners[k] := ho _ (List.getElem_mem hkO)
 obtain ⟨m, hm⟩ : ∃ m : Nat, owners[k] = (m : Int) := ⟨owners[k].toNat, by omega⟩
 have hmo : (nth owners k).toNat = m := by rw [nth_at hkO, hm]; rfl
 rw [hmo] at hkk
 have hkey : keyOf owners keys k = keys[m] := by unfold keyOf; rw [hmo, nth_at hkk]
 have HST := Lib.hid (fun W (h0 : Glob W) h1 h2 h3 h4 => cSettle_any rv ov cv pv rows owners d ⟨c0, (k : Int), c2, c3, c4⟩ keys[m] W h0 h1 h2 h3 h4 (by rw [← hkey]; exact hkel.r64) HCC.out)
 have HV : Hid (setB rows owners keys d ⟨c0, (k : Int), c2, c3, c4⟩ = (stE rows owners keys[m] d ⟨c0, (k : Int), c2, c3, c4⟩ == 0 && stG rows owners keys[m] d ⟨c0, (k : Int), c2, c3, c4⟩ == 1)) := Lib.hid (by
  unfold setB
  rw [show (⟨c0, (k : Int), c2, c3, c4⟩ : Cmp).row.toNat = k from rfl, hkey])
 rw [cmpV_eq] at HST ⊢
 obtain ⟨g, hg⟩ : ∃ g, g = stG rows owners keys[m] d ⟨c0, (k : Int), c2, c3, c4⟩ := ⟨_, rfl⟩
 obtain ⟨q, hq⟩ : ∃ g, g = stE rows owners keys[m] d ⟨c0, (k : Int), c2, c3, c4⟩ := ⟨_, rfl⟩
 rw [← hg, ← hq] at HST HV
 clear hg hq
 obtain ⟨W1, hW1⟩ : ∃ W, W = w.alloc (.cells #[.int .i64 c0, .int .i64 (k : Int), .int .i64 c2, .int .i64 c3, .int .i64 c4] 34) := ⟨_, rfl⟩
 have hb1 : Below w.heap.size w W1 := by rw [hW1]; exact below_new _ _ _
 have hr1 : W1.heap[w.heap.size]? = some (.cells #[.int .i64 c0, .int .i64 (k : Int), .int .i64 c2, .int .i64 c3, .int .i64 c4] 34 (0, 0)) := by rw [hW1]; exact World.alloc_heap_new _ _
 have HG := Lib.hid (hG.below hb1)
 have HR := Lib.hid (hR.below hb1)
 have HO := Lib.hid (hO.below hb1)
 have HC := Lib.hid (hC.below hb1)
 have HP := Lib.hid (hP.below hb1)
 obtain ⟨a1, k1, rfl, -, hl1, -⟩ := id hR
 obtain ⟨a2, k2, rfl, -, hl2, -⟩ := id hO
 obtain ⟨a3, k3, rfl, -, hl3, -⟩ := id hK
 obtain ⟨a4, k4, rfl, -, hl4, -⟩ := id hC
 obtain ⟨a5, k5, rfl, -, hl5, -⟩ := id hP
 obtain ⟨kk, ko, ea, qk⟩ := ints_at (hK.below hb1) hkk
 obtain ⟨ob, oo, eo, qo⟩ := ints_at HO.out hkO
 rw [hm] at qo
 subst ea
 subst eo
 replace p0 := below_cell hb1 p0
 replace p1 := below_cell hb1 p1
 replace k0 := below_cell hb1 k0
 replace d0 := below_cell hb1 d0
 replace d1 := below_cell hb1 d1
 replace d2 := below_cell hb1 d2
 have x0 := row_cell hr1 (k := 0) (v := .int .i64 c0) rfl
 have x1 := row_cell hr1 (k := 1) (v := .int .i64 (k : Int)) rfl
 have x2 := row_cell hr1 (k := 2) (v := .int .i64 c2) rfl
 have x3 := row_cell hr1 (k := 3) (v := .int .i64 c3) rfl
 have x4 := row_cell hr1 (k := 4) (v := .int .i64 c4) rfl
 generalize keys[m] = key at *
 have HW := Lib.hid hW1
 have HB := Lib.hid hb1
 have i0 : (0 : Int) ≤ (k : Int) := Int.natCast_nonneg k
 have i1 : (k : Int) < (owners.length : Int) := by omega
 have i2 : (0 : Int) ≤ (m : Int) := Int.natCast_nonneg m
 have i3 : (m : Int) < (keys.length : Int) := by omega
 clear hW1 hb1 hr1 hG hR hO hK hC hP hc hr hlen ho hko hkel hon hm hmo hkey hkk hkr hkO
 go_enter Tryz.func102, Tryz.ntmps102
 go_wp2_with (rw [← HW.out])
 clear HW
 refine wp_region_flowsG (by kernel_rfl) (by kernel_rfl) (by kernel_rfl) (by kernel_rfl) (fun done v W => FQd1 W1 (pb) (kb) (db) (w.heap.size) (ob) (oo) (owners.length) (k2) (kk) (ko) (keys.length) (k3) (k) (m) (.slice a1 rows.length k1) (.slice a4 d.cs.length k4) (.slice a5 d.ps.length k5) (d.dealer) (key) (c0) (c2) (c3) (c4) (g) (q) done v W) (fun v => ?_) ?_ (fun v W h => ?_)
 ·exact ⟨(Below.refl _ _).drew, (fun h => by cases h), (fun h => by cases h), (fun h => by cases h), (fun h => by cases h), (fun h => by cases h), (fun h => by cases h), (fun h => by cases h), (fun h => by cases h), (fun h => by cases h), (fun h => by cases h), (fun h => by cases h), (fun h => by cases h), (fun h => by cases h), (fun h => by cases h), (fun h => by cases h), (fun h => by cases h), (fun h => by cases h), (fun h => by cases h)⟩
 ·refine ⟨?_, ?_, ?_, ?_, ?_, ?_, ?_, ?_, ?_, ?_, ?_, ?_, ?_, ?_, ?_, ?_, ?_, ?_, trivial⟩
  ·intro done v W A h hd hp hu hA hB hdf
   have e0 : A.tmps[1]?.getD undef = .pointer (some ⟨pb, 0, none⟩) := hB 1 rfl
   have y0_ := below_cell h.b p0
   have y1_ := below_cell h.b p1
   clear hA hB hp hu hdf
   go_simp
   exact ⟨_, rfl, { h with f0 := (fun _ => rfl) }⟩
  ·intro done v W A h hd hp hu hA hB hdf
   have e0 : A.tmps[2]?.getD undef = .pointer (some ⟨kb, 0, none⟩) := hB 2 rfl
   have y0_ := below_cell h.b k0
   clear hA hB hp hu hdf
   go_simp
   exact ⟨_, rfl, { h with f1 := (fun _ => rfl) }⟩
  ·intro done v W A h hd hp hu hA hB hdf
   have e0 : A.tmps[1]?.getD undef = .pointer (some ⟨pb, 0, none⟩) := hB 1 rfl
   clear hA hB hp hu hdf
   go_simp
   exact ⟨_, rfl, { h with f2 := (fun _ => rfl) }⟩
  ·intro done v W A h hd hp hu hA hB hdf
   have hd2 : done 2 = true := hp 2 rfl
   have e0 := (hA 2 11 rfl hd2).trans (h.f2 hd2)
   have y0_ := below_cell h.b p1
   clear hA hB hp hu hdf
   go_simp
   exact ⟨_, rfl, { h with f3 := (fun _ => rfl) }⟩
  ·intro done v W A h hd hp hu hA hB hdf
   have e0 : A.tmps[4]?.getD undef = .pointer (some ⟨w.heap.size, 0, none⟩) := hB 4 rfl
   clear hA hB hp hu hdf
   go_simp
   exact ⟨_, rfl, { h with f4 := (fun _ => rfl) }⟩
  ·intro done v W A h hd hp hu hA hB hdf
   have hd4 : done 4 = true := hp 4 rfl
   have e0 := (hA 4 13 rfl hd4).trans (h.f4 hd4)
   have y0_ := below_cell h.b x1
   clear hA hB hp hu hdf
   go_simp
   exact ⟨_, rfl, { h with f5 := (fun _ => rfl) }⟩
  ·intro done v W A h hd hp hu hA hB hdf
   have hd3 : done 3 = true := hp 3 rfl
   have hd5 : done 5 = true := hp 5 rfl
   have e0 := (hA 3 12 rfl hd3).trans (h.f3 hd3)
   have e1 := (hA 5 14 rfl hd5).trans (h.f5 hd5)
   clear hA hB hp hu hdf
   go_simp
   exact ⟨_, rfl, { h with f6 := (fun _ => rfl) }⟩
  ·intro done v W A h hd hp hu hA hB hdf
   have hd6 : done 6 = true := hp 6 rfl
   have e0 := (hA 6 15 rfl hd6).trans (h.f6 hd6)
   have y0_ := below_cell h.b qo
   clear hA hB hp hu hdf
   go_simp
   exact ⟨_, rfl, { h with f7 := (fun _ => rfl) }⟩
  ·intro done v W A h hd hp hu hA hB hdf
   have hd1 : done 1 = true := hp 1 rfl
   have hd7 : done 7 = true := hp 7 rfl
   have e0 := (hA 1 10 rfl hd1).trans (h.f1 hd1)
   have e1 := (hA 7 16 rfl hd7).trans (h.f7 hd7)
   clear hA hB hp hu hdf
   go_simp
   exact ⟨_, rfl, { h with f8 := (fun _ => rfl) }⟩
  ·intro done v W A h hd hp hu hA hB hdf
   have hd8 : done 8 = true := hp 8 rfl
   have e0 := (hA 8 17 rfl hd8).trans (h.f8 hd8)
   have y0_ := below_cell h.b qk
   clear hA hB hp hu hdf
   go_simp
   exact ⟨_, rfl, { h with f9 := (fun _ => rfl) }⟩
  ·intro done v W A h hd hp hu hA hB hdf
   have e0 : A.tmps[3]?.getD undef = .pointer (some ⟨db, 0, none⟩) := hB 3 rfl
   have y0_ := below_cell h.b d0
   have y1_ := below_cell h.b d1
   have y2_ := below_cell h.b d2
   clear hA hB hp hu hdf
   go_simp
   exact ⟨_, rfl, { h with f10 := (fun _ => rfl) }⟩
  ·intro done v W A h hd hp hu hA hB hdf
   have e0 : A.tmps[4]?.getD undef = .pointer (some ⟨w.heap.size, 0, none⟩) := hB 4 rfl
   have y0_ := below_cell h.b x0
   have y1_ := below_cell h.b x1
   have y2_ := below_cell h.b x2
   have y3_ := below_cell h.b x3
   have y4_ := below_cell h.b x4
   clear hA hB hp hu hdf
   go_simp
   exact ⟨_, rfl, { h with f11 := (fun _ => rfl) }⟩
  ·intro done v W A h hd hp hu hA hB hdf
   have hd0 : done 0 = true := hp 0 rfl
   have hd9 : done 9 = true := hp 9 rfl
   have hd10 : done 10 = true := hp 10 rfl
   have hd11 : done 11 = true := hp 11 rfl
   have e0 := (hA 0 9 rfl hd0).trans (h.f0 hd0)
   have e1 := (hA 9 18 rfl hd9).trans (h.f9 hd9)
   have e2 := (hA 10 19 rfl hd10).trans (h.f10 hd10)
   have e3 := (hA 11 20 rfl hd11).trans (h.f11 hd11)
   clear hA hB hp hu hdf
   go_simp
   with_reducible refine (HST.out W (HG.out.below h.b) (HR.out.below h.b) (HO.out.below h.b) (HC.out.below h.b) (HP.out.below h.b)).mono ?_
   rintro e wq ⟨rfl, hb⟩
   exact ⟨_, rfl, { h with b := h.b.trans (hb.mono h.b.size), f12 := (fun _ => rfl) }⟩
  ·intro done v W A h hd hp hu hA hB hdf
   have hd12 : done 12 = true := hp 12 rfl
   have e0 := (hA 12 21 rfl hd12).trans (h.f12 hd12)
   clear hA hB hp hu hdf
   go_simp
   exact ⟨_, rfl, { h with f13 := (fun _ => rfl) }⟩
  ·intro done v W A h hd hp hu hA hB hdf
   have hd13 : done 13 = true := hp 13 rfl
   have e0 := (hA 13 8 rfl hd13).trans (h.f13 hd13)
   clear hA hB hp hu hdf
   go_simp
   exact ⟨_, rfl, { h with f14 := (fun _ => rfl) }⟩
  ·intro done v W A h hd hp hu hA hB hdf
   have hd13 : done 13 = true := hp 13 rfl
   have e0 := (hA 13 8 rfl hd13).trans (h.f13 hd13)
   clear hA hB hp hu hdf
   go_simp
   exact ⟨_, rfl, { h with f15 := (fun _ => rfl) }⟩
  ·intro done v W A h hd hp hu hA hB hdf
   have hd14 : done 14 = true := hp 14 rfl
   have e0 := (hA 14 22 rfl hd14).trans (h.f14 hd14)
   clear hA hB hp hu hdf
   go_simp
   exact ⟨_, rfl, { h with f16 := (fun _ => rfl) }⟩
  ·intro done v W A h hd hp hu hA hB hdf
   have hd15 : done 15 = true := hp 15 rfl
   have e0 := (hA 15 23 rfl hd15).trans (h.f15 hd15)
   clear hA hB hp hu hdf
   go_simp
   exact ⟨_, rfl, { h with f17 := (fun _ => rfl) }⟩
 simp only [putL, Act.put, Nat.reduceAdd, List.setIfInBounds_toArray, List.set_cons_zero, List.set_cons_succ]
 rw [h.f16 rfl]
 rw [h.f17 rfl]
 have hbr := h.b
 have HB1 := Lib.hid (HB.out.trans (hbr.mono HB.out.size))
 clear h hbr
 by_cases hq : q = 0
 ·have z0 : (q == 0) = true := beq_iff_eq.2 hq
  rw [z0, Bool.true_and] at HV
  go_wp2_with fail
  go_ret
  exact ⟨ret_bool HV.out.symm, HB1.out⟩
 ·have z0 : (q == 0) = false := beq_eq_false_iff_ne.2 hq
  rw [z0, Bool.false_and] at HV
  go_wp2_with fail
  go_ret
  exact ⟨ret_bool HV.out.symm, HB1.out⟩
end Go.Proofs.YtggnipkfliompaaGreatDoor
