/- The reference of package linear: what its small functions compute. The reference of package linear: Check, Error, Few. The reference of package linear: rows less multiples of rows, and products. The reference's reduction: tables whose rows are lists that are read. The reference's reduction: the walk. -/
import Derived.Test.YtnbkbnbmmkfckaaGreatMLinJ
import Derived.IntWalk
import Derived.Maps.AppendAt
namespace Go.Proofs.YtnbkbnbmmkfckaaGreat
open Go.RowKit

theorem below_drewN {B : Nat} {a w : World} (h : Below B a w) (n : Nat) : Below B a (w.drewN n) := ⟨h.os, h.tape, h.output, h.size, h.block⟩
theorem any_no {l : List Int} (h : ∀ z ∈ l, oddQ z = false) : l.any oddQ = false := by
  rw [List.any_eq_false]; intro z hz; rw [h z hz]; simp
theorem any_yes {l : List Int} {k : Nat} (hk : k < l.length) (h : oddQ l[k] = true) : l.any oddQ = true := List.any_eq_true.2 ⟨_, List.getElem_mem hk, h⟩

set_option maxRecDepth 100000 in
set_option maxHeartbeats 1000000 in
theorem Numbers_any (v : Value) (zs : List Int) (w : World) (hI : Ints w v zs) :
    Calls Tryz.prog 117 #[v] w fun e w' => e = .returned (.bool (!zs.any oddQ)) ∧ w = w' := by
  obtain ⟨a, cap', rfl, hcap, hlen, hr, hk⟩ := hI
  go_enter Tryz.func117, Tryz.ntmps117
  go_wp2
  go_loop [3] (fun i => ∃ k : Nat, k ≤ zs.length ∧ i = .int .i64 k ∧ Hid (∀ z ∈ zs.take k, oddQ z = false)) (fun i => zs.length - (intOf i).toNat)
  case atStart => exact ⟨0, Nat.zero_le _, rfl, Lib.hid (by simp)⟩
  case round =>
    obtain ⟨k, hkl, rfl, HP⟩ := hrel
    by_cases hlt : k < zs.length
    · obtain ⟨b, off, rfl, hc⟩ := hk k hlt
      clear hk hr
      by_cases h1 : zs[k] < 0
      · have HQ := Lib.hid (any_yes hlt (show oddQ zs[k] = true by simp [oddQ, h1]))
        go_wp2_with fail
        go_ret
        exact ⟨ret_bool (by rw [HQ.out]; rfl), rfl⟩
      · by_cases h2 : 1073741789 ≤ zs[k]
        · have HQ := Lib.hid (any_yes hlt (show oddQ zs[k] = true by simp [oddQ, h2]))
          go_wp2_with fail
          go_ret
          exact ⟨ret_bool (by rw [HQ.out]; rfl), rfl⟩
        · have HN := Lib.hid (take_all hlt HP.out (show oddQ zs[k] = false by simp [oddQ]; omega))
          go_wp2_with fail
          go_round
          case rel => exact ⟨k + 1, by omega, by go_num, HN⟩
          case measure => simp [intOf]; omega
    · have HQ := Lib.hid (any_no (take_whole hlt HP.out))
      go_wp2_with fail
      go_ret
      exact ⟨ret_bool (by rw [HQ.out]; rfl), rfl⟩

/-- Are two lists equal? -/
def sameQ (a b : List Int) : Bool := decide (a = b)

theorem sameQ_len {a b : List Int} (h : a.length ≠ b.length) : sameQ a b = false := decide_eq_false fun e => h (by rw [e])
theorem sameQ_at {a b : List Int} {k : Nat} (h1 : k < a.length) (h2 : k < b.length) (h : a[k] ≠ b[k]) : sameQ a b = false := decide_eq_false fun e => h (by subst e; rfl)
theorem sameQ_all {a b : List Int} (h : a.length = b.length) (h1 : ∀ k (h1 : k < a.length) (h2 : k < b.length), a[k] = b[k]) : sameQ a b = true := decide_eq_true (List.ext_getElem h h1)

end Go.Proofs.YtnbkbnbmmkfckaaGreat

namespace Go.Proofs.YtnbkbnbmmkfckaaGreat
open Go.RowKit

theorem Ints.drewN {w : World} {v : Value} {zs : List Int} (h : Ints w v zs) (n : Nat) : Ints (w.drewN n) v zs := h.below (below_drewN (Below.refl _ _) n)
theorem Rows2.drewN {w : World} {v : Value} {rows : List (List Int)} (h : Rows2 w v rows) (n : Nat) : Rows2 (w.drewN n) v rows := h.below (below_drewN (Below.refl _ _) n)

set_option maxRecDepth 100000 in
theorem Numbers_is (v : Value) (zs : List Int) (b : Bool) (w : World) (hI : Ints w v zs) (hb : (!zs.any oddQ) = b) :
    Calls Tryz.prog 117 #[v] w fun e w' => e = .returned (.bool b) ∧ w' = w :=
  (Numbers_any v zs w hI).mono fun _ _ ⟨h, e⟩ => ⟨h.trans (by rw [hb]), e.symm⟩

set_option maxRecDepth 100000 in
set_option maxHeartbeats 2000000 in
theorem rCheck_any (v : Value) (rows : List (List Int)) (w : World) (hI : Rows2 w v rows) :
    Calls Tryz.prog 116 #[v] w fun e w' => e = .returned (.int .i64 (checkErr rows)) ∧ Below w.heap.size w w' := by
  have hI0 := hI
  obtain ⟨a, cap, rfl, hcap, hlen, hk⟩ := hI
  by_cases hm : rows.length ≤ 64
  · have HC := Lib.hid (checkErr_few hm)
    have hm' : decide ((64 : Int) < (rows.length : Int)) = false := decide_eq_false (by omega)
    clear hm
    go_enter Tryz.func116, Tryz.ntmps116
    go_wp2_with fail
    go_loop [3] (fun i => ∃ k : Nat, k ≤ rows.length ∧ i = .int .i64 k ∧ Hid (∀ r ∈ rows.take k, r.length ≤ 64)) (fun i => rows.length - (intOf i).toNat)
    case atStart => exact ⟨0, Nat.zero_le _, rfl, Lib.hid (by simp)⟩
    case round =>
      obtain ⟨k, hkl, rfl, HP⟩ := hrel
      by_cases hlt : k < rows.length
      · obtain ⟨b, off, r, rfl, hc, hr⟩ := hk k hlt
        obtain ⟨a', cap', rfl, k1, k2, k3, k4⟩ := hr
        clear hk k3 k4
        by_cases h64 : rows[k].length ≤ 64
        · have HN := Lib.hid (take_all hlt HP.out h64)
          have h64' : decide ((64 : Int) < (rows[k].length : Int)) = false := decide_eq_false (by omega)
          go_wp2_with fail
          go_round
          case rel => exact ⟨k + 1, by omega, by go_num, HN⟩
          case measure => simp [intOf]; omega
        · have HN := Lib.hid (kindErr_long rows k hlt (by omega))
          have h64' : decide ((64 : Int) < (rows[k].length : Int)) = true := decide_eq_true (by omega)
          go_wp2_with fail
          go_ret
          exact ⟨ret_int (by rw [HC.out, HN.out]), Below.refl _ _⟩
      · have HS := Lib.hid (take_whole hlt HP.out)
        obtain rfl : k = rows.length := by omega
        clear HP
        go_wp2_with fail
        go_loopw [4] (fun i wr => ∃ k : Nat, k ≤ rows.length ∧ i = .int .i64 k ∧ Hid (∀ r ∈ rows.take k, rowOk (wide rows) r = true) ∧ Below w.heap.size w wr) (fun i _ => rows.length - (intOf i).toNat)
        case atStart => exact ⟨0, Nat.zero_le _, rfl, Lib.hid (by simp), Below.refl _ _⟩
        case round =>
          obtain ⟨k, hkl, rfl, HP, hb⟩ := hrel
          by_cases hlt : k < rows.length
          · obtain ⟨b, off, r, rfl, hc, hr⟩ := hk k hlt
            have hrI := hr.below hb
            obtain ⟨a', cap', rfl, k1, k2, k3, k4⟩ := hr
            obtain ⟨b0, off0, r0, e0, hc0, hr0⟩ := hk 0 (by omega)
            obtain ⟨rfl, rfl⟩ : b = b0 ∧ off = off0 := by cases e0; exact ⟨rfl, rfl⟩
            obtain ⟨a0, cap0, rfl, m1, m2, m3, m4⟩ := hr0
            have hw0 := wide_at rows (by omega)
            rw [hw0] at hc0 m1 m2
            have hc := below_cell hb hc
            have hc0 := below_cell hb hc0
            rw [Nat.add_zero] at hc0
            have i1 : (0 : Int) ≤ (k : Int) := by omega
            have i2 : (k : Int) < (rows.length : Int) := by omega
            have i3 : (0 : Int) < (rows.length : Int) := by omega
            clear hk k3 k4 m3 m4 e0 hw0
            by_cases hl : rows[k].length = wide rows
            · rw [hl] at hc hrI k1 k2
              have hn : ((wide rows : Int) != (wide rows : Int)) = false := by simp
              by_cases ho : rows[k].any oddQ = true
              · have HN := Lib.hid (kindErr_bad rows HS.out k hlt (by simp [rowOk, ho]))
                have HO := Lib.hid (show (!rows[k].any oddQ) = false by rw [ho]; rfl)
                clear ho hl
                go_wp2_with fail
                go_quiet ((go_at_call 117; exact Calls.quiet_of_same (Numbers_is _ rows[k] _ _ (hrI.drewN _) HO.out)))
                go_wp2_with fail
                go_ret
                exact ⟨ret_int (by rw [HC.out, HN.out]), below_drewN hb _⟩
              · have HN := Lib.hid (take_all hlt HP.out (show rowOk (wide rows) rows[k] = true by simp only [rowOk, hl]; simpa using ho))
                have HO := Lib.hid (show (!rows[k].any oddQ) = true by simpa using ho)
                clear ho hl
                go_wp2_with fail
                go_quiet ((go_at_call 117; exact Calls.quiet_of_same (Numbers_is _ rows[k] _ _ (hrI.drewN _) HO.out)))
                go_wp2_with fail
                go_roundw
                case rel => exact ⟨k + 1, by omega, by go_num, HN, below_drewN hb _⟩
                case measure => simp [intOf]; omega
            · have HN := Lib.hid (kindErr_bad rows HS.out k hlt (by simp [rowOk, hl]))
              have hn : ((rows[k].length : Int) != (wide rows : Int)) = true := by rw [bne_iff_ne]; omega
              clear hl
              go_wp2_with fail
              go_quiet (fail)
              go_wp2_with fail
              go_ret
              exact ⟨ret_int (by rw [HC.out, HN.out]), below_drewN hb _⟩
          · have HN := Lib.hid (kindErr_ok rows HS.out (take_whole hlt HP.out))
            go_wp2_with fail
            go_ret
            exact ⟨ret_int (by rw [HC.out, HN.out]), hb⟩
  · have HC := Lib.hid (checkErr_many (rows := rows) (by omega))
    have hm' : decide ((64 : Int) < (rows.length : Int)) = true := decide_eq_true (by omega)
    go_enter Tryz.func116, Tryz.ntmps116
    go_wp2_with fail
    go_ret
    exact ⟨ret_int HC.out.symm, Below.refl _ _⟩

theorem kind1_ok {t : List Int} (h1 : t.length ≤ 64) (h2 : t.any oddQ = false) : kindErr [t] = 0 :=
  kindErr_ok [t] (by simpa using h1) (by intro r hr; rw [List.mem_singleton.1 hr]; simp only [rowOk, h2]; simp [wide])
theorem kind1_long {t : List Int} (h1 : 64 < t.length) : kindErr [t] = 2 := kindErr_long [t] 0 (by simp) (by simpa using h1)
theorem kind1_odd {t : List Int} (h1 : t.length ≤ 64) (h2 : t.any oddQ = true) : kindErr [t] = 130 :=
  kindErr_bad [t] (by simpa using h1) 0 (by simp) (by simp [rowOk, h2])

set_option maxRecDepth 100000 in
set_option maxHeartbeats 2000000 in
theorem rError_any (v u : Value) (rows : List (List Int)) (t : List Int) (w : World) (hI : Rows2 w v rows) (hU : Ints w u t) :
    Calls Tryz.prog 107 #[v, u] w fun e w' => e = .returned (.int .i64 (examErr rows t)) ∧ Below w.heap.size w w' := by
  have hI0 := hI
  have hU0 := hU
  obtain ⟨a, cap, rfl, hcap, hlen, hk⟩ := hI
  obtain ⟨a2, cap2, rfl, hcap2, hlen2, -⟩ := hU
  by_cases h0 : checkErr rows = 0
  · have H0 := Lib.hid h0
    by_cases h64 : 64 < t.length
    · have HC := Lib.hid (show examErr rows t = 2 by rw [examErr_kind h0 (by rw [kind1_long h64]; decide), kind1_long h64])
      have h64' : decide ((64 : Int) < (t.length : Int)) = true := decide_eq_true (by omega)
      clear h0
      go_enter Tryz.func107, Tryz.ntmps107
      go_wp2_with fail
      with_reducible refine (rCheck_any _ rows _ hI0).mono ?_
      rintro e w1 ⟨rfl, hb⟩
      rw [H0.out]
      go_wp2_with fail
      go_ret
      exact ⟨ret_int HC.out.symm, hb⟩
    · have h64' : decide ((64 : Int) < (t.length : Int)) = false := decide_eq_false (by omega)
      by_cases ho : t.any oddQ = true
      · have HC := Lib.hid (show examErr rows t = 130 by rw [examErr_kind h0 (by rw [kind1_odd (by omega) ho]; decide), kind1_odd (by omega) ho])
        have HO := Lib.hid (show (!t.any oddQ) = false by rw [ho]; rfl)
        clear h0 ho
        go_enter Tryz.func107, Tryz.ntmps107
        go_wp2_with fail
        with_reducible refine (rCheck_any _ rows _ hI0).mono ?_
        rintro e w1 ⟨rfl, hb⟩
        rw [H0.out]
        go_wp2_with fail
        with_reducible refine (Numbers_is _ t _ _ (hU0.below hb) HO.out).mono ?_
        rintro e w' ⟨rfl, rfl⟩
        go_wp2_with fail
        go_ret
        exact ⟨ret_int HC.out.symm, hb⟩
      · have HO := Lib.hid (show (!t.any oddQ) = true by simpa using ho)
        have hk1 := kind1_ok (t := t) (by omega) (by simpa using ho)
        by_cases hn : rows.length = 0
        · have HC := Lib.hid (examErr_ok (rows := rows) h0 hk1 (.inl hn))
          obtain rfl : rows = [] := List.length_eq_zero_iff.1 hn
          have hI1 : Rows2 w (.slice a 0 cap) [] := hI0
          clear h0 ho hn hk1
          go_enter Tryz.func107, Tryz.ntmps107
          go_wp2_with fail
          with_reducible refine (rCheck_any _ [] _ hI1).mono ?_
          rintro e w1 ⟨rfl, hb⟩
          rw [H0.out]
          go_wp2_with fail
          with_reducible refine (Numbers_is _ t _ _ (hU0.below hb) HO.out).mono ?_
          rintro e w' ⟨rfl, rfl⟩
          go_wp2_with fail
          go_ret
          exact ⟨ret_int HC.out.symm, hb⟩
        · have hnI : decide ((0 : Int) < (rows.length : Int)) = true := decide_eq_true (by omega)
          have hn0 : 0 < rows.length := by omega
          obtain ⟨b0, off0, r0, rfl, hc0, hr0⟩ := hk 0 hn0
          obtain ⟨a0, cap0, rfl, m1, m2, m3, m4⟩ := hr0
          rw [wide_at rows hn0] at hc0 m1 m2
          rw [Nat.add_zero] at hc0
          have i1 : (0 : Int) < (rows.length : Int) := by omega
          by_cases hw : wide rows = t.length
          · have HC := Lib.hid (examErr_ok (rows := rows) h0 hk1 (.inr hw))
            have hq : ((t.length : Int) != (wide rows : Int)) = false := by rw [hw]; simp
            clear h0 ho hn hk1 m3 m4 hk hw
            go_enter Tryz.func107, Tryz.ntmps107
            go_wp2_with fail
            with_reducible refine (rCheck_any _ rows _ hI0).mono ?_
            rintro e w1 ⟨rfl, hb⟩
            rw [H0.out]
            go_wp2_with fail
            with_reducible refine (Numbers_is _ t _ _ (hU0.below hb) HO.out).mono ?_
            rintro e w' ⟨rfl, rfl⟩
            have hc1 := below_cell hb hc0
            go_wp2_with fail
            go_ret
            exact ⟨ret_int HC.out.symm, hb⟩
          · have HC := Lib.hid (examErr_bad (rows := rows) h0 hk1 (by rintro (h | h); exact hn h; exact hw h))
            have hq : ((t.length : Int) != (wide rows : Int)) = true := by rw [bne_iff_ne]; omega
            clear h0 ho hn hk1 m3 m4 hk hw
            go_enter Tryz.func107, Tryz.ntmps107
            go_wp2_with fail
            with_reducible refine (rCheck_any _ rows _ hI0).mono ?_
            rintro e w1 ⟨rfl, hb⟩
            rw [H0.out]
            go_wp2_with fail
            with_reducible refine (Numbers_is _ t _ _ (hU0.below hb) HO.out).mono ?_
            rintro e w' ⟨rfl, rfl⟩
            have hc1 := below_cell hb hc0
            go_wp2_with fail
            go_ret
            exact ⟨ret_int HC.out.symm, hb⟩
  · have HC := Lib.hid (examErr_check (t := t) h0)
    have hC : (checkErr rows != 0) = true := by simpa using h0
    have HC2 := Lib.hid hC
    clear h0 hC
    go_enter Tryz.func107, Tryz.ntmps107
    go_wp2_with fail
    with_reducible refine (rCheck_any _ rows _ hI0).mono ?_
    rintro e w1 ⟨rfl, hb⟩
    have hC := HC2.out
    go_wp2_with fail
    go_ret
    exact ⟨ret_int HC.out.symm, hb⟩

end Go.Proofs.YtnbkbnbmmkfckaaGreat

namespace Go.Proofs.YtnbkbnbmmkfckaaGreat
open Go.RowKit

/-- The element of a list, or 0. -/
def nth (l : List Int) (i : Nat) : Int := l[i]?.getD 0
theorem nth_at {l : List Int} {i : Nat} (h : i < l.length) : nth l i = l[i] := by unfold nth; rw [List.getElem?_eq_getElem h]; rfl
/-- A row less a multiple of another one. -/
def lessF (a b : List Int) (n : Int) : Nat → Int := fun i => (nth a i + -(n * nth b i % 1073741789)) % 1073741789
def lessQ (a b : List Int) (n : Int) : List Int := (List.range a.length).map (lessF a b n)
/-- The first K elements of a function, 0 behind. -/
def upTo (f : Nat → Int) (K : Nat) : Nat → Int := fun i => if i < K then f i else 0
theorem upTo_0 (f : Nat → Int) : upTo f 0 = fun _ => 0 := by funext i; unfold upTo; rw [if_neg (by omega)]
theorem upTo_s (f : Nat → Int) (K : Nat) : upTo f (K + 1) = fun i => if i = K then f K else upTo f K i := by
  funext i; unfold upTo
  by_cases e : i = K
  · rw [if_pos (by omega), if_pos e, e]
  · rw [if_neg e]
    by_cases h : i < K
    · rw [if_pos (by omega), if_pos h]
    · rw [if_neg (by omega), if_neg h]
theorem upTo_list (f : Nat → Int) (K : Nat) : (List.range K).map (upTo f K) = (List.range K).map f :=
  List.map_congr_left fun i hi => by unfold upTo; rw [if_pos (by simpa using hi)]

theorem Ints.get {w : World} {v : Value} {zs : List Int} (h : Ints w v zs) {k : Nat} (hk : k < zs.length) : R64 (nth zs k) ∧ ∃ b off n c, v = .slice (some ⟨b, off, none⟩) n c ∧ w.cell? ⟨b, off + k, none⟩ = some (.int .i64 (nth zs k)) := by
  obtain ⟨a, cap, rfl, h1, h2, h3, h4⟩ := h
  obtain ⟨b, off, rfl, hc⟩ := h4 k hk
  rw [nth_at hk]
  exact ⟨h3 _ (List.getElem_mem hk), b, off, _, _, rfl, hc⟩

set_option maxRecDepth 100000 in
set_option maxHeartbeats 4000000 in
theorem less_any (v u : Value) (a b : List Int) (n : Int) (w : World) (hI : Ints w v a) (hJ : Ints w u b) (hl : a.length ≤ b.length) (hn : R64 n) (hm : a.length ≤ 1000000) :
    Calls Tryz.prog 120 #[v, u, .int .i64 n] w fun e w' => e = .returned (.slice (some ⟨w.heap.size, 0, none⟩) a.length a.length) ∧ IBlk w' w.heap.size a.length (lessF a b n) ∧ Ints w' (.slice (some ⟨w.heap.size, 0, none⟩) a.length a.length) (lessQ a b n) ∧ Below w.heap.size w w' ∧ w.heap.size < w'.heap.size := by
  have HA := Lib.hid (fun k (hk : k < a.length) => hI.get hk)
  have HB := Lib.hid (fun k (hk : k < b.length) => hJ.get hk)
  obtain ⟨pa, ca, rfl, ha1, ha2, -, -⟩ := hI
  obtain ⟨pb, cb, rfl, hb1, hb2, -, -⟩ := hJ
  obtain ⟨H, hH⟩ : ∃ H, H = w.heap.size := ⟨_, rfl⟩
  have hmk := run_ints a.length hm
  go_enter Tryz.func120, Tryz.ntmps120
  go_wp2_with fail
  obtain ⟨W1, hW1⟩ : ∃ W1, w.alloc (.cells (madeCells #[.int .i64 0] a.length) 3) = W1 := ⟨_, rfl⟩
  have hI1 : IBlk W1 H a.length (upTo (lessF a b n) 0) := by rw [← hW1, hH, upTo_0]; exact IBlk.made _ _ _
  have hb1' : Below H w W1 := by rw [← hW1, hH]; exact (Below.refl _ _).alloc (Nat.le_refl _) _
  have hs1 : H < W1.heap.size := by rw [← hW1, hH]; simp
  rw [hW1, ← hH]
  have HH := Lib.hid hH
  clear hH hW1 hmk
  go_loopw [8] (fun i wr => ∃ k : Nat, k ≤ a.length ∧ i = .int .i64 k ∧ IBlk wr H a.length (upTo (lessF a b n) k) ∧ Below H w wr ∧ H < wr.heap.size) (fun i _ => a.length - (intOf i).toNat)
  case atStart => exact ⟨0, Nat.zero_le _, rfl, hI1, hb1', hs1⟩
  case round =>
    obtain ⟨k, hkl, rfl, hIk, hb, hs⟩ := hrel
    by_cases hlt : k < a.length
    · obtain ⟨hra, ba, oa, _, _, e1, hca⟩ := HA.out k hlt
      cases e1
      obtain ⟨hrb, bb, ob, _, _, e2, hcb⟩ := HB.out k (by omega)
      cases e2
      have hba : ba < H := by rw [HH.out]; exact lt_of_cell hca
      have hbb : bb < H := by rw [HH.out]; exact lt_of_cell hcb
      have hca : wr.cell? ⟨ba, oa + k, none⟩ = some (.int .i64 (nth a k)) := by rw [hb.cell (p := ⟨ba, oa + k, none⟩) hba]; exact hca
      have hcb : wr.cell? ⟨bb, ob + k, none⟩ = some (.int .i64 (nth b k)) := by rw [hb.cell (p := ⟨bb, ob + k, none⟩) hbb]; exact hcb
      have HF := Lib.hid (show lessF a b n k = (nth a k + -(n * nth b k % 1073741789)) % 1073741789 from rfl)
      have HU := Lib.hid (upTo_s (lessF a b n) k)
      obtain ⟨x, hx⟩ : ∃ x, x = nth a k := ⟨_, rfl⟩
      obtain ⟨y, hy⟩ : ∃ y, y = nth b k := ⟨_, rfl⟩
      rw [← hx] at hra hca HF
      rw [← hy] at hrb hcb HF
      have hyc := hIk.cell k hlt
      have hyf := hIk.fro k hlt
      have i1 : (0 : Int) ≤ (k : Int) := by omega
      have i2 : (k : Int) < (a.length : Int) := by omega
      have i3 : (k : Int) < (b.length : Int) := by omega
      have hm0 := mod_num (n * y)
      have hneg : R64 (-(n * y % 1073741789)) := by unfold R64; omega
      obtain ⟨z, hz⟩ : ∃ z, z = upTo (lessF a b n) k k := ⟨_, rfl⟩
      rw [← hz] at hyc
      clear hx hy hz
      go_wp2_with fail
      have hsx : ∀ v, (wr.setCell ⟨H, k, none⟩ v).drew.cell? ⟨ba, oa + k, none⟩ = some (.int .i64 x) := fun v => (set_other (W := wr) (u := v) (.inl (by omega))).trans hca
      have hsy : ∀ v, (wr.setCell ⟨H, k, none⟩ v).drew.cell? ⟨bb, ob + k, none⟩ = some (.int .i64 y) := fun v => (set_other (W := wr) (u := v) (.inl (by omega))).trans hcb
      have hwr : IntKind.i64.wrap (-(n * y % 1073741789)) = -(n * y % 1073741789) := IntWalk.i64_in _ (by omega)
      go_region_held3 (fun w' => w'.cell? ⟨ba, oa + k, none⟩ = some (.int .i64 x) ∧ w'.cell? ⟨bb, ob + k, none⟩ = some (.int .i64 y)) (first | go_keep | exact ⟨hsx _, hsy _⟩)
        (first
          | (go_at_call 92; with_reducible refine (rmul_any n y _ hn hrb).mono ?_; rintro e w6 ⟨rfl, rfl⟩)
          | (go_at_call 37; with_reducible refine (radd_any x (-(n * y % 1073741789)) _ hra hneg).mono ?_; rintro e w6 ⟨rfl, rfl⟩))
      clear hwr
      go_wp2_with fail
      have hI' := hIk.set (k := k) ((x + -(n * y % 1073741789)) % 1073741789)
      rw [← HF.out, ← HU.out] at hI'
      rw [HF.out] at hI'
      go_roundw
      case rel => exact ⟨k + 1, by omega, by go_num, ⟨hI'.cell, hI'.fro⟩, (hb.setCell (Nat.le_refl _) _).drew, by simp [World.setCell]; exact hs⟩
      case measure => simp [intOf]; omega
    · obtain rfl : k = a.length := by omega
      have hI' := hIk.ints (Nat.le_refl _) ha2 (fun i hi => by unfold upTo; rw [if_pos hi]; exact mod_r64 _)
      rw [upTo_list] at hI'
      go_wp2_with fail
      go_ret
      rw [← HH.out]
      refine ⟨rfl, ⟨fun i hi => by rw [hIk.cell i hi]; unfold upTo; rw [if_pos hi], hIk.fro⟩, hI', hb, hs⟩

/-- A row times a number. -/
def timesQ (a : List Int) (n : Int) : List Int := (List.range a.length).map fun i => n * nth a i % 1073741789
theorem zeros_len (k : Nat) : ((List.range k).map fun _ => (0 : Int)).length = k := by simp
theorem nth_zeros (k i : Nat) : nth ((List.range k).map fun _ => (0 : Int)) i = 0 := by
  unfold nth
  by_cases h : i < k
  · simp [h]
  · rw [List.getElem?_eq_none (by simpa using h)]; rfl
theorem less_zeros (a : List Int) (n : Int) : lessQ ((List.range a.length).map fun _ => (0 : Int)) a (-n) = timesQ a n := by
  unfold lessQ timesQ
  rw [zeros_len]
  refine List.map_congr_left fun i _ => ?_
  unfold lessF
  rw [nth_zeros, Int.neg_mul]; omega

set_option maxRecDepth 100000 in
set_option maxHeartbeats 4000000 in
theorem times_any (v : Value) (a : List Int) (n : Int) (w : World) (hI : Ints w v a) (hn : 0 ≤ n ∧ n < 1073741789) (hm : a.length ≤ 1000000) :
    Calls Tryz.prog 119 #[v, .int .i64 n] w fun e w' => (∃ b, e = .returned (.slice (some ⟨b, 0, none⟩) a.length a.length) ∧ w.heap.size < b ∧ Ints w' (.slice (some ⟨b, 0, none⟩) a.length a.length) (timesQ a n)) ∧ Below w.heap.size w w' := by
  have hI0 := hI
  obtain ⟨pa, ca, rfl, ha1, ha2, -, -⟩ := hI
  have HZ := Lib.hid (less_zeros a n)
  have hmk := run_ints a.length hm
  have hneg : R64 (-n) := by unfold R64; omega
  go_enter Tryz.func119, Tryz.ntmps119
  go_wp2_with fail
  obtain ⟨W1, hW1⟩ : ∃ W1, w.alloc (.cells (madeCells #[.int .i64 0] a.length) 3) = W1 := ⟨_, rfl⟩
  have hI1 : Ints W1 (.slice (some ⟨w.heap.size, 0, none⟩) a.length a.length) ((List.range a.length).map fun _ => (0 : Int)) := by
    rw [← hW1]; exact (IBlk.made _ _ _).ints (Nat.le_refl _) ha2 (fun _ _ => by unfold R64; omega)
  have hb1 : Below w.heap.size w W1 := by rw [← hW1]; exact (Below.refl _ _).alloc (Nat.le_refl _) _
  have hs1 : W1.heap.size = w.heap.size + 1 := by rw [← hW1]; simp
  have HS := Lib.hid hs1
  rw [hW1]
  clear hW1 hmk hs1
  have hz := zeros_len a.length
  have HL := Lib.hid hz
  have hJ1 := hI0.below hb1
  have hc := less_any _ _ _ a (-n) W1 hI1 hJ1 (by rw [hz]; exact Nat.le_refl _) hneg (by rw [hz]; exact hm)
  rw [hz] at hc
  clear hz
  have HC := Lib.hid hc
  clear hc
  with_reducible refine HC.out.mono ?_
  rintro e w2 ⟨rfl, -, hI2, hb2, hs2⟩
  rw [HZ.out] at hI2
  go_wp2_with fail
  go_ret
  refine ⟨⟨_, rfl, by rw [HS.out]; omega, hI2⟩, hb1.trans (hb2.mono (by rw [HS.out]; omega))⟩

/-- The product of two lists, after K elements. -/
def prodF (a b : List Int) : Nat → Int
  | 0 => 0
  | k + 1 => (prodF a b k + nth a k * nth b k % 1073741789) % 1073741789
def prodQ (a b : List Int) : Int := prodF a b a.length
theorem prodF_num (a b : List Int) : ∀ k, 0 ≤ prodF a b k ∧ prodF a b k < 1073741789
  | 0 => by simp [prodF]
  | k + 1 => mod_num _

end Go.Proofs.YtnbkbnbmmkfckaaGreat

namespace Go.Proofs.YtnbkbnbmmkfckaaGreat
open Go.RowKit

/-- The first m elements of a row. -/
def rowM (m : Nat) (f : Nat → Int) : List Int := (List.range m).map f
theorem rowM_len (m : Nat) (f : Nat → Int) : (rowM m f).length = m := by simp [rowM]
theorem nth_rowM {m : Nat} {f : Nat → Int} {i : Nat} (h : i < m) : nth (rowM m f) i = f i := by unfold nth rowM; simp [h]
theorem rowM_congr {m : Nat} {f g : Nat → Int} (h : ∀ j, j < m → f j = g j) : rowM m f = rowM m g := List.map_congr_left fun j hj => h j (by simpa using hj)
theorem rowM_of (l : List Int) : rowM l.length (nth l) = l := by
  apply List.ext_getElem
  · simp [rowM]
  · intro i h1 h2
    simp [rowM, nth_at h2]
theorem less_rowM (m : Nat) (f g : Nat → Int) (n : Int) : lessQ (rowM m f) (rowM m g) n = rowM m fun j => (f j + -(n * g j % 1073741789)) % 1073741789 := by
  unfold lessQ
  rw [rowM_len]
  exact rowM_congr fun j hj => by unfold lessF; rw [nth_rowM hj, nth_rowM hj]
theorem times_rowM (m : Nat) (f : Nat → Int) (n : Int) : timesQ (rowM m f) n = rowM m fun j => n * f j % 1073741789 := by
  unfold timesQ
  rw [rowM_len]
  exact rowM_congr fun j hj => by rw [nth_rowM hj]

/-! The reference's reduction, as a function. -/
def ownR (X : Mat) (c k : Nat) : Nat → Int := fun j => invQ (X k c) * X k j % 1073741789
def putM (X : Mat) (i : Nat) (f : Nat → Int) : Mat := fun i' j => if i' = i then f j else X i' j
def lessA (X : Mat) (f : Nat → Int) (c q : Nat) : Mat := fun i j => if i < q then (X i j + -(X i c * f j % 1073741789)) % 1073741789 else X i j
def pivR (X : Mat) (n r c k : Nat) : Mat := putM (lessA (putM X k (X r)) (ownR X c k) c n) r (ownR X c k)
def stepR (n : Nat) (s : Mat × List Nat) (c : Nat) : Mat × List Nat :=
  if findP s.1 n c s.2.length < n then (pivR s.1 n s.2.length c (findP s.1 n c s.2.length), s.2 ++ [c]) else s
def redR (n : Nat) (X : Mat) (many : Nat) : Mat × List Nat := (List.range many).foldl (stepR n) (X, [])
theorem redR_succ (n : Nat) (x : Mat) (many : Nat) : redR n x (many + 1) = stepR n (redR n x many) many := by
  unfold redR; rw [List.range_succ, List.foldl_append]; rfl
theorem stepR_none {n : Nat} {x : Mat} {piv : List Nat} {c : Nat} (h : findP x n c piv.length = n) : stepR n (x, piv) c = (x, piv) := by
  unfold stepR; rw [if_neg]; show ¬ findP x n c piv.length < n; omega
theorem stepR_some {n : Nat} {x : Mat} {piv : List Nat} {c k : Nat} (h : findP x n c piv.length = k) (hk : k < n) : stepR n (x, piv) c = (pivR x n piv.length c k, piv ++ [c]) := by
  unfold stepR
  have h' : findP (x, piv).1 n c (x, piv).2.length = k := h
  rw [h', if_pos hk]
theorem redR_len (n : Nat) (x : Mat) : ∀ c, (redR n x c).2.length ≤ n
  | 0 => by simp [redR]
  | c + 1 => by
    rw [redR_succ]
    have ih := redR_len n x c
    generalize redR n x c = s at ih
    unfold stepR
    split
    · have := findP_ge s.1 n c s.2.length
      simp; omega
    · exact ih
theorem lessA_step (X : Mat) (f : Nat → Int) (c q : Nat) : lessA X f c (q + 1) = putM (lessA X f c q) q (fun j => (lessA X f c q q j + -(lessA X f c q q c * f j % 1073741789)) % 1073741789) := by
  funext i j
  simp only [lessA, putM]
  by_cases e : i = q
  · subst e; simp
  · rw [if_neg e]
    by_cases h : i < q
    · rw [if_pos (by omega), if_pos h]
    · rw [if_neg (by omega), if_neg h]
theorem lessA_0 (X : Mat) (f : Nat → Int) (c : Nat) : lessA X f c 0 = X := by funext i j; unfold lessA; rw [if_neg (by omega)]

/-! Numbers stay numbers. -/
def NumM (n m : Nat) (X : Mat) : Prop := ∀ i j, i < n → j < m → 0 ≤ X i j ∧ X i j < 1073741789
theorem NumM.put {n m : Nat} {X : Mat} (h : NumM n m X) {i : Nat} {f : Nat → Int} (hf : ∀ j, j < m → 0 ≤ f j ∧ f j < 1073741789) : NumM n m (putM X i f) := fun i' j hi hj => by
  unfold putM; split
  · exact hf j hj
  · exact h i' j hi hj
theorem NumM.less {n m : Nat} {X : Mat} (h : NumM n m X) (f : Nat → Int) (c q : Nat) : NumM n m (lessA X f c q) := fun i j hi hj => by
  unfold lessA; split
  · exact mod_num _
  · exact h i j hi hj
theorem NumM.pivR {n m : Nat} {X : Mat} (h : NumM n m X) {r c k : Nat} (hr : r < n) : NumM n m (pivR X n r c k) :=
  ((h.put fun j hj => h r j hr hj).less _ _ _).put fun _ _ => mod_num _
theorem redR_num {n m : Nat} {X : Mat} (h : NumM n m X) : ∀ c, NumM n m (redR n X c).1
  | 0 => h
  | c + 1 => by
    rw [redR_succ]
    have ih := redR_num h c
    generalize redR n X c = s at ih
    unfold stepR
    split
    · rename_i hk
      exact ih.pivR (Nat.lt_of_le_of_lt (findP_ge s.1 n c s.2.length) hk)
    · exact ih

/-! The table in memory. -/

/-- A store into a cell that holds a slice leaves all slices of integers as they were. -/
theorem Ints.store {W : World} {v : Value} {zs : List Int} (h : Ints W v zs) {b o : Nat} {a : Option Addr} {n c : Nat} (hp : W.cell? ⟨b, o, none⟩ = some (.slice a n c)) (u : Value) : Ints (W.setCell ⟨b, o, none⟩ u) v zs := by
  obtain ⟨p, cap, rfl, h1, h2, h3, h4⟩ := h
  refine ⟨p, cap, rfl, h1, h2, h3, fun k hk => ?_⟩
  obtain ⟨b', off, e, hc⟩ := h4 k hk
  refine ⟨b', off, e, ?_⟩
  by_cases e1 : b = b' ∧ o = off + k
  · obtain ⟨rfl, rfl⟩ := e1
    rw [hp] at hc; cases hc
  · rw [set_other (by
      by_cases e2 : b = b'
      · exact .inr fun e3 => e1 ⟨e2, e3⟩
      · exact .inl e2)]; exact hc

structure RTab (S B0 : Nat) (a : Option Addr) (n m : Nat) (X : Mat) (pv : Value) (W : World) : Prop where
  blk : 0 < n → ∃ B, a = some ⟨B, 0, none⟩ ∧ S ≤ B ∧ B < B0
  row : ∀ i B, a = some ⟨B, 0, none⟩ → i < n → ∃ p c, W.cell? ⟨B, i, none⟩ = some (.slice p m c) ∧ W.frozen? ⟨B, i, none⟩ = false ∧ Ints W (.slice p m c) (rowM m (X i)) ∧ (0 < m → ∀ g, pv.ownBlock = some g → (Value.slice p m c).ownBlock ≠ some g)

theorem RTab.below {S B0 : Nat} {a : Option Addr} {n m : Nat} {X : Mat} {pv : Value} {W W' : World} (h : RTab S B0 a n m X pv W) (hb : Below W.heap.size W W') : RTab S B0 a n m X pv W' :=
  ⟨h.blk, fun i B e hi => by
    obtain ⟨p, c, h1, h2, h3, h4⟩ := h.row i B e hi
    exact ⟨p, c, below_cell hb h1, by rw [hb.frozen (p := ⟨B, i, none⟩) (lt_of_cell h1)]; exact h2, h3.below hb, h4⟩⟩
theorem RTab.drew {S B0 : Nat} {a : Option Addr} {n m : Nat} {X : Mat} {pv : Value} {W : World} (h : RTab S B0 a n m X pv W) : RTab S B0 a n m X pv W.drew := h.below (Below.refl _ _).drew
theorem RTab.congr {S B0 : Nat} {a : Option Addr} {n m : Nat} {X Y : Mat} {pv : Value} {W : World} (h : RTab S B0 a n m X pv W) (e : ∀ i j, i < n → j < m → X i j = Y i j) : RTab S B0 a n m Y pv W :=
  ⟨h.blk, fun i B ea hi => by
    obtain ⟨p, c, h1, h2, h3, h4⟩ := h.row i B ea hi
    exact ⟨p, c, h1, h2, by rw [← rowM_congr (fun j hj => e i j hi hj)]; exact h3, h4⟩⟩
theorem RTab.store {S B0 B : Nat} {n m : Nat} {X : Mat} {pv : Value} {W : World} (h : RTab S B0 (some ⟨B, 0, none⟩) n m X pv W) {i : Nat} (hi : i < n) {p : Option Addr} {c : Nat} {f : Nat → Int} (hf : Ints W (.slice p m c) (rowM m f)) (ho : 0 < m → ∀ g, pv.ownBlock = some g → (Value.slice p m c).ownBlock ≠ some g) :
    RTab S B0 (some ⟨B, 0, none⟩) n m (putM X i f) pv (W.setCell ⟨B, i, none⟩ (.slice p m c)) :=
  ⟨h.blk, fun i' B' e hi' => by
    obtain rfl : B' = B := by cases e; rfl
    obtain ⟨p0, c0, h1, h2, h3, h4⟩ := h.row i B' rfl hi
    by_cases e : i' = i
    · subst e
      refine ⟨p, c, World.cell?_setCell_same' _ _ _ (by rw [h1]; rfl), by rw [World.frozen?_setCell]; exact h2, ?_, ho⟩
      have : putM X i' f i' = f := by funext j; unfold putM; rw [if_pos rfl]
      rw [this]; exact hf.store h1 _
    · obtain ⟨p', c', k1, k2, k3, k4⟩ := h.row i' B' rfl hi'
      refine ⟨p', c', by rw [set_other (.inr (fun e' => e e'.symm))]; exact k1, by rw [World.frozen?_setCell]; exact k2, ?_, k4⟩
      have : putM X i f i' = X i' := by funext j; unfold putM; rw [if_neg e]
      rw [this]; exact k3.store h1 _⟩

/-- The pivots grow. -/
theorem RTab.grown {S B0 : Nat} {a : Option Addr} {n m : Nat} {X : Mat} {pv pv' : Value} {W W' : World} (h : RTab S B0 a n m X pv W) (hg : W.grownBy W' pv.ownBlock) (hB : ∀ g, pv.ownBlock = some g → B0 ≤ g) (ho : pv'.ownBlock = pv.ownBlock ∨ pv'.ownBlock = some W.heap.size) : RTab S B0 a n m X pv' W' := by
  refine ⟨h.blk, fun i B e hi => ?_⟩
  obtain ⟨p, c, h1, h2, h3, h4⟩ := h.row i B e hi
  have hlt := lt_of_cell h1
  have hne : pv.ownBlock ≠ some B := fun e' => by
    obtain ⟨B', e2, _, h5⟩ := h.blk (by omega)
    rw [e] at e2
    obtain rfl : B = B' := by cases e2; rfl
    have := hB _ e'; omega
  have cellEq : ∀ (b o : Nat) (u : Value), pv.ownBlock ≠ some b → W.cell? ⟨b, o, none⟩ = some u → W'.cell? ⟨b, o, none⟩ = some u := fun b o u hne hc => by
    rw [World.cell?_of_block (w := W) (w' := W') (a := ⟨b, o, none⟩) (hg.block b (lt_of_cell hc) hne.symm)]; exact hc
  refine ⟨p, c, cellEq B i _ hne h1, ?_, ?_, ?_⟩
  · rw [World.frozen?_of_block (w := W) (w' := W') (a := ⟨B, i, none⟩) (hg.block B hlt hne.symm)]; exact h2
  · obtain ⟨p', c', e1, q1, q2, q3, q4⟩ := h3
    refine ⟨p', c', e1, q1, q2, q3, fun k hk => ?_⟩
    obtain ⟨b', off, e2, hc⟩ := q4 k hk
    refine ⟨b', off, e2, cellEq b' _ _ (fun e3 => ?_) hc⟩
    rw [rowM_len] at hk
    refine h4 (by omega) b' e3 ?_
    injection e1 with e5; subst e5; subst e2; rfl
  · intro hm g hgg
    rcases ho with ho | ho
    · rw [ho] at hgg; exact h4 hm g hgg
    · rw [ho] at hgg
      cases hgg
      obtain ⟨p', c', e1, q1, q2, q3, q4⟩ := h3
      obtain ⟨b', off, e2, hc⟩ := q4 0 (by rw [rowM_len]; exact hm)
      injection e1 with e5; subst e5; subst e2
      have := lt_of_cell hc
      intro e4
      have e5 : some b' = some W.heap.size := e4
      injection e5 with e6
      exact absurd this (by show ¬ b' < _; omega)

end Go.Proofs.YtnbkbnbmmkfckaaGreat

namespace Go.Proofs.YtnbkbnbmmkfckaaGreat
open Go.RowKit

set_option maxRecDepth 100000 in
theorem infoRw : (Tryz.prog.info? 23).map (fun i => (i.zero, i.size, i.bytes)) = some (some (.slice none 0 0), 1, 24) := by kernel_rfl

set_option maxRecDepth 100000 in
/-- A new slice of the headers of rows. -/
theorem app_rows (W : World) (v : Value) (rows : List (List Int)) (m : Nat) (hI : Rows2 W v rows) (hm : ∀ r ∈ rows, r.length = m) (hn : rows.length ≤ 1000000) :
    ∃ a' c' w', (Builtin.append_ #[22, 22] 22 #[.slice (some ⟨W.heap.size, 0, none⟩) 0 0, v]).run Tryz.prog (W.alloc (.cells #[] 23)) = .ok (.slice a' rows.length c') w' ∧ rows.length ≤ c' ∧
      (∀ pv : Value, pv.ownBlock = none → RTab W.heap.size w'.heap.size a' rows.length m (fun i => nth (rows[i]?.getD [])) pv w') ∧ Below W.heap.size W w' := by
  obtain ⟨a, cap, rfl, hcap, hlen, hk⟩ := hI
  by_cases hn0 : rows.length = 0
  · rw [hn0]
    have h0 : rows = [] := List.length_eq_zero_iff.1 hn0
    subst h0
    refine ⟨some ⟨W.heap.size, 0, none⟩, 0, W.alloc (.cells #[] 23), ?_, Nat.le_refl _, ?_, (Below.refl _ _).alloc (Nat.le_refl _) _⟩
    · cases a <;> simp [go_sem]
    · exact fun pv hpv => ⟨fun h => absurd h (Nat.lt_irrefl _), fun i B e hi => absurd hi (Nat.not_lt_zero _)⟩
  · obtain ⟨b0, off0, r0, rfl, -, -⟩ := hk 0 (by omega)
    obtain ⟨hd, hhd⟩ : ∃ hd : Nat → Value, ∀ k (h : k < rows.length), W.cell? ⟨b0, off0 + k, none⟩ = some (hd k) ∧ Ints W (hd k) rows[k] := by
      have hk' : ∀ k (h : k < rows.length), ∃ r, W.cell? ⟨b0, off0 + k, none⟩ = some r ∧ Ints W r rows[k] := fun k h => by
        obtain ⟨b, off, r, e1, e2, e3⟩ := hk k h
        injection e1 with e4
        injection e4 with e5 e6
        subst e5; subst e6
        exact ⟨r, e2, e3⟩
      refine ⟨fun k => if h : k < rows.length then (hk' k h).choose else undef, fun k h => ?_⟩
      simp only [dif_pos h]
      exact (hk' k h).choose_spec
    have hown : (W.alloc (.cells #[] 23)).ownsRow W.heap.size 23 1 (.slice (some ⟨W.heap.size, 0, none⟩) 0 0) 0 [] := World.ownsRow_lit W #[] 0 (Nat.le_refl _) (by simp) rfl
    obtain ⟨i0, hi0, hz0, hz1, hz2⟩ := info_parts infoRw
    have hb1 : Below W.heap.size W (W.alloc (.cells #[] 23)) := (Below.refl _ _).alloc (Nat.le_refl _) _
    obtain ⟨v', w', hr, hown', hgrow, -⟩ := run_append_own (P := Tryz.prog) (W.alloc (.cells #[] 23)) W.heap.size 22 22 23 i0 (.slice none 0 0) 1 24 Tryz.underlying22 hi0 hz0 hz1 hz2 rfl (by decide)
      _ 0 [] hown ⟨b0, off0, none⟩ rows.length cap ((List.range rows.length).map hd) (by simp) (by
        intro j u hu
        have hj : j < rows.length := by
          by_cases h : j < rows.length
          · exact h
          · rw [List.getElem?_eq_none (by simpa using h)] at hu; cases hu
        have : u = hd j := by simp [hj] at hu; exact hu.symm
        rw [this]
        have hc := below_cell hb1 (hhd j hj).1
        unfold Addr.add
        split
        · rename_i e; subst e; simpa using hc
        · exact hc) (by
        intro u hu
        obtain ⟨k, hk', rfl⟩ := List.mem_map.1 hu
        obtain ⟨p, c, e, -⟩ := (hhd k (by simpa using hk')).2
        rw [e]; rfl) (by unfold maxLen; omega) (by omega) (by simp)
    rw [Nat.zero_add, List.nil_append] at hown'
    have hb2 : Below W.heap.size W w' := hb1.grown hgrow (by simp) (fun k e => by cases e; exact Nat.le_refl _)
    have hown2 := hown'
    obtain ⟨-, ⟨-, e⟩ | ⟨g, cap', cur, rfl, hB, hh, hcc, -, -, -⟩⟩ := hown'
    · exact absurd e hn0
    · refine ⟨_, cap', w', hr, hcc, fun pv hpv => ⟨fun _ => ⟨g, rfl, hB, (Array.getElem?_eq_some_iff.1 hh).1⟩, fun i B e hi => ?_⟩, hb2⟩
      obtain rfl : g = B := by injection e with e1; injection e1
      have hrow : nth (rows[i]?.getD []) = nth rows[i] := by rw [List.getElem?_eq_getElem hi]; rfl
      have hc := hown2.cellAt i (by omega)
      rw [List.getElem?_map, List.getElem?_eq_getElem (by simpa using hi)] at hc
      have hint := (hhd i hi).2
      have hlen := hm _ (List.getElem_mem hi)
      obtain ⟨p, c, e, hrest⟩ := hint
      rw [hlen] at e
      refine ⟨p, c, ?_, hown2.frozenAt i, ?_, fun _ g' e' => by rw [hpv] at e'; cases e'⟩
      · rw [hc]; simp [e]
      · rw [hrow]
        have h1 := (hhd i hi).2.below hb2
        rw [e] at h1
        rw [← hlen, rowM_of] ; rw [hlen]; exact h1

/-- An append of which the run is known. -/
theorem wpList_app_run {P : Program} {ops : Array Oper} {rest : List Oper} {o : Oper} {a : Act} {Q : Exit → Act → World → Prop} {W w' : World} (hgd : o.guard = none) (s x : Operand) (t : TypeId)
    (ho : o.op = .call { callee := .builtin .append, args := #[s, x], argTypes := #[t, t] }) (v u v' : Value) (hs : a.eval s = v) (hx : a.eval x = u)
    (hr : (Builtin.append_ #[t, t] o.type #[v, u]).run P W = .ok v' w') (h : wpList P ops Q rest (a.put o.dst v') w') : wpList P ops Q (o :: rest) a W := by
  refine wpList_plain hgd fun K hK => ?_
  unfold Oper.wp execOp
  simp only [ho, resolve, invoke, builtin, Sem.run_bind, Sem.run_pure, Result.andThen_ok, List.map_toArray, List.map_cons, List.map_nil, hs, hx, hr]
  exact hK _ _ h

theorem rowM_cell {W : World} {p : Option Addr} {m c : Nat} {f : Nat → Int} (h : Ints W (.slice p m c) (rowM m f)) {j : Nat} (hj : j < m) : ∃ b off, p = some ⟨b, off, none⟩ ∧ W.cell? ⟨b, off + j, none⟩ = some (.int .i64 (f j)) := by
  obtain ⟨_, b, off, n', c', e, hc⟩ := h.get (k := j) (by rw [rowM_len]; exact hj)
  rw [nth_rowM hj] at hc
  injection e with e1
  exact ⟨b, off, e1, hc⟩

set_option maxRecDepth 100000 in
theorem app_int_at {ops : Array Oper} {rest : List Oper} {o : Oper} {a : Act} {Q : Exit → Act → World → Prop} {W : World} (hgd : o.guard = none) (s x : Operand) (ho : o.op = .call { callee := .builtin .append, args := #[s, x], argTypes := #[23, 23] })
    (base n : Nat) (v : Value) (xs : List Value) (hs : a.eval s = v) (hown : W.ownsRow base 3 1 v n xs) (b c : Nat) (z : Int) (hx : a.eval x = .slice (some ⟨b, 0, none⟩) 1 c) (hcell : W.cell? ⟨b, 0, none⟩ = some (.int .i64 z)) (hn : n ≤ 1000000) (hbase : base ≤ W.heap.size)
    (h : ∀ v' w', w'.ownsRow base 3 1 v' (n + 1) (xs ++ [.int .i64 z]) → W.grownBy w' v.ownBlock → (v'.ownBlock = v.ownBlock ∨ v'.ownBlock = some W.heap.size) → wpList Tryz.prog ops Q rest (a.put o.dst v') w') : wpList Tryz.prog ops Q (o :: rest) a W := by
  obtain ⟨i0, hi0, hz0, hz1, hz2⟩ := info_parts infoInt
  refine wpList_append_own_at _ hgd s x 23 ho base 3 i0 (.int .i64 0) 1 8 Tryz.underlying23 hi0 hz0 hz1 hz2 rfl (by decide) v n xs hs hown ⟨b, 0, none⟩ 1 c [.int .i64 z] hx rfl ?_ ?_ ?_ ?_ hbase ?_
  · intro j u hu
    cases j with
    | zero => simp at hu; subst hu; simpa [Addr.add] using hcell
    | succ j => simp at hu
  · simp [Value.oneCell']
  · unfold maxLen; omega
  · omega
  · intro v' w' h1 h2 _ h3; exact h v' w' h1 h2 h3

set_option maxRecDepth 100000 in
theorem times_row (p : Option Addr) (c m : Nat) (f : Nat → Int) (n : Int) (w : World) (hI : Ints w (.slice p m c) (rowM m f)) (hn : 0 ≤ n ∧ n < 1073741789) (hm : m ≤ 1000000) :
    Calls Tryz.prog 119 #[.slice p m c, .int .i64 n] w fun e w' => ∃ b, e = .returned (.slice (some ⟨b, 0, none⟩) m m) ∧ w.heap.size < b ∧ Ints w' (.slice (some ⟨b, 0, none⟩) m m) (rowM m fun j => n * f j % 1073741789) ∧ Below w.heap.size w w' := by
  have h := times_any _ _ n w hI hn (by rw [rowM_len]; exact hm)
  rw [rowM_len, times_rowM] at h
  exact h.mono fun e w' ⟨⟨b, h1, h2, h3⟩, h4⟩ => ⟨b, h1, h2, h3, h4⟩

set_option maxRecDepth 100000 in
theorem less_row (p q : Option Addr) (c d m : Nat) (f g : Nat → Int) (n : Int) (w : World) (hI : Ints w (.slice p m c) (rowM m f)) (hJ : Ints w (.slice q m d) (rowM m g)) (hn : R64 n) (hm : m ≤ 1000000) :
    Calls Tryz.prog 120 #[.slice p m c, .slice q m d, .int .i64 n] w fun e w' => e = .returned (.slice (some ⟨w.heap.size, 0, none⟩) m m) ∧ Ints w' (.slice (some ⟨w.heap.size, 0, none⟩) m m) (rowM m fun j => (f j + -(n * g j % 1073741789)) % 1073741789) ∧ Below w.heap.size w w' ∧ w.heap.size < w'.heap.size := by
  have h := less_any _ _ _ _ n w hI hJ (by rw [rowM_len, rowM_len]; exact Nat.le_refl _) hn (by rw [rowM_len]; exact hm)
  rw [rowM_len, less_rowM] at h
  exact h.mono fun e w' ⟨h1, _, h2, h3, h4⟩ => ⟨h1, h2, h3, h4⟩

/-- What holds at the head of the outer loop. -/
structure RedS (S B0 : Nat) (a : Option Addr) (n m : Nat) (X : Mat) (w : World) (c : Nat) (pv : Value) (W : World) : Prop where
  tab : RTab S B0 a n m (redR n X c).1 pv W
  own : W.ownsRow B0 3 1 pv (redR n X c).2.length ((redR n X c).2.map fun (k : Nat) => Value.int .i64 (k : Int))
  low : Below S w W
  top : B0 ≤ W.heap.size

set_option maxRecDepth 100000 in
set_option maxHeartbeats 8000000 in
theorem Reduced_any (v : Value) (rows : List (List Int)) (m many : Nat) (w : World) (hI : Rows2 w v rows) (hm : ∀ r ∈ rows, r.length = m) (hnum : ∀ r ∈ rows, ∀ z ∈ r, 0 ≤ z ∧ z < 1073741789) (hn : rows.length ≤ 1000000) (hm1 : m ≤ 1000000) (hmany : many ≤ m) :
    Calls Tryz.prog 109 #[v, .int .i64 many] w fun e w' => ∃ a c pv B0, e = .returned (.tuple #[.slice a rows.length c, pv]) ∧ rows.length ≤ c ∧ RedS w.heap.size B0 a rows.length m (fun i => nth (rows[i]?.getD [])) w many pv w' := by
  obtain ⟨a', c', w2, hrun, hc2, hT, hb2⟩ := app_rows w v rows m hI hm hn
  have hI0 := hI
  obtain ⟨a, cap, rfl, hcap, hlen, hk⟩ := hI
  have HT := Lib.hid hT
  have HM := Lib.hid hm
  have HN := Lib.hid hnum
  clear hT hm hnum hk
  obtain ⟨n, hn'⟩ : ∃ n, n = rows.length := ⟨_, rfl⟩
  rw [← hn'] at hrun hc2 hcap hlen hn
  have hI1 : Rows2 w (.slice a n cap) rows := by rw [hn']; exact hI0
  have HN' := Lib.hid hn'
  rw [← hn']
  clear hn' hI0
  go_enter Tryz.func109, Tryz.ntmps109
  go_wp2_with (at_builtin; refine wpList_app_run rfl _ _ _ rfl _ _ _ rfl rfl hrun ?_)
  obtain ⟨X, hX⟩ : ∃ X : Mat, X = (fun i => nth (rows[i]?.getD [])) := ⟨_, rfl⟩
  have hXn : NumM n m X := by
    rw [HN'.out, hX]
    intro i j hi hj
    show 0 ≤ nth (rows[i]?.getD []) j ∧ _
    rw [List.getElem?_eq_getElem hi, Option.getD_some]
    have hl := HM.out _ (List.getElem_mem hi)
    rw [nth_at (by omega)]
    show _ ∧ nth (rows[i]?.getD []) j < _
    rw [List.getElem?_eq_getElem hi, Option.getD_some, nth_at (by omega)]
    exact HN.out _ (List.getElem_mem hi) _ (List.getElem_mem _)
  obtain ⟨B0, hB0⟩ : ∃ B0, B0 = w2.heap.size := ⟨_, rfl⟩
  have hR0 : RedS w.heap.size B0 a' n m X w 0 (.slice (some ⟨B0, 0, none⟩) 0 0) (w2.alloc (.cells #[] 3)) := by
    have h1 : RTab w.heap.size w2.heap.size a' n m X (.slice none 0 0) w2 := by rw [HN'.out, hX]; exact HT.out _ rfl
    refine ⟨?_, ?_, hb2.alloc hb2.size _, by rw [hB0]; simp⟩
    · show RTab _ _ _ _ _ X _ _
      rw [hB0]
      have h2 := h1.below ((Below.refl _ _).alloc (Nat.le_refl _) (.cells #[] 3))
      refine ⟨h2.blk, fun i B e hi => ?_⟩
      obtain ⟨p, c, q1, q2, q3, q4⟩ := h1.row i B e hi
      have q3' := q3.below ((Below.refl _ _).alloc (Nat.le_refl _) (.cells #[] 3))
      refine ⟨p, c, below_cell ((Below.refl _ _).alloc (Nat.le_refl _) _) q1, by rw [((Below.refl _ w2).alloc (Nat.le_refl _) (.cells #[] 3)).frozen (p := ⟨B, i, none⟩) (lt_of_cell q1)]; exact q2, q3', fun hm0 g e2 e3 => ?_⟩
      obtain ⟨b, off, rfl, hc⟩ := rowM_cell q3 hm0
      have e2' : some w2.heap.size = some g := e2
      have e3' : some b = some g := e3
      have := lt_of_cell hc
      injection e2' with e4
      injection e3' with e5
      omega
    · rw [hB0]; exact World.ownsRow_lit w2 #[] 0 (Nat.le_refl _) (by simp) rfl
  have HX := Lib.hid hX
  rw [← hB0]
  have HB0 := Lib.hid hB0
  clear hX hB0 hrun HT
  go_loopw [7, 8] (fun s i wr => ∃ (c : Nat) (pv : Value), c ≤ many ∧ i = .int .i64 c ∧ s = pv ∧ RedS w.heap.size B0 a' n m X w c pv wr) (fun _ i _ => many - (intOf i).toNat)
  case atStart => exact ⟨0, _, Nat.zero_le _, rfl, rfl, hR0⟩
  case round =>
    obtain ⟨c, pv, hcm, rfl, rfl, hS⟩ := hrel
    by_cases hlt : c < many
    · obtain ⟨hT1, hown, hlow, htop⟩ := hS
      have hyn := redR_num hXn c
      have hpn := redR_len n X c
      have hst := redR_succ n X c
      generalize hx1 : redR n X c = st at hT1 hown hyn hpn hst
      obtain ⟨y, piv⟩ := st
      have HS := Lib.hid hst
      clear hst hx1
      obtain ⟨pa, pc, rfl⟩ := owns_slice hown
      simp only at hT1 hown hyn hpn
      go_wp2_with fail
      go_loop [10] (fun k => ∃ kk : Nat, kk ≤ n ∧ piv.length ≤ kk ∧ k = .int .i64 kk ∧ Hid (findP y n c piv.length = findF y c (n - kk) kk)) (fun k => n - (intOf k).toNat)
      case atStart => exact ⟨piv.length, hpn, Nat.le_refl _, rfl, Lib.hid rfl⟩
      case round =>
        obtain ⟨kk, hkn, hpk, rfl, HF⟩ := hrel
        by_cases hk : kk < n
        · obtain ⟨B, rfl, hB1, hB2⟩ := hT1.blk (by omega)
          obtain ⟨pk, ck, hck, hfk, hik, hok⟩ := hT1.row kk B rfl hk
          obtain ⟨bk, ok, rfl, hek⟩ := rowM_cell hik (j := c) (by omega)
          have i1 : (0 : Int) ≤ (kk : Int) := by omega
          have i2 : (kk : Int) < (n : Int) := by omega
          have hkd : decide ((kk : Int) < (n : Int)) = true := decide_eq_true (by omega)
          by_cases h0 : y kk c = 0
          · have HF2 := Lib.hid (findP_step HF.out hk h0)
            rw [h0] at hek
            clear h0
            go_wp2_with fail
            go_round
            case rel => exact ⟨kk + 1, by omega, by omega, by go_num, HF2⟩
            case measure => simp [intOf]; omega
          · have HF2 := Lib.hid (findP_here HF.out hk h0)
            have h0' : (y kk c == 0) = false := by simpa using h0
            have hyk := hyn kk c hk (by omega)
            have H0 := Lib.hid (show y kk c % 1073741789 ≠ 0 by omega)
            clear h0
            have hrn : piv.length < n := by omega
            obtain ⟨pr, cr, hcr, hfr, hir, hor⟩ := hT1.row piv.length B rfl hrn
            have i3 : (0 : Int) ≤ (piv.length : Int) := by omega
            have i4 : (piv.length : Int) < (n : Int) := by omega
            have hT2 := hT1.store hk hir hor
            have hiK := hik.store hck (.slice pr m cr)
            have hek2 : (wr.setCell ⟨B, kk, none⟩ (.slice pr m cr)).cell? ⟨bk, ok + c, none⟩ = some (.int .i64 (y kk c)) := by
              obtain ⟨b2, o2, e2, hc2⟩ := rowM_cell hiK (j := c) (by omega)
              cases e2; exact hc2
            have hown2 := ownsRow_setCell_below hown (a := ⟨B, kk, none⟩) hB2 (.slice pr m cr)
            have hlow2 := hlow.setCell (p := ⟨B, kk, none⟩) hB1 (.slice pr m cr)
            have htop2 : B0 ≤ (wr.setCell ⟨B, kk, none⟩ (.slice pr m cr)).heap.size := by simp [World.setCell]; exact htop
            go_wp2_with fail
            obtain ⟨W2, hW2⟩ : ∃ W2, wr.setCell ⟨B, kk, none⟩ (.slice pr m cr) = W2 := ⟨_, rfl⟩
            rw [hW2] at hT2 hiK hek2 hown2 hlow2 htop2 ⊢
            clear hW2 hek hfk hcr hfr hck
            go_wp2_with fail
            with_reducible refine (rinverse_any _ _ (num_r64 hyk) H0.out).mono ?_
            rintro e w' ⟨rfl, rfl⟩
            have hvn : 0 ≤ invQ (y kk c) ∧ invQ (y kk c) < 1073741789 := mod_num _
            obtain ⟨v, hv⟩ : ∃ v, v = invQ (y kk c) := ⟨_, rfl⟩
            rw [← hv] at hvn ⊢
            have HV := Lib.hid hv
            clear hv
            go_wp2_with fail
            with_reducible refine (times_row _ _ m (y kk) v _ hiK hvn hm1).mono ?_
            rintro e w3 ⟨bo, rfl, hbo, hio, hb3⟩
            have hT3 := hT2.below hb3
            have hown3 := owns_below hown2 hb3
            have hlow3 : Below w.heap.size w w3 := hlow2.trans (hb3.mono hlow2.size)
            have htop3 : B0 ≤ w3.heap.size := Nat.le_trans htop2 hb3.size
            have hpo : ∀ g, (Value.slice pa piv.length pc).ownBlock = some g → g < bo := fun g e => Nat.lt_trans (hown2.lt g e).2 hbo
            obtain ⟨f, hf⟩ : ∃ f : Nat → Int, f = fun j => v * y kk j % 1073741789 := ⟨_, rfl⟩
            have hfn : ∀ j, 0 ≤ f j ∧ f j < 1073741789 := fun j => by rw [hf]; exact mod_num _
            rw [← hf] at hio
            obtain ⟨X1, hX1⟩ : ∃ X1, X1 = putM y kk (y piv.length) := ⟨_, rfl⟩
            have hn1 : NumM n m X1 := by rw [hX1]; exact hyn.put fun j hj => hyn _ j hrn hj
            rw [← hX1] at hT3
            have HF1 := Lib.hid hf
            have HX1 := Lib.hid hX1
            clear hf hX1 hT2 hiK hek2 hown2 hlow2 htop2 hik hir
            go_wp2_with fail
            go_loopw [14] (fun i wr => ∃ q : Nat, q ≤ n ∧ i = .int .i64 q ∧ RTab w.heap.size B0 (some ⟨B, 0, none⟩) n m (lessA X1 f c q) (.slice pa piv.length pc) wr ∧ Ints wr (.slice (some ⟨bo, 0, none⟩) m m) (rowM m f) ∧ wr.ownsRow B0 3 1 (.slice pa piv.length pc) piv.length (piv.map fun (k : Nat) => Value.int .i64 (k : Int)) ∧ Below w.heap.size w wr ∧ B0 ≤ wr.heap.size) (fun i _ => n - (intOf i).toNat)
            case atStart => exact ⟨0, Nat.zero_le _, rfl, by rw [lessA_0]; exact hT3, hio, hown3, hlow3, htop3⟩
            case round =>
              obtain ⟨q, hqn, rfl, hT4, hio4, hown4, hlow4, htop4⟩ := hrel
              by_cases hq : q < n
              · obtain ⟨pq, cq, hcq, hfq, hiq, hoq⟩ := hT4.row q B rfl hq
                obtain ⟨bq, oq, rfl, heq⟩ := rowM_cell hiq (j := c) (by omega)
                have hz := hn1.less f c q q c hq (by omega)
                obtain ⟨z, hz'⟩ : ∃ z, z = lessA X1 f c q q c := ⟨_, rfl⟩
                rw [← hz'] at heq hz
                have HZ := Lib.hid hz'
                clear hz'
                have i5 : (0 : Int) ≤ (q : Int) := by omega
                have i6 : (q : Int) < (n : Int) := by omega
                have i7 : (0 : Int) ≤ (c : Int) := by omega
                have i8 : (c : Int) < (m : Int) := by omega
                have hzr := num_r64 hz
                go_wp2_with fail
                have hcqd : wr.drew.cell? ⟨B, q, none⟩ = some (.slice (some ⟨bq, oq, none⟩) m cq) := hcq
                have hfqd : wr.drew.frozen? ⟨B, q, none⟩ = false := hfq
                have hltq : B < wr.drew.heap.size := lt_of_cell hcqd
                go_region_with (go_at_call 120; with_reducible refine (less_row _ _ _ _ m _ f z _ (hiq.below (Below.refl _ _).drew) (hio4.below (Below.refl _ _).drew) hzr hm1).mono ?_; rintro e w5 ⟨rfl, hi5, hb5, hs5⟩; have hcq5 := below_cell hb5 hcqd; have hfq5 := (hb5.frozen (p := ⟨B, q, none⟩) hltq).trans hfqd)
                all_goals
                  have hb5' : Below wr.heap.size wr w5 := ((Below.refl wr.heap.size wr).drew).trans hb5
                  have hT5 := (hT4.below hb5').store hq hi5 (fun _ g e e2 => by
                    have h1 := (hown4.lt g e).2
                    have e3 : some wr.heap.size = some g := e2
                    injection e3 with e4
                    omega)
                  rw [HZ.out, ← lessA_step] at hT5
                  have hio5 := (hio4.below hb5').store hcq5 (.slice (some ⟨wr.heap.size, 0, none⟩) m m)
                  have hown5 := ownsRow_setCell_below (owns_below hown4 hb5') (a := ⟨B, q, none⟩) hB2 (.slice (some ⟨wr.heap.size, 0, none⟩) m m)
                  have hlow5 := (hlow4.trans (hb5'.mono hlow4.size)).setCell (p := ⟨B, q, none⟩) hB1 (.slice (some ⟨wr.heap.size, 0, none⟩) m m)
                  have htop5 : B0 ≤ (w5.setCell ⟨B, q, none⟩ (.slice (some ⟨wr.heap.size, 0, none⟩) m m)).heap.size := by have := hb5'.size; simp [World.setCell]; omega
                  go_wp2_with fail
                  go_roundw
                  case rel => exact ⟨q + 1, by omega, by go_num, hT5, hio5, hown5, hlow5, htop5⟩
                  case measure => simp [intOf]; omega
              · obtain rfl : q = n := by omega
                obtain ⟨p9, c9, hc9, hf9, hi9, ho9⟩ := hT4.row piv.length B rfl hrn
                have hT6 := hT4.store hrn hio4 (fun _ g e e2 => by
                  have h1 := hpo g e
                  have e3 : some bo = some g := e2
                  injection e3 with e4
                  omega)
                have hown6 := ownsRow_setCell_below hown4 (a := ⟨B, piv.length, none⟩) hB2 (.slice (some ⟨bo, 0, none⟩) m m)
                have hlow6 := hlow4.setCell (p := ⟨B, piv.length, none⟩) hB1 (.slice (some ⟨bo, 0, none⟩) m m)
                have htop6 : B0 ≤ (wr.setCell ⟨B, piv.length, none⟩ (.slice (some ⟨bo, 0, none⟩) m m)).heap.size := by simp [World.setCell]; exact htop4
                obtain ⟨W6, hW6⟩ : ∃ W6, wr.setCell ⟨B, piv.length, none⟩ (.slice (some ⟨bo, 0, none⟩) m m) = W6 := ⟨_, rfl⟩
                have hs6 : W6.heap.size = wr.heap.size := by rw [← hW6]; simp [World.setCell]
                have hcn6 : (W6.alloc (.cells #[.int .i64 (c : Int)] 3)).cell? ⟨wr.heap.size, 0, none⟩ = some (.int .i64 (c : Int)) := by rw [← hs6]; exact cell_new1 _ _ _
                have HS6 := Lib.hid hs6
                rw [hW6] at hT6 hown6 hlow6 htop6
                clear hs6
                have hT7 := hT6.below ((Below.refl _ _).alloc (Nat.le_refl _) (.cells #[.int .i64 (c : Int)] 3))
                have hown7 := hown6.alloc (.cells #[.int .i64 (c : Int)] 3)
                have HW6 := Lib.hid hW6
                clear hW6
                have hpl6 : piv.length ≤ 1000000 := by omega
                have hbs6 : B0 ≤ (W6.alloc (.cells #[.int .i64 (c : Int)] 3)).heap.size := by simp; omega
                go_wp2_with (at_builtin; rw [HW6.out]; refine app_int_at rfl _ _ rfl B0 _ _ _ rfl hown7 wr.heap.size 1 c rfl hcn6 hpl6 hbs6 ?_; intro v9 w9 hown9 hgrow9 hob9)
                have hT9 := hT7.grown hgrow9 (fun g e => (hown7.lt g e).1) hob9
                have hb9 : Below B0 W6 w9 := ((Below.refl _ _).alloc htop6 _).grown hgrow9 (by simp; omega) (fun g e => (hown7.lt g e).1)
                have hstep := stepR_some HF2.out hk
                rw [← HS.out] at hstep
                have hX9 : pivR y q piv.length c kk = putM (lessA X1 f c q) piv.length f := by
                  unfold pivR ownR; rw [HX1.out, HF1.out, HV.out]
                have hR9 : RedS w.heap.size B0 (some ⟨B, 0, none⟩) q m X w (c + 1) v9 w9 := by
                  refine ⟨?_, ?_, hlow6.trans (hb9.mono (Nat.le_trans hB1 (Nat.le_of_lt hB2))), Nat.le_trans htop6 hb9.size⟩
                  · rw [hstep]
                    show RTab _ _ _ _ _ (pivR y q piv.length c kk) _ _
                    rw [hX9]; exact hT9
                  · rw [hstep]
                    show w9.ownsRow B0 3 1 v9 (piv ++ [c]).length ((piv ++ [c]).map fun (k : Nat) => Value.int .i64 (k : Int))
                    rw [List.length_append, List.map_append]; exact hown9
                exact ⟨⟨c + 1, v9, by omega, by go_num, rfl, hR9⟩, by simp [intOf]; omega⟩
        · obtain rfl : kk = n := by omega
          have HF2 := Lib.hid (findP_end HF.out (by omega) (Nat.le_refl _))
          have hkd : decide ((kk : Int) < (kk : Int)) = false := by simp
          have hstep := stepR_none HF2.out
          rw [← HS.out] at hstep
          have HST := Lib.hid hstep
          clear hstep
          go_wp2_with fail
          have hR9 : RedS w.heap.size B0 a' kk m X w (c + 1) (.slice pa piv.length pc) wr := by
            refine ⟨?_, ?_, hlow, htop⟩
            · rw [HST.out]; exact hT1
            · rw [HST.out]; exact hown
          go_roundw
          case rel => exact ⟨c + 1, _, by omega, by go_num, rfl, hR9⟩
          case measure => simp [intOf]; omega
    · obtain rfl : c = many := by omega
      go_wp2_with fail
      go_ret2
      exact ⟨a', c', _, B0, rfl, hc2, by rw [← HX.out]; exact hS⟩

end Go.Proofs.YtnbkbnbmmkfckaaGreat
