/- The reference of package linear: what its small functions compute. The reference of package linear: Check, Error, Few. -/
import Derived.Test.YtbegnincmlepgaaMLinJ
namespace Go.Proofs.Ytbegnincmlepgaa
open Go.RowKit

theorem below_drewN {B : Nat} {a w : World} (h : Below B a w) (n : Nat) : Below B a (w.drewN n) := ⟨h.os, h.tape, h.output, h.size, h.block⟩
theorem any_no {l : List Int} (h : ∀ z ∈ l, oddQ z = false) : l.any oddQ = false := by
  rw [List.any_eq_false]; intro z hz; rw [h z hz]; simp
theorem any_yes {l : List Int} {k : Nat} (hk : k < l.length) (h : oddQ l[k] = true) : l.any oddQ = true := List.any_eq_true.2 ⟨_, List.getElem_mem hk, h⟩

set_option maxRecDepth 100000 in
set_option maxHeartbeats 1000000 in
theorem Numbers_any (v : Value) (zs : List Int) (w : World) (hI : Ints w v zs) :
    Calls Try.prog 132 #[v] w fun e w' => e = .returned (.bool (!zs.any oddQ)) ∧ w = w' := by
  obtain ⟨a, cap', rfl, hcap, hlen, hr, hk⟩ := hI
  go_enter Try.func132, Try.ntmps132
  go_wp2
  go_loop [3] (fun i => ∃ k : Nat, k ≤ zs.length ∧ i = .int .i64 k ∧ Hid (∀ z ∈ zs.take k, oddQ z = false)) (fun i => zs.length - (intOf i).toNat)
  case atStart => exact ⟨0, Nat.zero_le _, rfl, Lib.hid (by simp)⟩
  case round =>
    obtain ⟨k, hkl, rfl, HP⟩ := hrel
    by_cases hlt : k < zs.length
    · obtain ⟨b, off, rfl, hc⟩ := hk k hlt
      clear hk hr
      by_cases h1 : zs[k] < 0
      · have HQ := Lib.hid (any_yes hlt (show oddQ zs[k] = true by simp [oddQ, h1]))
        go_wp2_with fail
        go_ret
        exact ⟨ret_bool (by rw [HQ.out]; rfl), rfl⟩
      · by_cases h2 : 1073741789 ≤ zs[k]
        · have HQ := Lib.hid (any_yes hlt (show oddQ zs[k] = true by simp [oddQ, h2]))
          go_wp2_with fail
          go_ret
          exact ⟨ret_bool (by rw [HQ.out]; rfl), rfl⟩
        · have HN := Lib.hid (take_all hlt HP.out (show oddQ zs[k] = false by simp [oddQ]; omega))
          go_wp2_with fail
          go_round
          case rel => exact ⟨k + 1, by omega, by go_num, HN⟩
          case measure => simp [intOf]; omega
    · have HQ := Lib.hid (any_no (take_whole hlt HP.out))
      go_wp2_with fail
      go_ret
      exact ⟨ret_bool (by rw [HQ.out]; rfl), rfl⟩

/-- Are two lists equal? -/
def sameQ (a b : List Int) : Bool := decide (a = b)

theorem sameQ_len {a b : List Int} (h : a.length ≠ b.length) : sameQ a b = false := decide_eq_false fun e => h (by rw [e])
theorem sameQ_at {a b : List Int} {k : Nat} (h1 : k < a.length) (h2 : k < b.length) (h : a[k] ≠ b[k]) : sameQ a b = false := decide_eq_false fun e => h (by subst e; rfl)
theorem sameQ_all {a b : List Int} (h : a.length = b.length) (h1 : ∀ k (h1 : k < a.length) (h2 : k < b.length), a[k] = b[k]) : sameQ a b = true := decide_eq_true (List.ext_getElem h h1)

end Go.Proofs.Ytbegnincmlepgaa

namespace Go.Proofs.Ytbegnincmlepgaa
open Go.RowKit

theorem Ints.drewN {w : World} {v : Value} {zs : List Int} (h : Ints w v zs) (n : Nat) : Ints (w.drewN n) v zs := h.below (below_drewN (Below.refl _ _) n)
theorem Rows2.drewN {w : World} {v : Value} {rows : List (List Int)} (h : Rows2 w v rows) (n : Nat) : Rows2 (w.drewN n) v rows := h.below (below_drewN (Below.refl _ _) n)

set_option maxRecDepth 100000 in
theorem Numbers_is (v : Value) (zs : List Int) (b : Bool) (w : World) (hI : Ints w v zs) (hb : (!zs.any oddQ) = b) :
    Calls Try.prog 132 #[v] w fun e w' => e = .returned (.bool b) ∧ w' = w :=
  (Numbers_any v zs w hI).mono fun _ _ ⟨h, e⟩ => ⟨h.trans (by rw [hb]), e.symm⟩

set_option maxRecDepth 100000 in
set_option maxHeartbeats 2000000 in
theorem rCheck_any (v : Value) (rows : List (List Int)) (w : World) (hI : Rows2 w v rows) :
    Calls Try.prog 131 #[v] w fun e w' => e = .returned (.int .i64 (checkErr rows)) ∧ Below w.heap.size w w' := by
  have hI0 := hI
  obtain ⟨a, cap, rfl, hcap, hlen, hk⟩ := hI
  by_cases hm : rows.length ≤ 64
  · have HC := Lib.hid (checkErr_few hm)
    have hm' : decide ((64 : Int) < (rows.length : Int)) = false := decide_eq_false (by omega)
    clear hm
    go_enter Try.func131, Try.ntmps131
    go_wp2_with fail
    go_loop [3] (fun i => ∃ k : Nat, k ≤ rows.length ∧ i = .int .i64 k ∧ Hid (∀ r ∈ rows.take k, r.length ≤ 64)) (fun i => rows.length - (intOf i).toNat)
    case atStart => exact ⟨0, Nat.zero_le _, rfl, Lib.hid (by simp)⟩
    case round =>
      obtain ⟨k, hkl, rfl, HP⟩ := hrel
      by_cases hlt : k < rows.length
      · obtain ⟨b, off, r, rfl, hc, hr⟩ := hk k hlt
        obtain ⟨a', cap', rfl, k1, k2, k3, k4⟩ := hr
        clear hk k3 k4
        by_cases h64 : rows[k].length ≤ 64
        · have HN := Lib.hid (take_all hlt HP.out h64)
          have h64' : decide ((64 : Int) < (rows[k].length : Int)) = false := decide_eq_false (by omega)
          go_wp2_with fail
          go_round
          case rel => exact ⟨k + 1, by omega, by go_num, HN⟩
          case measure => simp [intOf]; omega
        · have HN := Lib.hid (kindErr_long rows k hlt (by omega))
          have h64' : decide ((64 : Int) < (rows[k].length : Int)) = true := decide_eq_true (by omega)
          go_wp2_with fail
          go_ret
          exact ⟨ret_int (by rw [HC.out, HN.out]), Below.refl _ _⟩
      · have HS := Lib.hid (take_whole hlt HP.out)
        obtain rfl : k = rows.length := by omega
        clear HP
        go_wp2_with fail
        go_loopw [4] (fun i wr => ∃ k : Nat, k ≤ rows.length ∧ i = .int .i64 k ∧ Hid (∀ r ∈ rows.take k, rowOk (wide rows) r = true) ∧ Below w.heap.size w wr) (fun i _ => rows.length - (intOf i).toNat)
        case atStart => exact ⟨0, Nat.zero_le _, rfl, Lib.hid (by simp), Below.refl _ _⟩
        case round =>
          obtain ⟨k, hkl, rfl, HP, hb⟩ := hrel
          by_cases hlt : k < rows.length
          · obtain ⟨b, off, r, rfl, hc, hr⟩ := hk k hlt
            have hrI := hr.below hb
            obtain ⟨a', cap', rfl, k1, k2, k3, k4⟩ := hr
            obtain ⟨b0, off0, r0, e0, hc0, hr0⟩ := hk 0 (by omega)
            obtain ⟨rfl, rfl⟩ : b = b0 ∧ off = off0 := by cases e0; exact ⟨rfl, rfl⟩
            obtain ⟨a0, cap0, rfl, m1, m2, m3, m4⟩ := hr0
            have hw0 := wide_at rows (by omega)
            rw [hw0] at hc0 m1 m2
            have hc := below_cell hb hc
            have hc0 := below_cell hb hc0
            rw [Nat.add_zero] at hc0
            have i1 : (0 : Int) ≤ (k : Int) := by omega
            have i2 : (k : Int) < (rows.length : Int) := by omega
            have i3 : (0 : Int) < (rows.length : Int) := by omega
            clear hk k3 k4 m3 m4 e0 hw0
            by_cases hl : rows[k].length = wide rows
            · rw [hl] at hc hrI k1 k2
              have hn : ((wide rows : Int) != (wide rows : Int)) = false := by simp
              by_cases ho : rows[k].any oddQ = true
              · have HN := Lib.hid (kindErr_bad rows HS.out k hlt (by simp [rowOk, ho]))
                have HO := Lib.hid (show (!rows[k].any oddQ) = false by rw [ho]; rfl)
                clear ho hl
                go_wp2_with fail
                go_quiet ((go_at_call 132; exact Calls.quiet_of_same (Numbers_is _ rows[k] _ _ (hrI.drewN _) HO.out)))
                go_wp2_with fail
                go_ret
                exact ⟨ret_int (by rw [HC.out, HN.out]), below_drewN hb _⟩
              · have HN := Lib.hid (take_all hlt HP.out (show rowOk (wide rows) rows[k] = true by simp only [rowOk, hl]; simpa using ho))
                have HO := Lib.hid (show (!rows[k].any oddQ) = true by simpa using ho)
                clear ho hl
                go_wp2_with fail
                go_quiet ((go_at_call 132; exact Calls.quiet_of_same (Numbers_is _ rows[k] _ _ (hrI.drewN _) HO.out)))
                go_wp2_with fail
                go_roundw
                case rel => exact ⟨k + 1, by omega, by go_num, HN, below_drewN hb _⟩
                case measure => simp [intOf]; omega
            · have HN := Lib.hid (kindErr_bad rows HS.out k hlt (by simp [rowOk, hl]))
              have hn : ((rows[k].length : Int) != (wide rows : Int)) = true := by rw [bne_iff_ne]; omega
              clear hl
              go_wp2_with fail
              go_quiet (fail)
              go_wp2_with fail
              go_ret
              exact ⟨ret_int (by rw [HC.out, HN.out]), below_drewN hb _⟩
          · have HN := Lib.hid (kindErr_ok rows HS.out (take_whole hlt HP.out))
            go_wp2_with fail
            go_ret
            exact ⟨ret_int (by rw [HC.out, HN.out]), hb⟩
  · have HC := Lib.hid (checkErr_many (rows := rows) (by omega))
    have hm' : decide ((64 : Int) < (rows.length : Int)) = true := decide_eq_true (by omega)
    go_enter Try.func131, Try.ntmps131
    go_wp2_with fail
    go_ret
    exact ⟨ret_int HC.out.symm, Below.refl _ _⟩

theorem kind1_ok {t : List Int} (h1 : t.length ≤ 64) (h2 : t.any oddQ = false) : kindErr [t] = 0 :=
  kindErr_ok [t] (by simpa using h1) (by intro r hr; rw [List.mem_singleton.1 hr]; simp only [rowOk, h2]; simp [wide])
theorem kind1_long {t : List Int} (h1 : 64 < t.length) : kindErr [t] = 2 := kindErr_long [t] 0 (by simp) (by simpa using h1)
theorem kind1_odd {t : List Int} (h1 : t.length ≤ 64) (h2 : t.any oddQ = true) : kindErr [t] = 130 :=
  kindErr_bad [t] (by simpa using h1) 0 (by simp) (by simp [rowOk, h2])

set_option maxRecDepth 100000 in
set_option maxHeartbeats 2000000 in
theorem rError_any (v u : Value) (rows : List (List Int)) (t : List Int) (w : World) (hI : Rows2 w v rows) (hU : Ints w u t) :
    Calls Try.prog 108 #[v, u] w fun e w' => e = .returned (.int .i64 (examErr rows t)) ∧ Below w.heap.size w w' := by
  have hI0 := hI
  have hU0 := hU
  obtain ⟨a, cap, rfl, hcap, hlen, hk⟩ := hI
  obtain ⟨a2, cap2, rfl, hcap2, hlen2, -⟩ := hU
  by_cases h0 : checkErr rows = 0
  · have H0 := Lib.hid h0
    by_cases h64 : 64 < t.length
    · have HC := Lib.hid (show examErr rows t = 2 by rw [examErr_kind h0 (by rw [kind1_long h64]; decide), kind1_long h64])
      have h64' : decide ((64 : Int) < (t.length : Int)) = true := decide_eq_true (by omega)
      clear h0
      go_enter Try.func108, Try.ntmps108
      go_wp2_with fail
      with_reducible refine (rCheck_any _ rows _ hI0).mono ?_
      rintro e w1 ⟨rfl, hb⟩
      rw [H0.out]
      go_wp2_with fail
      go_ret
      exact ⟨ret_int HC.out.symm, hb⟩
    · have h64' : decide ((64 : Int) < (t.length : Int)) = false := decide_eq_false (by omega)
      by_cases ho : t.any oddQ = true
      · have HC := Lib.hid (show examErr rows t = 130 by rw [examErr_kind h0 (by rw [kind1_odd (by omega) ho]; decide), kind1_odd (by omega) ho])
        have HO := Lib.hid (show (!t.any oddQ) = false by rw [ho]; rfl)
        clear h0 ho
        go_enter Try.func108, Try.ntmps108
        go_wp2_with fail
        with_reducible refine (rCheck_any _ rows _ hI0).mono ?_
        rintro e w1 ⟨rfl, hb⟩
        rw [H0.out]
        go_wp2_with fail
        with_reducible refine (Numbers_is _ t _ _ (hU0.below hb) HO.out).mono ?_
        rintro e w' ⟨rfl, rfl⟩
        go_wp2_with fail
        go_ret
        exact ⟨ret_int HC.out.symm, hb⟩
      · have HO := Lib.hid (show (!t.any oddQ) = true by simpa using ho)
        have hk1 := kind1_ok (t := t) (by omega) (by simpa using ho)
        by_cases hn : rows.length = 0
        · have HC := Lib.hid (examErr_ok (rows := rows) h0 hk1 (.inl hn))
          obtain rfl : rows = [] := List.length_eq_zero_iff.1 hn
          have hI1 : Rows2 w (.slice a 0 cap) [] := hI0
          clear h0 ho hn hk1
          go_enter Try.func108, Try.ntmps108
          go_wp2_with fail
          with_reducible refine (rCheck_any _ [] _ hI1).mono ?_
          rintro e w1 ⟨rfl, hb⟩
          rw [H0.out]
          go_wp2_with fail
          with_reducible refine (Numbers_is _ t _ _ (hU0.below hb) HO.out).mono ?_
          rintro e w' ⟨rfl, rfl⟩
          go_wp2_with fail
          go_ret
          exact ⟨ret_int HC.out.symm, hb⟩
        · have hnI : decide ((0 : Int) < (rows.length : Int)) = true := decide_eq_true (by omega)
          have hn0 : 0 < rows.length := by omega
          obtain ⟨b0, off0, r0, rfl, hc0, hr0⟩ := hk 0 hn0
          obtain ⟨a0, cap0, rfl, m1, m2, m3, m4⟩ := hr0
          rw [wide_at rows hn0] at hc0 m1 m2
          rw [Nat.add_zero] at hc0
          have i1 : (0 : Int) < (rows.length : Int) := by omega
          by_cases hw : wide rows = t.length
          · have HC := Lib.hid (examErr_ok (rows := rows) h0 hk1 (.inr hw))
            have hq : ((t.length : Int) != (wide rows : Int)) = false := by rw [hw]; simp
            clear h0 ho hn hk1 m3 m4 hk hw
            go_enter Try.func108, Try.ntmps108
            go_wp2_with fail
            with_reducible refine (rCheck_any _ rows _ hI0).mono ?_
            rintro e w1 ⟨rfl, hb⟩
            rw [H0.out]
            go_wp2_with fail
            with_reducible refine (Numbers_is _ t _ _ (hU0.below hb) HO.out).mono ?_
            rintro e w' ⟨rfl, rfl⟩
            have hc1 := below_cell hb hc0
            go_wp2_with fail
            go_ret
            exact ⟨ret_int HC.out.symm, hb⟩
          · have HC := Lib.hid (examErr_bad (rows := rows) h0 hk1 (by rintro (h | h); exact hn h; exact hw h))
            have hq : ((t.length : Int) != (wide rows : Int)) = true := by rw [bne_iff_ne]; omega
            clear h0 ho hn hk1 m3 m4 hk hw
            go_enter Try.func108, Try.ntmps108
            go_wp2_with fail
            with_reducible refine (rCheck_any _ rows _ hI0).mono ?_
            rintro e w1 ⟨rfl, hb⟩
            rw [H0.out]
            go_wp2_with fail
            with_reducible refine (Numbers_is _ t _ _ (hU0.below hb) HO.out).mono ?_
            rintro e w' ⟨rfl, rfl⟩
            have hc1 := below_cell hb hc0
            go_wp2_with fail
            go_ret
            exact ⟨ret_int HC.out.symm, hb⟩
  · have HC := Lib.hid (examErr_check (t := t) h0)
    have hC : (checkErr rows != 0) = true := by simpa using h0
    have HC2 := Lib.hid hC
    clear h0 hC
    go_enter Try.func108, Try.ntmps108
    go_wp2_with fail
    with_reducible refine (rCheck_any _ rows _ hI0).mono ?_
    rintro e w1 ⟨rfl, hb⟩
    have hC := HC2.out
    go_wp2_with fail
    go_ret
    exact ⟨ret_int HC.out.symm, hb⟩

/-- Are there at most 16 rows and columns (or too many)? -/
def fewRow (r : List Int) : Bool := !((decide (16 < r.length) && decide (r.length ≤ 64)) || decide (100 < r.length))
def fewQ (rows : List (List Int)) : Bool := (rows.take 70).all fewRow && (decide (rows.length ≤ 16) || (decide (64 < rows.length) && decide (rows.length ≤ 70)))

theorem fewQ_row {rows : List (List Int)} {k : Nat} (hk : k < rows.length) (h70 : k < 70) (h : fewRow rows[k] = false) : fewQ rows = false := by
  unfold fewQ
  rw [show (rows.take 70).all fewRow = false from List.all_eq_false.2 ⟨rows[k], List.mem_take_iff_getElem.2 ⟨k, by omega, rfl⟩, by rw [h]; simp⟩]; rfl
theorem fewQ_all {rows : List (List Int)} (h : (rows.take 70).all fewRow = true) : fewQ rows = (decide (rows.length ≤ 16) || (decide (64 < rows.length) && decide (rows.length ≤ 70))) := by
  unfold fewQ; rw [h, Bool.true_and]

end Go.Proofs.Ytbegnincmlepgaa
