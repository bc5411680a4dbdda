/- The laws' own functions: right, made, proves. -/
import Derived.Test.YtjjdgphjkoppgaaLinV
namespace Go.Proofs.Ytjjdgphjkoppgaa
open Go.RowKit

/-- Are rows and a target right, and few? -/
def rightQ (rows : List (List Int)) (t : List Int) : Bool := fewQ rows && (decide (t.length ≤ 16) && decide (examErr rows t = 0))

set_option maxHeartbeats 1000000 in
theorem right_any (v u : Value) (rows : List (List Int)) (t : List Int) (w : World) (hI : Rows2 w v rows) (hU : Ints w u t) :
    Calls Try.prog 21 #[v, u] w fun e w' => e = .returned (.bool (rightQ rows t)) ∧ Below w.heap.size w w' := by
  have hI0 := hI
  have hU0 := hU
  obtain ⟨a, cap, rfl, -⟩ := hI
  obtain ⟨a2, cap2, rfl, -⟩ := hU
  cases hf : fewQ rows with
  | false =>
    have HF := Lib.hid hf
    have HR := Lib.hid (show rightQ rows t = false by unfold rightQ; rw [hf]; rfl)
    clear hf
    go_enter Try.func21, Try.ntmps21
    go_wp2_with fail
    with_reducible refine (Few_any _ rows _ hI0).mono ?_
    rintro e w1 ⟨rfl, rfl⟩
    rw [HF.out]
    go_wp2_with fail
    go_ret
    exact ⟨ret_bool HR.out.symm, Below.refl _ _⟩
  | true =>
    have HF := Lib.hid hf
    by_cases h16 : t.length ≤ 16
    · have d16 : decide ((t.length : Int) ≤ 16) = true := decide_eq_true (by omega)
      by_cases h0 : examErr rows t = 0
      · have HR := Lib.hid (show rightQ rows t = true by unfold rightQ; rw [hf, decide_eq_true h16, decide_eq_true h0]; rfl)
        have H0 := Lib.hid h0
        clear hf h0
        go_enter Try.func21, Try.ntmps21
        go_wp2_with fail
        with_reducible refine (Few_any _ rows _ hI0).mono ?_
        rintro e w1 ⟨rfl, rfl⟩
        rw [HF.out]
        go_wp2_with fail
        with_reducible refine (rError_any _ _ rows t _ hI0 hU0).mono ?_
        rintro e w1 ⟨rfl, hb⟩
        rw [H0.out]
        go_wp2_with fail
        go_ret
        exact ⟨ret_bool HR.out.symm, hb⟩
      · have HR := Lib.hid (show rightQ rows t = false by unfold rightQ; rw [hf, decide_eq_true h16, decide_eq_false h0]; rfl)
        have h0' : (examErr rows t == 0) = false := by simpa using h0
        have H0 := Lib.hid h0'
        clear hf h0 h0'
        go_enter Try.func21, Try.ntmps21
        go_wp2_with fail
        with_reducible refine (Few_any _ rows _ hI0).mono ?_
        rintro e w1 ⟨rfl, rfl⟩
        rw [HF.out]
        go_wp2_with fail
        with_reducible refine (rError_any _ _ rows t _ hI0 hU0).mono ?_
        rintro e w1 ⟨rfl, hb⟩
        have h0' := H0.out
        go_wp2_with fail
        go_ret
        exact ⟨ret_bool HR.out.symm, hb⟩
    · have d16 : decide ((t.length : Int) ≤ 16) = false := decide_eq_false (by omega)
      have HR := Lib.hid (show rightQ rows t = false by unfold rightQ; rw [hf, decide_eq_false h16]; rfl)
      clear hf
      go_enter Try.func21, Try.ntmps21
      go_wp2_with fail
      with_reducible refine (Few_any _ rows _ hI0).mono ?_
      rintro e w1 ⟨rfl, rfl⟩
      rw [HF.out]
      go_wp2_with fail
      go_ret
      exact ⟨ret_bool HR.out.symm, Below.refl _ _⟩

/-- Does a list have the product 0 with all rows, and 1 with a target? -/
def provesQ (rows : List (List Int)) (t w : List Int) : Bool :=
  decide (w.length = t.length) && ((rows.all fun r => decide (r.length = w.length) && decide (prodQ r w = 0)) && decide (prodQ t w = 1))

theorem product_is (v u : Value) (a b : List Int) (z : Int) (w : World) (hI : Ints w v a) (hJ : Ints w u b) (hl : a.length ≤ b.length) (hz : prodQ a b = z) :
    Calls Try.prog 44 #[v, u] w fun e w' => e = .returned (.int .i64 z) ∧ Below w.heap.size w w' := hz ▸ product_any v u a b w hI hJ hl

set_option maxRecDepth 100000 in
set_option maxHeartbeats 4000000 in
theorem proves_any (v u x : Value) (rows : List (List Int)) (t l : List Int) (w : World) (hI : Rows2 w v rows) (hU : Ints w u t) (hW : Ints w x l) :
    Calls Try.prog 23 #[v, u, x] w fun e w' => e = .returned (.bool (provesQ rows t l)) ∧ Below w.heap.size w w' := by
  have hI0 := hI
  have hU0 := hU
  have hW0 := hW
  obtain ⟨a, cap, rfl, hcap, hlen, hk⟩ := hI
  obtain ⟨a2, cap2, rfl, q1, q2, -⟩ := hU
  obtain ⟨a3, cap3, rfl, q3, q4, -⟩ := hW
  by_cases hl : l.length = t.length
  · have HL := Lib.hid hl
    have hlb : ((l.length : Int) != (t.length : Int)) = false := by rw [hl]; simp
    have hlb2 : (l.length != t.length) = false := by rw [hl]; simp
    clear hl
    go_enter Try.func23, Try.ntmps23
    go_wp2_with fail
    go_loopw [8, 16] (fun _ i wr => ∃ k : Nat, k ≤ rows.length ∧ i = .int .i64 k ∧ Hid (∀ r ∈ rows.take k, (decide (r.length = l.length) && decide (prodQ r l = 0)) = true) ∧ Below w.heap.size w wr) (fun _ i _ => rows.length - (intOf i).toNat)
    case atStart => exact ⟨0, Nat.zero_le _, rfl, Lib.hid (by simp), Below.refl _ _⟩
    case round =>
      obtain ⟨k, hkl, rfl, HP, hb⟩ := hrel
      by_cases hlt : k < rows.length
      · obtain ⟨b, off, r, rfl, hc, hr⟩ := hk k hlt
        have hrb := hr.below hb
        have hWb := hW0.below hb
        have hcb := below_cell hb hc
        obtain ⟨p, c, rfl, m1, m2, -⟩ := hr
        clear hk hc
        by_cases hrl : rows[k].length = l.length
        · have hn : ((rows[k].length : Int) != (l.length : Int)) = false := by rw [hrl]; simp
          have hn2 : (rows[k].length != l.length) = false := by rw [hrl]; simp
          by_cases hz : prodQ rows[k] l = 0
          · have HN := Lib.hid (take_all hlt HP.out (show (decide (rows[k].length = l.length) && decide (prodQ rows[k] l = 0)) = true by rw [decide_eq_true hrl, decide_eq_true hz]; rfl))
            have HPR := Lib.hid (product_is _ _ rows[k] l 0 wr hrb hWb (by omega) hz)
            clear hz hrl
            go_wp2_with fail
            with_reducible refine HPR.out.mono ?_
            rintro e w1 ⟨rfl, hb1⟩
            go_wp2_with fail
            go_roundw
            case rel => exact ⟨k + 1, by omega, by go_num, HN, hb.trans (hb1.mono hb.size)⟩
            case measure => simp [intOf]; omega
          · have HN := Lib.hid (show provesQ rows t l = false by
              unfold provesQ
              rw [show (rows.all fun r => decide (r.length = l.length) && decide (prodQ r l = 0)) = false from List.all_eq_false.2 ⟨_, List.getElem_mem hlt, by rw [decide_eq_false hz, Bool.and_false]; simp⟩]; simp)
            have HPR := Lib.hid (product_is _ _ rows[k] l _ wr hrb hWb (by omega) rfl)
            have hz' : (prodQ rows[k] l != 0) = true := by simpa using hz
            have HZ := Lib.hid hz'
            clear hz hrl hz'
            go_wp2_with fail
            with_reducible refine HPR.out.mono ?_
            rintro e w1 ⟨rfl, hb1⟩
            have hz' := HZ.out
            go_wp2_with fail
            go_ret
            exact ⟨ret_bool HN.out.symm, hb.trans (hb1.mono hb.size)⟩
        · have hn : ((rows[k].length : Int) != (l.length : Int)) = true := by rw [bne_iff_ne]; omega
          have hn2 : (rows[k].length != l.length) = true := by rw [bne_iff_ne]; exact hrl
          have HN := Lib.hid (show provesQ rows t l = false by
            unfold provesQ
            rw [show (rows.all fun r => decide (r.length = l.length) && decide (prodQ r l = 0)) = false from List.all_eq_false.2 ⟨_, List.getElem_mem hlt, by rw [decide_eq_false hrl]; simp⟩]; simp)
          clear hrl
          go_wp2_with fail
          go_ret
          exact ⟨ret_bool HN.out.symm, hb⟩
      · have HA := Lib.hid (show (rows.all fun r => decide (r.length = l.length) && decide (prodQ r l = 0)) = true from List.all_eq_true.2 (take_whole hlt HP.out))
        have HPR := Lib.hid (product_is _ _ t l _ wr (hU0.below hb) (hW0.below hb) (by rw [HL.out]; exact Nat.le_refl _) rfl)
        by_cases hz : prodQ t l = 1
        · have HN := Lib.hid (show provesQ rows t l = true by unfold provesQ; rw [HA.out, decide_eq_true HL.out, decide_eq_true hz]; rfl)
          have HZ := Lib.hid hz
          clear hz
          go_wp2_with fail
          with_reducible refine HPR.out.mono ?_
          rintro e w1 ⟨rfl, hb1⟩
          rw [HZ.out]
          go_wp2_with fail
          go_ret
          exact ⟨ret_bool HN.out.symm, hb.trans (hb1.mono hb.size)⟩
        · have HN := Lib.hid (show provesQ rows t l = false by unfold provesQ; rw [decide_eq_false hz]; simp)
          have hz' : (prodQ t l == 1) = false := by simpa using hz
          have HZ := Lib.hid hz'
          clear hz hz'
          go_wp2_with fail
          with_reducible refine HPR.out.mono ?_
          rintro e w1 ⟨rfl, hb1⟩
          have hz' := HZ.out
          go_wp2_with fail
          go_ret
          exact ⟨ret_bool HN.out.symm, hb.trans (hb1.mono hb.size)⟩
  · have HR := Lib.hid (show provesQ rows t l = false by unfold provesQ; rw [decide_eq_false hl]; rfl)
    have hlb : ((l.length : Int) != (t.length : Int)) = true := by rw [bne_iff_ne]; omega
    have hlb2 : (l.length != t.length) = true := by rw [bne_iff_ne]; exact hl
    clear hl
    go_enter Try.func23, Try.ntmps23
    go_wp2_with fail
    go_ret
    exact ⟨ret_bool HR.out.symm, Below.refl _ _⟩

end Go.Proofs.Ytjjdgphjkoppgaa
