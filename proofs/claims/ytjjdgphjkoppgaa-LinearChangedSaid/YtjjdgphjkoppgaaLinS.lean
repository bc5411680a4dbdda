/- The reference of package linear: Rank and Separate. -/
import Derived.Test.YtjjdgphjkoppgaaLinR
namespace Go.Proofs.Ytjjdgphjkoppgaa
open Go.RowKit

theorem Reduced_mat (v : Value) (rows : List (List Int)) (m many : Nat) (w : World) (hI : Rows2 w v rows) (hm : ∀ r ∈ rows, r.length = m) (hnum : ∀ r ∈ rows, ∀ z ∈ r, 0 ≤ z ∧ z < 1073741789) (hn : rows.length ≤ 1000000) (hm1 : m ≤ 1000000) (hmany : many ≤ m) :
    Calls Try.prog 29 #[v, .int .i64 many] w fun e w' => ∃ a c pv B0, e = .returned (.tuple #[.slice a rows.length c, pv]) ∧ rows.length ≤ c ∧ RedS w.heap.size B0 a rows.length m (matOf rows) w many pv w' :=
  Reduced_any v rows m many w hI hm hnum hn hm1 hmany

/-- What the reference's Rank returns. -/
def rrankQ (rows : List (List Int)) : Nat := if checkErr rows = 0 then (redR rows.length (matOf rows) (wide rows)).2.length else 0

set_option maxRecDepth 100000 in
set_option maxHeartbeats 4000000 in
theorem rRank_any (v : Value) (rows : List (List Int)) (w : World) (hI : Rows2 w v rows) :
    Calls Try.prog 13 #[v] w fun e w' => e = .returned (.tuple #[.int .i64 (rrankQ rows), .int .i64 (checkErr rows)]) ∧ Below w.heap.size w w' := by
  have hI0 := hI
  by_cases h0 : checkErr rows = 0
  · have hR := checkErr_ok h0
    have HQ := Lib.hid (show rrankQ rows = (redR rows.length (matOf rows) (wide rows)).2.length by rw [rrankQ, if_pos h0])
    have H0 := Lib.hid h0
    by_cases hn : rows = []
    · subst hn
      obtain ⟨a, cap, rfl, hcap, hlen, hk⟩ := hI
      have hI1 : Rows2 w (.slice a 0 cap) [] := hI0
      clear h0 hR
      go_enter Try.func13, Try.ntmps13
      go_wp2_with fail
      with_reducible refine (rCheck_any _ [] _ hI1).mono ?_
      rintro e w1 ⟨rfl, hb⟩
      rw [H0.out]
      go_wp2_with fail
      go_ret2
      refine ⟨?_, hb⟩
      have := redR_len 0 (matOf []) (wide [])
      rw [HQ.out, H0.out, show (redR ([] : List (List Int)).length (matOf []) (wide [])).2.length = 0 by show (redR 0 _ _).2.length = 0; omega]; rfl
    · have hn0 : 0 < rows.length := List.length_pos_iff.2 hn
      obtain ⟨a, cap, rfl, hcap, hlen, hk⟩ := hI
      obtain ⟨b0, off0, r0, rfl, hc0, hr0⟩ := hk 0 hn0
      obtain ⟨a0, cap0, rfl, m1, m2, m3, m4⟩ := hr0
      rw [wide_at rows hn0] at hc0 m1 m2
      rw [Nat.add_zero] at hc0
      obtain ⟨hr1, hr2, hr3, hr4⟩ := hR
      have HL := Lib.hid hr3
      have HN := Lib.hid hr4
      have hw : wide rows ≤ 64 := by rcases hr2 with h | h; exact h; exact absurd h hn
      have hnI : (0:Int) < (rows.length:Int) := by omega
      have h00 : ((rows.length:Int) == 0) = false := by rw [beq_eq_false_iff_ne]; omega
      clear h0 hr2 hr3 hr4 m3 m4 hk hn
      go_enter Try.func13, Try.ntmps13
      go_wp2_with fail
      with_reducible refine (rCheck_any _ rows _ hI0).mono ?_
      rintro e w1 ⟨rfl, hb⟩
      rw [H0.out]
      have hc1 := below_cell hb hc0
      go_wp2_with fail
      with_reducible refine (Reduced_mat _ rows (wide rows) (wide rows) _ (hI0.below hb) HL.out HN.out (by omega) (by omega) (Nat.le_refl _)).mono ?_
      rintro e w2 ⟨a2, c2, pv, B0, rfl, hc2, hS⟩
      obtain ⟨p, hp⟩ : ∃ p, p = (redR rows.length (matOf rows) (wide rows)).2 := ⟨_, rfl⟩
      have hown := hS.own
      rw [← hp] at hown
      have HP := Lib.hid hp
      have hlow := hS.low
      obtain ⟨pa, pc, rfl⟩ := owns_slice hown
      clear hp hS hown
      go_wp2_with fail
      go_ret2
      exact ⟨by rw [HQ.out, H0.out, ← HP.out]; rfl, hb.trans (hlow.mono hb.size)⟩
  · have hC : (checkErr rows != 0) = true := by simpa using h0
    have HC2 := Lib.hid hC
    have HQ := Lib.hid (show rrankQ rows = 0 by rw [rrankQ, if_neg h0])
    obtain ⟨a, cap, rfl, hcap, hlen, hk⟩ := hI
    clear h0 hC
    go_enter Try.func13, Try.ntmps13
    go_wp2_with fail
    with_reducible refine (rCheck_any _ rows _ hI0).mono ?_
    rintro e w1 ⟨rfl, hb⟩
    have hC := HC2.out
    go_wp2_with fail
    go_ret2
    exact ⟨by rw [HQ.out]; rfl, hb⟩

end Go.Proofs.Ytjjdgphjkoppgaa
