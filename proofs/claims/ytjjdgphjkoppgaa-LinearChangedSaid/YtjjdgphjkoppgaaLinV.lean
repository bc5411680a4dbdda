/- The reference of package linear: Combine, where there are no columns. -/
import Derived.Test.YtjjdgphjkoppgaaLinU
namespace Go.Proofs.Ytjjdgphjkoppgaa
open Go.RowKit

set_option maxRecDepth 100000 in
set_option maxHeartbeats 8000000 in
theorem rCombine_flat (v u : Value) (rows : List (List Int)) (w : World) (hI : Rows2 w v rows) (hU : Ints w u []) (h0 : examErr rows [] = 0) (hR : Right rows 0) :
    Calls Try.prog 17 #[v, u] w (RCombPost rows [] w) := by
  have hI0 := hI
  have H0 := Lib.hid h0
  clear h0
  obtain ⟨a, cap, rfl, hcap, hlen, -⟩ := hI
  obtain ⟨a2, cap2, rfl⟩ := hU.nil_of
  have hU0 : Ints w (.slice a2 0 cap2) [] := hU
  obtain ⟨hr1, hr2, hr3, hr4⟩ := hR
  have HL := Lib.hid hr3
  clear hr3 hr4
  go_enter Try.func17, Try.ntmps17
  go_wp2_with fail
  with_reducible refine (rError_any _ _ rows [] _ hI0 hU0).mono ?_
  rintro e w1 ⟨rfl, hb1⟩
  rw [H0.out]
  go_wp2_with fail
  have hTu : Calls Try.prog 37 #[.slice a rows.length cap, .int .i64 0] w1 _ := Turned_any _ rows 0 _ (hI0.below hb1) (fun r hr => Nat.zero_le _) (by omega) (by omega)
  with_reducible refine hTu.mono ?_
  rintro e w2 ⟨ov, hs0, rfl, hTS⟩
  obtain ⟨po, co, rfl⟩ := owns_slice hTS.out
  have hlow2 := hTS.low
  clear hTS
  go_wp2_with fail
  refine wp_loop_rounds 1 ?_
  rw [rounds_succ]
  go_wp2_with fail
  with_reducible refine (Reduced_mat _ [] rows.length rows.length _ (Rows2.nil _ _ _) (by simp) (by simp) (by simp) (by omega) (Nat.le_refl _)).mono ?_
  rintro e w3 ⟨a3, c3, pv, B0, rfl, hc3, hS⟩
  obtain ⟨hTab, hown, hlow, htop⟩ := hS
  have hpl : (redR ([] : List (List Int)).length (matOf []) rows.length).2 = [] := List.length_eq_zero_iff.1 (by have := redR_len 0 (matOf []) rows.length; show (redR 0 _ _).2.length = 0; omega)
  rw [hpl] at hown
  obtain ⟨pp, pc, rfl⟩ := owns_slice hown
  have hbw : Below w.heap.size w w3 := hb1.trans ((hlow2.mono hb1.size).trans (hlow.mono (Nat.le_trans hb1.size hlow2.size)))
  have hmk := run_ints rows.length (by omega)
  have HPL := Lib.hid hpl
  clear hpl hTab hown
  go_wp2_with fail
  refine wp_loop_rounds 1 ?_
  rw [rounds_succ]
  go_wp2_with fail
  refine wp_loop_rounds 1 ?_
  rw [rounds_succ]
  go_wp2_with fail
  go_ret3
  have hrc : (rcombM rows []).2 = [] := HPL.out
  have hok : rcombOk rows [] = true := by unfold rcombOk okM; rw [hrc]; rfl
  have hI4 := (IBlk.made w3 rows.length 3).ints (Nat.le_refl _) hlen (fun _ _ => by unfold R64; omega)
  refine ⟨.slice (some ⟨w3.heap.size, 0, none⟩) rows.length rows.length, ?_, ?_, hbw.alloc hbw.size _⟩
  · rw [hok, H0.out]; rfl
  · rw [hok, if_pos ⟨H0.out, rfl⟩]
    unfold rcombY
    rw [hrc]; exact hI4

theorem rCombine_any (v u : Value) (rows : List (List Int)) (t : List Int) (w : World) (hI : Rows2 w v rows) (hU : Ints w u t) :
    Calls Try.prog 17 #[v, u] w (RCombPost rows t w) := by
  by_cases h0 : examErr rows t = 0
  · obtain ⟨h1, h2, h3⟩ := examErr_ok_iff h0
    by_cases ht : t.length = 0
    · obtain rfl : t = [] := List.length_eq_zero_iff.1 ht
      exact rCombine_flat v u rows w hI hU h0 h1
    · exact rCombine_wide v u rows t w hI hU h0 h1 h2 h3 (by omega)
  · refine (rCombine_err v u rows t w hI hU h0).mono ?_
    rintro e w' ⟨rfl, hb⟩
    refine ⟨.slice none 0 0, ?_, ?_, hb⟩
    · rw [decide_eq_false h0]; rfl
    · rw [if_neg (fun h => h0 h.1)]; exact Ints.nil _ _ _

end Go.Proofs.Ytjjdgphjkoppgaa
