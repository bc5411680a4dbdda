/- The reference of package linear: Combine, where there are no columns. The laws' own functions: right, made, proves. The laws' own functions: made. -/
import Derived.Test.YtbegnincmlepgaaMLinU
namespace Go.Proofs.Ytbegnincmlepgaa
open Go.RowKit

set_option maxRecDepth 100000 in
set_option maxHeartbeats 8000000 in
theorem rCombine_flat (v u : Value) (rows : List (List Int)) (w : World) (hI : Rows2 w v rows) (hU : Ints w u []) (h0 : examErr rows [] = 0) (hR : Right rows 0) :
    Calls Try.prog 76 #[v, u] w (RCombPost rows [] w) := by
  have hI0 := hI
  have H0 := Lib.hid h0
  clear h0
  obtain ⟨a, cap, rfl, hcap, hlen, -⟩ := hI
  obtain ⟨a2, cap2, rfl⟩ := hU.nil_of
  have hU0 : Ints w (.slice a2 0 cap2) [] := hU
  obtain ⟨hr1, hr2, hr3, hr4⟩ := hR
  have HL := Lib.hid hr3
  clear hr3 hr4
  go_enter Try.func76, Try.ntmps76
  go_wp2_with fail
  with_reducible refine (rError_any _ _ rows [] _ hI0 hU0).mono ?_
  rintro e w1 ⟨rfl, hb1⟩
  rw [H0.out]
  go_wp2_with fail
  have hTu : Calls Try.prog 109 #[.slice a rows.length cap, .int .i64 0] w1 _ := Turned_any _ rows 0 _ (hI0.below hb1) (fun r hr => Nat.zero_le _) (by omega) (by omega)
  with_reducible refine hTu.mono ?_
  rintro e w2 ⟨ov, hs0, rfl, hTS⟩
  obtain ⟨po, co, rfl⟩ := owns_slice hTS.out
  have hlow2 := hTS.low
  clear hTS
  go_wp2_with fail
  refine wp_loop_rounds 1 ?_
  rw [rounds_succ]
  go_wp2_with fail
  with_reducible refine (Reduced_mat _ [] rows.length rows.length _ (Rows2.nil _ _ _) (by simp) (by simp) (by simp) (by omega) (Nat.le_refl _)).mono ?_
  rintro e w3 ⟨a3, c3, pv, B0, rfl, hc3, hS⟩
  obtain ⟨hTab, hown, hlow, htop⟩ := hS
  have hpl : (redR ([] : List (List Int)).length (matOf []) rows.length).2 = [] := List.length_eq_zero_iff.1 (by have := redR_len 0 (matOf []) rows.length; show (redR 0 _ _).2.length = 0; omega)
  rw [hpl] at hown
  obtain ⟨pp, pc, rfl⟩ := owns_slice hown
  have hbw : Below w.heap.size w w3 := hb1.trans ((hlow2.mono hb1.size).trans (hlow.mono (Nat.le_trans hb1.size hlow2.size)))
  have hmk := run_ints rows.length (by omega)
  have HPL := Lib.hid hpl
  clear hpl hTab hown
  go_wp2_with fail
  refine wp_loop_rounds 1 ?_
  rw [rounds_succ]
  go_wp2_with fail
  refine wp_loop_rounds 1 ?_
  rw [rounds_succ]
  go_wp2_with fail
  go_ret3
  have hrc : (rcombM rows []).2 = [] := HPL.out
  have hok : rcombOk rows [] = true := by unfold rcombOk okM; rw [hrc]; rfl
  have hI4 := (IBlk.made w3 rows.length 3).ints (Nat.le_refl _) hlen (fun _ _ => by unfold R64; omega)
  refine ⟨.slice (some ⟨w3.heap.size, 0, none⟩) rows.length rows.length, ?_, ?_, hbw.alloc hbw.size _⟩
  · rw [hok, H0.out]; rfl
  · rw [hok, if_pos ⟨H0.out, rfl⟩]
    unfold rcombY
    rw [hrc]; exact hI4

set_option maxRecDepth 100000 in
theorem rCombine_any (v u : Value) (rows : List (List Int)) (t : List Int) (w : World) (hI : Rows2 w v rows) (hU : Ints w u t) :
    Calls Try.prog 76 #[v, u] w (RCombPost rows t w) := by
  by_cases h0 : examErr rows t = 0
  · obtain ⟨h1, h2, h3⟩ := examErr_ok_iff h0
    by_cases ht : t.length = 0
    · obtain rfl : t = [] := List.length_eq_zero_iff.1 ht
      exact rCombine_flat v u rows w hI hU h0 h1
    · exact rCombine_wide v u rows t w hI hU h0 h1 h2 h3 (by omega)
  · refine (rCombine_err v u rows t w hI hU h0).mono ?_
    rintro e w' ⟨rfl, hb⟩
    refine ⟨.slice none 0 0, ?_, ?_, hb⟩
    · rw [decide_eq_false h0]; rfl
    · rw [if_neg (fun h => h0 h.1)]; exact Ints.nil _ _ _

end Go.Proofs.Ytbegnincmlepgaa

namespace Go.Proofs.Ytbegnincmlepgaa
open Go.RowKit

/-- Are rows and a target right, and few? -/
def rightQ (rows : List (List Int)) (t : List Int) : Bool := fewQ rows && (decide (t.length ≤ 16) && decide (examErr rows t = 0))

/-- Does a list have the product 0 with all rows, and 1 with a target? -/
def provesQ (rows : List (List Int)) (t w : List Int) : Bool :=
  decide (w.length = t.length) && ((rows.all fun r => decide (r.length = w.length) && decide (prodQ r w = 0)) && decide (prodQ t w = 1))

end Go.Proofs.Ytbegnincmlepgaa

namespace Go.Proofs.Ytbegnincmlepgaa
open Go.RowKit

/-- What the first i rows make. -/
def madeF (rows : List (List Int)) (y : List Int) : Nat → Nat → Int
  | 0 => fun _ => 0
  | i + 1 => fun k => (madeF rows y i k + nth y i * nth (rows[i]?.getD []) k % 1073741789) % 1073741789
theorem madeF_num (rows : List (List Int)) (y : List Int) : ∀ i k, 0 ≤ madeF rows y i k ∧ madeF rows y i k < 1073741789
  | 0, k => by simp [madeF]
  | i + 1, k => mod_num _
/-- In the midst of a row. -/
def madeG (rows : List (List Int)) (y : List Int) (i K : Nat) : Nat → Int := fun k => if k < K then madeF rows y (i + 1) k else madeF rows y i k
theorem madeG_0 (rows : List (List Int)) (y : List Int) (i : Nat) : madeG rows y i 0 = madeF rows y i := by funext k; unfold madeG; rw [if_neg (by omega)]
theorem madeG_at (rows : List (List Int)) (y : List Int) (i K : Nat) : madeG rows y i K K = madeF rows y i K := by unfold madeG; rw [if_neg (by omega)]
theorem madeG_s (rows : List (List Int)) (y : List Int) (i K : Nat) : (fun k => if k = K then madeF rows y (i + 1) K else madeG rows y i K k) = madeG rows y i (K + 1) := by
  funext k; unfold madeG
  by_cases e : k = K
  · rw [if_pos e, if_pos (by omega), e]
  · rw [if_neg e]
    by_cases h : k < K
    · rw [if_pos h, if_pos (by omega)]
    · rw [if_neg h, if_neg (by omega)]

/-- What a combination makes; nothing unless it has a number for each row, and the rows are so long. -/
def madeOk (rows : List (List Int)) (y : List Int) (many : Nat) : Bool := decide (y.length = rows.length) && rows.all fun r => decide (r.length = many)
def madeL (rows : List (List Int)) (y : List Int) (many : Nat) : List Int := (List.range many).map (madeF rows y rows.length)
def MadePost (rows : List (List Int)) (y : List Int) (many : Nat) (w : World) (e : Ending) (w' : World) : Prop :=
  ∃ yv, e = .returned (.tuple #[yv, .bool (madeOk rows y many)]) ∧ Ints w' yv (if madeOk rows y many = true then madeL rows y many else []) ∧ Below w.heap.size w w'

end Go.Proofs.Ytbegnincmlepgaa
