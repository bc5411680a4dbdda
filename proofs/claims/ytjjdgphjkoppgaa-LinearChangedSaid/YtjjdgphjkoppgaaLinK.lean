/- Package linear: Separate. -/
import Derived.Test.YtjjdgphjkoppgaaLinJ
namespace Go.Proofs.Ytjjdgphjkoppgaa
open Go.RowKit

theorem take_succ_all {α : Type} {P : α → Prop} {l : List α} {k : Nat} (h : k < l.length) (h1 : ∀ x ∈ l.take k, P x) (h2 : P l[k]) : ∀ x ∈ l.take (k + 1), P x := take_all h h1 h2

set_option maxHeartbeats 1000000 in
theorem index_yes (v : Value) (zs : List Int) (c : Int) (w : World) (hI : Ints w v zs) (hc : c ∈ zs) :
    Calls Try.prog 52 #[v, .int .i64 c] w fun e w' => (∃ k : Nat, e = .returned (.int .i64 k)) ∧ w = w' := by
  obtain ⟨a, cap', rfl, hcap, hlen, hr, hk⟩ := hI
  have HC := Lib.hid hc
  clear hc
  go_enter Try.func52, Try.ntmps52
  go_wp2
  go_loop [5, 8] (fun _ i => ∃ k : Nat, k ≤ zs.length ∧ i = .int .i64 k ∧ Hid (∀ z ∈ zs.take k, z ≠ c)) (fun _ i => zs.length - (intOf i).toNat)
  case atStart => exact ⟨0, Nat.zero_le _, rfl, Lib.hid (by simp)⟩
  case round =>
    obtain ⟨k, hkl, rfl, HP⟩ := hrel
    by_cases hlt : k < zs.length
    · obtain ⟨b, off, rfl, hc⟩ := hk k hlt
      clear hk hr
      by_cases he : c = zs[k]
      · have he' : (c == zs[k]) = true := by simpa using he
        clear he
        go_wp2_with fail
        go_ret
        exact ⟨⟨k, rfl⟩, rfl⟩
      · have he' : (c == zs[k]) = false := by simpa using he
        have HN := Lib.hid (take_all hlt HP.out (fun e => he e.symm))
        clear he
        go_wp2_with fail
        go_round
        case rel => exact ⟨k + 1, by omega, by go_num, HN⟩
        case measure => simp [intOf]; omega
    · exact absurd rfl (take_whole hlt HP.out _ HC.out)

set_option maxHeartbeats 1000000 in
theorem index_no (v : Value) (zs : List Int) (c : Int) (w : World) (hI : Ints w v zs) (hc : c ∉ zs) :
    Calls Try.prog 52 #[v, .int .i64 c] w fun e w' => e = .returned (.int .i64 (-1)) ∧ w = w' := by
  obtain ⟨a, cap', rfl, hcap, hlen, hr, hk⟩ := hI
  have HC := Lib.hid hc
  clear hc
  go_enter Try.func52, Try.ntmps52
  go_wp2
  go_loop [5, 8] (fun _ i => ∃ k : Nat, k ≤ zs.length ∧ i = .int .i64 k) (fun _ i => zs.length - (intOf i).toNat)
  case atStart => exact ⟨0, Nat.zero_le _, rfl⟩
  case round =>
    obtain ⟨k, hkl, rfl⟩ := hrel
    by_cases hlt : k < zs.length
    · obtain ⟨b, off, rfl, hc⟩ := hk k hlt
      have he : (c == zs[k]) = false := by
        rw [beq_eq_false_iff_ne]; intro e; exact HC.out (e ▸ List.getElem_mem hlt)
      clear hk hr
      go_wp2_with fail
      go_round
      case rel => exact ⟨k + 1, by omega, by go_num⟩
      case measure => simp [intOf]; omega
    · go_wp2_with fail
      go_ret
      exact ⟨rfl, rfl⟩

theorem contains_yes (v : Value) (zs : List Int) (c : Int) (w : World) (hI : Ints w v zs) (hc : c ∈ zs) :
    Calls Try.prog 38 #[v, .int .i64 c] w fun e w' => e = .returned (.bool true) ∧ w = w' := by
  go_enter Try.func38, Try.ntmps38
  go_wp2_with fail
  with_reducible refine (index_yes _ zs c _ hI hc).mono ?_
  rintro e w' ⟨⟨k, rfl⟩, rfl⟩
  have : decide ((0 : Int) ≤ (k : Int)) = true := decide_eq_true (by omega)
  go_wp2_with fail
  go_ret
  exact ⟨rfl, rfl⟩
theorem contains_no (v : Value) (zs : List Int) (c : Int) (w : World) (hI : Ints w v zs) (hc : c ∉ zs) :
    Calls Try.prog 38 #[v, .int .i64 c] w fun e w' => e = .returned (.bool false) ∧ w = w' := by
  go_enter Try.func38, Try.ntmps38
  go_wp2_with fail
  with_reducible refine (index_no _ zs c _ hI hc).mono ?_
  rintro e w' ⟨rfl, rfl⟩
  go_wp2_with fail
  go_ret
  exact ⟨rfl, rfl⟩

/-- The reduced rows. -/
def sepM (rows : List (List Int)) (t : List Int) : Mat × List Nat := redM rows.length (matOf rows) t.length
/-- The list with 1 at column c, after so many pivots. -/
def sepW (x : Mat) (piv : List Nat) (c : Nat) : Nat → Nat → Int
  | 0 => fun i => if i = c then 1 else 0
  | k + 1 => fun i => if i = piv[k]?.getD 0 then -(x k c) % 1073741789 else sepW x piv c k i
/-- Its product with the target, after so many pivots. -/
def sepP (x : Mat) (piv : List Nat) (t : List Int) (c : Nat) : Nat → Int
  | 0 => t[c]?.getD 0
  | k + 1 => (sepP x piv t c k + (-(x k c) % 1073741789) * t[piv[k]?.getD 0]?.getD 0 % 1073741789) % 1073741789
def sepHit (x : Mat) (piv : List Nat) (t : List Int) (c : Nat) : Bool := !piv.contains c && !(sepP x piv t c piv.length % 1073741789 == 0)
def sepC (rows : List (List Int)) (t : List Int) : Option Nat := (List.range t.length).find? (sepHit (sepM rows t).1 (sepM rows t).2 t)
def sepL (x : Mat) (piv : List Nat) (t : List Int) (c : Nat) : List Int := (List.range t.length).map fun i => sepW x piv c piv.length i * invQ (sepP x piv t c piv.length) % 1073741789
def sepQ (rows : List (List Int)) (t : List Int) : Option (List Int) := (sepC rows t).map (sepL (sepM rows t).1 (sepM rows t).2 t)

/-- What Separate returns. -/
def SepPost (rows : List (List Int)) (t : List Int) (w : World) (e : Ending) (w' : World) : Prop :=
  ∃ yv, e = .returned (.tuple #[yv, .bool (decide (examErr rows t = 0) && (sepQ rows t).isSome), .int .i64 (examErr rows t)]) ∧ Ints w' yv (if examErr rows t = 0 then (sepQ rows t).getD [] else []) ∧ Below w.heap.size w w'

set_option maxRecDepth 100000 in
set_option maxHeartbeats 4000000 in
theorem Separate_err (v u : Value) (rows : List (List Int)) (t : List Int) (w : World) (hI : Rows2 w v rows) (hU : Ints w u t) (h0 : examErr rows t ≠ 0) :
    Calls Try.prog 18 #[v, u] w fun e w' => e = .returned (.tuple #[.slice none 0 0, .bool false, .int .i64 (examErr rows t)]) ∧ Below w.heap.size w w' := by
  have hb0 : Below w.heap.size w (w.alloc (.cells #[.int .i64 0] 25)) := (Below.refl _ _).alloc (Nat.le_refl _) _
  have hI1 := hI.below hb0
  have hU1 := hU.below hb0
  have H0 := Lib.hid h0
  clear h0
  go_enter_defers Try.func18, Try.ntmps18
  go_wp2_with fail
  with_reducible refine (mono_ending (examine_any _ _ rows t _ hI1 hU1) (raised_not H0.out)).mono ?_
  rintro e w1 ⟨rfl, hb⟩
  obtain ⟨hc1, hf1⟩ := box_later hb
  refine leaves_cons (f := 30) (args := #[.pointer (some ⟨w.heap.size, 0, none⟩)]) (by simp) (by simp [go_sem]) ?_
  refine (caught_panicking _ 0 (examErr rows t) [] _ hc1 hf1).mono ?_
  rintro e u' w'' ⟨rfl, rfl, rfl⟩
  have hx := World.cell?_setCell_same' w1 ⟨w.heap.size, 0, none⟩ (.int .i64 (examErr rows t)) (by rw [hc1]; rfl)
  simp [Leaves, settle, results, Try.results18, go_sem, hx, below_box hb]

set_option maxRecDepth 100000 in
set_option maxHeartbeats 4000000 in
theorem Separate_flat (v u : Value) (rows : List (List Int)) (w : World) (hI : Rows2 w v rows) (hU : Ints w u []) (h0 : examErr rows [] = 0) (hn : rows.length ≤ 64) (hF : Flat rows) :
    Calls Try.prog 18 #[v, u] w (SepPost rows [] w) := by
  have hb0 : Below w.heap.size w (w.alloc (.cells #[.int .i64 0] 25)) := (Below.refl _ _).alloc (Nat.le_refl _) _
  have hI1 := hI.below hb0
  have hU1 := hU.below hb0
  have H0 := Lib.hid h0
  have HF := Lib.hid hF
  clear h0 hF
  obtain ⟨a, cap, rfl, hcap, hlen, -⟩ := hI
  obtain ⟨a2, cap2, rfl⟩ := hU.nil_of
  clear hU
  go_enter_defers Try.func18, Try.ntmps18
  go_wp2_with fail
  with_reducible refine (mono_ending (examine_any _ _ rows [] _ hI1 hU1) (raised_zero H0.out)).mono ?_
  rintro e w1 ⟨rfl, hb⟩
  obtain ⟨hc1, hf1⟩ := box_later hb
  have hI2 := hI1.below hb
  go_wp2_with fail
  with_reducible refine (copyOf_flat _ rows _ hI2 HF.out (by omega)).mono ?_
  rintro e w2 ⟨rfl, hb2⟩
  have hc2 := below_cell hb2 hc1
  have hlt1 := lt_of_cell hc1
  have hf2 : w2.frozen? ⟨w.heap.size, 0, none⟩ = false := by rw [hb2.frozen (p := ⟨w.heap.size, 0, none⟩) hlt1]; exact hf1
  go_wp2_with fail
  with_reducible refine (reduce_flat _ _ ⟨_, _, _, rfl⟩).mono ?_
  rintro e w3 ⟨rfl, hb3⟩
  have hc3 := below_cell hb3 hc2
  have hf3 : w3.frozen? ⟨w.heap.size, 0, none⟩ = false := by rw [hb3.frozen (p := ⟨w.heap.size, 0, none⟩) (lt_of_cell hc2)]; exact hf2
  have hbw : Below w.heap.size w w3 := (below_new hb).trans (((hb2.mono (Nat.le_of_lt hlt1))).trans (hb3.mono (Nat.le_of_lt (lt_of_cell hc2))))
  go_wp2_with fail
  refine wp_loop_rounds 1 ?_
  rw [rounds_succ]
  go_wp2_with fail
  refine leaves_cons (f := 30) (args := #[.pointer (some ⟨w.heap.size, 0, none⟩)]) (by simp) (by simp [go_sem]) ?_
  refine (caught_idle _ _).mono ?_
  rintro e u' w'' ⟨rfl, rfl, rfl⟩
  have hx := World.cell?_setCell_same' w3 ⟨w.heap.size, 0, none⟩ (.int .i64 0) (by rw [hc3]; rfl)
  simp [Leaves, settle, results, Try.results18, go_sem, hx]
  have hq : sepQ rows [] = none := rfl
  refine ⟨.slice none 0 0, ?_, ?_, hbw.setCell (Nat.le_refl _) _⟩
  · rw [hq, H0.out]; rfl
  · rw [hq, H0.out]; exact Ints.nil _ _ _

end Go.Proofs.Ytjjdgphjkoppgaa
