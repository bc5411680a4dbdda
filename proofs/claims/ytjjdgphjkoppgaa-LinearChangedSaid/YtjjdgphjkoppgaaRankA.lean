/- For LinearRank: slices of rows, rows and one more, what Rank and Combine give. -/
import Derived.Test.YtjjdgphjkoppgaaGive
import Derived.Test.YtjjdgphjkoppgaaOpen
import Derived.Test.YtjjdgphjkoppgaaLaI
namespace Go.Proofs.Ytjjdgphjkoppgaa
open Go.ChangeShapes Go.WideShapes Go.ChangeAt Go.RowKit Go.Deep

theorem slice_head (t : TypeId) (ht : Try.prog.underlying t = some (.slice (Try.prog.elem t))) (hs : ∀ W : World, (sizeOf (Try.prog.elem t)).run Try.prog W = .ok 1 W) (b off n cap k : Nat) (hk : k ≤ cap) (h0 : 0 < cap) (W : World) :
    (Instr.sliceAt t (.slice (some ⟨b, off, none⟩) n cap) none (some (.int .i64 (k : Int))) none).run Try.prog W = .ok (.slice (some ⟨b, off, none⟩) k cap) W := by
  have h1 : (Instr.slice t (.slice (some ⟨b, off, none⟩) n cap) none (some (.int .i64 (k : Int))) none).run Try.prog W = ((sizeOf (Try.prog.elem t)).run Try.prog W).andThen fun s w => .ok (sliced (some ⟨b, off, none⟩) 0 (k : Int).toNat cap s) w :=
    run_slice_h (P := Try.prog) (w := W) t (some ⟨b, off, none⟩) n cap ht .i64 k (by omega) (by omega)
  rw [run_sliceAt_slice (P := Try.prog) (w := W) _ _ _ _ _ ht, h1, hs]
  have : cap ≠ 0 := by omega
  simp [sliced, Result.andThen, this, Addr.add]

theorem slice_rows (b off n cap k : Nat) (hk : k ≤ cap) (h0 : 0 < cap) (W : World) :
    (Instr.sliceAt 22 (.slice (some ⟨b, off, none⟩) n cap) none (some (.int .i64 (k : Int))) none).run Try.prog W = .ok (.slice (some ⟨b, off, none⟩) k cap) W :=
  slice_head 22 Try.underlying22 (fun W => by kernel_rfl) b off n cap k hk h0 W

theorem Rows2.take {w : World} {a : Option Addr} {cap : Nat} {rows : List (List Int)} (h : Rows2 w (.slice a rows.length cap) rows) {i : Nat} (hi : i ≤ rows.length) : Rows2 w (.slice a i cap) (rows.take i) := by
  obtain ⟨a', cap', e, h1, h2, h3⟩ := h
  injection e with e1 e2 e3
  subst e1; subst e3
  refine ⟨a, cap, by rw [List.length_take, Nat.min_eq_left hi], by rw [List.length_take]; omega, by rw [List.length_take]; omega, fun k hk => ?_⟩
  rw [List.length_take] at hk
  obtain ⟨b, off, r, q1, q2, q3⟩ := h3 k (by omega)
  exact ⟨b, off, r, q1, q2, by rw [List.getElem_take]; exact q3⟩

/-- A new slice of the headers of rows, owned. -/
theorem app_rows2 (W : World) (v : Value) (rows : List (List Int)) (hI : Rows2 W v rows) (hn : rows.length ≤ 1000000) :
    ∃ a' c' w' hs, (Builtin.append_ #[22, 22] 22 #[.slice (some ⟨W.heap.size, 0, none⟩) 0 0, v]).run Try.prog (W.alloc (.cells #[] 29)) = .ok (.slice a' rows.length c') w' ∧ rows.length ≤ c' ∧
      w'.ownsRow W.heap.size 29 1 (.slice a' rows.length c') rows.length hs ∧ hs.length = rows.length ∧ (∀ k (h1 : k < hs.length) (h2 : k < rows.length), Ints W hs[k] rows[k]) ∧ Below W.heap.size W w' := by
  obtain ⟨a, cap, rfl, hcap, hlen, hk⟩ := hI
  by_cases hn0 : rows.length = 0
  · have h0 : rows = [] := List.length_eq_zero_iff.1 hn0
    subst h0
    refine ⟨some ⟨W.heap.size, 0, none⟩, 0, W.alloc (.cells #[] 29), [], ?_, Nat.le_refl _, World.ownsRow_lit W #[] 0 (Nat.le_refl _) (by simp) rfl, rfl, fun k h1 => absurd h1 (Nat.not_lt_zero _), (Below.refl _ _).alloc (Nat.le_refl _) _⟩
    cases a <;> simp [go_sem]
  · obtain ⟨b0, off0, r0, rfl, -, -⟩ := hk 0 (by omega)
    obtain ⟨hd, hhd⟩ : ∃ hd : Nat → Value, ∀ k (h : k < rows.length), W.cell? ⟨b0, off0 + k, none⟩ = some (hd k) ∧ Ints W (hd k) rows[k] := by
      have hk' : ∀ k (h : k < rows.length), ∃ r, W.cell? ⟨b0, off0 + k, none⟩ = some r ∧ Ints W r rows[k] := fun k h => by
        obtain ⟨b, off, r, e1, e2, e3⟩ := hk k h
        injection e1 with e4
        injection e4 with e5 e6
        subst e5; subst e6
        exact ⟨r, e2, e3⟩
      refine ⟨fun k => if h : k < rows.length then (hk' k h).choose else undef, fun k h => ?_⟩
      simp only [dif_pos h]
      exact (hk' k h).choose_spec
    have hown : (W.alloc (.cells #[] 29)).ownsRow W.heap.size 29 1 (.slice (some ⟨W.heap.size, 0, none⟩) 0 0) 0 [] := World.ownsRow_lit W #[] 0 (Nat.le_refl _) (by simp) rfl
    obtain ⟨i0, hi0, hz0, hz1, hz2⟩ := info_parts infoRw
    have hb1 : Below W.heap.size W (W.alloc (.cells #[] 29)) := (Below.refl _ _).alloc (Nat.le_refl _) _
    obtain ⟨v', w', hr, hown', hgrow, -⟩ := run_append_own (P := Try.prog) (W.alloc (.cells #[] 29)) W.heap.size 22 22 29 i0 (.slice none 0 0) 1 24 Try.underlying22 hi0 hz0 hz1 hz2 rfl (by decide)
      _ 0 [] hown ⟨b0, off0, none⟩ rows.length cap ((List.range rows.length).map hd) (by simp) (by
        intro j u hu
        have hj : j < rows.length := by
          by_cases h : j < rows.length
          · exact h
          · rw [List.getElem?_eq_none (by simpa using h)] at hu; cases hu
        have : u = hd j := by simp [hj] at hu; exact hu.symm
        rw [this]
        have hc := below_cell hb1 (hhd j hj).1
        unfold Addr.add
        split
        · rename_i e; subst e; simpa using hc
        · exact hc) (by
        intro u hu
        obtain ⟨k, hk', rfl⟩ := List.mem_map.1 hu
        obtain ⟨p, c, e, -⟩ := (hhd k (by simpa using hk')).2
        rw [e]; rfl) (by unfold maxLen; omega) (by omega) (by simp)
    rw [Nat.zero_add, List.nil_append] at hown'
    obtain ⟨a', c', rfl⟩ := owns_slice hown'
    exact ⟨a', c', w', _, hr, owns_room hown', hown', by simp, fun k h1 h2 => by simpa using (hhd k h2).2, hb1.grown hgrow (by simp) (fun k e => by cases e; exact Nat.le_refl _)⟩

theorem owns_rows {W : World} {B n : Nat} {v : Value} {hs : List Value} {rows : List (List Int)} (h : W.ownsRow B 29 1 v n hs) (hn : n = rows.length) (hl : hs.length = n) (hm : n ≤ 1000000) (hi : ∀ k (h1 : k < hs.length) (h2 : k < rows.length), Ints W hs[k] rows[k]) : Rows2 W v rows := by
  subst hn
  have h0 := h
  obtain ⟨-, ⟨rfl, e⟩ | ⟨g, cap, cur, rfl, hB, hh, hcc, hrest⟩⟩ := h
  · have : rows = [] := List.length_eq_zero_iff.1 e
    subst this; exact Rows2.nil _ _ _
  · refine ⟨_, cap, rfl, hcc, by omega, fun k hk => ⟨g, 0, hs[k]'(by omega), rfl, ?_, hi k (by omega) hk⟩⟩
    rw [Nat.zero_add, h0.cellAt k (by omega), List.getElem?_eq_getElem (by omega)]

theorem Rank_v (v : Value) (rows : List (List Int)) (m : Nat) (r : Int) (w : World) (hI : Rows2 w v rows) (h : Right rows m) (hr : (rrankQ rows : Int) = r) :
    Calls Try.prog 12 #[v] w fun e w' => e = .returned (.tuple #[.int .i64 r, .int .i64 0]) ∧ Below w.heap.size w w' := by
  have := Rank_any v rows w hI
  rw [rank_same, right_check h, hr] at this
  exact this

abbrev RankTrue (v u : Value) (w : World) : Prop :=
  Calls Try.prog 6 #[v, u] w fun e w' => e = .returned (.bool true) ∧ Below w.heap.size w w'

set_option maxRecDepth 100000 in
set_option maxHeartbeats 4000000 in
theorem rank_out (v u : Value) (rows : List (List Int)) (t : List Int) (w : World) (hI : Rows2 w v rows) (hU : Ints w u t) (hr : rightQ rows t = false) : RankTrue v u w := by
  have HR := Lib.hid hr
  clear hr
  obtain ⟨a1, c1, rfl, -⟩ := id hI
  obtain ⟨a2, c2, rfl, -⟩ := id hU
  go_enter Try.func6, Try.ntmps6
  go_wp2_with fail
  with_reducible refine (sane_any _).mono ?_
  rintro e w1 ⟨rfl, b1⟩
  go_wp2_with fail
  with_reducible refine (right_is _ _ rows t false _ (hI.below b1) (hU.below b1) HR.out).mono ?_
  rintro e w2 ⟨rfl, b2⟩
  go_wp2_with fail
  go_ret
  exact ⟨rfl, b1.trans (b2.mono b1.size)⟩

/-- What Combine gives at right rows. -/
theorem comb_gives {rows : List (List Int)} {t : List Int} (h0 : examErr rows t = 0) (hR : Right rows t.length) (ht : ∀ z ∈ t, 0 ≤ z ∧ z < 1073741789) :
    ∃ (bo : Bool) (y : List Int), (bo = true ↔ Made rows t) ∧ (bo = true → y.length = rows.length ∧ ∀ i, i < rows.length → Span i t.length (fm rows) (fm rows i) → nth y i = 0) ∧
      ∀ v u w, Rows2 w v rows → Ints w u t → Calls Try.prog 16 #[v, u] w fun r w' => ∃ yv, r = .returned (.tuple #[yv, .bool bo, .int .i64 0]) ∧ Ints w' yv y ∧ Below w.heap.size w w' := by
  cases hok : rcombOk rows t with
  | true => exact ⟨true, rcombY rows t, ⟨fun _ => (comb_span hR ht).1 hok, fun _ => rfl⟩, fun _ => ⟨rcombY_len rows t, fun i hi hd => comb_zero hR ht hi hd⟩, fun v u w hI hU => Comb_yes v u rows t w hI hU h0 hok⟩
  | false => exact ⟨false, [], ⟨fun h => (by cases h), fun h => absurd ((comb_span hR ht).2 h) (by rw [hok]; simp)⟩, fun h => (by cases h), fun v u w hI hU => Comb_no v u rows t w hI hU h0 hok⟩

theorem exam_right {rows : List (List Int)} {t : List Int} (h : Right rows t.length) (ht : ∀ z ∈ t, 0 ≤ z ∧ z < 1073741789) (hm : t.length ≤ 64) : examErr rows t = 0 := by
  refine examErr_ok (right_check h) (kind1_ok hm (any_no fun z hz => ?_)) ?_
  · have := ht z hz
    simp [oddQ]; omega
  · by_cases hn : rows = []
    · exact .inl (by rw [hn]; rfl)
    · exact .inr (right_wide h hn)

end Go.Proofs.Ytjjdgphjkoppgaa
