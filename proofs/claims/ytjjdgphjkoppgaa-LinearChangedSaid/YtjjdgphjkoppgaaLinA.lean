/- Package linear: the examination of rows, an error that ends the work by a panic, and that is caught. -/
import Derived.Test.YtjjdgphjkoppgaaSlices
namespace Go.Proofs.Ytjjdgphjkoppgaa
open Go.RowKit

/-- An error on its way. -/
def thrown (e : Int) : List PanicEntry := [{ v := .iface 25 (.int .i64 e), recovered := false }]

set_option maxHeartbeats 400000 in
theorem need_ok (e : Int) (w : World) :
    Calls Try.prog 31 #[.bool true, .int .i64 e] w fun r w' => r = .returned (.tuple #[]) ∧ w = w' := by
  go_enter Try.func31, Try.ntmps31
  go_wp2
  go_end0
  exact ⟨rfl, rfl⟩

set_option maxHeartbeats 400000 in
theorem need_bad (e : Int) (w : World) :
    Calls Try.prog 31 #[.bool false, .int .i64 e] w fun r w' => r = .panicked (thrown e) ∧ w = w' := by
  go_enter Try.func31, Try.ntmps31
  go_wp2
  exact ⟨rfl, rfl, rfl⟩

theorem need_any (c : Bool) (e : Int) (w : World) :
    Calls Try.prog 31 #[.bool c, .int .i64 e] w fun r w' => r = (if c then .returned (.tuple #[]) else .panicked (thrown e)) ∧ w = w' := by
  cases c
  · exact need_bad e w
  · exact need_ok e w

theorem caught_panicking (p : Addr) (x e : Int) (older : List PanicEntry) (w : World) (hc : w.cell? p = some (.int .i64 x)) (hz : w.frozen? p = false) :
    CallsD Try.prog 30 #[.pointer (some p)] (.panicking ({ v := .iface 25 (.int .i64 e), recovered := false } :: older)) w fun r u' w' =>
      r = .returned (.tuple #[]) ∧ u' = .panicking ({ v := .iface 25 (.int .i64 e), recovered := true } :: older) ∧ w' = w.setCell p (.int .i64 e) := by
  have hta : ∀ w, (Instr.typeAssert (.iface 25 (.int .i64 e)) 20 25 true).run Try.prog w = .ok (.tuple #[.int .i64 e, .bool true]) w := fun _ => by kernel_rfl
  refine callsD_of_wpS Try.func30 rfl fun c₀ cs hu => ?_
  simp only [Try.ntmps30, List.size_toArray, List.length_cons, List.length_nil, Nat.reduceAdd, Nat.reduceSub, Array.replicate_succ, Array.replicate_zero, List.push_toArray, List.append_toArray, List.nil_append, List.cons_append]
  apply wpS_seq
  apply wpS_region
  simp [wpOpsS, go_sem, recoverD, hu, Exit.thenS]
  generalize hc0 : ({ fn := c₀.fn, tmps := c₀.tmps, todo := c₀.todo, defers := c₀.defers, mode := FrameMode.panicking ({ v := Value.iface 25 (Value.int IntKind.i64 e), recovered := true } :: older), kind := c₀.kind, roundOf := c₀.roundOf } : Frame) = c1
  have hm : c1.mode = FrameMode.panicking ({ v := Value.iface 25 (Value.int IntKind.i64 e), recovered := true } :: older) := by rw [← hc0]
  have HB := Lib.hid (show ∀ a' w', a'.defers = [] → w' = w.setCell p (.int .i64 e) → bodyPostS Try.prog Try.f30 c₀ cs (fun r u' w' => r = Ending.returned (Value.tuple #[]) ∧ u' = FrameMode.panicking ({ v := Value.iface 25 (Value.int IntKind.i64 e), recovered := true } :: older) ∧ w' = w.setCell p (Value.int IntKind.i64 e)) .normal a' (c1 :: cs) w' by
    intro a' w' h1 h2
    simp [bodyPostS, results, Try.results30, h1, h2, ← hc0])
  clear hc0 hu hm
  refine wpS_of_wp ?_
  refine wp_mono (Q := fun e' a' w' => e' = .normal ∧ a'.defers = [] ∧ w' = w.setCell p (.int .i64 e)) ?_ ?_
  · go_wp2
  · rintro e' a' w' ⟨rfl, h1, h2⟩
    exact HB.out a' w' h1 h2

theorem caught_idle (p : Addr) (w : World) :
    CallsD Try.prog 30 #[.pointer (some p)] .returning w fun r u' w' => r = .returned (.tuple #[]) ∧ u' = .returning ∧ w' = w := by
  refine callsD_of_wpS Try.func30 rfl fun c₀ cs hu => ?_
  apply wpS_seq
  apply wpS_region
  simp [wpOpsS, go_sem, recoverD, hu, Try.ntmps30, Exit.thenS]
  apply wpS_seq
  apply wpS_region
  simp [wpOpsS, go_sem, Exit.thenS]
  refine wpS_cond (t := false) (by simp [Act.eval, Array.replicate]) ?_
  simp only [Bool.false_eq_true, if_false]
  refine wpS_of_wp (wp_skip ?_)
  cases c₀
  simp_all [bodyPostS, results, Try.results30]

/-- No number of the field. -/
def oddQ (z : Int) : Bool := decide (z < 0) || decide (1073741789 ≤ z)

set_option maxHeartbeats 400000 in
theorem odd_any (z : Int) (w : World) :
    Calls Try.prog 50 #[.int .i64 z] w fun e w' => e = .returned (.bool (oddQ z)) ∧ w = w' := by
  by_cases h1 : z < 0
  · have H := Lib.hid (show oddQ z = true by simp [oddQ, h1])
    go_enter Try.func50, Try.ntmps50
    go_wp2
    go_ret
    exact ⟨ret_bool H.out.symm, rfl⟩
  · by_cases h2 : 1073741789 ≤ z
    · have H := Lib.hid (show oddQ z = true by simp [oddQ, h2])
      go_enter Try.func50, Try.ntmps50
      go_wp2
      go_ret
      exact ⟨ret_bool H.out.symm, rfl⟩
    · have H := Lib.hid (show oddQ z = false by simp [oddQ]; omega)
      go_enter Try.func50, Try.ntmps50
      go_wp2
      go_ret
      exact ⟨ret_bool H.out.symm, rfl⟩

theorem odd_tests (w : World) (zs : List Int) : Tests 50 #[] w oddQ zs :=
  fun z _ w' _ => (odd_any z w').mono fun _ _ ⟨h, e⟩ => ⟨h, e ▸ Below.refl _ _⟩

/-- Are the elements of a row right, and is it as long as the first one? -/
def rowOk (n : Nat) (row : List Int) : Bool := decide (row.length = n) && !row.any oddQ
/-- The length of the first row. -/
def wide (rows : List (List Int)) : Nat := (rows.head?.map List.length).getD 0
/-- The error of the rows, as for a variadic call. -/
def kindErr (rows : List (List Int)) : Int :=
  if rows.any (fun r => decide (64 < r.length)) then 2 else if rows.all (rowOk (wide rows)) then 0 else 130
/-- How a call ends that panics with an error that is not 0. -/
def raised (c : Int) : Ending := if c = 0 then .returned (.tuple #[]) else .panicked (thrown c)
theorem raised_zero {c : Int} (h : c = 0) : raised c = .returned (.tuple #[]) := by rw [raised, if_pos h]
theorem raised_not {c : Int} (h : c ≠ 0) : raised c = .panicked (thrown c) := by rw [raised, if_neg h]

theorem wide_at (rows : List (List Int)) (h : 0 < rows.length) : rows[0].length = wide rows := by
  cases rows with
  | nil => simp at h
  | cons r l => rfl
theorem kindErr_long (rows : List (List Int)) (k : Nat) (h : k < rows.length) (hl : 64 < rows[k].length) : kindErr rows = 2 := by
  rw [kindErr, if_pos]; rw [List.any_eq_true]; exact ⟨_, List.getElem_mem h, by simpa using hl⟩
theorem kindErr_bad (rows : List (List Int)) (hs : ∀ r ∈ rows, r.length ≤ 64) (k : Nat) (h : k < rows.length) (hl : rowOk (wide rows) rows[k] = false) : kindErr rows = 130 := by
  rw [kindErr, if_neg, if_neg]
  · intro ha; rw [List.all_eq_true] at ha; rw [ha _ (List.getElem_mem h)] at hl; cases hl
  · intro ha; rw [List.any_eq_true] at ha; obtain ⟨r, hr, hd⟩ := ha; have := hs r hr; simp at hd; omega
theorem kindErr_ok (rows : List (List Int)) (hs : ∀ r ∈ rows, r.length ≤ 64) (h : ∀ r ∈ rows, rowOk (wide rows) r = true) : kindErr rows = 0 := by
  rw [kindErr, if_neg, if_pos]
  · rw [List.all_eq_true]; exact h
  · intro ha; rw [List.any_eq_true] at ha; obtain ⟨r, hr, hd⟩ := ha; have := hs r hr; simp at hd; omega

theorem take_all {α : Type} {P : α → Prop} {l : List α} {k : Nat} (h : k < l.length) (h1 : ∀ x ∈ l.take k, P x) (h2 : P l[k]) : ∀ x ∈ l.take (k + 1), P x := by
  rw [List.take_succ_eq_append_getElem h]
  intro x hx
  rcases List.mem_append.1 hx with hx | hx
  · exact h1 x hx
  · rw [List.mem_singleton.1 hx]; exact h2
theorem take_whole {α : Type} {P : α → Prop} {l : List α} {k : Nat} (h : ¬ k < l.length) (h1 : ∀ x ∈ l.take k, P x) : ∀ x ∈ l, P x := by
  rwa [List.take_of_length_le (by omega)] at h1

set_option maxHeartbeats 1000000 in
theorem check_any (v : Value) (rows : List (List Int)) (w : World) (hI : Rows2 w v rows) :
    Calls Try.prog 32 #[v] w fun r w' => r = raised (kindErr rows) ∧ Below w.heap.size w w' := by
  obtain ⟨a, cap, rfl, hcap, hlen, hk⟩ := hI
  go_enter Try.func32, Try.ntmps32
  go_wp2_with fail
  go_loopw [3, 9] (fun _ i wr => ∃ k : Nat, k ≤ rows.length ∧ i = .int .i64 k ∧ Hid (∀ r ∈ rows.take k, r.length ≤ 64) ∧ Below w.heap.size w wr) (fun _ i _ => rows.length - (intOf i).toNat)
  case atStart => exact ⟨0, Nat.zero_le _, rfl, Lib.hid (by simp), Below.refl _ _⟩
  case round =>
    obtain ⟨k, hkl, rfl, HP, hb⟩ := hrel
    by_cases hlt : k < rows.length
    · obtain ⟨b, off, r, rfl, hc, a', cap', rfl, hcap', hlen', hr', hk'⟩ := hk k hlt
      have hc' := below_cell hb hc
      clear hk hc
      by_cases hs : rows[k].length ≤ 64
      · have hd : decide ((rows[k].length : Int) ≤ 64) = true := decide_eq_true (by omega)
        go_wp2_with fail
        with_reducible refine (need_ok _ _).mono ?_
        rintro e w1 ⟨rfl, rfl⟩
        go_wp2_with fail
        go_roundw
        case rel => exact ⟨k + 1, by omega, by go_num, Lib.hid (take_all hlt HP.out hs), hb⟩
        case measure => simp [intOf]; omega
      · have HE := Lib.hid ((raised_not (c := kindErr rows) (by rw [kindErr_long rows k hlt (by omega)]; decide)).trans (by rw [kindErr_long rows k hlt (by omega)]))
        have hd : decide ((rows[k].length : Int) ≤ 64) = false := decide_eq_false (by omega)
        clear hs
        go_wp2_with fail
        with_reducible refine (need_bad _ _).mono ?_
        rintro e w1 ⟨rfl, rfl⟩
        exact ⟨rfl, HE.out.symm, hb⟩
    · have HS := Lib.hid (take_whole hlt HP.out)
      go_wp2_with fail
      obtain ⟨w0, rfl⟩ : ∃ w0 : World, w0 = wr := ⟨_, rfl⟩
      go_loopw [6, 20] (fun _ i wr => ∃ k : Nat, k ≤ rows.length ∧ i = .int .i64 k ∧ Hid (∀ r ∈ rows.take k, rowOk (wide rows) r = true) ∧ Below w.heap.size w wr) (fun _ i _ => rows.length - (intOf i).toNat)
      case atStart => exact ⟨0, Nat.zero_le _, rfl, Lib.hid (by simp), hb⟩
      case round =>
        obtain ⟨j, hjl, rfl, HJ, hb2⟩ := hrel
        by_cases hlt2 : j < rows.length
        · obtain ⟨b, off, r, rfl, hc, hi⟩ := hk j hlt2
          have hi2 := hi.below (hb2.mono (Nat.le_refl _))
          obtain ⟨a', cap', rfl, hcap', hlen', hr', hk'⟩ := hi
          obtain ⟨b0, off0, r0, e0, hc0, a0, cap0, rfl, -⟩ := hk 0 (by omega)
          cases e0
          have hc' := below_cell hb2 hc
          have hc0' := below_cell hb2 hc0
          rw [Nat.add_zero] at hc0'
          have hw := Lib.hid (wide_at rows (by omega))
          clear hk hc hc0
          by_cases hl : rows[j].length = rows[0].length
          · have hd : ((rows[j].length : Int) == (rows[0].length : Int)) = true := by rw [beq_iff_eq]; omega
            cases ho : rows[j].any oddQ
            · have HO := Lib.hid ho
              have HK := Lib.hid (show rowOk (wide rows) rows[j] = true by simp [rowOk, ho, ← hw.out, hl])
              clear ho hl
              go_wp2_with fail
              with_reducible refine (containsFunc_any 50 #[] oddQ _ rows[j] _ hi2 (goes_of Try.func50 (by kernel_rfl) rfl) (odd_tests _ _)).mono ?_
              rintro e w1 ⟨rfl, hb1⟩
              rw [HO.out]
              go_wp2_with fail
              with_reducible refine (need_ok _ _).mono ?_
              rintro e w2 ⟨rfl, rfl⟩
              go_wp2_with fail
              go_roundw
              case rel => exact ⟨j + 1, by omega, by go_num, Lib.hid (take_all hlt2 HJ.out HK.out), hb2.trans (hb1.mono hb2.size)⟩
              case measure => simp [intOf]; omega
            · have HO := Lib.hid ho
              have HE := Lib.hid ((raised_not (c := kindErr rows) (by rw [kindErr_bad rows HS.out j hlt2 (by simp [rowOk, ho])]; decide)).trans (by rw [kindErr_bad rows HS.out j hlt2 (by simp [rowOk, ho])]))
              clear ho hl
              go_wp2_with fail
              with_reducible refine (containsFunc_any 50 #[] oddQ _ rows[j] _ hi2 (goes_of Try.func50 (by kernel_rfl) rfl) (odd_tests _ _)).mono ?_
              rintro e w1 ⟨rfl, hb1⟩
              rw [HO.out]
              go_wp2_with fail
              with_reducible refine (need_bad _ _).mono ?_
              rintro e w2 ⟨rfl, rfl⟩
              exact ⟨rfl, HE.out.symm, hb2.trans (hb1.mono hb2.size)⟩
          · have hd : ((rows[j].length : Int) == (rows[0].length : Int)) = false := by rw [beq_eq_false_iff_ne]; omega
            have HE := Lib.hid ((raised_not (c := kindErr rows) (by rw [kindErr_bad rows HS.out j hlt2 (by simp [rowOk]; intro h; exact absurd (h.trans hw.out.symm) hl)]; decide)).trans (by rw [kindErr_bad rows HS.out j hlt2 (by simp [rowOk]; intro h; exact absurd (h.trans hw.out.symm) hl)]))
            clear hl
            go_wp2_with fail
            with_reducible refine (need_bad _ _).mono ?_
            rintro e w1 ⟨rfl, rfl⟩
            exact ⟨rfl, HE.out.symm, hb2⟩
        · have HE := Lib.hid (raised_zero (kindErr_ok rows HS.out (take_whole hlt2 HJ.out)))
          go_wp2_with fail
          go_end0
          exact ⟨HE.out.symm, hb2⟩

end Go.Proofs.Ytjjdgphjkoppgaa
