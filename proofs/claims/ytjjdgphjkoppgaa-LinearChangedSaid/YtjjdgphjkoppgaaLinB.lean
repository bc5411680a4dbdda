/- Package linear: Check and examine. -/
import Derived.Test.YtjjdgphjkoppgaaLinA
namespace Go.Proofs.Ytjjdgphjkoppgaa
open Go.RowKit

/-- The error of rows. -/
def checkErr (rows : List (List Int)) : Int := if 64 < rows.length then 2 else kindErr rows
/-- The error of rows and a target. -/
def examErr (rows : List (List Int)) (t : List Int) : Int :=
  if checkErr rows = 0 then
    if kindErr [t] = 0 then (if rows.length = 0 ∨ wide rows = t.length then 0 else 130) else kindErr [t]
  else checkErr rows

theorem checkErr_many {rows : List (List Int)} (h : 64 < rows.length) : checkErr rows = 2 := by rw [checkErr, if_pos h]
theorem checkErr_few {rows : List (List Int)} (h : rows.length ≤ 64) : checkErr rows = kindErr rows := by rw [checkErr, if_neg (by omega)]

theorem kindErr_vals (rows : List (List Int)) : kindErr rows = 0 ∨ kindErr rows = 2 ∨ kindErr rows = 130 := by
  unfold kindErr; split
  · exact .inr (.inl rfl)
  · split
    · exact .inl rfl
    · exact .inr (.inr rfl)

theorem Rows2.one {w : World} {v : Value} {t : List Int} (h : Ints w v t) (T : TypeId) : Rows2 (w.alloc (.cells #[v] T)) (.slice (some ⟨w.heap.size, 0, none⟩) 1 1) [t] := by
  refine ⟨_, 1, rfl, by simp, by simp, fun k hk => ⟨_, _, v, rfl, ?_, ?_⟩⟩
  · rw [World.cell?_alloc_at _ _ _ _ rfl]
    have : k = 0 := by simp at hk; omega
    subst this; rfl
  · have : k = 0 := by simp at hk; omega
    subst this
    exact h.below ((Below.refl _ _).alloc (Nat.le_refl _) _)

theorem mono_ending {P : Program} {f : FuncId} {args : Array Value} {w : World} {e e' : Ending} {R : World → Prop} (h : Calls P f args w fun r w' => r = e ∧ R w') (he : e = e') : Calls P f args w fun r w' => r = e' ∧ R w' := he ▸ h

/-- A new variable, later on. -/
theorem box_later {w w1 : World} {x : Value} {T : TypeId} (hb : Below (w.alloc (.cells #[x] T)).heap.size (w.alloc (.cells #[x] T)) w1) :
    w1.cell? ⟨w.heap.size, 0, none⟩ = some x ∧ w1.frozen? ⟨w.heap.size, 0, none⟩ = false := by
  have hs : w.heap.size < (w.alloc (.cells #[x] T)).heap.size := by simp
  rw [hb.cell (p := ⟨w.heap.size, 0, none⟩) hs, hb.frozen (p := ⟨w.heap.size, 0, none⟩) hs, World.cell?_alloc_at _ _ _ _ rfl, World.frozen?_alloc_at _ _ _ _ rfl]
  exact ⟨rfl, rfl⟩
theorem below_box {w w1 : World} {x : Value} {T : TypeId} (hb : Below (w.alloc (.cells #[x] T)).heap.size (w.alloc (.cells #[x] T)) w1) (u : Value) :
    Below w.heap.size w (w1.setCell ⟨w.heap.size, 0, none⟩ u) :=
  (((Below.refl _ _).alloc (Nat.le_refl _) _).trans (hb.mono (by simp))).setCell (Nat.le_refl _) _
theorem below_new {w w1 : World} {o : Obj} (hb : Below (w.alloc o).heap.size (w.alloc o) w1) : Below w.heap.size w w1 :=
  ((Below.refl _ _).alloc (Nat.le_refl _) _).trans (hb.mono (by simp))

set_option maxHeartbeats 1000000 in
theorem Check_any (v : Value) (rows : List (List Int)) (w : World) (hI : Rows2 w v rows) :
    Calls Try.prog 14 #[v] w fun r w' => r = .returned (.int .i64 (checkErr rows)) ∧ Below w.heap.size w w' := by
  have hI1 : Rows2 (w.alloc (.cells #[.int .i64 0] 25)) v rows := hI.below ((Below.refl _ _).alloc (Nat.le_refl _) _)
  obtain ⟨a, cap, rfl, hcap, hlen, -⟩ := hI
  by_cases hm : rows.length ≤ 64
  · have hd : decide ((rows.length : Int) ≤ 64) = true := decide_eq_true (by omega)
    by_cases h0 : kindErr rows = 0
    · have HC := Lib.hid ((checkErr_few hm).trans h0)
      have H0 := Lib.hid h0
      clear h0 hm
      go_enter_defers Try.func14, Try.ntmps14
      go_wp2_with fail
      with_reducible refine (need_ok _ _).mono ?_
      rintro e w1 ⟨rfl, rfl⟩
      go_wp2_with fail
      with_reducible refine (mono_ending (check_any _ rows _ hI1) (raised_zero H0.out)).mono ?_
      rintro e w1 ⟨rfl, hb⟩
      obtain ⟨hc1, hf1⟩ := box_later hb
      go_wp2_with fail
      refine leaves_cons (f := 30) (args := #[.pointer (some ⟨w.heap.size, 0, none⟩)]) (by simp) (by simp [go_sem]) ?_
      refine (caught_idle _ _).mono ?_
      rintro e u' w'' ⟨rfl, rfl, rfl⟩
      have hx := World.cell?_setCell_same' w1 ⟨w.heap.size, 0, none⟩ (.int .i64 0) (by rw [hc1]; rfl)
      simp [Leaves, settle, results, Try.results14, go_sem, hx, HC.out, below_box hb]
    · have HC := Lib.hid (checkErr_few hm)
      have H0 := Lib.hid h0
      clear h0 hm
      go_enter_defers Try.func14, Try.ntmps14
      go_wp2_with fail
      with_reducible refine (need_ok _ _).mono ?_
      rintro e w1 ⟨rfl, rfl⟩
      go_wp2_with fail
      with_reducible refine (mono_ending (check_any _ rows _ hI1) (raised_not H0.out)).mono ?_
      rintro e w1 ⟨rfl, hb⟩
      obtain ⟨hc1, hf1⟩ := box_later hb
      refine leaves_cons (f := 30) (args := #[.pointer (some ⟨w.heap.size, 0, none⟩)]) (by simp) (by simp [go_sem]) ?_
      refine (caught_panicking _ 0 (kindErr rows) [] _ hc1 hf1).mono ?_
      rintro e u' w'' ⟨rfl, rfl, rfl⟩
      have hx := World.cell?_setCell_same' w1 ⟨w.heap.size, 0, none⟩ (.int .i64 (kindErr rows)) (by rw [hc1]; rfl)
      simp [Leaves, settle, results, Try.results14, go_sem, hx, HC.out, below_box hb]
  · have hd : decide ((rows.length : Int) ≤ 64) = false := decide_eq_false (by omega)
    have HC := Lib.hid (checkErr_many (rows := rows) (by omega))
    clear hm
    go_enter_defers Try.func14, Try.ntmps14
    go_wp2_with fail
    with_reducible refine (need_bad _ _).mono ?_
    rintro e w1 ⟨rfl, hw⟩
    have hb : Below (w.alloc (.cells #[.int .i64 0] 25)).heap.size (w.alloc (.cells #[.int .i64 0] 25)) w1 := hw ▸ Below.refl _ _
    clear hw
    obtain ⟨hc1, hf1⟩ := box_later hb
    refine leaves_cons (f := 30) (args := #[.pointer (some ⟨w.heap.size, 0, none⟩)]) (by simp) (by simp [go_sem]) ?_
    refine (caught_panicking _ 0 2 [] _ hc1 hf1).mono ?_
    rintro e u' w'' ⟨rfl, rfl, rfl⟩
    have hx := World.cell?_setCell_same' w1 ⟨w.heap.size, 0, none⟩ (.int .i64 2) (by rw [hc1]; rfl)
    simp [Leaves, settle, results, Try.results14, go_sem, hx, HC.out, below_box hb]

theorem examErr_check {rows : List (List Int)} {t : List Int} (h : checkErr rows ≠ 0) : examErr rows t = checkErr rows := by rw [examErr, if_neg h]
theorem examErr_kind {rows : List (List Int)} {t : List Int} (h : checkErr rows = 0) (h' : kindErr [t] ≠ 0) : examErr rows t = kindErr [t] := by rw [examErr, if_pos h, if_neg h']
theorem examErr_bad {rows : List (List Int)} {t : List Int} (h : checkErr rows = 0) (h' : kindErr [t] = 0) (hn : ¬ (rows.length = 0 ∨ wide rows = t.length)) : examErr rows t = 130 := by
  rw [examErr, if_pos h, if_pos h', if_neg hn]
theorem examErr_ok {rows : List (List Int)} {t : List Int} (h : checkErr rows = 0) (h' : kindErr [t] = 0) (hn : rows.length = 0 ∨ wide rows = t.length) : examErr rows t = 0 := by
  rw [examErr, if_pos h, if_pos h', if_pos hn]

set_option maxHeartbeats 2000000 in
theorem examine_any (v u : Value) (rows : List (List Int)) (t : List Int) (w : World) (hI : Rows2 w v rows) (hT : Ints w u t) :
    Calls Try.prog 34 #[v, u] w fun r w' => r = raised (examErr rows t) ∧ Below w.heap.size w w' := by
  have hI0 := hI
  obtain ⟨a, cap, rfl, hcap, hlen, hk⟩ := hI
  obtain ⟨a2, cap2, rfl, hcap2, hlen2, hr2, hk2⟩ := hT
  have hT2 : Ints w (.slice a2 t.length cap2) t := ⟨a2, cap2, rfl, hcap2, hlen2, hr2, hk2⟩
  clear hk2
  by_cases hm : rows.length ≤ 64
  case neg =>
    have hd : decide ((rows.length : Int) ≤ 64) = false := decide_eq_false (by omega)
    have HC := Lib.hid (show raised (examErr rows t) = .panicked (thrown 2) by
      have := checkErr_many (rows := rows) (by omega)
      rw [examErr_check (by rw [this]; decide), this]; rfl)
    clear hm
    go_enter Try.func34, Try.ntmps34
    go_wp2_with fail
    with_reducible refine (need_bad _ _).mono ?_
    rintro e w1 ⟨rfl, rfl⟩
    exact ⟨rfl, HC.out.symm, Below.refl _ _⟩
  have hd : decide ((rows.length : Int) ≤ 64) = true := decide_eq_true (by omega)
  by_cases h0 : kindErr rows = 0
  case neg =>
    have HC := Lib.hid (show raised (examErr rows t) = .panicked (thrown (kindErr rows)) by
      have := checkErr_few hm
      rw [examErr_check (by rw [this]; exact h0), this]; exact raised_not h0)
    have H0 := Lib.hid h0
    clear h0 hm
    go_enter Try.func34, Try.ntmps34
    go_wp2_with fail
    with_reducible refine (need_ok _ _).mono ?_
    rintro e w1 ⟨rfl, rfl⟩
    go_wp2_with fail
    with_reducible refine (mono_ending (check_any _ rows _ hI0) (raised_not H0.out)).mono ?_
    rintro e w1 ⟨rfl, hb⟩
    exact ⟨rfl, HC.out.symm, hb⟩
  have HE := Lib.hid ((checkErr_few hm).trans h0)
  have H0 := Lib.hid h0
  have HM := Lib.hid hm
  clear h0 hm
  by_cases h1 : kindErr [t] = 0
  case neg =>
    have HC := Lib.hid (show raised (examErr rows t) = .panicked (thrown (kindErr [t])) by rw [examErr_kind HE.out h1]; exact raised_not h1)
    have H1 := Lib.hid h1
    clear h1
    go_enter Try.func34, Try.ntmps34
    go_wp2_with fail
    with_reducible refine (need_ok _ _).mono ?_
    rintro e w1 ⟨rfl, rfl⟩
    go_wp2_with fail
    with_reducible refine (mono_ending (check_any _ rows _ hI0) (raised_zero H0.out)).mono ?_
    rintro e w1 ⟨rfl, hb⟩
    go_wp2_with fail
    with_reducible refine (mono_ending (check_any _ [t] _ (Rows2.one (hT2.below hb) _)) (raised_not H1.out)).mono ?_
    rintro e w2 ⟨rfl, hb2⟩
    exact ⟨rfl, HC.out.symm, hb.trans ((below_new hb2).mono hb.size)⟩
  have H1 := Lib.hid h1
  clear h1
  by_cases hn : rows.length = 0
  · have HC := Lib.hid (show raised (examErr rows t) = .returned (.tuple #[]) from raised_zero (examErr_ok HE.out H1.out (.inl hn)))
    have he : ((rows.length : Int) == 0) = true := by rw [beq_iff_eq]; omega
    clear hn
    go_enter Try.func34, Try.ntmps34
    go_wp2_with fail
    with_reducible refine (need_ok _ _).mono ?_
    rintro e w1 ⟨rfl, rfl⟩
    go_wp2_with fail
    with_reducible refine (mono_ending (check_any _ rows _ hI0) (raised_zero H0.out)).mono ?_
    rintro e w1 ⟨rfl, hb⟩
    go_wp2_with fail
    with_reducible refine (mono_ending (check_any _ [t] _ (Rows2.one (hT2.below hb) _)) (raised_zero H1.out)).mono ?_
    rintro e w2 ⟨rfl, hb2⟩
    go_wp2_with fail
    with_reducible refine (need_ok _ _).mono ?_
    rintro e w3 ⟨rfl, rfl⟩
    go_wp2_with fail
    go_end0
    exact ⟨HC.out.symm, hb.trans ((below_new hb2).mono hb.size)⟩
  have hpos : 0 < rows.length := by omega
  obtain ⟨b, off, r, rfl, hc, a', cap', rfl, hcap', hlen', hr', hk'⟩ := hk 0 hpos
  rw [Nat.add_zero] at hc
  have HW := Lib.hid (wide_at rows hpos)
  have he : ((rows.length : Int) == 0) = false := by rw [beq_eq_false_iff_ne]; omega
  clear hk hk'
  by_cases hw : rows[0].length = t.length
  · have HC := Lib.hid (show raised (examErr rows t) = .returned (.tuple #[]) from raised_zero (examErr_ok HE.out H1.out (.inr (HW.out ▸ hw))))
    have hq : ((rows[0].length : Int) == (t.length : Int)) = true := by rw [beq_iff_eq]; omega
    clear hw hn
    go_enter Try.func34, Try.ntmps34
    go_wp2_with fail
    with_reducible refine (need_ok _ _).mono ?_
    rintro e w1 ⟨rfl, rfl⟩
    go_wp2_with fail
    with_reducible refine (mono_ending (check_any _ rows _ hI0) (raised_zero H0.out)).mono ?_
    rintro e w1 ⟨rfl, hb⟩
    go_wp2_with fail
    with_reducible refine (mono_ending (check_any _ [t] _ (Rows2.one (hT2.below hb) _)) (raised_zero H1.out)).mono ?_
    rintro e w2 ⟨rfl, hb2⟩
    have hb3 := hb.trans ((below_new hb2).mono hb.size)
    have hc3 := below_cell hb3 hc
    go_wp2_with fail
    with_reducible refine (need_ok _ _).mono ?_
    rintro e w3 ⟨rfl, rfl⟩
    go_wp2_with fail
    go_end0
    exact ⟨HC.out.symm, hb3⟩
  · have HC := Lib.hid (show raised (examErr rows t) = .panicked (thrown 130) by
      rw [examErr_bad HE.out H1.out (by rw [← HW.out]; simp [hn, hw])]; rfl)
    have hq : ((rows[0].length : Int) == (t.length : Int)) = false := by rw [beq_eq_false_iff_ne]; omega
    clear hw hn
    go_enter Try.func34, Try.ntmps34
    go_wp2_with fail
    with_reducible refine (need_ok _ _).mono ?_
    rintro e w1 ⟨rfl, rfl⟩
    go_wp2_with fail
    with_reducible refine (mono_ending (check_any _ rows _ hI0) (raised_zero H0.out)).mono ?_
    rintro e w1 ⟨rfl, hb⟩
    go_wp2_with fail
    with_reducible refine (mono_ending (check_any _ [t] _ (Rows2.one (hT2.below hb) _)) (raised_zero H1.out)).mono ?_
    rintro e w2 ⟨rfl, hb2⟩
    have hb3 := hb.trans ((below_new hb2).mono hb.size)
    have hc3 := below_cell hb3 hc
    go_wp2_with fail
    with_reducible refine (need_bad _ _).mono ?_
    rintro e w3 ⟨rfl, rfl⟩
    exact ⟨rfl, HC.out.symm, hb3⟩

end Go.Proofs.Ytjjdgphjkoppgaa
