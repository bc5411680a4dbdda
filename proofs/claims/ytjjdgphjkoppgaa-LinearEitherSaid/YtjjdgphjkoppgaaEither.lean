/- LinearEither returns true for every input, and leaves its arguments as they were: either Combine returns a combination that makes the target, or Separate a list that proves that there is none; never both. -/
import Derived.Test.YtjjdgphjkoppgaaGive
import Derived.Test.YtjjdgphjkoppgaaOpen
namespace Go.Proofs.Ytjjdgphjkoppgaa
open Go.ChangeShapes Go.WideShapes Go.ChangeAt Go.RowKit Go.Deep

/-- The call, at whatever arguments it was made with. -/
abbrev EitherTrue (v u x z : Value) (w : World) : Prop :=
  Calls Try.prog 5 #[v, u, x, z] w fun e w' => e = .returned (.bool true) ∧ Below w.heap.size w w'

set_option maxRecDepth 100000 in
set_option maxHeartbeats 4000000 in
theorem either_out (v u x z : Value) (rows : List (List Int)) (t y l : List Int) (w : World) (hI : Rows2 w v rows) (hU : Ints w u t) (hY : Ints w x y) (hL : Ints w z l) (hr : rightQ rows t = false) : EitherTrue v u x z w := by
  have HR := Lib.hid hr
  clear hr
  obtain ⟨a1, c1, rfl, -⟩ := id hI
  obtain ⟨a2, c2, rfl, -⟩ := id hU
  obtain ⟨a3, c3, rfl, -⟩ := id hY
  obtain ⟨a4, c4, rfl, -⟩ := id hL
  go_enter Try.func5, Try.ntmps5
  go_wp2_with fail
  with_reducible refine (sane_any _).mono ?_
  rintro e w1 ⟨rfl, b1⟩
  go_wp2_with fail
  with_reducible refine (right_is _ _ rows t false _ (hI.below b1) (hU.below b1) HR.out).mono ?_
  rintro e w2 ⟨rfl, b2⟩
  go_wp2_with fail
  go_ret
  exact ⟨rfl, b1.trans (b2.mono b1.size)⟩

set_option maxRecDepth 100000 in
set_option maxHeartbeats 4000000 in
theorem either_long (v u x z : Value) (rows : List (List Int)) (t y l : List Int) (w : World) (hI : Rows2 w v rows) (hU : Ints w u t) (hY : Ints w x y) (hL : Ints w z l) (hr : rightQ rows t = true) (hl : 20 < y.length ∨ 20 < l.length) : EitherTrue v u x z w := by
  have HR := Lib.hid hr
  clear hr
  obtain ⟨a1, c1, rfl, -⟩ := id hI
  obtain ⟨a2, c2, rfl, -⟩ := id hU
  obtain ⟨a3, c3, rfl, -⟩ := id hY
  obtain ⟨a4, c4, rfl, -⟩ := id hL
  by_cases h1 : 20 < y.length
  · have d1 : decide ((20 : Int) < (y.length : Int)) = true := decide_eq_true (by omega)
    go_enter Try.func5, Try.ntmps5
    go_wp2_with fail
    with_reducible refine (sane_any _).mono ?_
    rintro e w1 ⟨rfl, b1⟩
    go_wp2_with fail
    with_reducible refine (right_is _ _ rows t true _ (hI.below b1) (hU.below b1) HR.out).mono ?_
    rintro e w2 ⟨rfl, b2⟩
    go_wp2_with fail
    go_ret
    exact ⟨rfl, b1.trans (b2.mono b1.size)⟩
  · have d1 : decide ((20 : Int) < (y.length : Int)) = false := decide_eq_false (by omega)
    have d2 : decide ((20 : Int) < (l.length : Int)) = true := decide_eq_true (by omega)
    go_enter Try.func5, Try.ntmps5
    go_wp2_with fail
    with_reducible refine (sane_any _).mono ?_
    rintro e w1 ⟨rfl, b1⟩
    go_wp2_with fail
    with_reducible refine (right_is _ _ rows t true _ (hI.below b1) (hU.below b1) HR.out).mono ?_
    rintro e w2 ⟨rfl, b2⟩
    go_wp2_with fail
    go_ret
    exact ⟨rfl, b1.trans (b2.mono b1.size)⟩

set_option maxRecDepth 100000 in
set_option maxHeartbeats 8000000 in
theorem either_yes (v u x z : Value) (rows : List (List Int)) (t y l : List Int) (w : World) (hI : Rows2 w v rows) (hU : Ints w u t) (hY : Ints w x y) (hL : Ints w z l) (hr : rightQ rows t = true) (h1 : ¬ 20 < y.length) (h2 : ¬ 20 < l.length) (hm : Made rows t) : EitherTrue v u x z w := by
  obtain ⟨h0, hR, ht, ht16, hn16⟩ := rightQ_ok hr
  have hok := (comb_span hR ht).2 hm
  have hq : rsepQ rows t = none := by
    cases hq : rsepQ rows t with
    | none => rfl
    | some l' => exact absurd hm (proves_not hR (sep_some hR hq))
  have hmade : madeL rows (rcombY rows t) t.length = t := (made_iff ht).2 (comb_makes hR ht hok)
  have hmok := madeOk_right hR (rcombY_len rows t)
  have hpr : provesQ rows t l = false := by
    cases hp : provesQ rows t l with
    | false => rfl
    | true => exact absurd hm (proves_not hR hp)
  have HR := Lib.hid hr
  have HOK := Lib.hid hok
  have H0 := Lib.hid h0
  have HQ := Lib.hid hq
  have HM := Lib.hid (show (if madeOk rows (rcombY rows t) t.length = true then madeL rows (rcombY rows t) t.length else []) = t by rw [if_pos hmok]; exact hmade)
  have HMO := Lib.hid hmok
  have HP := Lib.hid hpr
  have d1 : decide ((20 : Int) < (y.length : Int)) = false := decide_eq_false (by omega)
  have d2 : decide ((20 : Int) < (l.length : Int)) = false := decide_eq_false (by omega)
  obtain ⟨bm, hbm⟩ : ∃ bm, madeOk rows y t.length = bm := ⟨_, rfl⟩
  obtain ⟨ml, hml⟩ : ∃ ml, (if madeOk rows y t.length = true then madeL rows y t.length else []) = ml := ⟨_, rfl⟩
  obtain ⟨bs, hbs⟩ : ∃ bs, sameQ ml t = bs := ⟨_, rfl⟩
  have HBM := Lib.hid hbm
  have HML := Lib.hid hml
  have HBS := Lib.hid hbs
  obtain ⟨y0, hy0⟩ : ∃ y0, y0 = rcombY rows t := ⟨_, rfl⟩
  have HY0 := Lib.hid hy0
  obtain ⟨a1, c1, rfl, -⟩ := id hI
  obtain ⟨a2, c2, rfl, -⟩ := id hU
  obtain ⟨a3, c3, rfl, -⟩ := id hY
  obtain ⟨a4, c4, rfl, -⟩ := id hL
  clear hr hok h0 hq hmade hmok hpr hbm hml hbs hy0 hm hR ht
  go_enter Try.func5, Try.ntmps5
  go_wp2_with fail
  with_reducible refine (sane_any _).mono ?_
  rintro e w1 ⟨rfl, b1⟩
  go_wp2_with fail
  with_reducible refine (right_is _ _ rows t true _ (hI.below b1) (hU.below b1) HR.out).mono ?_
  rintro e w2 ⟨rfl, b2⟩
  have hI2 := (hI.below b1).below b2
  have hU2 := (hU.below b1).below b2
  go_wp2_with fail
  with_reducible refine (Comb_yes _ _ rows t _ hI2 hU2 H0.out HOK.out).mono ?_
  rintro e w3 ⟨y3, rfl, i3, b3⟩
  rw [← HY0.out] at i3
  obtain ⟨p3, q3, rfl, -⟩ := id i3
  have hI3 := hI2.below b3
  have hU3 := hU2.below b3
  go_wp2_with fail
  with_reducible refine (Sep_no _ _ rows t _ hI3 hU3 H0.out HQ.out).mono ?_
  rintro e w4 ⟨y4, rfl, i4, b4⟩
  obtain ⟨p4, q4, rfl⟩ := i4.nil_of
  have hI4 := hI3.below b4
  have hU4 := hU3.below b4
  go_wp2_with fail
  with_reducible refine (made_is _ _ rows y0 t.length true t _ hI4 (i3.below b4) (by omega) (by rw [HY0.out]; exact HMO.out) (by rw [HY0.out]; exact HM.out)).mono ?_
  rintro e w5 ⟨y5, rfl, i5, b5⟩
  have hI5 := hI4.below b5
  have hU5 := hU4.below b5
  go_wp2_with fail
  with_reducible refine (SameInts_is _ _ t t true _ i5 hU5 (by simp [sameQ])).mono ?_
  rintro e w6 ⟨rfl, b6⟩
  have hI6 := hI5.below b6
  have hU6 := hU5.below b6
  have hY6 := (((((hY.below b1).below b2).below b3).below b4).below b5).below b6
  have hL6 := (((((hL.below b1).below b2).below b3).below b4).below b5).below b6
  go_wp2_with fail
  with_reducible refine (made_is _ _ rows y t.length bm ml _ hI6 hY6 (by omega) HBM.out HML.out).mono ?_
  rintro e w7 ⟨y7, rfl, i7, b7⟩
  have hI7 := hI6.below b7
  have hU7 := hU6.below b7
  have hL7 := hL6.below b7
  have t2 := b1.trans (b2.mono b1.size)
  have t3 := t2.trans (b3.mono t2.size)
  have t4 := t3.trans (b4.mono t3.size)
  have t5 := t4.trans (b5.mono t4.size)
  have t6 := t5.trans (b6.mono t5.size)
  have t7 := t6.trans (b7.mono t6.size)
  cases bm with
  | false =>
    go_wp2_with fail
    with_reducible refine (proves_is _ _ _ rows t l false _ hI7 hU7 hL7 HP.out).mono ?_
    rintro e w8 ⟨rfl, b8⟩
    go_wp2_with fail
    go_ret
    exact ⟨rfl, t7.trans (b8.mono t7.size)⟩
  | true =>
    go_wp2_with fail
    with_reducible refine (SameInts_is _ _ ml t bs _ i7 hU7 HBS.out).mono ?_
    rintro e w8 ⟨rfl, b8⟩
    have t8 := t7.trans (b8.mono t7.size)
    cases bs with
    | false =>
      go_wp2_with fail
      with_reducible refine (proves_is _ _ _ rows t l false _ (hI7.below b8) (hU7.below b8) (hL7.below b8) HP.out).mono ?_
      rintro e w9 ⟨rfl, b9⟩
      go_wp2_with fail
      go_ret
      exact ⟨rfl, t8.trans (b9.mono t8.size)⟩
    | true =>
      go_wp2_with fail
      with_reducible refine (proves_is _ _ _ rows t l false _ (hI7.below b8) (hU7.below b8) (hL7.below b8) HP.out).mono ?_
      rintro e w9 ⟨rfl, b9⟩
      go_wp2_with fail
      go_ret
      exact ⟨rfl, t8.trans (b9.mono t8.size)⟩

set_option maxRecDepth 100000 in
set_option maxHeartbeats 8000000 in
theorem either_no (v u x z : Value) (rows : List (List Int)) (t y l : List Int) (w : World) (hI : Rows2 w v rows) (hU : Ints w u t) (hY : Ints w x y) (hL : Ints w z l) (hr : rightQ rows t = true) (h1 : ¬ 20 < y.length) (h2 : ¬ 20 < l.length) (hm : ¬ Made rows t) : EitherTrue v u x z w := by
  obtain ⟨h0, hR, ht, ht16, hn16⟩ := rightQ_ok hr
  have hok : rcombOk rows t = false := by
    cases hq : rcombOk rows t with
    | false => rfl
    | true => exact absurd ((comb_span hR ht).1 hq) hm
  obtain ⟨l0, hq⟩ : ∃ l0, rsepQ rows t = some l0 := Option.isSome_iff_exists.1 ((sep_made hR).2 hm)
  have hp0 := sep_some hR hq
  obtain ⟨bm, hbm⟩ : ∃ bm, madeOk rows y t.length = bm := ⟨_, rfl⟩
  obtain ⟨ml, hml⟩ : ∃ ml, (if madeOk rows y t.length = true then madeL rows y t.length else []) = ml := ⟨_, rfl⟩
  have hbs : bm = true → sameQ ml t = false := fun hb => by
    cases hs : sameQ ml t with
    | false => rfl
    | true =>
      have e : ml = t := by simpa [sameQ] using hs
      rw [hb] at hbm
      rw [← hml, if_pos hbm] at e
      exact absurd ⟨cv y, (made_iff ht).1 e⟩ hm
  obtain ⟨bp, hbp⟩ : ∃ bp, provesQ rows t l = bp := ⟨_, rfl⟩
  have HR := Lib.hid hr
  have HOK := Lib.hid hok
  have H0 := Lib.hid h0
  have HQ := Lib.hid hq
  have HP0 := Lib.hid hp0
  have HBM := Lib.hid hbm
  have HML := Lib.hid hml
  have HBS := Lib.hid hbs
  have HBP := Lib.hid hbp
  have d1 : decide ((20 : Int) < (y.length : Int)) = false := decide_eq_false (by omega)
  have d2 : decide ((20 : Int) < (l.length : Int)) = false := decide_eq_false (by omega)
  obtain ⟨a1, c1, rfl, -⟩ := id hI
  obtain ⟨a2, c2, rfl, -⟩ := id hU
  obtain ⟨a3, c3, rfl, -⟩ := id hY
  obtain ⟨a4, c4, rfl, -⟩ := id hL
  clear hr hok h0 hq hp0 hbm hml hbs hbp hm hR ht
  go_enter Try.func5, Try.ntmps5
  go_wp2_with fail
  with_reducible refine (sane_any _).mono ?_
  rintro e w1 ⟨rfl, b1⟩
  go_wp2_with fail
  with_reducible refine (right_is _ _ rows t true _ (hI.below b1) (hU.below b1) HR.out).mono ?_
  rintro e w2 ⟨rfl, b2⟩
  have hI2 := (hI.below b1).below b2
  have hU2 := (hU.below b1).below b2
  go_wp2_with fail
  with_reducible refine (Comb_no _ _ rows t _ hI2 hU2 H0.out HOK.out).mono ?_
  rintro e w3 ⟨y3, rfl, i3, b3⟩
  obtain ⟨p3, q3, rfl⟩ := i3.nil_of
  have hI3 := hI2.below b3
  have hU3 := hU2.below b3
  go_wp2_with fail
  with_reducible refine (Sep_yes _ _ rows t l0 _ hI3 hU3 H0.out HQ.out).mono ?_
  rintro e w4 ⟨y4, rfl, i4, b4⟩
  obtain ⟨p4, q4, rfl, -⟩ := id i4
  have hI4 := hI3.below b4
  have hU4 := hU3.below b4
  go_wp2_with fail
  with_reducible refine (proves_is _ _ _ rows t l0 true _ hI4 hU4 i4 HP0.out).mono ?_
  rintro e w5 ⟨rfl, b5⟩
  have hI5 := hI4.below b5
  have hU5 := hU4.below b5
  have hY5 := ((((hY.below b1).below b2).below b3).below b4).below b5
  have hL5 := ((((hL.below b1).below b2).below b3).below b4).below b5
  go_wp2_with fail
  with_reducible refine (made_is _ _ rows y t.length bm ml _ hI5 hY5 (by omega) HBM.out HML.out).mono ?_
  rintro e w7 ⟨y7, rfl, i7, b7⟩
  have hI7 := hI5.below b7
  have hU7 := hU5.below b7
  have hL7 := hL5.below b7
  have t2 := b1.trans (b2.mono b1.size)
  have t3 := t2.trans (b3.mono t2.size)
  have t4 := t3.trans (b4.mono t3.size)
  have t5 := t4.trans (b5.mono t4.size)
  have t7 := t5.trans (b7.mono t5.size)
  cases bm with
  | false =>
    go_wp2_with fail
    with_reducible refine (proves_is _ _ _ rows t l bp _ hI7 hU7 hL7 HBP.out).mono ?_
    rintro e w8 ⟨rfl, b8⟩
    cases bp
    all_goals
      go_wp2_with fail
      go_ret
      exact ⟨rfl, t7.trans (b8.mono t7.size)⟩
  | true =>
    go_wp2_with fail
    with_reducible refine (SameInts_is _ _ ml t false _ i7 hU7 (HBS.out (by first | rfl | trivial))).mono ?_
    rintro e w8 ⟨rfl, b8⟩
    have t8 := t7.trans (b8.mono t7.size)
    go_wp2_with fail
    with_reducible refine (proves_is _ _ _ rows t l bp _ (hI7.below b8) (hU7.below b8) (hL7.below b8) HBP.out).mono ?_
    rintro e w9 ⟨rfl, b9⟩
    cases bp
    all_goals
      go_wp2_with fail
      go_ret
      exact ⟨rfl, t8.trans (b9.mono t8.size)⟩

theorem linearEither_any (v u x z : Value) (rows : List (List Int)) (t y l : List Int) (w : World) (hI : Rows2 w v rows) (hU : Ints w u t) (hY : Ints w x y) (hL : Ints w z l) : EitherTrue v u x z w := by
  cases hr : rightQ rows t with
  | false => exact either_out v u x z rows t y l w hI hU hY hL hr
  | true =>
    by_cases h1 : 20 < y.length
    · exact either_long v u x z rows t y l w hI hU hY hL hr (.inl h1)
    · by_cases h2 : 20 < l.length
      · exact either_long v u x z rows t y l w hI hU hY hL hr (.inr h2)
      · by_cases hm : Made rows t
        · exact either_yes v u x z rows t y l w hI hU hY hL hr h1 h2 hm
        · exact either_no v u x z rows t y l w hI hU hY hL hr h1 h2 hm

/-- What the row asks, from what the call leaves. -/
theorem linearEither_contract (H : Type) (enc : TypeId × Value → H) (W : World) (base : Nat) (args : Array Value) (ds gs : List (DataW H)) (before : List MemPlace)
    (hval : ∀ (j : Nat) t v, Try.f5.params[j]? = some t → args[j]? = some v → Value.okWide Try.prog W .any base t v)
    (hW : DataW.Whole enc Try.prog Try.f5.params.toList Rows.linearEitherSpec.vars false W args.toList ds gs before)
    (hreach : (DataW.weightsEach Try.prog (Try.f5.params.toList ++ Rows.linearEitherSpec.plain.varTypes Try.prog) (ds ++ gs)).all (· ≤ reachBytes) = true) :
    Calls Try.prog 5 args W fun e W' => ∃ v, e = .returned v ∧ Rows.linearEitherSpec.post enc Try.prog Try.f5 false true false false W args v W' := by
  obtain ⟨p, q, hA0, hV, rfl, hfz, hnd⟩ := id hW
  have hA : DataW.TrodAll enc Try.prog W 0 (fun _ => true) true Try.f5.params.toList args.toList ds p := hA0
  have hA2 := hA
  rw [Try.params5] at hA hval hreach
  obtain ⟨v0, vs0, d0, ds0, p0, q0, hargs, rfl, rfl, h0, r0⟩ := trodAll_cons hA
  obtain ⟨v1, vs1, d1, ds1, p1, q1, rfl, rfl, rfl, h1, r1⟩ := trodAll_cons r0
  obtain ⟨v2, vs2, d2, ds2, p2, q2, rfl, rfl, rfl, h2, r2⟩ := trodAll_cons r1
  obtain ⟨v3, vs3, d3, ds3, p3, q3, rfl, rfl, rfl, h3, r3⟩ := trodAll_cons r2
  obtain ⟨rfl, rfl, rfl⟩ := trodAll_nil r3
  obtain rfl : args = #[v0, v1, v2, v3] := by cases args; simp_all
  obtain ⟨rfl, rfl⟩ := trodVars_none hV
  simp only [List.append_nil] at hW hA2
  obtain ⟨x0, k0⟩ := open_rows (okWide_slice Try.underlying22 (hval 0 22 v0 rfl rfl)) h0 (light_of hreach (j := 0) rfl rfl)
  obtain ⟨x1, k1⟩ := open_list (okWide_slice Try.underlying29 (hval 1 29 v1 rfl rfl)) h1 (light_of hreach (j := 1) rfl rfl)
  obtain ⟨x2, k2⟩ := open_list (okWide_slice Try.underlying29 (hval 2 29 v2 rfl rfl)) h2 (light_of hreach (j := 2) rfl rfl)
  obtain ⟨x3, k3⟩ := open_list (okWide_slice Try.underlying29 (hval 3 29 v3 rfl rfl)) h3 (light_of hreach (j := 3) rfl rfl)
  refine (linearEither_any v0 v1 v2 v3 x0 x1 x2 x3 W k0 k1 k2 k3).mono fun e W' ⟨he, hb⟩ => ⟨_, he, ?_⟩
  exact law_post rfl rfl (by kernel_rfl) hA2 hW hb rfl

set_option maxRecDepth 100000 in
theorem linearEither_lifted (os : Os) (started : os.Started) (H : Type) (enc : TypeId × Value → H) :
    ReturnsInHanded {} Try.checked os 5 .any (Rows.linearEitherSpec.pre6 enc Try.prog Try.f5 Rows.linearEitherRow.domain false) (Rows.linearEitherSpec.post enc Try.prog Try.f5 false true false false) := by
  refine returnsInHanded_of_change_sized (C := Try.checked) ownKnobP started (by kernel_rfl) Try.func5
    (ChangeSpec.witness6 (enc := enc) (C := Try.checked) false ⟨#[], #[.slice none 0 0, .slice none 0 0, .slice none 0 0, .slice none 0 0], []⟩ 8 (by kernel_rfl) (by kernel_rfl) (by kernel_rfl) (by kernel_rfl)) ?_
  intro W base args ds gs before hval hW _ hreach _
  exact linearEither_contract H enc W base args ds gs before hval hW hreach

theorem linearEither_holds : Rows.LinearEitherSaid :=
  OpenClaim.holds_of_wide 5 Try.f5 rfl rfl rfl rfl rfl rfl rfl ⟨rfl, rfl, rfl, rfl, rfl⟩ rfl rfl rfl rfl rfl (by kernel_rfl) Try.func5 (by kernel_rfl)
    (of_decide_eq_true (by kernel_rfl)) (by unfold Func.isWrapper; first | (rw [if_pos (by decide +kernel)]; kernel_rfl) | (rw [if_neg (by decide +kernel)]; exact ⟨rfl, rfl⟩))
    (fun os started H enc _ => linearEither_lifted os started H enc)
#print axioms linearEither_holds

end Go.Proofs.Ytjjdgphjkoppgaa
