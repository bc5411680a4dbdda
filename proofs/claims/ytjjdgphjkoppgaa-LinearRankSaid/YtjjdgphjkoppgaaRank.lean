/- LinearRank returns true for every input, and leaves its arguments as they were: a further row adds 1 to the rank exactly if the earlier ones do not make it. -/
import Derived.Test.YtjjdgphjkoppgaaRankA
namespace Go.Proofs.Ytjjdgphjkoppgaa
open Go.ChangeShapes Go.WideShapes Go.ChangeAt Go.RowKit Go.Deep

set_option maxRecDepth 100000 in
set_option maxHeartbeats 16000000 in
theorem rank_in (v u : Value) (rows : List (List Int)) (t : List Int) (w : World) (hI : Rows2 w v rows) (hU : Ints w u t) (hr : rightQ rows t = true) : RankTrue v u w := by
  obtain ⟨h0, hR, ht, ht16, hn16⟩ := rightQ_ok hr
  obtain ⟨bo, y, hbo, hy, hcomb⟩ := comb_gives h0 hR ht
  have HR := Lib.hid hr
  have HRT := Lib.hid hR
  have HT := Lib.hid ht
  have HBO := Lib.hid hbo
  have HY := Lib.hid hy
  have HC := Lib.hid hcomb
  obtain ⟨a1, c1, rfl, hcc, hll, hk⟩ := id hI
  obtain ⟨a2, c2, rfl, hcc2, hll2, -⟩ := id hU
  clear hr hR ht hbo hcomb h0
  go_enter Try.func6, Try.ntmps6
  go_wp2_with fail
  with_reducible refine (sane_any _).mono ?_
  rintro e w1 ⟨rfl, b1⟩
  go_wp2_with fail
  with_reducible refine (right_is _ _ rows t true _ (hI.below b1) (hU.below b1) HR.out).mono ?_
  rintro e w2 ⟨rfl, b2⟩
  have hI2 := (hI.below b1).below b2
  have hU2 := (hU.below b1).below b2
  go_wp2_with fail
  with_reducible refine (HC.out _ _ _ hI2 hU2).mono ?_
  rintro e w3 ⟨y3, rfl, i3, b3⟩
  have t2 := b1.trans (b2.mono b1.size)
  have t3 := t2.trans (b3.mono t2.size)
  have HYC := Lib.hid (fun k (hk : k < y.length) => i3.get hk)
  obtain ⟨p3, q3, rfl, -⟩ := id i3
  have hcase : bo = false ∨ (bo = true ∧ y.length = rows.length) := by
    cases bo with
    | false => exact .inl rfl
    | true => exact .inr ⟨rfl, (hy rfl).1⟩
  clear hy
  have hn64 : rows.length ≤ 1000000 := by omega
  rcases hcase with rfl | ⟨rfl, hyl⟩
  all_goals
    try (rw [hyl]; have HYL := Lib.hid hyl; clear hyl)
    go_wp2_with fail
    go_loopw [8, 9, 10, 11, 12, 13, 14, 15, 45] (fun la _ _ _ _ _ _ _ i wr => ∃ k : Nat, k ≤ rows.length ∧ i = .int .i64 k ∧ la = .int .i64 (rrankQ (rows.take k) : Nat) ∧ Below w3.heap.size w3 wr) (fun _ _ _ _ _ _ _ _ i _ => rows.length - (intOf i).toNat)
    case atStart => exact ⟨0, Nat.zero_le _, rfl, by rw [List.take_zero]; rfl, Below.refl _ _⟩
    case round =>
      obtain ⟨k, hkn, rfl, rfl, hb⟩ := hrel
      by_cases hlt : k < rows.length
      · obtain ⟨b, off, r, rfl, hc, hr⟩ := hk k hlt
        have hIr := (hI2.below b3).below hb
        have hrr := (((hr.below b1).below b2).below b3).below hb
        have hcr := below_cell hb (below_cell b3 (below_cell b2 (below_cell b1 hc)))
        obtain ⟨p, c, rfl, m1, m2, -⟩ := hr
        have hT1 : Rows2 wr (.slice (some ⟨b, off, none⟩) (k + 1) c1) (rows.take (k + 1)) := hIr.take hlt
        have hT0 : Rows2 wr (.slice (some ⟨b, off, none⟩) k c1) (rows.take k) := hIr.take (Nat.le_of_lt hlt)
        have hs1 := fun W => slice_rows b off rows.length c1 (k + 1) (by omega) (by omega) W
        have hs0 := fun W => slice_rows b off rows.length c1 k (by omega) (by omega) W
        rw [show ((k + 1 : Nat) : Int) = (k : Int) + 1 from rfl] at hs1
        have hrow : rows[k].length = t.length := HRT.out.len _ (List.getElem_mem hlt)
        have hrnum := HRT.out.num _ (List.getElem_mem hlt)
        have hst := rank_take HRT.out hlt
        have hle := (rank_le (right_take HRT.out k)).2
        obtain ⟨bk, yk, hbk, -, hck⟩ := comb_gives (rows := rows.take k) (t := rows[k]) (exam_right (by rw [hrow]; exact right_take HRT.out k) hrnum (by omega)) (by rw [hrow]; exact right_take HRT.out k) hrnum
        rw [made_take HRT.out hlt] at hbk
        have HCK := Lib.hid hck
        obtain ⟨r0, hr0⟩ : ∃ r0 : Int, r0 = ((rrankQ (rows.take k) : Nat) : Int) := ⟨_, rfl⟩
        have hr0b : 0 ≤ r0 ∧ r0 ≤ 64 := by omega
        have HR1 := Lib.hid (right_take HRT.out (k + 1))
        rw [← hr0]
        have hIR0 := Lib.hid hr0
        rw [hrow] at hcr hrr m1 m2
        clear hk hc hck hr0 hrow
        by_cases hs : Span k t.length (fm rows) (fm rows k)
        · obtain rfl : bk = true := hbk.2 hs
          have HR2 := Lib.hid (show ((rrankQ (rows.take (k + 1)) : Nat) : Int) = r0 by rw [hst.1 hs, hIR0.out])
          try (have hz := (HY.out (by trivial)).2 k hlt hs; obtain ⟨-, bz, oz, nz, cz, ez, hcz⟩ := HYC.out k (by rw [HYL.out]; exact hlt); simp only [Value.slice.injEq] at ez; obtain ⟨rfl, -, -⟩ := ez; rw [hz] at hcz; have hcz := below_cell hb hcz)
          clear hst hbk hs
          go_wp2_with fail
          with_reducible refine (Rank_v _ (rows.take (k + 1)) t.length r0 _ hT1 HR1.out HR2.out).mono ?_
          rintro e w4 ⟨rfl, b4⟩
          go_wp2_with fail
          with_reducible refine (HCK.out _ _ _ (hT0.below b4) (hrr.below b4)).mono ?_
          rintro e w5 ⟨y5, rfl, i5, b5⟩
          try (have hcz := below_cell b5 (below_cell b4 hcz))
          go_wp2_with fail
          go_roundw
          case rel => exact ⟨k + 1, by omega, by go_num, by rw [HR2.out], (hb.trans (b4.mono hb.size)).trans (b5.mono (Nat.le_trans hb.size b4.size))⟩
          case measure => simp [intOf]; omega
        · obtain rfl : bk = false := by
            cases bk with
            | false => rfl
            | true => exact absurd (hbk.1 rfl) hs
          have HR2 := Lib.hid (show ((rrankQ (rows.take (k + 1)) : Nat) : Int) = r0 + 1 by rw [hst.2 hs, hIR0.out]; rfl)
          have hne : (r0 + 1 == r0) = false := by rw [beq_eq_false_iff_ne]; omega
          clear hst hbk hs
          go_wp2_with fail
          with_reducible refine (Rank_v _ (rows.take (k + 1)) t.length (r0 + 1) _ hT1 HR1.out HR2.out).mono ?_
          rintro e w4 ⟨rfl, b4⟩
          go_wp2_with fail
          with_reducible refine (HCK.out _ _ _ (hT0.below b4) (hrr.below b4)).mono ?_
          rintro e w5 ⟨y5, rfl, i5, b5⟩
          go_wp2_with fail
          go_roundw
          case rel => exact ⟨k + 1, by omega, by go_num, by rw [HR2.out], (hb.trans (b4.mono hb.size)).trans (b5.mono (Nat.le_trans hb.size b4.size))⟩
          case measure => simp [intOf]; omega
      · obtain rfl : k = rows.length := by omega
        rw [List.take_length]
        have hIr := (hI2.below b3).below hb
        have hUr := (hU2.below b3).below hb
        obtain ⟨a5, c5, w5, hs5, hrun, hc5, hown5, hl5, hi5, hb5⟩ := app_rows2 wr _ rows hIr hn64
        have hle := (rank_le HRT.out).2
        obtain ⟨r0, hr0⟩ : ∃ r0 : Int, r0 = ((rrankQ rows : Nat) : Int) := ⟨_, rfl⟩
        have hr0b : 0 ≤ r0 ∧ r0 ≤ 64 := by omega
        have hIR0 := Lib.hid hr0
        have hstep := rank_step HRT.out HT.out (by omega) (by omega)
        have hright := Lib.hid (right_app HRT.out HT.out (by omega) (by omega))
        have hca := hown5.alloc (.cells #[.slice a2 t.length c2] 29)
        have hbs : wr.heap.size ≤ (w5.alloc (.cells #[.slice a2 t.length c2] 29)).heap.size := by have := hb5.size; simp; omega
        rw [← hr0]
        clear hr0
        go_wp2_with (at_builtin; first
          | (refine app_row_at rfl _ _ rfl wr.heap.size _ _ _ rfl hca w5.heap.size 1 a2 t.length c2 rfl (cell_new1 _ _ _) hn64 hbs ?_; intro v9 w9 hown9 hgrow9)
          | (refine wpList_app_run rfl _ _ _ rfl _ _ _ rfl rfl hrun ?_))
        have hb9 : Below wr.heap.size wr w9 := (hb5.alloc hb5.size _).grown hgrow9 (by rw [World.size_alloc]; have := hb5.size; omega) (fun g e => (hca.lt g e).1)
        have hR9 : Rows2 w9 v9 (rows ++ [t]) := owns_rows hown9 (by simp) (by simp [hl5]) (by omega) (fun k h1 h2 => by
          by_cases e : k = rows.length
          · subst e
            rw [List.getElem_append_right (by omega), List.getElem_append_right (Nat.le_refl _)]
            simpa [hl5] using hUr.below hb9
          · have hk1 : k < rows.length := by simp at h2; omega
            rw [List.getElem_append_left (by omega), List.getElem_append_left hk1]
            exact (hi5 k (by omega) hk1).below hb9)
        have hw9 := t3.trans ((hb.mono t3.size).trans (hb9.mono (Nat.le_trans t3.size hb.size)))
        first
          | (have hmore := Lib.hid (show ((rrankQ (rows ++ [t]) : Nat) : Int) = r0 by rw [hstep.1 (HBO.out.1 (by trivial)), hIR0.out])
             clear hstep
             with_reducible refine (Rank_v _ (rows ++ [t]) t.length r0 _ hR9 hright.out hmore.out).mono ?_
             rintro e w10 ⟨rfl, b10⟩
             go_wp2_with fail
             go_ret
             refine ⟨?_, hw9.trans (b10.mono hw9.size)⟩
             first | rfl | (have : r0 ≤ r0 + 1 := by omega
                            simp [this]))
          | (have hmore := Lib.hid (show ((rrankQ (rows ++ [t]) : Nat) : Int) = r0 + 1 by rw [hstep.2 (fun h => absurd (HBO.out.2 h) (by simp)), hIR0.out]; rfl)
             clear hstep
             have hne : (r0 + 1 == r0) = false := by rw [beq_eq_false_iff_ne]; omega
             with_reducible refine (Rank_v _ (rows ++ [t]) t.length (r0 + 1) _ hR9 hright.out hmore.out).mono ?_
             rintro e w10 ⟨rfl, b10⟩
             go_wp2_with fail
             go_ret
             refine ⟨?_, hw9.trans (b10.mono hw9.size)⟩
             first | rfl | (have : r0 ≤ r0 + 1 := by omega
                            simp [this]))

theorem linearRank_any (v u : Value) (rows : List (List Int)) (t : List Int) (w : World) (hI : Rows2 w v rows) (hU : Ints w u t) : RankTrue v u w := by
  cases hr : rightQ rows t with
  | false => exact rank_out v u rows t w hI hU hr
  | true => exact rank_in v u rows t w hI hU hr

/-- What the row asks, from what the call leaves. -/
theorem linearRank_contract (H : Type) (enc : TypeId × Value → H) (W : World) (base : Nat) (args : Array Value) (ds gs : List (DataW H)) (before : List MemPlace)
    (hval : ∀ (j : Nat) t v, Try.f6.params[j]? = some t → args[j]? = some v → Value.okWide Try.prog W .any base t v)
    (hW : DataW.Whole enc Try.prog Try.f6.params.toList Rows.linearRankSpec.vars false W args.toList ds gs before)
    (hreach : (DataW.weightsEach Try.prog (Try.f6.params.toList ++ Rows.linearRankSpec.plain.varTypes Try.prog) (ds ++ gs)).all (· ≤ reachBytes) = true) :
    Calls Try.prog 6 args W fun e W' => ∃ v, e = .returned v ∧ Rows.linearRankSpec.post enc Try.prog Try.f6 false true false false W args v W' := by
  obtain ⟨p, q, hA0, hV, rfl, hfz, hnd⟩ := id hW
  have hA : DataW.TrodAll enc Try.prog W 0 (fun _ => true) true Try.f6.params.toList args.toList ds p := hA0
  have hA2 := hA
  rw [Try.params6] at hA hval hreach
  obtain ⟨v0, vs0, d0, ds0, p0, q0, hargs, rfl, rfl, h0, r0⟩ := trodAll_cons hA
  obtain ⟨v1, vs1, d1, ds1, p1, q1, rfl, rfl, rfl, h1, r1⟩ := trodAll_cons r0
  obtain ⟨rfl, rfl, rfl⟩ := trodAll_nil r1
  obtain rfl : args = #[v0, v1] := by cases args; simp_all
  obtain ⟨rfl, rfl⟩ := trodVars_none hV
  simp only [List.append_nil] at hW hA2
  obtain ⟨x0, k0⟩ := open_rows (okWide_slice Try.underlying22 (hval 0 22 v0 rfl rfl)) h0 (light_of hreach (j := 0) rfl rfl)
  obtain ⟨x1, k1⟩ := open_list (okWide_slice Try.underlying29 (hval 1 29 v1 rfl rfl)) h1 (light_of hreach (j := 1) rfl rfl)
  refine (linearRank_any v0 v1 x0 x1 W k0 k1).mono fun e W' ⟨he, hb⟩ => ⟨_, he, ?_⟩
  exact law_post rfl rfl (by kernel_rfl) hA2 hW hb rfl

set_option maxRecDepth 100000 in
theorem linearRank_lifted (os : Os) (started : os.Started) (H : Type) (enc : TypeId × Value → H) :
    ReturnsInHanded {} Try.checked os 6 .any (Rows.linearRankSpec.pre6 enc Try.prog Try.f6 Rows.linearRankRow.domain false) (Rows.linearRankSpec.post enc Try.prog Try.f6 false true false false) := by
  refine returnsInHanded_of_change_sized (C := Try.checked) ownKnobP started (by kernel_rfl) Try.func6
    (ChangeSpec.witness6 (enc := enc) (C := Try.checked) false ⟨#[], #[.slice none 0 0, .slice none 0 0], []⟩ 8 (by kernel_rfl) (by kernel_rfl) (by kernel_rfl) (by kernel_rfl)) ?_
  intro W base args ds gs before hval hW _ hreach _
  exact linearRank_contract H enc W base args ds gs before hval hW hreach

theorem linearRank_holds : Rows.LinearRankSaid :=
  OpenClaim.holds_of_wide 6 Try.f6 rfl rfl rfl rfl rfl rfl rfl ⟨rfl, rfl, rfl, rfl, rfl⟩ rfl rfl rfl rfl rfl (by kernel_rfl) Try.func6 (by kernel_rfl)
    (of_decide_eq_true (by kernel_rfl)) (by unfold Func.isWrapper; first | (rw [if_pos (by decide +kernel)]; kernel_rfl) | (rw [if_neg (by decide +kernel)]; exact ⟨rfl, rfl⟩))
    (fun os started H enc _ => linearRank_lifted os started H enc)
#print axioms linearRank_holds

end Go.Proofs.Ytjjdgphjkoppgaa
