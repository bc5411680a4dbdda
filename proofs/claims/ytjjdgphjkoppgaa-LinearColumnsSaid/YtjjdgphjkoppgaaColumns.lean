/- LinearColumns returns true for every input, and leaves its argument as it was: the columns have the rank of the rows. -/
import Derived.Test.YtjjdgphjkoppgaaRankA
namespace Go.Proofs.Ytjjdgphjkoppgaa
open Go.ChangeShapes Go.WideShapes Go.ChangeAt Go.RowKit Go.Deep

abbrev ColsTrue (v : Value) (w : World) : Prop :=
  Calls Try.prog 7 #[v] w fun e w' => e = .returned (.bool true) ∧ Below w.heap.size w w'

theorem right_none : rightQ [] [] = true := by rfl

/-- The columns, built: a slice of rows. -/
theorem turn_rows {S m : Nat} {hs : Nat → Value} {ov : Value} {w W : World} {rows : List (List Int)} (h : TurnS S m hs (colOf rows) ov w W) (hR : Right rows m) (hm : m ≤ 64) : Rows2 W ov (colsOf rows m) := by
  have hc := cols_right hR hm
  have hl : (colsOf rows m).length = m := by simp [colsOf]
  refine owns_rows h.out hl.symm (by simp) (by omega) fun k h1 h2 => ?_
  have hk : k < m := by omega
  have e1 : (colsOf rows m)[k] = colOf rows k := by simp [colsOf]
  have e2 : ((List.range m).map hs)[k] = hs k := by simp
  rw [e1, e2]
  refine owns_ints (h.row k hk) (by simp [colOf]; have := hR.few; omega) fun z hz => ?_
  have := hc.num (colsOf rows m)[k] (List.getElem_mem h2) z (by rw [e1]; exact hz)
  unfold R64; omega

set_option maxRecDepth 100000 in
set_option maxHeartbeats 16000000 in
theorem cols_out (v : Value) (rows : List (List Int)) (w : World) (hI : Rows2 w v rows) (h0 : 0 < rows.length) (hq : rightQ rows [] = false) (hr : rightQ rows rows[0] = false) : ColsTrue v w := by
  have HQ := Lib.hid hq
  have HR := Lib.hid hr
  clear hq hr
  obtain ⟨a1, c1, rfl, hcc, hll, hk⟩ := id hI
  obtain ⟨b, off, r, rfl, hc, hr⟩ := hk 0 h0
  obtain ⟨p, c, rfl, m1, m2, -⟩ := id hr
  have hne : ((rows.length : Int) == 0) = false := by rw [beq_eq_false_iff_ne]; omega
  clear hk
  go_enter Try.func7, Try.ntmps7
  go_wp2_with fail
  with_reducible refine (sane_any _).mono ?_
  rintro e w1 ⟨rfl, b1⟩
  go_wp2_with fail
  with_reducible refine (right_is _ _ rows [] false _ (hI.below b1) (Ints.nil _ _ _) HQ.out).mono ?_
  rintro e w2 ⟨rfl, b2⟩
  have hc2 := below_cell b2 (below_cell b1 hc)
  rw [Nat.add_zero] at hc2
  go_wp2_with fail
  with_reducible refine (right_is _ _ rows rows[0] false _ ((hI.below b1).below b2) ((hr.below b1).below b2) HR.out).mono ?_
  rintro e w3 ⟨rfl, b3⟩
  have t2 := b1.trans (b2.mono b1.size)
  have t3 := t2.trans (b3.mono t2.size)
  go_wp2_with fail
  go_ret
  exact ⟨rfl, t3⟩

set_option maxRecDepth 100000 in
set_option maxHeartbeats 16000000 in
theorem cols_empty (v : Value) (w : World) (hI : Rows2 w v []) : ColsTrue v w := by
  obtain ⟨a1, c1, rfl, hcc, hll, -⟩ := id hI
  have hI : Rows2 w (.slice a1 0 c1) [] := hI
  have HR := Lib.hid (show Right [] 0 from (rightQ_ok right_none).2.1)
  have HK := Lib.hid (show ((rrankQ [] : Nat) : Int) = 0 from by have := (rank_le HR.out).1; simp at this; omega)
  go_enter Try.func7, Try.ntmps7
  go_wp2_with fail
  with_reducible refine (sane_any _).mono ?_
  rintro e w1 ⟨rfl, b1⟩
  go_wp2_with fail
  with_reducible refine (right_is (.slice a1 0 c1) (.slice none 0 0) [] [] true _ (hI.below b1) (Ints.nil _ _ _) right_none).mono ?_
  rintro e w2 ⟨rfl, b2⟩
  go_wp2_with fail
  with_reducible refine (Rank_v (.slice a1 0 c1) [] 0 0 _ ((hI.below b1).below b2) HR.out HK.out).mono ?_
  rintro e w3 ⟨rfl, b3⟩
  have t2 := b1.trans (b2.mono b1.size)
  have t3 := t2.trans (b3.mono t2.size)
  go_wp2_with fail
  go_ret
  exact ⟨rfl, t3⟩

set_option maxRecDepth 100000 in
set_option maxHeartbeats 16000000 in
theorem cols_in (v : Value) (rows : List (List Int)) (w : World) (hI : Rows2 w v rows) (h0 : 0 < rows.length) (q : Bool) (hq : rightQ rows [] = q) (hr : rightQ rows rows[0] = true) : ColsTrue v w := by
  obtain ⟨-, hR, ht, ht16, hn16⟩ := rightQ_ok hr
  obtain ⟨m, hm⟩ : ∃ m, m = rows[0].length := ⟨_, rfl⟩
  rw [← hm] at hR ht16
  have hrk := (rank_le hR).1
  have hrm := (rank_le hR).2
  obtain ⟨r0, hr0⟩ : ∃ r0 : Int, ((rrankQ rows : Nat) : Int) = r0 := ⟨_, rfl⟩
  have hrc : ((rrankQ (colsOf rows m) : Nat) : Int) = r0 := by rw [rank_cols hR (by omega), hr0]
  have l1 : 0 ≤ r0 ∧ r0 ≤ (rows.length : Int) := by omega
  have l2 : r0 ≤ (m : Int) := by omega
  obtain ⟨l3, l4⟩ := l1
  have HQ := Lib.hid hq
  have HR := Lib.hid hr
  have HRT := Lib.hid hR
  have HM := Lib.hid hm
  have HRK := Lib.hid hr0
  have HRC := Lib.hid hrc
  obtain ⟨a1, c1, rfl, hcc, hll, hk⟩ := id hI
  obtain ⟨b, off, r, rfl, hc, hr1⟩ := hk 0 h0
  obtain ⟨p, c, rfl, m1, m2, -⟩ := id hr1
  rw [Nat.add_zero, ← hm] at hc
  rw [← hm] at hr1 m1 m2
  have hne : ((rows.length : Int) == 0) = false := by rw [beq_eq_false_iff_ne]; omega
  have HK := Lib.hid hk
  clear hq hr hR hm hr0 hrc ht hrk hrm hk
  go_enter Try.func7, Try.ntmps7
  go_wp2_with fail
  with_reducible refine (sane_any _).mono ?_
  rintro e w1 ⟨rfl, b1⟩
  go_wp2_with fail
  with_reducible refine (right_is _ _ rows [] q _ (hI.below b1) (Ints.nil _ _ _) HQ.out).mono ?_
  rintro e w2 ⟨rfl, b2⟩
  have t2 := b1.trans (b2.mono b1.size)
  have hc2 := below_cell t2 hc
  cases q
  all_goals
    go_wp2_with fail
    try
      with_reducible refine (right_is _ _ rows rows[0] true _ (hI.below t2) (hr1.below t2) HR.out).mono ?_
      rintro e w3 ⟨rfl, b3⟩
      have t2 := t2.trans (b3.mono t2.size)
      go_wp2_with fail
    with_reducible refine (Rank_v _ rows m r0 _ (hI.below t2) HRT.out HRK.out).mono ?_
    rintro e w4 ⟨rfl, b4⟩
    have t4 := t2.trans (b4.mono t2.size)
    have hc4 := below_cell t4 hc
    have hI4 := hI.below t4
    go_wp2_with fail
    obtain ⟨W4, hW4⟩ : ∃ W4 : World, W4 = w4 := ⟨_, rfl⟩
    rw [← hW4] at hI4 hc4 t4 ⊢
    clear hW4
    have hT0 : TurnS W4.heap.size 0 (fun _ => undef) (colOf rows) (.slice none 0 0) W4 W4 :=
      ⟨World.ownsRow_nil _ _ _ _, fun i hi => absurd hi (Nat.not_lt_zero _), fun i j hi => absurd hi (Nat.not_lt_zero _), Below.refl _ _, Nat.le_refl _⟩
    go_loopw [5, 48] (fun o i wr => ∃ (k : Nat) (hs : Nat → Value) (ov : Value), k ≤ m ∧ i = .int .i64 k ∧ o = ov ∧ TurnS W4.heap.size k hs (colOf rows) ov W4 wr) (fun _ i _ => m - (intOf i).toNat)
    case atStart => exact ⟨0, _, _, Nat.zero_le _, rfl, rfl, hT0⟩
    case round =>
      obtain ⟨k, hs, ov, hkm, rfl, rfl, hT⟩ := hrel
      by_cases hlt : k < m
      · obtain ⟨Wk, hWk⟩ : ∃ Wk : World, Wk = wr := ⟨_, rfl⟩
        rw [← hWk] at hT ⊢
        clear hWk
        obtain ⟨pa, pc, rfl⟩ := owns_slice hT.out
        go_wp2_with fail
        have hc0 : Wk.ownsRow Wk.heap.size 3 1 (.slice none 0 0) 0 [] := World.ownsRow_nil _ _ _ _
        have hlow : ∀ i, i < k → ∀ g, (hs i).ownBlock = some g → g < Wk.heap.size := fun i hi g e => ((hT.row i hi).lt g e).2
        have HLOW := Lib.hid hlow
        have htop := hT.top
        clear hlow
        go_loopw [7, 53] (fun c i wq => ∃ (j : Nat) (cv : Value), j ≤ rows.length ∧ i = .int .i64 j ∧ c = cv ∧ wq.ownsRow Wk.heap.size 3 1 cv j ((rows.take j).map fun r => Value.int .i64 (nth r k)) ∧ TurnS W4.heap.size k hs (colOf rows) (.slice pa k pc) W4 wq ∧ Wk.heap.size ≤ wq.heap.size) (fun _ i _ => rows.length - (intOf i).toNat)
        case atStart => exact ⟨0, _, Nat.zero_le _, rfl, rfl, hc0, hT, Nat.le_refl _⟩
        case round =>
          obtain ⟨j, cv, hjn, rfl, rfl, hcv, hT3, hsz3⟩ := hrel
          obtain ⟨ca, cc, rfl⟩ := owns_slice hcv
          by_cases hjl : j < rows.length
          · obtain ⟨bj, offj, rj, ej, hcj, hrj⟩ := HK.out j hjl
            injection ej with ej1
            injection ej1 with ej2 ej3
            subst ej2; subst ej3
            have hlj := HRT.out.len _ (List.getElem_mem hjl)
            obtain ⟨hrz, bb, oo, n', c', rfl, hcz⟩ := hrj.get (k := k) (by omega)
            have hlj2 := hrj
            obtain ⟨p2, c2, e2, q1, q2, -, -⟩ := hlj2
            injection e2 with e3 e4 e5
            subst e3; subst e5
            rw [e4, hlj] at hcj
            rw [hlj] at q1 q2
            have HE := Lib.hid e4
            have HLJ := Lib.hid hlj
            have hcj := below_cell t4 hcj
            have hcz := below_cell t4 hcz
            have hcj := (hT3.low.cell (p := ⟨b, off + j, none⟩) (lt_of_cell hcj)).trans hcj
            have hcz := (hT3.low.cell (p := ⟨bb, oo + k, none⟩) (lt_of_cell hcz)).trans hcz
            obtain ⟨z, hz⟩ : ∃ z, z = nth rows[j] k := ⟨_, rfl⟩
            rw [← hz] at hcz
            have HZ := Lib.hid hz
            have i1 : (0 : Int) ≤ (k : Int) := by omega
            have i2 : (k : Int) < (m : Int) := by omega
            have hj6 : j ≤ 1000000 := by omega
            have hbs : Wk.heap.size ≤ (wr.alloc (.cells #[.int .i64 z] 3)).heap.size := by simp; omega
            clear hz e4 hrj hlj
            go_wp2_with (at_builtin; refine app_int rfl _ _ rfl Wk.heap.size _ _ _ rfl (hcv.alloc _) wr.heap.size 1 z rfl (cell_new1 _ _ _) hj6 hbs ?_; intro v9 w9 hown9 hgrow9)
            have hcva := hcv.alloc (.cells #[.int .i64 z] 3)
            have hT4 := hT3.below ((Below.refl _ _).alloc (Nat.le_refl _) (.cells #[.int .i64 z] 3))
            have hT9 : TurnS W4.heap.size k hs (colOf rows) (.slice pa k pc) W4 w9 := by
              refine ⟨owns_other hT4.out hgrow9 (fun g e e' => owns_types hcva hT4.out (by decide) g e' e), fun i hi => owns_other (hT4.row i hi) hgrow9 (fun g e e' => ?_), hT4.sep, hT4.low.grown hgrow9 hT4.top (fun g e => ?_), Nat.le_trans hT4.top hgrow9.size⟩
              · have h1 := HLOW.out i hi g e
                have h2 := (hcva.lt g e').1
                omega
              · have h2 := (hcva.lt g e).1
                omega
            have hown9' : w9.ownsRow Wk.heap.size 3 1 v9 (j + 1) ((rows.take (j + 1)).map fun r => Value.int .i64 (nth r k)) := by
              rw [List.take_succ_eq_append_getElem hjl, List.map_append, List.map_cons, List.map_nil, ← HZ.out]; exact hown9
            have hsz9 : Wk.heap.size ≤ w9.heap.size := Nat.le_trans hbs hgrow9.size
            clear hown9
            go_roundw
            case rel => exact ⟨j + 1, v9, by omega, by go_num, rfl, hown9', hT9, hsz9⟩
            case measure => simp [intOf]; omega
          · obtain rfl : j = rows.length := by omega
            have hcol : wr.ownsRow Wk.heap.size 3 1 (.slice ca rows.length cc) (colOf rows k).length ((colOf rows k).map (Value.int .i64)) := by
              have e1 : (colOf rows k).map (Value.int .i64) = (rows.take rows.length).map fun r => Value.int .i64 (nth r k) := by unfold colOf; rw [List.map_map, List.take_length]; rfl
              have e2 : (colOf rows k).length = rows.length := by simp [colOf]
              rw [e1, e2]; exact hcv
            have hk6 : k ≤ 1000000 := by omega
            have hbs : W4.heap.size ≤ (wr.alloc (.cells #[.slice ca rows.length cc] 29)).heap.size := by have := hT3.top; simp; omega
            have hTa := hT3.below ((Below.refl _ _).alloc (Nat.le_refl _) (.cells #[.slice ca rows.length cc] 29))
            have hoa := hTa.out
            go_wp2_with (at_builtin; refine app_row_at rfl _ _ rfl W4.heap.size _ _ _ rfl hoa wr.heap.size 1 ca rows.length cc rfl (cell_new1 _ _ _) hk6 hbs ?_; intro v9 w9 hown9 hgrow9)
            have hT9 := hTa.more (owns_below hcol ((Below.refl _ _).alloc (Nat.le_refl _) _)) HLOW.out htop hown9 hgrow9
            have hT9' : TurnS W4.heap.size (k + 1) (fun i => if i = k then .slice ca rows.length cc else hs i) (colOf rows) v9 W4 w9 := by
              have e : (fun i => if i = k then colOf rows k else colOf rows i) = colOf rows := by
                funext i
                by_cases e : i = k
                · rw [if_pos e, e]
                · rw [if_neg e]
              rw [e] at hT9; exact hT9
            clear hT9
            go_roundw
            case rel => exact ⟨k + 1, _, v9, by omega, by go_num, rfl, hT9'⟩
            case measure => simp [intOf]; omega
      · obtain rfl : k = m := by omega
        have hR5 := turn_rows hT HRT.out (by omega)
        have tT := t4.trans (hT.low.mono t4.size)
        obtain ⟨pa, pc, rfl⟩ := owns_slice hT.out
        have l5 : decide (r0 ≤ (rows.length : Int)) = true := by simpa using l4
        have l6 : decide (r0 ≤ (k : Int)) = true := by simpa using l2
        go_wp2_with fail
        with_reducible refine (Rank_v _ (colsOf rows k) rows.length r0 _ hR5 (cols_right HRT.out (by omega)) HRC.out).mono ?_
        rintro e w5 ⟨rfl, b5⟩
        go_wp2_with fail
        go_ret
        refine ⟨?_, tT.trans (b5.mono tT.size)⟩
        first | rfl | simp [l2, l4]

theorem linearColumns_any (v : Value) (rows : List (List Int)) (w : World) (hI : Rows2 w v rows) : ColsTrue v w := by
  by_cases h0 : 0 < rows.length
  · cases hr : rightQ rows rows[0] with
    | true => exact cols_in v rows w hI h0 _ rfl hr
    | false =>
      refine cols_out v rows w hI h0 ?_ hr
      cases hq : rightQ rows [] with
      | false => rfl
      | true =>
        have : rows[0] = [] := List.length_eq_zero_iff.1 ((rightQ_ok hq).2.1.len _ (List.getElem_mem h0))
        rw [this, hq] at hr; cases hr
  · obtain rfl : rows = [] := List.length_eq_zero_iff.1 (by omega)
    exact cols_empty v w hI

/-- What the row asks, from what the call leaves. -/
theorem linearColumns_contract (H : Type) (enc : TypeId × Value → H) (W : World) (base : Nat) (args : Array Value) (ds gs : List (DataW H)) (before : List MemPlace)
    (hval : ∀ (j : Nat) t v, Try.f7.params[j]? = some t → args[j]? = some v → Value.okWide Try.prog W .any base t v)
    (hW : DataW.Whole enc Try.prog Try.f7.params.toList Rows.linearColumnsSpec.vars false W args.toList ds gs before)
    (hreach : (DataW.weightsEach Try.prog (Try.f7.params.toList ++ Rows.linearColumnsSpec.plain.varTypes Try.prog) (ds ++ gs)).all (· ≤ reachBytes) = true) :
    Calls Try.prog 7 args W fun e W' => ∃ v, e = .returned v ∧ Rows.linearColumnsSpec.post enc Try.prog Try.f7 false true false false W args v W' := by
  obtain ⟨p, q, hA0, hV, rfl, hfz, hnd⟩ := id hW
  have hA : DataW.TrodAll enc Try.prog W 0 (fun _ => true) true Try.f7.params.toList args.toList ds p := hA0
  have hA2 := hA
  rw [Try.params7] at hA hval hreach
  obtain ⟨v0, vs0, d0, ds0, p0, q0, hargs, rfl, rfl, h0, r0⟩ := trodAll_cons hA
  obtain ⟨rfl, rfl, rfl⟩ := trodAll_nil r0
  obtain rfl : args = #[v0] := by cases args; simp_all
  obtain ⟨rfl, rfl⟩ := trodVars_none hV
  simp only [List.append_nil] at hW hA2
  obtain ⟨x0, k0⟩ := open_rows (okWide_slice Try.underlying22 (hval 0 22 v0 rfl rfl)) h0 (light_of hreach (j := 0) rfl rfl)
  refine (linearColumns_any v0 x0 W k0).mono fun e W' ⟨he, hb⟩ => ⟨_, he, ?_⟩
  exact law_post rfl rfl (by kernel_rfl) hA2 hW hb rfl

set_option maxRecDepth 100000 in
theorem linearColumns_lifted (os : Os) (started : os.Started) (H : Type) (enc : TypeId × Value → H) :
    ReturnsInHanded {} Try.checked os 7 .any (Rows.linearColumnsSpec.pre6 enc Try.prog Try.f7 Rows.linearColumnsRow.domain false) (Rows.linearColumnsSpec.post enc Try.prog Try.f7 false true false false) := by
  refine returnsInHanded_of_change_sized (C := Try.checked) ownKnobP started (by kernel_rfl) Try.func7
    (ChangeSpec.witness6 (enc := enc) (C := Try.checked) false ⟨#[], #[.slice none 0 0], []⟩ 8 (by kernel_rfl) (by kernel_rfl) (by kernel_rfl) (by kernel_rfl)) ?_
  intro W base args ds gs before hval hW _ hreach _
  exact linearColumns_contract H enc W base args ds gs before hval hW hreach

theorem linearColumns_holds : Rows.LinearColumnsSaid :=
  OpenClaim.holds_of_wide 7 Try.f7 rfl rfl rfl rfl rfl rfl rfl ⟨rfl, rfl, rfl, rfl, rfl⟩ rfl rfl rfl rfl rfl (by kernel_rfl) Try.func7 (by kernel_rfl)
    (of_decide_eq_true (by kernel_rfl)) (by unfold Func.isWrapper; first | (rw [if_pos (by decide +kernel)]; kernel_rfl) | (rw [if_neg (by decide +kernel)]; exact ⟨rfl, rfl⟩))
    (fun os started H enc _ => linearColumns_lifted os started H enc)
#print axioms linearColumns_holds

end Go.Proofs.Ytjjdgphjkoppgaa
