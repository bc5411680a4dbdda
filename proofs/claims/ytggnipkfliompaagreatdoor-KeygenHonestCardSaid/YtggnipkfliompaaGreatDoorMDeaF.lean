/- slices.Concat of a number and a list; what a right program is; what is dealt, in plain Lean. Package dealing: Deal. Package dealing: Deal, where it deals. Package dealing: check, Public. -/
import Derived.Test.YtggnipkfliompaaGreatDoorMLinQ
import Derived.Test.YtggnipkfliompaaGreatDoorMRange3
import Derived.Test.YtggnipkfliompaaGreatDoorMEqA
namespace Go.Proofs.YtggnipkfliompaaGreatDoor
open Go.RowKit

set_option maxRecDepth 100000 in
theorem igrow_made (n : Nat) (h0 : 0 < n) (hn : n ≤ 35184372088832) (w : World) : ∃ c w', (Builtin.append_ #[23, 3] 23 #[.slice none 0 0, .int .i64 n]).run Tryz.prog w = .ok (.slice (some ⟨w.heap.size, 0, none⟩) n c) w' ∧ n ≤ c ∧
    w'.ownsRow w.heap.size 3 1 (.slice (some ⟨w.heap.size, 0, none⟩) 0 c) 0 [] ∧ Below w.heap.size w w' ∧ w.heap.size < w'.heap.size := by
  obtain ⟨i, hi, hz, hs, hb⟩ := info_parts infoInt
  have h := Lib.run_append_nil_zeros (P := Tryz.prog) w 23 3 23 3 i (.int .i64 0) .i64 .i64 Tryz.underlying23 Tryz.underlying3 hi hz n h0 (by omega) (by omega) (by rw [hb]; omega)
  have hc := grownCap_ge w n 0 3
  have hc2 := grownCap_le_maxLen w n 0 3 (by unfold maxLen; omega)
  refine ⟨_, _, h, hc, ⟨rfl, .inr ⟨_, _, _, rfl, Nat.le_refl _, World.alloc_heap_new w.drew _, Nat.zero_le _, hc2, ?_, by simp⟩⟩, ((Below.refl _ _).drew).alloc (Nat.le_refl _) _, by simp⟩
  rw [Array.size_append, size_zeroCells, size_zeroCells]
  show n * 1 + (grownCap w n 0 3 - n) * 1 = _
  omega
def IGrown (n : Nat) (w : World) (e : Ending) (w' : World) : Prop := ∃ c, e = .returned (.slice (some ⟨w.heap.size, 0, none⟩) 0 c) ∧ n ≤ c ∧ w'.ownsRow w.heap.size 3 1 (.slice (some ⟨w.heap.size, 0, none⟩) 0 c) 0 [] ∧ Below w.heap.size w w' ∧ w.heap.size < w'.heap.size
set_option maxRecDepth 100000 in
set_option maxHeartbeats 400000 in
theorem igrow_int (n : Nat) (m : Int) (hm : (n : Int) = m) (h0 : 0 < n) (hn : n ≤ 35184372088832) (w : World) :
    Calls Tryz.prog 204 #[.slice none 0 0, .int .i64 m] w (IGrown n w) := by
  subst hm
  obtain ⟨c, w', hr, hc, ho, hb, hz⟩ := igrow_made n h0 hn w
  have h1 : ¬ ((n : Int) < 0) := by omega
  have h2 : decide ((n : Int) > 0) = true := decide_eq_true (by omega)
  have HP : Hid (IGrown n w (.returned (.slice (some ⟨w.heap.size, 0, none⟩) 0 c)) w') := Lib.hid ⟨c, rfl, hc, ho, hb, hz⟩
  have HR := Lib.hid hr
  clear hr ho
  go_enter Tryz.func204, Tryz.ntmps204
  go_wp2_with (at_builtin; refine Lib.wpList_append_run _ rfl _ _ _ _ rfl _ _ rfl rfl _ _ HR.out ?_)
  go_ret
  exact HP.out

theorem own_some {W : World} {base n : Nat} {e : TypeId} {v : Value} {x : Value} {xs : List Value} (h : W.ownsRow base e 1 v n (x :: xs)) : ∃ g cap, v = .slice (some ⟨g, 0, none⟩) n cap ∧ n ≤ cap := by
  rcases h.2 with ⟨-, h0⟩ | ⟨g, cap, cur, rfl, -, -, hn, -⟩
  · have := h.1; rw [h0] at this; simp at this
  · exact ⟨g, cap, rfl, hn⟩

set_option maxRecDepth 100000 in
set_option maxHeartbeats 2000000 in
theorem iconcat_any (sb : Nat) (v1 v2 : Value) (x : Int) (l : List Int) (w : World) (h1 : Ints w v1 [x]) (h2 : Ints w v2 l) (hl : l.length ≤ 1000000) (c0 : w.cell? ⟨sb, 0, none⟩ = some v1) (c1 : w.cell? ⟨sb, 1, none⟩ = some v2) :
    Calls Tryz.prog 162 #[.slice (some ⟨sb, 0, none⟩) 2 2] w fun e w' => ∃ v', e = .returned v' ∧ Ints w' v' (x :: l) ∧ Below w.heap.size w w' := by
  obtain ⟨a1, k1, e1, -⟩ := id h1
  obtain ⟨a2, k2, e2, -⟩ := id h2
  subst e1
  subst e2
  have H1 := Lib.hid h1
  have H2 := Lib.hid h2
  have HX : Hid (∀ z ∈ x :: l, R64 z) := Lib.hid (by
    obtain ⟨_, _, _, _, _, r1, _⟩ := h1
    obtain ⟨_, _, _, _, _, r2, _⟩ := h2
    intro z hz
    rcases List.mem_cons.1 hz with rfl | hz
    · exact r1 z (by simp)
    · exact r2 z hz)
  clear h1 h2
  have p1 : 0 ≤ (1 : Int) + (l.length : Int) := by omega
  have p2 : ¬ ((1 : Int) + (l.length : Int) < 0) := by omega
  go_enter Tryz.func162, Tryz.ntmps162
  go_wp2_with fail
  go_loop [3, 11] (fun s i => (i = .int .i64 0 ∧ s = .int .i64 0) ∨ (i = .int .i64 1 ∧ s = .int .i64 1) ∨ (i = .int .i64 2 ∧ s = .int .i64 (1 + l.length : Nat))) (fun _ i => 2 - (intOf i).toNat)
  case atStart => exact .inl ⟨rfl, rfl⟩
  case round =>
    rcases hrel with ⟨rfl, rfl⟩ | ⟨rfl, rfl⟩ | ⟨rfl, rfl⟩
    · go_wp2_with fail
      go_round
      case rel => exact .inr (.inl ⟨rfl, by go_num⟩)
      case measure => simp [intOf]
    · go_wp2_with fail
      go_round
      case rel => exact .inr (.inr ⟨rfl, by go_num⟩)
      case measure => simp [intOf]
    · go_wp2_with fail
      with_reducible refine (igrow_int (1 + l.length) (1 + (l.length : Int)) (by omega) (by omega) (by omega) _).mono ?_
      rintro e w1 ⟨c, rfl, hcc, ho, hb, hz⟩
      have c0' := below_cell hb c0
      have c1' := below_cell hb c1
      have HO := Lib.hid ho
      have C0 := Lib.hid c0
      have C1 := Lib.hid c1
      clear ho c0 c1
      go_wp2_with fail
      go_loopw [6, 27] (fun v i W => Below w.heap.size w W ∧ w.heap.size < W.heap.size ∧ ((i = .int .i64 0 ∧ v = .slice (some ⟨w.heap.size, 0, none⟩) 0 c ∧ W.ownsRow w.heap.size 3 1 (.slice (some ⟨w.heap.size, 0, none⟩) 0 c) 0 []) ∨ (i = .int .i64 1 ∧ ∃ g cap, v = .slice (some ⟨g, 0, none⟩) 1 cap ∧ 1 ≤ cap ∧ W.ownsRow w.heap.size 3 1 (.slice (some ⟨g, 0, none⟩) 1 cap) 1 [.int .i64 x]) ∨ (i = .int .i64 2 ∧ W.ownsRow w.heap.size 3 1 v (1 + l.length) ((x :: l).map (Value.int .i64))))) (fun _ i _ => 2 - (intOf i).toNat)
      case atStart => exact ⟨hb, hz, .inl ⟨rfl, rfl, HO.out⟩⟩
      case round =>
        clear c0' c1' hb hz
        obtain ⟨hb, hz, hr⟩ := hrel
        rcases hr with ⟨rfl, rfl, hr⟩ | ⟨rfl, g, cap, rfl, hcap, hr⟩ | ⟨rfl, hr⟩
        · have q := below_cell hb C0.out
          have HB := Lib.hid (H1.out.below hb)
          have HR := Lib.hid hr
          clear hr
          go_wp2_with (refine app_ints_any rfl _ _ rfl w.heap.size w.heap.size 0 c [] rfl HR.out _ [x] rfl HB.out (by simp) (Nat.zero_le _) (by omega) ?_; intro v8 w8 hown8 hbl8; have HOW := Lib.hid hown8; have HG := Lib.hid hbl8; clear hown8 hbl8)
          obtain ⟨g8, cap8, rfl, hc8⟩ := own_some (x := .int .i64 x) (xs := []) HOW.out
          go_roundw
          case rel => exact ⟨hb.trans HG.out, Nat.lt_of_lt_of_le hz HG.out.size, .inr (.inl ⟨rfl, _, _, rfl, hc8, HOW.out⟩)⟩
          case measure => simp [intOf]
        · have q := below_cell hb C1.out
          have HB := Lib.hid (H2.out.below hb)
          have HR := Lib.hid hr
          clear hr
          go_wp2_with (refine app_ints_any rfl _ _ rfl w.heap.size g 1 cap _ rfl HR.out _ l rfl HB.out (by omega) hcap (by omega) ?_; intro v8 w8 hown8 hbl8; have HOW := Lib.hid hown8; have HG := Lib.hid hbl8; clear hown8 hbl8)
          go_roundw
          case rel => exact ⟨hb.trans HG.out, Nat.lt_of_lt_of_le hz HG.out.size, .inr (.inr ⟨rfl, HOW.out⟩)⟩
          case measure => simp [intOf]
        · have HP := Lib.hid (Ints.own (zs := x :: l) hr HX.out (by simp; omega))
          clear hr
          go_wp2_with fail
          go_ret
          exact ⟨_, rfl, HP.out, hb⟩

/-- What a right program is. -/
structure ProgOK (rows : List (List Int)) (owners : List Int) : Prop where
  few : rows.length ≤ 64
  len : rows.length = owners.length
  right : Right rows (wide rows)
  pos : rows ≠ [] → 1 ≤ wide rows
  own : ∀ o ∈ owners, 0 ≤ o ∧ o ≤ 63
theorem rowBad_false {m : Nat} {r : List Int} {o : Int} (h : rowBad m r o = false) : r.length ≠ 0 ∧ r.length = m ∧ (0 ≤ o ∧ o ≤ 63) ∧ ∀ z ∈ r, 0 ≤ z ∧ z < 1073741789 := by
  unfold rowBad at h
  simp only [Bool.or_eq_false_iff, decide_eq_false_iff_not, Bool.not_eq_false'] at h
  obtain ⟨h0, h1, h2, h3⟩ := h
  refine ⟨h0, by simpa using h1, inB_iff.1 h2, fun z hz => oddQ_num ?_⟩
  cases e : oddQ z with
  | false => rfl
  | true => rw [any_of_mem hz e] at h3; cases h3
where any_of_mem {l : List Int} {z : Int} (hz : z ∈ l) (e : oddQ z = true) : l.any oddQ = true := List.any_eq_true.2 ⟨z, hz, e⟩
theorem progE_ok {rows : List (List Int)} {owners : List Int} (h : progE rows owners = 0) : ProgOK rows owners := by
  unfold progE at h
  split at h
  · cases h
  · rename_i h1
    split at h
    · cases h
    · rename_i h2
      split at h
      · cases h
      · rename_i h3
        have hlen : rows.length = owners.length := by omega
        have hfew : rows.length ≤ 64 := by
          by_cases hh : 64 < rows.length
          · exact absurd (.inl hh) h1
          · omega
        have hk : ∀ k (hk : k < rows.length), rowBad (wide rows) rows[k] (owners[k]'(by omega)) = false := fun k hk => by
          cases e : rowBad (wide rows) rows[k] (owners[k]'(by omega)) with
          | false => rfl
          | true =>
            have hz : k < (rows.zip owners).length := by simp; omega
            exact absurd (List.any_eq_true.2 ⟨(rows.zip owners)[k], List.getElem_mem hz, by rw [zip_at hlen hk]; exact e⟩) h3
        have hs : ∀ r ∈ rows, r.length ≤ 64 := fun r hr => by
          by_cases hl : 64 < r.length
          · exact absurd (.inr (List.any_eq_true.2 ⟨r, hr, by simpa [longR] using hl⟩)) h1
          · omega
        refine ⟨hfew, hlen, ⟨hfew, ?_, ?_, ?_⟩, ?_, ?_⟩
        · cases rows with
          | nil => exact .inr rfl
          | cons r l => exact .inl (hs r (by simp))
        · intro r hr
          obtain ⟨k, hk1, rfl⟩ := List.mem_iff_getElem.1 hr
          exact (rowBad_false (hk k hk1)).2.1
        · intro r hr
          obtain ⟨k, hk1, rfl⟩ := List.mem_iff_getElem.1 hr
          exact (rowBad_false (hk k hk1)).2.2.2
        · intro hne
          have hk1 : 0 < rows.length := List.length_pos_iff.2 hne
          have := rowBad_false (hk 0 hk1)
          omega
        · intro o ho
          obtain ⟨k, hk1, rfl⟩ := List.mem_iff_getElem.1 ho
          exact (rowBad_false (hk k (by omega))).2.2.1
theorem ProgOK.cols {rows : List (List Int)} {owners : List Int} (h : ProgOK rows owners) : 1 ≤ colsQ rows := by
  unfold colsQ; split
  · omega
  · rename_i h0; exact h.pos (fun e => h0 (by rw [e]; rfl))
theorem ProgOK.row {rows : List (List Int)} {owners : List Int} (h : ProgOK rows owners) {k : Nat} (hk : k < rows.length) : rows[k].length = colsQ rows := by
  unfold colsQ; rw [if_neg (by omega)]; exact h.right.len _ (List.getElem_mem hk)

end Go.Proofs.YtggnipkfliompaaGreatDoor

namespace Go.Proofs.YtggnipkfliompaaGreatDoor
open Go.RowKit FP

theorem ProgOK.cols_le {rows : List (List Int)} {owners : List Int} (h : ProgOK rows owners) : colsQ rows ≤ 64 := by
  unfold colsQ; split
  · omega
  · rename_i h0
    rcases h.right.narrow with h1 | h1
    · exact h1
    · exact absurd (by rw [h1]; rfl) h0
/-- The error of a dealing. -/
def dealE (rows : List (List Int)) (owners : List Int) (x : Int) (rnd : List Int) : Int :=
  if progE rows owners ≠ 0 then progE rows owners else if oddQ x = true ∨ rnd.any oddQ = true ∨ rnd.length + 1 ≠ colsQ rows then 1 else 0
/-- The shares, and the commitments. -/
def dealF (rows : List (List Int)) (s : List Int) (i : Nat) : Int × Int := ((i : Int), prodQ (rows.getD i []) s)
def dealL (rows : List (List Int)) (s : List Int) : List (Int × Int) := (List.range rows.length).map (dealF rows s)
def dealC (s : List Int) : List Int := s.map (powE 4)
theorem prodQ_num (a b : List Int) : 0 ≤ prodQ a b ∧ prodQ a b < 1073741789 := prodF_num a b _
theorem dealF_r64 (rows : List (List Int)) (s : List Int) {i : Nat} (h : i < 1000000) : R64 (dealF rows s i).1 ∧ R64 (dealF rows s i).2 :=
  ⟨R64.mk (by show (-4611686018427387904 : Int) ≤ (i : Int); omega) (by show (i : Int) ≤ 4611686018427387904; omega), num_r64 (prodQ_num _ _)⟩
structure DealOK (rows : List (List Int)) (owners : List Int) (x : Int) (rnd : List Int) : Prop where
  prog : ProgOK rows owners
  hx : 0 ≤ x ∧ x < 1073741789
  hr : ∀ z ∈ rnd, 0 ≤ z ∧ z < 1073741789
  len : rnd.length + 1 = colsQ rows
theorem any_odd_false {l : List Int} (h : l.any oddQ = false) : ∀ z ∈ l, 0 ≤ z ∧ z < 1073741789 := fun z hz => oddQ_num (by
  cases e : oddQ z with
  | false => rfl
  | true => rw [List.any_eq_true.2 ⟨z, hz, e⟩] at h; cases h)
theorem oddQ_of {z : Int} (h : 0 ≤ z ∧ z < 1073741789) : oddQ z = false := by simp [oddQ]; omega
theorem any_odd_of {l : List Int} (h : ∀ z ∈ l, 0 ≤ z ∧ z < 1073741789) : l.any oddQ = false := by
  cases e : l.any oddQ with
  | false => rfl
  | true => obtain ⟨z, hz, e2⟩ := List.any_eq_true.1 e; rw [oddQ_of (h z hz)] at e2; cases e2
theorem dealE_ok {rows : List (List Int)} {owners : List Int} {x : Int} {rnd : List Int} (h : dealE rows owners x rnd = 0) : DealOK rows owners x rnd := by
  unfold dealE at h
  by_cases hp : progE rows owners = 0
  · rw [if_neg (by simp [hp])] at h
    split at h
    · cases h
    · rename_i h2
      have hx : oddQ x = false := by
        cases e : oddQ x with
        | false => rfl
        | true => exact absurd (.inl e) h2
      have hr : rnd.any oddQ = false := by
        cases e : rnd.any oddQ with
        | false => rfl
        | true => exact absurd (.inr (.inl e)) h2
      exact ⟨progE_ok hp, oddQ_num hx, any_odd_false hr, by
        by_cases e : rnd.length + 1 = colsQ rows
        · exact e
        · exact absurd (.inr (.inr e)) h2⟩
  · rw [if_pos hp] at h; exact absurd h hp

theorem ints_one (w : World) (x : Int) (t : TypeId) (B : Nat) (hB : w.heap.size = B) (hx : R64 x) : Ints (w.alloc (.cells #[.int .i64 x] t)) (.slice (some ⟨B, 0, none⟩) 1 1) [x] := by
  subst hB
  refine ⟨_, 1, rfl, by simp, by simp, by simpa using hx, fun k hk => ⟨_, _, rfl, ?_⟩⟩
  obtain rfl : k = 0 := by simp at hk; omega
  exact row_cell (World.alloc_heap_new w _) rfl
theorem one_any (x : Int) : [x].any oddQ = oddQ x := by simp

set_option maxRecDepth 100000 in
set_option maxHeartbeats 4000000 in
theorem deal_no (rv ov mv : Value) (rows : List (List Int)) (owners : List Int) (x : Int) (rnd : List Int) (w : World) (hR : Rows2 w rv rows) (hO : Ints w ov owners) (hM : Ints w mv rnd) (hx : R64 x) (he : dealE rows owners x rnd ≠ 0) :
    Calls Tryz.prog 91 #[.agg #[rv, ov], .int .i64 x, mv] w fun r w' => r = .returned (.tuple #[.slice none 0 0, .slice none 0 0, .int .i64 (dealE rows owners x rnd)]) ∧ Below w.heap.size w w' := by
  obtain ⟨W1, hW1, hb1, hr1, hz⟩ := box_prog w rv ov 25
  have HR1 := Lib.hid (hR.below hb1)
  have HO1 := Lib.hid (hO.below hb1)
  have HM1 := Lib.hid (hM.below hb1)
  have HPC := Lib.hid (pCheck_any rv ov rows owners W1 HR1.out HO1.out)
  obtain ⟨a, cap, rfl, -, hlen, -⟩ := id hR
  obtain ⟨a2, cap2, rfl, -, hlen2, -⟩ := id hO
  obtain ⟨a3, cap3, rfl, -, hlen3, -⟩ := id hM
  have c0 : W1.cell? ⟨w.heap.size, 0, none⟩ = some (.slice a rows.length cap) := row_cell hr1 rfl
  have c1 : W1.cell? ⟨w.heap.size, 1, none⟩ = some (.slice a2 owners.length cap2) := row_cell hr1 rfl
  have HW1 := Lib.hid hW1
  have HB1 := Lib.hid hb1
  clear hR hO hM hr1 hW1 hb1
  by_cases hp : progE rows owners = 0
  · have HV : Hid (dealE rows owners x rnd = 1) := Lib.hid (by
      unfold dealE at he ⊢
      rw [if_neg (by simp [hp])] at he ⊢
      split at he
      · rename_i h2; rw [if_pos h2]
      · exact absurd rfl he)
    have HPO := Lib.hid (progE_ok hp)
    rw [hp] at HPC
    have HE0 := Lib.hid he
    have HP0 := Lib.hid hp
    clear he hp
    have hcc := HPO.out.cols
    have hcu := HPO.out.cols_le
    have hci : (1 : Int) ≤ (colsQ rows : Nat) := by omega
    have hcv : ((colsQ rows : Nat) : Int) ≤ 64 := by omega
    cases ex : oddQ x with
    | true =>
      have HX := Lib.hid ex
      clear ex
      go_enter Tryz.func91, Tryz.ntmps91
      go_wp2_with fail
      rw [← HW1.out]
      refine HPC.out.mono ?_
      rintro r w2 ⟨rfl, hb2⟩
      have HB2 := Lib.hid (HB1.out.trans (hb2.mono HB1.out.size))
      clear hb2
      go_wp2_with fail
      refine (numbers_any _ [x] _ (ints_one w2 x 3 _ rfl hx)).mono ?_
      rintro r w3 ⟨rfl, hb3⟩
      rw [one_any, HX.out]
      have hb4 := (HB2.out.alloc HB2.out.size (.cells #[.int .i64 x] 3))
      go_wp2_with fail
      go_ret3
      exact ⟨by rw [HV.out]; rfl, hb4.trans (hb3.mono hb4.size)⟩
    | false =>
      have HX := Lib.hid ex
      clear ex
      cases er : rnd.any oddQ with
      | true =>
        have HRn := Lib.hid er
        clear er
        go_enter Tryz.func91, Tryz.ntmps91
        go_wp2_with fail
        rw [← HW1.out]
        refine HPC.out.mono ?_
        rintro r w2 ⟨rfl, hb2⟩
        have HB2 := Lib.hid (HB1.out.trans (hb2.mono HB1.out.size))
        have HM2 := Lib.hid (HM1.out.below hb2)
        clear hb2
        go_wp2_with fail
        refine (numbers_any _ [x] _ (ints_one w2 x 3 _ rfl hx)).mono ?_
        rintro r w3 ⟨rfl, hb3⟩
        rw [one_any, HX.out]
        have HM3 := Lib.hid ((HM2.out.below (below_new _ _ _)).below hb3)
        have hb4 := (HB2.out.alloc HB2.out.size (.cells #[.int .i64 x] 3))
        have HB4 := Lib.hid (hb4.trans (hb3.mono hb4.size))
        clear hb3 hb4
        go_wp2_with fail
        refine (numbers_any _ rnd _ HM3.out).mono ?_
        rintro r w4 ⟨rfl, hb5⟩
        rw [HRn.out]
        go_wp2_with fail
        go_ret3
        exact ⟨by rw [HV.out]; rfl, HB4.out.trans (hb5.mono HB4.out.size)⟩
      | false =>
        have HRn := Lib.hid er
        have HL : Hid (((rnd.length : Int) != ((colsQ rows : Nat) : Int) - 1) = true) := Lib.hid (bne_iff_ne.2 (by
          intro e
          apply HE0.out
          unfold dealE
          rw [if_neg (by simp [HP0.out]), if_neg]
          rw [HX.out, HRn.out]
          rintro (h | h | h)
          · cases h
          · cases h
          · omega))
        have hlb := HL.out
        clear er
        go_enter Tryz.func91, Tryz.ntmps91
        go_wp2_with fail
        rw [← HW1.out]
        refine HPC.out.mono ?_
        rintro r w2 ⟨rfl, hb2⟩
        have HB2 := Lib.hid (HB1.out.trans (hb2.mono HB1.out.size))
        have HM2 := Lib.hid (HM1.out.below hb2)
        have HR2 := Lib.hid (HR1.out.below hb2)
        have HO2 := Lib.hid (HO1.out.below hb2)
        have d0 := below_cell hb2 c0
        have d1 := below_cell hb2 c1
        clear hb2
        go_wp2_with fail
        refine (numbers_any _ [x] _ (ints_one w2 x 3 _ rfl hx)).mono ?_
        rintro r w3 ⟨rfl, hb3⟩
        rw [one_any, HX.out]
        have hb3' := (below_new w2 #[.int .i64 x] 3).trans (hb3.mono (by simp))
        have HM3 := Lib.hid (HM2.out.below hb3')
        have HR3 := Lib.hid (HR2.out.below hb3')
        have HO3 := Lib.hid (HO2.out.below hb3')
        have f0 := below_cell hb3' d0
        have f1 := below_cell hb3' d1
        have HB4 := Lib.hid (HB2.out.trans (hb3'.mono HB2.out.size))
        clear hb3 hb3' d0 d1
        go_wp2_with fail
        refine (numbers_any _ rnd _ HM3.out).mono ?_
        rintro r w4 ⟨rfl, hb5⟩
        rw [HRn.out]
        have g0 := below_cell hb5 f0
        have g1 := below_cell hb5 f1
        have HR5 := Lib.hid (HR3.out.below hb5)
        have HO5 := Lib.hid (HO3.out.below hb5)
        have HB5 := Lib.hid (HB4.out.trans (hb5.mono HB4.out.size))
        clear hb5 f0 f1
        go_wp2_with fail
        refine (columns_any _ _ rows owners _ HR5.out HO5.out).mono ?_
        rintro r w6 ⟨rfl, hb6⟩
        go_wp2_with fail
        go_ret3
        exact ⟨by rw [HV.out]; rfl, HB5.out.trans (hb6.mono HB5.out.size)⟩
  · have HV : Hid (dealE rows owners x rnd = progE rows owners) := Lib.hid (by unfold dealE; rw [if_pos hp])
    have h2 : (progE rows owners != 0) = true := bne_iff_ne.2 hp
    clear he
    go_enter Tryz.func91, Tryz.ntmps91
    go_wp2_with fail
    rw [← HW1.out]
    refine HPC.out.mono ?_
    rintro r w2 ⟨rfl, hb2⟩
    go_wp2_with fail
    go_ret3
    exact ⟨by rw [HV.out]; rfl, HB1.out.trans (hb2.mono HB1.out.size)⟩

end Go.Proofs.YtggnipkfliompaaGreatDoor

namespace Go.Proofs.YtggnipkfliompaaGreatDoor
open Go.RowKit FP

theorem getD_at {α : Type} {l : List α} {k : Nat} (h : k < l.length) (d : α) : l.getD k d = l[k] := by
  rw [List.getD_eq_getElem?_getD, List.getElem?_eq_getElem h]; rfl
theorem range_snoc {β : Type} (f : Nat → β) (k : Nat) : (List.range (k + 1)).map f = (List.range k).map f ++ [f k] := by
  rw [List.range_succ, List.map_append]; rfl

end Go.Proofs.YtggnipkfliompaaGreatDoor

namespace Go.Proofs.YtggnipkfliompaaGreatDoor
open Go.RowKit FP

def notEl (x : Int) : Bool := !elB x
set_option maxRecDepth 100000 in
theorem notel_any (z : Int) (w : World) (hz : R64 z) : Calls Tryz.prog 176 #[.int .i64 z] w fun r w' => r = .returned (.bool (notEl z)) ∧ w = w' := by
  go_enter Tryz.func176, Tryz.ntmps176
  go_wp2_with fail
  with_reducible refine (valid_any z _ hz).mono ?_
  rintro r w1 ⟨rfl, rfl⟩
  go_wp2_with fail
  go_ret
  exact ⟨rfl, rfl⟩
theorem notel_tests (w : World) (zs : List Int) (hr : ∀ z ∈ zs, R64 z) : Tests 176 #[] w notEl zs :=
  fun z hz w' _ => (notel_any z w' (hr z hz)).mono fun _ _ ⟨h, e⟩ => ⟨h, e ▸ Below.refl _ _⟩
set_option maxRecDepth 100000 in
theorem notel_goes : Goes Tryz.prog 176 := goes_of Tryz.func176 (by kernel_rfl) rfl

/-- The error of commitments. -/
def dchkE (rows : List (List Int)) (owners cs : List Int) : Int :=
  if progE rows owners ≠ 0 then progE rows owners else if cs.length ≠ colsQ rows ∨ cs.any notEl = true then 340 else 0
structure ComOK (rows : List (List Int)) (owners cs : List Int) : Prop where
  prog : ProgOK rows owners
  prog0 : progE rows owners = 0
  len : cs.length = colsQ rows
  el : ∀ c ∈ cs, El c
theorem any_notel {l : List Int} (h : l.any notEl = false) : ∀ z ∈ l, El z := fun z hz => by
  refine elB_iff.1 ?_
  cases e : elB z with
  | true => rfl
  | false => rw [List.any_eq_true.2 ⟨z, hz, by unfold notEl; rw [e]; rfl⟩] at h; cases h
theorem dchkE_ok {rows : List (List Int)} {owners cs : List Int} (h : dchkE rows owners cs = 0) : ComOK rows owners cs := by
  unfold dchkE at h
  by_cases hp : progE rows owners = 0
  · rw [if_neg (by simp [hp])] at h
    split at h
    · cases h
    · rename_i h2
      refine ⟨progE_ok hp, hp, ?_, any_notel ?_⟩
      · by_cases e : cs.length = colsQ rows
        · exact e
        · exact absurd (.inl e) h2
      · cases e : cs.any notEl with
        | false => rfl
        | true => exact absurd (.inr e) h2
  · rw [if_pos hp] at h; exact absurd h hp
theorem dchkE_of {rows : List (List Int)} {owners cs : List Int} (h : ComOK rows owners cs) : dchkE rows owners cs = 0 := by
  unfold dchkE
  rw [if_neg (by simp [h.prog0]), if_neg]
  rintro (e | e)
  · exact e h.len
  · obtain ⟨z, hz, e2⟩ := List.any_eq_true.1 e
    unfold notEl at e2; rw [elB_iff.2 (h.el z hz)] at e2; cases e2

set_option maxRecDepth 100000 in
set_option maxHeartbeats 4000000 in
theorem dcheck_any (rv ov cv : Value) (rows : List (List Int)) (owners cs : List Int) (w : World) (hR : Rows2 w rv rows) (hO : Ints w ov owners) (hC : Ints w cv cs) :
    Calls Tryz.prog 112 #[.agg #[rv, ov], cv] w fun r w' => r = .returned (.int .i64 (dchkE rows owners cs)) ∧ Below w.heap.size w w' := by
  obtain ⟨W1, hW1, hb1, hr1, hz⟩ := box_prog w rv ov 25
  have HR1 := Lib.hid (hR.below hb1)
  have HO1 := Lib.hid (hO.below hb1)
  have HC1 := Lib.hid (hC.below hb1)
  have HPC := Lib.hid (pCheck_any rv ov rows owners W1 HR1.out HO1.out)
  obtain ⟨a, cap, rfl, -, hlen, -⟩ := id hR
  obtain ⟨a2, cap2, rfl, -, hlen2, -⟩ := id hO
  obtain ⟨a3, cap3, rfl, -, hlen3, hcr, -⟩ := id hC
  have c0 : W1.cell? ⟨w.heap.size, 0, none⟩ = some (.slice a rows.length cap) := row_cell hr1 rfl
  have c1 : W1.cell? ⟨w.heap.size, 1, none⟩ = some (.slice a2 owners.length cap2) := row_cell hr1 rfl
  have HW1 := Lib.hid hW1
  have HB1 := Lib.hid hb1
  have HCR := Lib.hid hcr
  clear hR hO hC hr1 hW1 hb1 hcr
  by_cases hp : progE rows owners = 0
  · have HV : Hid (dchkE rows owners cs = if cs.length ≠ colsQ rows ∨ cs.any notEl = true then 340 else 0) := Lib.hid (by unfold dchkE; rw [if_neg (by simp [hp])])
    have HPO := Lib.hid (progE_ok hp)
    rw [hp] at HPC
    have hcu := HPO.out.cols_le
    clear hp
    go_enter Tryz.func112, Tryz.ntmps112
    go_wp2_with fail
    rw [← HW1.out]
    refine HPC.out.mono ?_
    rintro r w2 ⟨rfl, hb2⟩
    have HB2 := Lib.hid (HB1.out.trans (hb2.mono HB1.out.size))
    have HC2 := Lib.hid (HC1.out.below hb2)
    have HR2 := Lib.hid (HR1.out.below hb2)
    have HO2 := Lib.hid (HO1.out.below hb2)
    have d0 := below_cell hb2 c0
    have d1 := below_cell hb2 c1
    clear hb2
    go_wp2_with fail
    refine (columns_any _ _ rows owners _ HR2.out HO2.out).mono ?_
    rintro r w3 ⟨rfl, hb3⟩
    have HB3 := Lib.hid (HB2.out.trans (hb3.mono HB2.out.size))
    have HC3 := Lib.hid (HC2.out.below hb3)
    clear hb3 d0 d1
    by_cases hl : cs.length = colsQ rows
    · have hlb : ((cs.length : Int) != ((colsQ rows : Nat) : Int)) = false := by rw [hl]; exact bne_self_eq_false _
      have HCF := Lib.hid (containsFunc_any 176 #[] notEl _ cs _ HC3.out notel_goes (notel_tests _ _ HCR.out))
      cases en : cs.any notEl with
      | true =>
        have HV2 : Hid (dchkE rows owners cs = 340) := Lib.hid (by rw [HV.out, if_pos (.inr en)])
        rw [en] at HCF
        clear en hl
        go_wp2_with fail
        refine HCF.out.mono ?_
        rintro r w4 ⟨rfl, hb4⟩
        go_wp2_with fail
        go_ret
        exact ⟨ret_int HV2.out.symm, HB3.out.trans (hb4.mono HB3.out.size)⟩
      | false =>
        have HV2 : Hid (dchkE rows owners cs = 0) := Lib.hid (by rw [HV.out, if_neg]; rw [en]; rintro (h | h); exact h hl; cases h)
        rw [en] at HCF
        clear en hl
        go_wp2_with fail
        refine HCF.out.mono ?_
        rintro r w4 ⟨rfl, hb4⟩
        go_wp2_with fail
        go_ret
        exact ⟨ret_int HV2.out.symm, HB3.out.trans (hb4.mono HB3.out.size)⟩
    · have hlb : ((cs.length : Int) != ((colsQ rows : Nat) : Int)) = true := bne_iff_ne.2 (by omega)
      have HV2 : Hid (dchkE rows owners cs = 340) := Lib.hid (by rw [HV.out, if_pos (.inl hl)])
      clear hl
      go_wp2_with fail
      go_ret
      exact ⟨ret_int HV2.out.symm, HB3.out⟩
  · have HV : Hid (dchkE rows owners cs = progE rows owners) := Lib.hid (by unfold dchkE; rw [if_pos hp])
    have h2 : (progE rows owners != 0) = true := bne_iff_ne.2 hp
    go_enter Tryz.func112, Tryz.ntmps112
    go_wp2_with fail
    rw [← HW1.out]
    refine HPC.out.mono ?_
    rintro r w2 ⟨rfl, hb2⟩
    go_wp2_with fail
    go_ret
    exact ⟨ret_int HV.out.symm, HB1.out.trans (hb2.mono HB1.out.size)⟩

/-- What a share has to fit, after j columns. -/
def pubF (row cs : List Int) : Nat → Int
  | 0 => 1
  | j + 1 => pubF row cs j * powE (nth cs j) (nth row j) % 2147483579
def pubQ (row cs : List Int) : Int := pubF row cs cs.length
theorem el_pubF {row cs : List Int} (h : ∀ c ∈ cs, El c) : ∀ j, j ≤ cs.length → El (pubF row cs j)
  | 0, _ => el_one
  | j + 1, hj => el_mul (el_pubF h j (by omega)) (el_powE (h _ (by rw [nth_at (by omega)]; exact List.getElem_mem _)) _)
/-- The error of Public; its value. -/
def pubE (rows : List (List Int)) (owners cs : List Int) (r : Int) : Int :=
  if dchkE rows owners cs ≠ 0 then dchkE rows owners cs else if r < 0 ∨ (rows.length : Int) ≤ r then 1 else 0
def pubR (rows : List (List Int)) (owners cs : List Int) (r : Int) : Int := if pubE rows owners cs r = 0 then pubQ (rows.getD r.toNat []) cs else 0

set_option maxRecDepth 100000 in
set_option maxHeartbeats 4000000 in
theorem public_any (rv ov cv : Value) (rows : List (List Int)) (owners cs : List Int) (r : Int) (w : World) (hR : Rows2 w rv rows) (hO : Ints w ov owners) (hC : Ints w cv cs) (hr : R64 r) :
    Calls Tryz.prog 114 #[.agg #[rv, ov], cv, .int .i64 r] w fun e w' => e = .returned (.tuple #[.int .i64 (pubR rows owners cs r), .int .i64 (pubE rows owners cs r)]) ∧ Below w.heap.size w w' := by
  obtain ⟨W1, hW1, hb1, hr1, hz⟩ := box_prog w rv ov 25
  have HR1 := Lib.hid (hR.below hb1)
  have HO1 := Lib.hid (hO.below hb1)
  have HC1 := Lib.hid (hC.below hb1)
  have HDC := Lib.hid (dcheck_any rv ov cv rows owners cs W1 HR1.out HO1.out HC1.out)
  obtain ⟨a, cap, rfl, -, hlen, -⟩ := id hR
  obtain ⟨a2, cap2, rfl, -, hlen2, -⟩ := id hO
  obtain ⟨a3, cap3, rfl, -, hlen3, hcr, -⟩ := id hC
  have c0 : W1.cell? ⟨w.heap.size, 0, none⟩ = some (.slice a rows.length cap) := row_cell hr1 rfl
  have c1 : W1.cell? ⟨w.heap.size, 1, none⟩ = some (.slice a2 owners.length cap2) := row_cell hr1 rfl
  have HW1 := Lib.hid hW1
  have HB1 := Lib.hid hb1
  clear hR hO hC hr1 hW1 hb1 hcr
  by_cases hp : dchkE rows owners cs = 0
  · have HK := Lib.hid (dchkE_ok hp)
    have HP0 := Lib.hid hp
    rw [hp] at HDC
    clear hp
    by_cases hneg : r < 0
    · have HV : Hid (pubE rows owners cs r = 1) := Lib.hid (by unfold pubE; rw [if_neg (by simp [HP0.out]), if_pos (.inl hneg)])
      have HW : Hid (pubR rows owners cs r = 0) := Lib.hid (by unfold pubR; rw [HV.out]; rfl)
      go_enter Tryz.func114, Tryz.ntmps114
      go_wp2_with fail
      rw [← HW1.out]
      refine HDC.out.mono ?_
      rintro e w2 ⟨rfl, hb2⟩
      go_wp2_with fail
      go_ret2
      exact ⟨by rw [HV.out, HW.out]; rfl, HB1.out.trans (hb2.mono HB1.out.size)⟩
    · have hn0 : 0 ≤ r := by omega
      by_cases hgt : (rows.length : Int) ≤ r
      · have HV : Hid (pubE rows owners cs r = 1) := Lib.hid (by unfold pubE; rw [if_neg (by simp [HP0.out]), if_pos (.inr hgt)])
        have HW : Hid (pubR rows owners cs r = 0) := Lib.hid (by unfold pubR; rw [HV.out]; rfl)
        go_enter Tryz.func114, Tryz.ntmps114
        go_wp2_with fail
        rw [← HW1.out]
        refine HDC.out.mono ?_
        rintro e w2 ⟨rfl, hb2⟩
        have d0 := below_cell hb2 c0
        go_wp2_with fail
        go_ret2
        exact ⟨by rw [HV.out, HW.out]; rfl, HB1.out.trans (hb2.mono HB1.out.size)⟩
      · obtain ⟨n, hn⟩ : ∃ n : Nat, r = n := ⟨r.toNat, by omega⟩
        have hlt : n < rows.length := by omega
        have HV : Hid (pubE rows owners cs r = 0) := Lib.hid (by unfold pubE; rw [if_neg (by simp [HP0.out]), if_neg (by omega)])
        have HW : Hid (pubR rows owners cs r = pubF rows[n] cs cs.length) := Lib.hid (by unfold pubR pubQ; rw [if_pos HV.out, hn, Int.toNat_natCast, getD_at hlt])
        subst hn
        obtain ⟨row, hrow⟩ : ∃ row, row = rows[n] := ⟨_, rfl⟩
        rw [← hrow] at HW
        have HROW := Lib.hid hrow
        clear hrow
        have hgt2 : (n : Int) < (rows.length : Int) := by omega
        have hd1 : decide ((n : Int) < 0) = false := decide_eq_false (by omega)
        have hd2 : decide (rows.length ≤ n) = false := decide_eq_false (by omega)
        clear hneg hgt
        go_enter Tryz.func114, Tryz.ntmps114
        go_wp2_with fail
        rw [← HW1.out]
        refine HDC.out.mono ?_
        rintro e w2 ⟨rfl, hb2⟩
        have d0 := below_cell hb2 c0
        have HR2 := Lib.hid (HR1.out.below hb2)
        have HC2 := Lib.hid (HC1.out.below hb2)
        have HB2 := Lib.hid (HB1.out.trans (hb2.mono HB1.out.size))
        clear hb2
        go_wp2_with fail
        go_loopw [6, 30] (fun x i W => ∃ j : Nat, j ≤ cs.length ∧ i = .int .i64 j ∧ x = .int .i64 (pubF row cs j) ∧ Below w2.heap.size w2 W) (fun _ i _ => cs.length - (intOf i).toNat)
        case atStart => exact ⟨0, Nat.zero_le _, rfl, rfl, Below.refl _ _⟩
        case round =>
          obtain ⟨j, hjl, rfl, rfl, hb⟩ := hrel
          have f0 := below_cell hb d0
          by_cases hj : j < cs.length
          · obtain ⟨aa, cc, e1, -, -, hk⟩ := HR2.out
            obtain ⟨b, off, rr, ha, q1, hI⟩ := hk n hlt
            simp only [Value.slice.injEq] at e1
            obtain ⟨rfl, -, rfl⟩ := e1
            subst ha
            have y1 := below_cell hb q1
            have hrl := HK.out.prog.row hlt
            rw [← HROW.out] at hI hrl
            have hj2 : j < row.length := by rw [hrl, ← HK.out.len]; exact hj
            obtain ⟨hr2, b2, off2, n2, k2, e2, q2⟩ := (hI.below hb).get hj2
            obtain ⟨hr3, b3, off3, n3, k3, e3, q3⟩ := (HC2.out.below hb).get hj
            obtain ⟨ra, rc, e4, -, -, -, -⟩ := id hI
            rw [e4] at e2 y1
            simp only [Value.slice.injEq] at e2 e3
            obtain ⟨e2, -, -⟩ := e2
            obtain ⟨e3, -, -⟩ := e3
            subst e2 e3
            have hel : El (nth cs j) := HK.out.el _ (by rw [nth_at hj]; exact List.getElem_mem _)
            have hep := el_pubF (row := row) HK.out.el j (by omega)
            have HPW := Lib.hid (fun w => pow_yes (nth cs j) (nth row j) w hel hr2)
            have HML := Lib.hid (fun w => mul_yes (pubF row cs j) (powE (nth cs j) (nth row j)) w hep (el_powE hel _))
            have HNX := Lib.hid (show pubF row cs (j + 1) = pubF row cs j * powE (nth cs j) (nth row j) % 2147483579 from rfl)
            have i0 : 0 ≤ (j : Int) := by omega
            have i1 : (j : Int) < (row.length : Int) := by omega
            have i2 : (j : Int) < (cs.length : Int) := by omega
            have i3 : 0 ≤ (n : Int) := by omega
            have HBW := Lib.hid hb
            clear hk q1 hI hb e4 hel hep hrl
            generalize pubF row cs j = p1 at *
            generalize powE (nth cs j) (nth row j) = pw at *
            generalize nth cs j = cj at *
            generalize nth row j = rj at *
            go_wp2_with fail
            refine (HPW.out _).mono ?_
            rintro e w3 ⟨rfl, hb3⟩
            go_wp2_with fail
            refine (HML.out _).mono ?_
            rintro e w4 ⟨rfl, rfl⟩
            go_wp2_with fail
            go_roundw
            case rel => exact ⟨j + 1, by omega, by go_num, by rw [HNX.out], HBW.out.trans (hb3.mono HBW.out.size)⟩
            case measure => simp [intOf]; omega
          · obtain rfl : j = cs.length := by omega
            have HF := Lib.hid (HB2.out.trans (hb.mono HB2.out.size))
            clear hb f0
            go_wp2_with fail
            go_ret2
            exact ⟨by rw [HV.out, HW.out]; rfl, HF.out⟩
  · have HV : Hid (pubE rows owners cs r = dchkE rows owners cs) := Lib.hid (by unfold pubE; rw [if_pos hp])
    have HW : Hid (pubR rows owners cs r = 0) := Lib.hid (by unfold pubR; rw [HV.out, if_neg hp])
    have h2 : (dchkE rows owners cs != 0) = true := bne_iff_ne.2 hp
    go_enter Tryz.func114, Tryz.ntmps114
    go_wp2_with fail
    rw [← HW1.out]
    refine HDC.out.mono ?_
    rintro e w2 ⟨rfl, hb2⟩
    go_wp2_with fail
    go_ret2
    exact ⟨by rw [HV.out, HW.out]; rfl, HB1.out.trans (hb2.mono HB1.out.size)⟩

end Go.Proofs.YtggnipkfliompaaGreatDoor
