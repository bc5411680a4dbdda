/- LinearSums returns true for every input, and leaves its arguments as they were: what Combine gives for a sum is the sum of what it gives. -/
import Derived.Test.YtjjdgphjkoppgaaRankA
import Derived.Test.YtjjdgphjkoppgaaLaJ
namespace Go.Proofs.Ytjjdgphjkoppgaa
open Go.ChangeShapes Go.WideShapes Go.ChangeAt Go.RowKit Go.Deep

theorem i64_wf {n : Int} (h : (Lit.int .i64 n).wf = true) : R64 n := by
  simp only [Lit.wf, Bool.and_eq_true, decide_eq_true_eq] at h
  exact h
theorem u8_wf {n : Int} (h : (Lit.int .u8 n).wf = true) : 0 ≤ n ∧ n < 256 := by
  simp only [Lit.wf, Bool.and_eq_true, decide_eq_true_eq] at h
  obtain ⟨h1, h2⟩ := h
  have h1 : (0 : Int) ≤ n := h1
  have h2 : n ≤ 255 := h2
  omega

def sumF (a b : List Int) (n : Int) (k : Nat) : Int := (nth a k + n * nth b k % 1073741789) % 1073741789
def sumG (a b : List Int) (n : Int) (j : Nat) : Nat → Int := fun k => if k < j then sumF a b n k else 0
def sumL (a b : List Int) (n : Int) (m : Nat) : List Int := (List.range m).map (sumF a b n)
theorem sumG_0 (a b : List Int) (n : Int) : sumG a b n 0 = fun _ => 0 := by funext k; unfold sumG; rw [if_neg (by omega)]
theorem sumG_s (a b : List Int) (n : Int) (j : Nat) : (fun k => if k = j then sumF a b n j else sumG a b n j k) = sumG a b n (j + 1) := by
  funext k; unfold sumG
  by_cases e : k = j
  · rw [if_pos e, if_pos (by omega), e]
  · rw [if_neg e]
    by_cases h : k < j
    · rw [if_pos h, if_pos (by omega)]
    · rw [if_neg h, if_neg (by omega)]

abbrev SumsTrue (v u x : Value) (n : Int) (w : World) : Prop :=
  Calls Try.prog 8 #[v, u, x, .int .i64 n] w fun e w' => e = .returned (.bool true) ∧ Below w.heap.size w w'

theorem Comb_b (v u : Value) (rows : List (List Int)) (t : List Int) (ok : Bool) (w : World) (hI : Rows2 w v rows) (hU : Ints w u t) (h0 : examErr rows t = 0) (hok : rcombOk rows t = ok) :
    Calls Try.prog 16 #[v, u] w fun r w' => ∃ yv, r = .returned (.tuple #[yv, .bool ok, .int .i64 0]) ∧ Below w.heap.size w w' := by
  cases ok with
  | true => exact (Comb_yes v u rows t w hI hU h0 hok).mono fun r w' ⟨y, e, _, b⟩ => ⟨y, e, b⟩
  | false => exact (Comb_no v u rows t w hI hU h0 hok).mono fun r w' ⟨y, e, _, b⟩ => ⟨y, e, b⟩

set_option maxRecDepth 100000 in
set_option maxHeartbeats 16000000 in
theorem sums_out (v u x : Value) (rows : List (List Int)) (a b : List Int) (n : Int) (w : World) (hI : Rows2 w v rows) (hU : Ints w u a) (hX : Ints w x b) (q1 q2 : Bool) (h1 : rightQ rows a = q1) (h2 : rightQ rows b = q2) (h : q1 = false ∨ q2 = false ∨ a.length ≠ b.length) : SumsTrue v u x n w := by
  have H1 := Lib.hid h1
  have H2 := Lib.hid h2
  clear h1 h2
  obtain ⟨a1, c1, rfl, -⟩ := id hI
  obtain ⟨a2, c2, rfl, -⟩ := id hU
  obtain ⟨a3, c3, rfl, -⟩ := id hX
  go_enter Try.func8, Try.ntmps8
  go_wp2_with fail
  with_reducible refine (sane_any _).mono ?_
  rintro e w1 ⟨rfl, b1⟩
  go_wp2_with fail
  with_reducible refine (right_is _ _ rows a q1 _ (hI.below b1) (hU.below b1) H1.out).mono ?_
  rintro e w2 ⟨rfl, b2⟩
  have t2 := b1.trans (b2.mono b1.size)
  cases q1 with
  | false =>
    clear h
    go_wp2_with fail
    go_ret
    exact ⟨rfl, t2⟩
  | true =>
    go_wp2_with fail
    with_reducible refine (right_is _ _ rows b q2 _ (hI.below t2) (hX.below t2) H2.out).mono ?_
    rintro e w3 ⟨rfl, b3⟩
    have t3 := t2.trans (b3.mono t2.size)
    cases q2 with
    | false =>
      clear h
      go_wp2_with fail
      go_ret
      exact ⟨rfl, t3⟩
    | true =>
      have hne : ((a.length : Int) != (b.length : Int)) = true := by rw [bne_iff_ne]; rcases h with h | h | h <;> first | cases h | omega
      clear h
      go_wp2_with fail
      go_ret
      exact ⟨rfl, t3⟩

set_option maxRecDepth 100000 in
set_option maxHeartbeats 16000000 in
theorem sums_not (v u x : Value) (rows : List (List Int)) (a b : List Int) (n : Int) (w : World) (hI : Rows2 w v rows) (hU : Ints w u a) (hX : Ints w x b) (h1 : rightQ rows a = true) (h2 : rightQ rows b = true) (hl : b.length = a.length) (o1 o2 : Bool) (ho1 : rcombOk rows a = o1) (ho2 : rcombOk rows b = o2) (h : o1 = false ∨ o2 = false) : SumsTrue v u x n w := by
  have H1 := Lib.hid h1
  have H2 := Lib.hid h2
  have E1 := Lib.hid (rightQ_ok h1).1
  have E2 := Lib.hid (rightQ_ok h2).1
  have O1 := Lib.hid ho1
  have O2 := Lib.hid ho2
  clear h1 h2 ho1 ho2
  obtain ⟨a1, c1, rfl, -⟩ := id hI
  obtain ⟨a2, c2, rfl, -⟩ := id hU
  obtain ⟨a3, c3, rfl, -⟩ := id hX
  rw [hl] at hX ⊢
  clear hl
  go_enter Try.func8, Try.ntmps8
  go_wp2_with fail
  with_reducible refine (sane_any _).mono ?_
  rintro e w1 ⟨rfl, b1⟩
  go_wp2_with fail
  with_reducible refine (right_is _ _ rows a true _ (hI.below b1) (hU.below b1) H1.out).mono ?_
  rintro e w2 ⟨rfl, b2⟩
  have t2 := b1.trans (b2.mono b1.size)
  go_wp2_with fail
  with_reducible refine (right_is _ _ rows b true _ (hI.below t2) (hX.below t2) H2.out).mono ?_
  rintro e w3 ⟨rfl, b3⟩
  have t3 := t2.trans (b3.mono t2.size)
  go_wp2_with fail
  with_reducible refine (Comb_b _ _ rows a o1 _ (hI.below t3) (hU.below t3) E1.out O1.out).mono ?_
  rintro e w4 ⟨y4, rfl, b4⟩
  have t4 := t3.trans (b4.mono t3.size)
  go_wp2_with fail
  with_reducible refine (Comb_b _ _ rows b o2 _ (hI.below t4) (hX.below t4) E2.out O2.out).mono ?_
  rintro e w5 ⟨y5, rfl, b5⟩
  have t5 := t4.trans (b5.mono t4.size)
  cases o1 <;> cases o2
  case true.true => rcases h with h | h <;> cases h
  all_goals
    clear h
    go_wp2_with fail
    go_ret
    exact ⟨rfl, t5⟩

set_option maxRecDepth 100000 in
set_option maxHeartbeats 16000000 in
theorem sums_in (v u x : Value) (rows : List (List Int)) (a b : List Int) (n : Int) (w : World) (hI : Rows2 w v rows) (hU : Ints w u a) (hX : Ints w x b) (hn : R64 n) (h1 : rightQ rows a = true) (h2 : rightQ rows b = true) (hl : b.length = a.length) (ho1 : rcombOk rows a = true) (ho2 : rcombOk rows b = true) : SumsTrue v u x n w := by
  obtain ⟨e1, hR, ha, ha16, hn16⟩ := rightQ_ok h1
  obtain ⟨e2, -, hb, -, -⟩ := rightQ_ok h2
  obtain ⟨s, hs⟩ : ∃ s, s = sumL a b n a.length := ⟨_, rfl⟩
  have hsl : s.length = a.length := by rw [hs]; simp [sumL]
  have hsn : ∀ z ∈ s, 0 ≤ z ∧ z < 1073741789 := fun z hz => by
    rw [hs] at hz
    obtain ⟨k, -, rfl⟩ := List.mem_map.1 hz
    exact mod_num _
  have hsv : ∀ j, j < a.length → cv s j = cv a j + cq n * cv b j := fun j hj => by
    show cq (nth s j) = cq (nth a j) + cq n * cq (nth b j)
    rw [hs, show nth (sumL a b n a.length) j = sumF a b n j from nth_map _ _ hj]
    unfold sumF
    rw [cq_mod, cq_add, cq_mod, cq_mul]
  obtain ⟨os, hz⟩ := sums_law hR hl hsl ha hb hsn hsv ho1 ho2
  have es := exam_right (rows := rows) (t := s) (by rw [hsl]; exact hR) hsn (by omega)
  have H1 := Lib.hid h1
  have H2 := Lib.hid h2
  have E1 := Lib.hid e1
  have E2 := Lib.hid e2
  have ES := Lib.hid es
  have O1 := Lib.hid ho1
  have O2 := Lib.hid ho2
  have OS := Lib.hid os
  have HS := Lib.hid hs
  have l1 := rcombY_len rows a
  have l2 := rcombY_len rows b
  have l3 := rcombY_len rows s
  have HC1 := Lib.hid fun v u w hI hU => Comb_yes v u rows a w hI hU e1 ho1
  have HC2 := Lib.hid fun v u w hI hU => Comb_yes v u rows b w hI hU e2 ho2
  have HC3 := Lib.hid fun v u w hI hU => Comb_yes v u rows s w hI hU es os
  generalize rcombY rows a = xs at *
  generalize rcombY rows b = ys at *
  generalize rcombY rows s = zs at *
  have HZ := Lib.hid hz
  have L1 := Lib.hid l1
  have L2 := Lib.hid l2
  have L3 := Lib.hid l3
  clear h1 h2 e1 e2 es ho1 ho2 os hs hz l1 l2 l3 hsv hsn ha hb hR
  have HU := Lib.hid (fun k (hk : k < a.length) => hU.get hk)
  have HX := Lib.hid (fun k (hk : k < b.length) => hX.get hk)
  obtain ⟨a1, c1, rfl, -⟩ := id hI
  obtain ⟨a2, c2, rfl, k1, k2, -⟩ := id hU
  obtain ⟨a3, c3, rfl, k3, k4, -⟩ := id hX
  have HL := Lib.hid hl
  obtain ⟨m, hm⟩ : ∃ m, m = a.length := ⟨_, rfl⟩
  have HM := Lib.hid hm
  rw [hl] at hX HX k3 ⊢
  rw [← hm] at hU hX HU HX k1 k3 ha16 hsl ⊢
  have HSL := Lib.hid hsl
  have hmk := run_ints m (by omega)
  clear hl hm hsl
  go_enter Try.func8, Try.ntmps8
  go_wp2_with fail
  with_reducible refine (sane_any _).mono ?_
  rintro e w1 ⟨rfl, b1⟩
  go_wp2_with fail
  with_reducible refine (right_is _ _ rows a true _ (hI.below b1) (hU.below b1) H1.out).mono ?_
  rintro e w2 ⟨rfl, b2⟩
  have t2 := b1.trans (b2.mono b1.size)
  go_wp2_with fail
  with_reducible refine (right_is _ _ rows b true _ (hI.below t2) (hX.below t2) H2.out).mono ?_
  rintro e w3 ⟨rfl, b3⟩
  have t3 := t2.trans (b3.mono t2.size)
  go_wp2_with fail
  with_reducible refine (HC1.out _ _ _ (hI.below t3) (hU.below t3)).mono ?_
  rintro e w4 ⟨y4, rfl, i4, b4⟩
  have t4 := t3.trans (b4.mono t3.size)
  go_wp2_with fail
  with_reducible refine (HC2.out _ _ _ (hI.below t4) (hX.below t4)).mono ?_
  rintro e w5 ⟨y5, rfl, i5, b5⟩
  have t5 := t4.trans (b5.mono t4.size)
  have i45 := i4.below b5
  obtain ⟨p4, q4, rfl⟩ : ∃ p q, y4 = .slice p rows.length q := by obtain ⟨p, q, rfl, -⟩ := i4; exact ⟨p, q, by rw [L1.out]⟩
  obtain ⟨p5, q5, rfl⟩ : ∃ p q, y5 = .slice p rows.length q := by obtain ⟨p, q, rfl, -⟩ := i5; exact ⟨p, q, by rw [L2.out]⟩
  have HX4 := Lib.hid (fun k (hk : k < xs.length) => i45.get hk)
  have HX5 := Lib.hid (fun k (hk : k < ys.length) => i5.get hk)
  go_wp2_with fail
  obtain ⟨w6, hw6⟩ : ∃ w6, w5.alloc (.cells (madeCells #[.int .i64 0] m) 3) = w6 := ⟨_, rfl⟩
  obtain ⟨Y, hY⟩ : ∃ Y, Y = w5.heap.size := ⟨_, rfl⟩
  have hI1 : IBlk w6 Y m (sumG a b n 0) := by rw [← hw6, hY, sumG_0]; exact IBlk.made _ _ _
  have hb1 : Below Y w5 w6 := by rw [← hw6, hY]; exact (Below.refl _ _).alloc (Nat.le_refl _) _
  have hs1 : Y < w6.heap.size := by rw [← hw6, hY]; simp
  rw [hw6, ← hY]
  have HY := Lib.hid hY
  clear hw6 hmk hY
  go_loopw [71] (fun i wr => ∃ j : Nat, j ≤ m ∧ i = .int .i64 j ∧ IBlk wr Y m (sumG a b n j) ∧ Below Y w5 wr ∧ Y < wr.heap.size) (fun i _ => m - (intOf i).toNat)
  case atStart => exact ⟨0, Nat.zero_le _, rfl, hI1, hb1, hs1⟩
  case round =>
    obtain ⟨j, hjm, rfl, hIj, hbj, hsj⟩ := hrel
    by_cases hlj : j < m
    · obtain ⟨hra, ba, oa, _, _, e1, hca⟩ := HU.out j hlj
      injection e1 with e2 e3 e4
      subst e2
      clear e3 e4
      obtain ⟨hrb, bb, ob, _, _, e1, hcb⟩ := HX.out j hlj
      injection e1 with e2 e3 e4
      subst e2
      clear e3 e4
      have hca := below_cell t5 hca
      have hcb := below_cell t5 hcb
      have hca := (hbj.cell (p := ⟨ba, oa + j, none⟩) (by rw [HY.out]; exact lt_of_cell hca)).trans hca
      have hcb := (hbj.cell (p := ⟨bb, ob + j, none⟩) (by rw [HY.out]; exact lt_of_cell hcb)).trans hcb
      have HF := Lib.hid (show sumF a b n j = (nth a j + n * nth b j) % 1073741789 by unfold sumF; omega)
      obtain ⟨za, hza⟩ : ∃ z, z = nth a j := ⟨_, rfl⟩
      obtain ⟨zb, hzb⟩ : ∃ z, z = nth b j := ⟨_, rfl⟩
      rw [← hza] at hra hca HF
      rw [← hzb] at hrb hcb HF
      have i1 : (0 : Int) ≤ (j : Int) := by omega
      have i2 : (j : Int) < (m : Int) := by omega
      have hmr := mod_r64 (n * zb)
      have hyc := hIj.cell j hlj
      have hyf := hIj.fro j hlj
      rw [show sumG a b n j j = 0 by unfold sumG; rw [if_neg (by omega)]] at hyc
      have hycd : wr.drew.cell? ⟨Y, j, none⟩ = some (.int .i64 0) := hyc
      have hyfd : wr.drew.frozen? ⟨Y, j, none⟩ = false := hyf
      have hsjd : Y < wr.drew.heap.size := hsj
      clear hza hzb
      go_wp2_with fail
      go_region_with (first
        | (go_at_call 25; with_reducible refine (mul_any n zb _ hn hrb).mono ?_; rintro e w7 ⟨rfl, rfl⟩)
        | (go_at_call 24; with_reducible refine (add_any za (n * zb % 1073741789) _ hra hmr).mono ?_; rintro e w7 ⟨rfl, hb7⟩; have hk1 := below_cell hb7 hycd; have hk2 := (hb7.frozen (p := ⟨Y, j, none⟩) hsjd).trans hyfd))
      all_goals
        have hb8 : Below wr.heap.size wr w7 := ((Below.refl wr.heap.size wr).drew).trans hb7
        have hI' := (hIj.below hb8 hsj).set (k := j) ((za + n * zb) % 1073741789)
        rw [← HF.out, sumG_s] at hI'
        rw [HF.out] at hI'
        have hb' := (hbj.trans (hb8.mono (Nat.le_of_lt hsj))).setCell (p := ⟨Y, j, none⟩) (Nat.le_refl _) (.int .i64 ((za + n * zb) % 1073741789))
        have hs8 : Y < (w7.setCell ⟨Y, j, none⟩ (.int .i64 ((za + n * zb) % 1073741789))).heap.size := by have := hb8.size; simp [World.setCell]; omega
        go_wp2_with fail
        go_roundw
        case rel => exact ⟨j + 1, by omega, by go_num, hI', hb', hs8⟩
        case measure => simp [intOf]; omega
    · obtain rfl : j = m := by omega
      have hIe : IBlk wr Y j (sumF a b n) := ⟨fun i hi => by rw [hIj.cell i hi]; unfold sumG; rw [if_pos hi], hIj.fro⟩
      have hIN := hIe.ints (c := j) (Nat.le_refl _) (by omega) (fun i _ => num_r64 (mod_num _))
      have hIS : Ints wr (.slice (some ⟨Y, 0, none⟩) j j) s := by rw [HS.out, ← HM.out]; exact hIN
      have b6 : Below w5.heap.size w5 wr := by rw [← HY.out]; exact hbj
      have t6 := t5.trans (b6.mono t5.size)
      go_wp2_with fail
      with_reducible refine (HC3.out _ _ _ (hI.below t6) hIS).mono ?_
      rintro e w8 ⟨y8, rfl, i8, b8⟩
      have t8 := t6.trans (b8.mono t6.size)
      have b58 := b6.trans (b8.mono b6.size)
      obtain ⟨p8, q8, rfl⟩ : ∃ p q, y8 = .slice p rows.length q := by obtain ⟨p, q, rfl, -⟩ := i8; exact ⟨p, q, by rw [L3.out]⟩
      have HX8 := Lib.hid (fun k (hk : k < zs.length) => i8.get hk)
      go_wp2_with fail
      go_loopw [125] (fun i wq => ∃ k : Nat, k ≤ rows.length ∧ i = .int .i64 k ∧ Below w8.heap.size w8 wq) (fun i _ => rows.length - (intOf i).toNat)
      case atStart => exact ⟨0, Nat.zero_le _, rfl, Below.refl _ _⟩
      case round =>
        obtain ⟨k, hkn, rfl, hbk⟩ := hrel
        by_cases hlk : k < rows.length
        · obtain ⟨hrx, bx, ox, _, _, e1, hcx⟩ := HX4.out k (by rw [L1.out]; exact hlk)
          injection e1 with e2 e3 e4
          subst e2
          clear e3 e4
          obtain ⟨hry, by', oy, _, _, e1, hcy⟩ := HX5.out k (by rw [L2.out]; exact hlk)
          injection e1 with e2 e3 e4
          subst e2
          clear e3 e4
          obtain ⟨hrz, bz, oz, _, _, e1, hcz⟩ := HX8.out k (by rw [L3.out]; exact hlk)
          injection e1 with e2 e3 e4
          subst e2
          clear e3 e4
          have hcx := below_cell hbk (below_cell b58 hcx)
          have hcy := below_cell hbk (below_cell b58 hcy)
          have hcz := below_cell hbk hcz
          rw [HZ.out k hlk] at hcz
          obtain ⟨zx, hzx⟩ : ∃ z, z = nth xs k := ⟨_, rfl⟩
          obtain ⟨zy, hzy⟩ : ∃ z, z = nth ys k := ⟨_, rfl⟩
          rw [← hzx] at hrx hcx hcz
          rw [← hzy] at hry hcy hcz
          have i1 : (0 : Int) ≤ (k : Int) := by omega
          have i2 : (k : Int) < (rows.length : Int) := by omega
          have hmr := mod_r64 (n * zy)
          have hczd : wr.drew.cell? ⟨bz, oz + k, none⟩ = some (.int .i64 ((zx + n * zy % 1073741789) % 1073741789)) := hcz
          have hcxd : wr.drew.cell? ⟨bx, ox + k, none⟩ = some (.int .i64 zx) := hcx
          have hcyd : wr.drew.cell? ⟨by', oy + k, none⟩ = some (.int .i64 zy) := hcy
          clear hzx hzy hrz
          go_wp2_with fail
          go_region_held3 (fun w' => w'.cell? ⟨bx, ox + k, none⟩ = some (.int .i64 zx) ∧ w'.cell? ⟨by', oy + k, none⟩ = some (.int .i64 zy) ∧ w'.cell? ⟨bz, oz + k, none⟩ = some (.int .i64 ((zx + n * zy % 1073741789) % 1073741789))) (go_keep)
            (first
            | (go_at_call 25; with_reducible refine (mul_any n zy _ hn hry).mono ?_; rintro e w9 ⟨rfl, rfl⟩)
            | (go_at_call 24; with_reducible refine (add_any zx (n * zy % 1073741789) _ hrx hmr).mono ?_; rintro e w9 ⟨rfl, hb9⟩; have hk1 := below_cell hb9 hczd; have hk2 := below_cell hb9 hcxd; have hk3 := below_cell hb9 hcyd))
          all_goals
            have hb10 : Below wr.heap.size wr w9 := ((Below.refl wr.heap.size wr).drew).trans hb9
            go_wp2_with fail
            go_roundw
            case rel => exact ⟨k + 1, by omega, by go_num, hbk.trans (hb10.mono hbk.size)⟩
            case measure => simp [intOf]; omega
        · obtain rfl : k = rows.length := by omega
          go_wp2_with fail
          go_ret
          exact ⟨rfl, t8.trans (hbk.mono t8.size)⟩

theorem linearSums_any (v u x : Value) (rows : List (List Int)) (a b : List Int) (n : Int) (w : World) (hI : Rows2 w v rows) (hU : Ints w u a) (hX : Ints w x b) (hn : R64 n) : SumsTrue v u x n w := by
  by_cases h : rightQ rows a = true ∧ rightQ rows b = true ∧ b.length = a.length
  · obtain ⟨h1, h2, hl⟩ := h
    cases o1 : rcombOk rows a with
    | false => exact sums_not v u x rows a b n w hI hU hX h1 h2 hl _ _ o1 rfl (.inl rfl)
    | true =>
      cases o2 : rcombOk rows b with
      | false => exact sums_not v u x rows a b n w hI hU hX h1 h2 hl _ _ o1 o2 (.inr rfl)
      | true => exact sums_in v u x rows a b n w hI hU hX hn h1 h2 hl o1 o2
  · refine sums_out v u x rows a b n w hI hU hX _ _ rfl rfl ?_
    cases h1 : rightQ rows a with
    | false => exact .inl rfl
    | true =>
      cases h2 : rightQ rows b with
      | false => exact .inr (.inl rfl)
      | true => exact .inr (.inr fun e => h ⟨h1, h2, e.symm⟩)

/-- What the row asks, from what the call leaves. -/
theorem linearSums_contract (H : Type) (enc : TypeId × Value → H) (W : World) (base : Nat) (args : Array Value) (ds gs : List (DataW H)) (before : List MemPlace)
    (hval : ∀ (j : Nat) t v, Try.f8.params[j]? = some t → args[j]? = some v → Value.okWide Try.prog W .any base t v)
    (hW : DataW.Whole enc Try.prog Try.f8.params.toList Rows.linearSumsSpec.vars false W args.toList ds gs before)
    (hreach : (DataW.weightsEach Try.prog (Try.f8.params.toList ++ Rows.linearSumsSpec.plain.varTypes Try.prog) (ds ++ gs)).all (· ≤ reachBytes) = true) :
    Calls Try.prog 8 args W fun e W' => ∃ v, e = .returned v ∧ Rows.linearSumsSpec.post enc Try.prog Try.f8 false true false false W args v W' := by
  obtain ⟨p, q, hA0, hV, rfl, hfz, hnd⟩ := id hW
  have hA : DataW.TrodAll enc Try.prog W 0 (fun _ => true) true Try.f8.params.toList args.toList ds p := hA0
  have hA2 := hA
  rw [Try.params8] at hA hval hreach
  obtain ⟨v0, vs0, d0, ds0, p0, q0, hargs, rfl, rfl, h0, r0⟩ := trodAll_cons hA
  obtain ⟨v1, vs1, d1, ds1, p1, q1, rfl, rfl, rfl, h1, r1⟩ := trodAll_cons r0
  obtain ⟨v2, vs2, d2, ds2, p2, q2, rfl, rfl, rfl, h2, r2⟩ := trodAll_cons r1
  obtain ⟨v3, vs3, d3, ds3, p3, q3, rfl, rfl, rfl, h3, r3⟩ := trodAll_cons r2
  obtain ⟨rfl, rfl, rfl⟩ := trodAll_nil r3
  obtain rfl : args = #[v0, v1, v2, v3] := by cases args; simp_all
  obtain ⟨rfl, rfl⟩ := trodVars_none hV
  simp only [List.append_nil] at hW hA2
  obtain ⟨x0, k0⟩ := open_rows (okWide_slice Try.underlying22 (hval 0 22 v0 rfl rfl)) h0 (light_of hreach (j := 0) rfl rfl)
  obtain ⟨x1, k1⟩ := open_list (okWide_slice Try.underlying29 (hval 1 29 v1 rfl rfl)) h1 (light_of hreach (j := 1) rfl rfl)
  obtain ⟨x2, k2⟩ := open_list (okWide_slice Try.underlying29 (hval 2 29 v2 rfl rfl)) h2 (light_of hreach (j := 2) rfl rfl)
  obtain ⟨x3, rfl, rfl, -, k3⟩ := open_int Try.underlying3 (hval 3 3 v3 rfl rfl) h3
  refine (linearSums_any v0 v1 v2 x0 x1 x2 x3 W k0 k1 k2 (i64_wf k3)).mono fun e W' ⟨he, hb⟩ => ⟨_, he, ?_⟩
  exact law_post rfl rfl (by kernel_rfl) hA2 hW hb rfl

set_option maxRecDepth 100000 in
theorem linearSums_lifted (os : Os) (started : os.Started) (H : Type) (enc : TypeId × Value → H) :
    ReturnsInHanded {} Try.checked os 8 .any (Rows.linearSumsSpec.pre6 enc Try.prog Try.f8 Rows.linearSumsRow.domain false) (Rows.linearSumsSpec.post enc Try.prog Try.f8 false true false false) := by
  refine returnsInHanded_of_change_sized (C := Try.checked) ownKnobP started (by kernel_rfl) Try.func8
    (ChangeSpec.witness6 (enc := enc) (C := Try.checked) false ⟨#[], #[.slice none 0 0, .slice none 0 0, .slice none 0 0, .int .i64 0], []⟩ 8 (by kernel_rfl) (by kernel_rfl) (by kernel_rfl) (by kernel_rfl)) ?_
  intro W base args ds gs before hval hW _ hreach _
  exact linearSums_contract H enc W base args ds gs before hval hW hreach

theorem linearSums_holds : Rows.LinearSumsSaid :=
  OpenClaim.holds_of_wide 8 Try.f8 rfl rfl rfl rfl rfl rfl rfl ⟨rfl, rfl, rfl, rfl, rfl⟩ rfl rfl rfl rfl rfl (by kernel_rfl) Try.func8 (by kernel_rfl)
    (of_decide_eq_true (by kernel_rfl)) (by unfold Func.isWrapper; first | (rw [if_pos (by decide +kernel)]; kernel_rfl) | (rw [if_neg (by decide +kernel)]; exact ⟨rfl, rfl⟩))
    (fun os started H enc _ => linearSums_lifted os started H enc)
#print axioms linearSums_holds

end Go.Proofs.Ytjjdgphjkoppgaa
