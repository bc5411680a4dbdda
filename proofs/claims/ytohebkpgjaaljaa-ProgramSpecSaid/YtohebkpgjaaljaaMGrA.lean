/- The reference of formulas: Leaves, deeper. The reference of formulas: right, Check, Few. A law's argument that is a formula. -/
import Derived.Test.YtohebkpgjaaljaaMGatA
import Derived.Test.YtohebkpgjaaljaaMDeaV
import Derived.ChangeSame
import Derived.ChangeArms
namespace Go.Proofs.Ytohebkpgjaaljaa
open Go.RowKit

theorem lvsL_all (l : List GT) (k : Nat) (h : ¬ k < l.length) : lvsL (l.take k) = lvsL l := by rw [List.take_of_length_le (by omega)]
theorem min_step {q s d lv lt lt1 r q2 : Nat} (h1 : q = min lt (s + 1)) (h2 : q ≤ s) (hd : d = s - q) (hr : r = min lv (d + 1)) (hq2 : q2 = q + r) (hlt : lt1 = lt + lv) : q2 = min lt1 (s + 1) := by omega
theorem hgtL_take : ∀ (l : List GT) (d : Nat), (∀ k (h : k < l.length), ¬ d ≤ hgtG l[k]) → l ≠ [] → ¬ d ≤ hgtL l
  | [], _, _, h => absurd rfl h
  | [x], d, hk, _ => by
    have := hk 0 (by simp)
    simp only [List.getElem_cons_zero] at this
    unfold hgtL hgtL
    omega
  | x :: y :: t, d, hk, _ => by
    have h1 := hk 0 (by simp)
    simp only [List.getElem_cons_zero] at h1
    have h2 := hgtL_take (y :: t) d (fun k h => by have := hk (k + 1) (by simpa using h); simpa using this) (by simp)
    unfold hgtL
    omega

set_option maxRecDepth 100000 in
set_option maxHeartbeats 4000000 in
theorem rLeaves22_at (w : World) (v : Value) (g : GT) (hg : GateV w v g) : ∀ W (s : Nat), Below w.heap.size w W → s ≤ 1000000 → Calls Try.prog 88 #[v, .int .i64 s] W fun e w' => e = .returned (.int .i64 ((min (lvsG g) (s + 1) : Nat) : Int)) ∧ Below W.heap.size W w' := by
  induction hg with
  | mk p n l a cap sub hp hn hc hl hk hs ih =>
    intro W s hW hs9
    have hb := below_new W #[.int .i64 p, .int .i64 n, .slice a l.length cap] 28
    have hr := World.alloc_heap_new W (.cells #[.int .i64 p, .int .i64 n, .slice a l.length cap] 28)
    obtain ⟨W1, hW1⟩ : ∃ W1, W1 = W.alloc (.cells #[.int .i64 p, .int .i64 n, .slice a l.length cap] 28) := ⟨_, rfl⟩
    rw [← hW1] at hb hr
    have c0 : W1.cell? ⟨W.heap.size, 0, none⟩ = some (.int .i64 p) := row_cell hr rfl
    have c1 : W1.cell? ⟨W.heap.size, 1, none⟩ = some (.int .i64 n) := row_cell hr rfl
    have c2 : W1.cell? ⟨W.heap.size, 2, none⟩ = some (.slice a l.length cap) := row_cell hr rfl
    have HB := Lib.hid hb
    have HBW := Lib.hid (hW.trans (hb.mono hW.size))
    have HW1 := Lib.hid hW1
    have HK := Lib.hid hk
    have HIH := Lib.hid ih
    clear hr hb hW1 hk ih hs hW
    by_cases h0 : l.length = 0
    · have e0 : ((l.length : Int) == 0) = true := by rw [h0]; rfl
      have HV : Hid ((1 : Int) = ((min (lvsG (.mk p n l)) (s + 1) : Nat) : Int)) := Lib.hid (by
        obtain rfl : l = [] := List.length_eq_zero_iff.1 h0
        unfold lvsG; omega)
      clear h0
      go_enter Try.func88, Try.ntmps88
      go_wp2_with (rw [← HW1.out])
      go_ret
      exact ⟨ret_int HV.out, HB.out⟩
    have e0 : ((l.length : Int) == 0) = false := beq_eq_false_iff_ne.2 (by omega)
    have HL := Lib.hid (lvs_list p n l (fun e => h0 (by rw [e]; rfl)))
    clear h0
    go_enter Try.func88, Try.ntmps88
    go_wp2_with (rw [← HW1.out])
    go_loopw [5, 6] (fun m i W' => ∃ k q : Nat, k ≤ l.length ∧ i = .int .i64 k ∧ m = .int .i64 q ∧ Hid (q = min (lvsL (l.take k)) (s + 1)) ∧ Below W1.heap.size W1 W') (fun _ i _ => l.length - (intOf i).toNat)
    case atStart => exact ⟨0, 0, Nat.zero_le _, rfl, rfl, Lib.hid (by rw [List.take_zero]; unfold lvsL; omega), Below.refl _ _⟩
    case round =>
      obtain ⟨k, q, hkl, rfl, rfl, HQ, hb⟩ := hrel
      have HBK := Lib.hid hb
      have y0 := below_cell hb c2
      have hq1 : q ≤ s + 1 := by rw [HQ.out]; omega
      by_cases hlt : k < l.length
      · have e1 : decide ((k : Int) < (l.length : Int)) = true := decide_eq_true (by omega)
        have e1' : decide (k < l.length) = true := decide_eq_true hlt
        by_cases hqs : q ≤ s
        · have e2 : decide ((q : Int) ≤ (s : Int)) = true := decide_eq_true (by omega)
          have e2' : decide (q ≤ s) = true := decide_eq_true hqs
          obtain ⟨d, hd⟩ : ∃ d, d = s - q := ⟨_, rfl⟩
          have hw1 : IntKind.i64.wrap ((s : Int) - (q : Int)) = (d : Int) := by rw [IntKind.wrap_i64]; omega
          have hw1' : wrap64 ((s : Int) - (q : Int)) = (d : Int) := by unfold wrap64; omega
          obtain ⟨b, off, x, y, za, zn, zc, ea, es, r1, r2, r3⟩ := HK.out k hlt
          have hbw := HBW.out.trans (hb.mono HBW.out.size)
          have hcall := fun W' (hb' : Below wr.heap.size wr W') => HIH.out k hlt W' d (hbw.trans (hb'.mono hbw.size)) (by omega)
          rw [es] at hcall
          have HC := Lib.hid hcall
          have y1 := below_cell hbw r1
          have y2 := below_cell hbw r2
          have y3 := below_cell hbw r3
          subst ea
          have HLT := Lib.hid (lvsL_take l k hlt)
          obtain ⟨lv, hlv⟩ : ∃ lv, lv = lvsG l[k] := ⟨_, rfl⟩
          rw [← hlv] at HLT HC
          obtain ⟨r, hr⟩ : ∃ r, r = min lv (d + 1) := ⟨_, rfl⟩
          rw [← hr] at HC
          obtain ⟨q2, hq2⟩ : ∃ q2, q2 = q + r := ⟨_, rfl⟩
          have hw2 : IntKind.i64.wrap ((q : Int) + (r : Int)) = (q2 : Int) := by rw [IntKind.wrap_i64]; omega
          have hw2' : wrap64 ((q : Int) + (r : Int)) = (q2 : Int) := by unfold wrap64; omega
          have HN : Hid (q2 = min (lvsL (l.take (k + 1))) (s + 1)) := Lib.hid (min_step HQ.out hqs hd hr hq2 HLT.out)
          have i0 : (0 : Int) ≤ (k : Int) := by omega
          have i1 : (k : Int) < (l.length : Int) := by omega
          clear hcall r1 r2 r3 es hb hbw hlv hr hq2 hd hq1 hqs
          go_wp2_with fail
          with_reducible refine (HC.out wr (Below.refl _ _)).mono ?_
          rintro e w9 ⟨rfl, hb9⟩
          have HB9 := Lib.hid (HBK.out.trans (hb9.mono HBK.out.size))
          clear hb9
          go_wp2_with fail
          try rw [hw2]
          try rw [hw2']
          go_roundw
          case rel => exact ⟨k + 1, q2, by omega, by go_num, rfl, HN, HB9.out⟩
          case measure => simp [intOf]; omega
        · have e2 : decide ((q : Int) ≤ (s : Int)) = false := decide_eq_false (by omega)
          have e2' : decide (q ≤ s) = false := decide_eq_false hqs
          have HV : Hid ((q : Int) = ((min (lvsG (.mk p n l)) (s + 1) : Nat) : Int)) := Lib.hid (by
            have h1 := HQ.out
            have h2 := lvsL_le l k
            have h3 := HL.out
            omega)
          have HF := Lib.hid (HB.out.trans (hb.mono HB.out.size))
          clear hb hqs hq1
          go_wp2_with fail
          go_ret
          exact ⟨ret_int HV.out, HF.out⟩
      · have e1 : decide ((k : Int) < (l.length : Int)) = false := decide_eq_false (by omega)
        have e1' : decide (k < l.length) = false := decide_eq_false hlt
        have HV : Hid ((q : Int) = ((min (lvsG (.mk p n l)) (s + 1) : Nat) : Int)) := Lib.hid (by
          have h1 := HQ.out
          have h2 := lvsL_all l k hlt
          have h3 := HL.out
          omega)
        have HF := Lib.hid (HB.out.trans (hb.mono HB.out.size))
        clear hb hlt hkl hq1
        go_wp2_with fail
        go_ret
        exact ⟨ret_int HV.out, HF.out⟩

set_option maxRecDepth 100000 in
set_option maxHeartbeats 4000000 in
theorem rdeeper22_at (w : World) (v : Value) (g : GT) (hg : GateV w v g) : ∀ W (d : Nat), Below w.heap.size w W → d ≤ 1000 → Calls Try.prog 90 #[v, .int .i64 d] W fun e w' => e = .returned (.bool (decide (d ≤ hgtG g))) ∧ Below W.heap.size W w' := by
  induction hg with
  | mk p n l a cap sub hp hn hc hl hk hs ih =>
    intro W d hW hd9
    have hb := below_new W #[.int .i64 p, .int .i64 n, .slice a l.length cap] 28
    have hr := World.alloc_heap_new W (.cells #[.int .i64 p, .int .i64 n, .slice a l.length cap] 28)
    obtain ⟨W1, hW1⟩ : ∃ W1, W1 = W.alloc (.cells #[.int .i64 p, .int .i64 n, .slice a l.length cap] 28) := ⟨_, rfl⟩
    rw [← hW1] at hb hr
    have c0 : W1.cell? ⟨W.heap.size, 0, none⟩ = some (.int .i64 p) := row_cell hr rfl
    have c1 : W1.cell? ⟨W.heap.size, 1, none⟩ = some (.int .i64 n) := row_cell hr rfl
    have c2 : W1.cell? ⟨W.heap.size, 2, none⟩ = some (.slice a l.length cap) := row_cell hr rfl
    have HB := Lib.hid hb
    have HBW := Lib.hid (hW.trans (hb.mono hW.size))
    have HW1 := Lib.hid hW1
    have HK := Lib.hid hk
    have HIH := Lib.hid ih
    clear hr hb hW1 hk ih hs hW
    by_cases h0 : d = 0
    · have HV : Hid (decide (d ≤ hgtG (.mk p n l)) = true) := Lib.hid (decide_eq_true (by omega))
      have e0 : ((d : Int) == 0) = true := by rw [h0]; rfl
      clear h0
      go_enter Try.func90, Try.ntmps90
      go_wp2_with (rw [← HW1.out])
      go_ret
      exact ⟨ret_bool HV.out.symm, HB.out⟩
    have e0 : ((d : Int) == 0) = false := beq_eq_false_iff_ne.2 (by omega)
    obtain ⟨d1, hd1⟩ : ∃ d1, d1 = d - 1 := ⟨_, rfl⟩
    have hw1 : IntKind.i64.wrap ((d : Int) - 1) = (d1 : Int) := by rw [IntKind.wrap_i64]; omega
    have hw1' : wrap64 ((d : Int) - 1) = (d1 : Int) := by unfold wrap64; omega
    have HD := Lib.hid (And.intro hd1 h0)
    have HD9 := Lib.hid hd9
    clear hd1 h0 hd9
    go_enter Try.func90, Try.ntmps90
    go_wp2_with (rw [← HW1.out])
    go_loopw [5] (fun i W' => ∃ k : Nat, k ≤ l.length ∧ i = .int .i64 k ∧ Hid (∀ j (h : j < l.length), j < k → ¬ d1 ≤ hgtG l[j]) ∧ Below W1.heap.size W1 W') (fun i _ => l.length - (intOf i).toNat)
    case atStart => exact ⟨0, Nat.zero_le _, rfl, Lib.hid (fun j _ h => absurd h (Nat.not_lt_zero _)), Below.refl _ _⟩
    case round =>
      obtain ⟨k, hkl, rfl, HQ, hb⟩ := hrel
      have HBK := Lib.hid hb
      have y0 := below_cell hb c2
      by_cases hlt : k < l.length
      · have e1 : decide (k < l.length) = true := decide_eq_true hlt
        obtain ⟨b, off, x, y, za, zn, zc, ea, es, r1, r2, r3⟩ := HK.out k hlt
        have hbw := HBW.out.trans (hb.mono HBW.out.size)
        have hcall := fun W' (hb' : Below wr.heap.size wr W') => HIH.out k hlt W' d1 (hbw.trans (hb'.mono hbw.size)) (by have := HD.out.1; have := HD9.out; omega)
        rw [es] at hcall
        have HC := Lib.hid hcall
        have y1 := below_cell hbw r1
        have y2 := below_cell hbw r2
        have y3 := below_cell hbw r3
        subst ea
        have i0 : (0 : Int) ≤ (k : Int) := by omega
        have i1 : (k : Int) < (l.length : Int) := by omega
        clear hcall r1 r2 r3 es hb hbw
        by_cases hx : d1 ≤ hgtG l[k]
        · have HX : Hid (decide (d1 ≤ hgtG l[k]) = true) := Lib.hid (decide_eq_true hx)
          have HV : Hid (decide (d ≤ hgtG (.mk p n l)) = true) := Lib.hid (decide_eq_true (by
            have h1 := hgtL_ge l k hlt
            rw [hgt_list p n l (fun e => by rw [e] at hlt; cases hlt)]
            have := HD.out.1
            omega))
          clear hx
          go_wp2_with fail
          with_reducible refine (HC.out wr (Below.refl _ _)).mono ?_
          rintro e w9 ⟨rfl, hb9⟩
          rw [HX.out]
          have HF := Lib.hid (HB.out.trans ((HBK.out.trans (hb9.mono HBK.out.size)).mono HB.out.size))
          clear hb9
          go_wp2_with fail
          go_ret
          exact ⟨ret_bool HV.out.symm, HF.out⟩
        · have HX : Hid (decide (d1 ≤ hgtG l[k]) = false) := Lib.hid (decide_eq_false hx)
          have HN := Lib.hid (show ∀ j (h : j < l.length), j < k + 1 → ¬ d1 ≤ hgtG l[j] from fun j h hj => by
            by_cases e : j = k
            · subst e; exact hx
            · exact HQ.out j h (by omega))
          clear hx
          go_wp2_with fail
          with_reducible refine (HC.out wr (Below.refl _ _)).mono ?_
          rintro e w9 ⟨rfl, hb9⟩
          rw [HX.out]
          have HB9 := Lib.hid (HBK.out.trans (hb9.mono HBK.out.size))
          clear hb9
          go_wp2_with fail
          go_roundw
          case rel => exact ⟨k + 1, by omega, by go_num, HN, HB9.out⟩
          case measure => simp [intOf]; omega
      · have e1' : decide (k < l.length) = false := decide_eq_false hlt
        have HV : Hid (decide (d ≤ hgtG (.mk p n l)) = false) := Lib.hid (decide_eq_false (by
          have h2 := HD.out
          cases l with
          | nil => unfold hgtG; omega
          | cons x t =>
            rw [hgt_list p n (x :: t) (by simp)]
            have h1 := hgtL_take (x :: t) d1 (fun j h => HQ.out j h (by omega)) (by simp)
            omega))
        have HF := Lib.hid (HB.out.trans (hb.mono HB.out.size))
        clear hb hlt hkl
        go_wp2_with fail
        go_ret
        exact ⟨ret_bool HV.out.symm, HF.out⟩

end Go.Proofs.Ytohebkpgjaaljaa

namespace Go.Proofs.Ytohebkpgjaaljaa
open Go.RowKit

set_option maxRecDepth 100000 in
set_option maxHeartbeats 4000000 in
theorem rright22_at (w : World) (v : Value) (g : GT) (hg : GateV w v g) : ∀ W, Below w.heap.size w W → Calls Try.prog 91 #[v] W fun e w' => e = .returned (.bool (rightG g)) ∧ Below W.heap.size W w' := by
  induction hg with
  | mk p n l a cap sub hp hn hc hl hk hs ih =>
    intro W hW
    have hb := below_new W #[.int .i64 p, .int .i64 n, .slice a l.length cap] 28
    have hr := World.alloc_heap_new W (.cells #[.int .i64 p, .int .i64 n, .slice a l.length cap] 28)
    obtain ⟨W1, hW1⟩ : ∃ W1, W1 = W.alloc (.cells #[.int .i64 p, .int .i64 n, .slice a l.length cap] 28) := ⟨_, rfl⟩
    rw [← hW1] at hb hr
    have c0 : W1.cell? ⟨W.heap.size, 0, none⟩ = some (.int .i64 p) := row_cell hr rfl
    have c1 : W1.cell? ⟨W.heap.size, 1, none⟩ = some (.int .i64 n) := row_cell hr rfl
    have c2 : W1.cell? ⟨W.heap.size, 2, none⟩ = some (.slice a l.length cap) := row_cell hr rfl
    have HB := Lib.hid hb
    have HBW := Lib.hid (hW.trans (hb.mono hW.size))
    have HW1 := Lib.hid hW1
    have HK := Lib.hid hk
    have HIH := Lib.hid ih
    clear hr hb hW1 hk ih hs hW
    by_cases h0 : 0 ≤ p
    · have hd0 : decide (p ≥ 0) = true := decide_eq_true h0
      have HV : Hid (rightG (.mk p n l) = (decide (p < 64) && (decide (n = 0) && decide (l.length = 0)))) := Lib.hid (by unfold rightG; rw [if_pos h0])
      by_cases h1 : p < 64
      · have hd1 : decide (p < 64) = true := decide_eq_true h1
        by_cases h2 : n = 0
        · have e2 : (n == 0) = true := beq_iff_eq.2 h2
          rw [decide_eq_true h2] at HV
          clear h2
          by_cases h3 : l.length = 0
          · have e3 : ((l.length : Int) == 0) = true := by rw [h3]; rfl
            rw [hd1, decide_eq_true h3] at HV
            clear h3
            go_enter Try.func91, Try.ntmps91
            go_wp2_with (rw [← HW1.out])
            go_ret
            exact ⟨ret_bool (by rw [HV.out]; rfl), HB.out⟩
          · have e3 : ((l.length : Int) == 0) = false := beq_eq_false_iff_ne.2 (by omega)
            rw [hd1, decide_eq_false h3] at HV
            clear h3
            go_enter Try.func91, Try.ntmps91
            go_wp2_with (rw [← HW1.out])
            go_ret
            exact ⟨ret_bool (by rw [HV.out]; rfl), HB.out⟩
        · have e2 : (n == 0) = false := beq_eq_false_iff_ne.2 h2
          rw [hd1, decide_eq_false h2] at HV
          clear h2
          go_enter Try.func91, Try.ntmps91
          go_wp2_with (rw [← HW1.out])
          go_ret
          exact ⟨ret_bool (by rw [HV.out]; rfl), HB.out⟩
      · have hd1 : decide (p < 64) = false := decide_eq_false h1
        rw [hd1] at HV
        clear h1
        go_enter Try.func91, Try.ntmps91
        go_wp2_with (rw [← HW1.out])
        go_ret
        exact ⟨ret_bool (by rw [HV.out]; rfl), HB.out⟩
    · have hd0 : decide (p ≥ 0) = false := decide_eq_false h0
      have HV : Hid (rightG (.mk p n l) = (decide (p = -1) && (decide (1 ≤ n) && (decide (n ≤ 4096) && rightL l)))) := Lib.hid (by unfold rightG; rw [if_neg h0])
      by_cases h1 : p = -1
      · have e1 : (p != -1) = false := by rw [h1]; rfl
        rw [decide_eq_true h1] at HV
        clear h1
        by_cases h2 : 1 ≤ n
        · have hd2 : decide (n < 1) = false := decide_eq_false (by omega)
          rw [decide_eq_true h2] at HV
          clear h2
          by_cases h3 : n ≤ 4096
          · have hd3 : decide (4096 < n) = false := decide_eq_false (by omega)
            rw [decide_eq_true h3] at HV
            clear h3
            go_enter Try.func91, Try.ntmps91
            go_wp2_with (rw [← HW1.out])
            go_loopw [3] (fun i W' => ∃ k : Nat, k ≤ l.length ∧ i = .int .i64 k ∧ Hid (∀ j (h : j < l.length), j < k → rightG l[j] = true) ∧ Below W1.heap.size W1 W') (fun i _ => l.length - (intOf i).toNat)
            case atStart => exact ⟨0, Nat.zero_le _, rfl, Lib.hid (fun j _ h => absurd h (Nat.not_lt_zero _)), Below.refl _ _⟩
            case round =>
              obtain ⟨k, hkl, rfl, HQ, hb⟩ := hrel
              have HBK := Lib.hid hb
              have y0 := below_cell hb c2
              by_cases hlt : k < l.length
              · have e1 : decide (k < l.length) = true := decide_eq_true hlt
                obtain ⟨b, off, x, y, za, zn, zc, ea, es, r1, r2, r3⟩ := HK.out k hlt
                have hbw := HBW.out.trans (hb.mono HBW.out.size)
                have hcall := fun W' (hb' : Below wr.heap.size wr W') => HIH.out k hlt W' (hbw.trans (hb'.mono hbw.size))
                rw [es] at hcall
                have HC := Lib.hid hcall
                have y1 := below_cell hbw r1
                have y2 := below_cell hbw r2
                have y3 := below_cell hbw r3
                subst ea
                have i0 : (0 : Int) ≤ (k : Int) := by omega
                have i1 : (k : Int) < (l.length : Int) := by omega
                clear hcall r1 r2 r3 es hb hbw
                cases hx : rightG l[k] with
                | false =>
                  have HX := Lib.hid hx
                  have HF : Hid (rightL l = false) := Lib.hid (by
                    cases e : rightL l with
                    | false => rfl
                    | true => rw [(rightL_iff l).1 e k hlt] at hx; cases hx)
                  clear hx
                  go_wp2_with fail
                  with_reducible refine (HC.out wr (Below.refl _ _)).mono ?_
                  rintro e w9 ⟨rfl, hb9⟩
                  rw [HX.out]
                  have HE := Lib.hid (HB.out.trans ((HBK.out.trans (hb9.mono HBK.out.size)).mono HB.out.size))
                  clear hb9
                  go_wp2_with fail
                  go_ret
                  exact ⟨ret_bool (by rw [HV.out, HF.out]; rfl), HE.out⟩
                | true =>
                  have HX := Lib.hid hx
                  have HN := Lib.hid (show ∀ j (h : j < l.length), j < k + 1 → rightG l[j] = true from fun j h hj => by
                    by_cases e : j = k
                    · subst e; exact hx
                    · exact HQ.out j h (by omega))
                  clear hx
                  go_wp2_with fail
                  with_reducible refine (HC.out wr (Below.refl _ _)).mono ?_
                  rintro e w9 ⟨rfl, hb9⟩
                  rw [HX.out]
                  have HB9 := Lib.hid (HBK.out.trans (hb9.mono HBK.out.size))
                  clear hb9
                  go_wp2_with fail
                  go_roundw
                  case rel => exact ⟨k + 1, by omega, by go_num, HN, HB9.out⟩
                  case measure => simp [intOf]; omega
              · have e1' : decide (k < l.length) = false := decide_eq_false hlt
                have HF : Hid (rightL l = true) := Lib.hid ((rightL_iff l).2 fun j h => HQ.out j h (by omega))
                have HE := Lib.hid (HB.out.trans (hb.mono HB.out.size))
                clear hb hlt hkl
                go_wp2_with fail
                go_ret
                exact ⟨ret_bool (by rw [HV.out, HF.out]; rfl), HE.out⟩
          · have hd3 : decide (4096 < n) = true := decide_eq_true (by omega)
            rw [decide_eq_false h3] at HV
            clear h3
            go_enter Try.func91, Try.ntmps91
            go_wp2_with (rw [← HW1.out])
            go_ret
            exact ⟨ret_bool (by rw [HV.out]; rfl), HB.out⟩
        · have hd2 : decide (n < 1) = true := decide_eq_true (by omega)
          rw [decide_eq_false h2] at HV
          clear h2
          go_enter Try.func91, Try.ntmps91
          go_wp2_with (rw [← HW1.out])
          go_ret
          exact ⟨ret_bool (by rw [HV.out]; rfl), HB.out⟩
      · have e1 : (p != -1) = true := bne_iff_ne.2 h1
        rw [decide_eq_false h1] at HV
        clear h1
        go_enter Try.func91, Try.ntmps91
        go_wp2_with (rw [← HW1.out])
        go_ret
        exact ⟨ret_bool (by rw [HV.out]; rfl), HB.out⟩

theorem gate_parts {w : World} {v : Value} {g : GT} (h : GateV w v g) : ∃ p n l a cap, v = .agg #[.int .i64 p, .int .i64 n, .slice a (l : List GT).length cap] ∧ g = .mk p n l := by
  cases h with
  | mk p n l a cap sub hp hn hc hl hk hs => exact ⟨p, n, l, a, cap, rfl, rfl⟩
/-- A formula in a variable. -/
theorem box_gate {w : World} {v : Value} {g : GT} (h : GateV w v g) : ∃ p n a cap len W, v = .agg #[.int .i64 p, .int .i64 n, .slice a len cap] ∧ W = w.alloc (.cells #[.int .i64 p, .int .i64 n, .slice a len cap] 28) ∧ Below w.heap.size w W ∧ GateV W v g ∧ W.cell? ⟨w.heap.size, 0, none⟩ = some (.int .i64 p) ∧ W.cell? ⟨w.heap.size, 1, none⟩ = some (.int .i64 n) ∧ W.cell? ⟨w.heap.size, 2, none⟩ = some (.slice a len cap) := by
  obtain ⟨p, n, l, a, cap, e, -⟩ := gate_parts h
  have hb := below_new w #[.int .i64 p, .int .i64 n, .slice a l.length cap] 28
  have hr := World.alloc_heap_new w (.cells #[.int .i64 p, .int .i64 n, .slice a l.length cap] 28)
  exact ⟨p, n, a, cap, _, _, e, rfl, hb, h.later hb, row_cell hr rfl, row_cell hr rfl, row_cell hr rfl⟩

set_option maxRecDepth 100000 in
theorem deep_16 (v : Value) (g : GT) (w : World) (hg : GateV w v g) : Calls Try.prog 90 #[v, .int .i64 16] w fun e w' => e = .returned (.bool (decide (16 ≤ hgtG g))) ∧ Below w.heap.size w w' :=
  rdeeper22_at w v g hg w 16 (Below.refl _ _) (by omega)
set_option maxRecDepth 100000 in
theorem lvs_256 (v : Value) (g : GT) (w : World) (hg : GateV w v g) : Calls Try.prog 88 #[v, .int .i64 256] w fun e w' => e = .returned (.int .i64 ((min (lvsG g) 257 : Nat) : Int)) ∧ Below w.heap.size w w' :=
  rLeaves22_at w v g hg w 256 (Below.refl _ _) (by omega)
set_option maxRecDepth 100000 in
theorem lvs_300 (v : Value) (g : GT) (w : World) (hg : GateV w v g) : Calls Try.prog 88 #[v, .int .i64 300] w fun e w' => e = .returned (.int .i64 ((min (lvsG g) 301 : Nat) : Int)) ∧ Below w.heap.size w w' :=
  rLeaves22_at w v g hg w 300 (Below.refl _ _) (by omega)
set_option maxRecDepth 100000 in
theorem right_22 (v : Value) (g : GT) (w : World) (hg : GateV w v g) : Calls Try.prog 91 #[v] w fun e w' => e = .returned (.bool (rightG g)) ∧ Below w.heap.size w w' :=
  rright22_at w v g hg w (Below.refl _ _)

set_option maxRecDepth 100000 in
set_option maxHeartbeats 4000000 in
theorem rCheck22_any (v : Value) (g : GT) (w : World) (hg : GateV w v g) : Calls Try.prog 49 #[v] w fun e w' => e = .returned (.int .i64 (gateE g)) ∧ Below w.heap.size w w' := by
  obtain ⟨p, n, a, cap, len, W1, rfl, hW1, hb1, hg1, c0, c1, c2⟩ := box_gate hg
  have HW1 := Lib.hid hW1
  have HB := Lib.hid hb1
  have HG := Lib.hid hg1
  clear hW1 hb1 hg1 hg
  by_cases h1 : 16 ≤ hgtG g
  · have HX : Hid (decide (16 ≤ hgtG g) = true) := Lib.hid (decide_eq_true h1)
    have HV : Hid (gateE g = 2) := Lib.hid (by unfold gateE largeG overG; rw [decide_eq_true (.inl (by omega))]; rfl)
    clear h1
    go_enter Try.func49, Try.ntmps49
    go_wp2_with (rw [← HW1.out])
    with_reducible refine (deep_16 _ g W1 HG.out).mono ?_
    rintro e w2 ⟨rfl, hb2⟩
    rw [HX.out]
    have HB2 := Lib.hid (HB.out.trans (hb2.mono HB.out.size))
    clear hb2
    go_wp2_with fail
    go_ret
    exact ⟨ret_int HV.out.symm, HB2.out⟩
  have HX : Hid (decide (16 ≤ hgtG g) = false) := Lib.hid (decide_eq_false h1)
  by_cases h2 : 256 < lvsG g
  · have HV : Hid (gateE g = 2) := Lib.hid (by unfold gateE largeG overG; rw [decide_eq_true (.inr (by omega))]; rfl)
    obtain ⟨m, hm⟩ : ∃ m : Nat, m = min (lvsG g) 257 := ⟨_, rfl⟩
    have hd : decide ((256 : Int) < (m : Int)) = true := decide_eq_true (by omega)
    have HM := Lib.hid hm
    clear h1 h2 hm
    go_enter Try.func49, Try.ntmps49
    go_wp2_with (rw [← HW1.out])
    with_reducible refine (deep_16 _ g W1 HG.out).mono ?_
    rintro e w2 ⟨rfl, hb2⟩
    rw [HX.out]
    have HB2 := Lib.hid (HB.out.trans (hb2.mono HB.out.size))
    have HG2 := Lib.hid (HG.out.later hb2)
    have c0 := below_cell hb2 c0
    have c1 := below_cell hb2 c1
    have c2 := below_cell hb2 c2
    clear hb2
    go_wp2_with fail
    with_reducible refine (lvs_256 _ g w2 HG2.out).mono ?_
    rintro e w3 ⟨rfl, hb3⟩
    rw [← HM.out]
    have HB3 := Lib.hid (HB2.out.trans (hb3.mono HB2.out.size))
    clear hb3
    go_wp2_with fail
    go_ret
    exact ⟨ret_int HV.out.symm, HB3.out⟩
  · have HL : Hid (largeG g = false) := Lib.hid (by unfold largeG overG; exact decide_eq_false (by omega))
    obtain ⟨m, hm⟩ : ∃ m : Nat, m = min (lvsG g) 257 := ⟨_, rfl⟩
    have hd : decide ((256 : Int) < (m : Int)) = false := decide_eq_false (by omega)
    have HM := Lib.hid hm
    clear h1 h2 hm
    go_enter Try.func49, Try.ntmps49
    go_wp2_with (rw [← HW1.out])
    with_reducible refine (deep_16 _ g W1 HG.out).mono ?_
    rintro e w2 ⟨rfl, hb2⟩
    rw [HX.out]
    have HB2 := Lib.hid (HB.out.trans (hb2.mono HB.out.size))
    have HG2 := Lib.hid (HG.out.later hb2)
    have c0 := below_cell hb2 c0
    have c1 := below_cell hb2 c1
    have c2 := below_cell hb2 c2
    clear hb2
    go_wp2_with fail
    with_reducible refine (lvs_256 _ g w2 HG2.out).mono ?_
    rintro e w3 ⟨rfl, hb3⟩
    rw [← HM.out]
    have HB3 := Lib.hid (HB2.out.trans (hb3.mono HB2.out.size))
    have HG3 := Lib.hid (HG2.out.later hb3)
    have c0 := below_cell hb3 c0
    have c1 := below_cell hb3 c1
    have c2 := below_cell hb3 c2
    clear hb3
    go_wp2_with fail
    with_reducible refine (right_22 _ g w3 HG3.out).mono ?_
    rintro e w4 ⟨rfl, hb4⟩
    have HB4 := Lib.hid (HB3.out.trans (hb4.mono HB3.out.size))
    clear hb4
    cases hr : rightG g with
    | true =>
      have HV : Hid (gateE g = 0) := Lib.hid (by unfold gateE; rw [HL.out, hr]; rfl)
      go_wp2_with fail
      go_ret
      exact ⟨ret_int HV.out.symm, HB4.out⟩
    | false =>
      have HV : Hid (gateE g = 220) := Lib.hid (by unfold gateE; rw [HL.out, hr]; rfl)
      go_wp2_with fail
      go_ret
      exact ⟨ret_int HV.out.symm, HB4.out⟩

set_option maxRecDepth 100000 in
set_option maxHeartbeats 4000000 in
theorem rFew22_any (v : Value) (g : GT) (w : World) (hg : GateV w v g) : Calls Try.prog 46 #[v] w fun e w' => (e = .returned (.bool true) ∨ e = .returned (.bool false)) ∧ Below w.heap.size w w' := by
  obtain ⟨p, n, a, cap, len, W1, rfl, hW1, hb1, hg1, c0, c1, c2⟩ := box_gate hg
  have HW1 := Lib.hid hW1
  have HB := Lib.hid hb1
  have HG := Lib.hid hg1
  clear hW1 hb1 hg1 hg
  obtain ⟨m, hm⟩ : ∃ m : Nat, m = min (lvsG g) 301 := ⟨_, rfl⟩
  have HM := Lib.hid hm
  clear hm
  go_enter Try.func46, Try.ntmps46
  go_wp2_with (rw [← HW1.out])
  with_reducible refine (lvs_300 _ g W1 HG.out).mono ?_
  rintro e w2 ⟨rfl, hb2⟩
  rw [← HM.out]
  have HB2 := Lib.hid (HB.out.trans (hb2.mono HB.out.size))
  clear hb2
  obtain ⟨e1, q1⟩ : ∃ b, decide ((m : Int) ≤ 60) = b := ⟨_, rfl⟩
  obtain ⟨e2, q2⟩ : ∃ b, decide (250 ≤ (m : Int)) = b := ⟨_, rfl⟩
  obtain ⟨e3, q3⟩ : ∃ b, decide ((m : Int) ≤ 300) = b := ⟨_, rfl⟩
  cases e1
  · cases e2
    · go_wp2_with fail
      go_ret
      first | exact ⟨.inl rfl, HB2.out⟩ | exact ⟨.inr rfl, HB2.out⟩
    · cases e3
      all_goals
        go_wp2_with fail
        go_ret
        first | exact ⟨.inl rfl, HB2.out⟩ | exact ⟨.inr rfl, HB2.out⟩
  · go_wp2_with fail
    go_ret
    first | exact ⟨.inl rfl, HB2.out⟩ | exact ⟨.inr rfl, HB2.out⟩

set_option maxRecDepth 100000 in
set_option maxHeartbeats 4000000 in
theorem few23_any (v wv : Value) (g : GT) (who : List Int) (w : World) (hg : GateV w v g) (hW : Ints w wv who) : Calls Try.prog 14 #[v, wv] w fun e w' => ((e = .returned (.bool true) ∧ who.length ≤ 80) ∨ e = .returned (.bool false)) ∧ Below w.heap.size w w' := by
  obtain ⟨p, n, a, cap, len, W1, rfl, hW1, hb1, hg1, c0, c1, c2⟩ := box_gate hg
  obtain ⟨a3, k3, rfl, -, hl3, -⟩ := id hW
  have HW1 := Lib.hid hW1
  have HB := Lib.hid hb1
  have HG := Lib.hid hg1
  clear hW1 hb1 hg1 hg hW
  obtain ⟨e1, q1⟩ : ∃ b, decide ((who.length : Int) ≤ 80) = b := ⟨_, rfl⟩
  go_enter Try.func14, Try.ntmps14
  go_wp2_with (rw [← HW1.out])
  with_reducible refine (rFew22_any _ g W1 HG.out).mono ?_
  rintro e w2 ⟨rfl | rfl, hb2⟩
  · have HB2 := Lib.hid (HB.out.trans (hb2.mono HB.out.size))
    clear hb2
    cases e1
    · go_wp2_with fail
      go_ret
      exact ⟨.inr rfl, HB2.out⟩
    · have HL : Hid (who.length ≤ 80) := Lib.hid (by have := of_decide_eq_true q1; omega)
      go_wp2_with fail
      go_ret
      exact ⟨.inl ⟨rfl, HL.out⟩, HB2.out⟩
  · have HB2 := Lib.hid (HB.out.trans (hb2.mono HB.out.size))
    clear hb2
    go_wp2_with fail
    go_ret
    exact ⟨.inr rfl, HB2.out⟩

end Go.Proofs.Ytohebkpgjaaljaa

namespace Go.Proofs.Ytohebkpgjaaljaa
open Go.ChangeShapes Go.WideShapes Go.ChangeAt Go.RowKit Go.Deep Go.Joins

set_option maxRecDepth 100000 in
theorem cellsGate : Try.prog.cellsOf 28 = 3 := by kernel_rfl
set_option maxRecDepth 100000 in
theorem cellsGates : Try.prog.cellsOf 26 = 1 := by kernel_rfl
set_option maxRecDepth 100000 in
theorem bytesGate : Try.prog.bytesOf 28 = 40 := by kernel_rfl

section
variable {H : Type} {enc : TypeId × Value → H} {W : World} {base : Nat}

set_option maxRecDepth 100000 in
theorem gate_parts3 {n : Nat} {cs : List Value} {y : DataW H × List MemPlace} (h : DataW.trod enc Try.prog W 0 (fun _ => true) true n 28 cs = some y) :
    ∃ m, n = m + 1 ∧ ∃ c0 c1 c2 y0 y1 y2, cs = [c0, c1, c2] ∧ y.1 = .agg [(y0 : DataW H × List MemPlace).1, (y1 : DataW H × List MemPlace).1, (y2 : DataW H × List MemPlace).1] ∧
      DataW.trod enc Try.prog W 0 (fun _ => true) true m 3 [c0] = some y0 ∧ DataW.trod enc Try.prog W 0 (fun _ => true) true m 3 [c1] = some y1 ∧ DataW.trod enc Try.prog W 0 (fun _ => true) true m 26 [c2] = some y2 := by
  obtain ⟨xs, m, hm, rfl, hl, hlen, hf⟩ := DataW.trod_struct Try.underlying28 h
  rw [cellsGate] at hl
  match xs, hlen with
  | [y0, y1, y2], _ =>
    match cs, hl with
    | [c0, c1, c2], _ =>
      have h0 := hf 0 _ rfl
      have h1 := hf 1 _ rfl
      have h2 := hf 2 _ rfl
      exact ⟨m, hm, c0, c1, c2, y0, y1, y2, rfl, by simp, by simpa [cellsInt] using h0, by simpa [cellsInt] using h1, by simpa [cellsGates] using h2⟩

set_option maxRecDepth 100000 in
theorem gate_cells : ∀ (fuel : Nat) (cs : List Value) (y : DataW H × List MemPlace), DataW.trod enc Try.prog W 0 (fun _ => true) true fuel 28 cs = some y → Light 28 y.1 →
    ∃ x z a len cap g, cs = [.int .i64 x, .int .i64 z, .slice a len cap] ∧ GateV W (.agg #[.int .i64 x, .int .i64 z, .slice a len cap]) g := by
  intro fuel
  induction fuel using Nat.strongRecOn with
  | _ fuel ih =>
    intro cs y h hl
    obtain ⟨m, rfl, c0, c1, c2, y0, y1, y2, rfl, hy, h0, h1, h2⟩ := gate_parts3 h
    obtain ⟨x, e0, -, w0⟩ := DataW.trod_int Try.underlying3 h0
    obtain ⟨z, e1, -, w1⟩ := DataW.trod_int Try.underlying3 h1
    simp only [List.cons.injEq, and_true] at e0 e1
    subst e0 e1
    have hl2 : ∀ n, n ∈ y2.1.weights Try.prog 26 → n ≤ reachBytes := fun n hn => hl n (by
      rw [hy]
      simp only [DataW.weights, Try.underlying28]
      exact List.mem_append_right _ (List.mem_append_right _ (List.mem_append_left _ hn)))
    rcases DataW.trod_slice Try.underlying26 h2 with ⟨hcs, -⟩ | ⟨a, len, cap, elems, rest, n, hn, hcs, hx, -, hle, hm, hlen, hel, hsp, -⟩
    · simp only [List.cons.injEq, and_true] at hcs
      subst hcs
      exact ⟨x, z, none, 0, 0, .mk x z [], rfl, GateV.mk x z [] none 0 (fun _ => undef) (wf_r64 w0) (wf_r64 w1) (Nat.le_refl _) (by simp) (fun k h => absurd h (Nat.not_lt_zero _)) (fun k h => absurd h (Nat.not_lt_zero _))⟩
    · simp only [List.cons.injEq, and_true] at hcs
      subst hcs
      have hx1 : y2.1 = .slice (elems.map (·.1)) (rest.map (·.1)) := by rw [hx]
      have hcap : len ≤ 17592186044416 := by
        have := hl2 ((elems.length + rest.length) * 40) (by
          rw [hx1]
          simp only [DataW.weights, Try.underlying26, bytesGate, List.length_map]
          exact List.mem_cons_self ..)
        rw [hlen, reach_is] at this
        omega
      have hrow : ∀ i, i < len → ∃ p : Value × GT, (∃ x z a' l' c', p.1 = .agg #[.int .i64 x, .int .i64 z, .slice a' l' c'] ∧ W.cell? (a.add (i * 3)) = some (.int .i64 x) ∧ W.cell? (a.add (i * 3 + 1)) = some (.int .i64 z) ∧ W.cell? (a.add (i * 3 + 2)) = some (.slice a' l' c')) ∧ GateV W p.1 p.2 := fun i hi => by
        have h1 := hel i hi
        rw [cellsGate, List.getElem?_eq_getElem (by omega)] at h1
        obtain ⟨cs, hc, ht⟩ := Option.bind_eq_some_iff.1 h1
        have hli : Light 28 (elems[i]'(by omega)).1 := fun n hn => hl2 n (by
          rw [hx1]
          simp only [DataW.weights, Try.underlying26]
          exact List.mem_cons_of_mem _ (List.mem_append_left _ (weightsAll_mem (List.mem_map.2 ⟨_, List.getElem_mem (by omega), rfl⟩) hn)))
        obtain ⟨x', z', a', l', c', g', rfl, hg⟩ := ih n (by omega) _ _ ht hli
        obtain ⟨-, -, hcell⟩ := World.cells?_some hc
        have e : ∀ j, (a.add (i * 3)).add j = a.add (i * 3 + j) := fun j => by
          unfold Addr.add
          by_cases h : i * 3 = 0
          · simp [h]
          · by_cases h' : j = 0
            · simp [h']
            · simp [h, h', Nat.add_assoc]
        refine ⟨(_, g'), ⟨x', z', a', l', c', rfl, ?_, ?_, ?_⟩, hg⟩
        · have := hcell 0 (by omega); rw [e] at this; simpa using this
        · have := hcell 1 (by omega); rw [e] at this; simpa using this
        · have := hcell 2 (by omega); rw [e] at this; simpa using this
      obtain ⟨f, hf2⟩ : ∃ f : Nat → Value × GT, ∀ i, i < len → (∃ x z a' l' c', (f i).1 = .agg #[.int .i64 x, .int .i64 z, .slice a' l' c'] ∧ W.cell? (a.add (i * 3)) = some (.int .i64 x) ∧ W.cell? (a.add (i * 3 + 1)) = some (.int .i64 z) ∧ W.cell? (a.add (i * 3 + 2)) = some (.slice a' l' c')) ∧ GateV W (f i).1 (f i).2 :=
        ⟨fun i => if hi : i < len then (hrow i hi).choose else (undef, .mk 0 0 []), fun i hi => by simp only [dif_pos hi]; exact (hrow i hi).choose_spec⟩
      have hll : ((List.range len).map fun i => (f i).2).length = len := by simp
      have hG := GateV.mk (w := W) x z ((List.range len).map fun i => (f i).2) (some a) cap (fun i => (f i).1) (wf_r64 w0) (wf_r64 w1) (by rw [hll]; exact hle) (by rw [hll]; exact hcap) (fun k hk => by
        rw [hll] at hk
        obtain ⟨⟨x', z', a', l', c', e1, e2, e3, e4⟩, -⟩ := hf2 k hk
        obtain ⟨b, o, sp⟩ := a
        have hsp2 : sp = none := by
          obtain ⟨⟨_, _, _, _, _, -, q2, -, -⟩, -⟩ := hf2 0 (by omega)
          have h0 := World.cell?_spot q2
          simpa [Addr.add] using h0
        subst hsp2
        exact ⟨b, o, x', z', a', l', c', rfl, e1, by rw [← add_plain]; exact e2, by rw [Nat.add_assoc, ← add_plain]; exact e3, by rw [Nat.add_assoc, ← add_plain]; exact e4⟩) (fun k hk => by
        rw [hll] at hk
        have := (hf2 k hk).2
        simpa using this)
      rw [hll] at hG
      exact ⟨x, z, some a, len, cap, _, rfl, hG⟩

set_option maxRecDepth 100000 in
/-- A formula as an argument. -/
theorem open_gate {v : Value} {d : DataW H} {ps : List MemPlace} (hv : Value.okWide Try.prog W .any base 28 v) (h : DataW.Trod enc Try.prog W 0 (fun _ => true) true 28 v d ps) (hl : Light 28 d) : ∃ g, GateV W v g := by
  obtain ⟨cs, rfl, hsz⟩ := okWide_struct Try.underlying28 hv
  obtain ⟨fuel, hf⟩ := h
  obtain ⟨x, z, a, len, cap, g, e, hg⟩ := gate_cells fuel _ _ hf hl
  have e2 : cs = #[.int .i64 x, .int .i64 z, .slice a len cap] := by
    apply Array.ext'
    simpa [Value.cells] using e
  rw [e2]
  exact ⟨g, hg⟩
end

end Go.Proofs.Ytohebkpgjaaljaa
