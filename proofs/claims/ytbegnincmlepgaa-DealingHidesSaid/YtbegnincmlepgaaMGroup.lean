/- Layer 10, and its reference: what the functions on elements compute. -/
import Derived.Test.YtbegnincmlepgaaMBase
import Derived.Test.YtbegnincmlepgaaMElt
namespace Go.Proofs.Ytbegnincmlepgaa
open Go.RowKit FP

/-! The power by squaring, modulo P. -/
theorem mp_l (a b : Int) : (a % 2147483579 * b) % 2147483579 = (a * b) % 2147483579 := by rw [Int.mul_emod, Int.emod_emod, ← Int.mul_emod]
theorem mp_r (a b : Int) : (a * (b % 2147483579)) % 2147483579 = (a * b) % 2147483579 := by rw [Int.mul_emod, Int.emod_emod, ← Int.mul_emod]
theorem mp_pow (a : Int) (n : Nat) : (a % 2147483579) ^ n % 2147483579 = a ^ n % 2147483579 := by
  induction n with
  | zero => rw [Int.pow_zero, Int.pow_zero]
  | succ n ih => rw [Int.pow_succ, Int.pow_succ, mp_r, Int.mul_emod, ih, ← Int.mul_emod]
theorem mp_half (s : Int) (left : Nat) : s ^ left = (s * s) ^ (left / 2) * s ^ (left % 2) := by
  have : s * s = s ^ 2 := by rw [Int.pow_succ, Int.pow_succ, Int.pow_zero, Int.one_mul]
  rw [this, ← Int.pow_mul, ← Int.pow_add]; congr 1; omega
theorem mp_odd (x s : Int) (left : Nat) (h : left % 2 = 1) : ((x * s) % 2147483579 * ((s * s) % 2147483579) ^ (left / 2)) % 2147483579 = (x * s ^ left) % 2147483579 := by
  rw [mp_l, Int.mul_emod, mp_pow, ← Int.mul_emod, mp_half s left, h, Int.pow_succ, Int.pow_zero, Int.one_mul, Int.mul_assoc, Int.mul_comm s]
theorem mp_even (x s : Int) (left : Nat) (h : left % 2 = 0) : (x * ((s * s) % 2147483579) ^ (left / 2)) % 2147483579 = (x * s ^ left) % 2147483579 := by
  rw [Int.mul_emod, mp_pow, ← Int.mul_emod, mp_half s left, h, Int.pow_zero, Int.mul_one]
theorem mp_num (a : Int) : 0 ≤ a % 2147483579 ∧ a % 2147483579 < 2147483579 := by omega
/-- A product of two numbers below P. -/
theorem mp_prod {a b : Int} (ha : 0 ≤ a ∧ a < 2147483579) (hb : 0 ≤ b ∧ b < 2147483579) : 0 ≤ a * b ∧ a * b ≤ 4611685721957729241 := by
  have h3 : 0 ≤ a * b := Int.mul_nonneg ha.1 hb.1
  have h4 : a * b ≤ 2147483578 * 2147483578 := Int.mul_le_mul (by omega) (by omega) hb.1 (by omega)
  omega

theorem powP_nQ (x : Int) : powP x ((1073741789 : Nat)) = powP x nQ := rfl
/-! group.Valid: the law of quadratic reciprocity. -/
theorem elB_vJ {k : Nat} (h0 : 0 < k) (h1 : k < 2147483579) : elB k = vJ k 2147483579 := by
  have e := euler (a := k) (h := nQ) rfl h0 h1
  have n0 : FP.natq k = cp (k : Int) := rfl
  rw [n0, ← powP_one] at e
  unfold elB vJ
  rw [decide_eq_true (by omega), decide_eq_true (by omega), Bool.true_and, Bool.true_and]
  rw [Bool.eq_iff_iff, beq_iff_eq, decide_eq_true_eq]; exact e
theorem cop_P {k : Nat} (h0 : 0 < k) (h1 : k < 2147483579) : Nat.Coprime k 2147483579 :=
  (FP.prime_cop (fun hd => by have := Nat.le_of_dvd h0 hd; omega)).symm
theorem beq_not2 (a b c : Bool) : ((a == !b) == c) = (a == (!b == c)) := by cases a <;> cases b <;> cases c <;> rfl

set_option maxRecDepth 100000 in
set_option maxHeartbeats 2000000 in
theorem valid_any (x : Int) (w : World) (hx : R64 x) :
    Calls Try.prog 54 #[.int .i64 x] w fun e w' => e = .returned (.bool (elB x)) ∧ w = w' := by
  by_cases h1 : x < 1
  · have K := Lib.hid (show elB x = false by unfold elB; rw [decide_eq_false (by omega), Bool.false_and])
    obtain ⟨x1, x2⟩ := hx
    go_enter Try.func54, Try.ntmps54
    go_wp2_with fail
    go_step3
    go_wp2_with fail
    try rw [Exit.noGoto_ret]
    go_ret
    exact ⟨ret_bool K.out.symm, rfl⟩
  by_cases h2 : 2147483579 ≤ x
  · have K := Lib.hid (show elB x = false by unfold elB; rw [decide_eq_false (p := x < 2147483579) (by omega), Bool.false_and, Bool.and_false])
    obtain ⟨x1, x2⟩ := hx
    go_enter Try.func54, Try.ntmps54
    go_wp2_with fail
    go_step3
    go_wp2_with fail
    try rw [Exit.noGoto_ret]
    go_ret
    exact ⟨ret_bool K.out.symm, rfl⟩
  obtain ⟨k, rfl⟩ := Int.eq_ofNat_of_zero_le (show 0 ≤ x by omega)
  have hT := Lib.hid (elB_vJ (k := k) (by omega) (by omega))
  have hC := cop_P (k := k) (by omega) (by omega)
  generalize elB (k : Int) = T at *
  have g1 : 1 ≤ k := by omega
  have g2 : k < 2147483579 := by omega
  clear h1 h2 hx
  go_enter Try.func54, Try.ntmps54
  go_wp2_with fail
  go_step3
  go_wp2_with fail
  go_step3
  go_wp2_with fail
  go_loop [0, 3, 4] (fun x n s => ∃ (y m : Nat) (b : Bool), x = .int .i64 y ∧ n = .int .i64 m ∧ s = .bool b ∧ 1 ≤ y ∧ y < 2147483579 ∧ 1 ≤ m ∧ m ≤ 2147483579 ∧ m % 2 = 1 ∧ Nat.Coprime y m ∧ Hid ((vJ y m == b) = T)) (fun x _ _ => (intOf x).toNat)
  case atStart => exact ⟨k, 2147483579, true, rfl, rfl, rfl, g1, g2, by omega, by omega, by omega, hC, Lib.hid (by rw [hT.out]; cases vJ k 2147483579 <;> rfl)⟩
  case round =>
    obtain ⟨y, m, b, rfl, rfl, rfl, hy1, hy2, hm1, hm2, hm3, hc, HT⟩ := hrel
    by_cases e1 : y = 1
    · subst e1
      have HT2 := Lib.hid (show b = T by rw [← HT.out, vJ_one]; cases b <;> rfl)
      go_wp2
      try rw [Exit.noGoto_ret]
      go_ret
      exact ⟨ret_bool HT2.out, rfl⟩
    · have e2 : decide ((y : Int) > 1) = true := by simp; omega
      go_wp2_with fail
      go_loop [0, 4] (fun x s => ∃ (z : Nat) (c : Bool), x = .int .i64 z ∧ s = .bool c ∧ 1 ≤ z ∧ z ≤ y ∧ Nat.Coprime z m ∧ Hid ((vJ z m == c) = T)) (fun x _ => (intOf x).toNat)
      case atStart => exact ⟨y, b, rfl, rfl, hy1, Nat.le_refl _, hc, HT⟩
      case round =>
        obtain ⟨z, c, rfl, rfl, hz1, hz2, hcz, HZ⟩ := hrel
        rcases Nat.mod_two_eq_zero_or_one z with h2 | h2
        · obtain ⟨u, rfl⟩ : ∃ u, z = 2 * u := ⟨z / 2, by omega⟩
          have f2 : (((2 * u : Nat) : Int) % 2 == 0) = true := by rw [beq_iff_eq]; omega
          have hJ := Lib.hid (vJ_two hm3 hcz)
          have hcu : Nat.Coprime u m := Nat.Coprime.coprime_mul_left hcz
          by_cases h3 : m % 8 = 3
          · have f3 : ((m : Int) % 8 == 3) = true := by rw [beq_iff_eq]; omega
            have HN := Lib.hid (show (vJ u m == !c) = T by
              rw [← HZ.out, hJ.out, decide_eq_true h3]; cases vJ u m <;> cases c <;> rfl)
            clear h3
            go_wp2
            go_round
            case rel => exact ⟨u, !c, by go_num, rfl, by omega, by omega, hcu, HN⟩
            case measure => simp [intOf]; omega
          · have f3 : ((m : Int) % 8 == 3) = false := by rw [beq_eq_false_iff_ne]; omega
            by_cases h5 : m % 8 = 5
            · have f5 : ((m : Int) % 8 == 5) = true := by rw [beq_iff_eq]; omega
              have HN := Lib.hid (show (vJ u m == !c) = T by
                rw [← HZ.out, hJ.out, decide_eq_true h5, Bool.or_true]; cases vJ u m <;> cases c <;> rfl)
              clear h3 h5
              go_wp2
              go_round
              case rel => exact ⟨u, !c, by go_num, rfl, by omega, by omega, hcu, HN⟩
              case measure => simp [intOf]; omega
            · have f5 : ((m : Int) % 8 == 5) = false := by rw [beq_eq_false_iff_ne]; omega
              have HN := Lib.hid (show (vJ u m == c) = T by
                rw [← HZ.out, hJ.out, decide_eq_false h3, decide_eq_false h5]; cases vJ u m <;> cases c <;> rfl)
              clear h3 h5
              go_wp2
              go_round
              case rel => exact ⟨u, c, by go_num, rfl, by omega, by omega, hcu, HN⟩
              case measure => simp [intOf]; omega
        · have f2 : ((z : Int) % 2 == 0) = false := by rw [beq_eq_false_iff_ne]; omega
          by_cases e3 : z = 1
          · subst e3
            have HT2 := Lib.hid (show c = T by rw [← HZ.out, vJ_one]; cases c <;> rfl)
            go_wp2
            try rw [Exit.noGoto_ret]
            go_ret
            exact ⟨ret_bool HT2.out, rfl⟩
          · have f1 : ((z : Int) == 1) = false := by rw [beq_eq_false_iff_ne]; omega
            have hJ := Lib.hid (vJ_swap h2 hm3 hcz)
            have hcn : Nat.Coprime (m % z) z := by
              have := Nat.Coprime.symm hcz
              unfold Nat.Coprime at this ⊢
              rw [← this, ← Nat.gcd_rec, Nat.gcd_comm]
            have hpos : 1 ≤ m % z := by
              by_cases e : m % z = 0
              · rw [e] at hcn; simp at hcn; exact absurd hcn e3
              · omega
            have hlt : m % z < z := Nat.mod_lt _ (by omega)
            have hz0 : (z : Int) ≠ 0 := by omega
            by_cases h3 : z % 4 = 3
            · have f3 : ((z : Int) % 4 == 3) = true := by rw [beq_iff_eq]; omega
              by_cases h4 : m % 4 = 3
              · have f4 : ((m : Int) % 4 == 3) = true := by rw [beq_iff_eq]; omega
                have HN := Lib.hid (show (vJ (m % z) z == !c) = T by
                  rw [← HZ.out, hJ.out, decide_eq_true h3, decide_eq_true h4]; cases vJ z m <;> cases c <;> rfl)
                clear h3 h4
                go_wp2
                go_round
                case rel => exact ⟨m % z, z, !c, by go_num, rfl, rfl, hpos, by omega, by omega, by omega, h2, hcn, HN⟩
                case measure => simp [intOf]; omega
              · have f4 : ((m : Int) % 4 == 3) = false := by rw [beq_eq_false_iff_ne]; omega
                have HN := Lib.hid (show (vJ (m % z) z == c) = T by
                  rw [← HZ.out, hJ.out, decide_eq_true h3, decide_eq_false h4]; cases vJ z m <;> cases c <;> rfl)
                clear h3 h4
                go_wp2
                go_round
                case rel => exact ⟨m % z, z, c, by go_num, rfl, rfl, hpos, by omega, by omega, by omega, h2, hcn, HN⟩
                case measure => simp [intOf]; omega
            · have f3 : ((z : Int) % 4 == 3) = false := by rw [beq_eq_false_iff_ne]; omega
              have HN := Lib.hid (show (vJ (m % z) z == c) = T by
                rw [← HZ.out, hJ.out, decide_eq_false h3]; cases vJ z m <;> cases c <;> rfl)
              clear h3
              go_wp2
              go_round
              case rel => exact ⟨m % z, z, c, by go_num, rfl, rfl, hpos, by omega, by omega, by omega, h2, hcn, HN⟩
              case measure => simp [intOf]; omega

end Go.Proofs.Ytbegnincmlepgaa
