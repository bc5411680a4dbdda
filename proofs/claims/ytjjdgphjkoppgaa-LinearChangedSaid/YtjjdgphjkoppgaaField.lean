/- Package field, and its reference: what each function computes. -/
import Derived.Test.YtjjdgphjkoppgaaBase
namespace Go.Proofs.Ytjjdgphjkoppgaa
open Go.RowKit

theorem tmod_neg (n : Int) (h : n < 0) : n.tmod 1073741789 = -((-n) % 1073741789) := by
  have h1 : n.tmod 1073741789 = (-(-n)).tmod 1073741789 := by rw [Int.neg_neg]
  rw [h1, Int.neg_tmod, Int.tmod_eq_emod_of_nonneg (by omega)]
theorem tmod_emod (n : Int) : (if n.tmod 1073741789 < 0 then n.tmod 1073741789 + 1073741789 else n.tmod 1073741789) = n % 1073741789 := by
  by_cases h0 : 0 ≤ n
  · rw [Int.tmod_eq_emod_of_nonneg h0, if_neg (by omega)]
  · rw [tmod_neg n (by omega)]; split <;> omega
theorem tmod_lo (n : Int) : -1073741789 < n.tmod 1073741789 := by
  by_cases h0 : 0 ≤ n
  · rw [Int.tmod_eq_emod_of_nonneg h0]; omega
  · rw [tmod_neg n (by omega)]; omega
theorem tmod_hi (n : Int) : n.tmod 1073741789 < 1073741789 := by
  have h := tmod_emod n
  generalize n.tmod 1073741789 = t at *
  by_cases hn : t < 0
  · omega
  · rw [if_neg hn] at h; omega

set_option maxHeartbeats 400000 in
theorem mod_any (n : Int) (w : World) (hn : R64 n) :
    Calls Try.prog 26 #[.int .i64 n] w fun e w' => e = .returned (.int .i64 (n % 1073741789)) ∧ w = w' := by
  obtain ⟨h1, h2⟩ := hn
  have hm := Lib.hid (tmod_emod n)
  have hl := tmod_lo n
  have hh := tmod_hi n
  by_cases hn : n.tmod 1073741789 < 0
  · go_enter Try.func26, Try.ntmps26
    go_wp2
    go_ret
    exact ⟨ret_int (by rw [← hm.out, if_pos hn]), rfl⟩
  · go_enter Try.func26, Try.ntmps26
    go_wp2
    go_ret
    exact ⟨ret_int (by rw [← hm.out, if_neg (Int.not_lt.2 hn)]), rfl⟩

set_option maxHeartbeats 400000 in
theorem rmod_any (n : Int) (w : World) (hn : R64 n) :
    Calls Try.prog 40 #[.int .i64 n] w fun e w' => e = .returned (.int .i64 (n % 1073741789)) ∧ w = w' := by
  obtain ⟨h1, h2⟩ := hn
  have hm := Lib.hid (tmod_emod n)
  have hl := tmod_lo n
  have hh := tmod_hi n
  by_cases hn : n.tmod 1073741789 < 0
  · go_enter Try.func40, Try.ntmps40
    go_wp2
    go_ret
    exact ⟨ret_int (by rw [← hm.out, if_pos hn]), rfl⟩
  · go_enter Try.func40, Try.ntmps40
    go_wp2
    go_ret
    exact ⟨ret_int (by rw [← hm.out, if_neg (Int.not_lt.2 hn)]), rfl⟩

/-- The sum of numbers, as the program reckons it. -/
def sumQ (zs : List Int) : Int := zs.foldl (fun x n => (x + n % 1073741789) % 1073741789) 0
theorem sumQ_snoc (zs : List Int) (z : Int) : sumQ (zs ++ [z]) = (sumQ zs + z % 1073741789) % 1073741789 := by simp [sumQ]
theorem sumQ_num (zs : List Int) : 0 ≤ sumQ zs ∧ sumQ zs < 1073741789 := by
  rcases List.eq_nil_or_concat zs with rfl | ⟨l, z, rfl⟩
  · simp [sumQ]
  · rw [List.concat_eq_append, sumQ_snoc]; omega

set_option maxHeartbeats 400000 in
theorem sum_any (v : Value) (zs : List Int) (w : World) (hI : Ints w v zs) :
    Calls Try.prog 45 #[v] w fun e w' => e = .returned (.int .i64 (sumQ zs)) ∧ w = w' := by
  obtain ⟨a, cap, rfl, hcap, hlen, hr, hk⟩ := hI
  go_enter Try.func45, Try.ntmps45
  go_wp2
  go_loop [3, 8] (fun x i => ∃ k : Nat, k ≤ zs.length ∧ i = .int .i64 k ∧ x = .int .i64 (sumQ (zs.take k))) (fun _ i => zs.length - (intOf i).toNat)
  case atStart => exact ⟨0, Nat.zero_le _, rfl, rfl⟩
  case round =>
    obtain ⟨k, hkl, rfl, rfl⟩ := hrel
    have hs := sumQ_num (zs.take k)
    by_cases hlt : k < zs.length
    · obtain ⟨b, off, rfl, hc⟩ := hk k hlt
      have hz := hr _ (List.getElem_mem hlt)
      have HS := Lib.hid (show sumQ (zs.take (k + 1)) = (sumQ (zs.take k) + zs[k] % 1073741789) % 1073741789 by
        rw [List.take_succ_eq_append_getElem hlt, sumQ_snoc])
      clear hk hr
      go_wp2_with (go_at_call 26; refine (mod_any _ _ hz).mono ?_; rintro e w' ⟨rfl, rfl⟩)
      go_round
      case rel => exact ⟨k + 1, by omega, by go_num, by rw [HS.out]⟩
      case measure => simp [intOf]; omega
    · go_wp2
      go_ret
      exact ⟨ret_int (by rw [List.take_of_length_le (by omega)]), rfl⟩

theorem Ints.two (w : World) (a b : Int) (t : TypeId) (ha : R64 a) (hb : R64 b) : Ints (w.alloc (.cells #[.int .i64 a, .int .i64 b] t)) (.slice (some ⟨w.heap.size, 0, none⟩) 2 2) [a, b] := by
  refine ⟨_, 2, rfl, by simp, by simp, by simp [ha, hb], fun k hk => ⟨_, _, rfl, ?_⟩⟩
  rw [World.cell?_alloc_at _ _ _ _ rfl]
  have : k = 0 ∨ k = 1 := by simp at hk; omega
  rcases this with rfl | rfl <;> rfl

set_option maxHeartbeats 400000 in
theorem add_any (a b : Int) (w : World) (ha : R64 a) (hb : R64 b) :
    Calls Try.prog 24 #[.int .i64 a, .int .i64 b] w fun e w' => e = .returned (.int .i64 ((a + b) % 1073741789)) ∧ Below w.heap.size w w' := by
  have H := Lib.hid (show sumQ [a, b] = (a + b) % 1073741789 by simp [sumQ])
  go_enter Try.func24, Try.ntmps24
  go_wp2_with (go_at_call 45; refine (sum_any _ _ _ (Ints.two w a b _ ha hb)).mono ?_; rintro e w' ⟨rfl, rfl⟩)
  go_ret
  exact ⟨ret_int H.out, (Below.refl _ _).alloc (Nat.le_refl _) _⟩

set_option maxHeartbeats 400000 in
theorem mul_any (a b : Int) (w : World) (ha : R64 a) (hb : R64 b) :
    Calls Try.prog 25 #[.int .i64 a, .int .i64 b] w fun e w' => e = .returned (.int .i64 ((a * b) % 1073741789)) ∧ w = w' := by
  have H := Lib.hid (show (a % 1073741789) * (b % 1073741789) % 1073741789 = (a * b) % 1073741789 from (Int.mul_emod a b _).symm)
  have h1 : 0 ≤ a % 1073741789 ∧ a % 1073741789 < 1073741789 := by omega
  have h2 : 0 ≤ b % 1073741789 ∧ b % 1073741789 < 1073741789 := by omega
  have h3 : 0 ≤ a % 1073741789 * (b % 1073741789) := Int.mul_nonneg h1.1 h2.1
  have h4 : a % 1073741789 * (b % 1073741789) ≤ 1073741789 * 1073741789 := Int.mul_le_mul (by omega) (by omega) h2.1 (by omega)
  go_enter Try.func25, Try.ntmps25
  go_wp2_with fail
  refine (mod_any _ _ ha).mono ?_; rintro e w' ⟨rfl, rfl⟩
  go_wp2_with fail
  refine (mod_any _ _ hb).mono ?_; rintro e w' ⟨rfl, rfl⟩
  go_wp2_with fail
  go_ret
  exact ⟨ret_int H.out, rfl⟩


/-! The power by squaring. -/
def powQ (a : Int) (n : Nat) : Int := a ^ n % 1073741789
def invQ (n : Int) : Int := powQ n 1073741787

theorem mulmod_l (a b : Int) : (a % 1073741789 * b) % 1073741789 = (a * b) % 1073741789 := by rw [Int.mul_emod, Int.emod_emod, ← Int.mul_emod]
theorem mulmod_r (a b : Int) : (a * (b % 1073741789)) % 1073741789 = (a * b) % 1073741789 := by rw [Int.mul_emod, Int.emod_emod, ← Int.mul_emod]
theorem powmod (a : Int) (n : Nat) : (a % 1073741789) ^ n % 1073741789 = a ^ n % 1073741789 := by
  induction n with
  | zero => rw [Int.pow_zero, Int.pow_zero]
  | succ n ih => rw [Int.pow_succ, Int.pow_succ, mulmod_r, Int.mul_emod, ih, ← Int.mul_emod]
theorem pow_half (s : Int) (left : Nat) : s ^ left = (s * s) ^ (left / 2) * s ^ (left % 2) := by
  have : s * s = s ^ 2 := by rw [Int.pow_succ, Int.pow_succ, Int.pow_zero, Int.one_mul]
  rw [this, ← Int.pow_mul, ← Int.pow_add]; congr 1; omega
theorem pow_odd (x s : Int) (left : Nat) (h : left % 2 = 1) : ((x * s) % 1073741789 * ((s * s) % 1073741789) ^ (left / 2)) % 1073741789 = (x * s ^ left) % 1073741789 := by
  rw [mulmod_l, Int.mul_emod, powmod, ← Int.mul_emod, pow_half s left, h, Int.pow_succ, Int.pow_zero, Int.one_mul, Int.mul_assoc, Int.mul_comm s]
theorem pow_even (x s : Int) (left : Nat) (h : left % 2 = 0) : (x * ((s * s) % 1073741789) ^ (left / 2)) % 1073741789 = (x * s ^ left) % 1073741789 := by
  rw [Int.mul_emod, powmod, ← Int.mul_emod, pow_half s left, h, Int.pow_zero, Int.mul_one]
theorem mod_num (a : Int) : 0 ≤ a % 1073741789 ∧ a % 1073741789 < 1073741789 := by omega
theorem mod_r64 (a : Int) : R64 (a % 1073741789) := by unfold R64; omega
theorem num_r64 {x : Int} (h : 0 ≤ x ∧ x < 1073741789) : R64 x := by unfold R64; omega

set_option maxHeartbeats 400000 in
theorem inverse_zero (n : Int) (w : World) (hn : R64 n) (h : n % 1073741789 = 0) :
    Calls Try.prog 39 #[.int .i64 n] w fun e w' => e = .returned (.tuple #[.int .i64 0, .int .i64 90]) ∧ w = w' := by
  have H := Lib.hid h
  clear h
  go_enter Try.func39, Try.ntmps39
  go_wp2_with fail
  go_step3
  go_wp2_with fail
  refine (mod_any _ _ hn).mono ?_; rintro e w' ⟨rfl, rfl⟩
  rw [H.out]
  go_wp2
  try rw [Exit.noGoto_ret]
  go_ret2
  exact ⟨rfl, rfl⟩

set_option maxHeartbeats 1000000 in
theorem inverse_any (n : Int) (w : World) (hn : R64 n) (h : n % 1073741789 ≠ 0) :
    Calls Try.prog 39 #[.int .i64 n] w fun e w' => e = .returned (.tuple #[.int .i64 (invQ n), .int .i64 0]) ∧ w = w' := by
  have H := Lib.hid (show (n % 1073741789 == 0) = false by simpa using h)
  clear h
  go_enter Try.func39, Try.ntmps39
  go_wp2_with fail
  go_step3
  go_wp2_with fail
  refine (mod_any _ _ hn).mono ?_; rintro e w' ⟨rfl, rfl⟩
  have H2 := H.out
  go_wp2
  go_step3
  go_wp2
  clear H2
  go_loop [2, 4, 5] (fun x l s => ∃ (x' s' : Int) (k : Nat), x = .int .i64 x' ∧ l = .int .i64 k ∧ s = .int .i64 s' ∧ k ≤ 1073741787 ∧ (0 ≤ x' ∧ x' < 1073741789) ∧ R64 s' ∧ Hid ((x' * s' ^ k) % 1073741789 = invQ n)) (fun _ l _ => (intOf l).toNat)
  case atStart => exact ⟨1, n, 1073741787, rfl, rfl, rfl, by omega, by omega, hn, Lib.hid (by simp only [Int.one_mul, invQ, powQ])⟩
  case round =>
    obtain ⟨x', s', k, rfl, rfl, rfl, hk, hx, hs, HP⟩ := hrel
    have hss := mod_r64 (s' * s')
    have hxs := mod_num (x' * s')
    by_cases h0 : k = 0
    · subst h0
      go_wp2
      try rw [Exit.noGoto_ret]
      go_ret2
      refine ⟨?_, rfl⟩
      show Ending.returned (.tuple #[.int .i64 x', .int .i64 0]) = _
      rw [← HP.out, Int.pow_zero, Int.mul_one, Int.emod_eq_of_lt hx.1 hx.2]
    · have hk0 : ((k : Int) == 0) = false := by simpa using h0
      rcases Nat.mod_two_eq_zero_or_one k with h2 | h2
      · have hk2 : ((k : Int) % 2 == 1) = false := by rw [beq_eq_false_iff_ne]; omega
        go_wp2_with fail
        refine (mul_any _ _ _ hs hs).mono ?_; rintro e w' ⟨rfl, rfl⟩
        go_wp2
        go_round
        case rel => exact ⟨x', (s' * s') % 1073741789, k / 2, rfl, by go_num, rfl, by omega, hx, hss, Lib.hid (by rw [pow_even x' s' k h2]; exact HP.out)⟩
        case measure => simp [intOf]; omega
      · have hk2 : ((k : Int) % 2 == 1) = true := by rw [beq_iff_eq]; omega
        go_wp2_with fail
        refine (mul_any _ _ _ (num_r64 hx) hs).mono ?_; rintro e w' ⟨rfl, rfl⟩
        go_wp2_with fail
        refine (mul_any _ _ _ hs hs).mono ?_; rintro e w' ⟨rfl, rfl⟩
        go_wp2
        go_round
        case rel => exact ⟨(x' * s') % 1073741789, (s' * s') % 1073741789, k / 2, rfl, by go_num, rfl, by omega, hxs, hss, Lib.hid (by rw [pow_odd x' s' k h2]; exact HP.out)⟩
        case measure => simp [intOf]; omega

set_option maxHeartbeats 400000 in
theorem radd_any (a b : Int) (w : World) (ha : R64 a) (hb : R64 b) :
    Calls Try.prog 53 #[.int .i64 a, .int .i64 b] w fun e w' => e = .returned (.int .i64 ((a + b) % 1073741789)) ∧ w = w' := by
  have H := Lib.hid (show ((a % 1073741789) + (b % 1073741789)) % 1073741789 = (a + b) % 1073741789 by omega)
  have h1 : 0 ≤ a % 1073741789 ∧ a % 1073741789 < 1073741789 := by omega
  have h2 : 0 ≤ b % 1073741789 ∧ b % 1073741789 < 1073741789 := by omega
  go_enter Try.func53, Try.ntmps53
  go_wp2_with fail
  refine (rmod_any _ _ ha).mono ?_; rintro e w' ⟨rfl, rfl⟩
  go_wp2_with fail
  refine (rmod_any _ _ hb).mono ?_; rintro e w' ⟨rfl, rfl⟩
  go_wp2_with fail
  go_ret
  exact ⟨ret_int H.out, rfl⟩

set_option maxHeartbeats 400000 in
theorem rmul_any (a b : Int) (w : World) (ha : R64 a) (hb : R64 b) :
    Calls Try.prog 54 #[.int .i64 a, .int .i64 b] w fun e w' => e = .returned (.int .i64 ((a * b) % 1073741789)) ∧ w = w' := by
  have H := Lib.hid (show (a % 1073741789) * (b % 1073741789) % 1073741789 = (a * b) % 1073741789 from (Int.mul_emod a b _).symm)
  have h1 : 0 ≤ a % 1073741789 ∧ a % 1073741789 < 1073741789 := by omega
  have h2 : 0 ≤ b % 1073741789 ∧ b % 1073741789 < 1073741789 := by omega
  have h3 : 0 ≤ a % 1073741789 * (b % 1073741789) := Int.mul_nonneg h1.1 h2.1
  have h4 : a % 1073741789 * (b % 1073741789) ≤ 1073741789 * 1073741789 := Int.mul_le_mul (by omega) (by omega) h2.1 (by omega)
  go_enter Try.func54, Try.ntmps54
  go_wp2_with fail
  refine (rmod_any _ _ ha).mono ?_; rintro e w' ⟨rfl, rfl⟩
  go_wp2_with fail
  refine (rmod_any _ _ hb).mono ?_; rintro e w' ⟨rfl, rfl⟩
  go_wp2_with fail
  go_ret
  exact ⟨ret_int H.out, rfl⟩

set_option maxHeartbeats 1000000 in
theorem rpower_any (a : Int) (n : Nat) (w : World) (ha : R64 a) (hn : n ≤ 1073741789) :
    Calls Try.prog 55 #[.int .i64 a, .int .i64 n] w fun e w' => e = .returned (.int .i64 (powQ a n)) ∧ w = w' := by
  go_enter Try.func55, Try.ntmps55
  go_wp2
  go_loop [5, 1, 0] (fun x l s => ∃ (x' s' : Int) (k : Nat), x = .int .i64 x' ∧ l = .int .i64 k ∧ s = .int .i64 s' ∧ k ≤ 1073741789 ∧ (0 ≤ x' ∧ x' < 1073741789) ∧ R64 s' ∧ Hid ((x' * s' ^ k) % 1073741789 = powQ a n)) (fun _ l _ => (intOf l).toNat)
  case atStart => exact ⟨1, a, n, rfl, rfl, rfl, by omega, by omega, ha, Lib.hid (by simp only [Int.one_mul, powQ])⟩
  case round =>
    obtain ⟨x', s', k, rfl, rfl, rfl, hk, hx, hs, HP⟩ := hrel
    have hss := mod_r64 (s' * s')
    have hxs := mod_num (x' * s')
    by_cases h0 : k = 0
    · subst h0
      go_wp2
      go_ret
      exact ⟨ret_int (by rw [← HP.out, Int.pow_zero, Int.mul_one, Int.emod_eq_of_lt hx.1 hx.2]), rfl⟩
    · have hk0 : 0 < k := by omega
      rcases Nat.mod_two_eq_zero_or_one k with h2 | h2
      · have hk2 : ((k : Int) % 2 == 1) = false := by rw [beq_eq_false_iff_ne]; omega
        go_wp2_with fail
        refine (rmul_any _ _ _ hs hs).mono ?_; rintro e w' ⟨rfl, rfl⟩
        go_wp2
        go_round
        case rel => exact ⟨x', (s' * s') % 1073741789, k / 2, rfl, by go_num, rfl, by omega, hx, hss, Lib.hid (by rw [pow_even x' s' k h2]; exact HP.out)⟩
        case measure => simp [intOf]; omega
      · have hk2 : ((k : Int) % 2 == 1) = true := by rw [beq_iff_eq]; omega
        go_wp2_with fail
        refine (rmul_any _ _ _ (num_r64 hx) hs).mono ?_; rintro e w' ⟨rfl, rfl⟩
        go_wp2_with fail
        refine (rmul_any _ _ _ hs hs).mono ?_; rintro e w' ⟨rfl, rfl⟩
        go_wp2
        go_round
        case rel => exact ⟨(x' * s') % 1073741789, (s' * s') % 1073741789, k / 2, rfl, by go_num, rfl, by omega, hxs, hss, Lib.hid (by rw [pow_odd x' s' k h2]; exact HP.out)⟩
        case measure => simp [intOf]; omega

set_option maxHeartbeats 400000 in
theorem rinverse_zero (n : Int) (w : World) (hn : R64 n) (h : n % 1073741789 = 0) :
    Calls Try.prog 42 #[.int .i64 n] w fun e w' => e = .returned (.tuple #[.int .i64 0, .int .i64 90]) ∧ w = w' := by
  have H := Lib.hid h
  clear h
  go_enter Try.func42, Try.ntmps42
  go_wp2_with fail
  refine (rmod_any _ _ hn).mono ?_; rintro e w' ⟨rfl, rfl⟩
  rw [H.out]
  go_wp2
  go_ret2
  exact ⟨rfl, rfl⟩

set_option maxHeartbeats 400000 in
theorem rinverse_any (n : Int) (w : World) (hn : R64 n) (h : n % 1073741789 ≠ 0) :
    Calls Try.prog 42 #[.int .i64 n] w fun e w' => e = .returned (.tuple #[.int .i64 (invQ n), .int .i64 0]) ∧ w = w' := by
  have H := Lib.hid (show (n % 1073741789 == 0) = false by simpa using h)
  clear h
  go_enter Try.func42, Try.ntmps42
  go_wp2_with fail
  refine (rmod_any _ _ hn).mono ?_; rintro e w' ⟨rfl, rfl⟩
  have H2 := H.out
  go_wp2_with fail
  clear H2
  refine (rpower_any n 1073741787 _ hn (by omega)).mono ?_; rintro e w' ⟨rfl, rfl⟩
  go_wp2
  go_ret2
  exact ⟨rfl, rfl⟩

end Go.Proofs.Ytjjdgphjkoppgaa
