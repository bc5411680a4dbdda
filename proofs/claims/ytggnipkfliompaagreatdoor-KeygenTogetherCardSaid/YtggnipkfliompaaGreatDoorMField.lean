/- Package field, and its reference: what each function computes. Package linear: tables, and clear. -/
import Derived.Test.YtggnipkfliompaaGreatDoorMBase
import Derived.Test.YtggnipkfliompaaGreatDoorMCalm
set_option maxHeartbeats 4000000
set_option maxRecDepth 100000
namespace Go.Proofs.YtggnipkfliompaaGreatDoor
open Go.RowKit
theorem tmod_neg (n : Int) (h : n < 0) : n.tmod 1073741789 = -((-n) % 1073741789) := by
 have h1 : n.tmod 1073741789 = (-(-n)).tmod 1073741789 := by rw [Int.neg_neg]
 rw [h1, Int.neg_tmod, Int.tmod_eq_emod_of_nonneg (by omega)]
theorem tmod_emod (n : Int) : (if n.tmod 1073741789 < 0 then n.tmod 1073741789 + 1073741789 else n.tmod 1073741789) = n % 1073741789 := by
 by_cases h0 : 0 ≤ n
 ·rw [Int.tmod_eq_emod_of_nonneg h0, if_neg (by omega)]
 ·rw [tmod_neg n (by omega)]; split <;> omega
theorem tmod_lo (n : Int) : -1073741789 < n.tmod 1073741789 := by
 by_cases h0 : 0 ≤ n
 ·rw [Int.tmod_eq_emod_of_nonneg h0]; omega
 ·rw [tmod_neg n (by omega)]; omega
theorem tmod_hi (n : Int) : n.tmod 1073741789 < 1073741789 := by
 have h := tmod_emod n
 generalize n.tmod 1073741789 = t at *
 by_cases hn : t < 0
 ·omega
 ·rw [if_neg hn] at h; omega
theorem mod_any (n : Int) (w : World) (hn : R64 n) :
  Calls Tryz.prog 47 #[.int .i64 n] w fun e w' => e = .returned (.int .i64 (n % 1073741789)) ∧ w = w' := by
 obtain ⟨h1, h2⟩ := hn
 have hm := Lib.hid (tmod_emod n)
 have hl := tmod_lo n
 have hh := tmod_hi n
 by_cases hn : n.tmod 1073741789 < 0
 ·go_enter Tryz.func47, Tryz.ntmps47
  go_wp2
  go_ret
  exact ⟨ret_int (by rw [← hm.out, if_pos hn]), rfl⟩
 ·go_enter Tryz.func47, Tryz.ntmps47
  go_wp2
  go_ret
  exact ⟨ret_int (by rw [← hm.out, if_neg (Int.not_lt.2 hn)]), rfl⟩
def sumQ (zs : List Int) : Int := zs.foldl (fun x n => (x + n % 1073741789) % 1073741789) 0
theorem sumQ_snoc (zs : List Int) (z : Int) : sumQ (zs ++ [z]) = (sumQ zs + z % 1073741789) % 1073741789 := by simp [sumQ]
theorem sumQ_num (zs : List Int) : 0 ≤ sumQ zs ∧ sumQ zs < 1073741789 := by
 rcases List.eq_nil_or_concat zs with rfl | ⟨l, z, rfl⟩
 ·simp [sumQ]
 ·rw [List.concat_eq_append, sumQ_snoc]; omega
theorem lsum_any (v : Value) (zs : List Int) (w : World) (hI : Ints w v zs) :
  Calls Tryz.prog 115 #[v] w fun e w' => e = .returned (.int .i64 (sumQ zs)) ∧ w = w' := by
 obtain ⟨a, cap, rfl, hcap, hlen, hr, hk⟩ := hI
 go_enter Tryz.func115, Tryz.ntmps115
 go_wp2
 go_loop [3, 8] (fun x i => ∃ k : Nat, k ≤ zs.length ∧ i = .int .i64 k ∧ x = .int .i64 (sumQ (zs.take k))) (fun _ i => zs.length - (intOf i).toNat)
 case atStart => exact ⟨0, Nat.zero_le _, rfl, rfl⟩
 case round =>
  obtain ⟨k, hkl, rfl, rfl⟩ := hrel
  have hs := sumQ_num (zs.take k)
  by_cases hlt : k < zs.length
  ·obtain ⟨b, off, rfl, hc⟩ := hk k hlt
   have hz := hr _ (List.getElem_mem hlt)
   have HS := Lib.hid (show sumQ (zs.take (k + 1)) = (sumQ (zs.take k) + zs[k] % 1073741789) % 1073741789 by
    rw [List.take_succ_eq_append_getElem hlt, sumQ_snoc])
   clear hk hr
   go_wp2_with (go_at_call 47; refine (mod_any _ _ hz).mono ?_; rintro e w' ⟨rfl, rfl⟩)
   go_round
   case rel => exact ⟨k + 1, by omega, by go_num, by rw [HS.out]⟩
   case measure => simp [intOf]; omega
  ·go_wp2
   go_ret
   exact ⟨ret_int (by rw [List.take_of_length_le (by omega)]), rfl⟩
theorem Ints.two (w : World) (a b : Int) (t : TypeId) (ha : R64 a) (hb : R64 b) : Ints (w.alloc (.cells #[.int .i64 a, .int .i64 b] t)) (.slice (some ⟨w.heap.size, 0, none⟩) 2 2) [a, b] := by
 refine ⟨_, 2, rfl, by simp, by simp, by simp [ha, hb], fun k hk => ⟨_, _, rfl, ?_⟩⟩
 rw [World.cell?_alloc_at _ _ _ _ rfl]
 have : k = 0 ∨ k = 1 := by simp at hk; omega
 rcases this with rfl | rfl <;> rfl
theorem add_any (a b : Int) (w : World) (ha : R64 a) (hb : R64 b) :
  Calls Tryz.prog 44 #[.int .i64 a, .int .i64 b] w fun e w' => e = .returned (.int .i64 ((a + b) % 1073741789)) ∧ Below w.heap.size w w' := by
 have H := Lib.hid (show sumQ [a, b] = (a + b) % 1073741789 by simp [sumQ])
 go_enter Tryz.func44, Tryz.ntmps44
 go_wp2_with (go_at_call 115; refine (lsum_any _ _ _ (Ints.two w a b _ ha hb)).mono ?_; rintro e w' ⟨rfl, rfl⟩)
 go_ret
 exact ⟨ret_int H.out, (Below.refl _ _).alloc (Nat.le_refl _) _⟩
theorem mul_any (a b : Int) (w : World) (ha : R64 a) (hb : R64 b) :
  Calls Tryz.prog 45 #[.int .i64 a, .int .i64 b] w fun e w' => e = .returned (.int .i64 ((a * b) % 1073741789)) ∧ w = w' := by
 have H := Lib.hid (show (a % 1073741789) * (b % 1073741789) % 1073741789 = (a * b) % 1073741789 from (Int.mul_emod a b _).symm)
 have h1 : 0 ≤ a % 1073741789 ∧ a % 1073741789 < 1073741789 := by omega
 have h2 : 0 ≤ b % 1073741789 ∧ b % 1073741789 < 1073741789 := by omega
 have h3 : 0 ≤ a % 1073741789 * (b % 1073741789) := Int.mul_nonneg h1.1 h2.1
 have h4 : a % 1073741789 * (b % 1073741789) ≤ 1073741789 * 1073741789 := Int.mul_le_mul (by omega) (by omega) h2.1 (by omega)
 go_enter Tryz.func45, Tryz.ntmps45
 go_wp2_with fail
 refine (mod_any _ _ ha).mono ?_; rintro e w' ⟨rfl, rfl⟩
 go_wp2_with fail
 refine (mod_any _ _ hb).mono ?_; rintro e w' ⟨rfl, rfl⟩
 go_wp2_with fail
 go_ret
 exact ⟨ret_int H.out, rfl⟩
def powQ (a : Int) (n : Nat) : Int := a ^ n % 1073741789
def invQ (n : Int) : Int := powQ n 1073741787
theorem mulmod_l (a b : Int) : (a % 1073741789 * b) % 1073741789 = (a * b) % 1073741789 := by rw [Int.mul_emod, Int.emod_emod, ← Int.mul_emod]
theorem mulmod_r (a b : Int) : (a * (b % 1073741789)) % 1073741789 = (a * b) % 1073741789 := by rw [Int.mul_emod, Int.emod_emod, ← Int.mul_emod]
theorem powmod (a : Int) (n : Nat) : (a % 1073741789) ^ n % 1073741789 = a ^ n % 1073741789 := by
 induction n with
 | zero => rw [Int.pow_zero, Int.pow_zero]
 | succ n ih => rw [Int.pow_succ, Int.pow_succ, mulmod_r, Int.mul_emod, ih, ← Int.mul_emod]
theorem pow_half (s : Int) (left : Nat) : s ^ left = (s * s) ^ (left / 2) * s ^ (left % 2) := by
 have : s * s = s ^ 2 := by rw [Int.pow_succ, Int.pow_succ, Int.pow_zero, Int.one_mul]
 rw [this, ← Int.pow_mul, ← Int.pow_add]; congr 1; omega
theorem pow_odd (x s : Int) (left : Nat) (h : left % 2 = 1) : ((x * s) % 1073741789 * ((s * s) % 1073741789) ^ (left / 2)) % 1073741789 = (x * s ^ left) % 1073741789 := by
 rw [mulmod_l, Int.mul_emod, powmod, ← Int.mul_emod, pow_half s left, h, Int.pow_succ, Int.pow_zero, Int.one_mul, Int.mul_assoc, Int.mul_comm s]
theorem pow_even (x s : Int) (left : Nat) (h : left % 2 = 0) : (x * ((s * s) % 1073741789) ^ (left / 2)) % 1073741789 = (x * s ^ left) % 1073741789 := by
 rw [Int.mul_emod, powmod, ← Int.mul_emod, pow_half s left, h, Int.pow_zero, Int.mul_one]
theorem mod_num (a : Int) : 0 ≤ a % 1073741789 ∧ a % 1073741789 < 1073741789 := by omega
theorem mod_r64 (a : Int) : R64 (a % 1073741789) := by unfold R64; omega
theorem num_r64 {x : Int} (h : 0 ≤ x ∧ x < 1073741789) : R64 x := by unfold R64; omega
theorem inverse_any (n : Int) (w : World) (hn : R64 n) (h : n % 1073741789 ≠ 0) :
  Calls Tryz.prog 211 #[.int .i64 n] w fun e w' => e = .returned (.tuple #[.int .i64 (invQ n), .int .i64 0]) ∧ w = w' := by
 have H := Lib.hid (show (n % 1073741789 == 0) = false by simpa using h)
 clear h
 go_enter Tryz.func211, Tryz.ntmps211
 go_wp2_with fail
 go_step3
 go_wp2_with fail
 refine (mod_any _ _ hn).mono ?_; rintro e w' ⟨rfl, rfl⟩
 have H2 := H.out
 go_wp2
 go_step3
 go_wp2
 clear H2
 go_loop [2, 4, 5] (fun x l s => ∃ (x' s' : Int) (k : Nat), x = .int .i64 x' ∧ l = .int .i64 k ∧ s = .int .i64 s' ∧ k ≤ 1073741787 ∧ (0 ≤ x' ∧ x' < 1073741789) ∧ R64 s' ∧ Hid ((x' * s' ^ k) % 1073741789 = invQ n)) (fun _ l _ => (intOf l).toNat)
 case atStart => exact ⟨1, n, 1073741787, rfl, rfl, rfl, by omega, by omega, hn, Lib.hid (by simp only [Int.one_mul, invQ, powQ])⟩
 case round =>
  obtain ⟨x', s', k, rfl, rfl, rfl, hk, hx, hs, HP⟩ := hrel
  have hss := mod_r64 (s' * s')
  have hxs := mod_num (x' * s')
  by_cases h0 : k = 0
  ·subst h0
   go_wp2
   try rw [Exit.noGoto_ret]
   go_ret2
   refine ⟨?_, rfl⟩
   show Ending.returned (.tuple #[.int .i64 x', .int .i64 0]) = _
   rw [← HP.out, Int.pow_zero, Int.mul_one, Int.emod_eq_of_lt hx.1 hx.2]
  ·have hk0 : ((k : Int) == 0) = false := by simpa using h0
   rcases Nat.mod_two_eq_zero_or_one k with h2 | h2
   ·have hk2 : ((k : Int) % 2 == 1) = false := by rw [beq_eq_false_iff_ne]; omega
    go_wp2_with fail
    refine (mul_any _ _ _ hs hs).mono ?_; rintro e w' ⟨rfl, rfl⟩
    go_wp2
    go_round
    case rel => exact ⟨x', (s' * s') % 1073741789, k / 2, rfl, by go_num, rfl, by omega, hx, hss, Lib.hid (by rw [pow_even x' s' k h2]; exact HP.out)⟩
    case measure => simp [intOf]; omega
   ·have hk2 : ((k : Int) % 2 == 1) = true := by rw [beq_iff_eq]; omega
    go_wp2_with fail
    refine (mul_any _ _ _ (num_r64 hx) hs).mono ?_; rintro e w' ⟨rfl, rfl⟩
    go_wp2_with fail
    refine (mul_any _ _ _ hs hs).mono ?_; rintro e w' ⟨rfl, rfl⟩
    go_wp2
    go_round
    case rel => exact ⟨(x' * s') % 1073741789, (s' * s') % 1073741789, k / 2, rfl, by go_num, rfl, by omega, hxs, hss, Lib.hid (by rw [pow_odd x' s' k h2]; exact HP.out)⟩
    case measure => simp [intOf]; omega
end Go.Proofs.YtggnipkfliompaaGreatDoor
namespace Go.Proofs.YtggnipkfliompaaGreatDoor
open Go.RowKit
attribute [local go_sem] Oper.semAt_some
structure Tab (B tb : Nat) (rb : Nat → Nat) (n m : Nat) (x : Nat → Nat → Int) (W : World) : Prop where
 tbB : B ≤ tb
 rbB : ∀ i, i < n → B ≤ rb i
 ne : ∀ i, i < n → rb i ≠ tb
 inj : ∀ i j, i < n → j < n → rb i = rb j → i = j
 row : ∀ i, i < n → ∃ rc, W.cell? ⟨tb, i, none⟩ = some (.slice (some ⟨rb i, 0, none⟩) m rc)
 rowF : ∀ i, i < n → W.frozen? ⟨tb, i, none⟩ = false
 elem : ∀ i k, i < n → k < m → W.cell? ⟨rb i, k, none⟩ = some (.int .i64 (x i k))
 elemF : ∀ i k, i < n → k < m → W.frozen? ⟨rb i, k, none⟩ = false
 num : ∀ i k, i < n → k < m → 0 ≤ x i k ∧ x i k < 1073741789
theorem tab_sim {B tb : Nat} {rb : Nat → Nat} {n m : Nat} {x : Nat → Nat → Int} {W W' : World} {D : Nat} (h : Tab B tb rb n m x W) (hs : Sim D W W') : Tab B tb rb n m x W' where
 tbB := h.tbB
 rbB := h.rbB
 ne := h.ne
 inj := h.inj
 row := fun i hi => let ⟨rc, hc⟩ := h.row i hi; ⟨rc, sim_cell hs hc⟩
 rowF := fun i hi => by obtain ⟨rc, hc⟩ := h.row i hi; rw [sim_frozen hs hc]; exact h.rowF i hi
 elem := fun i k hi hk => sim_cell hs (h.elem i k hi hk)
 elemF := fun i k hi hk => by rw [sim_frozen hs (h.elem i k hi hk)]; exact h.elemF i k hi hk
 num := h.num
theorem tab_below {B tb : Nat} {rb : Nat → Nat} {n m : Nat} {x : Nat → Nat → Int} {W W' : World} (h : Tab B tb rb n m x W) (hs : Below W.heap.size W W') : Tab B tb rb n m x W' where
 tbB := h.tbB
 rbB := h.rbB
 ne := h.ne
 inj := h.inj
 row := fun i hi => let ⟨rc, hc⟩ := h.row i hi; ⟨rc, below_cell hs hc⟩
 rowF := fun i hi => by obtain ⟨rc, hc⟩ := h.row i hi; rw [hs.frozen (p := ⟨tb, i, none⟩) (lt_of_cell hc)]; exact h.rowF i hi
 elem := fun i k hi hk => below_cell hs (h.elem i k hi hk)
 elemF := fun i k hi hk => by rw [hs.frozen (p := ⟨rb i, k, none⟩) (lt_of_cell (h.elem i k hi hk))]; exact h.elemF i k hi hk
 num := h.num
theorem set_other {W : World} {b o b' o' : Nat} {u : Value} (h : b ≠ b' ∨ o ≠ o') : (W.setCell ⟨b, o, none⟩ u).cell? ⟨b', o', none⟩ = W.cell? ⟨b', o', none⟩ := by
 have hne : (⟨b, o, none⟩ : Addr) ≠ ⟨b', o', none⟩ := by
  intro e
  have e1 : b = b' := congrArg Addr.block e
  have e2 : o = o' := congrArg Addr.off e
  rcases h with h | h
  ·exact h e1
  ·exact h e2
 simp [World.cell?_setCell_other, hne]
theorem tab_store {B tb : Nat} {rb : Nat → Nat} {n m : Nat} {x y : Nat → Nat → Int} {W : World} (h : Tab B tb rb n m x W) {i k : Nat} (hi : i < n) (hk : k < m) {u : Int} (hu : 0 ≤ u ∧ u < 1073741789)
  (hy : ∀ i' k', i' < n → k' < m → y i' k' = if i' = i ∧ k' = k then u else x i' k') : Tab B tb rb n m y (W.setCell ⟨rb i, k, none⟩ (.int .i64 u)) where
 tbB := h.tbB
 rbB := h.rbB
 ne := h.ne
 inj := h.inj
 row := fun i' hi' => by
  obtain ⟨rc, hc⟩ := h.row i' hi'
  refine ⟨rc, ?_⟩
  rw [set_other (.inl (fun e => h.ne i hi e))]; exact hc
 rowF := fun i' hi' => by rw [World.frozen?_setCell]; exact h.rowF i' hi'
 elem := fun i' k' hi' hk' => by
  rw [hy i' k' hi' hk']
  by_cases e : i' = i ∧ k' = k
  ·obtain ⟨rfl, rfl⟩ := e
   rw [if_pos ⟨rfl, rfl⟩]
   exact World.cell?_setCell_same' _ _ _ (by rw [h.elem i' k' hi' hk']; rfl)
  ·rw [if_neg e]
   by_cases e1 : i' = i
   ·subst e1
    rw [set_other (.inr (fun e2 => e ⟨rfl, e2.symm⟩))]; exact h.elem i' k' hi' hk'
   ·rw [set_other (.inl (fun e2 => e1 (h.inj i' i hi' hi e2.symm)))]; exact h.elem i' k' hi' hk'
 elemF := fun i' k' hi' hk' => by rw [World.frozen?_setCell]; exact h.elemF i' k' hi' hk'
 num := fun i' k' hi' hk' => by
  rw [hy i' k' hi' hk']
  split
  ·exact hu
  ·exact h.num i' k' hi' hk'
def clearJ (x : Nat → Nat → Int) (i b c j : Nat) : Nat → Nat → Int := fun i' k => if i' = i ∧ c ≤ k ∧ k < c + j then (x i k + -(x i c * x b k % 1073741789)) % 1073741789 else x i' k
def clearM (x : Nat → Nat → Int) (i b c : Nat) : Nat → Nat → Int := fun i' k => if i' = i ∧ c ≤ k then (x i k + -(x i c * x b k % 1073741789)) % 1073741789 else x i' k
theorem others_of_below {W W1 : World} (h : Below W.heap.size W W1) : KeepsOthers W W1 := ⟨h.size, fun k _ hk _ => (h.block k (Array.getElem?_eq_some_iff.1 hk).1).trans hk⟩
theorem grown_below {w W W1 : World} {r : Option Nat} (h : w.grownBy W r) (hb : Below W.heap.size W W1) : w.grownBy W1 r :=
 ⟨hb.os.trans h.os, hb.tape.trans h.tape, hb.output.trans h.output, Nat.le_trans h.size hb.size, fun k hk hr => (hb.block k (Nat.lt_of_lt_of_le hk h.size)).trans (h.block k hk hr)⟩
theorem grown_set {w W : World} {r o : Nat} (h : w.grownBy W (some r)) (u : Value) : w.grownBy (W.setCell ⟨r, o, none⟩ u) (some r) :=
 ⟨h.os, h.tape, h.output, by simp [World.setCell]; exact h.size, fun k hk hr => (Below.heap_setCell _ _ _ _ (fun e => hr (by rw [e]))).trans (h.block k hk hr)⟩
theorem tab_congr {B tb : Nat} {rb : Nat → Nat} {n m : Nat} {x y : Nat → Nat → Int} {W : World} (h : Tab B tb rb n m x W) (e : ∀ i k, i < n → k < m → x i k = y i k) : Tab B tb rb n m y W where
 tbB := h.tbB
 rbB := h.rbB
 ne := h.ne
 inj := h.inj
 row := h.row
 rowF := h.rowF
 elem := fun i k hi hk => by rw [← e i k hi hk]; exact h.elem i k hi hk
 elemF := h.elemF
 num := fun i k hi hk => by rw [← e i k hi hk]; exact h.num i k hi hk
theorem below_two (w : World) (o o' : Obj) : Below w.heap.size w ((w.alloc o).alloc o') := ((Below.refl _ _).alloc (Nat.le_refl _) o).alloc (by simp) o'
theorem below_three (w : World) (o o' o'' : Obj) : Below w.heap.size w (((w.alloc o).alloc o').alloc o'') := (below_two w o o').alloc (by simp; omega) o''
theorem box5 (w : World) (a b c d e : Value) (ta tb tc td te : TypeId) : ∃ W, W = (((((w.alloc (.cells #[a] ta)).alloc (.cells #[b] tb)).alloc (.cells #[c] tc)).alloc (.cells #[d] td)).alloc (.cells #[e] te)) ∧
  Below w.heap.size w W ∧ W.heap.size = w.heap.size + 1 + 1 + 1 + 1 + 1 ∧ W.cell? ⟨w.heap.size, 0, none⟩ = some a ∧ W.cell? ⟨w.heap.size + 1, 0, none⟩ = some b ∧ W.cell? ⟨w.heap.size + 1 + 1, 0, none⟩ = some c ∧
  W.cell? ⟨w.heap.size + 1 + 1 + 1, 0, none⟩ = some d ∧ W.cell? ⟨w.heap.size + 1 + 1 + 1 + 1, 0, none⟩ = some e := by
 refine ⟨_, rfl, ((below_three w _ _ _).alloc (by simp; omega) _).alloc (by simp; omega) _, by simp, ?_, ?_, ?_, ?_, ?_⟩
 ·simp [go_sem]
 ·simp [go_sem]
 ·simp [go_sem]
 ·simp [go_sem]
 ·simp [go_sem]
structure ClearI (B tb : Nat) (rb : Nat → Nat) (n m : Nat) (x : Nat → Nat → Int) (w : World) (tv rv : Value) (i b c : Nat) (j : Nat) (W : World) : Prop where
 tab : Tab B tb rb n m (clearJ x i b c j) W
 but : w.grownBy W (some (rb i))
 c1 : W.cell? ⟨w.heap.size, 0, none⟩ = some tv
 c2 : W.cell? ⟨w.heap.size + 1, 0, none⟩ = some (.int .i64 i)
 c3 : W.cell? ⟨w.heap.size + 1 + 1, 0, none⟩ = some (.int .i64 (x i c))
 c4 : W.cell? ⟨w.heap.size + 1 + 1 + 1, 0, none⟩ = some rv
 c5 : W.cell? ⟨w.heap.size + 1 + 1 + 1 + 1, 0, none⟩ = some (.int .i64 c)
theorem grown_sim {w W W' : World} {r : Option Nat} {D : Nat} (h : w.grownBy W r) (hs : Sim D W W') (hD : w.heap.size ≤ D) : w.grownBy W' r :=
 ⟨hs.os.trans h.os, hs.tape.trans h.tape, hs.output.trans h.output, Nat.le_trans h.size hs.size, fun k hk hr => (hs.low k (by omega)).trans (h.block k hk hr)⟩
theorem clearI_sim {B tb : Nat} {rb : Nat → Nat} {n m : Nat} {x : Nat → Nat → Int} {w : World} {tv rv : Value} {i b c j D : Nat} {W W' : World} (h : ClearI B tb rb n m x w tv rv i b c j W) (hs : Sim D W W') (hD : w.heap.size ≤ D) : ClearI B tb rb n m x w tv rv i b c j W' :=
 ⟨tab_sim h.tab hs, grown_sim h.but hs hD, sim_cell hs h.c1, sim_cell hs h.c2, sim_cell hs h.c3, sim_cell hs h.c4, sim_cell hs h.c5⟩
theorem clearJ_by (x : Nat → Nat → Int) (i b c j k : Nat) (h : i ≠ b) : clearJ x i b c j b k = x b k := by
 unfold clearJ; rw [if_neg (by rintro ⟨e, _⟩; exact h e.symm)]
theorem clearJ_at (x : Nat → Nat → Int) (i b c j : Nat) : clearJ x i b c j i (c + j) = x i (c + j) := by
 unfold clearJ; rw [if_neg (by omega)]
theorem clearJ_succ (x : Nat → Nat → Int) (i b c j i' k : Nat) : clearJ x i b c (j + 1) i' k = if i' = i ∧ k = c + j then (x i (c + j) + -(x i c * x b (c + j) % 1073741789)) % 1073741789 else clearJ x i b c j i' k := by
 unfold clearJ
 by_cases e : i' = i ∧ k = c + j
 ·obtain ⟨rfl, rfl⟩ := e
  rw [if_pos ⟨rfl, by omega, by omega⟩, if_pos ⟨rfl, rfl⟩]
 ·rw [if_neg e]
  by_cases e2 : i' = i ∧ c ≤ k ∧ k < c + j
  ·rw [if_pos e2, if_pos ⟨e2.1, e2.2.1, by omega⟩]
  ·rw [if_neg e2, if_neg]
   rintro ⟨h1, h2, h3⟩
   apply e2
   refine ⟨h1, h2, ?_⟩
   by_cases h4 : k = c + j
   ·exact absurd ⟨h1, h4⟩ e
   ·omega
theorem clear_any (B tb : Nat) (rb : Nat → Nat) (n m : Nat) (x : Nat → Nat → Int) (w : World) (hT : Tab B tb rb n m x w) (tcap i b c : Nat) (hi : i < n) (hb : b < n) (hne : i ≠ b) (hc : c < m) (_hn : n ≤ 1000000) (hm : m ≤ 1000000) :
  Calls Tryz.prog 213 #[.slice (some ⟨tb, 0, none⟩) n tcap, .int .i64 i, .int .i64 b, .int .i64 c] w fun e w' =>
   e = .returned (.tuple #[]) ∧ w.grownBy w' (some (rb i)) ∧ Tab B tb rb n m (clearM x i b c) w' := by
 obtain ⟨rci, hri⟩ := hT.row i hi
 obtain ⟨rcb, hrb⟩ := hT.row b hb
 have hxi := hT.elem i c hi hc
 have b2 := below_two w (.cells #[.slice (some ⟨tb, 0, none⟩) n tcap] 187) (.cells #[.int .i64 i] 3)
 have hri2 := below_cell b2 hri
 have hrb2 := below_cell b2 hrb
 have hxi2 := below_cell b2 hxi
 have hlt := lt_of_cell hxi
 by_cases h0 : x i c = 0
 ·have hfin : Tab B tb rb n m (clearM x i b c) w := by
   refine tab_congr hT (fun i' k hi' hk => ?_)
   unfold clearM
   by_cases e : i' = i ∧ c ≤ k
   ·have := hT.num i' k hi' hk
    rw [if_pos e, h0, Int.zero_mul, e.1]; rw [e.1] at this; omega
   ·rw [if_neg e]
  rw [h0] at hxi2
  clear h0
  refine calls_of_range Tryz.func213 rfl ?_
  simp only [Tryz.ntmps213, List.size_toArray, List.length_cons, List.length_nil, Nat.reduceAdd, Nat.reduceSub, Array.replicate_succ, Array.replicate_zero, List.push_toArray, List.append_toArray, List.nil_append, List.cons_append]
  go_wp2_with fail
  refine leaves_marks (B := w.heap.size) (v := .tuple #[]) (results_none rfl _ _) ?_ [] _ trivial ⟨rfl, ?_, tab_below hfin (below_three w _ _ _)⟩
  ·rintro w1 w2 ⟨h1, h2, h3⟩ hs
   exact ⟨h1, grown_sim h2 hs (Nat.le_refl _), tab_sim h3 hs⟩
  ·have hb5 := below_three w (.cells #[.slice (some ⟨tb, 0, none⟩) n tcap] 187) (.cells #[.int .i64 i] 3) (.cells #[.int .i64 0] 3)
   exact ⟨hb5.os, hb5.tape, hb5.output, hb5.size, fun k hk _ => hb5.block k hk⟩
 ·have hz : (x i c == 0) = false := by simpa using h0
  refine calls_of_range Tryz.func213 rfl ?_
  simp only [Tryz.ntmps213, List.size_toArray, List.length_cons, List.length_nil, Nat.reduceAdd, Nat.reduceSub, Array.replicate_succ, Array.replicate_zero, List.push_toArray, List.append_toArray, List.nil_append, List.cons_append]
  have hrb3 := below_cell (below_three w (.cells #[.slice (some ⟨tb, 0, none⟩) n tcap] 187) (.cells #[.int .i64 i] 3) (.cells #[.int .i64 (x i c)] 3)) hrb
  go_wp2_with fail
  with_reducible refine (after_any _ _ _ ⟨_, _, _, rfl⟩).mono ?_
  rintro e w5 ⟨rfl, hw5⟩
  obtain ⟨W, hW, hb5, hs5, q1, q2, q3, q4, q5⟩ := box5 w (.slice (some ⟨tb, 0, none⟩) n tcap) (.int .i64 i) (.int .i64 (x i c)) (.slice (some ⟨rb b, 0, none⟩) m rcb) (.int .i64 c) 187 3 3 23 3
  obtain rfl : w5 = W := hw5.trans hW.symm
  clear hw5 hW
  have hT5 : Tab B tb rb n m (clearJ x i b c 0) w5 := by
   have : clearJ x i b c 0 = x := by funext i' k; unfold clearJ; rw [if_neg (by omega)]
   rw [this]; exact tab_below hT hb5
  have hg5 : w.grownBy w5 (some (rb i)) := ⟨hb5.os, hb5.tape, hb5.output, hb5.size, fun k hk _ => hb5.block k hk⟩
  go_wp2_with fail
  refine wp_range2 (gf := 229) (lb := #[.pointer (some ⟨w.heap.size + 1 + 1 + 1 + 1, 0, none⟩), .pointer (some ⟨w.heap.size + 1 + 1 + 1, 0, none⟩)]) (N := m - c) (encs := fun j => #[.int .i64 ((c : Int) + (j : Int)), .int .i64 (x b (c + j))]) rfl (goes_of Tryz.func229 (by kernel_rfl) rfl) (fun _ => rfl)
   (ClearI B tb rb n m x w (.slice (some ⟨tb, 0, none⟩) n tcap) (.slice (some ⟨rb b, 0, none⟩) m rcb) i b c) (fun _ _ _ => False) ?seq ?simI (fun _ _ _ _ h _ => h) ⟨hT5, hg5, q1, q2, q3, q4, q5⟩
   (fun j t => (((t.setIfInBounds 26 (.int .i64 ((c : Int) + (j : Int)))).setIfInBounds 27 (.int .i64 (x b (c + j)))).setIfInBounds 9 (.int .i64 ((c : Int) + (j : Int)))).setIfInBounds 10 (.int .i64 (x b (c + j)))) ?assign ?body ?done (fun _ _ _ _ _ _ h => h.elim)
  case seq =>
   refine after1_iterates _ _ c m (some ⟨rb b, 0, none⟩) rcb (fun k => x b k) (by omega) (by omega) _ ?_
   intro j W hI
   refine ⟨hI.c5, hI.c4, fun hlt => ⟨_, rfl, ?_⟩⟩
   have := hI.tab.elem b (c + j) hb hlt
   rwa [clearJ_by x i b c j _ hne] at this
  case simI => exact fun j W W' h hs => clearI_sim h hs hb5.size
  case assign =>
   intro l j W K hK
   gi_wp2
   exact hK
  case body =>
   intro l j W hI hlt
   simp only [List.setIfInBounds_toArray, List.set_cons_succ, List.set_cons_zero]
   gi_wp2
   obtain ⟨rci, hri'⟩ := hI.tab.row i hi
   have hf : ∀ W1, Below W.heap.size W W1 → W1.cell? ⟨w.heap.size, 0, none⟩ = some (.slice (some ⟨tb, 0, none⟩) n tcap) ∧ W1.cell? ⟨w.heap.size + 1, 0, none⟩ = some (.int .i64 i) ∧
     W1.cell? ⟨w.heap.size + 1 + 1, 0, none⟩ = some (.int .i64 (x i c)) ∧ W1.cell? ⟨tb, i, none⟩ = some (.slice (some ⟨rb i, 0, none⟩) m rci) ∧ W1.cell? ⟨rb i, c + j, none⟩ = some (.int .i64 (x i (c + j))) := fun W1 h1 =>
    ⟨below_cell h1 hI.c1, below_cell h1 hI.c2, below_cell h1 hI.c3, below_cell h1 hri', below_cell h1 (by have := hI.tab.elem i (c + j) hi (by omega); rwa [clearJ_at] at this)⟩
   have hcj : c + j < m := by omega
   have i1 : 0 ≤ (c : Int) + (j : Int) := by omega
   have i2 : (c : Int) + (j : Int) < (m : Int) := by omega
   have i3 : ((c : Int) + (j : Int)).toNat = c + j := by omega
   refine wpIn_calm_store 18 (by kernel_rfl) (by kernel_rfl) rfl rfl rfl (fun W1 => Below W.heap.size W W1) (Below.refl _ _).drew (fun K hK => ?_)
   simp only [List.take_succ_cons, List.take_zero]
   have HK := Lib.hid hK
   clear hK
   iterate 14
    apply calm_step
    ·intro W1 hW1
     obtain ⟨f1, f2, f3, f4, f5⟩ := hf W1 hW1
     go_simp
     exact ⟨hW1, rfl⟩
    go_simp
   have hmn := mod_num (x i c * x b (c + j))
   have hw1 := IntWalk.i64_in (-(x i c * x b (c + j) % 1073741789)) (by omega)
   have r4 : R64 (-(x i c * x b (c + j) % 1073741789)) := R64.mk (by omega) (by omega)
   have r1 : R64 (x i c) := num_r64 (hT.num i c hi hc)
   have r2 : R64 (x b (c + j)) := num_r64 (hT.num b (c + j) hb hcj)
   have r3 : R64 (x i (c + j)) := num_r64 (hT.num i (c + j) hi hcj)
   apply calm_step
   ·intro W1 hW1
    go_simp
    refine (mul_any _ _ _ r1 r2).mono ?_
    rintro e w' ⟨rfl, rfl⟩
    exact ⟨rfl, hW1⟩
   go_simp
   apply calm_step
   ·intro W1 hW1
    go_simp
    exact ⟨hW1, rfl⟩
   go_simp
   apply calm_step
   ·intro W1 hW1
    go_simp
    refine (add_any _ _ _ r3 r4).mono ?_
    rintro e w' ⟨rfl, hb'⟩
    exact ⟨rfl, hW1.trans (hb'.mono hW1.size)⟩
   go_simp
   apply calm_step
   ·intro W1 hW1
    go_simp
    exact ⟨hW1, rfl⟩
   go_simp
   apply calm_end
   apply HK.out
   intro W1 hW1
   have hTW := tab_below hI.tab hW1
   have hsc := hTW.elem i (c + j) hi hcj
   have hsf := hTW.elemF i (c + j) hi hcj
   refine upon_store (w := W1.setCell ⟨rb i, c + j, none⟩ (.int .i64 ((x i (c + j) + -(x i c * x b (c + j) % 1073741789)) % 1073741789))) ?_ ?_
   ·go_simp
   ·refine ⟨(others_of_below hW1).trans (KeepsOthers.setCell _ _ _), ?_⟩
    exact ⟨tab_store hTW hi hcj (mod_num _) (fun i' k' _ _ => clearJ_succ x i b c j i' k'), grown_set (grown_below hI.but hW1) _,
     by rw [set_other (.inl (by omega))]; exact below_cell hW1 hI.c1, by rw [set_other (.inl (by omega))]; exact below_cell hW1 hI.c2, by rw [set_other (.inl (by omega))]; exact below_cell hW1 hI.c3,
     by rw [set_other (.inl (by omega))]; exact below_cell hW1 hI.c4, by rw [set_other (.inl (by omega))]; exact below_cell hW1 hI.c5⟩
  case done =>
   intro D W hD hI hDW hO
   refine leaves_marks (B := w.heap.size) (v := .tuple #[]) (results_none rfl _ _) ?_ _ W ⟨⟨D, rfl, Nat.le_trans hb5.size hD, hDW, fun _ h => by cases h⟩, trivial⟩ ⟨rfl, hI.but, ?_⟩
   ·rintro w1 w2 ⟨h1, h2, h3⟩ hs
    exact ⟨h1, grown_sim h2 hs (Nat.le_refl _), tab_sim h3 hs⟩
   ·refine tab_congr hI.tab (fun i' k _ hk => ?_)
    unfold clearJ clearM
    by_cases e : i' = i ∧ c ≤ k
    ·rw [if_pos e, if_pos ⟨e.1, e.2, by omega⟩]
    ·rw [if_neg e, if_neg (fun h => e ⟨h.1, h.2.1⟩)]
end Go.Proofs.YtggnipkfliompaaGreatDoor
