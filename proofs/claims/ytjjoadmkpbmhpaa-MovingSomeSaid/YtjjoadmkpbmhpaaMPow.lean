/- Package group: squares, least and Pow; and the reference's Pow and Mul. Package group: Pow of what is no element, Mul; and the reference's Pow and Mul. The generator of the group, and what a proof of equality commits to. Package dealing: Deal. -/
import Derived.Test.YtjjoadmkpbmhpaaMElt
import Derived.Test.YtjjoadmkpbmhpaaMDeaE
import Derived.Shelf.Abstract
import Derived.OwnWalkIn
import Derived.TacticsInMore
import Derived.LoopNIn
import Derived.LoopIn
namespace Go.Proofs.Ytjjoadmkpbmhpaa
open Go.RowKit FP

attribute [local go_sem] Oper.semAt_some

/-! The squares, and the bits. -/
def sqN (a : Int) : Nat → Int
  | 0 => a
  | j + 1 => sqN a j * sqN a j % 2147483579
def kN (n : Nat) : Nat → Nat
  | 0 => n
  | j + 1 => kN n j / 2
def cN (a : Int) (n : Nat) : Nat → Int
  | 0 => 1
  | j + 1 => if kN n j % 2 = 1 then cN a n j * sqN a j % 2147483579 else cN a n j
def blen (n : Nat) : Nat := if h : n = 0 then 0 else blen (n / 2) + 1
theorem kN_shift (n : Nat) : ∀ j, kN n (j + 1) = kN (n / 2) j
  | 0 => rfl
  | j + 1 => by rw [kN, kN_shift n j]; rfl
theorem kN_pos : ∀ (j n : Nat), j < blen n → 0 < kN n j
  | 0, n, h => by
    rw [blen] at h
    by_cases e : n = 0
    · rw [dif_pos e] at h; omega
    · show 0 < n; omega
  | j + 1, n, h => by
    rw [blen] at h
    by_cases e : n = 0
    · rw [dif_pos e] at h; omega
    · rw [dif_neg e] at h
      rw [kN_shift]; exact kN_pos j (n / 2) (by omega)
theorem kN_end (n : Nat) : kN n (blen n) = 0 := by
  induction n using Nat.strongRecOn with
  | ind n ih =>
    rw [blen]
    by_cases e : n = 0
    · rw [dif_pos e]; exact e
    · rw [dif_neg e, kN_shift]; exact ih (n / 2) (by omega)
theorem kN_le (n : Nat) : ∀ j, kN n j ≤ n
  | 0 => Nat.le_refl _
  | j + 1 => by have := kN_le n j; rw [kN]; omega
theorem sqN_num {a : Int} (ha : 0 ≤ a ∧ a < 2147483579) : ∀ j, 0 ≤ sqN a j ∧ sqN a j < 2147483579
  | 0 => ha
  | j + 1 => by rw [sqN]; omega
theorem cN_num {a : Int} {n : Nat} : ∀ j, 0 ≤ cN a n j ∧ cN a n j < 2147483579
  | 0 => by rw [cN]; omega
  | j + 1 => by
    rw [cN]
    split
    · omega
    · exact cN_num j
theorem cN_inv (a : Int) (n : Nat) : ∀ j, (cN a n j * sqN a j ^ kN n j) % 2147483579 = powP a n
  | 0 => by rw [cN, sqN, kN, Int.one_mul]; rfl
  | j + 1 => by
    rw [cN, sqN, kN, ← cN_inv a n j]
    rcases Nat.mod_two_eq_zero_or_one (kN n j) with h | h
    · rw [if_neg (by omega), mp_even _ _ _ h]
    · rw [if_pos h, mp_odd _ _ _ h]
theorem cN_end (a : Int) (n : Nat) : cN a n (blen n) = powP a n := by
  have h := cN_inv a n (blen n)
  have h2 := cN_num (a := a) (n := n) (blen n)
  rw [kN_end, Int.pow_zero, Int.mul_one] at h; omega

theorem i64_and1 (k : Nat) (h : k < 9223372036854775808) : bits .and .i64 (k : Int) 1 = ((k % 2 : Nat) : Int) := by
  show IntKind.i64.wrap ((BitVec.ofInt 64 (k : Int) &&& BitVec.ofInt 64 (1 : Int)).toNat : Int) = _
  rw [BitVec.toNat_and, ofInt_u64 k (by omega), show (BitVec.ofInt 64 (1 : Int)).toNat = 1 from rfl, nat_mask1, IntKind.wrap_i64]
  omega

/-- What the iterator reads. -/
structure SqI (ab nb : Nat) (a : Int) (n : Nat) (j : Nat) (W : World) : Prop where
  ca : W.cell? ⟨ab, 0, none⟩ = some (.int .i64 (sqN a j))
  cn : W.cell? ⟨nb, 0, none⟩ = some (.int .i64 (kN n j))
  fa : W.frozen? ⟨ab, 0, none⟩ = false
  fn : W.frozen? ⟨nb, 0, none⟩ = false
def sqT (ab nb : Nat) (a : Int) (n : Nat) (j : Nat) (W : World) : World := (W.setCell ⟨ab, 0, none⟩ (.int .i64 (sqN a (j + 1)))).setCell ⟨nb, 0, none⟩ (.int .i64 (kN n (j + 1)))
theorem setc_other {W : World} {b o b' o' : Nat} {u : Value} (h : b ≠ b' ∨ o ≠ o') : (W.setCell ⟨b, o, none⟩ u).cell? ⟨b', o', none⟩ = W.cell? ⟨b', o', none⟩ := by
  have hne : (⟨b, o, none⟩ : Addr) ≠ ⟨b', o', none⟩ := by
    intro e
    have e1 : b = b' := congrArg Addr.block e
    have e2 : o = o' := congrArg Addr.off e
    rcases h with h | h
    · exact h e1
    · exact h e2
  simp [World.cell?_setCell_other, hne]
theorem sqT_next {ab nb : Nat} (hne : ab ≠ nb) {a : Int} {n j : Nat} {W : World} (h : SqI ab nb a n j W) : SqI ab nb a n (j + 1) (sqT ab nb a n j W) where
  ca := by
    unfold sqT
    rw [setc_other (.inl (fun e => hne e.symm))]
    exact World.cell?_setCell_same' _ _ _ (by rw [h.ca]; rfl)
  cn := by
    unfold sqT
    exact World.cell?_setCell_same' _ _ _ (by rw [setc_other (.inl hne), h.cn]; rfl)
  fa := by unfold sqT; rw [World.frozen?_setCell, World.frozen?_setCell]; exact h.fa
  fn := by unfold sqT; rw [World.frozen?_setCell, World.frozen?_setCell]; exact h.fn
theorem sqT_others {ab nb : Nat} {a : Int} {n j : Nat} (W : World) : KeepsOthers W (sqT ab nb a n j W) := by
  unfold sqT; exact (KeepsOthers.setCell _ _ _).trans (KeepsOthers.setCell _ _ _)

set_option maxRecDepth 100000 in
set_option maxHeartbeats 1000000 in
theorem squares1_iterates (ab nb : Nat) (hne : ab ≠ nb) (a : Int) (ha : 0 ≤ a ∧ a < 2147483579) (n : Nat) (hn : n < 2147483579) (I M : Nat → World → Prop) (hI : ∀ j W, I j W → SqI ab nb a n j W) (hM : ∀ j W, M j W → SqI ab nb a n j W) :
    Iterates3 Try.prog 84 #[.pointer (some ⟨nb, 0, none⟩), .pointer (some ⟨ab, 0, none⟩)] (blen n) (fun j => #[.int .i64 (sqN a j), .bool (decide (kN n j % 2 = 1))]) I M (sqT ab nb a n) := by
  intro l J K Jx W hJ hK hT hY h0
  refine callsIn_of_wp Try.func84 rfl trivial ?_ rfl
  simp only [Try.ntmps84, List.size_toArray, List.length_cons, List.length_nil, Nat.reduceAdd, Nat.reduceSub, Array.replicate_succ, Array.replicate_zero, List.push_toArray, List.append_toArray, List.nil_append, List.cons_append]
  have hR0 := hJ 0 W h0
  gi_wp2
  gi_loopw [] (fun wr => ∃ j : Nat, j ≤ blen n ∧ J j wr) (fun wr => (intOf ((wr.cell? ⟨nb, 0, none⟩).getD undef)).toNat)
  case atStart => exact ⟨0, Nat.zero_le _, h0⟩
  case round =>
    obtain ⟨j, hj, hJj⟩ := hrel
    obtain ⟨hca, hcn, hfa, hfn⟩ := hI j wr (hJ j wr hJj)
    have hk := kN_le n j
    by_cases hlt : j < blen n
    · have hp := kN_pos j n hlt
      have hp2 : decide ((kN n j : Int) > 0) = true := by simp; omega
      have hb2 : (bits .and .i64 (kN n j : Int) 1 == 1) = decide (kN n j % 2 = 1) := by
        rw [i64_and1 _ (by omega), Bool.eq_iff_iff, beq_iff_eq, decide_eq_true_eq]; omega
      have hs := sqN_num ha j
      obtain ⟨s1, s2⟩ := hs
      obtain ⟨q1, q2⟩ := mp_prod (sqN_num ha j) (sqN_num ha j)
      obtain ⟨fn, tmps, assign, body, hy, hR⟩ := hY j wr hJj hlt
      gi_wp2
      refine ⟨rfl, hR.mono ?_⟩
      rintro e W3 (⟨rfl, hK3⟩ | ⟨rfl, hJx3⟩)
      · obtain ⟨hca3, hcn3, hfa3, hfn3⟩ := hM j W3 (hK j W3 hK3)
        have hcn4 : (W3.setCell ⟨ab, 0, none⟩ (.int .i64 (sqN a j * sqN a j % 2147483579))).cell? ⟨nb, 0, none⟩ = some (.int .i64 (kN n j)) := by
          rw [setc_other (.inl hne)]; exact hcn3
        have hnx := Lib.hid (hT j W3 hK3)
        have hcnH := Lib.hid hcn
        clear hy hcn hca hfa hfn
        gi_wp2
        go_roundw
        case rel => exact ⟨j + 1, by omega, hnx.out⟩
        case measure =>
          have e1 : (sqT ab nb a n j W3).cell? ⟨nb, 0, none⟩ = some (.int .i64 (kN n (j + 1))) := (sqT_next hne (hM j W3 (hK j W3 hK3))).cn
          show (intOf (((sqT ab nb a n j W3).cell? ⟨nb, 0, none⟩).getD undef)).toNat < _
          rw [e1, hcnH.out]
          show (Int.toNat (kN n j / 2 : Nat)) < Int.toNat (kN n j : Nat)
          omega
      · clear hy
        gi_wp2
        refine bodyPost_ret (results_none rfl _ _ _) rfl ?_
        exact ⟨⟨_, rfl⟩, .inr ⟨j + 1, by omega, hJx3⟩⟩
    · obtain rfl : j = blen n := by omega
      rw [kN_end] at hcn
      gi_wp2
      go_end0
      exact ⟨⟨_, rfl⟩, .inl hJj⟩

set_option maxRecDepth 100000 in
set_option maxHeartbeats 400000 in
/-- The iterator's making: a new variable for the number, one for the exponent. -/
theorem squares_any (a n : Int) (w : World) :
    Calls Try.prog 67 #[.int .i64 a, .int .i64 n] w fun e w' =>
      e = .returned (.func (.func 84) #[] #[.pointer (some ⟨w.heap.size + 1, 0, none⟩), .pointer (some ⟨w.heap.size, 0, none⟩)]) ∧ w' = (w.alloc (.cells #[.int .i64 a] 3)).alloc (.cells #[.int .i64 n] 3) := by
  have hmf : ∀ (fn : Fn) (first cap : Array Value) (w : World), (Instr.makeFunc fn first cap).run Try.prog w = .ok (.func fn first cap) w := fun _ _ _ _ => rfl
  go_enter Try.func67, Try.ntmps67
  go_wp2
  go_ret
  exact ⟨rfl, rfl⟩

theorem Ints.one (w : World) (a : Int) (t : TypeId) (ha : R64 a) : Ints (w.alloc (.cells #[.int .i64 a] t)) (.slice (some ⟨w.heap.size, 0, none⟩) 1 1) [a] := by
  refine ⟨_, 1, rfl, by simp, by simp, by simp [ha], fun k hk => ⟨_, _, rfl, ?_⟩⟩
  rw [World.cell?_alloc_at _ _ _ _ rfl]
  have : k = 0 := by simp at hk; omega
  subst this; rfl

theorem qmod_lo (n : Int) : -1073741789 < n.tmod 1073741789 ∧ n.tmod 1073741789 < 1073741789 := by
  by_cases h0 : 0 ≤ n
  · rw [Int.tmod_eq_emod_of_nonneg h0]; omega
  · have h1 : n.tmod 1073741789 = -((-n) % 1073741789) := by
      have h1 : n.tmod 1073741789 = (-(-n)).tmod 1073741789 := by rw [Int.neg_neg]
      rw [h1, Int.neg_tmod, Int.tmod_eq_emod_of_nonneg (by omega)]
    rw [h1]; omega
theorem qmod_add (n : Int) : (n.tmod 1073741789 + 1073741789) % 1073741789 = n % 1073741789 := by
  by_cases h0 : 0 ≤ n
  · rw [Int.tmod_eq_emod_of_nonneg h0]; omega
  · have h1 : n.tmod 1073741789 = -((-n) % 1073741789) := by
      have h1 : n.tmod 1073741789 = (-(-n)).tmod 1073741789 := by rw [Int.neg_neg]
      rw [h1, Int.neg_tmod, Int.tmod_eq_emod_of_nonneg (by omega)]
    rw [h1]; omega

set_option maxRecDepth 100000 in
set_option maxHeartbeats 400000 in
/-- least, of one number. -/
theorem least_one (v : Value) (n : Int) (w : World) (hI : Ints w v [n]) :
    Calls Try.prog 68 #[v] w fun e w' => e = .returned (.int .i64 (ex n : Nat)) ∧ w = w' := by
  obtain ⟨a, cap, rfl, hcap, hlen, hr, hk⟩ := hI
  obtain ⟨n1, n2⟩ : R64 n := hr n (by simp)
  obtain ⟨b, off, rfl, hc⟩ := hk 0 (by simp)
  have hq := qmod_lo n
  have HE := Lib.hid (show (n.tmod 1073741789 + 1073741789) % 1073741789 = ((ex n : Nat) : Int) by rw [qmod_add, ex_cast])
  have hq1 : 0 ≤ n.tmod 1073741789 + 1073741789 := by omega
  have hc0 : w.cell? ⟨b, off, none⟩ = some (.int .i64 n) := hc
  clear hk hr hc
  go_enter Try.func68, Try.ntmps68
  go_wp2
  go_loop [3, 8] (fun x i => (i = .int .i64 0 ∧ x = .int .i64 1) ∨ (i = .int .i64 1 ∧ x = .int .i64 (ex n : Nat))) (fun _ i => 1 - (intOf i).toNat)
  case atStart => exact .inl ⟨rfl, rfl⟩
  case round =>
    rcases hrel with ⟨rfl, rfl⟩ | ⟨rfl, rfl⟩
    · go_wp2
      go_round
      case rel => exact .inr ⟨by go_num, by rw [← HE.out]⟩
      case measure => simp [intOf]
    · go_wp2
      go_ret
      exact ⟨rfl, rfl⟩

/-- What holds between two rounds of Pow, and behind one. -/
structure PowI (w : World) (c : Int) (ab nb : Nat) (a : Int) (n : Nat) (j : Nat) (W : World) : Prop where
  sq : SqI ab nb a n j W
  cc : W.cell? ⟨w.heap.size, 0, none⟩ = some (.int .i64 c)
  fc : W.frozen? ⟨w.heap.size, 0, none⟩ = false
  be : Below w.heap.size w W
theorem sqI_sim {ab nb : Nat} {a : Int} {n j D : Nat} {W W' : World} (h : SqI ab nb a n j W) (hs : Sim D W W') : SqI ab nb a n j W' :=
  ⟨sim_cell hs h.ca, sim_cell hs h.cn, by rw [sim_frozen hs h.ca]; exact h.fa, by rw [sim_frozen hs h.cn]; exact h.fn⟩
theorem powI_sim {w : World} {c : Int} {ab nb : Nat} {a : Int} {n j D : Nat} {W W' : World} (h : PowI w c ab nb a n j W) (hs : Sim D W W') (hD : w.heap.size ≤ D) : PowI w c ab nb a n j W' :=
  ⟨sqI_sim h.sq hs, sim_cell hs h.cc, by rw [sim_frozen hs h.cc]; exact h.fc, h.be.trans (sim_below (sim_mono hs hD))⟩

theorem Ints.one_at (w : World) (B : Nat) (hB : w.heap.size = B) (a : Int) (t : TypeId) (ha : R64 a) : Ints (w.alloc (.cells #[.int .i64 a] t)) (.slice (some ⟨B, 0, none⟩) 1 1) [a] := by
  subst hB; exact Ints.one w a t ha
theorem box4 (w : World) (a b c d : Value) (ta tb tc td : TypeId) : ∃ W, W = ((((w.alloc (.cells #[a] ta)).alloc (.cells #[b] tb)).alloc (.cells #[c] tc)).alloc (.cells #[d] td)) ∧
    Below w.heap.size w W ∧ W.heap.size = w.heap.size + 1 + 1 + 1 + 1 ∧ W.cell? ⟨w.heap.size, 0, none⟩ = some a ∧ W.cell? ⟨w.heap.size + 1 + 1, 0, none⟩ = some c ∧ W.cell? ⟨w.heap.size + 1 + 1 + 1, 0, none⟩ = some d ∧
    W.frozen? ⟨w.heap.size, 0, none⟩ = false ∧ W.frozen? ⟨w.heap.size + 1 + 1, 0, none⟩ = false ∧ W.frozen? ⟨w.heap.size + 1 + 1 + 1, 0, none⟩ = false := by
  refine ⟨_, rfl, ((((Below.refl _ _).alloc (Nat.le_refl _) _).alloc (by simp) _).alloc (by simp; omega) _).alloc (by simp; omega) _, by simp, ?_, ?_, ?_, ?_, ?_, ?_⟩ <;> simp [go_sem]
set_option maxRecDepth 100000 in
set_option maxHeartbeats 2000000 in
theorem pow_yes (a n : Int) (w : World) (ha : El a) (hn : R64 n) :
    Calls Try.prog 33 #[.int .i64 a, .int .i64 n] w fun e w' => e = .returned (.tuple #[.int .i64 (powE a n), .int .i64 0]) ∧ Below w.heap.size w w' := by
  have hb := Lib.hid (elB_iff.2 ha)
  have a1 := ha.lo
  have a2 := ha.hi
  have hr : R64 a := ⟨by omega, by omega⟩
  refine calls_of_range Try.func33 rfl ?_
  simp only [Try.ntmps33, List.size_toArray, List.length_cons, List.length_nil, Nat.reduceAdd, Nat.reduceSub, Array.replicate_succ, Array.replicate_zero, List.push_toArray, List.append_toArray, List.nil_append, List.cons_append]
  go_wp2_with fail
  with_reducible refine (valid_any _ _ hr).mono ?_
  rintro e w1 ⟨rfl, rfl⟩
  rw [hb.out]
  go_wp2_with fail
  with_reducible refine (least_one _ n _ (Ints.one_at _ _ (by simp) _ _ hn)).mono ?_
  rintro e w1 ⟨rfl, rfl⟩
  go_wp2_with fail
  with_reducible refine (squares_any _ _ _).mono ?_
  rintro e w4 ⟨rfl, hw4⟩
  obtain ⟨W, hW, hb4, hs4, q1, q2, q3, f1, f2, f3⟩ := box4 w (.int .i64 1) (.int .i64 n) (.int .i64 a) (.int .i64 (ex n : Nat)) 3 3 3 3
  obtain rfl : w4 = W := hw4.trans hW.symm
  clear hw4 hW
  have hsn := sqN_num (a := a) ⟨by omega, a2⟩
  have hel := ex_lt n
  go_wp2_with fail
  refine wp_range3 (gf := 84) (lb := #[.pointer (some ⟨w.heap.size + 1 + 1 + 1, 0, none⟩), .pointer (some ⟨w.heap.size + 1 + 1, 0, none⟩)]) (N := blen (ex n)) (encs := fun j => #[.int .i64 (sqN a j), .bool (decide (kN (ex n) j % 2 = 1))]) rfl (goes_of Try.func84 (by kernel_rfl) rfl) (fun _ => rfl)
    (fun j => PowI w (cN a (ex n) j) (w.heap.size + 1 + 1) (w.heap.size + 1 + 1 + 1) a (ex n) j) (fun j => PowI w (cN a (ex n) (j + 1)) (w.heap.size + 1 + 1) (w.heap.size + 1 + 1 + 1) a (ex n) j) (sqT (w.heap.size + 1 + 1) (w.heap.size + 1 + 1 + 1) a (ex n)) (fun _ _ _ => False) ?seq ?simI (fun _ _ _ _ h _ => h) ?simM ?hT ⟨⟨q2, q3, f2, f3⟩, q1, f1, hb4⟩
    (fun j t => (((t.setIfInBounds 16 (.int .i64 (sqN a j))).setIfInBounds 17 (.bool (decide (kN (ex n) j % 2 = 1)))).setIfInBounds 6 (.int .i64 (sqN a j))).setIfInBounds 7 (.bool (decide (kN (ex n) j % 2 = 1)))) ?assign ?body ?done (fun _ _ _ _ _ _ h => h.elim)
  case seq => exact squares1_iterates _ _ (by omega) a ⟨by omega, a2⟩ (ex n) (by omega) _ _ (fun j W h => h.sq) (fun j W h => h.sq)
  case simI => exact fun j W W' h hs => powI_sim h hs hb4.size
  case simM => exact fun j W W' h hs => powI_sim h hs hb4.size
  case hT =>
    intro j W h
    refine ⟨⟨sqT_next (by omega) h.sq, ?_, ?_, ?_⟩, sqT_others W⟩
    · unfold sqT; rw [setc_other (.inl (by omega)), setc_other (.inl (by omega))]; exact h.cc
    · unfold sqT; rw [World.frozen?_setCell, World.frozen?_setCell]; exact h.fc
    · unfold sqT; exact (h.be.setCell (by simp; omega) _).setCell (by simp; omega) _
  case assign =>
    intro l j W K hK
    gi_wp2
    exact hK
  case body =>
    intro l j W hI hlt
    simp only [List.setIfInBounds_toArray, List.set_cons_succ, List.set_cons_zero]
    obtain ⟨hsq, hcc, hfc, hbe⟩ := hI
    obtain ⟨s1, s2⟩ := hsn j
    obtain ⟨c1, c2⟩ := cN_num (a := a) (n := ex n) j
    obtain ⟨q1', q2'⟩ := mp_prod ⟨c1, c2⟩ ⟨s1, s2⟩
    clear hlt
    by_cases hb2 : kN (ex n) j % 2 = 1
    · have HC := Lib.hid (show cN a (ex n) (j + 1) = cN a (ex n) j * sqN a j % 2147483579 by rw [cN, if_pos hb2])
      have hbt : decide (kN (ex n) j % 2 = 1) = true := decide_eq_true hb2
      clear hb2
      rw [hbt]
      gi_wp2
      refine ⟨KeepsOthers.setCell _ _ _, ⟨⟨?_, ?_, ?_, ?_⟩, ?_, ?_, ?_⟩⟩
      · rw [setc_other (.inl (by omega))]; exact hsq.ca
      · rw [setc_other (.inl (by omega))]; exact hsq.cn
      · rw [World.frozen?_setCell]; exact hsq.fa
      · rw [World.frozen?_setCell]; exact hsq.fn
      · rw [HC.out]; exact World.cell?_setCell_same' _ _ _ (by rw [hcc]; rfl)
      · rw [World.frozen?_setCell]; exact hfc
      · exact hbe.setCell (by simp) _
    · have HC := Lib.hid (show cN a (ex n) (j + 1) = cN a (ex n) j by rw [cN, if_neg hb2])
      have hbt : decide (kN (ex n) j % 2 = 1) = false := decide_eq_false hb2
      clear hb2
      rw [hbt]
      gi_wp2
      exact ⟨KeepsOthers.refl _, ⟨hsq, by rw [HC.out]; exact hcc, hfc, hbe⟩⟩
  case done =>
    intro D W hD hI hDW hO
    have hcc := hI.cc
    rw [cN_end] at hcc
    have hfc := hI.fc
    have hbe := hI.be
    go_wp2_with fail
    refine leaves_marks3 (B := w.heap.size) (v := .tuple #[.int .i64 (powP a (ex n)), .int .i64 0]) (fun W => W.cell? ⟨w.heap.size, 0, none⟩ = some (.int .i64 (powP a (ex n)))) ?_ ?_ ?_ _ _ ⟨⟨D, rfl, Nat.le_trans hb4.size hD, ?_, fun _ h => by cases h⟩, trivial⟩ ?_ ⟨rfl, ?_⟩
    · intro W1 h1
      simp [results, Try.results33, go_sem, h1]
    · exact fun W1 W2 h hs => sim_cell hs h
    · rintro W1 W2 ⟨h1, h2⟩ hs
      exact ⟨h1, h2.trans (sim_below hs)⟩
    · exact (KeepsOthers.setCell _ _ _).same _ _ hDW rfl
    · exact World.cell?_setCell_same' _ _ _ (by rw [hcc]; rfl)
    · exact hbe.setCell (by simp) _

end Go.Proofs.Ytjjoadmkpbmhpaa

namespace Go.Proofs.Ytjjoadmkpbmhpaa
open Go.RowKit FP

theorem El.r64 {a : Int} (h : El a) : R64 a := ⟨by have := h.lo; omega, by have := h.hi; omega⟩
theorem el_prod {a b : Int} (ha : El a) (hb : El b) : 0 ≤ a * b ∧ a * b ≤ 4611685721957729241 := mp_prod ha.num hb.num

set_option maxRecDepth 100000 in
set_option maxHeartbeats 400000 in
theorem mul_yes (a b : Int) (w : World) (ha : El a) (hb : El b) :
    Calls Try.prog 49 #[.int .i64 a, .int .i64 b] w fun e w' => e = .returned (.tuple #[.int .i64 (a * b % 2147483579), .int .i64 0]) ∧ w = w' := by
  have h1 := Lib.hid (elB_iff.2 ha)
  have h2 := Lib.hid (elB_iff.2 hb)
  obtain ⟨q1, q2⟩ := el_prod ha hb
  have r1 := ha.r64
  have r2 := hb.r64
  clear ha hb
  go_enter Try.func49, Try.ntmps49
  go_wp2_with fail
  with_reducible refine (valid_any _ _ r1).mono ?_
  rintro e w1 ⟨rfl, rfl⟩
  rw [h1.out]
  go_wp2_with fail
  with_reducible refine (valid_any _ _ r2).mono ?_
  rintro e w1 ⟨rfl, rfl⟩
  rw [h2.out]
  go_wp2_with fail
  go_ret2
  exact ⟨rfl, rfl⟩

/-! The reference. -/
end Go.Proofs.Ytjjoadmkpbmhpaa

namespace Go.Proofs.Ytjjoadmkpbmhpaa
open FP

theorem el_four : El 4 := by
  refine el_of (by omega) ?_
  have e : cp 4 = cp 2 * cp 2 := by rw [← cp_mul]; rfl
  have h2 : cp 2 ≠ 0 := fun h => by rw [cp_zero] at h; exact absurd h (by decide)
  obtain ⟨n, hn, hq⟩ : ∃ n : Nat, n + 1 + 1 = 2147483579 ∧ nQ + nQ = n + 1 := ⟨2147483577, rfl, rfl⟩
  rw [e, fp_prod, ← fp_add, hq, FP.pow_s]
  exact FP.fermat_n n hn h2
theorem four_ne : (4 : Int) ≠ 1 := by decide
theorem not_el_0 : ¬ El 0 := fun h => absurd h.lo (by decide)
end Go.Proofs.Ytjjoadmkpbmhpaa

namespace Go.Proofs.Ytjjoadmkpbmhpaa
open Go.RowKit FP

theorem ProgOK.cols_le {rows : List (List Int)} {owners : List Int} (h : ProgOK rows owners) : colsQ rows ≤ 64 := by
  unfold colsQ; split
  · omega
  · rename_i h0
    rcases h.right.narrow with h1 | h1
    · exact h1
    · exact absurd (by rw [h1]; rfl) h0
/-- The error of a dealing. -/
def dealE (rows : List (List Int)) (owners : List Int) (x : Int) (rnd : List Int) : Int :=
  if progE rows owners ≠ 0 then progE rows owners else if oddQ x = true ∨ rnd.any oddQ = true ∨ rnd.length + 1 ≠ colsQ rows then 1 else 0
/-- The shares, and the commitments. -/
def dealF (rows : List (List Int)) (s : List Int) (i : Nat) : Int × Int := ((i : Int), prodQ (rows.getD i []) s)
def dealL (rows : List (List Int)) (s : List Int) : List (Int × Int) := (List.range rows.length).map (dealF rows s)
def dealC (s : List Int) : List Int := s.map (powE 4)
theorem prodQ_num (a b : List Int) : 0 ≤ prodQ a b ∧ prodQ a b < 1073741789 := prodF_num a b _
theorem dealF_r64 (rows : List (List Int)) (s : List Int) {i : Nat} (h : i < 1000000) : R64 (dealF rows s i).1 ∧ R64 (dealF rows s i).2 :=
  ⟨R64.mk (by show (-4611686018427387904 : Int) ≤ (i : Int); omega) (by show (i : Int) ≤ 4611686018427387904; omega), num_r64 (prodQ_num _ _)⟩
structure DealOK (rows : List (List Int)) (owners : List Int) (x : Int) (rnd : List Int) : Prop where
  prog : ProgOK rows owners
  hx : 0 ≤ x ∧ x < 1073741789
  hr : ∀ z ∈ rnd, 0 ≤ z ∧ z < 1073741789
  len : rnd.length + 1 = colsQ rows
theorem any_odd_false {l : List Int} (h : l.any oddQ = false) : ∀ z ∈ l, 0 ≤ z ∧ z < 1073741789 := fun z hz => oddQ_num (by
  cases e : oddQ z with
  | false => rfl
  | true => rw [List.any_eq_true.2 ⟨z, hz, e⟩] at h; cases h)
theorem oddQ_of {z : Int} (h : 0 ≤ z ∧ z < 1073741789) : oddQ z = false := by simp [oddQ]; omega
theorem any_odd_of {l : List Int} (h : ∀ z ∈ l, 0 ≤ z ∧ z < 1073741789) : l.any oddQ = false := by
  cases e : l.any oddQ with
  | false => rfl
  | true => obtain ⟨z, hz, e2⟩ := List.any_eq_true.1 e; rw [oddQ_of (h z hz)] at e2; cases e2
theorem dealE_ok {rows : List (List Int)} {owners : List Int} {x : Int} {rnd : List Int} (h : dealE rows owners x rnd = 0) : DealOK rows owners x rnd := by
  unfold dealE at h
  by_cases hp : progE rows owners = 0
  · rw [if_neg (by simp [hp])] at h
    split at h
    · cases h
    · rename_i h2
      have hx : oddQ x = false := by
        cases e : oddQ x with
        | false => rfl
        | true => exact absurd (.inl e) h2
      have hr : rnd.any oddQ = false := by
        cases e : rnd.any oddQ with
        | false => rfl
        | true => exact absurd (.inr (.inl e)) h2
      exact ⟨progE_ok hp, oddQ_num hx, any_odd_false hr, by
        by_cases e : rnd.length + 1 = colsQ rows
        · exact e
        · exact absurd (.inr (.inr e)) h2⟩
  · rw [if_pos hp] at h; exact absurd h hp

theorem ints_one (w : World) (x : Int) (t : TypeId) (B : Nat) (hB : w.heap.size = B) (hx : R64 x) : Ints (w.alloc (.cells #[.int .i64 x] t)) (.slice (some ⟨B, 0, none⟩) 1 1) [x] := by
  subst hB
  refine ⟨_, 1, rfl, by simp, by simp, by simpa using hx, fun k hk => ⟨_, _, rfl, ?_⟩⟩
  obtain rfl : k = 0 := by simp at hk; omega
  exact row_cell (World.alloc_heap_new w _) rfl
theorem one_any (x : Int) : [x].any oddQ = oddQ x := by simp

set_option maxRecDepth 100000 in
set_option maxHeartbeats 4000000 in
theorem deal_no (rv ov mv : Value) (rows : List (List Int)) (owners : List Int) (x : Int) (rnd : List Int) (w : World) (hR : Rows2 w rv rows) (hO : Ints w ov owners) (hM : Ints w mv rnd) (hx : R64 x) (he : dealE rows owners x rnd ≠ 0) :
    Calls Try.prog 8 #[.agg #[rv, ov], .int .i64 x, mv] w fun r w' => r = .returned (.tuple #[.slice none 0 0, .slice none 0 0, .int .i64 (dealE rows owners x rnd)]) ∧ Below w.heap.size w w' := by
  obtain ⟨W1, hW1, hb1, hr1, hz⟩ := box_prog w rv ov 25
  have HR1 := Lib.hid (hR.below hb1)
  have HO1 := Lib.hid (hO.below hb1)
  have HM1 := Lib.hid (hM.below hb1)
  have HPC := Lib.hid (pCheck_any rv ov rows owners W1 HR1.out HO1.out)
  obtain ⟨a, cap, rfl, -, hlen, -⟩ := id hR
  obtain ⟨a2, cap2, rfl, -, hlen2, -⟩ := id hO
  obtain ⟨a3, cap3, rfl, -, hlen3, -⟩ := id hM
  have c0 : W1.cell? ⟨w.heap.size, 0, none⟩ = some (.slice a rows.length cap) := row_cell hr1 rfl
  have c1 : W1.cell? ⟨w.heap.size, 1, none⟩ = some (.slice a2 owners.length cap2) := row_cell hr1 rfl
  have HW1 := Lib.hid hW1
  have HB1 := Lib.hid hb1
  clear hR hO hM hr1 hW1 hb1
  by_cases hp : progE rows owners = 0
  · have HV : Hid (dealE rows owners x rnd = 1) := Lib.hid (by
      unfold dealE at he ⊢
      rw [if_neg (by simp [hp])] at he ⊢
      split at he
      · rename_i h2; rw [if_pos h2]
      · exact absurd rfl he)
    have HPO := Lib.hid (progE_ok hp)
    rw [hp] at HPC
    have HE0 := Lib.hid he
    have HP0 := Lib.hid hp
    clear he hp
    have hcc := HPO.out.cols
    have hcu := HPO.out.cols_le
    have hci : (1 : Int) ≤ (colsQ rows : Nat) := by omega
    have hcv : ((colsQ rows : Nat) : Int) ≤ 64 := by omega
    cases ex : oddQ x with
    | true =>
      have HX := Lib.hid ex
      clear ex
      go_enter Try.func8, Try.ntmps8
      go_wp2_with fail
      rw [← HW1.out]
      refine HPC.out.mono ?_
      rintro r w2 ⟨rfl, hb2⟩
      have HB2 := Lib.hid (HB1.out.trans (hb2.mono HB1.out.size))
      clear hb2
      go_wp2_with fail
      refine (numbers_any _ [x] _ (ints_one w2 x 3 _ rfl hx)).mono ?_
      rintro r w3 ⟨rfl, hb3⟩
      rw [one_any, HX.out]
      have hb4 := (HB2.out.alloc HB2.out.size (.cells #[.int .i64 x] 3))
      go_wp2_with fail
      go_ret3
      exact ⟨by rw [HV.out]; rfl, hb4.trans (hb3.mono hb4.size)⟩
    | false =>
      have HX := Lib.hid ex
      clear ex
      cases er : rnd.any oddQ with
      | true =>
        have HRn := Lib.hid er
        clear er
        go_enter Try.func8, Try.ntmps8
        go_wp2_with fail
        rw [← HW1.out]
        refine HPC.out.mono ?_
        rintro r w2 ⟨rfl, hb2⟩
        have HB2 := Lib.hid (HB1.out.trans (hb2.mono HB1.out.size))
        have HM2 := Lib.hid (HM1.out.below hb2)
        clear hb2
        go_wp2_with fail
        refine (numbers_any _ [x] _ (ints_one w2 x 3 _ rfl hx)).mono ?_
        rintro r w3 ⟨rfl, hb3⟩
        rw [one_any, HX.out]
        have HM3 := Lib.hid ((HM2.out.below (below_new _ _ _)).below hb3)
        have hb4 := (HB2.out.alloc HB2.out.size (.cells #[.int .i64 x] 3))
        have HB4 := Lib.hid (hb4.trans (hb3.mono hb4.size))
        clear hb3 hb4
        go_wp2_with fail
        refine (numbers_any _ rnd _ HM3.out).mono ?_
        rintro r w4 ⟨rfl, hb5⟩
        rw [HRn.out]
        go_wp2_with fail
        go_ret3
        exact ⟨by rw [HV.out]; rfl, HB4.out.trans (hb5.mono HB4.out.size)⟩
      | false =>
        have HRn := Lib.hid er
        have HL : Hid (((rnd.length : Int) != ((colsQ rows : Nat) : Int) - 1) = true) := Lib.hid (bne_iff_ne.2 (by
          intro e
          apply HE0.out
          unfold dealE
          rw [if_neg (by simp [HP0.out]), if_neg]
          rw [HX.out, HRn.out]
          rintro (h | h | h)
          · cases h
          · cases h
          · omega))
        have hlb := HL.out
        clear er
        go_enter Try.func8, Try.ntmps8
        go_wp2_with fail
        rw [← HW1.out]
        refine HPC.out.mono ?_
        rintro r w2 ⟨rfl, hb2⟩
        have HB2 := Lib.hid (HB1.out.trans (hb2.mono HB1.out.size))
        have HM2 := Lib.hid (HM1.out.below hb2)
        have HR2 := Lib.hid (HR1.out.below hb2)
        have HO2 := Lib.hid (HO1.out.below hb2)
        have d0 := below_cell hb2 c0
        have d1 := below_cell hb2 c1
        clear hb2
        go_wp2_with fail
        refine (numbers_any _ [x] _ (ints_one w2 x 3 _ rfl hx)).mono ?_
        rintro r w3 ⟨rfl, hb3⟩
        rw [one_any, HX.out]
        have hb3' := (below_new w2 #[.int .i64 x] 3).trans (hb3.mono (by simp))
        have HM3 := Lib.hid (HM2.out.below hb3')
        have HR3 := Lib.hid (HR2.out.below hb3')
        have HO3 := Lib.hid (HO2.out.below hb3')
        have f0 := below_cell hb3' d0
        have f1 := below_cell hb3' d1
        have HB4 := Lib.hid (HB2.out.trans (hb3'.mono HB2.out.size))
        clear hb3 hb3' d0 d1
        go_wp2_with fail
        refine (numbers_any _ rnd _ HM3.out).mono ?_
        rintro r w4 ⟨rfl, hb5⟩
        rw [HRn.out]
        have g0 := below_cell hb5 f0
        have g1 := below_cell hb5 f1
        have HR5 := Lib.hid (HR3.out.below hb5)
        have HO5 := Lib.hid (HO3.out.below hb5)
        have HB5 := Lib.hid (HB4.out.trans (hb5.mono HB4.out.size))
        clear hb5 f0 f1
        go_wp2_with fail
        refine (columns_any _ _ rows owners _ HR5.out HO5.out).mono ?_
        rintro r w6 ⟨rfl, hb6⟩
        go_wp2_with fail
        go_ret3
        exact ⟨by rw [HV.out]; rfl, HB5.out.trans (hb6.mono HB5.out.size)⟩
  · have HV : Hid (dealE rows owners x rnd = progE rows owners) := Lib.hid (by unfold dealE; rw [if_pos hp])
    have h2 : (progE rows owners != 0) = true := bne_iff_ne.2 hp
    clear he
    go_enter Try.func8, Try.ntmps8
    go_wp2_with fail
    rw [← HW1.out]
    refine HPC.out.mono ?_
    rintro r w2 ⟨rfl, hb2⟩
    go_wp2_with fail
    go_ret3
    exact ⟨by rw [HV.out]; rfl, HB1.out.trans (hb2.mono HB1.out.size)⟩

end Go.Proofs.Ytjjoadmkpbmhpaa
