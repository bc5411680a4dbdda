/- Package rebuild and its reference: numbers, sums. Package rebuild: helpers, collected. Package rebuild: Plan. -/
import Derived.Test.YtnbkbnbmmkfckaaMRdE
import Derived.Test.YtnbkbnbmmkfckaaMRbA
import Derived.Test.YtnbkbnbmmkfckaaMRange4
import Derived.Test.YtnbkbnbmmkfckaaMInB
import Derived.Test.YtnbkbnbmmkfckaaMDeaN
import Derived.Test.YtnbkbnbmmkfckaaMSane
import Derived.Laws.EntriesVeiled
namespace Go.Proofs.Ytnbkbnbmmkfckaa
open Go.RowKit FP

def allQ (l : List Int) : Bool := decide (l.length ≤ 64) && !l.any oddQ
theorem allQ_ok {l : List Int} (h : allQ l = true) : l.length ≤ 64 ∧ ∀ z ∈ l, 0 ≤ z ∧ z < 1073741789 := by
  unfold allQ at h
  rw [Bool.and_eq_true, decide_eq_true_eq, Bool.not_eq_true'] at h
  exact ⟨h.1, any_odd_false h.2⟩
theorem allQ_iff {l : List Int} : allQ l = false ↔ (64 < l.length ∨ l.any oddQ = true) := by
  unfold allQ
  by_cases h : l.length ≤ 64
  · rw [decide_eq_true h]; cases l.any oddQ <;> simp <;> omega
  · rw [decide_eq_false h]; simp; omega

set_option maxRecDepth 100000 in
theorem rnumber40_any (z : Int) (w : World) : Calls Try.prog 27 #[.int .i64 z] w fun r w' => r = .returned (.bool (!oddQ z)) ∧ w = w' := by
  by_cases h1 : 0 ≤ z
  · have H := Lib.hid (show (!oddQ z) = decide (z < 1073741789) by
      unfold oddQ; rw [decide_eq_false (show ¬ z < 0 by omega), Bool.false_or]
      by_cases h : z < 1073741789
      · rw [decide_eq_true h, decide_eq_false (show ¬ 1073741789 ≤ z by omega)]; rfl
      · rw [decide_eq_false h, decide_eq_true (show 1073741789 ≤ z by omega)]; rfl)
    go_enter Try.func27, Try.ntmps27
    go_wp2_with fail
    go_ret
    exact ⟨ret_bool H.out.symm, rfl⟩
  · have H := Lib.hid (show (!oddQ z) = false by unfold oddQ; rw [decide_eq_true (show z < 0 by omega)]; rfl)
    go_enter Try.func27, Try.ntmps27
    go_wp2_with fail
    go_ret
    exact ⟨ret_bool H.out.symm, rfl⟩


set_option maxRecDepth 100000 in
theorem inorder_any (z : Int) (w : World) : Calls Try.prog 56 #[.int .i64 z] w fun r w' => r = .returned (.bool (!oddQ z)) ∧ w = w' := by
  by_cases h1 : 0 ≤ z
  · have H := Lib.hid (show (!oddQ z) = decide (z < 1073741789) by
      unfold oddQ; rw [decide_eq_false (show ¬ z < 0 by omega), Bool.false_or]
      by_cases h : z < 1073741789
      · rw [decide_eq_true h, decide_eq_false (show ¬ 1073741789 ≤ z by omega)]; rfl
      · rw [decide_eq_false h, decide_eq_true (show 1073741789 ≤ z by omega)]; rfl)
    go_enter Try.func56, Try.ntmps56
    go_wp2_with fail
    go_ret
    exact ⟨ret_bool H.out.symm, rfl⟩
  · have H := Lib.hid (show (!oddQ z) = false by unfold oddQ; rw [decide_eq_true (show z < 0 by omega)]; rfl)
    go_enter Try.func56, Try.ntmps56
    go_wp2_with fail
    go_ret
    exact ⟨ret_bool H.out.symm, rfl⟩


set_option maxRecDepth 100000 in
set_option maxHeartbeats 1000000 in
theorem rSameInts40_any (v u : Value) (a b : List Int) (w : World) (hI : Ints w v a) (hJ : Ints w u b) :
    Calls Try.prog 18 #[v, u] w fun e w' => e = .returned (.bool (sameQ a b)) ∧ Below w.heap.size w w' := by
  obtain ⟨pa, ca, rfl, ha1, ha2, ha3, hka⟩ := hI
  obtain ⟨pb, cb, rfl, hb1, hb2, hb3, hkb⟩ := hJ
  by_cases hl : a.length = b.length
  · have hl' : ((a.length : Int) != (b.length : Int)) = false := by rw [hl]; simp
    have HL := Lib.hid hl
    have hb1 : a.length ≤ cb := by omega
    have hcells : ∀ k (h : k < a.length), ∃ y, y = b[k]'(by rw [← HL.out]; exact h) ∧ ∃ q off, pb = some ⟨q, off, none⟩ ∧ w.cell? ⟨q, off + k, none⟩ = some (.int .i64 y) := fun k h => ⟨_, rfl, hkb k (by omega)⟩
    rw [← hl] at hl' ⊢
    clear hl hb2
    clear hkb
    go_enter Try.func18, Try.ntmps18
    go_wp2_with fail
    go_loopw [5] (fun i wr => ∃ k : Nat, k ≤ a.length ∧ i = .int .i64 k ∧ Hid (∀ j (h1 : j < a.length) (h2 : j < b.length), j < k → a[j] = b[j]) ∧ Below w.heap.size w wr) (fun i _ => a.length - (intOf i).toNat)
    case atStart => exact ⟨0, Nat.zero_le _, rfl, Lib.hid fun j _ _ h => absurd h (Nat.not_lt_zero _), Below.refl _ _⟩
    case round =>
      obtain ⟨k, hkl, rfl, HP, hb⟩ := hrel
      by_cases hlt : k < a.length
      · obtain ⟨p, off, rfl, hc⟩ := hka k hlt
        obtain ⟨y, hy, p', off', rfl, hc'⟩ := hcells k hlt
        have hc := below_cell hb hc
        have hc' := below_cell hb hc'
        obtain ⟨x, hx⟩ : ∃ x, x = a[k] := ⟨_, rfl⟩
        rw [← hx] at hc
        have i1 : (0 : Int) ≤ (k : Int) := by omega
        have i2 : (k : Int) < (a.length : Int) := by omega
        have HX := Lib.hid hx
        have HY := Lib.hid hy
        clear hcells hka hx hy
        by_cases he : x = y
        · have he' : (x != y) = false := by simpa using he
          have HN := Lib.hid (show ∀ j (h1 : j < a.length) (h2 : j < b.length), j < k + 1 → a[j] = b[j] from fun j h1 h2 h3 => by
            by_cases e : j = k
            · subst e; rw [← HX.out, ← HY.out, he]
            · exact HP.out j h1 h2 (by omega))
          clear he
          go_wp2_with fail
          go_quiet (fail)
          go_wp2_with fail
          go_roundw
          case rel => exact ⟨k + 1, by omega, by go_num, HN, below_drewN hb _⟩
          case measure => simp [intOf]; omega
        · have he' : (x != y) = true := by simpa using he
          have HN := Lib.hid (sameQ_at hlt (by rw [← HL.out]; exact hlt) (by rw [← HX.out, ← HY.out]; exact he))
          clear he
          go_wp2_with fail
          go_quiet (fail)
          go_wp2_with fail
          go_ret
          exact ⟨ret_bool HN.out.symm, below_drewN hb _⟩
      · have HN := Lib.hid (sameQ_all HL.out fun k h1 h2 => HP.out k h1 h2 (by omega))
        go_wp2_with fail
        go_ret
        exact ⟨ret_bool HN.out.symm, hb⟩
  · have hl' : ((a.length : Int) != (b.length : Int)) = true := by rw [bne_iff_ne]; omega
    have HL := Lib.hid (sameQ_len hl)
    clear hl
    go_enter Try.func18, Try.ntmps18
    go_wp2_with fail
    go_ret
    exact ⟨ret_bool HL.out.symm, Below.refl _ _⟩


set_option maxRecDepth 100000 in
set_option maxHeartbeats 2000000 in
theorem rNumbers40_any (cv : Value) (cs : List Int) (w : World) (hC : Ints w cv cs) :
    Calls Try.prog 22 #[cv] w fun r w' => r = .returned (.bool (allQ cs)) ∧ w = w' := by
  have HC := Lib.hid (fun k (hk : k < cs.length) => hC.get hk)
  obtain ⟨a3, cap3, rfl, -, hlen3, hcr, -⟩ := id hC
  clear hC hcr
  go_enter Try.func22, Try.ntmps22
  go_wp2_with fail
  go_loopw [3] (fun i W => ∃ k : Nat, k ≤ cs.length ∧ i = .int .i64 k ∧ Hid (∀ z ∈ cs.take k, oddQ z = false) ∧ W = w) (fun i _ => cs.length - (intOf i).toNat)
  case atStart => exact ⟨0, Nat.zero_le _, rfl, Lib.hid (by simp), rfl⟩
  case round =>
    obtain ⟨k, hkl, rfl, HP, rfl⟩ := hrel
    by_cases hlt : k < cs.length
    · obtain ⟨hr64, b, off, n9, k9, e9, q9⟩ := HC.out k hlt
      simp only [Value.slice.injEq] at e9
      obtain ⟨rfl, -, -⟩ := e9
      have i0 : (k : Int) < (cs.length : Int) := by omega
      have hnt : nth cs k = cs[k] := nth_at hlt
      rw [hnt] at q9 hr64
      cases en : oddQ cs[k] with
      | true =>
        have HVV : Hid (allQ cs = false) := Lib.hid (by unfold allQ; rw [any_here hlt en]; simp)
        have he : (!oddQ cs[k]) = false := by rw [en]; rfl
        clear en hnt
        generalize cs[k] = z at *
        go_wp2_with fail
        with_reducible refine (rnumber40_any z _).mono ?_
        rintro e w3 ⟨rfl, rfl⟩
        rw [he]
        go_wp2_with fail
        go_ret
        exact ⟨ret_bool HVV.out.symm, rfl⟩
      | false =>
        have HN := Lib.hid (take_next hlt HP.out en)
        have he : (!oddQ cs[k]) = true := by rw [en]; rfl
        clear en hnt
        generalize cs[k] = z at *
        go_wp2_with fail
        with_reducible refine (rnumber40_any z _).mono ?_
        rintro e w3 ⟨rfl, rfl⟩
        rw [he]
        go_wp2_with fail
        go_roundw
        case rel => exact ⟨k + 1, by omega, by go_num, HN, by trivial⟩
        case measure => simp [intOf]; omega
    · have hdk : decide (k < cs.length) = false := decide_eq_false hlt
      have HL := Lib.hid (any_of_take hlt HP.out)
      go_wp2_with fail
      go_ret
      exact ⟨ret_bool (by unfold allQ; rw [HL.out]; simp; omega), rfl⟩


set_option maxRecDepth 100000 in
/-- The test of a closure that asks whether a number is none. -/
theorem all1_any (fb : Nat) (z : Int) (w : World) (hf : w.cell? ⟨fb, 0, none⟩ = some (.func (.func 56) #[] #[])) :
    Calls Try.prog 116 #[.int .i64 z, .pointer (some ⟨fb, 0, none⟩)] w fun r w' => r = .returned (.bool (oddQ z)) ∧ w = w' := by
  go_enter Try.func116, Try.ntmps116
  go_wp2_with fail
  with_reducible refine (inorder_any z _).mono ?_
  rintro r w1 ⟨rfl, rfl⟩
  go_wp2_with fail
  go_ret
  exact ⟨by simp, rfl⟩
set_option maxRecDepth 100000 in
theorem all1_goes : Goes Try.prog 116 := goes_of Try.func116 (by kernel_rfl) rfl

set_option maxRecDepth 100000 in
set_option maxHeartbeats 1000000 in
theorem all_any (v : Value) (l : List Int) (w : World) (hI : Ints w v l) :
    Calls Try.prog 57 #[v, .func (.func 56) #[] #[]] w fun r w' => r = .returned (.bool (allQ l)) ∧ Below w.heap.size w w' := by
  have hmf : ∀ (fn : Fn) (first cap : Array Value) (w : World), (Instr.makeFunc fn first cap).run Try.prog w = .ok (.func fn first cap) w := fun _ _ _ _ => rfl
  obtain ⟨W1, hW1⟩ : ∃ W1, W1 = w.alloc (.cells #[.func (.func 56) #[] #[]] 52) := ⟨_, rfl⟩
  have hb1 : Below w.heap.size w W1 := hW1 ▸ below_new _ _ _
  have c0 : W1.cell? ⟨w.heap.size, 0, none⟩ = some (.func (.func 56) #[] #[]) := by rw [hW1]; exact row_cell (World.alloc_heap_new _ _) rfl
  have HT : Hid (Tests 116 #[.pointer (some ⟨w.heap.size, 0, none⟩)] W1 oddQ l) := Lib.hid fun z _ w' hb => (all1_any w.heap.size z w' (below_cell hb c0)).mono fun _ _ ⟨h, e⟩ => ⟨h, e ▸ Below.refl _ _⟩
  have HC := Lib.hid (containsFunc_any 116 #[.pointer (some ⟨w.heap.size, 0, none⟩)] oddQ v l W1 (hI.below hb1) all1_goes HT.out)
  obtain ⟨a, cap, rfl, -, -, -⟩ := id hI
  have HW1 := Lib.hid hW1
  have HB1 := Lib.hid hb1
  clear hI hW1 hb1
  by_cases h64 : l.length ≤ 64
  · have d0 : decide ((l.length : Int) ≤ 64) = true := decide_eq_true (by omega)
    have HV : Hid (allQ l = !l.any oddQ) := Lib.hid (by unfold allQ; rw [decide_eq_true h64, Bool.true_and])
    clear h64
    go_enter Try.func57, Try.ntmps57
    go_wp2_with (rw [← HW1.out])
    refine (HC.out).mono ?_
    rintro e w2 ⟨rfl, hb2⟩
    have HB2 := Lib.hid (HB1.out.trans (hb2.mono HB1.out.size))
    clear hb2
    go_wp2_with fail
    go_ret
    exact ⟨ret_bool HV.out.symm, HB2.out⟩
  · have d0 : decide ((l.length : Int) ≤ 64) = false := decide_eq_false (by omega)
    have HV : Hid (allQ l = false) := Lib.hid (by unfold allQ; rw [decide_eq_false h64, Bool.false_and])
    clear h64
    go_enter Try.func57, Try.ntmps57
    go_wp2_with (rw [← HW1.out])
    go_ret
    exact ⟨ret_bool HV.out.symm, HB1.out⟩

set_option maxRecDepth 100000 in
set_option maxHeartbeats 1000000 in
theorem tot_any (v : Value) (l : List Int) (w : World) (hI : Ints w v l) (hn : ∀ z ∈ l, 0 ≤ z ∧ z < 1073741789) :
    Calls Try.prog 58 #[v] w fun r w' => r = .returned (.int .i64 (totQ l)) ∧ w = w' := by
  have HC := Lib.hid (fun k (hk : k < l.length) => hI.get hk)
  have HN := Lib.hid hn
  obtain ⟨a, cap, rfl, -, hlen, -, -⟩ := id hI
  clear hI hn
  go_enter Try.func58, Try.ntmps58
  go_wp2_with fail
  go_loopw [2, 7] (fun n i W => ∃ k : Nat, k ≤ l.length ∧ i = .int .i64 k ∧ n = .int .i64 (totQ (l.take k)) ∧ W = w) (fun _ i _ => l.length - (intOf i).toNat)
  case atStart => exact ⟨0, Nat.zero_le _, rfl, rfl, rfl⟩
  case round =>
    obtain ⟨k, hkl, rfl, rfl, rfl⟩ := hrel
    by_cases hlt : k < l.length
    · obtain ⟨-, b, off, n9, k9, e9, q9⟩ := HC.out k hlt
      simp only [Value.slice.injEq] at e9
      obtain ⟨rfl, -, -⟩ := e9
      have i0 : (0 : Int) ≤ (k : Int) := by omega
      have i1 : (k : Int) < (l.length : Int) := by omega
      rw [nth_at hlt] at q9
      have HT := Lib.hid (totQ_take l hlt)
      have hz := HN.out _ (List.getElem_mem hlt)
      have hs := totQ_num (l.take k)
      obtain ⟨x, hx⟩ : ∃ x, x = l[k] := ⟨_, rfl⟩
      obtain ⟨s, hs'⟩ : ∃ s, s = totQ (l.take k) := ⟨_, rfl⟩
      rw [← hx] at q9 hz HT
      rw [← hs'] at hs HT ⊢
      clear hx hs'
      go_wp2_with fail
      go_roundw
      case rel => exact ⟨k + 1, by omega, by go_num, by rw [HT.out], by trivial⟩
      case measure => simp [intOf]; omega
    · have HV := Lib.hid (show totQ (l.take k) = totQ l by rw [List.take_of_length_le (by omega)])
      go_wp2_with fail
      go_ret
      exact ⟨ret_int HV.out, rfl⟩

set_option maxRecDepth 100000 in
set_option maxHeartbeats 1000000 in
theorem rtot_any (v : Value) (l : List Int) (w : World) (hI : Ints w v l) (hn : ∀ z ∈ l, 0 ≤ z ∧ z < 1073741789) :
    Calls Try.prog 59 #[v] w fun r w' => r = .returned (.int .i64 (totQ l)) ∧ Below w.heap.size w w' := by
  have HC := Lib.hid (fun k (hk : k < l.length) => hI.get hk)
  have HN := Lib.hid hn
  obtain ⟨a, cap, rfl, -, hlen, -, -⟩ := id hI
  clear hI hn
  go_enter Try.func59, Try.ntmps59
  go_wp2_with fail
  go_loopw [3, 4] (fun n i W => ∃ k : Nat, k ≤ l.length ∧ i = .int .i64 k ∧ n = .int .i64 (totQ (l.take k)) ∧ Below w.heap.size w W) (fun _ i _ => l.length - (intOf i).toNat)
  case atStart => exact ⟨0, Nat.zero_le _, rfl, rfl, Below.refl _ _⟩
  case round =>
    obtain ⟨k, hkl, rfl, rfl, hb⟩ := hrel
    by_cases hlt : k < l.length
    · obtain ⟨-, b, off, n9, k9, e9, q9⟩ := HC.out k hlt
      simp only [Value.slice.injEq] at e9
      obtain ⟨rfl, -, -⟩ := e9
      have i0 : (0 : Int) ≤ (k : Int) := by omega
      have i1 : (k : Int) < (l.length : Int) := by omega
      rw [nth_at hlt] at q9
      have q9 := below_cell hb q9
      have HT := Lib.hid (totQ_take l hlt)
      have hz := HN.out _ (List.getElem_mem hlt)
      have hs := totQ_num (l.take k)
      obtain ⟨x, hx⟩ : ∃ x, x = l[k] := ⟨_, rfl⟩
      obtain ⟨s, hs'⟩ : ∃ s, s = totQ (l.take k) := ⟨_, rfl⟩
      rw [← hx] at q9 hz HT
      rw [← hs'] at hs HT ⊢
      clear hx hs'
      go_wp2_with fail
      go_roundw
      case rel => exact ⟨k + 1, by omega, by go_num, by rw [HT.out], hb⟩
      case measure => simp [intOf]; omega
    · have HV := Lib.hid (show totQ (l.take k) = totQ l by rw [List.take_of_length_le (by omega)])
      go_wp2_with fail
      go_ret
      exact ⟨ret_int HV.out, hb⟩

end Go.Proofs.Ytnbkbnbmmkfckaa

namespace Go.Proofs.Ytnbkbnbmmkfckaa
open Go.RowKit FP

attribute [local go_sem] Oper.semAt_some

theorem helpB_front {rows : List (List Int)} {row : Int} {hs : List Int} (h : helpB rows row hs = true) (k : Nat) : helpB rows row (hs.take k) = true := by
  cases e : helpB rows row (hs.take k) with
  | true => rfl
  | false => rw [helpB_bad e] at h; cases h
/-- How far helpers are right. -/
theorem help_far (rows : List (List Int)) (row : Int) (hs : List Int) : ∃ m, m ≤ hs.length ∧ helpB rows row (hs.take m) = true ∧ ∀ h : m < hs.length, helpOne rows.length row (lastH (hs.take m)) hs[m] = false := by
  suffices ∀ k, k ≤ hs.length → (∃ m, m ≤ k ∧ helpB rows row (hs.take m) = true ∧ ∀ h : m < hs.length, m < k → helpOne rows.length row (lastH (hs.take m)) hs[m] = false) by
    obtain ⟨m, h1, h2, h3⟩ := this hs.length (Nat.le_refl _)
    exact ⟨m, h1, h2, fun h => h3 h h⟩
  intro k
  induction k with
  | zero => exact fun _ => ⟨0, Nat.le_refl _, by rw [List.take_zero]; rfl, fun _ h => absurd h (Nat.not_lt_zero _)⟩
  | succ k ih =>
    intro hk
    obtain ⟨m, h1, h2, h3⟩ := ih (by omega)
    by_cases e : m = k
    · subst e
      have ht := helpB_take (by omega : m < hs.length) h2
      cases e2 : helpOne rows.length row (lastH (hs.take m)) (hs[m]'(by omega)) with
      | true => exact ⟨m + 1, Nat.le_refl _, by rw [ht, e2], fun _ h => absurd h (Nat.lt_irrefl _)⟩
      | false => exact ⟨m, by omega, h2, fun _ _ => e2⟩
    · exact ⟨m, by omega, h2, fun h _ => h3 h (by omega)⟩
theorem help_all {rows : List (List Int)} {row : Int} {hs : List Int} {m : Nat} (hm : m ≤ hs.length) (hg : helpB rows row (hs.take m) = true) (hb : ∀ h : m < hs.length, helpOne rows.length row (lastH (hs.take m)) hs[m] = false) : helpB rows row hs = decide (m = hs.length) := by
  by_cases e : m = hs.length
  · rw [decide_eq_true e]; subst e; rwa [List.take_length] at hg
  · have hlt : m < hs.length := by omega
    rw [decide_eq_false e]
    exact helpB_bad (k := m + 1) (by rw [helpB_take hlt hg, hb hlt])

set_option maxRecDepth 100000 in
set_option maxHeartbeats 2000000 in
theorem help1_iterates (hb pb rb : Nat) (rv hv : Value) (row : Int) (hs : List Int) (rows : List (List Int)) (w : World) (a : Option Addr) (cap : Nat) (g : Nat → Value) (hrv : rv = .slice a rows.length cap)
    (hg : ∀ k, k < rows.length → ∃ b off, a = some ⟨b, off, none⟩ ∧ w.cell? ⟨b, off + k, none⟩ = some (g k)) (hL : Ints w hv hs) (m : Nat) (hm : m ≤ hs.length) (hgood : helpB rows row (hs.take m) = true) (hbad : ∀ h : m < hs.length, helpOne rows.length row (lastH (hs.take m)) hs[m] = false)
    (hhb : w.cell? ⟨hb, 0, none⟩ = some hv) (hpb : w.cell? ⟨pb, 0, none⟩ = some rv) (hrb : w.cell? ⟨rb, 0, none⟩ = some (.int .i64 row)) (I : Nat → World → Prop) (hI : ∀ j W, I j W → Below w.heap.size w W) :
    Iterates4 Try.prog 111 #[.pointer (some ⟨hb, 0, none⟩), .pointer (some ⟨pb, 0, none⟩), .pointer (some ⟨rb, 0, none⟩)] m (fun j => #[g (hs.getD j 0).toNat]) I := by
  subst hrv
  intro ll J Jx W hJ hA hY h0
  have HG := Lib.hid (fun k (hk : k < hs.length) => hL.get hk)
  obtain ⟨al, cl, rfl, -, hll, hr64, -⟩ := id hL
  refine callsIn_of_wp Try.func111 rfl trivial ?_ rfl
  simp only [Try.ntmps111, List.size_toArray, List.length_cons, List.length_nil, Nat.reduceAdd, Nat.reduceSub, Array.replicate_succ, Array.replicate_zero, List.push_toArray, List.append_toArray, List.nil_append, List.cons_append]
  have hb0 := hI 0 W (hJ 0 W h0)
  have c0 := below_cell hb0 hhb
  have HGO := Lib.hid hgood
  have HBA := Lib.hid hbad
  have HIN := Lib.hid (fun r hr => (helpB_in hgood r hr).1)
  clear hL hgood hbad hb0 hr64
  gi_wp2
  gi_loopw [5, 10] (fun last i wr => ∃ j : Nat, j ≤ m ∧ i = .int .i64 j ∧ last = .int .i64 (lastH (hs.take j)) ∧ J j wr) (fun _ i _ => hs.length - (intOf i).toNat)
  case atStart => exact ⟨0, Nat.zero_le _, rfl, rfl, h0⟩
  case round =>
    obtain ⟨j, hj, rfl, rfl, hJj⟩ := hrel
    have hb := hI j wr (hJ j wr hJj)
    have zp := below_cell hb hpb
    have zr := below_cell hb hrb
    by_cases hend : j = hs.length
    · obtain rfl : j = m := by omega
      have dj : decide (j < hs.length) = false := decide_eq_false (by omega)
      have dj' : decide ((j : Int) < (hs.length : Int)) = false := decide_eq_false (by omega)
      gi_wp2
      go_end0
      exact ⟨⟨_, rfl⟩, .inl hJj⟩
    · have hlt : j < hs.length := by omega
      obtain ⟨hr64, b1, o1, n1, k1, e1, q1⟩ := HG.out j hlt
      simp only [Value.slice.injEq] at e1
      obtain ⟨rfl, -, -⟩ := e1
      have y1 := below_cell hb q1
      rw [nth_at hlt] at y1 hr64
      have j0 : (0 : Int) ≤ (j : Int) := by omega
      have j1 : (j : Int) < (hs.length : Int) := by omega
      obtain ⟨la, hla⟩ : ∃ la, la = lastH (hs.take j) := ⟨_, rfl⟩
      have hge := lastH_ge (helpB_front (rows := rows) (row := row) (hs := hs.take m) HGO.out j)
      rw [List.take_take, Nat.min_eq_left hj, ← hla] at hge
      have HLN := Lib.hid (lastH_take hlt)
      obtain ⟨r, hr⟩ : ∃ r, r = hs[j] := ⟨_, rfl⟩
      rw [← hr] at y1 hr64 HLN
      rw [← hla]
      by_cases hjm : j < m
      · have h1 : helpOne rows.length row la r = true := by
          have h2 := helpB_front HGO.out (j + 1)
          rw [List.take_take, Nat.min_eq_left (by omega), helpB_take hlt (by have h3 := helpB_front HGO.out j; rwa [List.take_take, Nat.min_eq_left (by omega)] at h3), ← hla, ← hr] at h2
          exact h2
        unfold helpOne at h1
        simp only [Bool.and_eq_true, decide_eq_true_eq] at h1
        obtain ⟨n, hn⟩ : ∃ n : Nat, r = n := ⟨r.toNat, by omega⟩
        have hnl : n < rows.length := by omega
        obtain ⟨b2, off2, rfl, q2⟩ := hg n hnl
        have hgn : g (hs.getD j 0).toNat = g n := by rw [getD_at hlt, ← hr, hn, Int.toNat_natCast]
        have z2 := below_cell hb q2
        have e1 : decide (r ≤ la) = false := decide_eq_false (by omega)
        have e2 : decide ((rows.length : Int) ≤ r) = false := decide_eq_false (by omega)
        have e3 : (r == row) = false := beq_eq_false_iff_ne.2 h1.2.2
        subst hn
        have n0 : 0 ≤ (n : Int) := by omega
        have n1 : (n : Int) < (rows.length : Int) := by omega
        obtain ⟨fn, tmps, assign, body, hy, hR⟩ := hY j _ hJj hjm
        simp only [hgn] at hy
        clear hg q1 q2 hgn h1 hr hla hb hge
        generalize g n = gv at *
        gi_wp2
        refine ⟨rfl, hR.mono ?_⟩
        rintro e W3 (⟨rfl, hJ3⟩ | ⟨rfl, hJx3⟩)
        · gi_wp2
          go_roundw
          case rel => exact ⟨j + 1, by omega, by go_num, by rw [HLN.out], hJ3⟩
          case measure => simp [intOf]; omega
        · gi_wp2
          refine bodyPost_ret (results_none rfl _ _ _) rfl ?_
          exact ⟨⟨_, rfl⟩, .inr ⟨j + 1, by omega, hJx3⟩⟩
      · obtain rfl : j = m := by omega
        have h1 := HBA.out hlt
        rw [← hla, ← hr] at h1
        unfold helpOne at h1
        have HJ := Lib.hid hJj
        clear hg q1 hr hla hb hJj
        by_cases x1 : r ≤ la
        · have e1 : decide (r ≤ la) = true := decide_eq_true x1
          clear h1
          gi_wp2
          refine ⟨fun _ h => (by cases h), ?_⟩
          gi_wp2
          refine bodyPost_ret (results_none rfl _ _ _) rfl ?_
          exact ⟨⟨_, rfl⟩, .inl HJ.out⟩
        have e1 : decide (r ≤ la) = false := decide_eq_false x1
        by_cases x2 : (rows.length : Int) ≤ r
        · have e2 : decide ((rows.length : Int) ≤ r) = true := decide_eq_true x2
          clear h1
          gi_wp2
          refine ⟨fun _ h => (by cases h), ?_⟩
          gi_wp2
          refine bodyPost_ret (results_none rfl _ _ _) rfl ?_
          exact ⟨⟨_, rfl⟩, .inl HJ.out⟩
        · have e2 : decide ((rows.length : Int) ≤ r) = false := decide_eq_false x2
          have x3 : r = row := by
            rw [decide_eq_true (show la < r by omega), decide_eq_true (show r < (rows.length : Int) by omega), Bool.true_and, Bool.true_and] at h1
            exact Classical.byContradiction fun h => by rw [decide_eq_true h] at h1; cases h1
          have e3 : (r == row) = true := by rw [x3]; simp
          clear h1 x3
          gi_wp2
          refine ⟨fun _ h => (by cases h), ?_⟩
          gi_wp2
          refine bodyPost_ret (results_none rfl _ _ _) rfl ?_
          exact ⟨⟨_, rfl⟩, .inl HJ.out⟩

end Go.Proofs.Ytnbkbnbmmkfckaa

namespace Go.Proofs.Ytnbkbnbmmkfckaa
open Go.RowKit FP

set_option maxRecDepth 100000 in
theorem rhelpers_any (rv ov hv : Value) (row : Int) (w : World) (hr : ∃ a n c, rv = .slice a n c) (ho : ∃ a n c, ov = .slice a n c) (hl : ∃ a n c, hv = .slice a n c) :
    Calls Try.prog 53 #[.agg #[rv, ov], .int .i64 row, hv] w fun e w' =>
      e = .returned (.func (.func 111) #[] #[.pointer (some ⟨w.heap.size + 1 + 1, 0, none⟩), .pointer (some ⟨w.heap.size, 0, none⟩), .pointer (some ⟨w.heap.size + 1, 0, none⟩)]) ∧ w' = ((w.alloc (.cells #[rv, ov] 25)).alloc (.cells #[.int .i64 row] 3)).alloc (.cells #[hv] 23) := by
  obtain ⟨a, n, c, rfl⟩ := hr
  obtain ⟨a2, n2, c2, rfl⟩ := ho
  obtain ⟨a3, n3, c3, rfl⟩ := hl
  have hmf : ∀ (fn : Fn) (first cap : Array Value) (w : World), (Instr.makeFunc fn first cap).run Try.prog w = .ok (.func fn first cap) w := fun _ _ _ _ => rfl
  go_enter Try.func53, Try.ntmps53
  go_wp2_with fail
  go_ret
  exact ⟨rfl, rfl⟩
set_option maxRecDepth 100000 in
theorem help1_goes : Goes Try.prog 111 := goes_of Try.func111 (by kernel_rfl) rfl

set_option maxRecDepth 100000 in
/-- Helpers, collected. -/
theorem chelp_any (rv ov hv : Value) (rows : List (List Int)) (row : Int) (hs : List Int) (w W : World) (hW : W = ((w.alloc (.cells #[rv, ov] 25)).alloc (.cells #[.int .i64 row] 3)).alloc (.cells #[hv] 23)) (hR : Rows2 w rv rows) (hL : Ints w hv hs) (m : Nat) (hm : m ≤ hs.length) (hgood : helpB rows row (hs.take m) = true) (hbad : ∀ h : m < hs.length, helpOne rows.length row (lastH (hs.take m)) hs[m] = false) (hl : m ≤ 1000000) :
    Calls Try.prog 52 #[.func (.func 111) #[] #[.pointer (some ⟨w.heap.size + 1 + 1, 0, none⟩), .pointer (some ⟨w.heap.size, 0, none⟩), .pointer (some ⟨w.heap.size + 1, 0, none⟩)]] W fun e w' => ∃ v, e = .returned v ∧ Rows2 w' v (someQ rows (hs.take m)) ∧ Below w.heap.size w w' := by
  obtain ⟨A, hA⟩ : ∃ A, A = w.alloc (.cells #[rv, ov] 25) := ⟨_, rfl⟩
  obtain ⟨B, hB⟩ : ∃ B, B = A.alloc (.cells #[.int .i64 row] 3) := ⟨_, rfl⟩
  rw [← hA, ← hB] at hW
  have a1 : Below w.heap.size w A := hA ▸ below_new _ _ _
  have b1 : Below A.heap.size A B := hB ▸ below_new _ _ _
  have d1 : Below B.heap.size B W := hW ▸ below_new _ _ _
  have sa : A.heap.size = w.heap.size + 1 := by rw [hA]; simp
  have sb : B.heap.size = w.heap.size + 1 + 1 := by rw [hB]; simp [sa]
  have hb : Below w.heap.size w W := (a1.trans (b1.mono a1.size)).trans (d1.mono (Nat.le_trans a1.size b1.size))
  have hpb : W.cell? ⟨w.heap.size, 0, none⟩ = some rv := below_cell d1 (below_cell b1 (by rw [hA]; exact row_cell (World.alloc_heap_new w _) rfl))
  have hrb : W.cell? ⟨w.heap.size + 1, 0, none⟩ = some (.int .i64 row) := below_cell d1 (by rw [hB, ← sa]; exact row_cell (World.alloc_heap_new A _) rfl)
  have hhb : W.cell? ⟨w.heap.size + 1 + 1, 0, none⟩ = some hv := by rw [hW, ← sb]; exact row_cell (World.alloc_heap_new B _) rfl
  have hRW := hR.below hb
  have hLW := hL.below hb
  obtain ⟨a, cap, g, hrv, hgs, hgk⟩ := rows_vals hRW
  refine (collect_any 111 _ m (fun j => g (hs.getD j 0).toNat) W help1_goes (fun j => hgs _) hl
    (fun I hI => help1_iterates (w.heap.size + 1 + 1) w.heap.size (w.heap.size + 1) rv hv row hs rows W a cap g hrv (fun k hk => by obtain ⟨b, off, h1, h2, -⟩ := hgk k hk; exact ⟨b, off, h1, h2⟩) hLW m hm hgood hbad hhb hpb hrb I hI)).mono ?_
  rintro e w' ⟨v, rfl, ho, hb'⟩
  have hlt : (hs.take m).length = m := by rw [List.length_take]; omega
  refine ⟨v, rfl, Rows2.own ho (by rw [someQ_len, hlt]; simp) (by rw [someQ_len, hlt]; omega) ?_, hb.trans (hb'.mono hb.size)⟩
  intro k h1 h2
  rw [someQ_len, hlt] at h1
  have hkl : k < (hs.take m).length := by omega
  obtain ⟨i0, i1⟩ := (helpB_in hgood _ (List.getElem_mem hkl)).1
  have hkr : (hs.take m)[k].toNat < rows.length := by omega
  obtain ⟨b, off, -, -, h3⟩ := hgk _ hkr
  have e0 : (hs.take m)[k] = hs[k]'(by omega) := List.getElem_take
  have e1 : ((List.range m).map (fun j => g (hs.getD j 0).toNat))[k] = g (hs.take m)[k].toNat := by
    rw [List.getElem_map, List.getElem_range, getD_at (show k < hs.length by omega), e0]
  have e2 : (someQ rows (hs.take m))[k]'(by rw [someQ_len]; exact hkl) = rows[(hs.take m)[k].toNat] := by
    rw [someQ_at rows (hs.take m) hkl]; exact getD_at hkr []
  rw [e1, e2]
  exact h3.below hb'

set_option maxRecDepth 100000 in
set_option maxHeartbeats 8000000 in
theorem plan_any (rv ov hv : Value) (rows : List (List Int)) (owners : List Int) (row : Int) (hs : List Int) (w : World) (hR : Rows2 w rv rows) (hO : Ints w ov owners) (hH : Ints w hv hs) (hrow : R64 row) (hl : hs.length ≤ 1000000) :
    Calls Try.prog 14 #[.agg #[rv, ov], .int .i64 row, hv] w fun r w' => ∃ yv, r = .returned (.tuple #[yv, .bool (planOk rows owners row hs), .int .i64 (planE rows owners row hs)]) ∧ Ints w' yv (planY rows owners row hs) ∧ Below w.heap.size w w' := by
  have off : ∀ e : Int, e ≠ 0 → planE rows owners row hs = e → planOk rows owners row hs = false ∧ planY rows owners row hs = [] := fun e h0 he => by
    have h1 : planOk rows owners row hs = false := by unfold planOk; rw [he, decide_eq_false h0, Bool.false_and]
    exact ⟨h1, by unfold planY; rw [h1]; rfl⟩
  obtain ⟨W1, hW1, hb1, hr1, hz⟩ := box_prog w rv ov 25
  have HR := Lib.hid (hR.below hb1)
  have HO := Lib.hid (hO.below hb1)
  have HH := Lib.hid (hH.below hb1)
  obtain ⟨a1, k1, rfl, -, hl1, -⟩ := id hR
  obtain ⟨a2, k2, rfl, -, hl2, -⟩ := id hO
  obtain ⟨a3, k3, rfl, -, hl3, -⟩ := id hH
  have c0 : W1.cell? ⟨w.heap.size, 0, none⟩ = some (.slice a1 rows.length k1) := row_cell hr1 rfl
  have c1 : W1.cell? ⟨w.heap.size, 1, none⟩ = some (.slice a2 owners.length k2) := row_cell hr1 rfl
  have HW1 := Lib.hid hW1
  have HB := Lib.hid hb1
  have HOFF := Lib.hid off
  have HLL := Lib.hid hl
  clear hR hO hH hr1 hW1 hb1 hz off hl
  by_cases hp : progE rows owners = 0
  rotate_left
  · have HV : Hid (planE rows owners row hs = progE rows owners) := Lib.hid (by unfold planE; rw [if_pos hp])
    have HX := Lib.hid (HOFF.out _ hp HV.out)
    have HPC := Lib.hid (pCheck_any _ _ rows owners _ HR.out HO.out)
    have d0 : (progE rows owners != 0) = true := bne_iff_ne.2 hp
    generalize progE rows owners = q at *
    clear hp
    go_enter Try.func14, Try.ntmps14
    go_wp2_with (rw [← HW1.out])
    refine (HPC.out).mono ?_
    rintro e w2 ⟨rfl, hb2⟩
    replace c0 := below_cell hb2 c0
    replace c1 := below_cell hb2 c1
    replace HR := Lib.hid (HR.out.below hb2)
    replace HO := Lib.hid (HO.out.below hb2)
    replace HH := Lib.hid (HH.out.below hb2)
    replace HB := Lib.hid (HB.out.trans (hb2.mono HB.out.size))
    clear hb2
    go_wp2_with fail
    go_ret3
    exact ⟨.slice none 0 0, by rw [HX.out.1, HV.out]; rfl, by rw [HX.out.2]; exact Ints.nil _ none 0, HB.out⟩
  have HPC := Lib.hid (pCheck_any _ _ rows owners _ HR.out HO.out)
  have HPO := Lib.hid (progE_ok hp)
  by_cases hin : 0 ≤ row ∧ row < (rows.length : Int)
  rotate_left
  · have HV : Hid (planE rows owners row hs = 1) := Lib.hid (by unfold planE; rw [if_neg (by simp [hp]), if_neg (fun h => hin h.1)])
    have HX := Lib.hid (HOFF.out _ (by decide) HV.out)
    rw [hp] at HPC
    by_cases h0 : row < 0
    · have d0 : decide (row < 0) = true := decide_eq_true h0
      clear hp hin h0
      go_enter Try.func14, Try.ntmps14
      go_wp2_with (rw [← HW1.out])
      refine (HPC.out).mono ?_
      rintro e w2 ⟨rfl, hb2⟩
      replace c0 := below_cell hb2 c0
      replace c1 := below_cell hb2 c1
      replace HR := Lib.hid (HR.out.below hb2)
      replace HO := Lib.hid (HO.out.below hb2)
      replace HH := Lib.hid (HH.out.below hb2)
      replace HB := Lib.hid (HB.out.trans (hb2.mono HB.out.size))
      clear hb2
      go_wp2_with fail
      go_ret3
      exact ⟨.slice none 0 0, by rw [HX.out.1, HV.out]; rfl, by rw [HX.out.2]; exact Ints.nil _ none 0, HB.out⟩
    · have d0 : decide (row < 0) = false := decide_eq_false h0
      have d1 : decide ((rows.length : Int) ≤ row) = true := decide_eq_true (by omega)
      clear hp hin h0
      go_enter Try.func14, Try.ntmps14
      go_wp2_with (rw [← HW1.out])
      refine (HPC.out).mono ?_
      rintro e w2 ⟨rfl, hb2⟩
      replace c0 := below_cell hb2 c0
      replace c1 := below_cell hb2 c1
      replace HR := Lib.hid (HR.out.below hb2)
      replace HO := Lib.hid (HO.out.below hb2)
      replace HH := Lib.hid (HH.out.below hb2)
      replace HB := Lib.hid (HB.out.trans (hb2.mono HB.out.size))
      clear hb2
      go_wp2_with fail
      go_ret3
      exact ⟨.slice none 0 0, by rw [HX.out.1, HV.out]; rfl, by rw [HX.out.2]; exact Ints.nil _ none 0, HB.out⟩
  obtain ⟨n, rfl⟩ : ∃ n : Nat, row = n := ⟨row.toNat, by omega⟩
  have d0 : decide ((n : Int) < 0) = false := decide_eq_false (by omega)
  have d1 : decide ((rows.length : Int) ≤ (n : Int)) = false := decide_eq_false (by omega)
  have i0 : (0 : Int) ≤ (n : Int) := hin.1
  have i1 : (n : Int) < (rows.length : Int) := hin.2
  have hnl : n < rows.length := by omega
  have HE : Hid (planE rows owners n hs = if helpB rows n hs = true then 0 else 1) := Lib.hid (by
    unfold planE; rw [if_neg (by simp [hp])]
    by_cases h : helpB rows n hs = true
    · rw [if_pos ⟨hin, h⟩, if_pos h]
    · rw [if_neg (fun h2 => h h2.2), if_neg h])
  rw [hp] at HPC
  clear hp hin
  obtain ⟨m, hm, hgood, hbad⟩ := help_far rows n hs
  have HAL := Lib.hid (help_all hm hgood hbad)
  have HM := Lib.hid hm
  have HGO := Lib.hid hgood
  have HBA := Lib.hid hbad
  clear hm hgood hbad
  go_enter Try.func14, Try.ntmps14
  go_wp2_with (rw [← HW1.out])
  refine (HPC.out).mono ?_
  rintro e w2 ⟨rfl, hb2⟩
  replace c0 := below_cell hb2 c0
  replace c1 := below_cell hb2 c1
  replace HR := Lib.hid (HR.out.below hb2)
  replace HO := Lib.hid (HO.out.below hb2)
  replace HH := Lib.hid (HH.out.below hb2)
  replace HB := Lib.hid (HB.out.trans (hb2.mono HB.out.size))
  clear hb2
  go_wp2_with fail
  refine (rhelpers_any _ _ _ _ _ ⟨_, _, _, rfl⟩ ⟨_, _, _, rfl⟩ ⟨_, _, _, rfl⟩).mono ?_
  rintro e w3 ⟨rfl, rfl⟩
  go_wp2_with fail
  refine (chelp_any _ _ _ rows n hs w2 _ rfl HR.out HH.out m HM.out HGO.out HBA.out (by have := HM.out; have := HLL.out; omega)).mono ?_
  rintro e w4 ⟨v, rfl, hv4, hb4⟩
  obtain ⟨va, vc, rfl, -⟩ := id hv4
  have hvl : (someQ rows (hs.take m)).length = m := by rw [someQ_len, List.length_take]; have := HM.out; omega
  have HV4 := Lib.hid hv4
  replace c0 := below_cell hb4 c0
  replace c1 := below_cell hb4 c1
  replace HR := Lib.hid (HR.out.below hb4)
  replace HO := Lib.hid (HO.out.below hb4)
  replace HH := Lib.hid (HH.out.below hb4)
  replace HB := Lib.hid (HB.out.trans (hb4.mono HB.out.size))
  clear hb4
  rw [hvl] at HV4 ⊢
  clear hv4 hvl
  by_cases hml : m = hs.length
  rotate_left
  · have HV : Hid (planE rows owners n hs = 1) := Lib.hid (by rw [HE.out, HAL.out, decide_eq_false hml]; rfl)
    have HX := Lib.hid (HOFF.out _ (by decide) HV.out)
    have dm : ((m : Int) != (hs.length : Int)) = true := bne_iff_ne.2 (by omega)
    clear hml
    go_wp2_with fail
    go_ret3
    exact ⟨.slice none 0 0, by rw [HX.out.1, HV.out]; rfl, by rw [HX.out.2]; exact Ints.nil _ none 0, HB.out⟩
  · have HV : Hid (planE rows owners n hs = 0) := Lib.hid (by rw [HE.out, HAL.out, decide_eq_true hml]; rfl)
    have dm : ((m : Int) != (hs.length : Int)) = false := by rw [hml]; simp
    have hhb : helpB rows n hs = true := by rw [HAL.out, decide_eq_true hml]
    have HRS := Lib.hid (some_right HPO.out hhb)
    have hrr := row_right HPO.out (row := (n : Int)) ⟨i0, i1⟩
    have hgd : rows.getD (n : Int).toNat [] = rows[n] := by rw [Int.toNat_natCast]; exact getD_at hnl []
    have htk : hs.take m = hs := by rw [hml, List.take_length]
    rw [htk] at HV4
    have HO1 : Hid (planOk rows owners n hs = rcombOk (someQ rows hs) rows[n]) := Lib.hid (by unfold planOk; rw [HV.out, hgd]; rfl)
    have HY1 : Hid (planY rows owners n hs = if rcombOk (someQ rows hs) rows[n] = true then rcombY (someQ rows hs) rows[n] else []) := Lib.hid (by unfold planY; rw [HO1.out, hgd])
    rw [hgd] at hrr
    have HEX : Hid (examErr (someQ rows hs) rows[n] = 0) := Lib.hid (examErr_right (by rw [hrr.1]; exact HRS.out) hrr.2 (by rw [hrr.1]; exact HPO.out.cols_le))
    obtain ⟨a5, k5, e5, -, -, hk5⟩ := id HR.out
    obtain ⟨b6, o6, r6, ea6, q6, i6⟩ := hk5 n hnl
    simp only [Value.slice.injEq] at e5
    obtain ⟨rfl, -, -⟩ := e5
    subst ea6
    obtain ⟨ra6, rc6, rfl, -⟩ := id i6
    have HI6 := Lib.hid i6
    clear hml hhb hrr hgd htk hk5 i6 HAL HBA HGO HM
    cases hok : rcombOk (someQ rows hs) rows[n] with
    | true =>
      have HOK := Lib.hid hok
      rw [hok] at HO1 HY1
      clear hok
      go_wp2_with fail
      refine (Comb_yes _ _ (someQ rows hs) rows[n] _ HV4.out HI6.out HEX.out HOK.out).mono ?_
      rintro e w5 ⟨yv, rfl, hy5, hb5⟩
      replace c0 := below_cell hb5 c0
      replace c1 := below_cell hb5 c1
      replace HR := Lib.hid (HR.out.below hb5)
      replace HO := Lib.hid (HO.out.below hb5)
      replace HH := Lib.hid (HH.out.below hb5)
      replace HB := Lib.hid (HB.out.trans (hb5.mono HB.out.size))
      clear hb5
      have HY5 := Lib.hid hy5
      clear hy5
      go_wp2_with fail
      go_ret3
      exact ⟨yv, by rw [HO1.out, HV.out]; rfl, by rw [HY1.out]; simpa using HY5.out, HB.out⟩
    | false =>
      have HOK := Lib.hid hok
      rw [hok] at HO1 HY1
      clear hok
      go_wp2_with fail
      refine (Comb_no _ _ (someQ rows hs) rows[n] _ HV4.out HI6.out HEX.out HOK.out).mono ?_
      rintro e w5 ⟨yv, rfl, hy5, hb5⟩
      replace c0 := below_cell hb5 c0
      replace c1 := below_cell hb5 c1
      replace HR := Lib.hid (HR.out.below hb5)
      replace HO := Lib.hid (HO.out.below hb5)
      replace HH := Lib.hid (HH.out.below hb5)
      replace HB := Lib.hid (HB.out.trans (hb5.mono HB.out.size))
      clear hb5
      have HY5 := Lib.hid hy5
      clear hy5
      go_wp2_with fail
      go_ret3
      exact ⟨yv, by rw [HO1.out, HV.out]; rfl, by rw [HY1.out]; simpa using HY5.out, HB.out⟩

end Go.Proofs.Ytnbkbnbmmkfckaa
