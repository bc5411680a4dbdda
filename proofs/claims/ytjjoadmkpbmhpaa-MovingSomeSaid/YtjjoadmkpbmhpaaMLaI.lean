/- The rank, row by row; and that of the columns. Package dealing: the sum of shares. Package dealing: Recover. Dealing: the examples, reckoned; calls whose values are known. The reference of dealing: comparing; the laws' program of one row. The laws of dealing: the program of one row. The laws of dealing: the examples. The laws of dealing: small programs, columns, random numbers. The reference of dealing: Number, power, Commits, public, Public. The reference of dealing: Public, share, Fits, Few. The reference of dealing: Few. The reference of dealing: Numbers, Product, SameInts, Target. The laws of dealing: every share that was dealt fits, and with no other value. The laws of dealing: the sum of two lists, in plain Lean. What LinearSums and LinearChanged say, without a program: combinations of sums; rows that are changed. The laws of dealing: what is recovered from shares that were dealt; sums of dealings, in plain Lean. Rebuilding a share, in plain Lean. Package rebuild and its reference: numbers, sums. Package rebuild and its reference: Part. Package rebuild and its reference: Finish. Package rebuild: helpers, collected. Package rebuild: Plan. The reference of dealing: Shares. The reference of dealing: Deal. The reference of dealing: Deal, whatever comes of it. A region that draws its order inside a round of a range over a function: as outside, where no operation is about to call a Go function. -/
import Derived.Test.YtjjoadmkpbmhpaaMLaC
import Derived.Test.YtjjoadmkpbmhpaaMRange4
import Derived.Test.YtjjoadmkpbmhpaaMLinF
import Derived.Test.YtjjoadmkpbmhpaaMRange
import Derived.Deep.RegionHeld3
import Derived.BigQuiet
import Derived.Laws.EntriesVeiled
import Derived.Laws.ResultCell
import Derived.OrdersIn
namespace Go.Proofs.Ytjjoadmkpbmhpaa

theorem right_wide {rows : List (List Int)} {m : Nat} (h : Right rows m) (hn : rows ≠ []) : wide rows = m := by
  cases rows with
  | nil => exact absurd rfl hn
  | cons r l => exact h.len r (by simp)
theorem right_check {rows : List (List Int)} {m : Nat} (h : Right rows m) : checkErr rows = 0 := by
  rw [checkErr_few h.few]
  by_cases hn : rows = []
  · subst hn; rfl
  · have hm : m ≤ 64 := by
      rcases h.narrow with h1 | h1
      · exact h1
      · exact absurd h1 hn
    refine kindErr_ok rows (fun r hr => by rw [h.len r hr]; exact hm) (fun r hr => ?_)
    unfold rowOk
    rw [right_wide h hn, decide_eq_true (h.len r hr), any_no (fun z hz => by
      have := h.num r hr z hz
      simp [oddQ]; omega)]; rfl

/-! Prefixes. -/
end Go.Proofs.Ytjjoadmkpbmhpaa

namespace Go.Proofs.Ytjjoadmkpbmhpaa
open Go.RowKit FP

/-- Are shares right, and in order, behind a row? -/
def sharesB (rows : List (List Int)) (last : Int) : List (Int × Int) → Bool
  | [] => true
  | p :: l => rightS rows p.1 p.2 && (decide (last < p.1) && sharesB rows p.1 l)
/-- The last row. -/
def lastR (last : Int) (l : List (Int × Int)) : Int := (l.getLast?.map Prod.fst).getD last
theorem sharesB_snoc {rows : List (List Int)} {p : Int × Int} : ∀ {l : List (Int × Int)} {last : Int}, sharesB rows last (l ++ [p]) = (sharesB rows last l && (rightS rows p.1 p.2 && decide (lastR last l < p.1)))
  | [], last => by
    simp [sharesB, lastR]
    rfl
  | q :: l, last => by
    rw [List.cons_append, sharesB, sharesB_snoc, sharesB]
    have : lastR q.1 l = lastR last (q :: l) := by
      unfold lastR
      cases l with
      | nil => rfl
      | cons a t => rw [List.getLast?_cons_cons]; simp [List.getLast?_cons]
    rw [this]
    cases rightS rows q.1 q.2 <;> cases decide (last < q.1) <;> simp
theorem lastR_snoc (last : Int) (l : List (Int × Int)) (p : Int × Int) : lastR last (l ++ [p]) = p.1 := by unfold lastR; simp
theorem sharesB_take {rows : List (List Int)} {l : List (Int × Int)} {last : Int} {k : Nat} (hk : k < l.length) : sharesB rows last (l.take (k + 1)) = (sharesB rows last (l.take k) && (rightS rows l[k].1 l[k].2 && decide (lastR last (l.take k) < l[k].1))) := by
  rw [List.take_succ_eq_append_getElem hk, sharesB_snoc]
theorem lastR_take {l : List (Int × Int)} {last : Int} {k : Nat} (hk : k < l.length) : lastR last (l.take (k + 1)) = l[k].1 := by
  rw [List.take_succ_eq_append_getElem hk, lastR_snoc]
theorem sharesB_front {rows : List (List Int)} : ∀ {l : List (Int × Int)} {last : Int}, sharesB rows last l = true → ∀ k, sharesB rows last (l.take k) = true
  | [], _, _, k => by rw [List.take_nil]; rfl
  | p :: l, last, h, 0 => rfl
  | p :: l, last, h, k + 1 => by
    rw [List.take_succ_cons]
    unfold sharesB at h ⊢
    simp only [Bool.and_eq_true] at h ⊢
    exact ⟨h.1, h.2.1, sharesB_front h.2.2 k⟩
theorem sharesB_all {rows : List (List Int)} : ∀ {l : List (Int × Int)} {last : Int}, sharesB rows last l = true → (∀ p ∈ l, rightS rows p.1 p.2 = true) ∧ (l ≠ [] → last + l.length < (rows.length : Int))
  | [], _, _ => ⟨by simp, fun h => absurd rfl h⟩
  | p :: l, last, h => by
    unfold sharesB at h
    simp only [Bool.and_eq_true, decide_eq_true_eq] at h
    obtain ⟨h1, h2, h3⟩ := h
    obtain ⟨i1, i2⟩ := sharesB_all h3
    refine ⟨fun q hq => ?_, fun _ => ?_⟩
    · rcases List.mem_cons.1 hq with rfl | hq
      · exact h1
      · exact i1 q hq
    · have h4 := (rightS_iff.1 h1).1
      by_cases hl : l = []
      · subst hl; simp; omega
      · have := i2 hl; rw [List.length_cons]; omega
theorem sharesB_len {rows : List (List Int)} {l : List (Int × Int)} (h : sharesB rows (-1) l = true) : l.length ≤ rows.length := by
  by_cases hl : l = []
  · subst hl; simp
  · have := (sharesB_all h).2 hl; omega

end Go.Proofs.Ytjjoadmkpbmhpaa

namespace Go.Proofs.Ytjjoadmkpbmhpaa
open Go.RowKit FP

/-- The target of a program. -/
def tgtF (i : Nat) : Int := if i = 0 then 1 else 0
def tgt (n : Nat) : List Int := (List.range n).map tgtF
theorem tgt_len (n : Nat) : (tgt n).length = n := by simp [tgt]
theorem tgt_num (n : Nat) : ∀ z ∈ tgt n, 0 ≤ z ∧ z < 1073741789 := by
  intro z hz
  obtain ⟨i, -, rfl⟩ := List.mem_map.1 hz
  unfold tgtF; split <;> omega
theorem examErr_right {rows : List (List Int)} {t : List Int} (h : Right rows t.length) (ht : ∀ z ∈ t, 0 ≤ z ∧ z < 1073741789) (hl : t.length ≤ 64) : examErr rows t = 0 := by
  unfold examErr
  rw [if_pos (right_check h), if_pos (kind1_ok hl (any_odd_of ht)), if_pos]
  by_cases hr : rows = []
  · exact .inl (by rw [hr]; rfl)
  · exact .inr (right_wide h hr)

end Go.Proofs.Ytjjoadmkpbmhpaa

namespace Go.Proofs.Ytjjoadmkpbmhpaa
open Go.RowKit FP

theorem right_lit (rows : List (List Int)) (m : Nat) (h : (decide (rows.length ≤ 64) && (decide (m ≤ 64) && rows.all fun r => decide (r.length = m) && r.all fun z => decide (0 ≤ z) && decide (z < 1073741789))) = true) : Right rows m := by
  simp only [Bool.and_eq_true, decide_eq_true_eq, List.all_eq_true] at h
  obtain ⟨h1, h2, h3⟩ := h
  exact ⟨h1, .inl h2, fun r hr => (h3 r hr).1, fun r hr z hz => (h3 r hr).2 z hz⟩
theorem num_lit (t : List Int) (h : (t.all fun z => decide (0 ≤ z) && decide (z < 1073741789)) = true) : ∀ z ∈ t, 0 ≤ z ∧ z < 1073741789 := by
  simp only [Bool.and_eq_true, decide_eq_true_eq, List.all_eq_true] at h
  exact h
end Go.Proofs.Ytjjoadmkpbmhpaa

namespace Go.Proofs.Ytjjoadmkpbmhpaa
open Go.RowKit FP

def sameS (a b : List (Int × Int)) : Bool := decide (a = b)
theorem take_eq_next {α : Type} {a b : List α} {k : Nat} (ha : k < a.length) (hb : k < b.length) (h : a.take k = b.take k) (he : a[k] = b[k]) : a.take (k + 1) = b.take (k + 1) := by
  rw [List.take_succ_eq_append_getElem ha, List.take_succ_eq_append_getElem hb, h, he]

set_option maxRecDepth 100000 in
set_option maxHeartbeats 4000000 in
theorem rsame_any (u v : Value) (a b : List (Int × Int)) (w : World) (hA : Shares w u a) (hB : Shares w v b) :
    Calls Try.prog 17 #[u, v] w fun r w' => r = .returned (.bool (sameS a b)) ∧ Below w.heap.size w w' := by
  obtain ⟨aa, ca, rfl, -, hla, -, hka⟩ := hA
  obtain ⟨ab, cb, rfl, -, hlb, -, hkb⟩ := hB
  have HA := Lib.hid hka
  have HB := Lib.hid hkb
  clear hka hkb
  by_cases hl : a.length = b.length
  · have hlI : ((a.length : Int) != (b.length : Int)) = false := by rw [hl]; exact bne_self_eq_false _
    have HLN := Lib.hid hl
    clear hl
    go_enter Try.func17, Try.ntmps17
    go_wp2_with fail
    go_loopw [5] (fun i W => ∃ k : Nat, k ≤ a.length ∧ i = .int .i64 k ∧ Hid (a.take k = b.take k) ∧ Below w.heap.size w W) (fun i _ => a.length - (intOf i).toNat)
    case atStart => exact ⟨0, Nat.zero_le _, rfl, Lib.hid rfl, Below.refl _ _⟩
    case round =>
      obtain ⟨k, hkl, rfl, HT, hb⟩ := hrel
      by_cases hlt : k < a.length
      · have hltb : k < b.length := by have := HLN.out; omega
        obtain ⟨b1, o1, e1, p0, p1⟩ := HA.out k hlt
        obtain ⟨b2, o2, e2, q0, q1⟩ := HB.out k hltb
        subst e1 e2
        have y0 := below_cell hb p0
        have y1 := below_cell hb p1
        have z0 := below_cell hb q0
        have z1 := below_cell hb q1
        have i0 : 0 ≤ (k : Int) := by omega
        have i1 : (k : Int) < (a.length : Int) := by omega
        have i2 : (k : Int) < (b.length : Int) := by omega
        have HBW := Lib.hid hb
        clear p0 p1 q0 q1 hb
        by_cases he : a[k] = b[k]
        · have HN := Lib.hid (take_eq_next hlt hltb HT.out he)
          have f1 : b[k].1 = a[k].1 := by rw [he]
          have f2 : b[k].2 = a[k].2 := by rw [he]
          rw [f1] at z0
          rw [f2] at z1
          clear he f1 f2
          generalize a[k].1 = x1 at *
          generalize a[k].2 = x2 at *
          go_wp2_with fail
          go_quiet (fail)
          go_wp2_with fail
          go_roundw
          case rel => exact ⟨k + 1, by omega, by go_num, HN, below_drewN HBW.out _⟩
          case measure => simp [intOf]; omega
        · have HV := Lib.hid (show sameS a b = false by
            unfold sameS; refine decide_eq_false (fun e => he ?_)
            subst e; rfl)
          by_cases h1 : a[k].1 = b[k].1
          · have n1 : (a[k].1 == b[k].1) = true := beq_iff_eq.2 h1
            have n2 : (a[k].2 == b[k].2) = false := beq_eq_false_iff_ne.2 (fun h2 => he (Prod.ext h1 h2))
            clear he h1
            generalize a[k].1 = x1 at *
            generalize a[k].2 = x2 at *
            generalize b[k].1 = x3 at *
            generalize b[k].2 = x4 at *
            go_wp2_with fail
            go_quiet (fail)
            go_wp2_with fail
            go_ret
            exact ⟨ret_bool HV.out.symm, below_drewN HBW.out _⟩
          · have n1 : (a[k].1 == b[k].1) = false := beq_eq_false_iff_ne.2 h1
            clear he h1
            generalize a[k].1 = x1 at *
            generalize a[k].2 = x2 at *
            generalize b[k].1 = x3 at *
            generalize b[k].2 = x4 at *
            go_wp2_with fail
            go_quiet (fail)
            go_wp2_with fail
            go_ret
            exact ⟨ret_bool HV.out.symm, below_drewN HBW.out _⟩
      · have HV := Lib.hid (show sameS a b = true by
          unfold sameS; refine decide_eq_true ?_
          have := HT.out
          rwa [List.take_of_length_le (by omega), List.take_of_length_le (by have := HLN.out; omega)] at this)
        have hdk : decide (k < a.length) = false := decide_eq_false hlt
        go_wp2_with fail
        go_ret
        exact ⟨ret_bool HV.out.symm, hb⟩
  · have hlI : ((a.length : Int) != (b.length : Int)) = true := bne_iff_ne.2 (by omega)
    have HV := Lib.hid (show sameS a b = false by unfold sameS; exact decide_eq_false (fun e => hl (by rw [e])))
    go_enter Try.func17, Try.ntmps17
    go_wp2_with fail
    go_ret
    exact ⟨ret_bool HV.out.symm, Below.refl _ _⟩

end Go.Proofs.Ytjjoadmkpbmhpaa

namespace Go.Proofs.Ytjjoadmkpbmhpaa
open Go.RowKit FP

theorem rows_of1 {w : World} {b c : Nat} {r : Value} {x : List Int} (h : w.cell? ⟨b, 0, none⟩ = some r) (hI : Ints w r x) (hc : 1 ≤ c) : Rows2 w (.slice (some ⟨b, 0, none⟩) 1 c) [x] :=
  ⟨_, c, rfl, hc, by simp, fun k hk => ⟨b, 0, r, rfl, by obtain rfl : k = 0 := (by simp at hk; omega); exact h, by obtain rfl : k = 0 := (by simp at hk; omega); exact hI⟩⟩
theorem ints_of1 {w : World} {b c : Nat} {x : Int} (h : w.cell? ⟨b, 0, none⟩ = some (.int .i64 x)) (hx : R64 x) (hc : 1 ≤ c) : Ints w (.slice (some ⟨b, 0, none⟩) 1 c) [x] :=
  ⟨_, c, rfl, hc, by simp, by simpa using hx, fun k hk => ⟨b, 0, rfl, by obtain rfl : k = 0 := (by simp at hk; omega); exact h⟩⟩
theorem ints_of2 {w : World} {b c : Nat} {x y : Int} (h : w.cell? ⟨b, 0, none⟩ = some (.int .i64 x)) (h2 : w.cell? ⟨b, 1, none⟩ = some (.int .i64 y)) (hx : R64 x) (hy : R64 y) (hc : 2 ≤ c) : Ints w (.slice (some ⟨b, 0, none⟩) 2 c) [x, y] :=
  ⟨_, c, rfl, hc, by simp, by simp [hx, hy], fun k hk => ⟨b, 0, rfl, by
    match k, hk with
    | 0, _ => exact h
    | 1, _ => exact h2⟩⟩
end Go.Proofs.Ytjjoadmkpbmhpaa

namespace Go.Proofs.Ytjjoadmkpbmhpaa
open Go.RowKit FP

end Go.Proofs.Ytjjoadmkpbmhpaa

namespace Go.Proofs.Ytjjoadmkpbmhpaa
open Go.RowKit FP

/-- The slice v reads as words. -/
def Words (w : World) (v : Value) (l : List Int) : Prop :=
  ∃ a cap, v = .slice a l.length cap ∧ l.length ≤ cap ∧ l.length ≤ 1000000000000000 ∧ (∀ z ∈ l, 0 ≤ z ∧ z < 4294967296) ∧
    ∀ k (h : k < l.length), ∃ b off, a = some ⟨b, off, none⟩ ∧ w.cell? ⟨b, off + k, none⟩ = some (.int .u32 l[k])
theorem Words.below {w w' : World} {v : Value} {l : List Int} (h : Words w v l) (hb : Below w.heap.size w w') : Words w' v l := by
  obtain ⟨a, cap, rfl, hc, hl, hr, hk⟩ := h
  refine ⟨a, cap, rfl, hc, hl, hr, fun k hlt => ?_⟩
  obtain ⟨b, off, ha, h1⟩ := hk k hlt
  exact ⟨b, off, ha, below_cell hb h1⟩
theorem Words.nil (w : World) (a : Option Addr) (cap : Nat) : Words w (.slice a 0 cap) [] :=
  ⟨a, cap, rfl, Nat.zero_le _, by simp, by simp, fun k h => absurd h (Nat.not_lt_zero _)⟩

/-- Is a program right, and small? -/
def smallQ (rows : List (List Int)) (owners : List Int) : Bool := decide (rows.length ≤ 16) && (decide (progE rows owners = 0) && decide (colsQ rows ≤ 16))

set_option maxRecDepth 100000 in
set_option maxHeartbeats 1000000 in
theorem rcolumns_any (rv ov : Value) (rows : List (List Int)) (owners : List Int) (w : World) (hR : Rows2 w rv rows) (hO : Ints w ov owners) :
    Calls Try.prog 24 #[.agg #[rv, ov]] w fun e w' => e = .returned (.int .i64 (colsQ rows)) ∧ Below w.heap.size w w' := by
  obtain ⟨W1, hW1, hb1, hr1, hz⟩ := box_prog w rv ov 25
  have HR1 := Lib.hid (hR.below hb1)
  obtain ⟨a, cap, rfl, -, hlen, -⟩ := id hR
  obtain ⟨a2, cap2, rfl, -, hlen2, -⟩ := id hO
  have c0 : W1.cell? ⟨w.heap.size, 0, none⟩ = some (.slice a rows.length cap) := rowp_cell hr1 rfl
  have HW1 := Lib.hid hW1
  have HB1 := Lib.hid hb1
  clear hR hO hr1 hW1 hb1
  by_cases h0 : rows.length = 0
  · have HV := Lib.hid (show colsQ rows = 1 by unfold colsQ; rw [if_pos h0])
    have z0 : ((rows.length : Int) == 0) = true := by rw [h0]; rfl
    clear h0
    go_enter Try.func24, Try.ntmps24
    go_wp2_with fail
    go_ret
    exact ⟨ret_int (by rw [HV.out]; rfl), HW1.out ▸ HB1.out⟩
  · have HV := Lib.hid (show colsQ rows = wide rows by unfold colsQ; rw [if_neg h0])
    have z0 : ((rows.length : Int) == 0) = false := beq_eq_false_iff_ne.2 (by omega)
    obtain ⟨aa, cc, e1, -, -, hk⟩ := HR1.out
    obtain ⟨b, off, r, ha, q1, hI⟩ := hk 0 (by omega)
    simp only [Value.slice.injEq] at e1
    obtain ⟨rfl, -, rfl⟩ := e1
    subst ha
    rw [Nat.add_zero] at q1
    obtain ⟨ra, rc, rfl, -⟩ := id hI
    rw [wide_at rows (by omega)] at q1
    have i3 : (0 : Int) < (rows.length : Int) := by omega
    clear hk hI h0
    generalize wide rows = m at *
    go_enter Try.func24, Try.ntmps24
    go_wp2_with (rw [← HW1.out])
    go_ret
    exact ⟨ret_int (by rw [HV.out]), HB1.out⟩

set_option maxRecDepth 100000 in
set_option maxHeartbeats 2000000 in
theorem rsmall_any (rv ov : Value) (rows : List (List Int)) (owners : List Int) (w : World) (hR : Rows2 w rv rows) (hO : Ints w ov owners) :
    Calls Try.prog 22 #[.agg #[rv, ov]] w fun e w' => e = .returned (.bool (smallQ rows owners)) ∧ Below w.heap.size w w' := by
  obtain ⟨W1, hW1, hb1, hr1, hz⟩ := box_prog w rv ov 25
  have HR1 := Lib.hid (hR.below hb1)
  have HO1 := Lib.hid (hO.below hb1)
  have HPC := Lib.hid (rpCheck_any rv ov rows owners W1 HR1.out HO1.out)
  obtain ⟨a, cap, rfl, -, hlen, -⟩ := id hR
  obtain ⟨a2, cap2, rfl, -, hlen2, -⟩ := id hO
  have c0 : W1.cell? ⟨w.heap.size, 0, none⟩ = some (.slice a rows.length cap) := rowp_cell hr1 rfl
  have c1 : W1.cell? ⟨w.heap.size, 1, none⟩ = some (.slice a2 owners.length cap2) := row_cell hr1 rfl
  have HW1 := Lib.hid hW1
  have HB1 := Lib.hid hb1
  clear hR hO hr1 hW1 hb1
  by_cases h16 : rows.length ≤ 16
  · have z0 : decide ((rows.length : Int) ≤ 16) = true := decide_eq_true (by omega)
    by_cases hp : progE rows owners = 0
    · have HV : Hid (smallQ rows owners = decide (colsQ rows ≤ 16)) := Lib.hid (by unfold smallQ; rw [decide_eq_true h16, decide_eq_true hp]; rfl)
      have HD : Hid (decide (((colsQ rows : Nat) : Int) ≤ 16) = decide (colsQ rows ≤ 16)) := Lib.hid (decide_eq_decide.2 (by omega))
      have hcu := (progE_ok hp).cols_le
      have HCO := Lib.hid (fun w h1 h2 => rcolumns_any (.slice a rows.length cap) (.slice a2 owners.length cap2) rows owners w h1 h2)
      rw [hp] at HPC
      clear hp h16
      generalize colsQ rows = cq at *
      go_enter Try.func22, Try.ntmps22
      go_wp2_with fail
      rw [← HW1.out]
      refine HPC.out.mono ?_
      rintro r w2 ⟨rfl, hb2⟩
      have d0 := below_cell hb2 c0
      have d1 := below_cell hb2 c1
      have HR2 := Lib.hid (HR1.out.below hb2)
      have HO2 := Lib.hid (HO1.out.below hb2)
      have HB2 := Lib.hid (HB1.out.trans (hb2.mono HB1.out.size))
      clear hb2
      go_wp2_with fail
      refine (HCO.out _ HR2.out HO2.out).mono ?_
      rintro r w3 ⟨rfl, hb3⟩
      go_wp2_with fail
      go_ret
      exact ⟨ret_bool (by rw [HV.out]; simp; omega), HB2.out.trans (hb3.mono HB2.out.size)⟩
    · have HV : Hid (smallQ rows owners = false) := Lib.hid (by unfold smallQ; rw [decide_eq_false hp, Bool.false_and, Bool.and_false])
      have h2 : (progE rows owners == 0) = false := beq_eq_false_iff_ne.2 hp
      clear hp h16
      go_enter Try.func22, Try.ntmps22
      go_wp2_with fail
      rw [← HW1.out]
      refine HPC.out.mono ?_
      rintro r w2 ⟨rfl, hb2⟩
      go_wp2_with fail
      go_ret
      exact ⟨ret_bool HV.out.symm, HB1.out.trans (hb2.mono HB1.out.size)⟩
  · have HV : Hid (smallQ rows owners = false) := Lib.hid (by unfold smallQ; rw [decide_eq_false h16, Bool.false_and])
    have z0 : decide ((rows.length : Int) ≤ 16) = false := decide_eq_false (by omega)
    clear h16
    go_enter Try.func22, Try.ntmps22
    go_wp2_with fail
    go_ret
    exact ⟨ret_bool HV.out.symm, HW1.out ▸ HB1.out⟩

end Go.Proofs.Ytjjoadmkpbmhpaa

namespace Go.Proofs.Ytjjoadmkpbmhpaa
open Go.RowKit FP

set_option maxRecDepth 100000 in
theorem rnumber34_any (z : Int) (w : World) : Calls Try.prog 23 #[.int .i64 z] w fun r w' => r = .returned (.bool (!oddQ z)) ∧ w = w' := by
  by_cases h1 : 0 ≤ z
  · have H := Lib.hid (show (!oddQ z) = decide (z < 1073741789) by
      unfold oddQ; rw [decide_eq_false (show ¬ z < 0 by omega), Bool.false_or]
      by_cases h : z < 1073741789
      · rw [decide_eq_true h, decide_eq_false (show ¬ 1073741789 ≤ z by omega)]; rfl
      · rw [decide_eq_false h, decide_eq_true (show 1073741789 ≤ z by omega)]; rfl)
    go_enter Try.func23, Try.ntmps23
    go_wp2_with fail
    go_ret
    exact ⟨ret_bool H.out.symm, rfl⟩
  · have H := Lib.hid (show (!oddQ z) = false by unfold oddQ; rw [decide_eq_true (show z < 0 by omega)]; rfl)
    go_enter Try.func23, Try.ntmps23
    go_wp2_with fail
    go_ret
    exact ⟨ret_bool H.out.symm, rfl⟩

/-- Are numbers commitments? -/
def comB (rows : List (List Int)) (cs : List Int) : Bool := !cs.any notEl && decide (cs.length = colsQ rows)
theorem comB_E {rows : List (List Int)} {owners cs : List Int} (hp : progE rows owners = 0) : dchkE rows owners cs = if comB rows cs = true then 0 else 340 := by
  unfold dchkE comB
  rw [if_neg (by simp [hp])]
  by_cases h : cs.length = colsQ rows <;> cases e : cs.any notEl <;> simp [h]

end Go.Proofs.Ytjjoadmkpbmhpaa

namespace Go.Proofs.Ytjjoadmkpbmhpaa
open Go.RowKit FP

end Go.Proofs.Ytjjoadmkpbmhpaa

namespace Go.Proofs.Ytjjoadmkpbmhpaa
open Go.RowKit FP

end Go.Proofs.Ytjjoadmkpbmhpaa

namespace Go.Proofs.Ytjjoadmkpbmhpaa
open Go.RowKit FP

set_option maxRecDepth 100000 in
set_option maxHeartbeats 2000000 in
theorem rNumbers34_any (cv : Value) (cs : List Int) (w : World) (hC : Ints w cv cs) :
    Calls Try.prog 25 #[cv] w fun r w' => r = .returned (.bool (!cs.any oddQ)) ∧ w = w' := by
  have HC := Lib.hid (fun k (hk : k < cs.length) => hC.get hk)
  obtain ⟨a3, cap3, rfl, -, hlen3, hcr, -⟩ := id hC
  clear hC hcr
  go_enter Try.func25, Try.ntmps25
  go_wp2_with fail
  go_loopw [3] (fun i W => ∃ k : Nat, k ≤ cs.length ∧ i = .int .i64 k ∧ Hid (∀ z ∈ cs.take k, oddQ z = false) ∧ W = w) (fun i _ => cs.length - (intOf i).toNat)
  case atStart => exact ⟨0, Nat.zero_le _, rfl, Lib.hid (by simp), rfl⟩
  case round =>
    obtain ⟨k, hkl, rfl, HP, rfl⟩ := hrel
    by_cases hlt : k < cs.length
    · obtain ⟨hr64, b, off, n9, k9, e9, q9⟩ := HC.out k hlt
      simp only [Value.slice.injEq] at e9
      obtain ⟨rfl, -, -⟩ := e9
      have i0 : (k : Int) < (cs.length : Int) := by omega
      have hnt : nth cs k = cs[k] := nth_at hlt
      rw [hnt] at q9 hr64
      cases en : oddQ cs[k] with
      | true =>
        have HVV : Hid ((!cs.any oddQ) = false) := Lib.hid (by rw [any_here hlt en]; rfl)
        have he : (!oddQ cs[k]) = false := by rw [en]; rfl
        clear en hnt
        generalize cs[k] = z at *
        go_wp2_with fail
        with_reducible refine (rnumber34_any z _).mono ?_
        rintro e w3 ⟨rfl, rfl⟩
        rw [he]
        go_wp2_with fail
        go_ret
        exact ⟨ret_bool HVV.out.symm, rfl⟩
      | false =>
        have HN := Lib.hid (take_next hlt HP.out en)
        have he : (!oddQ cs[k]) = true := by rw [en]; rfl
        clear en hnt
        generalize cs[k] = z at *
        go_wp2_with fail
        with_reducible refine (rnumber34_any z _).mono ?_
        rintro e w3 ⟨rfl, rfl⟩
        rw [he]
        go_wp2_with fail
        go_roundw
        case rel => exact ⟨k + 1, by omega, by go_num, HN, by trivial⟩
        case measure => simp [intOf]; omega
    · have hdk : decide (k < cs.length) = false := decide_eq_false hlt
      have HL := Lib.hid (any_of_take hlt HP.out)
      go_wp2_with fail
      go_ret
      exact ⟨ret_bool (by rw [HL.out]; rfl), rfl⟩

end Go.Proofs.Ytjjoadmkpbmhpaa

namespace Go.Proofs.Ytjjoadmkpbmhpaa
open Go.RowKit FP

theorem nth_mapv {f : Int → Int} {l : List Int} {k : Nat} (h : k < l.length) : nth (l.map f) k = f (nth l k) := by
  rw [nth_at (by simpa using h), nth_at h, List.getElem_map]
theorem pub_deal (row s : List Int) : ∀ j, j ≤ s.length → pubF row (dealC s) j = powE 4 (prodF row s j)
  | 0, _ => by show (1 : Int) = powE 4 0; rw [powE_0]
  | j + 1, hj => by
    show pubF row (dealC s) j * powE (nth (dealC s) j) (nth row j) % 2147483579 = powE 4 ((prodF row s j + nth row j * nth s j % 1073741789) % 1073741789)
    rw [pub_deal row s j (by omega), show nth (dealC s) j = powE 4 (nth s j) from nth_mapv (by omega), powE_mul el_four, ← powE_add el_four]
    refine powE_same ?_
    rw [Int.mul_comm (nth s j) (nth row j)]
    generalize nth row j * nth s j = q
    omega
theorem com_deal {rows : List (List Int)} {owners : List Int} {x : Int} {rnd : List Int} (h : DealOK rows owners x rnd) (hp : progE rows owners = 0) : ComOK rows owners (dealC (x :: rnd)) :=
  ⟨h.prog, hp, by simp [dealC, ← h.len], fun c hc => by
    obtain ⟨n, -, rfl⟩ := List.mem_map.1 hc
    exact el_powE el_four n⟩
theorem fit_deal {rows : List (List Int)} {owners : List Int} {x : Int} {rnd : List Int} (h : DealOK rows owners x rnd) (hp : progE rows owners = 0) {k : Nat} (hk : k < rows.length) {v : Int} (hv : 0 ≤ v ∧ v < 1073741789) :
    fitE rows owners (dealC (x :: rnd)) k v = 0 ∧ fitB rows owners (dealC (x :: rnd)) k v = decide (v = prodQ (rows.getD k []) (x :: rnd)) := by
  have hE : fitE rows owners (dealC (x :: rnd)) k v = 0 := by
    unfold fitE
    rw [dchkE_of (com_deal h hp), if_neg (by simp), if_pos (rightS_iff.2 ⟨⟨by omega, by omega⟩, hv⟩)]
  refine ⟨hE, ?_⟩
  have hr := h.prog.row hk
  have hl : (x :: rnd).length = colsQ rows := by rw [List.length_cons]; exact h.len
  unfold fitB
  rw [if_pos hE, Int.toNat_natCast]
  unfold pubQ prodQ
  rw [pub_deal _ _ _ (by simp [dealC]), getD_at hk, hr, show (dealC (x :: rnd)).length = colsQ rows by rw [← hl]; simp [dealC]]
  have hn := prodF_num rows[k] (x :: rnd) (colsQ rows)
  generalize prodF rows[k] (x :: rnd) (colsQ rows) = p at *
  by_cases e : v = p
  · subst e; simp
  · rw [decide_eq_false e]
    refine beq_eq_false_iff_ne.2 fun e2 => e ?_
    have := el_order2 el_four four_ne e2
    omega
theorem small_ok {rows : List (List Int)} {owners : List Int} (h : smallQ rows owners = true) : rows.length ≤ 16 ∧ progE rows owners = 0 ∧ colsQ rows ≤ 16 := by
  unfold smallQ at h
  simpa using h
theorem dealE_of {rows : List (List Int)} {owners : List Int} {x : Int} {rnd : List Int} (h : DealOK rows owners x rnd) (hp : progE rows owners = 0) : dealE rows owners x rnd = 0 := by
  unfold dealE
  rw [if_neg (by simp [hp]), if_neg]
  rw [oddQ_of h.hx, any_odd_of h.hr]
  rintro (e | e | e)
  · cases e
  · cases e
  · exact e h.len
theorem dealL_len (rows : List (List Int)) (s : List Int) : (dealL rows s).length = rows.length := by simp [dealL]
theorem dealL_at (rows : List (List Int)) (s : List Int) {k : Nat} (h : k < (dealL rows s).length) : (dealL rows s)[k] = ((k : Int), prodQ (rows.getD k []) s) := by
  have e := dealL_len rows s
  show ((List.range rows.length).map (dealF rows s))[k]'(by simp; omega) = _
  rw [List.getElem_map, List.getElem_range]; rfl

set_option maxRecDepth 100000 in
/-- Deal, where it deals. -/
theorem deal_ok (rv ov mv : Value) (rows : List (List Int)) (owners : List Int) (x : Int) (rnd : List Int) (w : World) (hR : Rows2 w rv rows) (hO : Ints w ov owners) (hM : Ints w mv rnd) (h : DealOK rows owners x rnd) (hp : progE rows owners = 0) :
    Calls Try.prog 8 #[.agg #[rv, ov], .int .i64 x, mv] w fun r w' => ∃ al cl ac cc, r = .returned (.tuple #[.slice al rows.length cl, .slice ac (colsQ rows) cc, .int .i64 0]) ∧ Shares w' (.slice al rows.length cl) (dealL rows (x :: rnd)) ∧ Ints w' (.slice ac (colsQ rows) cc) (dealC (x :: rnd)) ∧ Below w.heap.size w w' := by
  refine (deal_yes rv ov mv rows owners x rnd w hR hO hM h hp).mono ?_
  rintro r w' ⟨lv, cv, rfl, hl, hc, hb⟩
  obtain ⟨al, cl, rfl, -⟩ := id hl
  obtain ⟨ac, cc, rfl, -⟩ := id hc
  have e1 := dealL_len rows (x :: rnd)
  have e2 : (dealC (x :: rnd)).length = colsQ rows := by rw [← h.len]; simp [dealC]
  rw [e1] at hl ⊢
  rw [e2] at hc ⊢
  exact ⟨al, cl, ac, cc, rfl, hl, hc, hb⟩

end Go.Proofs.Ytjjoadmkpbmhpaa

namespace Go.Proofs.Ytjjoadmkpbmhpaa
open Go.RowKit FP

end Go.Proofs.Ytjjoadmkpbmhpaa

namespace Go.Proofs.Ytjjoadmkpbmhpaa

theorem rcombY_num {rows : List (List Int)} {t : List Int} (h : Right rows t.length) (ht : ∀ z ∈ t, 0 ≤ z ∧ z < 1073741789) {k : Nat} (hk : k < rows.length) : 0 ≤ nth (rcombY rows t) k ∧ nth (rcombY rows t) k < 1073741789 := by
  have hn : NumM t.length (rows.length + 1) (rcombM rows t).1 := redR_num (eq_num h ht) _
  have hR := comb_red h ht
  unfold rcombY
  rw [nth_map _ _ hk]
  exact combF_num (m := (rcombM rows t).2.length) (fun k hk => hn k rows.length (Nat.lt_of_lt_of_le hk hR.rn) (by omega)) _ (Nat.le_refl _) _

end Go.Proofs.Ytjjoadmkpbmhpaa

namespace Go.Proofs.Ytjjoadmkpbmhpaa
open Go.RowKit FP

theorem cv_tgt {n : Nat} {j : Nat} (h : j < n) : cv (tgt n) j = if j = 0 then 1 else 0 := by
  unfold cv tgt
  rw [nth_map _ _ h]
  unfold tgtF
  split
  · exact cq_1
  · exact cq_0
theorem deal_mem {rows : List (List Int)} {s : List Int} {p : Int × Int} (h : p ∈ dealL rows s) : ∃ k : Nat, k < rows.length ∧ p = ((k : Int), prodQ (rows.getD k []) s) := by
  obtain ⟨k, hk, rfl⟩ := List.mem_map.1 h
  exact ⟨k, List.mem_range.1 hk, rfl⟩
theorem sharesB_from {rows : List (List Int)} : ∀ (l : List (Int × Int)) (last : Int), (∀ p ∈ l, rightS rows p.1 p.2 = true) → (∀ p ∈ l, last < p.1) → l.Pairwise (fun a b => a.1 < b.1) → sharesB rows last l = true
  | [], _, _, _, _ => rfl
  | p :: l, last, h1, h2, h3 => by
    unfold sharesB
    rw [h1 p (by simp), decide_eq_true (h2 p (by simp)), Bool.true_and, Bool.true_and]
    obtain ⟨h4, h5⟩ := List.pairwise_cons.1 h3
    exact sharesB_from l p.1 (fun q hq => h1 q (by simp [hq])) h4 h5
theorem deal_right {rows : List (List Int)} {s : List Int} {p : Int × Int} (h : p ∈ dealL rows s) : rightS rows p.1 p.2 = true ∧ -1 < p.1 ∧ p.2 = prodQ (rows.getD p.1.toNat []) s := by
  obtain ⟨k, hk, rfl⟩ := deal_mem h
  refine ⟨rightS_iff.2 ⟨⟨by omega, by omega⟩, prodQ_num _ _⟩, by show (-1 : Int) < (k : Int); omega, ?_⟩
  show _ = prodQ (rows.getD (k : Int).toNat []) s
  rw [Int.toNat_natCast]
theorem deal_sorted (rows : List (List Int)) (s : List Int) : (dealL rows s).Pairwise (fun a b => a.1 < b.1) := by
  unfold dealL
  rw [List.pairwise_map]
  refine List.pairwise_lt_range.imp fun {a b} h => ?_
  show (a : Int) < (b : Int)
  omega
/-- A part of the shares that were dealt. -/
theorem part_shares {rows : List (List Int)} {s : List Int} {l : List (Int × Int)} (h : l.Sublist (dealL rows s)) : sharesB rows (-1) l = true :=
  sharesB_from l (-1) (fun _ hp => (deal_right (h.subset hp)).1) (fun _ hp => (deal_right (h.subset hp)).2.1) ((deal_sorted rows s).sublist h)
end Go.Proofs.Ytjjoadmkpbmhpaa

namespace Go.Proofs.Ytjjoadmkpbmhpaa
open Go.RowKit

/-! Sums. -/
/-! Helpers. -/
/-! Plan, Part, Finish. -/
/-! Masks that add up to 0. -/
/-! The laws. -/
end Go.Proofs.Ytjjoadmkpbmhpaa

namespace Go.Proofs.Ytjjoadmkpbmhpaa
open Go.RowKit FP

end Go.Proofs.Ytjjoadmkpbmhpaa

namespace Go.Proofs.Ytjjoadmkpbmhpaa
open Go.RowKit FP

end Go.Proofs.Ytjjoadmkpbmhpaa

namespace Go.Proofs.Ytjjoadmkpbmhpaa
open Go.RowKit FP

theorem results_cell_tmp2 {fn : Func} {p u v : Tmp} {ty : TypeId} (h : fn.results = #[.cell p ty, .tmp u, .tmp v]) (tmps : Array Value) (P : Program) (w : World) :
    (results fn tmps).run P w = ((asAddr (tmps.getD p undef)).run P w).andThen fun a w₁ => ((loadVar ty a).run P w₁).andThen fun x w₂ => .ok (.tuple #[x, tmps.getD u undef, tmps.getD v undef]) w₂ := by
  simp only [results, h]
  simp [Sem.run_bind, Result.andThen]
/-- A key in a box. -/
theorem box_key (w : World) (e rv ov cv : Value) (t : TypeId) : ∃ W, W = w.alloc (.cells #[e, rv, ov, cv] t) ∧ Below w.heap.size w W ∧ W.heap[w.heap.size]? = some (.cells #[e, rv, ov, cv] t (0, 0)) ∧ W.heap.size = w.heap.size + 1 :=
  ⟨_, rfl, below_new _ _ _, World.alloc_heap_new _ _, by simp⟩
end Go.Proofs.Ytjjoadmkpbmhpaa

namespace Go.Proofs.Ytjjoadmkpbmhpaa
open Go.RowKit FP

attribute [local go_sem] Oper.semAt_some

end Go.Proofs.Ytjjoadmkpbmhpaa

namespace Go.Proofs.Ytjjoadmkpbmhpaa
open Go.RowKit FP

end Go.Proofs.Ytjjoadmkpbmhpaa

namespace Go.Proofs.Ytjjoadmkpbmhpaa
open Go.RowKit FP

section
variable {P : Program} {md : Region.Mode} {ops : Array Oper} {Q : Exit → Act → World → Prop} {S : World → Prop} {i : Nat} {oi : Oper} {fuel : Nat} {listed : Array Bool} {a : Act} {w : World}
end

end Go.Proofs.Ytjjoadmkpbmhpaa

namespace Go.Proofs.Ytjjoadmkpbmhpaa
open Go.RowKit FP

end Go.Proofs.Ytjjoadmkpbmhpaa

namespace Go.Proofs.Ytjjoadmkpbmhpaa
open Go.RowKit FP

end Go.Proofs.Ytjjoadmkpbmhpaa

namespace Go.Proofs.Ytjjoadmkpbmhpaa
open Go.RowKit

/-- The operation ends at once: it enters no function. -/
def Ends : Result Go.Next → Prop
  | .ok (.enter _ _) _ => False
  | .ok (.row _ _) _ => False
  | .ok (.round _ _ _ _ _) _ => False
  | _ => True
structure PlainOp (P : Program) (o : Oper) : Prop where
  nodefer : ∀ c, o.op ≠ .defer c
  about : ∀ w ρ, o.about P w ρ = none
  ends : ∀ w ρ, Ends ((execOp ρ o).run P w)
theorem uponIn_of_upon {F : Fence} {n : Nat} {P : Program} {o : Oper} {a : Act} {K K' : Act → World → Prop} {Q : Exit → Act → World → Prop} (hK : ∀ a w, K a w → K' a w) : ∀ {r : Result Go.Next}, Ends r → o.upon P a K Q r → o.uponIn F n P a K' Q r
  | .ok x w, he, h => by
    cases x <;> simp only [Oper.upon, Oper.uponIn, Ends] at * <;> first | exact hK _ _ h | exact he.elim | exact h.elim | skip
  | .halt x w, _, h => by
    cases x <;> simp only [Oper.upon, Oper.uponIn] at * <;> first | exact h | exact h.elim | skip
theorem wpIn_of_wp {F : Fence} {n : Nat} {P : Program} {o : Oper} {a : Act} {w : World} {K K' : Act → World → Prop} {Q : Exit → Act → World → Prop} (hp : PlainOp P o) (hK : ∀ a w, K a w → K' a w) (h : o.wp P a w K Q) : o.wpIn F n P a w K' Q := by
  refine ⟨fun f hf => by (rw [hp.about] at hf; exact nomatch hf), ?_⟩
  rw [Oper.semAt_eq _ _ _ hp.nodefer]
  exact uponIn_of_upon hK (hp.ends w a.eval) h
theorem ends_v {P : Program} (s : Sem Value) (w : World) : Ends (Sem.run P (do pure (Go.Next.value (← s))) w) := by
  rw [Sem.run_bind]
  cases s.run P w <;> simp [Result.andThen, Ends, pure]
theorem ends_u {P : Program} (s : Sem Unit) (w : World) : Ends (Sem.run P (do s; pure Go.Next.skip) w) := by
  rw [Sem.run_bind]
  cases s.run P w <;> simp [Result.andThen, Ends, pure]
section
variable {P : Program} {d : Option Tmp} {t : TypeId} {p : String} {af : Array Edge} {g : Option (Nat × Bool)}
theorem plain_move {x : Operand} : PlainOp P ⟨d, .move x, t, p, af, g⟩ := ⟨(fun _ h => by cases h), fun _ _ => rfl, fun _ _ => trivial⟩
theorem plain_load {x : Operand} {ty : TypeId} : PlainOp P ⟨d, .load ty x, t, p, af, g⟩ := ⟨(fun _ h => by cases h), fun _ _ => rfl, fun w _ => ends_v _ w⟩
theorem plain_buildSlice {ty : TypeId} {n : Nat} {xs : Array (Nat × Operand)} : PlainOp P ⟨d, .buildSlice ty n xs, t, p, af, g⟩ := ⟨(fun _ h => by cases h), fun _ _ => rfl, fun w _ => ends_v _ w⟩
theorem plain_store {ty : TypeId} {x y : Operand} : PlainOp P ⟨d, .store ty x y, t, p, af, g⟩ := ⟨(fun _ h => by cases h), fun _ _ => rfl, fun w _ => ends_u _ w⟩
theorem plain_append {xs : Array Operand} {ts : Array TypeId} : PlainOp P ⟨d, .call { callee := .builtin .append, args := xs, argTypes := ts }, t, p, af, g⟩ := ⟨(fun _ h => by cases h), fun _ _ => rfl, fun w _ => ends_v _ w⟩
end

end Go.Proofs.Ytjjoadmkpbmhpaa
