/- The laws of rebuilding: RebuildWhole, in plain Lean; calls whose values are known. Renewing shares, in plain Lean. Package renewal: keys, shares that fit, the same rows. A range over a function of this program whose iterator turns variables of its own, and lays memory, ahead of each element. Package renewal: the shares of two lists, merged. Package renewal: the iterator both. A range over a function of this program whose iterator turns variables of its own; what is assigned to the round's variables lays memory. The laws of dealing: DealingSum, the walk. Package renewal: the shares of two lists, collected. Package renewal: lists that are put together. Package slices: Equal of integers, EqualFunc of rows with it. Package renewal: shares that are put together. Package renewal: lists that lie apart from some blocks; rows of shares. Package renewal: Renew. Package renewal: Mixes. The laws of dealing: people of bits, and the shares of people. The laws of dealing: the shares of people (the reference's Of). The laws of dealing: DealingEnough, the walk. The laws of dealing: DealingHides, the walk. Dealings that are renewed, in plain Lean. -/
import Derived.Test.YtjjoadmkpbmhpaaMProF
import Derived.Test.YtjjoadmkpbmhpaaMLaI
import Derived.Test.YtjjoadmkpbmhpaaMDeaH
import Derived.Test.YtjjoadmkpbmhpaaMRange4
import Derived.Deep.RegionHeld3
import Derived.Deep.RegionLaw
import Derived.Deep.AppendLies
import Derived.Laws.Bits64b
namespace Go.Proofs.Ytjjoadmkpbmhpaa
open Go.RowKit FP

set_option maxRecDepth 100000 in
theorem run_slice_one (b o n c k : Nat) (hk : k < n) (hc : n ≤ c) (w : World) : (Instr.slice 23 (.slice (some ⟨b, o, none⟩) n c) (some (.int .i64 (k : Int))) (some (.int .i64 ((k : Int) + 1))) none).run Try.prog w = .ok (.slice (some ⟨b, o + k, none⟩) 1 (c - k)) w := by
  have hu : Try.prog.underlying 23 = some (.slice (Try.prog.elem 23)) := Try.underlying23
  have hs : (sizeOf (Try.prog.elem 23)).run Try.prog w = .ok 1 w := by rfl
  rw [run_slice_lh _ _ _ _ _ hu .i64 .i64 (k : Int) ((k : Int) + 1) (by omega) (by omega) (by omega), hs]
  have h1 : ((k : Int) + 1).toNat = k + 1 := by omega
  have h2 : ((k : Int)).toNat = k := by omega
  simp only [Result.andThen, h1, h2]
  unfold sliced
  rw [if_neg (by omega : ¬ c = k), Nat.mul_one, Option.map_some, add_off, Nat.add_sub_cancel_left]

end Go.Proofs.Ytjjoadmkpbmhpaa

namespace Go.Proofs.Ytjjoadmkpbmhpaa
open Go.RowKit

/-! Keys and shares that fit. -/
def keyB (rows : List (List Int)) (ep : Int) (cs : List Int) : Bool := decide (0 ≤ ep) && (decide (ep ≤ 64) && comB rows cs)
def fitP (rows : List (List Int)) (cs : List Int) (p : Int × Int) : Bool := powE 4 p.2 == pubQ (rows.getD p.1.toNat []) cs
def fitL (rows : List (List Int)) (cs : List Int) (l : List (Int × Int)) : Bool := sharesB rows (-1) l && l.all (fitP rows cs)
/-- One share more, behind the last row. -/
def fitOne (rows : List (List Int)) (cs : List Int) (last : Int) (p : Int × Int) : Bool := rightS rows p.1 p.2 && (fitP rows cs p && decide (last < p.1))
theorem fitL_take {rows : List (List Int)} {cs : List Int} {l : List (Int × Int)} {k : Nat} (hk : k < l.length) (h : fitL rows cs (l.take k) = true) : fitL rows cs (l.take (k + 1)) = fitOne rows cs (lastR (-1) (l.take k)) l[k] := by
  unfold fitL at h ⊢
  rw [Bool.and_eq_true] at h
  rw [sharesB_take hk, h.1, Bool.true_and, List.take_succ_eq_append_getElem hk, List.all_append, h.2, Bool.true_and]
  unfold fitOne
  simp only [List.all_cons, List.all_nil, Bool.and_true]
  cases rightS rows l[k].1 l[k].2 <;> cases decide (lastR (-1) (l.take k) < l[k].1) <;> cases fitP rows cs l[k] <;> rfl
theorem fitL_front {rows : List (List Int)} {cs : List Int} {l : List (Int × Int)} (h : fitL rows cs l = true) (k : Nat) : fitL rows cs (l.take k) = true := by
  unfold fitL at h ⊢
  rw [Bool.and_eq_true] at h ⊢
  exact ⟨sharesB_front h.1 k, List.all_eq_true.2 fun x hx => List.all_eq_true.1 h.2 x (List.mem_of_mem_take hx)⟩
theorem fitL_bad {rows : List (List Int)} {cs : List Int} {l : List (Int × Int)} {k : Nat} (h : fitL rows cs (l.take k) = false) : fitL rows cs l = false := by
  cases e : fitL rows cs l with
  | false => rfl
  | true => rw [fitL_front e k] at h; cases h
theorem fitL_shares {rows : List (List Int)} {cs : List Int} {l : List (Int × Int)} (h : fitL rows cs l = true) : sharesB rows (-1) l = true := by
  unfold fitL at h; rw [Bool.and_eq_true] at h; exact h.1
theorem fitB_is {rows : List (List Int)} {owners cs : List Int} {r v : Int} (h : dchkE rows owners cs = 0) : fitE rows owners cs r v = (if rightS rows r v = true then 0 else 340) ∧ fitB rows owners cs r v = (rightS rows r v && fitP rows cs (r, v)) := by
  have hE : fitE rows owners cs r v = (if rightS rows r v = true then 0 else 340) := by unfold fitE; rw [if_neg (by simp [h])]
  refine ⟨hE, ?_⟩
  unfold fitB
  rw [hE]
  cases e : rightS rows r v with
  | true => rw [if_pos (by simp)]; rfl
  | false => rw [if_neg (by simp)]; rfl

/-! Renew. -/
def rowsS (l : List (Int × Int)) : List Int := l.map Prod.fst
theorem comB_el {rows : List (List Int)} {cs : List Int} (h : comB rows cs = true) : (∀ c ∈ cs, El c) ∧ cs.length = colsQ rows := by
  unfold comB at h
  simp only [Bool.and_eq_true, decide_eq_true_eq, Bool.not_eq_true'] at h
  exact ⟨any_notel h.1, h.2⟩
theorem rowsS_len {a b : List (Int × Int)} (h : rowsS a = rowsS b) : a.length = b.length := by
  have := congrArg List.length h
  simpa [rowsS] using this
end Go.Proofs.Ytjjoadmkpbmhpaa

namespace Go.Proofs.Ytjjoadmkpbmhpaa
open Go.RowKit FP

theorem comB_len {rows : List (List Int)} {l : List Int} (h : l.length ≠ colsQ rows) : comB rows l = false := by
  unfold comB; rw [decide_eq_false h, Bool.and_false]
theorem comB_any {rows : List (List Int)} {l : List Int} (h : l.length = colsQ rows) : comB rows l = !l.any notEl := by
  unfold comB; rw [decide_eq_true h, Bool.and_true]

end Go.Proofs.Ytjjoadmkpbmhpaa

namespace Go.Proofs.Ytjjoadmkpbmhpaa
open Go.RowKit

end Go.Proofs.Ytjjoadmkpbmhpaa

namespace Go.Proofs.Ytjjoadmkpbmhpaa
open Go.RowKit FP

attribute [local go_sem] Oper.semAt_some

section
variable {P : Program} {d : Option Tmp} {t : TypeId} {p : String} {af : Array Edge} {g : Option (Nat × Bool)}
end

/-! The merge. -/
/-- The tail of a slice of shares, as a value. -/
def tailV : Value → Value
  | .slice a n c => .slice (if c = 1 then a else a.map (·.add 2)) (n - 1) (c - 1)
  | v => v
theorem Shares.tail {w : World} {v : Value} {l : List (Int × Int)} (h : Shares w v l) (hl : 0 < l.length) : Shares w (tailV v) l.tail := by
  obtain ⟨a, cap, rfl, h2, h3, h4, h5⟩ := h
  match l, hl with
  | x :: t, _ =>
    obtain ⟨b, o, rfl, q0, q1⟩ := h5 0 (by simp)
    simp only [List.length_cons] at h2 h3
    by_cases e : cap = 1
    · have ht : t = [] := List.length_eq_zero_iff.1 (by omega)
      subst ht
      refine ⟨_, _, by show Value.slice _ _ _ = _; rfl, by simp, by simp, by simp, fun k hk => absurd hk (Nat.not_lt_zero _)⟩
    · refine ⟨some ⟨b, o + 2, none⟩, cap - 1, ?_, by simp only [List.tail_cons]; omega, by simp only [List.tail_cons]; omega, fun p hp => h4 p (List.mem_cons_of_mem _ hp), fun k hk => ⟨b, o + 2, rfl, ?_⟩⟩
      · show Value.slice (if cap = 1 then _ else _) _ _ = _
        rw [if_neg e, Option.map_some, add_off]; rfl
      · obtain ⟨b', o', e1, p0, p1⟩ := h5 (k + 1) (by simp only [List.tail_cons] at hk; simp; omega)
        simp only [Option.some.injEq, Addr.mk.injEq] at e1
        obtain ⟨rfl, rfl, -⟩ := e1
        rw [show o + 2 + k * 2 = o + (k + 1) * 2 by omega]
        simp only [List.getElem_cons_succ] at p0 p1
        exact ⟨by simpa using p0, by simpa using p1⟩
end Go.Proofs.Ytjjoadmkpbmhpaa

namespace Go.Proofs.Ytjjoadmkpbmhpaa
open Go.RowKit FP

attribute [local go_sem] Oper.semAt_some

end Go.Proofs.Ytjjoadmkpbmhpaa

namespace Go.Proofs.Ytjjoadmkpbmhpaa
open Go.RowKit

end Go.Proofs.Ytjjoadmkpbmhpaa

namespace Go.Proofs.Ytjjoadmkpbmhpaa
open Go.RowKit FP

structure Dealt (rows : List (List Int)) (n : Nat) (D : List (Int × Int)) (C : List Int) (P : Nat → Int) : Prop where
  len : D.length = rows.length
  at_ : ∀ k (h : k < D.length), D[k] = ((k : Int), P k)
  num : ∀ k, 0 ≤ P k ∧ P k < 1073741789
  clen : C.length = n
  el : ∀ k, k < n → El (nth C k)
theorem Dealt.r64 {rows : List (List Int)} {n : Nat} {D : List (Int × Int)} {C : List Int} {P : Nat → Int} (h : Dealt rows n D C P) (hr : rows.length ≤ 64) : ∀ p ∈ D, R64 p.1 ∧ R64 p.2 := by
  intro p hp
  obtain ⟨k, hk, rfl⟩ := List.mem_iff_getElem.1 hp
  have hl := h.len
  rw [h.at_ k hk]
  exact ⟨R64.mk (by show (-4611686018427387904 : Int) ≤ (k : Int); omega) (by show (k : Int) ≤ 4611686018427387904; omega), num_r64 (h.num k)⟩

end Go.Proofs.Ytjjoadmkpbmhpaa

namespace Go.Proofs.Ytjjoadmkpbmhpaa
open Go.RowKit FP

attribute [local go_sem] Oper.semAt_some

end Go.Proofs.Ytjjoadmkpbmhpaa

namespace Go.Proofs.Ytjjoadmkpbmhpaa
open Go.RowKit FP

theorem rowsS_at {a b : List (Int × Int)} {k : Nat} (h1 : k < a.length) (h2 : k < b.length) (h : a[k].1 ≠ b[k].1) : rowsS a ≠ rowsS b := fun e => h (by
  have h3 : (rowsS a)[k]? = (rowsS b)[k]? := by rw [e]
  unfold rowsS at h3
  rw [List.getElem?_map, List.getElem?_map, List.getElem?_eq_getElem h1, List.getElem?_eq_getElem h2] at h3
  simpa using h3)
theorem rowsS_all {a b : List (Int × Int)} (hl : a.length = b.length) (h : ∀ k (h1 : k < a.length) (h2 : k < b.length), a[k].1 = b[k].1) : rowsS a = rowsS b := by
  unfold rowsS
  refine List.ext_getElem (by simpa using hl) fun k h1 h2 => ?_
  rw [List.getElem_map, List.getElem_map]
  exact h k (by simpa using h1) (by simpa using h2)

end Go.Proofs.Ytjjoadmkpbmhpaa

namespace Go.Proofs.Ytjjoadmkpbmhpaa
open Go.RowKit FP

theorem ne_at {β : Type} {a b : List β} {k : Nat} (h1 : k < a.length) (h2 : k < b.length) (h : a[k] ≠ b[k]) : a ≠ b := fun e => h (by subst e; rfl)

set_option maxRecDepth 100000 in
set_option maxHeartbeats 8000000 in
theorem equalI_any (u v : Value) (a b : List Int) (w : World) (hA : Ints w u a) (hB : Ints w v b) :
    Calls Try.prog 40 #[u, v] w fun e w' => e = .returned (.bool (decide (a = b))) ∧ Below w.heap.size w w' := by
  obtain ⟨a1, k1, rfl, hc1, hl1, hr1, hk1⟩ := hA
  obtain ⟨a2, k2, rfl, hc2, hl2, hr2, hk2⟩ := hB
  by_cases hl : a.length = b.length
  rotate_left
  · have hl' : ((a.length : Int) != (b.length : Int)) = true := by rw [bne_iff_ne]; omega
    have HV : Hid (decide (a = b) = false) := Lib.hid (decide_eq_false (fun h => hl (by rw [h])))
    clear hl
    go_enter Try.func40, Try.ntmps40
    go_wp2_with fail
    go_ret
    exact ⟨ret_bool HV.out.symm, Below.refl _ _⟩
  have hl' : ((a.length : Int) != (b.length : Int)) = false := by rw [hl]; simp
  have HL := Lib.hid hl
  have HK2 : Hid (∀ k (h : k < a.length), ∃ x, x = (b[k]'(by rw [← HL.out]; exact h)) ∧ ∃ q off, a2 = some ⟨q, off, none⟩ ∧ w.cell? ⟨q, off + k, none⟩ = some (.int .i64 x)) := Lib.hid (fun k h => ⟨_, rfl, hk2 k (by omega)⟩)
  have HK1 := Lib.hid hk1
  rw [← hl] at hl' hl2 ⊢
  clear hl hk1 hk2
  go_enter Try.func40, Try.ntmps40
  go_wp2_with fail
  go_loopw [13] (fun i W => ∃ k : Nat, k ≤ a.length ∧ i = .int .i64 k ∧ Hid (∀ j (h1 : j < a.length) (h2 : j < b.length), j < k → a[j] = b[j]) ∧ Below w.heap.size w W) (fun i _ => a.length - (intOf i).toNat)
  case atStart => exact ⟨0, Nat.zero_le _, rfl, Lib.hid fun j _ _ h => absurd h (Nat.not_lt_zero _), Below.refl _ _⟩
  case round =>
    obtain ⟨k, hkl, rfl, HP, hb⟩ := hrel
    by_cases hlt : k < a.length
    · obtain ⟨p, off, rfl, qa⟩ := HK1.out k hlt
      obtain ⟨y, hy, p', off', rfl, qc⟩ := HK2.out k hlt
      have y1 := below_cell hb qa
      have y3 := below_cell hb qc
      obtain ⟨x, hx⟩ : ∃ x, x = a[k] := ⟨_, rfl⟩
      rw [← hx] at y1
      have i1 : (0 : Int) ≤ (k : Int) := by omega
      have i2 : (k : Int) < (a.length : Int) := by omega
      have HX := Lib.hid hx
      have HY := Lib.hid hy
      have HBW := Lib.hid hb
      clear hx hy qa qc hb
      by_cases he : x = y
      · have he' : (x != y) = false := by simpa using he
        have HN := Lib.hid (show ∀ j (h1 : j < a.length) (h2 : j < b.length), j < k + 1 → a[j] = b[j] from fun j h1 h2 h3 => by
          by_cases e : j = k
          · subst e; rw [← HX.out, ← HY.out, he]
          · exact HP.out j h1 h2 (by omega))
        clear he
        go_wp2_with fail
        go_region
        go_wp2_with fail
        go_roundw
        case rel => exact ⟨k + 1, by omega, by go_num, HN, HBW.out.drew⟩
        case measure => simp [intOf]; omega
      · have he' : (x != y) = true := by simpa using he
        have HV : Hid (decide (a = b) = false) := Lib.hid (decide_eq_false (ne_at hlt (by rw [← HL.out]; exact hlt) (by rw [← HX.out, ← HY.out]; exact he)))
        clear he
        go_wp2_with fail
        go_region
        go_wp2_with fail
        go_ret
        exact ⟨ret_bool HV.out.symm, HBW.out.drew⟩
    · have HV : Hid (decide (a = b) = true) := Lib.hid (decide_eq_true (List.ext_getElem HL.out fun j h1 h2 => HP.out j h1 h2 (by omega)))
      go_wp2_with fail
      go_ret
      exact ⟨ret_bool HV.out.symm, hb⟩

end Go.Proofs.Ytjjoadmkpbmhpaa

namespace Go.Proofs.Ytjjoadmkpbmhpaa
open Go.RowKit FP

end Go.Proofs.Ytjjoadmkpbmhpaa

namespace Go.Proofs.Ytjjoadmkpbmhpaa
open Go.RowKit FP

/-- Rows of shares. -/
def SRows (w : World) (v : Value) (ls : List (List (Int × Int))) : Prop :=
  ∃ a cap, v = .slice a ls.length cap ∧ ls.length ≤ cap ∧ ls.length ≤ 17592186044416 ∧
    ∀ k (h : k < ls.length), ∃ b off r, a = some ⟨b, off, none⟩ ∧ w.cell? ⟨b, off + k, none⟩ = some r ∧ Shares w r ls[k]
theorem SRows.below {w w' : World} {v : Value} {ls : List (List (Int × Int))} (h : SRows w v ls) (hb : Below w.heap.size w w') : SRows w' v ls := by
  obtain ⟨a, cap, h1, h2, h3, h4⟩ := h
  exact ⟨a, cap, h1, h2, h3, fun k hk => by obtain ⟨b, off, r, h5, h6, h7⟩ := h4 k hk; exact ⟨b, off, r, h5, below_cell hb h6, h7.below hb⟩⟩
theorem SRows.nil (w : World) (a : Option Addr) (cap : Nat) : SRows w (.slice a 0 cap) [] := ⟨a, cap, rfl, Nat.zero_le _, Nat.zero_le _, fun k h => absurd h (Nat.not_lt_zero k)⟩
theorem SRows.get {w : World} {v : Value} {ls : List (List (Int × Int))} (h : SRows w v ls) {k : Nat} (hk : k < ls.length) : ∃ b off n c r, v = .slice (some ⟨b, off, none⟩) n c ∧ w.cell? ⟨b, off + k, none⟩ = some r ∧ Shares w r (ls.getD k []) := by
  obtain ⟨a, cap, h1, h2, h3, h4⟩ := h
  obtain ⟨b, off, r, rfl, h6, h7⟩ := h4 k hk
  exact ⟨b, off, _, _, r, h1, h6, by rw [getD_at hk]; exact h7⟩
theorem Rows2.get {w : World} {v : Value} {ls : List (List Int)} (h : Rows2 w v ls) {k : Nat} (hk : k < ls.length) : ∃ b off n c r, v = .slice (some ⟨b, off, none⟩) n c ∧ w.cell? ⟨b, off + k, none⟩ = some r ∧ Ints w r (ls.getD k []) := by
  obtain ⟨a, cap, h1, h2, h3, h4⟩ := h
  obtain ⟨b, off, r, rfl, h6, h7⟩ := h4 k hk
  exact ⟨b, off, _, _, r, h1, h6, by rw [getD_at hk]; exact h7⟩

/-- A list whose cells lie outside the blocks from lo to hi. -/
def IntsX (lo hi : Nat) (w : World) (v : Value) (zs : List Int) : Prop :=
  ∃ a cap, v = .slice a zs.length cap ∧ zs.length ≤ cap ∧ zs.length ≤ 17592186044416 ∧ (∀ z ∈ zs, R64 z) ∧
    ∀ k (h : k < zs.length), ∃ b off, a = some ⟨b, off, none⟩ ∧ (b < lo ∨ hi ≤ b) ∧ w.cell? ⟨b, off + k, none⟩ = some (.int .i64 zs[k])
theorem IntsX.ints {lo hi : Nat} {w : World} {v : Value} {zs : List Int} (h : IntsX lo hi w v zs) : Ints w v zs := by
  obtain ⟨a, cap, h1, h2, h3, h4, h5⟩ := h
  exact ⟨a, cap, h1, h2, h3, h4, fun k hk => by obtain ⟨b, off, h6, -, h7⟩ := h5 k hk; exact ⟨b, off, h6, h7⟩⟩
theorem IntsX.below {lo hi : Nat} {w w' : World} {v : Value} {zs : List Int} (h : IntsX lo hi w v zs) (hb : Below w.heap.size w w') : IntsX lo hi w' v zs := by
  obtain ⟨a, cap, h1, h2, h3, h4, h5⟩ := h
  exact ⟨a, cap, h1, h2, h3, h4, fun k hk => by obtain ⟨b, off, h6, h7, h8⟩ := h5 k hk; exact ⟨b, off, h6, h7, below_cell hb h8⟩⟩
theorem IntsX.of {w w' : World} {v : Value} {zs : List Int} (h : Ints w v zs) (hb : Below w.heap.size w w') (hi : Nat) : IntsX w.heap.size hi w' v zs := by
  obtain ⟨a, cap, h1, h2, h3, h4, h5⟩ := h
  exact ⟨a, cap, h1, h2, h3, h4, fun k hk => by obtain ⟨b, off, h6, h7⟩ := h5 k hk; exact ⟨b, off, h6, .inl (lt_of_cell h7), below_cell hb h7⟩⟩
theorem IntsX.set {lo hi : Nat} {w : World} {v : Value} {zs : List Int} (h : IntsX lo hi w v zs) {b o : Nat} (h1 : lo ≤ b) (h2 : b < hi) (u : Value) : IntsX lo hi (w.setCell ⟨b, o, none⟩ u) v zs := by
  obtain ⟨a, cap, g1, g2, g3, g4, g5⟩ := h
  exact ⟨a, cap, g1, g2, g3, g4, fun k hk => by obtain ⟨b', off, h6, h7, h8⟩ := g5 k hk; exact ⟨b', off, h6, h7, by rw [setc_other (.inl (by omega))]; exact h8⟩⟩
theorem IntsX.own {lo hi base n : Nat} {w : World} {v : Value} {zs : List Int} (h : w.ownsRow base 3 1 v n (zs.map (Value.int .i64))) (hb : hi ≤ base) (hr : ∀ z ∈ zs, R64 z) (hl : zs.length ≤ 17592186044416) : IntsX lo hi w v zs := by
  obtain ⟨a, cap, g1, g2, g3, g4, g5⟩ := Ints.own h hr hl
  refine ⟨a, cap, g1, g2, g3, g4, fun k hk => ?_⟩
  obtain ⟨b, off, h6, h7⟩ := g5 k hk
  refine ⟨b, off, h6, .inr ?_, h7⟩
  have := (own_lt h b (by rw [g1, h6]; rfl)).1
  omega
/-- Shares whose cells lie outside the blocks from lo to hi. -/
def SharesX (lo hi : Nat) (w : World) (v : Value) (l : List (Int × Int)) : Prop :=
  ∃ a cap, v = .slice a l.length cap ∧ l.length ≤ cap ∧ l.length ≤ 17592186044416 ∧ (∀ p ∈ l, R64 p.1 ∧ R64 p.2) ∧
    ∀ k (h : k < l.length), ∃ b off, a = some ⟨b, off, none⟩ ∧ (b < lo ∨ hi ≤ b) ∧ w.cell? ⟨b, off + k * 2, none⟩ = some (.int .i64 l[k].1) ∧ w.cell? ⟨b, off + k * 2 + 1, none⟩ = some (.int .i64 l[k].2)
theorem SharesX.shares {lo hi : Nat} {w : World} {v : Value} {zs : List (Int × Int)} (h : SharesX lo hi w v zs) : Shares w v zs := by
  obtain ⟨a, cap, h1, h2, h3, h4, h5⟩ := h
  exact ⟨a, cap, h1, h2, h3, h4, fun k hk => by obtain ⟨b, off, h6, -, h7, h8⟩ := h5 k hk; exact ⟨b, off, h6, h7, h8⟩⟩
theorem SharesX.below {lo hi : Nat} {w w' : World} {v : Value} {zs : List (Int × Int)} (h : SharesX lo hi w v zs) (hb : Below w.heap.size w w') : SharesX lo hi w' v zs := by
  obtain ⟨a, cap, h1, h2, h3, h4, h5⟩ := h
  exact ⟨a, cap, h1, h2, h3, h4, fun k hk => by obtain ⟨b, off, h6, h7, h8, h9⟩ := h5 k hk; exact ⟨b, off, h6, h7, below_cell hb h8, below_cell hb h9⟩⟩
theorem SharesX.of {w w' : World} {v : Value} {zs : List (Int × Int)} (h : Shares w v zs) (hb : Below w.heap.size w w') (hi : Nat) : SharesX w.heap.size hi w' v zs := by
  obtain ⟨a, cap, h1, h2, h3, h4, h5⟩ := h
  exact ⟨a, cap, h1, h2, h3, h4, fun k hk => by obtain ⟨b, off, h6, h7, h8⟩ := h5 k hk; exact ⟨b, off, h6, .inl (lt_of_cell h7), below_cell hb h7, below_cell hb h8⟩⟩
theorem SharesX.set {lo hi : Nat} {w : World} {v : Value} {zs : List (Int × Int)} (h : SharesX lo hi w v zs) {b o : Nat} (h1 : lo ≤ b) (h2 : b < hi) (u : Value) : SharesX lo hi (w.setCell ⟨b, o, none⟩ u) v zs := by
  obtain ⟨a, cap, g1, g2, g3, g4, g5⟩ := h
  exact ⟨a, cap, g1, g2, g3, g4, fun k hk => by obtain ⟨b', off, h6, h7, h8, h9⟩ := g5 k hk; exact ⟨b', off, h6, h7, by rw [setc_other (.inl (by omega))]; exact h8, by rw [setc_other (.inl (by omega))]; exact h9⟩⟩
theorem SharesX.own {lo hi base n : Nat} {w : World} {v : Value} {l : List (Int × Int)} (h : w.ownsRow base 35 2 v n (l.flatMap shaC)) (hb : hi ≤ base) (hr : ∀ p ∈ l, R64 p.1 ∧ R64 p.2) (hl : l.length ≤ 1000000) : SharesX lo hi w v l := by
  obtain ⟨a, cap, g1, g2, g3, g4, g5⟩ := Shares.own h hr hl
  refine ⟨a, cap, g1, g2, g3, g4, fun k hk => ?_⟩
  obtain ⟨b, off, h6, h7, h8⟩ := g5 k hk
  refine ⟨b, off, h6, .inr ?_, h7, h8⟩
  have := (own_lt h b (by rw [g1, h6]; rfl)).1
  omega

end Go.Proofs.Ytjjoadmkpbmhpaa

namespace Go.Proofs.Ytjjoadmkpbmhpaa
open Go.RowKit FP

theorem comB_dchk {rows : List (List Int)} {owners cs : List Int} (hp : progE rows owners = 0) (h : comB rows cs = true) : dchkE rows owners cs = 0 := by rw [comB_E hp, if_pos h]
theorem keyB_ok {rows : List (List Int)} {ep : Int} {cs : List Int} (h : keyB rows ep cs = true) : 0 ≤ ep ∧ ep ≤ 64 ∧ comB rows cs = true := by
  unfold keyB at h; simpa only [Bool.and_eq_true, decide_eq_true_eq] using h

end Go.Proofs.Ytjjoadmkpbmhpaa

namespace Go.Proofs.Ytjjoadmkpbmhpaa
open Go.RowKit FP

/-! What Mixes says. -/
end Go.Proofs.Ytjjoadmkpbmhpaa

namespace Go.Proofs.Ytjjoadmkpbmhpaa
open Go.RowKit FP

def bitQ (b : Int) (i : Nat) : Bool := decide (b / 2 ^ i % 2 = 1)
def bitsL (b : Int) (n : Nat) : List Nat := (List.range n).filter (bitQ b)
theorem bitsL_yes {b : Int} {n : Nat} (h : bitQ b n = true) : bitsL b (n + 1) = bitsL b n ++ [n] := by
  unfold bitsL; rw [List.range_succ, List.filter_append]; simp [h]
theorem bitsL_no {b : Int} {n : Nat} (h : bitQ b n = false) : bitsL b (n + 1) = bitsL b n := by
  unfold bitsL; rw [List.range_succ, List.filter_append]; simp [h]
theorem bitsL_len (b : Int) (n : Nat) : (bitsL b n).length ≤ n := by
  unfold bitsL
  exact Nat.le_trans (List.length_filter_le _ _) (by simp)

end Go.Proofs.Ytjjoadmkpbmhpaa

namespace Go.Proofs.Ytjjoadmkpbmhpaa
open Go.RowKit FP

end Go.Proofs.Ytjjoadmkpbmhpaa

namespace Go.Proofs.Ytjjoadmkpbmhpaa
open Go.RowKit FP

end Go.Proofs.Ytjjoadmkpbmhpaa

namespace Go.Proofs.Ytjjoadmkpbmhpaa
open Go.RowKit FP

end Go.Proofs.Ytjjoadmkpbmhpaa

namespace Go.Proofs.Ytjjoadmkpbmhpaa
open Go.RowKit

theorem DealOK.full {rows : List (List Int)} {owners : List Int} {x : Int} {u : List Int} (h : DealOK rows owners x u) : (x :: u).length = colsQ rows := by rw [List.length_cons]; exact h.len
theorem dealC_len (s : List Int) : (dealC s).length = s.length := by simp [dealC]
theorem com_deal_B {rows : List (List Int)} {owners : List Int} {x : Int} {u : List Int} (h : DealOK rows owners x u) (hp : progE rows owners = 0) : comB rows (dealC (x :: u)) = true ∧ dchkE rows owners (dealC (x :: u)) = 0 := by
  have h0 := dchkE_of (com_deal h hp)
  refine ⟨?_, h0⟩
  rw [comB_E hp] at h0
  cases e : comB rows (dealC (x :: u)) with
  | true => rfl
  | false => rw [e] at h0; cases h0
theorem key_deal {rows : List (List Int)} {owners : List Int} {x ep : Int} {u : List Int} (h : DealOK rows owners x u) (hp : progE rows owners = 0) (h0 : 0 ≤ ep) (h1 : ep ≤ 64) : keyB rows ep (dealC (x :: u)) = true := by
  unfold keyB; rw [(com_deal_B h hp).1, decide_eq_true h0, decide_eq_true h1]; rfl
theorem fitL_deal {rows : List (List Int)} {owners : List Int} {x : Int} {u : List Int} {l : List (Int × Int)} (h : DealOK rows owners x u) (hp : progE rows owners = 0) (hl : l.Sublist (dealL rows (x :: u))) : fitL rows (dealC (x :: u)) l = true := by
  unfold fitL
  rw [part_shares hl, Bool.true_and, List.all_eq_true]
  intro p hq
  obtain ⟨k, hk, rfl⟩ := deal_mem (hl.subset hq)
  have h1 := (fit_deal h hp hk (prodQ_num (rows.getD k []) (x :: u))).2
  rw [(fitB_is (com_deal_B h hp).2).2, decide_eq_true rfl, Bool.and_eq_true] at h1
  exact h1.2
/-! One list alone. -/
/-! Numbers that are moved, and moved back. -/
end Go.Proofs.Ytjjoadmkpbmhpaa
