/- The reference of dealing: Few. The reference of dealing: Numbers, Product, SameInts, Target. The laws of dealing: every share that was dealt fits, and with no other value. The laws of dealing: the sum of two lists, in plain Lean. What LinearSums and LinearChanged say, without a program: combinations of sums; rows that are changed. The laws of dealing: what is recovered from shares that were dealt; sums of dealings, in plain Lean. Rebuilding a share, in plain Lean. Package rebuild and its reference: numbers, sums. Package rebuild and its reference: Part. Package rebuild and its reference: Finish. Package rebuild: helpers, collected. Package rebuild: Plan. -/
import Derived.Test.YtjjoadmkpbmhpaaGreatMRdA
import Derived.Test.YtjjoadmkpbmhpaaGreatMSane
import Derived.Test.YtjjoadmkpbmhpaaGreatMLinF
import Derived.Test.YtjjoadmkpbmhpaaGreatMDeaJ
import Derived.Laws.EntriesVeiled
import Derived.Laws.ResultCell
namespace Go.Proofs.YtjjoadmkpbmhpaaGreat
open Go.RowKit FP

theorem mid_cases (n : Nat) : n ≤ 16 ∨ (16 < n ∧ n ≤ 64) ∨ (64 < n ∧ n ≤ 80) ∨ 80 < n := by omega

set_option maxRecDepth 100000 in
set_option maxHeartbeats 4000000 in
theorem rfew_any (rv ov : Value) (rows : List (List Int)) (owners : List Int) (w : World) (hR : Rows2 w rv rows) (hO : Ints w ov owners) :
    Calls Tryz.prog 29 #[.agg #[rv, ov]] w fun e w' => ∃ b, e = .returned (.bool b) ∧ Below w.heap.size w w' := by
  obtain ⟨W1, hW1, hb1, hr1, hz⟩ := box_prog w rv ov 25
  have HR1 := Lib.hid (hR.below hb1)
  obtain ⟨a, cap, rfl, -, hlen, -⟩ := id hR
  obtain ⟨a2, cap2, rfl, -, hlen2, -⟩ := id hO
  have c0 : W1.cell? ⟨w.heap.size, 0, none⟩ = some (.slice a rows.length cap) := row_cell hr1 rfl
  have c1 : W1.cell? ⟨w.heap.size, 1, none⟩ = some (.slice a2 owners.length cap2) := row_cell hr1 rfl
  have HW1 := Lib.hid hW1
  have HB1 := Lib.hid hb1
  clear hR hO hr1 hW1 hb1
  by_cases hm : (16 < rows.length ∧ rows.length ≤ 64)
  · have q1 : decide ((rows.length : Int) > 16) = true := decide_eq_true (by omega)
    have q2 : decide ((rows.length : Int) ≤ 64) = true := decide_eq_true (by omega)
    have q3 : decide ((16 : Int) < (rows.length : Int)) = true := decide_eq_true (by omega)
    go_enter Tryz.func29, Tryz.ntmps29
    go_wp2_with (rw [← HW1.out])
    go_ret
    exact ⟨_, rfl, HB1.out⟩
  · by_cases h80 : 80 < rows.length
    · have q1 : decide ((rows.length : Int) > 16) = true := decide_eq_true (by omega)
      have q2 : decide ((rows.length : Int) ≤ 64) = false := decide_eq_false (by omega)
      have q3 : decide ((16 : Int) < (rows.length : Int)) = true := decide_eq_true (by omega)
      have q4 : decide ((80 : Int) < (rows.length : Int)) = true := decide_eq_true (by omega)
      have q5 : decide ((rows.length : Int) > 80) = true := decide_eq_true (by omega)
      go_enter Tryz.func29, Tryz.ntmps29
      go_wp2_with (rw [← HW1.out])
      go_ret
      exact ⟨_, rfl, HB1.out⟩
    · by_cases ho : 80 < owners.length
      · have q5 : decide ((rows.length : Int) > 80) = false := decide_eq_false (by omega)
        have q6 : decide ((80 : Int) < (rows.length : Int)) = false := decide_eq_false (by omega)
        have q7 : decide ((owners.length : Int) > 80) = true := decide_eq_true (by omega)
        have q8 : decide ((80 : Int) < (owners.length : Int)) = true := decide_eq_true (by omega)
        by_cases h16 : rows.length ≤ 16
        · have q1 : decide ((rows.length : Int) > 16) = false := decide_eq_false (by omega)
          have q3 : decide ((16 : Int) < (rows.length : Int)) = false := decide_eq_false (by omega)
          go_enter Tryz.func29, Tryz.ntmps29
          go_wp2_with (rw [← HW1.out])
          go_ret
          exact ⟨_, rfl, HB1.out⟩
        · have q1 : decide ((rows.length : Int) > 16) = true := decide_eq_true (by omega)
          have q3 : decide ((16 : Int) < (rows.length : Int)) = true := decide_eq_true (by omega)
          have q2 : decide ((rows.length : Int) ≤ 64) = false := decide_eq_false (by omega)
          go_enter Tryz.func29, Tryz.ntmps29
          go_wp2_with (rw [← HW1.out])
          go_ret
          exact ⟨_, rfl, HB1.out⟩
      · have q5 : decide ((rows.length : Int) > 80) = false := decide_eq_false (by omega)
        have q6 : decide ((80 : Int) < (rows.length : Int)) = false := decide_eq_false (by omega)
        have q7 : decide ((owners.length : Int) > 80) = false := decide_eq_false (by omega)
        have q8 : decide ((80 : Int) < (owners.length : Int)) = false := decide_eq_false (by omega)
        have hrl : rows.length ≤ 80 := by omega
        have key : ∀ (b1 b2 : Bool), decide ((rows.length : Int) > 16) = b1 → decide ((16 : Int) < (rows.length : Int)) = b1 → decide ((rows.length : Int) ≤ 64) = b2 → (b1 && b2) = false →
            Calls Tryz.prog 29 #[.agg #[.slice a rows.length cap, .slice a2 owners.length cap2]] w fun e w' => ∃ b, e = .returned (.bool b) ∧ Below w.heap.size w w' := by
          intro b1 b2 q1 q3 q2 hbb
          cases b1
          · skip
            go_enter Tryz.func29, Tryz.ntmps29
            go_wp2_with (rw [← HW1.out])
            go_loopw [3] (fun i W => ∃ k : Nat, k ≤ rows.length ∧ i = .int .i64 k ∧ W = W1) (fun i _ => rows.length - (intOf i).toNat)
            case atStart => exact ⟨0, Nat.zero_le _, rfl, rfl⟩
            case round =>
              obtain ⟨k, hkl, rfl, rfl⟩ := hrel
              by_cases hlt : k < rows.length
              · obtain ⟨aa, cc, e1, -, -, hk⟩ := HR1.out
                obtain ⟨b, off, r, ha, y1, hI⟩ := hk k hlt
                simp only [Value.slice.injEq] at e1
                obtain ⟨rfl, -, rfl⟩ := e1
                subst ha
                obtain ⟨ra, rc, rfl, -⟩ := id hI
                have i0 : (k : Int) < (rows.length : Int) := by omega
                clear hk hI
                generalize rows[k] = r at *
                rcases mid_cases r.length with hc | hc | hc | hc
                · have r1 : decide ((r.length : Int) > 16) = false := decide_eq_false (by omega)
                  have r2 : decide ((16 : Int) < (r.length : Int)) = false := decide_eq_false (by omega)
                  have r3 : decide ((r.length : Int) > 80) = false := decide_eq_false (by omega)
                  have r4 : decide ((80 : Int) < (r.length : Int)) = false := decide_eq_false (by omega)
                  go_wp2_with fail
                  go_roundw
                  case rel => exact ⟨k + 1, by omega, by go_num, by trivial⟩
                  case measure => simp [intOf]; omega
                · have r1 : decide ((r.length : Int) > 16) = true := decide_eq_true (by omega)
                  have r2 : decide ((16 : Int) < (r.length : Int)) = true := decide_eq_true (by omega)
                  have r3 : decide ((r.length : Int) ≤ 64) = true := decide_eq_true (by omega)
                  go_wp2_with fail
                  go_ret
                  exact ⟨_, rfl, HB1.out⟩
                · have r1 : decide ((r.length : Int) > 16) = true := decide_eq_true (by omega)
                  have r2 : decide ((16 : Int) < (r.length : Int)) = true := decide_eq_true (by omega)
                  have r3 : decide ((r.length : Int) ≤ 64) = false := decide_eq_false (by omega)
                  have r4 : decide ((r.length : Int) > 80) = false := decide_eq_false (by omega)
                  have r5 : decide ((80 : Int) < (r.length : Int)) = false := decide_eq_false (by omega)
                  go_wp2_with fail
                  go_roundw
                  case rel => exact ⟨k + 1, by omega, by go_num, by trivial⟩
                  case measure => simp [intOf]; omega
                · have r1 : decide ((r.length : Int) > 16) = true := decide_eq_true (by omega)
                  have r2 : decide ((16 : Int) < (r.length : Int)) = true := decide_eq_true (by omega)
                  have r3 : decide ((r.length : Int) ≤ 64) = false := decide_eq_false (by omega)
                  have r4 : decide ((r.length : Int) > 80) = true := decide_eq_true (by omega)
                  have r5 : decide ((80 : Int) < (r.length : Int)) = true := decide_eq_true (by omega)
                  go_wp2_with fail
                  go_ret
                  exact ⟨_, rfl, HB1.out⟩
              · have hdk : decide (k < rows.length) = false := decide_eq_false hlt
                go_wp2_with fail
                go_ret
                exact ⟨_, rfl, HB1.out⟩
          · obtain rfl : b2 = false := by simpa using hbb
            go_enter Tryz.func29, Tryz.ntmps29
            go_wp2_with (rw [← HW1.out])
            go_loopw [3] (fun i W => ∃ k : Nat, k ≤ rows.length ∧ i = .int .i64 k ∧ W = W1) (fun i _ => rows.length - (intOf i).toNat)
            case atStart => exact ⟨0, Nat.zero_le _, rfl, rfl⟩
            case round =>
              obtain ⟨k, hkl, rfl, rfl⟩ := hrel
              by_cases hlt : k < rows.length
              · obtain ⟨aa, cc, e1, -, -, hk⟩ := HR1.out
                obtain ⟨b, off, r, ha, y1, hI⟩ := hk k hlt
                simp only [Value.slice.injEq] at e1
                obtain ⟨rfl, -, rfl⟩ := e1
                subst ha
                obtain ⟨ra, rc, rfl, -⟩ := id hI
                have i0 : (k : Int) < (rows.length : Int) := by omega
                clear hk hI
                generalize rows[k] = r at *
                rcases mid_cases r.length with hc | hc | hc | hc
                · have r1 : decide ((r.length : Int) > 16) = false := decide_eq_false (by omega)
                  have r2 : decide ((16 : Int) < (r.length : Int)) = false := decide_eq_false (by omega)
                  have r3 : decide ((r.length : Int) > 80) = false := decide_eq_false (by omega)
                  have r4 : decide ((80 : Int) < (r.length : Int)) = false := decide_eq_false (by omega)
                  go_wp2_with fail
                  go_roundw
                  case rel => exact ⟨k + 1, by omega, by go_num, by trivial⟩
                  case measure => simp [intOf]; omega
                · have r1 : decide ((r.length : Int) > 16) = true := decide_eq_true (by omega)
                  have r2 : decide ((16 : Int) < (r.length : Int)) = true := decide_eq_true (by omega)
                  have r3 : decide ((r.length : Int) ≤ 64) = true := decide_eq_true (by omega)
                  go_wp2_with fail
                  go_ret
                  exact ⟨_, rfl, HB1.out⟩
                · have r1 : decide ((r.length : Int) > 16) = true := decide_eq_true (by omega)
                  have r2 : decide ((16 : Int) < (r.length : Int)) = true := decide_eq_true (by omega)
                  have r3 : decide ((r.length : Int) ≤ 64) = false := decide_eq_false (by omega)
                  have r4 : decide ((r.length : Int) > 80) = false := decide_eq_false (by omega)
                  have r5 : decide ((80 : Int) < (r.length : Int)) = false := decide_eq_false (by omega)
                  go_wp2_with fail
                  go_roundw
                  case rel => exact ⟨k + 1, by omega, by go_num, by trivial⟩
                  case measure => simp [intOf]; omega
                · have r1 : decide ((r.length : Int) > 16) = true := decide_eq_true (by omega)
                  have r2 : decide ((16 : Int) < (r.length : Int)) = true := decide_eq_true (by omega)
                  have r3 : decide ((r.length : Int) ≤ 64) = false := decide_eq_false (by omega)
                  have r4 : decide ((r.length : Int) > 80) = true := decide_eq_true (by omega)
                  have r5 : decide ((80 : Int) < (r.length : Int)) = true := decide_eq_true (by omega)
                  go_wp2_with fail
                  go_ret
                  exact ⟨_, rfl, HB1.out⟩
              · have hdk : decide (k < rows.length) = false := decide_eq_false hlt
                go_wp2_with fail
                go_ret
                exact ⟨_, rfl, HB1.out⟩
        exact key _ _ rfl rfl rfl (by simp; omega)

end Go.Proofs.YtjjoadmkpbmhpaaGreat

namespace Go.Proofs.YtjjoadmkpbmhpaaGreat
open Go.RowKit FP

end Go.Proofs.YtjjoadmkpbmhpaaGreat

namespace Go.Proofs.YtjjoadmkpbmhpaaGreat
open Go.RowKit FP

theorem nth_mapv {f : Int → Int} {l : List Int} {k : Nat} (h : k < l.length) : nth (l.map f) k = f (nth l k) := by
  rw [nth_at (by simpa using h), nth_at h, List.getElem_map]
theorem pub_deal (row s : List Int) : ∀ j, j ≤ s.length → pubF row (dealC s) j = powE 4 (prodF row s j)
  | 0, _ => by show (1 : Int) = powE 4 0; rw [powE_0]
  | j + 1, hj => by
    show pubF row (dealC s) j * powE (nth (dealC s) j) (nth row j) % 2147483579 = powE 4 ((prodF row s j + nth row j * nth s j % 1073741789) % 1073741789)
    rw [pub_deal row s j (by omega), show nth (dealC s) j = powE 4 (nth s j) from nth_mapv (by omega), powE_mul el_four, ← powE_add el_four]
    refine powE_same ?_
    rw [Int.mul_comm (nth s j) (nth row j)]
    generalize nth row j * nth s j = q
    omega
theorem com_deal {rows : List (List Int)} {owners : List Int} {x : Int} {rnd : List Int} (h : DealOK rows owners x rnd) (hp : progE rows owners = 0) : ComOK rows owners (dealC (x :: rnd)) :=
  ⟨h.prog, hp, by simp [dealC, ← h.len], fun c hc => by
    obtain ⟨n, -, rfl⟩ := List.mem_map.1 hc
    exact el_powE el_four n⟩
theorem fit_deal {rows : List (List Int)} {owners : List Int} {x : Int} {rnd : List Int} (h : DealOK rows owners x rnd) (hp : progE rows owners = 0) {k : Nat} (hk : k < rows.length) {v : Int} (hv : 0 ≤ v ∧ v < 1073741789) :
    fitE rows owners (dealC (x :: rnd)) k v = 0 ∧ fitB rows owners (dealC (x :: rnd)) k v = decide (v = prodQ (rows.getD k []) (x :: rnd)) := by
  have hE : fitE rows owners (dealC (x :: rnd)) k v = 0 := by
    unfold fitE
    rw [dchkE_of (com_deal h hp), if_neg (by simp), if_pos (rightS_iff.2 ⟨⟨by omega, by omega⟩, hv⟩)]
  refine ⟨hE, ?_⟩
  have hr := h.prog.row hk
  have hl : (x :: rnd).length = colsQ rows := by rw [List.length_cons]; exact h.len
  unfold fitB
  rw [if_pos hE, Int.toNat_natCast]
  unfold pubQ prodQ
  rw [pub_deal _ _ _ (by simp [dealC]), getD_at hk, hr, show (dealC (x :: rnd)).length = colsQ rows by rw [← hl]; simp [dealC]]
  have hn := prodF_num rows[k] (x :: rnd) (colsQ rows)
  generalize prodF rows[k] (x :: rnd) (colsQ rows) = p at *
  by_cases e : v = p
  · subst e; simp
  · rw [decide_eq_false e]
    refine beq_eq_false_iff_ne.2 fun e2 => e ?_
    have := el_order2 el_four four_ne e2
    omega
theorem dealL_len (rows : List (List Int)) (s : List Int) : (dealL rows s).length = rows.length := by simp [dealL]
set_option maxRecDepth 100000 in
/-- Deal, where it deals. -/
theorem deal_ok (rv ov mv : Value) (rows : List (List Int)) (owners : List Int) (x : Int) (rnd : List Int) (w : World) (hR : Rows2 w rv rows) (hO : Ints w ov owners) (hM : Ints w mv rnd) (h : DealOK rows owners x rnd) (hp : progE rows owners = 0) :
    Calls Tryz.prog 26 #[.agg #[rv, ov], .int .i64 x, mv] w fun r w' => ∃ al cl ac cc, r = .returned (.tuple #[.slice al rows.length cl, .slice ac (colsQ rows) cc, .int .i64 0]) ∧ Shares w' (.slice al rows.length cl) (dealL rows (x :: rnd)) ∧ Ints w' (.slice ac (colsQ rows) cc) (dealC (x :: rnd)) ∧ Below w.heap.size w w' := by
  refine (deal_yes rv ov mv rows owners x rnd w hR hO hM h hp).mono ?_
  rintro r w' ⟨lv, cv, rfl, hl, hc, hb⟩
  obtain ⟨al, cl, rfl, -⟩ := id hl
  obtain ⟨ac, cc, rfl, -⟩ := id hc
  have e1 := dealL_len rows (x :: rnd)
  have e2 : (dealC (x :: rnd)).length = colsQ rows := by rw [← h.len]; simp [dealC]
  rw [e1] at hl ⊢
  rw [e2] at hc ⊢
  exact ⟨al, cl, ac, cc, rfl, hl, hc, hb⟩

end Go.Proofs.YtjjoadmkpbmhpaaGreat

namespace Go.Proofs.YtjjoadmkpbmhpaaGreat
open Go.RowKit FP

end Go.Proofs.YtjjoadmkpbmhpaaGreat

namespace Go.Proofs.YtjjoadmkpbmhpaaGreat

theorem rcombY_num {rows : List (List Int)} {t : List Int} (h : Right rows t.length) (ht : ∀ z ∈ t, 0 ≤ z ∧ z < 1073741789) {k : Nat} (hk : k < rows.length) : 0 ≤ nth (rcombY rows t) k ∧ nth (rcombY rows t) k < 1073741789 := by
  have hn : NumM t.length (rows.length + 1) (rcombM rows t).1 := redR_num (eq_num h ht) _
  have hR := comb_red h ht
  unfold rcombY
  rw [nth_map _ _ hk]
  exact combF_num (m := (rcombM rows t).2.length) (fun k hk => hn k rows.length (Nat.lt_of_lt_of_le hk hR.rn) (by omega)) _ (Nat.le_refl _) _

end Go.Proofs.YtjjoadmkpbmhpaaGreat

namespace Go.Proofs.YtjjoadmkpbmhpaaGreat
open Go.RowKit FP

theorem cv_tgt {n : Nat} {j : Nat} (h : j < n) : cv (tgt n) j = if j = 0 then 1 else 0 := by
  unfold cv tgt
  rw [nth_map _ _ h]
  unfold tgtF
  split
  · exact cq_1
  · exact cq_0
theorem deal_mem {rows : List (List Int)} {s : List Int} {p : Int × Int} (h : p ∈ dealL rows s) : ∃ k : Nat, k < rows.length ∧ p = ((k : Int), prodQ (rows.getD k []) s) := by
  obtain ⟨k, hk, rfl⟩ := List.mem_map.1 h
  exact ⟨k, List.mem_range.1 hk, rfl⟩
theorem sharesB_from {rows : List (List Int)} : ∀ (l : List (Int × Int)) (last : Int), (∀ p ∈ l, rightS rows p.1 p.2 = true) → (∀ p ∈ l, last < p.1) → l.Pairwise (fun a b => a.1 < b.1) → sharesB rows last l = true
  | [], _, _, _, _ => rfl
  | p :: l, last, h1, h2, h3 => by
    unfold sharesB
    rw [h1 p (by simp), decide_eq_true (h2 p (by simp)), Bool.true_and, Bool.true_and]
    obtain ⟨h4, h5⟩ := List.pairwise_cons.1 h3
    exact sharesB_from l p.1 (fun q hq => h1 q (by simp [hq])) h4 h5
theorem deal_right {rows : List (List Int)} {s : List Int} {p : Int × Int} (h : p ∈ dealL rows s) : rightS rows p.1 p.2 = true ∧ -1 < p.1 ∧ p.2 = prodQ (rows.getD p.1.toNat []) s := by
  obtain ⟨k, hk, rfl⟩ := deal_mem h
  refine ⟨rightS_iff.2 ⟨⟨by omega, by omega⟩, prodQ_num _ _⟩, by show (-1 : Int) < (k : Int); omega, ?_⟩
  show _ = prodQ (rows.getD (k : Int).toNat []) s
  rw [Int.toNat_natCast]
theorem deal_sorted (rows : List (List Int)) (s : List Int) : (dealL rows s).Pairwise (fun a b => a.1 < b.1) := by
  unfold dealL
  rw [List.pairwise_map]
  refine List.pairwise_lt_range.imp fun {a b} h => ?_
  show (a : Int) < (b : Int)
  omega
/-- A part of the shares that were dealt. -/
theorem part_shares {rows : List (List Int)} {s : List Int} {l : List (Int × Int)} (h : l.Sublist (dealL rows s)) : sharesB rows (-1) l = true :=
  sharesB_from l (-1) (fun _ hp => (deal_right (h.subset hp)).1) (fun _ hp => (deal_right (h.subset hp)).2.1) ((deal_sorted rows s).sublist h)
end Go.Proofs.YtjjoadmkpbmhpaaGreat

namespace Go.Proofs.YtjjoadmkpbmhpaaGreat
open Go.RowKit

/-! Sums. -/
/-! Helpers. -/
/-! Plan, Part, Finish. -/
/-! Masks that add up to 0. -/
/-! The laws. -/
end Go.Proofs.YtjjoadmkpbmhpaaGreat

namespace Go.Proofs.YtjjoadmkpbmhpaaGreat
open Go.RowKit FP

end Go.Proofs.YtjjoadmkpbmhpaaGreat

namespace Go.Proofs.YtjjoadmkpbmhpaaGreat
open Go.RowKit FP

end Go.Proofs.YtjjoadmkpbmhpaaGreat

namespace Go.Proofs.YtjjoadmkpbmhpaaGreat
open Go.RowKit FP

theorem results_cell_tmp2 {fn : Func} {p u v : Tmp} {ty : TypeId} (h : fn.results = #[.cell p ty, .tmp u, .tmp v]) (tmps : Array Value) (P : Program) (w : World) :
    (results fn tmps).run P w = ((asAddr (tmps.getD p undef)).run P w).andThen fun a w₁ => ((loadVar ty a).run P w₁).andThen fun x w₂ => .ok (.tuple #[x, tmps.getD u undef, tmps.getD v undef]) w₂ := by
  simp only [results, h]
  simp [Sem.run_bind, Result.andThen]
/-- A key in a box. -/
theorem box_key (w : World) (e rv ov cv : Value) (t : TypeId) : ∃ W, W = w.alloc (.cells #[e, rv, ov, cv] t) ∧ Below w.heap.size w W ∧ W.heap[w.heap.size]? = some (.cells #[e, rv, ov, cv] t (0, 0)) ∧ W.heap.size = w.heap.size + 1 :=
  ⟨_, rfl, below_new _ _ _, World.alloc_heap_new _ _, by simp⟩
end Go.Proofs.YtjjoadmkpbmhpaaGreat

namespace Go.Proofs.YtjjoadmkpbmhpaaGreat
open Go.RowKit FP

attribute [local go_sem] Oper.semAt_some

end Go.Proofs.YtjjoadmkpbmhpaaGreat

namespace Go.Proofs.YtjjoadmkpbmhpaaGreat
open Go.RowKit FP

end Go.Proofs.YtjjoadmkpbmhpaaGreat
