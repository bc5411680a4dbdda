/- The reference of dealing: Few. The reference of dealing: Numbers, Product, SameInts, Target. The laws of dealing: every share that was dealt fits, and with no other value. The laws of dealing: the sum of two lists, in plain Lean. What LinearSums and LinearChanged say, without a program: combinations of sums; rows that are changed. The laws of dealing: what is recovered from shares that were dealt; sums of dealings, in plain Lean. Rebuilding a share, in plain Lean. Package rebuild and its reference: numbers, sums. Package rebuild and its reference: Part. Package rebuild and its reference: Finish. Package rebuild: helpers, collected. Package rebuild: Plan. The reference of dealing: Shares. -/
import Derived.Test.YtjjoadmkpbmhpaaGreatMDeaV
import Derived.Test.YtjjoadmkpbmhpaaGreatMLinU
import Derived.Test.YtjjoadmkpbmhpaaGreatMDeaM
import Derived.Test.YtjjoadmkpbmhpaaGreatMLinF
import Derived.Test.YtjjoadmkpbmhpaaGreatMRange4
import Derived.Laws.EntriesVeiled
import Derived.Laws.ResultCell
namespace Go.Proofs.YtjjoadmkpbmhpaaGreat
open Go.RowKit FP

theorem mid_cases (n : Nat) : n ≤ 16 ∨ (16 < n ∧ n ≤ 64) ∨ (64 < n ∧ n ≤ 80) ∨ 80 < n := by omega

set_option maxRecDepth 100000 in
set_option maxHeartbeats 4000000 in
theorem rfew_any (rv ov : Value) (rows : List (List Int)) (owners : List Int) (w : World) (hR : Rows2 w rv rows) (hO : Ints w ov owners) :
    Calls Tryz.prog 29 #[.agg #[rv, ov]] w fun e w' => ∃ b, e = .returned (.bool b) ∧ Below w.heap.size w w' := by
  obtain ⟨W1, hW1, hb1, hr1, hz⟩ := box_prog w rv ov 25
  have HR1 := Lib.hid (hR.below hb1)
  obtain ⟨a, cap, rfl, -, hlen, -⟩ := id hR
  obtain ⟨a2, cap2, rfl, -, hlen2, -⟩ := id hO
  have c0 : W1.cell? ⟨w.heap.size, 0, none⟩ = some (.slice a rows.length cap) := row_cell hr1 rfl
  have c1 : W1.cell? ⟨w.heap.size, 1, none⟩ = some (.slice a2 owners.length cap2) := row_cell hr1 rfl
  have HW1 := Lib.hid hW1
  have HB1 := Lib.hid hb1
  clear hR hO hr1 hW1 hb1
  by_cases hm : (16 < rows.length ∧ rows.length ≤ 64)
  · have q1 : decide ((rows.length : Int) > 16) = true := decide_eq_true (by omega)
    have q2 : decide ((rows.length : Int) ≤ 64) = true := decide_eq_true (by omega)
    have q3 : decide ((16 : Int) < (rows.length : Int)) = true := decide_eq_true (by omega)
    go_enter Tryz.func29, Tryz.ntmps29
    go_wp2_with (rw [← HW1.out])
    go_ret
    exact ⟨_, rfl, HB1.out⟩
  · by_cases h80 : 80 < rows.length
    · have q1 : decide ((rows.length : Int) > 16) = true := decide_eq_true (by omega)
      have q2 : decide ((rows.length : Int) ≤ 64) = false := decide_eq_false (by omega)
      have q3 : decide ((16 : Int) < (rows.length : Int)) = true := decide_eq_true (by omega)
      have q4 : decide ((80 : Int) < (rows.length : Int)) = true := decide_eq_true (by omega)
      have q5 : decide ((rows.length : Int) > 80) = true := decide_eq_true (by omega)
      go_enter Tryz.func29, Tryz.ntmps29
      go_wp2_with (rw [← HW1.out])
      go_ret
      exact ⟨_, rfl, HB1.out⟩
    · by_cases ho : 80 < owners.length
      · have q5 : decide ((rows.length : Int) > 80) = false := decide_eq_false (by omega)
        have q6 : decide ((80 : Int) < (rows.length : Int)) = false := decide_eq_false (by omega)
        have q7 : decide ((owners.length : Int) > 80) = true := decide_eq_true (by omega)
        have q8 : decide ((80 : Int) < (owners.length : Int)) = true := decide_eq_true (by omega)
        by_cases h16 : rows.length ≤ 16
        · have q1 : decide ((rows.length : Int) > 16) = false := decide_eq_false (by omega)
          have q3 : decide ((16 : Int) < (rows.length : Int)) = false := decide_eq_false (by omega)
          go_enter Tryz.func29, Tryz.ntmps29
          go_wp2_with (rw [← HW1.out])
          go_ret
          exact ⟨_, rfl, HB1.out⟩
        · have q1 : decide ((rows.length : Int) > 16) = true := decide_eq_true (by omega)
          have q3 : decide ((16 : Int) < (rows.length : Int)) = true := decide_eq_true (by omega)
          have q2 : decide ((rows.length : Int) ≤ 64) = false := decide_eq_false (by omega)
          go_enter Tryz.func29, Tryz.ntmps29
          go_wp2_with (rw [← HW1.out])
          go_ret
          exact ⟨_, rfl, HB1.out⟩
      · have q5 : decide ((rows.length : Int) > 80) = false := decide_eq_false (by omega)
        have q6 : decide ((80 : Int) < (rows.length : Int)) = false := decide_eq_false (by omega)
        have q7 : decide ((owners.length : Int) > 80) = false := decide_eq_false (by omega)
        have q8 : decide ((80 : Int) < (owners.length : Int)) = false := decide_eq_false (by omega)
        have hrl : rows.length ≤ 80 := by omega
        have key : ∀ (b1 b2 : Bool), decide ((rows.length : Int) > 16) = b1 → decide ((16 : Int) < (rows.length : Int)) = b1 → decide ((rows.length : Int) ≤ 64) = b2 → (b1 && b2) = false →
            Calls Tryz.prog 29 #[.agg #[.slice a rows.length cap, .slice a2 owners.length cap2]] w fun e w' => ∃ b, e = .returned (.bool b) ∧ Below w.heap.size w w' := by
          intro b1 b2 q1 q3 q2 hbb
          cases b1
          · skip
            go_enter Tryz.func29, Tryz.ntmps29
            go_wp2_with (rw [← HW1.out])
            go_loopw [3] (fun i W => ∃ k : Nat, k ≤ rows.length ∧ i = .int .i64 k ∧ W = W1) (fun i _ => rows.length - (intOf i).toNat)
            case atStart => exact ⟨0, Nat.zero_le _, rfl, rfl⟩
            case round =>
              obtain ⟨k, hkl, rfl, rfl⟩ := hrel
              by_cases hlt : k < rows.length
              · obtain ⟨aa, cc, e1, -, -, hk⟩ := HR1.out
                obtain ⟨b, off, r, ha, y1, hI⟩ := hk k hlt
                simp only [Value.slice.injEq] at e1
                obtain ⟨rfl, -, rfl⟩ := e1
                subst ha
                obtain ⟨ra, rc, rfl, -⟩ := id hI
                have i0 : (k : Int) < (rows.length : Int) := by omega
                clear hk hI
                generalize rows[k] = r at *
                rcases mid_cases r.length with hc | hc | hc | hc
                · have r1 : decide ((r.length : Int) > 16) = false := decide_eq_false (by omega)
                  have r2 : decide ((16 : Int) < (r.length : Int)) = false := decide_eq_false (by omega)
                  have r3 : decide ((r.length : Int) > 80) = false := decide_eq_false (by omega)
                  have r4 : decide ((80 : Int) < (r.length : Int)) = false := decide_eq_false (by omega)
                  go_wp2_with fail
                  go_roundw
                  case rel => exact ⟨k + 1, by omega, by go_num, by trivial⟩
                  case measure => simp [intOf]; omega
                · have r1 : decide ((r.length : Int) > 16) = true := decide_eq_true (by omega)
                  have r2 : decide ((16 : Int) < (r.length : Int)) = true := decide_eq_true (by omega)
                  have r3 : decide ((r.length : Int) ≤ 64) = true := decide_eq_true (by omega)
                  go_wp2_with fail
                  go_ret
                  exact ⟨_, rfl, HB1.out⟩
                · have r1 : decide ((r.length : Int) > 16) = true := decide_eq_true (by omega)
                  have r2 : decide ((16 : Int) < (r.length : Int)) = true := decide_eq_true (by omega)
                  have r3 : decide ((r.length : Int) ≤ 64) = false := decide_eq_false (by omega)
                  have r4 : decide ((r.length : Int) > 80) = false := decide_eq_false (by omega)
                  have r5 : decide ((80 : Int) < (r.length : Int)) = false := decide_eq_false (by omega)
                  go_wp2_with fail
                  go_roundw
                  case rel => exact ⟨k + 1, by omega, by go_num, by trivial⟩
                  case measure => simp [intOf]; omega
                · have r1 : decide ((r.length : Int) > 16) = true := decide_eq_true (by omega)
                  have r2 : decide ((16 : Int) < (r.length : Int)) = true := decide_eq_true (by omega)
                  have r3 : decide ((r.length : Int) ≤ 64) = false := decide_eq_false (by omega)
                  have r4 : decide ((r.length : Int) > 80) = true := decide_eq_true (by omega)
                  have r5 : decide ((80 : Int) < (r.length : Int)) = true := decide_eq_true (by omega)
                  go_wp2_with fail
                  go_ret
                  exact ⟨_, rfl, HB1.out⟩
              · have hdk : decide (k < rows.length) = false := decide_eq_false hlt
                go_wp2_with fail
                go_ret
                exact ⟨_, rfl, HB1.out⟩
          · obtain rfl : b2 = false := by simpa using hbb
            go_enter Tryz.func29, Tryz.ntmps29
            go_wp2_with (rw [← HW1.out])
            go_loopw [3] (fun i W => ∃ k : Nat, k ≤ rows.length ∧ i = .int .i64 k ∧ W = W1) (fun i _ => rows.length - (intOf i).toNat)
            case atStart => exact ⟨0, Nat.zero_le _, rfl, rfl⟩
            case round =>
              obtain ⟨k, hkl, rfl, rfl⟩ := hrel
              by_cases hlt : k < rows.length
              · obtain ⟨aa, cc, e1, -, -, hk⟩ := HR1.out
                obtain ⟨b, off, r, ha, y1, hI⟩ := hk k hlt
                simp only [Value.slice.injEq] at e1
                obtain ⟨rfl, -, rfl⟩ := e1
                subst ha
                obtain ⟨ra, rc, rfl, -⟩ := id hI
                have i0 : (k : Int) < (rows.length : Int) := by omega
                clear hk hI
                generalize rows[k] = r at *
                rcases mid_cases r.length with hc | hc | hc | hc
                · have r1 : decide ((r.length : Int) > 16) = false := decide_eq_false (by omega)
                  have r2 : decide ((16 : Int) < (r.length : Int)) = false := decide_eq_false (by omega)
                  have r3 : decide ((r.length : Int) > 80) = false := decide_eq_false (by omega)
                  have r4 : decide ((80 : Int) < (r.length : Int)) = false := decide_eq_false (by omega)
                  go_wp2_with fail
                  go_roundw
                  case rel => exact ⟨k + 1, by omega, by go_num, by trivial⟩
                  case measure => simp [intOf]; omega
                · have r1 : decide ((r.length : Int) > 16) = true := decide_eq_true (by omega)
                  have r2 : decide ((16 : Int) < (r.length : Int)) = true := decide_eq_true (by omega)
                  have r3 : decide ((r.length : Int) ≤ 64) = true := decide_eq_true (by omega)
                  go_wp2_with fail
                  go_ret
                  exact ⟨_, rfl, HB1.out⟩
                · have r1 : decide ((r.length : Int) > 16) = true := decide_eq_true (by omega)
                  have r2 : decide ((16 : Int) < (r.length : Int)) = true := decide_eq_true (by omega)
                  have r3 : decide ((r.length : Int) ≤ 64) = false := decide_eq_false (by omega)
                  have r4 : decide ((r.length : Int) > 80) = false := decide_eq_false (by omega)
                  have r5 : decide ((80 : Int) < (r.length : Int)) = false := decide_eq_false (by omega)
                  go_wp2_with fail
                  go_roundw
                  case rel => exact ⟨k + 1, by omega, by go_num, by trivial⟩
                  case measure => simp [intOf]; omega
                · have r1 : decide ((r.length : Int) > 16) = true := decide_eq_true (by omega)
                  have r2 : decide ((16 : Int) < (r.length : Int)) = true := decide_eq_true (by omega)
                  have r3 : decide ((r.length : Int) ≤ 64) = false := decide_eq_false (by omega)
                  have r4 : decide ((r.length : Int) > 80) = true := decide_eq_true (by omega)
                  have r5 : decide ((80 : Int) < (r.length : Int)) = true := decide_eq_true (by omega)
                  go_wp2_with fail
                  go_ret
                  exact ⟨_, rfl, HB1.out⟩
              · have hdk : decide (k < rows.length) = false := decide_eq_false hlt
                go_wp2_with fail
                go_ret
                exact ⟨_, rfl, HB1.out⟩
        exact key _ _ rfl rfl rfl (by simp; omega)

end Go.Proofs.YtjjoadmkpbmhpaaGreat

namespace Go.Proofs.YtjjoadmkpbmhpaaGreat
open Go.RowKit FP

set_option maxRecDepth 100000 in
set_option maxHeartbeats 2000000 in
theorem rNumbers34_any (cv : Value) (cs : List Int) (w : World) (hC : Ints w cv cs) :
    Calls Tryz.prog 65 #[cv] w fun r w' => r = .returned (.bool (!cs.any oddQ)) ∧ w = w' := by
  have HC := Lib.hid (fun k (hk : k < cs.length) => hC.get hk)
  obtain ⟨a3, cap3, rfl, -, hlen3, hcr, -⟩ := id hC
  clear hC hcr
  go_enter Tryz.func65, Tryz.ntmps65
  go_wp2_with fail
  go_loopw [3] (fun i W => ∃ k : Nat, k ≤ cs.length ∧ i = .int .i64 k ∧ Hid (∀ z ∈ cs.take k, oddQ z = false) ∧ W = w) (fun i _ => cs.length - (intOf i).toNat)
  case atStart => exact ⟨0, Nat.zero_le _, rfl, Lib.hid (by simp), rfl⟩
  case round =>
    obtain ⟨k, hkl, rfl, HP, rfl⟩ := hrel
    by_cases hlt : k < cs.length
    · obtain ⟨hr64, b, off, n9, k9, e9, q9⟩ := HC.out k hlt
      simp only [Value.slice.injEq] at e9
      obtain ⟨rfl, -, -⟩ := e9
      have i0 : (k : Int) < (cs.length : Int) := by omega
      have hnt : nth cs k = cs[k] := nth_at hlt
      rw [hnt] at q9 hr64
      cases en : oddQ cs[k] with
      | true =>
        have HVV : Hid ((!cs.any oddQ) = false) := Lib.hid (by rw [any_here hlt en]; rfl)
        have he : (!oddQ cs[k]) = false := by rw [en]; rfl
        clear en hnt
        generalize cs[k] = z at *
        go_wp2_with fail
        with_reducible refine (rnumber34_any z _).mono ?_
        rintro e w3 ⟨rfl, rfl⟩
        rw [he]
        go_wp2_with fail
        go_ret
        exact ⟨ret_bool HVV.out.symm, rfl⟩
      | false =>
        have HN := Lib.hid (take_next hlt HP.out en)
        have he : (!oddQ cs[k]) = true := by rw [en]; rfl
        clear en hnt
        generalize cs[k] = z at *
        go_wp2_with fail
        with_reducible refine (rnumber34_any z _).mono ?_
        rintro e w3 ⟨rfl, rfl⟩
        rw [he]
        go_wp2_with fail
        go_roundw
        case rel => exact ⟨k + 1, by omega, by go_num, HN, by trivial⟩
        case measure => simp [intOf]; omega
    · have hdk : decide (k < cs.length) = false := decide_eq_false hlt
      have HL := Lib.hid (any_of_take hlt HP.out)
      go_wp2_with fail
      go_ret
      exact ⟨ret_bool (by rw [HL.out]; rfl), rfl⟩

set_option maxRecDepth 100000 in
set_option maxHeartbeats 4000000 in
theorem rProduct34_any (u v : Value) (a b : List Int) (w : World) (hA : Ints w u a) (hB : Ints w v b) (hl : a.length ≤ b.length) :
    Calls Tryz.prog 84 #[u, v] w fun r w' => r = .returned (.int .i64 (prodQ a b)) ∧ Below w.heap.size w w' := by
  have HA := Lib.hid (fun k (hk : k < a.length) => hA.get hk)
  have HB := Lib.hid (fun k (hk : k < b.length) => hB.get hk)
  obtain ⟨aa, ca, rfl, -, hla, -⟩ := id hA
  obtain ⟨ab, cb, rfl, -, hlb, -⟩ := id hB
  have HV : Hid (prodQ a b = prodF a b a.length) := Lib.hid rfl
  clear hA hB
  go_enter Tryz.func84, Tryz.ntmps84
  go_wp2_with fail
  go_loopw [5, 6] (fun s i W => ∃ k : Nat, k ≤ a.length ∧ i = .int .i64 k ∧ s = .int .i64 (prodF a b k) ∧ Below w.heap.size w W) (fun _ i _ => a.length - (intOf i).toNat)
  case atStart => exact ⟨0, Nat.zero_le _, rfl, rfl, Below.refl _ _⟩
  case round =>
    obtain ⟨k, hkl, rfl, rfl, hb⟩ := hrel
    have HBW := Lib.hid hb
    by_cases hlt : k < a.length
    · obtain ⟨hr1, b1, o1, n1, c1, e1, q1⟩ := HA.out k hlt
      obtain ⟨hr2, b2, o2, n2, c2, e2, q2⟩ := HB.out k (by omega)
      simp only [Value.slice.injEq] at e1 e2
      obtain ⟨rfl, -, -⟩ := e1
      obtain ⟨rfl, -, -⟩ := e2
      have y1 := below_cell hb q1
      have y2 := below_cell hb q2
      have hpn := prodF_num a b k
      have HM := Lib.hid (fun w => rmul_any (nth a k) (nth b k) w hr1 hr2)
      have HAD := Lib.hid (fun w => radd_any (prodF a b k) (nth a k * nth b k % 1073741789) w (num_r64 hpn) (mod_r64 _))
      have HNX := Lib.hid (show prodF a b (k + 1) = (prodF a b k + nth a k * nth b k % 1073741789) % 1073741789 from rfl)
      have i0 : 0 ≤ (k : Int) := by omega
      have i1 : (k : Int) < (a.length : Int) := by omega
      have i2 : (k : Int) < (b.length : Int) := by omega
      clear q1 q2 hb hpn
      generalize prodF a b k = pf at *
      generalize nth a k * nth b k % 1073741789 = m at *
      generalize nth a k = x at *
      generalize nth b k = y at *
      go_wp2_with fail
      go_region_held3 (fun w' => w'.cell? ⟨b1, o1 + k, none⟩ = some (.int .i64 x) ∧ w'.cell? ⟨b2, o2 + k, none⟩ = some (.int .i64 y)) (go_keep)
        (first
          | (go_at_call 62; (with_reducible refine (HM.out _).mono ?_); rintro e w2 ⟨rfl, rfl⟩)
          | (go_at_call 61; (with_reducible refine (HAD.out _).mono ?_); rintro e w2 ⟨rfl, rfl⟩))
      go_wp2_with fail
      go_roundw
      case rel => exact ⟨k + 1, by omega, by go_num, by rw [HNX.out], below_drewN HBW.out _⟩
      case measure => simp [intOf]; omega
    · obtain rfl : k = a.length := by omega
      have hdk : decide (a.length < a.length) = false := decide_eq_false (by omega)
      go_wp2_with fail
      go_ret
      exact ⟨ret_int HV.out.symm, HBW.out⟩

end Go.Proofs.YtjjoadmkpbmhpaaGreat

namespace Go.Proofs.YtjjoadmkpbmhpaaGreat
open Go.RowKit FP

theorem nth_mapv {f : Int → Int} {l : List Int} {k : Nat} (h : k < l.length) : nth (l.map f) k = f (nth l k) := by
  rw [nth_at (by simpa using h), nth_at h, List.getElem_map]
theorem pub_deal (row s : List Int) : ∀ j, j ≤ s.length → pubF row (dealC s) j = powE 4 (prodF row s j)
  | 0, _ => by show (1 : Int) = powE 4 0; rw [powE_0]
  | j + 1, hj => by
    show pubF row (dealC s) j * powE (nth (dealC s) j) (nth row j) % 2147483579 = powE 4 ((prodF row s j + nth row j * nth s j % 1073741789) % 1073741789)
    rw [pub_deal row s j (by omega), show nth (dealC s) j = powE 4 (nth s j) from nth_mapv (by omega), powE_mul el_four, ← powE_add el_four]
    refine powE_same ?_
    rw [Int.mul_comm (nth s j) (nth row j)]
    generalize nth row j * nth s j = q
    omega
theorem com_deal {rows : List (List Int)} {owners : List Int} {x : Int} {rnd : List Int} (h : DealOK rows owners x rnd) (hp : progE rows owners = 0) : ComOK rows owners (dealC (x :: rnd)) :=
  ⟨h.prog, hp, by simp [dealC, ← h.len], fun c hc => by
    obtain ⟨n, -, rfl⟩ := List.mem_map.1 hc
    exact el_powE el_four n⟩
theorem fit_deal {rows : List (List Int)} {owners : List Int} {x : Int} {rnd : List Int} (h : DealOK rows owners x rnd) (hp : progE rows owners = 0) {k : Nat} (hk : k < rows.length) {v : Int} (hv : 0 ≤ v ∧ v < 1073741789) :
    fitE rows owners (dealC (x :: rnd)) k v = 0 ∧ fitB rows owners (dealC (x :: rnd)) k v = decide (v = prodQ (rows.getD k []) (x :: rnd)) := by
  have hE : fitE rows owners (dealC (x :: rnd)) k v = 0 := by
    unfold fitE
    rw [dchkE_of (com_deal h hp), if_neg (by simp), if_pos (rightS_iff.2 ⟨⟨by omega, by omega⟩, hv⟩)]
  refine ⟨hE, ?_⟩
  have hr := h.prog.row hk
  have hl : (x :: rnd).length = colsQ rows := by rw [List.length_cons]; exact h.len
  unfold fitB
  rw [if_pos hE, Int.toNat_natCast]
  unfold pubQ prodQ
  rw [pub_deal _ _ _ (by simp [dealC]), getD_at hk, hr, show (dealC (x :: rnd)).length = colsQ rows by rw [← hl]; simp [dealC]]
  have hn := prodF_num rows[k] (x :: rnd) (colsQ rows)
  generalize prodF rows[k] (x :: rnd) (colsQ rows) = p at *
  by_cases e : v = p
  · subst e; simp
  · rw [decide_eq_false e]
    refine beq_eq_false_iff_ne.2 fun e2 => e ?_
    have := el_order2 el_four four_ne e2
    omega
theorem small_ok {rows : List (List Int)} {owners : List Int} (h : smallQ rows owners = true) : rows.length ≤ 16 ∧ progE rows owners = 0 ∧ colsQ rows ≤ 16 := by
  unfold smallQ at h
  simpa using h
theorem dealE_of {rows : List (List Int)} {owners : List Int} {x : Int} {rnd : List Int} (h : DealOK rows owners x rnd) (hp : progE rows owners = 0) : dealE rows owners x rnd = 0 := by
  unfold dealE
  rw [if_neg (by simp [hp]), if_neg]
  rw [oddQ_of h.hx, any_odd_of h.hr]
  rintro (e | e | e)
  · cases e
  · cases e
  · exact e h.len
theorem dealL_len (rows : List (List Int)) (s : List Int) : (dealL rows s).length = rows.length := by simp [dealL]
theorem dealL_at (rows : List (List Int)) (s : List Int) {k : Nat} (h : k < (dealL rows s).length) : (dealL rows s)[k] = ((k : Int), prodQ (rows.getD k []) s) := by
  have e := dealL_len rows s
  show ((List.range rows.length).map (dealF rows s))[k]'(by simp; omega) = _
  rw [List.getElem_map, List.getElem_range]; rfl

set_option maxRecDepth 100000 in
/-- Deal, where it deals. -/
theorem deal_ok (rv ov mv : Value) (rows : List (List Int)) (owners : List Int) (x : Int) (rnd : List Int) (w : World) (hR : Rows2 w rv rows) (hO : Ints w ov owners) (hM : Ints w mv rnd) (h : DealOK rows owners x rnd) (hp : progE rows owners = 0) :
    Calls Tryz.prog 26 #[.agg #[rv, ov], .int .i64 x, mv] w fun r w' => ∃ al cl ac cc, r = .returned (.tuple #[.slice al rows.length cl, .slice ac (colsQ rows) cc, .int .i64 0]) ∧ Shares w' (.slice al rows.length cl) (dealL rows (x :: rnd)) ∧ Ints w' (.slice ac (colsQ rows) cc) (dealC (x :: rnd)) ∧ Below w.heap.size w w' := by
  refine (deal_yes rv ov mv rows owners x rnd w hR hO hM h hp).mono ?_
  rintro r w' ⟨lv, cv, rfl, hl, hc, hb⟩
  obtain ⟨al, cl, rfl, -⟩ := id hl
  obtain ⟨ac, cc, rfl, -⟩ := id hc
  have e1 := dealL_len rows (x :: rnd)
  have e2 : (dealC (x :: rnd)).length = colsQ rows := by rw [← h.len]; simp [dealC]
  rw [e1] at hl ⊢
  rw [e2] at hc ⊢
  exact ⟨al, cl, ac, cc, rfl, hl, hc, hb⟩

end Go.Proofs.YtjjoadmkpbmhpaaGreat

namespace Go.Proofs.YtjjoadmkpbmhpaaGreat
open Go.RowKit FP

end Go.Proofs.YtjjoadmkpbmhpaaGreat

namespace Go.Proofs.YtjjoadmkpbmhpaaGreat

theorem rcombY_num {rows : List (List Int)} {t : List Int} (h : Right rows t.length) (ht : ∀ z ∈ t, 0 ≤ z ∧ z < 1073741789) {k : Nat} (hk : k < rows.length) : 0 ≤ nth (rcombY rows t) k ∧ nth (rcombY rows t) k < 1073741789 := by
  have hn : NumM t.length (rows.length + 1) (rcombM rows t).1 := redR_num (eq_num h ht) _
  have hR := comb_red h ht
  unfold rcombY
  rw [nth_map _ _ hk]
  exact combF_num (m := (rcombM rows t).2.length) (fun k hk => hn k rows.length (Nat.lt_of_lt_of_le hk hR.rn) (by omega)) _ (Nat.le_refl _) _

end Go.Proofs.YtjjoadmkpbmhpaaGreat

namespace Go.Proofs.YtjjoadmkpbmhpaaGreat
open Go.RowKit FP

theorem cv_tgt {n : Nat} {j : Nat} (h : j < n) : cv (tgt n) j = if j = 0 then 1 else 0 := by
  unfold cv tgt
  rw [nth_map _ _ h]
  unfold tgtF
  split
  · exact cq_1
  · exact cq_0
theorem nth_num {s : List Int} (h : ∀ z ∈ s, 0 ≤ z ∧ z < 1073741789) (i : Nat) : 0 ≤ nth s i ∧ nth s i < 1073741789 := by
  by_cases hi : i < s.length
  · rw [nth_at hi]; exact h _ (List.getElem_mem hi)
  · rw [nth_out hi]; omega

/-- Shares that were dealt are recovered to the secret. -/
theorem rec_deal {rows : List (List Int)} {owners : List Int} {l : List (Int × Int)} {s : List Int} (hP : ProgOK rows owners) (hS : sharesB rows (-1) l = true) (hok : recOk rows l = true)
    (hn : ∀ z ∈ s, 0 ≤ z ∧ z < 1073741789) (hl : ∀ p ∈ l, p.2 = prodQ (rows.getD p.1.toNat []) s) : prodQ (recY rows l) (valsOf l) = nth s 0 := by
  have hR := rowsOf_right hP hS
  have hm := comb_makes hR (tgt_num _) hok
  have hlen : (rowsOf rows l).length = l.length := by simp [rowsOf]
  have hn1 := hP.cols
  refine cq_inj (prodQ_num _ _) (nth_num hn 0) ?_
  rw [cq_prodQ]
  unfold recY
  rw [rcombY_len, hlen]
  have hrow : ∀ i, i < l.length → cv (valsOf l) i = dt (colsQ rows) (fm (rowsOf rows l) i) (cv s) := fun i hi => by
    have hi2 : i < (rowsOf rows l).length := by omega
    have e1 : (rowsOf rows l)[i] = rows.getD l[i].1.toNat [] := by simp [rowsOf]
    have e2 := hR.len _ (List.getElem_mem hi2)
    rw [tgt_len] at e2
    show cq (nth (valsOf l) i) = _
    rw [nth_vals hi, hl _ (List.getElem_mem hi), ← e1, cq_prodQ, e2]
    exact dt_congr (fun j _ => (fm_row _ hi2 j).symm) (fun _ _ => rfl)
  rw [tgt_len] at hm
  show dt l.length (cv (rcombY (rowsOf rows l) (tgt (colsQ rows)))) (cv (valsOf l)) = cq (nth s 0)
  rw [dt_congr (fun _ _ => rfl) hrow]
  show sm l.length (fun i => cv (rcombY (rowsOf rows l) (tgt (colsQ rows))) i * dt (colsQ rows) (fm (rowsOf rows l) i) (cv s)) = _
  rw [← dt_sm]
  rw [dt_congr (u' := cv (tgt (colsQ rows))) (v' := cv s) (fun j hj => by rw [hm j hj, hlen]) (fun _ _ => rfl)]
  unfold dt
  rw [sm_one (k := 0) (by omega) (fun i hi he => by rw [cv_tgt hi, if_neg he]; grind), cv_tgt (by omega), if_pos rfl]
  show 1 * cq (nth s 0) = _
  grind

theorem deal_mem {rows : List (List Int)} {s : List Int} {p : Int × Int} (h : p ∈ dealL rows s) : ∃ k : Nat, k < rows.length ∧ p = ((k : Int), prodQ (rows.getD k []) s) := by
  obtain ⟨k, hk, rfl⟩ := List.mem_map.1 h
  exact ⟨k, List.mem_range.1 hk, rfl⟩
theorem sharesB_from {rows : List (List Int)} : ∀ (l : List (Int × Int)) (last : Int), (∀ p ∈ l, rightS rows p.1 p.2 = true) → (∀ p ∈ l, last < p.1) → l.Pairwise (fun a b => a.1 < b.1) → sharesB rows last l = true
  | [], _, _, _, _ => rfl
  | p :: l, last, h1, h2, h3 => by
    unfold sharesB
    rw [h1 p (by simp), decide_eq_true (h2 p (by simp)), Bool.true_and, Bool.true_and]
    obtain ⟨h4, h5⟩ := List.pairwise_cons.1 h3
    exact sharesB_from l p.1 (fun q hq => h1 q (by simp [hq])) h4 h5
theorem deal_right {rows : List (List Int)} {s : List Int} {p : Int × Int} (h : p ∈ dealL rows s) : rightS rows p.1 p.2 = true ∧ -1 < p.1 ∧ p.2 = prodQ (rows.getD p.1.toNat []) s := by
  obtain ⟨k, hk, rfl⟩ := deal_mem h
  refine ⟨rightS_iff.2 ⟨⟨by omega, by omega⟩, prodQ_num _ _⟩, by show (-1 : Int) < (k : Int); omega, ?_⟩
  show _ = prodQ (rows.getD (k : Int).toNat []) s
  rw [Int.toNat_natCast]
theorem deal_sorted (rows : List (List Int)) (s : List Int) : (dealL rows s).Pairwise (fun a b => a.1 < b.1) := by
  unfold dealL
  rw [List.pairwise_map]
  refine List.pairwise_lt_range.imp fun {a b} h => ?_
  show (a : Int) < (b : Int)
  omega
/-- A part of the shares that were dealt. -/
theorem part_shares {rows : List (List Int)} {s : List Int} {l : List (Int × Int)} (h : l.Sublist (dealL rows s)) : sharesB rows (-1) l = true :=
  sharesB_from l (-1) (fun _ hp => (deal_right (h.subset hp)).1) (fun _ hp => (deal_right (h.subset hp)).2.1) ((deal_sorted rows s).sublist h)
theorem recE_of {rows : List (List Int)} {owners : List Int} {l : List (Int × Int)} (hp : progE rows owners = 0) (hS : sharesB rows (-1) l = true) : recE rows owners l = 0 := by
  unfold recE; rw [if_neg (by simp [hp]), if_pos hS]
theorem recB_of {rows : List (List Int)} {owners : List Int} {l : List (Int × Int)} (hp : progE rows owners = 0) (hS : sharesB rows (-1) l = true) : recB rows owners l = recOk rows l := by
  unfold recB; rw [recE_of hp hS]; simp
theorem part_rec {rows : List (List Int)} {owners : List Int} {s : List Int} {l : List (Int × Int)} (hp : progE rows owners = 0) (hn : ∀ z ∈ s, 0 ≤ z ∧ z < 1073741789) (h : l.Sublist (dealL rows s)) :
    recE rows owners l = 0 ∧ recB rows owners l = recOk rows l ∧ recV rows owners l = (if recOk rows l = true then nth s 0 else 0) := by
  have hS := part_shares h
  refine ⟨recE_of hp hS, recB_of hp hS, ?_⟩
  unfold recV
  rw [recB_of hp hS]
  split
  · rename_i hok
    exact rec_deal (progE_ok hp) hS hok hn (fun p hq => (deal_right (h.subset hq)).2.2)
  · rfl

end Go.Proofs.YtjjoadmkpbmhpaaGreat

namespace Go.Proofs.YtjjoadmkpbmhpaaGreat
open Go.RowKit

/-! Sums. -/
/-! Helpers. -/
/-! Plan, Part, Finish. -/
/-! Masks that add up to 0. -/
/-! The laws. -/
end Go.Proofs.YtjjoadmkpbmhpaaGreat

namespace Go.Proofs.YtjjoadmkpbmhpaaGreat
open Go.RowKit FP

end Go.Proofs.YtjjoadmkpbmhpaaGreat

namespace Go.Proofs.YtjjoadmkpbmhpaaGreat
open Go.RowKit FP

end Go.Proofs.YtjjoadmkpbmhpaaGreat

namespace Go.Proofs.YtjjoadmkpbmhpaaGreat
open Go.RowKit FP

theorem results_cell_tmp2 {fn : Func} {p u v : Tmp} {ty : TypeId} (h : fn.results = #[.cell p ty, .tmp u, .tmp v]) (tmps : Array Value) (P : Program) (w : World) :
    (results fn tmps).run P w = ((asAddr (tmps.getD p undef)).run P w).andThen fun a w₁ => ((loadVar ty a).run P w₁).andThen fun x w₂ => .ok (.tuple #[x, tmps.getD u undef, tmps.getD v undef]) w₂ := by
  simp only [results, h]
  simp [Sem.run_bind, Result.andThen]
/-- A key in a box. -/
theorem box_key (w : World) (e rv ov cv : Value) (t : TypeId) : ∃ W, W = w.alloc (.cells #[e, rv, ov, cv] t) ∧ Below w.heap.size w W ∧ W.heap[w.heap.size]? = some (.cells #[e, rv, ov, cv] t (0, 0)) ∧ W.heap.size = w.heap.size + 1 :=
  ⟨_, rfl, below_new _ _ _, World.alloc_heap_new _ _, by simp⟩
end Go.Proofs.YtjjoadmkpbmhpaaGreat

namespace Go.Proofs.YtjjoadmkpbmhpaaGreat
open Go.RowKit FP

attribute [local go_sem] Oper.semAt_some

end Go.Proofs.YtjjoadmkpbmhpaaGreat

namespace Go.Proofs.YtjjoadmkpbmhpaaGreat
open Go.RowKit FP

end Go.Proofs.YtjjoadmkpbmhpaaGreat

namespace Go.Proofs.YtjjoadmkpbmhpaaGreat
open Go.RowKit FP

section
variable {P : Program} {md : Region.Mode} {ops : Array Oper} {Q : Exit → Act → World → Prop} {S : World → Prop} {i : Nat} {oi : Oper} {fuel : Nat} {listed : Array Bool} {a : Act} {w : World}
end

end Go.Proofs.YtjjoadmkpbmhpaaGreat
