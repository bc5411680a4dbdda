/- The reference of dealing: Numbers, Product, SameInts, Target. The reference of dealing: Shares. The reference of dealing: Deal. -/
import Derived.Test.YtnbkbnbmmkfckaaGreatMRdA
namespace Go.Proofs.YtnbkbnbmmkfckaaGreat
open Go.RowKit FP

set_option maxRecDepth 100000 in
set_option maxHeartbeats 1000000 in
theorem rSameInts34_any (v u : Value) (a b : List Int) (w : World) (hI : Ints w v a) (hJ : Ints w u b) :
    Calls Tryz.prog 12 #[v, u] w fun e w' => e = .returned (.bool (sameQ a b)) ∧ Below w.heap.size w w' := by
  obtain ⟨pa, ca, rfl, ha1, ha2, ha3, hka⟩ := hI
  obtain ⟨pb, cb, rfl, hb1, hb2, hb3, hkb⟩ := hJ
  by_cases hl : a.length = b.length
  · have hl' : ((a.length : Int) != (b.length : Int)) = false := by rw [hl]; simp
    have HL := Lib.hid hl
    have hb1 : a.length ≤ cb := by omega
    have hcells : ∀ k (h : k < a.length), ∃ y, y = b[k]'(by rw [← HL.out]; exact h) ∧ ∃ q off, pb = some ⟨q, off, none⟩ ∧ w.cell? ⟨q, off + k, none⟩ = some (.int .i64 y) := fun k h => ⟨_, rfl, hkb k (by omega)⟩
    rw [← hl] at hl' ⊢
    clear hl hb2
    clear hkb
    go_enter Tryz.func12, Tryz.ntmps12
    go_wp2_with fail
    go_loopw [5] (fun i wr => ∃ k : Nat, k ≤ a.length ∧ i = .int .i64 k ∧ Hid (∀ j (h1 : j < a.length) (h2 : j < b.length), j < k → a[j] = b[j]) ∧ Below w.heap.size w wr) (fun i _ => a.length - (intOf i).toNat)
    case atStart => exact ⟨0, Nat.zero_le _, rfl, Lib.hid fun j _ _ h => absurd h (Nat.not_lt_zero _), Below.refl _ _⟩
    case round =>
      obtain ⟨k, hkl, rfl, HP, hb⟩ := hrel
      by_cases hlt : k < a.length
      · obtain ⟨p, off, rfl, hc⟩ := hka k hlt
        obtain ⟨y, hy, p', off', rfl, hc'⟩ := hcells k hlt
        have hc := below_cell hb hc
        have hc' := below_cell hb hc'
        obtain ⟨x, hx⟩ : ∃ x, x = a[k] := ⟨_, rfl⟩
        rw [← hx] at hc
        have i1 : (0 : Int) ≤ (k : Int) := by omega
        have i2 : (k : Int) < (a.length : Int) := by omega
        have HX := Lib.hid hx
        have HY := Lib.hid hy
        clear hcells hka hx hy
        by_cases he : x = y
        · have he' : (x != y) = false := by simpa using he
          have HN := Lib.hid (show ∀ j (h1 : j < a.length) (h2 : j < b.length), j < k + 1 → a[j] = b[j] from fun j h1 h2 h3 => by
            by_cases e : j = k
            · subst e; rw [← HX.out, ← HY.out, he]
            · exact HP.out j h1 h2 (by omega))
          clear he
          go_wp2_with fail
          go_quiet (fail)
          go_wp2_with fail
          go_roundw
          case rel => exact ⟨k + 1, by omega, by go_num, HN, below_drewN hb _⟩
          case measure => simp [intOf]; omega
        · have he' : (x != y) = true := by simpa using he
          have HN := Lib.hid (sameQ_at hlt (by rw [← HL.out]; exact hlt) (by rw [← HX.out, ← HY.out]; exact he))
          clear he
          go_wp2_with fail
          go_quiet (fail)
          go_wp2_with fail
          go_ret
          exact ⟨ret_bool HN.out.symm, below_drewN hb _⟩
      · have HN := Lib.hid (sameQ_all HL.out fun k h1 h2 => HP.out k h1 h2 (by omega))
        go_wp2_with fail
        go_ret
        exact ⟨ret_bool HN.out.symm, hb⟩
  · have hl' : ((a.length : Int) != (b.length : Int)) = true := by rw [bne_iff_ne]; omega
    have HL := Lib.hid (sameQ_len hl)
    clear hl
    go_enter Tryz.func12, Tryz.ntmps12
    go_wp2_with fail
    go_ret
    exact ⟨ret_bool HL.out.symm, Below.refl _ _⟩

set_option maxRecDepth 100000 in
set_option maxHeartbeats 2000000 in
theorem rNumbers34_any (cv : Value) (cs : List Int) (w : World) (hC : Ints w cv cs) :
    Calls Tryz.prog 54 #[cv] w fun r w' => r = .returned (.bool (!cs.any oddQ)) ∧ w = w' := by
  have HC := Lib.hid (fun k (hk : k < cs.length) => hC.get hk)
  obtain ⟨a3, cap3, rfl, -, hlen3, hcr, -⟩ := id hC
  clear hC hcr
  go_enter Tryz.func54, Tryz.ntmps54
  go_wp2_with fail
  go_loopw [3] (fun i W => ∃ k : Nat, k ≤ cs.length ∧ i = .int .i64 k ∧ Hid (∀ z ∈ cs.take k, oddQ z = false) ∧ W = w) (fun i _ => cs.length - (intOf i).toNat)
  case atStart => exact ⟨0, Nat.zero_le _, rfl, Lib.hid (by simp), rfl⟩
  case round =>
    obtain ⟨k, hkl, rfl, HP, rfl⟩ := hrel
    by_cases hlt : k < cs.length
    · obtain ⟨hr64, b, off, n9, k9, e9, q9⟩ := HC.out k hlt
      simp only [Value.slice.injEq] at e9
      obtain ⟨rfl, -, -⟩ := e9
      have i0 : (k : Int) < (cs.length : Int) := by omega
      have hnt : nth cs k = cs[k] := nth_at hlt
      rw [hnt] at q9 hr64
      cases en : oddQ cs[k] with
      | true =>
        have HVV : Hid ((!cs.any oddQ) = false) := Lib.hid (by rw [any_here hlt en]; rfl)
        have he : (!oddQ cs[k]) = false := by rw [en]; rfl
        clear en hnt
        generalize cs[k] = z at *
        go_wp2_with fail
        with_reducible refine (rnumber34_any z _).mono ?_
        rintro e w3 ⟨rfl, rfl⟩
        rw [he]
        go_wp2_with fail
        go_ret
        exact ⟨ret_bool HVV.out.symm, rfl⟩
      | false =>
        have HN := Lib.hid (take_next hlt HP.out en)
        have he : (!oddQ cs[k]) = true := by rw [en]; rfl
        clear en hnt
        generalize cs[k] = z at *
        go_wp2_with fail
        with_reducible refine (rnumber34_any z _).mono ?_
        rintro e w3 ⟨rfl, rfl⟩
        rw [he]
        go_wp2_with fail
        go_roundw
        case rel => exact ⟨k + 1, by omega, by go_num, HN, by trivial⟩
        case measure => simp [intOf]; omega
    · have hdk : decide (k < cs.length) = false := decide_eq_false hlt
      have HL := Lib.hid (any_of_take hlt HP.out)
      go_wp2_with fail
      go_ret
      exact ⟨ret_bool (by rw [HL.out]; rfl), rfl⟩

set_option maxRecDepth 100000 in
set_option maxHeartbeats 4000000 in
theorem rProduct34_any (u v : Value) (a b : List Int) (w : World) (hA : Ints w u a) (hB : Ints w v b) (hl : a.length ≤ b.length) :
    Calls Tryz.prog 55 #[u, v] w fun r w' => r = .returned (.int .i64 (prodQ a b)) ∧ Below w.heap.size w w' := by
  have HA := Lib.hid (fun k (hk : k < a.length) => hA.get hk)
  have HB := Lib.hid (fun k (hk : k < b.length) => hB.get hk)
  obtain ⟨aa, ca, rfl, -, hla, -⟩ := id hA
  obtain ⟨ab, cb, rfl, -, hlb, -⟩ := id hB
  have HV : Hid (prodQ a b = prodF a b a.length) := Lib.hid rfl
  clear hA hB
  go_enter Tryz.func55, Tryz.ntmps55
  go_wp2_with fail
  go_loopw [5, 6] (fun s i W => ∃ k : Nat, k ≤ a.length ∧ i = .int .i64 k ∧ s = .int .i64 (prodF a b k) ∧ Below w.heap.size w W) (fun _ i _ => a.length - (intOf i).toNat)
  case atStart => exact ⟨0, Nat.zero_le _, rfl, rfl, Below.refl _ _⟩
  case round =>
    obtain ⟨k, hkl, rfl, rfl, hb⟩ := hrel
    have HBW := Lib.hid hb
    by_cases hlt : k < a.length
    · obtain ⟨hr1, b1, o1, n1, c1, e1, q1⟩ := HA.out k hlt
      obtain ⟨hr2, b2, o2, n2, c2, e2, q2⟩ := HB.out k (by omega)
      simp only [Value.slice.injEq] at e1 e2
      obtain ⟨rfl, -, -⟩ := e1
      obtain ⟨rfl, -, -⟩ := e2
      have y1 := below_cell hb q1
      have y2 := below_cell hb q2
      have hpn := prodF_num a b k
      have HM := Lib.hid (fun w => rmul_any (nth a k) (nth b k) w hr1 hr2)
      have HAD := Lib.hid (fun w => radd_any (prodF a b k) (nth a k * nth b k % 1073741789) w (num_r64 hpn) (mod_r64 _))
      have HNX := Lib.hid (show prodF a b (k + 1) = (prodF a b k + nth a k * nth b k % 1073741789) % 1073741789 from rfl)
      have i0 : 0 ≤ (k : Int) := by omega
      have i1 : (k : Int) < (a.length : Int) := by omega
      have i2 : (k : Int) < (b.length : Int) := by omega
      clear q1 q2 hb hpn
      generalize prodF a b k = pf at *
      generalize nth a k * nth b k % 1073741789 = m at *
      generalize nth a k = x at *
      generalize nth b k = y at *
      go_wp2_with fail
      go_region_held3 (fun w' => w'.cell? ⟨b1, o1 + k, none⟩ = some (.int .i64 x) ∧ w'.cell? ⟨b2, o2 + k, none⟩ = some (.int .i64 y)) (go_keep)
        (first
          | (go_at_call 92; (with_reducible refine (HM.out _).mono ?_); rintro e w2 ⟨rfl, rfl⟩)
          | (go_at_call 37; (with_reducible refine (HAD.out _).mono ?_); rintro e w2 ⟨rfl, rfl⟩))
      go_wp2_with fail
      go_roundw
      case rel => exact ⟨k + 1, by omega, by go_num, by rw [HNX.out], below_drewN HBW.out _⟩
      case measure => simp [intOf]; omega
    · obtain rfl : k = a.length := by omega
      have hdk : decide (a.length < a.length) = false := decide_eq_false (by omega)
      go_wp2_with fail
      go_ret
      exact ⟨ret_int HV.out.symm, HBW.out⟩

end Go.Proofs.YtnbkbnbmmkfckaaGreat

namespace Go.Proofs.YtnbkbnbmmkfckaaGreat
open Go.RowKit FP

section
variable {P : Program} {md : Region.Mode} {ops : Array Oper} {Q : Exit → Act → World → Prop} {S : World → Prop} {i : Nat} {oi : Oper} {fuel : Nat} {listed : Array Bool} {a : Act} {w : World}
/-- An operation that yields in every world that meets S is taken first. -/
theorem take_yes (d : Option Tmp) (v : Value) (hi : ops[i]? = some oi) (hd : oi.dst = d) (hs : Region.noSelect ops = true) (hf : Region.free md ops listed i = true) (hr : (Region.ready md ops listed).contains i = true)
    (hQ : ∀ c a w, Q (.panic c) (a.put d v) w → Q (.panic c) a w) (hw : Region.wanted oi (yielded ops a.tmps) = true) (hy : ∀ w, S w → (execOp a.eval oi).run P w = .ok (.value v) w) (hS : S w)
    (h : wpAnyH P md ops Q S fuel (listed.setIfInBounds i true) (a.put d v) w) : wpAnyH P md ops Q S (fuel + 1) listed a w := by
  subst hd
  exact wpAnyH_take hi hs hf hr hQ (Or.inl ⟨hw, hy⟩) hS h
/-- An operation that its guard strikes is taken first. -/
theorem take_no (d : Option Tmp) (hi : ops[i]? = some oi) (hd : oi.dst = d) (hs : Region.noSelect ops = true) (hf : Region.free md ops listed i = true) (hr : (Region.ready md ops listed).contains i = true)
    (hQ : ∀ c a w, Q (.panic c) (a.put d undef) w → Q (.panic c) a w) (hw : Region.wanted oi (yielded ops a.tmps) = false) (hS : S w)
    (h : wpAnyH P md ops Q S fuel (listed.setIfInBounds i true) (a.put d undef) w) : wpAnyH P md ops Q S (fuel + 1) listed a w := by
  subst hd
  exact wpAnyH_take hi hs hf hr hQ (Or.inr ⟨hw, rfl⟩) hS h
end

set_option maxRecDepth 100000 in
set_option maxHeartbeats 8000000 in
theorem rShares_any (rv ov lv : Value) (rows : List (List Int)) (owners : List Int) (l : List (Int × Int)) (w : World) (hR : Rows2 w rv rows) (hO : Ints w ov owners) (hL : Shares w lv l) :
    Calls Tryz.prog 68 #[.agg #[rv, ov], lv] w fun r w' => r = .returned (.bool (sharesB rows (-1) l)) ∧ Below w.heap.size w w' := by
  obtain ⟨W1, hW1, hb1, hr1, hz⟩ := box_prog w rv ov 25
  have HR1 := Lib.hid (hR.below hb1)
  have HO1 := Lib.hid (hO.below hb1)
  have HL1 := Lib.hid (hL.below hb1)
  obtain ⟨a, cap, rfl, -, hlen, -⟩ := id hR
  obtain ⟨a2, cap2, rfl, -, hlen2, -⟩ := id hO
  obtain ⟨a3, cap3, rfl, -, hlen3, -⟩ := id hL
  have c0 : W1.cell? ⟨w.heap.size, 0, none⟩ = some (.slice a rows.length cap) := row_cell hr1 rfl
  have c1 : W1.cell? ⟨w.heap.size, 1, none⟩ = some (.slice a2 owners.length cap2) := row_cell hr1 rfl
  have HW1 := Lib.hid hW1
  have HB1 := Lib.hid hb1
  clear hR hO hL hr1 hW1 hb1
  go_enter Tryz.func68, Tryz.ntmps68
  go_wp2_with fail
  rw [← HW1.out]
  go_loopw [5] (fun i W => ∃ k : Nat, k ≤ l.length ∧ i = .int .i64 k ∧ Hid (sharesB rows (-1) (l.take k) = true) ∧ Below W1.heap.size W1 W) (fun i _ => l.length - (intOf i).toNat)
  case atStart => exact ⟨0, Nat.zero_le _, rfl, Lib.hid rfl, Below.refl _ _⟩
  case round =>
    obtain ⟨k, hkl, rfl, HS, hb⟩ := hrel
    have HBW := Lib.hid hb
    by_cases hlt : k < l.length
    · have x0 := below_cell hb c0
      have x1 := below_cell hb c1
      have hbd : Below wr.heap.size wr wr.drew := (Below.refl _ _).drew
      have hrw := (HR1.out.below hb).below hbd
      have how := (HO1.out.below hb).below hbd
      obtain ⟨al, cl, e1, -, -, hr64, hk⟩ := HL1.out
      obtain ⟨b, off, ha, q0, q1⟩ := hk k hlt
      simp only [Value.slice.injEq] at e1
      obtain ⟨rfl, -, rfl⟩ := e1
      subst ha
      have y0 := below_cell hb q0
      have y1 := below_cell hb q1
      have HTK := Lib.hid (sharesB_take (rows := rows) (last := -1) hlt)
      have HBD := Lib.hid (fun h => sharesB_bad (rows := rows) (l := l) (last := -1) (k := k) h)
      have HSH := Lib.hid (rshare_any (.slice a rows.length cap) (.slice a2 owners.length cap2) rows owners l[k].1 l[k].2 wr.drew hrw how)
      have HBX := Lib.hid (HBW.out.drew)
      have i0 : 0 ≤ (k : Int) := by omega
      have i1 : (k : Int) < (l.length : Int) := by omega
      cases er : rightS rows l[k].1 l[k].2 with
      | false =>
        have HV : Hid (sharesB rows (-1) l = false) := Lib.hid (HBD.out (by rw [HTK.out, er]; simp))
        rw [er] at HSH
        clear hk hr64 q0 q1 hb hbd hrw how er
        generalize l[k].1 = r1 at *
        generalize l[k].2 = v1 at *
        go_wp2_with fail
        refine wp_region_held_drew (S := (fun w' => w'.cell? ⟨w.heap.size, 0, none⟩ = some (.slice a rows.length cap) ∧ w'.cell? ⟨w.heap.size, 1, none⟩ = some (.slice a2 owners.length cap2) ∧ w'.cell? ⟨b, off + k * 2, none⟩ = some (.int .i64 r1) ∧ w'.cell? ⟨b, off + k * 2 + 1, none⟩ = some (.int .i64 v1))) (by kernel_rfl) (by (try dsimp only); (first | exact ⟨z0, z1, z2, z3⟩ | go_keep)) (fun hHeld => ?_)
        refine take_yes (i := 0) (some 12) ?_ rfl (by kernel_rfl) (by kernel_rfl) (by kernel_rfl) (by kernel_rfl) (fun _ _ _ h => h) (by kernel_rfl) ?_ (by assumption) ?_
        rotate_left
        · (intro w hSw; (try dsimp only at hSw); go_simp; (try with_reducible rfl))
        simp only [Act.put, List.setIfInBounds_toArray, List.set_cons_zero, List.set_cons_succ]
        refine take_yes (i := 1) (some 13) ?_ rfl (by kernel_rfl) (by kernel_rfl) (by kernel_rfl) (by kernel_rfl) (fun _ _ _ h => h) (by kernel_rfl) ?_ (by assumption) ?_
        rotate_left
        · (intro w hSw; (try dsimp only at hSw); go_simp; (try with_reducible rfl))
        simp only [Act.put, List.setIfInBounds_toArray, List.set_cons_zero, List.set_cons_succ]
        refine take_yes (i := 2) (some 14) ?_ rfl (by kernel_rfl) (by kernel_rfl) (by kernel_rfl) (by kernel_rfl) (fun _ _ _ h => h) (by kernel_rfl) ?_ (by assumption) ?_
        rotate_left
        · (intro w hSw; (try dsimp only at hSw); go_simp; (try with_reducible rfl))
        simp only [Act.put, List.setIfInBounds_toArray, List.set_cons_zero, List.set_cons_succ]
        refine take_yes (i := 3) (some 15) ?_ rfl (by kernel_rfl) (by kernel_rfl) (by kernel_rfl) (by kernel_rfl) (fun _ _ _ h => h) (by kernel_rfl) ?_ (by assumption) ?_
        rotate_left
        · (intro w hSw; (try dsimp only at hSw); go_simp; (try with_reducible rfl))
        simp only [Act.put, List.setIfInBounds_toArray, List.set_cons_zero, List.set_cons_succ]
        refine take_yes (i := 4) (some 16) ?_ rfl (by kernel_rfl) (by kernel_rfl) (by kernel_rfl) (by kernel_rfl) (fun _ _ _ h => h) (by kernel_rfl) ?_ (by assumption) ?_
        rotate_left
        · (intro w hSw; (try dsimp only at hSw); go_simp; (try with_reducible rfl))
        simp only [Act.put, List.setIfInBounds_toArray, List.set_cons_zero, List.set_cons_succ]
        refine wpAnyH_ready (rs := [5]) (by kernel_rfl) (by simp) ?_
        refine AllReadyH.cons rfl (fun K hK => ?_) AllReadyH.nil
        rw [if_pos (by rfl)]
        go_simp
        (go_at_call 98; (refine HSH.out.mono ?_); rintro e w6 ⟨rfl, hb6⟩; have z0 := below_cell hb6 x0; have z1 := below_cell hb6 x1; have z2 := below_cell hb6 y0; have z3 := below_cell hb6 y1; have HB6 := Lib.hid (HBX.out.trans (hb6.mono HBX.out.size)); clear hb6)
        refine hK.out _ _ (by (try dsimp only); (first | exact ⟨z0, z1, z2, z3⟩ | go_keep)) (fun hHeld => ?_)
        clear hK K
        try simp only [Act.put, List.setIfInBounds_toArray, List.set_cons_zero, List.set_cons_succ]
        refine take_yes (i := 6) (some 18) _ rfl (by kernel_rfl) (by kernel_rfl) (by kernel_rfl) (by kernel_rfl) (fun _ _ _ h => h) (by kernel_rfl) (fun w _ => by rfl) (by assumption) ?_
        simp only [Act.put, List.setIfInBounds_toArray, List.set_cons_zero, List.set_cons_succ]
        refine take_yes (i := 7) (some 19) _ rfl (by kernel_rfl) (by kernel_rfl) (by kernel_rfl) (by kernel_rfl) (fun _ _ _ h => h) (by kernel_rfl) (fun w _ => by rfl) (by assumption) ?_
        simp only [Act.put, List.setIfInBounds_toArray, List.set_cons_zero, List.set_cons_succ]
        refine take_no (i := 8) (some 20) rfl (by kernel_rfl) (by kernel_rfl) (by kernel_rfl) (by kernel_rfl) (fun _ _ _ h => h) (by kernel_rfl) (by assumption) ?_
        simp only [Act.put, List.setIfInBounds_toArray, List.set_cons_zero, List.set_cons_succ]
        refine take_no (i := 9) (some 21) rfl (by kernel_rfl) (by kernel_rfl) (by kernel_rfl) (by kernel_rfl) (fun _ _ _ h => h) (by kernel_rfl) (by assumption) ?_
        simp only [Act.put, List.setIfInBounds_toArray, List.set_cons_zero, List.set_cons_succ]
        refine take_no (i := 10) (some 22) rfl (by kernel_rfl) (by kernel_rfl) (by kernel_rfl) (by kernel_rfl) (fun _ _ _ h => h) (by kernel_rfl) (by assumption) ?_
        simp only [Act.put, List.setIfInBounds_toArray, List.set_cons_zero, List.set_cons_succ]
        refine take_no (i := 11) (some 23) rfl (by kernel_rfl) (by kernel_rfl) (by kernel_rfl) (by kernel_rfl) (fun _ _ _ h => h) (by kernel_rfl) (by assumption) ?_
        simp only [Act.put, List.setIfInBounds_toArray, List.set_cons_zero, List.set_cons_succ]
        refine take_no (i := 12) (some 24) rfl (by kernel_rfl) (by kernel_rfl) (by kernel_rfl) (by kernel_rfl) (fun _ _ _ h => h) (by kernel_rfl) (by assumption) ?_
        simp only [Act.put, List.setIfInBounds_toArray, List.set_cons_zero, List.set_cons_succ]
        refine take_no (i := 13) (some 25) rfl (by kernel_rfl) (by kernel_rfl) (by kernel_rfl) (by kernel_rfl) (fun _ _ _ h => h) (by kernel_rfl) (by assumption) ?_
        simp only [Act.put, List.setIfInBounds_toArray, List.set_cons_zero, List.set_cons_succ]
        refine take_no (i := 14) (some 26) rfl (by kernel_rfl) (by kernel_rfl) (by kernel_rfl) (by kernel_rfl) (fun _ _ _ h => h) (by kernel_rfl) (by assumption) ?_
        simp only [Act.put, List.setIfInBounds_toArray, List.set_cons_zero, List.set_cons_succ]
        refine take_no (i := 15) (some 27) rfl (by kernel_rfl) (by kernel_rfl) (by kernel_rfl) (by kernel_rfl) (fun _ _ _ h => h) (by kernel_rfl) (by assumption) ?_
        simp only [Act.put, List.setIfInBounds_toArray, List.set_cons_zero, List.set_cons_succ]
        refine take_no (i := 16) (some 28) rfl (by kernel_rfl) (by kernel_rfl) (by kernel_rfl) (by kernel_rfl) (fun _ _ _ h => h) (by kernel_rfl) (by assumption) ?_
        simp only [Act.put, List.setIfInBounds_toArray, List.set_cons_zero, List.set_cons_succ]
        refine take_no (i := 17) (some 29) rfl (by kernel_rfl) (by kernel_rfl) (by kernel_rfl) (by kernel_rfl) (fun _ _ _ h => h) (by kernel_rfl) (by assumption) ?_
        simp only [Act.put, List.setIfInBounds_toArray, List.set_cons_zero, List.set_cons_succ]
        refine take_no (i := 18) (some 30) rfl (by kernel_rfl) (by kernel_rfl) (by kernel_rfl) (by kernel_rfl) (fun _ _ _ h => h) (by kernel_rfl) (by assumption) ?_
        simp only [Act.put, List.setIfInBounds_toArray, List.set_cons_zero, List.set_cons_succ]
        refine take_no (i := 19) (some 31) rfl (by kernel_rfl) (by kernel_rfl) (by kernel_rfl) (by kernel_rfl) (fun _ _ _ h => h) (by kernel_rfl) (by assumption) ?_
        simp only [Act.put, List.setIfInBounds_toArray, List.set_cons_zero, List.set_cons_succ]
        refine take_no (i := 20) (some 32) rfl (by kernel_rfl) (by kernel_rfl) (by kernel_rfl) (by kernel_rfl) (fun _ _ _ h => h) (by kernel_rfl) (by assumption) ?_
        simp only [Act.put, List.setIfInBounds_toArray, List.set_cons_zero, List.set_cons_succ]
        refine take_no (i := 21) (some 33) rfl (by kernel_rfl) (by kernel_rfl) (by kernel_rfl) (by kernel_rfl) (fun _ _ _ h => h) (by kernel_rfl) (by assumption) ?_
        simp only [Act.put, List.setIfInBounds_toArray, List.set_cons_zero, List.set_cons_succ]
        refine take_no (i := 22) (some 34) rfl (by kernel_rfl) (by kernel_rfl) (by kernel_rfl) (by kernel_rfl) (fun _ _ _ h => h) (by kernel_rfl) (by assumption) ?_
        simp only [Act.put, List.setIfInBounds_toArray, List.set_cons_zero, List.set_cons_succ]
        refine take_no (i := 23) (some 35) rfl (by kernel_rfl) (by kernel_rfl) (by kernel_rfl) (by kernel_rfl) (fun _ _ _ h => h) (by kernel_rfl) (by assumption) ?_
        simp only [Act.put, List.setIfInBounds_toArray, List.set_cons_zero, List.set_cons_succ]
        refine take_yes (i := 24) (some 36) (.bool true) rfl (by kernel_rfl) (by kernel_rfl) (by kernel_rfl) (by kernel_rfl) (fun _ _ _ h => h) (by kernel_rfl) (fun w _ => by rfl) (by assumption) ?_
        simp only [Act.put, List.setIfInBounds_toArray, List.set_cons_zero, List.set_cons_succ]
        refine wpAnyH_done (by kernel_rfl) ?_ _
        clear hHeld z0 z1 z2 z3 x0 x1 y0 y1 HSH HBX
        try clear hHeld
        go_wp2_with fail
        go_ret
        exact ⟨ret_bool HV.out.symm, HB1.out.trans (HB6.out.mono HB1.out.size)⟩
      | true =>
        by_cases hk0 : k = 0
        · have hd : decide ((k : Int) > 0) = false := decide_eq_false (by omega)
          have hd2 : decide ((0 : Int) < (k : Int)) = false := decide_eq_false (by omega)
          have hd3 : decide (0 < k) = false := decide_eq_false (by omega)
          have hlast : lastR (-1) (l.take k) = -1 := by rw [hk0]; rfl
          have HNX : Hid (sharesB rows (-1) (l.take (k + 1)) = true) := Lib.hid (by
            rw [HTK.out, HS.out, er, hlast, decide_eq_true]; rfl
            have := (rightS_iff.1 er).1; omega)
          rw [er] at HSH
          clear hk hr64 q0 q1 hb hbd hrw how er hlast hk0
          generalize l[k].1 = r1 at *
          generalize l[k].2 = v1 at *
          go_wp2_with fail
          refine wp_region_held_drew (S := (fun w' => w'.cell? ⟨w.heap.size, 0, none⟩ = some (.slice a rows.length cap) ∧ w'.cell? ⟨w.heap.size, 1, none⟩ = some (.slice a2 owners.length cap2) ∧ w'.cell? ⟨b, off + k * 2, none⟩ = some (.int .i64 r1) ∧ w'.cell? ⟨b, off + k * 2 + 1, none⟩ = some (.int .i64 v1))) (by kernel_rfl) (by (try dsimp only); (first | exact ⟨z0, z1, z2, z3⟩ | go_keep)) (fun hHeld => ?_)
          refine take_yes (i := 0) (some 12) ?_ rfl (by kernel_rfl) (by kernel_rfl) (by kernel_rfl) (by kernel_rfl) (fun _ _ _ h => h) (by kernel_rfl) ?_ (by assumption) ?_
          rotate_left
          · (intro w hSw; (try dsimp only at hSw); go_simp; (try with_reducible rfl))
          simp only [Act.put, List.setIfInBounds_toArray, List.set_cons_zero, List.set_cons_succ]
          refine take_yes (i := 1) (some 13) ?_ rfl (by kernel_rfl) (by kernel_rfl) (by kernel_rfl) (by kernel_rfl) (fun _ _ _ h => h) (by kernel_rfl) ?_ (by assumption) ?_
          rotate_left
          · (intro w hSw; (try dsimp only at hSw); go_simp; (try with_reducible rfl))
          simp only [Act.put, List.setIfInBounds_toArray, List.set_cons_zero, List.set_cons_succ]
          refine take_yes (i := 2) (some 14) ?_ rfl (by kernel_rfl) (by kernel_rfl) (by kernel_rfl) (by kernel_rfl) (fun _ _ _ h => h) (by kernel_rfl) ?_ (by assumption) ?_
          rotate_left
          · (intro w hSw; (try dsimp only at hSw); go_simp; (try with_reducible rfl))
          simp only [Act.put, List.setIfInBounds_toArray, List.set_cons_zero, List.set_cons_succ]
          refine take_yes (i := 3) (some 15) ?_ rfl (by kernel_rfl) (by kernel_rfl) (by kernel_rfl) (by kernel_rfl) (fun _ _ _ h => h) (by kernel_rfl) ?_ (by assumption) ?_
          rotate_left
          · (intro w hSw; (try dsimp only at hSw); go_simp; (try with_reducible rfl))
          simp only [Act.put, List.setIfInBounds_toArray, List.set_cons_zero, List.set_cons_succ]
          refine take_yes (i := 4) (some 16) ?_ rfl (by kernel_rfl) (by kernel_rfl) (by kernel_rfl) (by kernel_rfl) (fun _ _ _ h => h) (by kernel_rfl) ?_ (by assumption) ?_
          rotate_left
          · (intro w hSw; (try dsimp only at hSw); go_simp; (try with_reducible rfl))
          simp only [Act.put, List.setIfInBounds_toArray, List.set_cons_zero, List.set_cons_succ]
          refine wpAnyH_ready (rs := [5]) (by kernel_rfl) (by simp) ?_
          refine AllReadyH.cons rfl (fun K hK => ?_) AllReadyH.nil
          rw [if_pos (by rfl)]
          go_simp
          (go_at_call 98; (refine HSH.out.mono ?_); rintro e w6 ⟨rfl, hb6⟩; have z0 := below_cell hb6 x0; have z1 := below_cell hb6 x1; have z2 := below_cell hb6 y0; have z3 := below_cell hb6 y1; have HB6 := Lib.hid (HBX.out.trans (hb6.mono HBX.out.size)); clear hb6)
          refine hK.out _ _ (by (try dsimp only); (first | exact ⟨z0, z1, z2, z3⟩ | go_keep)) (fun hHeld => ?_)
          clear hK K
          try simp only [Act.put, List.setIfInBounds_toArray, List.set_cons_zero, List.set_cons_succ]
          refine take_yes (i := 6) (some 18) _ rfl (by kernel_rfl) (by kernel_rfl) (by kernel_rfl) (by kernel_rfl) (fun _ _ _ h => h) (by kernel_rfl) (fun w _ => by rfl) (by assumption) ?_
          simp only [Act.put, List.setIfInBounds_toArray, List.set_cons_zero, List.set_cons_succ]
          refine take_yes (i := 7) (some 19) _ rfl (by kernel_rfl) (by kernel_rfl) (by kernel_rfl) (by kernel_rfl) (fun _ _ _ h => h) (by kernel_rfl) (fun w _ => by rfl) (by assumption) ?_
          simp only [Act.put, List.setIfInBounds_toArray, List.set_cons_zero, List.set_cons_succ]
          refine take_yes (i := 8) (some 20) _ rfl (by kernel_rfl) (by kernel_rfl) (by kernel_rfl) (by kernel_rfl) (fun _ _ _ h => h) (by kernel_rfl) (fun w _ => by rfl) (by assumption) ?_
          simp only [Act.put, List.setIfInBounds_toArray, List.set_cons_zero, List.set_cons_succ]
          refine take_yes (i := 9) (some 21) (.bool false) rfl (by kernel_rfl) (by kernel_rfl) (by kernel_rfl) (by kernel_rfl) (fun _ _ _ h => h) (by kernel_rfl) (fun w _ => Eq.trans (b := .ok (.value (.bool (decide ((k : Int) > 0)))) w) rfl (by rw [hd])) (by assumption) ?_
          simp only [Act.put, List.setIfInBounds_toArray, List.set_cons_zero, List.set_cons_succ]
          refine take_yes (i := 10) (some 22) _ rfl (by kernel_rfl) (by kernel_rfl) (by kernel_rfl) (by kernel_rfl) (fun _ _ _ h => h) (by kernel_rfl) (fun w _ => by rfl) (by assumption) ?_
          simp only [Act.put, List.setIfInBounds_toArray, List.set_cons_zero, List.set_cons_succ]
          refine take_no (i := 11) (some 23) rfl (by kernel_rfl) (by kernel_rfl) (by kernel_rfl) (by kernel_rfl) (fun _ _ _ h => h) (by kernel_rfl) (by assumption) ?_
          simp only [Act.put, List.setIfInBounds_toArray, List.set_cons_zero, List.set_cons_succ]
          refine take_no (i := 12) (some 24) rfl (by kernel_rfl) (by kernel_rfl) (by kernel_rfl) (by kernel_rfl) (fun _ _ _ h => h) (by kernel_rfl) (by assumption) ?_
          simp only [Act.put, List.setIfInBounds_toArray, List.set_cons_zero, List.set_cons_succ]
          refine take_no (i := 13) (some 25) rfl (by kernel_rfl) (by kernel_rfl) (by kernel_rfl) (by kernel_rfl) (fun _ _ _ h => h) (by kernel_rfl) (by assumption) ?_
          simp only [Act.put, List.setIfInBounds_toArray, List.set_cons_zero, List.set_cons_succ]
          refine take_no (i := 14) (some 26) rfl (by kernel_rfl) (by kernel_rfl) (by kernel_rfl) (by kernel_rfl) (fun _ _ _ h => h) (by kernel_rfl) (by assumption) ?_
          simp only [Act.put, List.setIfInBounds_toArray, List.set_cons_zero, List.set_cons_succ]
          refine take_no (i := 15) (some 27) rfl (by kernel_rfl) (by kernel_rfl) (by kernel_rfl) (by kernel_rfl) (fun _ _ _ h => h) (by kernel_rfl) (by assumption) ?_
          simp only [Act.put, List.setIfInBounds_toArray, List.set_cons_zero, List.set_cons_succ]
          refine take_no (i := 16) (some 28) rfl (by kernel_rfl) (by kernel_rfl) (by kernel_rfl) (by kernel_rfl) (fun _ _ _ h => h) (by kernel_rfl) (by assumption) ?_
          simp only [Act.put, List.setIfInBounds_toArray, List.set_cons_zero, List.set_cons_succ]
          refine take_no (i := 17) (some 29) rfl (by kernel_rfl) (by kernel_rfl) (by kernel_rfl) (by kernel_rfl) (fun _ _ _ h => h) (by kernel_rfl) (by assumption) ?_
          simp only [Act.put, List.setIfInBounds_toArray, List.set_cons_zero, List.set_cons_succ]
          refine take_no (i := 18) (some 30) rfl (by kernel_rfl) (by kernel_rfl) (by kernel_rfl) (by kernel_rfl) (fun _ _ _ h => h) (by kernel_rfl) (by assumption) ?_
          simp only [Act.put, List.setIfInBounds_toArray, List.set_cons_zero, List.set_cons_succ]
          refine take_no (i := 19) (some 31) rfl (by kernel_rfl) (by kernel_rfl) (by kernel_rfl) (by kernel_rfl) (fun _ _ _ h => h) (by kernel_rfl) (by assumption) ?_
          simp only [Act.put, List.setIfInBounds_toArray, List.set_cons_zero, List.set_cons_succ]
          refine take_no (i := 20) (some 32) rfl (by kernel_rfl) (by kernel_rfl) (by kernel_rfl) (by kernel_rfl) (fun _ _ _ h => h) (by kernel_rfl) (by assumption) ?_
          simp only [Act.put, List.setIfInBounds_toArray, List.set_cons_zero, List.set_cons_succ]
          refine take_no (i := 21) (some 33) rfl (by kernel_rfl) (by kernel_rfl) (by kernel_rfl) (by kernel_rfl) (fun _ _ _ h => h) (by kernel_rfl) (by assumption) ?_
          simp only [Act.put, List.setIfInBounds_toArray, List.set_cons_zero, List.set_cons_succ]
          refine take_no (i := 22) (some 34) rfl (by kernel_rfl) (by kernel_rfl) (by kernel_rfl) (by kernel_rfl) (fun _ _ _ h => h) (by kernel_rfl) (by assumption) ?_
          simp only [Act.put, List.setIfInBounds_toArray, List.set_cons_zero, List.set_cons_succ]
          refine take_yes (i := 23) (some 35) (.bool false) rfl (by kernel_rfl) (by kernel_rfl) (by kernel_rfl) (by kernel_rfl) (fun _ _ _ h => h) (by kernel_rfl) (fun w _ => by rfl) (by assumption) ?_
          simp only [Act.put, List.setIfInBounds_toArray, List.set_cons_zero, List.set_cons_succ]
          refine take_yes (i := 24) (some 36) (.bool false) rfl (by kernel_rfl) (by kernel_rfl) (by kernel_rfl) (by kernel_rfl) (fun _ _ _ h => h) (by kernel_rfl) (fun w _ => by rfl) (by assumption) ?_
          simp only [Act.put, List.setIfInBounds_toArray, List.set_cons_zero, List.set_cons_succ]
          refine wpAnyH_done (by kernel_rfl) ?_ _
          clear hHeld z0 z1 z2 z3 x0 x1 y0 y1 HSH HBX
          try clear hHeld
          go_wp2_with fail
          go_roundw
          case rel => exact ⟨k + 1, by omega, by go_num, HNX, HB6.out⟩
          case measure => simp [intOf]; omega
        · have hd : decide ((k : Int) > 0) = true := decide_eq_true (by omega)
          have hd2 : decide ((0 : Int) < (k : Int)) = true := decide_eq_true (by omega)
          have hd3 : decide (0 < k) = true := decide_eq_true (by omega)
          obtain ⟨j, hj⟩ : ∃ j, k = j + 1 := ⟨k - 1, by omega⟩
          have hjl : j < l.length := by omega
          obtain ⟨b', off', ha', p0, -⟩ := hk j hjl
          simp only [Option.some.injEq, Addr.mk.injEq, and_true] at ha'
          obtain ⟨rfl, rfl⟩ := ha'
          have hlast : lastR (-1) (l.take k) = l[j].1 := by subst hj; exact lastR_take hjl
          have v0 := below_cell hb p0
          have hwj : IntKind.i64.wrap ((k : Int) - 1) = (j : Int) := by rw [IntWalk.i64_in _ (by omega)]; omega
          have hj0 : 0 ≤ (j : Int) := by omega
          have hj1 : (j : Int) < (l.length : Int) := by omega
          rw [er] at HSH
          rw [hlast] at HTK
          by_cases hq : l[j].1 < l[k].1
          · have HNX : Hid (sharesB rows (-1) (l.take (k + 1)) = true) := Lib.hid (by rw [HTK.out, HS.out, er, decide_eq_true hq]; rfl)
            clear hk hr64 q0 q1 hb hbd hrw how er hlast p0 HTK HBD
            generalize l[k].1 = r1 at *
            generalize l[k].2 = v1 at *
            generalize l[j].1 = r0 at *
            have hq1 : decide (r0 ≥ r1) = false := decide_eq_false (by omega)
            have hq2 : decide (r1 ≤ r0) = false := decide_eq_false (by omega)
            clear hq hj
            go_wp2_with fail
            first
              | go_region_held3 (fun w' => w'.cell? ⟨w.heap.size, 0, none⟩ = some (.slice a rows.length cap) ∧ w'.cell? ⟨w.heap.size, 1, none⟩ = some (.slice a2 owners.length cap2) ∧ w'.cell? ⟨b, off + k * 2, none⟩ = some (.int .i64 r1) ∧ w'.cell? ⟨b, off + k * 2 + 1, none⟩ = some (.int .i64 v1) ∧ w'.cell? ⟨b, off + j * 2, none⟩ = some (.int .i64 r0)) (first | go_keep | exact ⟨z0, z1, z2, z3, z4⟩)
                  (first
                    | (go_at_call 98; (refine HSH.out.mono ?_); rintro e w6 ⟨rfl, hb6⟩; have z0 := below_cell hb6 x0; have z1 := below_cell hb6 x1; have z2 := below_cell hb6 y0; have z3 := below_cell hb6 y1; have z4 := below_cell hb6 v0; have HB6 := Lib.hid (HBX.out.trans (hb6.mono HBX.out.size)); clear hb6))
              | fail
            clear hwj
            go_wp2_with fail
            go_roundw
            case rel => exact ⟨k + 1, by omega, by go_num, HNX, HB6.out⟩
            case measure => simp [intOf]; omega
          · have HV : Hid (sharesB rows (-1) l = false) := Lib.hid (HBD.out (by rw [HTK.out, decide_eq_false hq]; simp))
            clear hk hr64 q0 q1 hb hbd hrw how er hlast p0 HTK HBD
            generalize l[k].1 = r1 at *
            generalize l[k].2 = v1 at *
            generalize l[j].1 = r0 at *
            have hq1 : decide (r0 ≥ r1) = true := decide_eq_true (by omega)
            have hq2 : decide (r1 ≤ r0) = true := decide_eq_true (by omega)
            clear hq hj
            go_wp2_with fail
            first
              | go_region_held3 (fun w' => w'.cell? ⟨w.heap.size, 0, none⟩ = some (.slice a rows.length cap) ∧ w'.cell? ⟨w.heap.size, 1, none⟩ = some (.slice a2 owners.length cap2) ∧ w'.cell? ⟨b, off + k * 2, none⟩ = some (.int .i64 r1) ∧ w'.cell? ⟨b, off + k * 2 + 1, none⟩ = some (.int .i64 v1) ∧ w'.cell? ⟨b, off + j * 2, none⟩ = some (.int .i64 r0)) (first | go_keep | exact ⟨z0, z1, z2, z3, z4⟩)
                  (first
                    | (go_at_call 98; (refine HSH.out.mono ?_); rintro e w6 ⟨rfl, hb6⟩; have z0 := below_cell hb6 x0; have z1 := below_cell hb6 x1; have z2 := below_cell hb6 y0; have z3 := below_cell hb6 y1; have z4 := below_cell hb6 v0; have HB6 := Lib.hid (HBX.out.trans (hb6.mono HBX.out.size)); clear hb6))
              | fail
            clear hwj
            go_wp2_with fail
            go_ret
            exact ⟨ret_bool HV.out.symm, HB1.out.trans (HB6.out.mono HB1.out.size)⟩
    · have hdk : decide (k < l.length) = false := decide_eq_false hlt
      have HV : Hid (sharesB rows (-1) l = true) := Lib.hid (by have := HS.out; rwa [List.take_of_length_le (by omega)] at this)
      go_wp2_with fail
      go_ret
      exact ⟨ret_bool HV.out.symm, HB1.out.trans (HBW.out.mono HB1.out.size)⟩

end Go.Proofs.YtnbkbnbmmkfckaaGreat

namespace Go.Proofs.YtnbkbnbmmkfckaaGreat
open Go.RowKit FP

theorem own_fresh (w : World) (x : Value) (t : TypeId) (B : Nat) (hB : w.heap.size = B) : (w.alloc (.cells #[x] t)).ownsRow B t 1 (.slice (some ⟨B, 0, none⟩) 1 1) 1 [x] := by
  subst hB
  exact ⟨rfl, .inr ⟨_, _, _, rfl, Nat.le_refl _, World.alloc_heap_new w _, Nat.le_refl _, by unfold maxLen; omega, rfl, rfl⟩⟩

set_option maxRecDepth 100000 in
set_option maxHeartbeats 8000000 in
theorem rDeal_yes (rv ov mv : Value) (rows : List (List Int)) (owners : List Int) (x : Int) (rnd : List Int) (w : World) (hR : Rows2 w rv rows) (hO : Ints w ov owners) (hM : Ints w mv rnd) (hD : DealOK rows owners x rnd) (hp0 : progE rows owners = 0) :
    Calls Tryz.prog 19 #[.agg #[rv, ov], .int .i64 x, mv] w fun r w' => ∃ lv cv, r = .returned (.tuple #[lv, cv, .int .i64 0]) ∧ Shares w' lv (dealL rows (x :: rnd)) ∧ Ints w' cv (dealC (x :: rnd)) ∧ Below w.heap.size w w' := by
  obtain ⟨W1, hW1, hb1, hr1, hz⟩ := box_prog w rv ov 25
  have HR1 := Lib.hid (hR.below hb1)
  have HO1 := Lib.hid (hO.below hb1)
  have HM1 := Lib.hid (hM.below hb1)
  have HPC := Lib.hid (rpCheck_any rv ov rows owners W1 HR1.out HO1.out)
  rw [hp0] at HPC
  obtain ⟨a, cap, rfl, -, hlen, -⟩ := id hR
  obtain ⟨a2, cap2, rfl, -, hlen2, -⟩ := id hO
  obtain ⟨a3, cap3, rfl, -, hlen3, -⟩ := id hM
  have c0 : W1.cell? ⟨w.heap.size, 0, none⟩ = some (.slice a rows.length cap) := row_cell hr1 rfl
  have c1 : W1.cell? ⟨w.heap.size, 1, none⟩ = some (.slice a2 owners.length cap2) := row_cell hr1 rfl
  have HW1 := Lib.hid hW1
  have HB1 := Lib.hid hb1
  have hx : R64 x := num_r64 hD.hx
  have HX : Hid ((!oddQ x) = true) := Lib.hid (by rw [oddQ_of hD.hx]; rfl)
  have HRn : Hid ((!rnd.any oddQ) = true) := Lib.hid (by rw [any_odd_of hD.hr]; rfl)
  have hcl := hD.len
  have hcu := hD.prog.cols_le
  have hci : (1 : Int) ≤ (colsQ rows : Nat) := by omega
  have hcv : ((colsQ rows : Nat) : Int) ≤ 64 := by omega
  have hlb : ((rnd.length : Int) != ((colsQ rows : Nat) : Int) - 1) = false := bne_eq_false_iff_eq.2 (by omega)
  have HD := Lib.hid hD
  have HS64 : Hid (∀ z ∈ x :: rnd, R64 z) := Lib.hid (by
    intro z hz
    rcases List.mem_cons.1 hz with rfl | hz
    · exact hx
    · exact num_r64 (hD.hr z hz))
  clear hR hO hM hr1 hW1 hb1 hp0 hD
  go_enter Tryz.func19, Tryz.ntmps19
  go_wp2_with fail
  rw [← HW1.out]
  refine HPC.out.mono ?_
  rintro r w2 ⟨rfl, hb2⟩
  have HB2 := Lib.hid (HB1.out.trans (hb2.mono HB1.out.size))
  have HM2 := Lib.hid (HM1.out.below hb2)
  have HR2 := Lib.hid (HR1.out.below hb2)
  have HO2 := Lib.hid (HO1.out.below hb2)
  have d0 := below_cell hb2 c0
  have d1 := below_cell hb2 c1
  clear hb2 HPC c0 c1
  go_wp2_with fail
  with_reducible refine (rnumber34_any x _).mono ?_
  rintro r w3 ⟨rfl, rfl⟩
  rw [HX.out]
  go_wp2_with fail
  refine (rcolumns_any _ _ rows owners _ HR2.out HO2.out).mono ?_
  rintro r w6 ⟨rfl, hb6⟩
  have f0 := below_cell hb6 d0
  have HM6 := Lib.hid (HM2.out.below hb6)
  have HR6 := Lib.hid (HR2.out.below hb6)
  have HB6 := Lib.hid (HB2.out.trans (hb6.mono HB2.out.size))
  clear hb6 d0 d1
  go_wp2_with fail
  refine (rNumbers34_any _ rnd _ HM6.out).mono ?_
  rintro r w7 ⟨rfl, rfl⟩
  rw [HRn.out]
  have hn1 := below_new w6 #[.int .i64 x] 3
  have hof := own_fresh w6 (.int .i64 x) 3 w6.heap.size rfl
  have HOF := Lib.hid hof
  have HMN := Lib.hid (HM6.out.below hn1)
  have hbs : w6.heap.size ≤ (w6.alloc (.cells #[.int .i64 x] 3)).heap.size := by simp
  have HBS := Lib.hid hbs
  have HN1 := Lib.hid hn1
  clear hof hn1 hbs
  go_wp2_with (refine app_ints_any rfl _ _ rfl w6.heap.size w6.heap.size 1 1 [.int .i64 x] rfl HOF.out _ rnd rfl HMN.out (by omega) (Nat.le_refl _) HBS.out ?_; intro v8 w8 hown8 hbl8; have HOW := Lib.hid hown8; have HG := Lib.hid hbl8; clear hown8 hbl8)
  obtain ⟨s, hs⟩ : ∃ s, s = x :: rnd := ⟨_, rfl⟩
  have HSN := Lib.hid (show s.length = colsQ rows by rw [hs, List.length_cons]; exact hcl)
  have hs7 : Ints w8 v8 s := by
    rw [hs]
    exact Ints.own (zs := x :: rnd) HOW.out HS64.out (by simp; omega)
  have HSS := Lib.hid hs
  clear hs
  have hb67 := HN1.out.trans HG.out
  have HS7 := Lib.hid hs7
  have HR7 := Lib.hid (HR6.out.below hb67)
  have HB7 := Lib.hid (HB6.out.trans (hb67.mono HB6.out.size))
  have x0 := below_cell hb67 f0
  obtain ⟨a10, c10, rfl, -⟩ := id hs7
  have h00 : (w8.alloc (.cells #[] 47)).ownsRow w8.heap.size 47 2 (.slice (some ⟨w8.heap.size, 0, none⟩) 0 0) 0 (((List.range 0).map (dealF rows s)).flatMap shaC) := World.ownsRow_made _ #[] 0 (Nat.le_refl _) (by unfold maxLen; omega) rfl
  have hba := below_new w8 #[] 47
  clear hs7 hb67 f0 HOF HMN HBS HN1 HOW HG HM6 HR6 HM2 HR2 HO2 HM1 HR1 HO1
  go_loopw [11, 12] (fun L i W => ∃ k : Nat, k ≤ rows.length ∧ i = .int .i64 k ∧ W.ownsRow w8.heap.size 47 2 L k (((List.range k).map (dealF rows s)).flatMap shaC) ∧ Below w8.heap.size w8 W) (fun _ i _ => rows.length - (intOf i).toNat)
  case atStart => exact ⟨0, Nat.zero_le _, rfl, h00, hba⟩
  case round =>
    clear h00 hba
    obtain ⟨k, hkl, rfl, hown, hb⟩ := hrel
    have y0 := below_cell hb x0
    by_cases hlt : k < rows.length
    · obtain ⟨aa, cc, e1, -, -, hk⟩ := HR7.out
      obtain ⟨b, off, r, ha, q1, hI⟩ := hk k hlt
      simp only [Value.slice.injEq] at e1
      obtain ⟨rfl, -, rfl⟩ := e1
      subst ha
      have y1 := below_cell hb q1
      have HI := Lib.hid (hI.below hb)
      have HSW := Lib.hid (HS7.out.below hb)
      obtain ⟨ra, rc, rfl, -⟩ := id hI
      have hrl := HD.out.prog.row hlt
      have hfew := HD.out.prog.few
      have HT := Lib.hid (rProduct34_any _ _ rows[k] s wr HI.out HSW.out (by rw [hrl, HSN.out]; exact Nat.le_refl _))
      have HF : Hid (dealF rows s k = ((k : Int), prodQ rows[k] s)) := Lib.hid (by unfold dealF; rw [getD_at hlt])
      have HBW := Lib.hid hb
      have HOW := Lib.hid hown
      have i0 : 0 ≤ (k : Int) := by omega
      have i1 : (k : Int) < (rows.length : Int) := by omega
      clear hk hI q1 hb hown hrl
      generalize rows[k] = row at *
      generalize prodQ row s = pr at *
      go_wp2_with fail
      refine HT.out.mono ?_
      rintro r w9 ⟨rfl, hb8⟩
      have hb9 := hb8.alloc hb8.size (.cells #[.int .i64 k, .int .i64 pr] 47)
      have HOX := Lib.hid (own_keep HOW.out hb9)
      have hrw := World.alloc_heap_new w9 (.cells #[.int .i64 k, .int .i64 pr] 47)
      have hq0 : (w9.alloc (.cells #[.int .i64 k, .int .i64 pr] 47)).cell? ⟨w9.heap.size, 0, none⟩ = some (.int .i64 k) := row_cell hrw rfl
      have hq1 : (w9.alloc (.cells #[.int .i64 k, .int .i64 pr] 47)).cell? ⟨w9.heap.size, 0 + 1, none⟩ = some (.int .i64 pr) := row_cell hrw rfl
      have HQ0 := Lib.hid hq0
      have HQ1 := Lib.hid hq1
      have HB9 := Lib.hid (HBW.out.trans (hb9.mono HBW.out.size))
      have hbs : w8.heap.size ≤ (w9.alloc (.cells #[.int .i64 k, .int .i64 pr] 47)).heap.size := HB9.out.size
      have HBS := Lib.hid hbs
      clear hb8 hb9 hrw hq0 hq1 hbs
      go_wp2_with (refine app_share rfl _ _ rfl w8.heap.size _ ((List.range k).map (dealF rows s)) k rfl HOX.out w9.heap.size 0 1 ((k : Int), pr) rfl HQ0.out HQ1.out (by omega) HBS.out ?_; intro g8 cap8 wz h9 o9; have H9 := Lib.hid h9; have O9 := Lib.hid o9; clear h9 o9)
      go_roundw
      case rel => exact ⟨k + 1, by omega, by go_num, by rw [range_snoc, HF.out]; exact H9.out, HB9.out.trans (own_below HOX.out O9.out.1 HBS.out)⟩
      case measure => simp [intOf]; omega
    · obtain rfl : k = rows.length := by omega
      have hfew := HD.out.prog.few
      have hdk : decide (rows.length < rows.length) = false := decide_eq_false (by omega)
      have HL := Lib.hid hown
      have HBL := Lib.hid hb
      have HSL := Lib.hid (HS7.out.below hb)
      obtain ⟨wl, hwl⟩ : ∃ wl : World, wl = wr := ⟨_, rfl⟩
      rw [← hwl] at HL HBL HSL y0 ⊢
      clear hown hb hwl x0
      have h01 : (wl.alloc (.cells #[] 3)).ownsRow wl.heap.size 3 1 (.slice (some ⟨wl.heap.size, 0, none⟩) 0 0) 0 (((s.take 0).map (powE 4)).map (Value.int .i64)) := World.ownsRow_made _ #[] 0 (Nat.le_refl _) (by unfold maxLen; omega) rfl
      have hba := below_new wl #[] 3
      go_wp2_with fail
      go_loopw [13, 14] (fun C i W => ∃ k : Nat, k ≤ s.length ∧ i = .int .i64 k ∧ W.ownsRow wl.heap.size 3 1 C k (((s.take k).map (powE 4)).map (Value.int .i64)) ∧ Below wl.heap.size wl W) (fun _ i _ => s.length - (intOf i).toNat)
      case atStart => exact ⟨0, Nat.zero_le _, rfl, h01, hba⟩
      case round =>
        clear h01 hba y0
        obtain ⟨k, hkl, rfl, hown, hb⟩ := hrel
        by_cases hlt : k < s.length
        · obtain ⟨a9, c9, e9, -, -, hrr, hk⟩ := HSL.out
          obtain ⟨b, off, ha, q1⟩ := hk k hlt
          simp only [Value.slice.injEq] at e9
          obtain ⟨rfl, -, rfl⟩ := e9
          subst ha
          have y1 := below_cell hb q1
          have hz64 := hrr _ (List.getElem_mem hlt)
          have HTK : Hid ((s.take (k + 1)).map (powE 4) = (s.take k).map (powE 4) ++ [powE 4 s[k]]) := Lib.hid (by rw [List.take_succ_eq_append_getElem hlt, List.map_append]; rfl)
          have HPW := Lib.hid (fun w => rpower34_any 4 s[k] w el_four hz64)
          have hk65 : k ≤ 64 := by have := HSN.out; omega
          have i0 : 0 ≤ (k : Int) := by omega
          have i1 : (k : Int) < (s.length : Int) := by omega
          have HBW := Lib.hid hb
          have HOW := Lib.hid hown
          have HN := Lib.hid (below_new wr #[.int .i64 (powE 4 s[k])] 3)
          clear hk hrr q1 hb hown
          generalize s[k] = z at *
          generalize powE 4 z = pz at *
          have HOX := Lib.hid (own_keep HOW.out HN.out)
          have hq0 : (wr.alloc (.cells #[.int .i64 pz] 3)).cell? ⟨wr.heap.size, 0, none⟩ = some (.int .i64 pz) := row_cell (World.alloc_heap_new _ _) rfl
          have HQ0 := Lib.hid hq0
          have HB9 := Lib.hid (HBW.out.trans (HN.out.mono HBW.out.size))
          have HBS := Lib.hid HB9.out.size
          clear hq0
          go_wp2_with fail
          with_reducible refine (HPW.out _).mono ?_
          rintro r w9 ⟨rfl, rfl⟩
          go_wp2_with (refine app_int rfl _ _ rfl wl.heap.size k _ _ rfl HOX.out wr.heap.size 1 pz rfl HQ0.out (by omega) HBS.out ?_; intro v9 wz h9 o9; have H9 := Lib.hid h9; have O9 := Lib.hid o9; clear h9 o9)
          go_roundw
          case rel => exact ⟨k + 1, by omega, by go_num, by rw [HTK.out, List.map_append]; exact H9.out, HB9.out.trans (own_below HOX.out O9.out HBS.out)⟩
          case measure => simp [intOf]; omega
        · have hk2 : k = s.length := by omega
          rw [hk2, List.take_length] at hown
          have HLO := Lib.hid (own_keep HL.out hb)
          have HLS := Lib.hid (Shares.own (l := dealL rows s) HLO.out (by
            intro p hp
            obtain ⟨i, hi, rfl⟩ := List.mem_map.1 hp
            exact dealF_r64 rows _ (by have := List.mem_range.1 hi; omega)) (by unfold dealL; simp; omega))
          have hsl : s.length ≤ 64 := by have := HSN.out; omega
          have HCS := Lib.hid (Ints.own (zs := dealC s) hown (by
            intro z hz
            obtain ⟨n, -, rfl⟩ := List.mem_map.1 hz
            exact (el_powE el_four n).r64) (by unfold dealC; simp; omega))
          have HBF := Lib.hid (HB7.out.trans ((HBL.out.trans (hb.mono HBL.out.size)).mono HB7.out.size))
          have hdk2 : decide (k < s.length) = false := decide_eq_false (by omega)
          clear hown hb HL HLO hk2
          go_wp2_with fail
          go_ret3
          exact ⟨_, _, rfl, HSS.out ▸ HLS.out, HSS.out ▸ HCS.out, HBF.out⟩

end Go.Proofs.YtnbkbnbmmkfckaaGreat
