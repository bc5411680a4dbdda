/- The reference of dealing: Numbers, Product, SameInts, Target. The reference of dealing: Shares. The reference of dealing: Deal. -/
import Derived.Test.YtnbkbnbmmkfckaaGreatMRdA
namespace Go.Proofs.YtnbkbnbmmkfckaaGreat
open Go.RowKit FP

set_option maxRecDepth 100000 in
set_option maxHeartbeats 1000000 in
theorem rSameInts34_any (v u : Value) (a b : List Int) (w : World) (hI : Ints w v a) (hJ : Ints w u b) :
    Calls Tryz.prog 12 #[v, u] w fun e w' => e = .returned (.bool (sameQ a b)) ∧ Below w.heap.size w w' := by
  obtain ⟨pa, ca, rfl, ha1, ha2, ha3, hka⟩ := hI
  obtain ⟨pb, cb, rfl, hb1, hb2, hb3, hkb⟩ := hJ
  by_cases hl : a.length = b.length
  · have hl' : ((a.length : Int) != (b.length : Int)) = false := by rw [hl]; simp
    have HL := Lib.hid hl
    have hb1 : a.length ≤ cb := by omega
    have hcells : ∀ k (h : k < a.length), ∃ y, y = b[k]'(by rw [← HL.out]; exact h) ∧ ∃ q off, pb = some ⟨q, off, none⟩ ∧ w.cell? ⟨q, off + k, none⟩ = some (.int .i64 y) := fun k h => ⟨_, rfl, hkb k (by omega)⟩
    rw [← hl] at hl' ⊢
    clear hl hb2
    clear hkb
    go_enter Tryz.func12, Tryz.ntmps12
    go_wp2_with fail
    go_loopw [5] (fun i wr => ∃ k : Nat, k ≤ a.length ∧ i = .int .i64 k ∧ Hid (∀ j (h1 : j < a.length) (h2 : j < b.length), j < k → a[j] = b[j]) ∧ Below w.heap.size w wr) (fun i _ => a.length - (intOf i).toNat)
    case atStart => exact ⟨0, Nat.zero_le _, rfl, Lib.hid fun j _ _ h => absurd h (Nat.not_lt_zero _), Below.refl _ _⟩
    case round =>
      obtain ⟨k, hkl, rfl, HP, hb⟩ := hrel
      by_cases hlt : k < a.length
      · obtain ⟨p, off, rfl, hc⟩ := hka k hlt
        obtain ⟨y, hy, p', off', rfl, hc'⟩ := hcells k hlt
        have hc := below_cell hb hc
        have hc' := below_cell hb hc'
        obtain ⟨x, hx⟩ : ∃ x, x = a[k] := ⟨_, rfl⟩
        rw [← hx] at hc
        have i1 : (0 : Int) ≤ (k : Int) := by omega
        have i2 : (k : Int) < (a.length : Int) := by omega
        have HX := Lib.hid hx
        have HY := Lib.hid hy
        clear hcells hka hx hy
        by_cases he : x = y
        · have he' : (x != y) = false := by simpa using he
          have HN := Lib.hid (show ∀ j (h1 : j < a.length) (h2 : j < b.length), j < k + 1 → a[j] = b[j] from fun j h1 h2 h3 => by
            by_cases e : j = k
            · subst e; rw [← HX.out, ← HY.out, he]
            · exact HP.out j h1 h2 (by omega))
          clear he
          go_wp2_with fail
          go_quiet (fail)
          go_wp2_with fail
          go_roundw
          case rel => exact ⟨k + 1, by omega, by go_num, HN, below_drewN hb _⟩
          case measure => simp [intOf]; omega
        · have he' : (x != y) = true := by simpa using he
          have HN := Lib.hid (sameQ_at hlt (by rw [← HL.out]; exact hlt) (by rw [← HX.out, ← HY.out]; exact he))
          clear he
          go_wp2_with fail
          go_quiet (fail)
          go_wp2_with fail
          go_ret
          exact ⟨ret_bool HN.out.symm, below_drewN hb _⟩
      · have HN := Lib.hid (sameQ_all HL.out fun k h1 h2 => HP.out k h1 h2 (by omega))
        go_wp2_with fail
        go_ret
        exact ⟨ret_bool HN.out.symm, hb⟩
  · have hl' : ((a.length : Int) != (b.length : Int)) = true := by rw [bne_iff_ne]; omega
    have HL := Lib.hid (sameQ_len hl)
    clear hl
    go_enter Tryz.func12, Tryz.ntmps12
    go_wp2_with fail
    go_ret
    exact ⟨ret_bool HL.out.symm, Below.refl _ _⟩

set_option maxRecDepth 100000 in
set_option maxHeartbeats 4000000 in
theorem rProduct34_any (u v : Value) (a b : List Int) (w : World) (hA : Ints w u a) (hB : Ints w v b) (hl : a.length ≤ b.length) :
    Calls Tryz.prog 55 #[u, v] w fun r w' => r = .returned (.int .i64 (prodQ a b)) ∧ Below w.heap.size w w' := by
  have HA := Lib.hid (fun k (hk : k < a.length) => hA.get hk)
  have HB := Lib.hid (fun k (hk : k < b.length) => hB.get hk)
  obtain ⟨aa, ca, rfl, -, hla, -⟩ := id hA
  obtain ⟨ab, cb, rfl, -, hlb, -⟩ := id hB
  have HV : Hid (prodQ a b = prodF a b a.length) := Lib.hid rfl
  clear hA hB
  go_enter Tryz.func55, Tryz.ntmps55
  go_wp2_with fail
  go_loopw [5, 6] (fun s i W => ∃ k : Nat, k ≤ a.length ∧ i = .int .i64 k ∧ s = .int .i64 (prodF a b k) ∧ Below w.heap.size w W) (fun _ i _ => a.length - (intOf i).toNat)
  case atStart => exact ⟨0, Nat.zero_le _, rfl, rfl, Below.refl _ _⟩
  case round =>
    obtain ⟨k, hkl, rfl, rfl, hb⟩ := hrel
    have HBW := Lib.hid hb
    by_cases hlt : k < a.length
    · obtain ⟨hr1, b1, o1, n1, c1, e1, q1⟩ := HA.out k hlt
      obtain ⟨hr2, b2, o2, n2, c2, e2, q2⟩ := HB.out k (by omega)
      simp only [Value.slice.injEq] at e1 e2
      obtain ⟨rfl, -, -⟩ := e1
      obtain ⟨rfl, -, -⟩ := e2
      have y1 := below_cell hb q1
      have y2 := below_cell hb q2
      have hpn := prodF_num a b k
      have HM := Lib.hid (fun w => rmul_any (nth a k) (nth b k) w hr1 hr2)
      have HAD := Lib.hid (fun w => radd_any (prodF a b k) (nth a k * nth b k % 1073741789) w (num_r64 hpn) (mod_r64 _))
      have HNX := Lib.hid (show prodF a b (k + 1) = (prodF a b k + nth a k * nth b k % 1073741789) % 1073741789 from rfl)
      have i0 : 0 ≤ (k : Int) := by omega
      have i1 : (k : Int) < (a.length : Int) := by omega
      have i2 : (k : Int) < (b.length : Int) := by omega
      clear q1 q2 hb hpn
      generalize prodF a b k = pf at *
      generalize nth a k * nth b k % 1073741789 = m at *
      generalize nth a k = x at *
      generalize nth b k = y at *
      go_wp2_with fail
      go_region_held3 (fun w' => w'.cell? ⟨b1, o1 + k, none⟩ = some (.int .i64 x) ∧ w'.cell? ⟨b2, o2 + k, none⟩ = some (.int .i64 y)) (go_keep)
        (first
          | (go_at_call 92; (with_reducible refine (HM.out _).mono ?_); rintro e w2 ⟨rfl, rfl⟩)
          | (go_at_call 37; (with_reducible refine (HAD.out _).mono ?_); rintro e w2 ⟨rfl, rfl⟩))
      go_wp2_with fail
      go_roundw
      case rel => exact ⟨k + 1, by omega, by go_num, by rw [HNX.out], below_drewN HBW.out _⟩
      case measure => simp [intOf]; omega
    · obtain rfl : k = a.length := by omega
      have hdk : decide (a.length < a.length) = false := decide_eq_false (by omega)
      go_wp2_with fail
      go_ret
      exact ⟨ret_int HV.out.symm, HBW.out⟩

set_option maxRecDepth 100000 in
set_option maxHeartbeats 2000000 in
theorem rTarget_any (rv ov : Value) (rows : List (List Int)) (owners : List Int) (w : World) (hR : Rows2 w rv rows) (hO : Ints w ov owners) (hc1 : 1 ≤ colsQ rows) (hc2 : colsQ rows ≤ 64) :
    Calls Tryz.prog 85 #[.agg #[rv, ov]] w fun e w' => ∃ v, e = .returned v ∧ Ints w' v (tgt (colsQ rows)) ∧ Below w.heap.size w w' := by
  obtain ⟨W1, hW1, hb1, hr1, hz⟩ := box_prog w rv ov 25
  have HCO := Lib.hid (rcolumns_any rv ov rows owners W1 (hR.below hb1) (hO.below hb1))
  obtain ⟨a, cap, rfl, -, hlen, -⟩ := id hR
  obtain ⟨a2, cap2, rfl, -, hlen2, -⟩ := id hO
  have c0 : W1.cell? ⟨w.heap.size, 0, none⟩ = some (.slice a rows.length cap) := row_cell hr1 rfl
  have c1 : W1.cell? ⟨w.heap.size, 1, none⟩ = some (.slice a2 owners.length cap2) := row_cell hr1 rfl
  have HW1 := Lib.hid hW1
  have HB1 := Lib.hid hb1
  clear hR hO hr1 hW1 hb1
  generalize colsQ rows = n at *
  have hmk := run_ints n (by omega)
  have n1 : (0 : Int) < (n : Int) := by omega
  go_enter Tryz.func85, Tryz.ntmps85
  go_wp2_with fail
  rw [← HW1.out]
  refine HCO.out.mono ?_
  rintro r w3 ⟨rfl, hb3⟩
  have HB3 := Lib.hid (HB1.out.trans (hb3.mono HB1.out.size))
  have hm0 : (madeCells #[.int .i64 0] n)[0]? = some (.int .i64 0) := by
    have h := (IBlk.made w3 n 3).cell 0 (by omega)
    rwa [World.cell?_alloc_at _ _ _ _ rfl] at h
  obtain ⟨C, hC⟩ : ∃ C, C = (madeCells #[.int .i64 0] n).setIfInBounds 0 (.int .i64 1) := ⟨_, rfl⟩
  have hib : IBlk (w3.alloc (.cells C 3)) w3.heap.size n tgtF := by
    have h1 := (IBlk.made w3 n 3).set (k := 0) 1
    have h2 : (w3.alloc (.cells (madeCells #[.int .i64 0] n) 3)).setCell ⟨w3.heap.size, 0, none⟩ (.int .i64 1) = w3.alloc (.cells C 3) := by rw [hC]; simp [go_sem]
    rw [h2] at h1
    exact h1
  have hti := hib.ints (c := n) (Nat.le_refl _) (by omega) (fun i _ => by unfold tgtF; split <;> exact R64.mk (by omega) (by omega))
  have HT4 : Hid (Ints (w3.alloc (.cells C 3)) (.slice (some ⟨w3.heap.size, 0, none⟩) n n) (tgt n)) := Lib.hid hti
  have HB4 := Lib.hid (HB3.out.trans ((below_new w3 C 3).mono HB3.out.size))
  have HC := Lib.hid hC
  clear hb3 hib hti hC c0 c1
  go_wp2_with fail
  rw [← HC.out]
  go_ret
  exact ⟨_, rfl, HT4.out, HB4.out⟩

end Go.Proofs.YtnbkbnbmmkfckaaGreat

namespace Go.Proofs.YtnbkbnbmmkfckaaGreat
open Go.RowKit FP

section
variable {P : Program} {md : Region.Mode} {ops : Array Oper} {Q : Exit → Act → World → Prop} {S : World → Prop} {i : Nat} {oi : Oper} {fuel : Nat} {listed : Array Bool} {a : Act} {w : World}
/-- An operation that yields in every world that meets S is taken first. -/
theorem take_yes (d : Option Tmp) (v : Value) (hi : ops[i]? = some oi) (hd : oi.dst = d) (hs : Region.noSelect ops = true) (hf : Region.free md ops listed i = true) (hr : (Region.ready md ops listed).contains i = true)
    (hQ : ∀ c a w, Q (.panic c) (a.put d v) w → Q (.panic c) a w) (hw : Region.wanted oi (yielded ops a.tmps) = true) (hy : ∀ w, S w → (execOp a.eval oi).run P w = .ok (.value v) w) (hS : S w)
    (h : wpAnyH P md ops Q S fuel (listed.setIfInBounds i true) (a.put d v) w) : wpAnyH P md ops Q S (fuel + 1) listed a w := by
  subst hd
  exact wpAnyH_take hi hs hf hr hQ (Or.inl ⟨hw, hy⟩) hS h
/-- An operation that its guard strikes is taken first. -/
theorem take_no (d : Option Tmp) (hi : ops[i]? = some oi) (hd : oi.dst = d) (hs : Region.noSelect ops = true) (hf : Region.free md ops listed i = true) (hr : (Region.ready md ops listed).contains i = true)
    (hQ : ∀ c a w, Q (.panic c) (a.put d undef) w → Q (.panic c) a w) (hw : Region.wanted oi (yielded ops a.tmps) = false) (hS : S w)
    (h : wpAnyH P md ops Q S fuel (listed.setIfInBounds i true) (a.put d undef) w) : wpAnyH P md ops Q S (fuel + 1) listed a w := by
  subst hd
  exact wpAnyH_take hi hs hf hr hQ (Or.inr ⟨hw, rfl⟩) hS h
end

set_option maxRecDepth 100000 in
set_option maxHeartbeats 8000000 in
theorem rShares_any (rv ov lv : Value) (rows : List (List Int)) (owners : List Int) (l : List (Int × Int)) (w : World) (hR : Rows2 w rv rows) (hO : Ints w ov owners) (hL : Shares w lv l) :
    Calls Tryz.prog 68 #[.agg #[rv, ov], lv] w fun r w' => r = .returned (.bool (sharesB rows (-1) l)) ∧ Below w.heap.size w w' := by
  obtain ⟨W1, hW1, hb1, hr1, hz⟩ := box_prog w rv ov 25
  have HR1 := Lib.hid (hR.below hb1)
  have HO1 := Lib.hid (hO.below hb1)
  have HL1 := Lib.hid (hL.below hb1)
  obtain ⟨a, cap, rfl, -, hlen, -⟩ := id hR
  obtain ⟨a2, cap2, rfl, -, hlen2, -⟩ := id hO
  obtain ⟨a3, cap3, rfl, -, hlen3, -⟩ := id hL
  have c0 : W1.cell? ⟨w.heap.size, 0, none⟩ = some (.slice a rows.length cap) := row_cell hr1 rfl
  have c1 : W1.cell? ⟨w.heap.size, 1, none⟩ = some (.slice a2 owners.length cap2) := row_cell hr1 rfl
  have HW1 := Lib.hid hW1
  have HB1 := Lib.hid hb1
  clear hR hO hL hr1 hW1 hb1
  go_enter Tryz.func68, Tryz.ntmps68
  go_wp2_with fail
  rw [← HW1.out]
  go_loopw [5] (fun i W => ∃ k : Nat, k ≤ l.length ∧ i = .int .i64 k ∧ Hid (sharesB rows (-1) (l.take k) = true) ∧ Below W1.heap.size W1 W) (fun i _ => l.length - (intOf i).toNat)
  case atStart => exact ⟨0, Nat.zero_le _, rfl, Lib.hid rfl, Below.refl _ _⟩
  case round =>
    obtain ⟨k, hkl, rfl, HS, hb⟩ := hrel
    have HBW := Lib.hid hb
    by_cases hlt : k < l.length
    · have x0 := below_cell hb c0
      have x1 := below_cell hb c1
      have hbd : Below wr.heap.size wr wr.drew := (Below.refl _ _).drew
      have hrw := (HR1.out.below hb).below hbd
      have how := (HO1.out.below hb).below hbd
      obtain ⟨al, cl, e1, -, -, hr64, hk⟩ := HL1.out
      obtain ⟨b, off, ha, q0, q1⟩ := hk k hlt
      simp only [Value.slice.injEq] at e1
      obtain ⟨rfl, -, rfl⟩ := e1
      subst ha
      have y0 := below_cell hb q0
      have y1 := below_cell hb q1
      have HTK := Lib.hid (sharesB_take (rows := rows) (last := -1) hlt)
      have HBD := Lib.hid (fun h => sharesB_bad (rows := rows) (l := l) (last := -1) (k := k) h)
      have HSH := Lib.hid (rshare_any (.slice a rows.length cap) (.slice a2 owners.length cap2) rows owners l[k].1 l[k].2 wr.drew hrw how)
      have HBX := Lib.hid (HBW.out.drew)
      have i0 : 0 ≤ (k : Int) := by omega
      have i1 : (k : Int) < (l.length : Int) := by omega
      cases er : rightS rows l[k].1 l[k].2 with
      | false =>
        have HV : Hid (sharesB rows (-1) l = false) := Lib.hid (HBD.out (by rw [HTK.out, er]; simp))
        rw [er] at HSH
        clear hk hr64 q0 q1 hb hbd hrw how er
        generalize l[k].1 = r1 at *
        generalize l[k].2 = v1 at *
        go_wp2_with fail
        refine wp_region_held_drew (S := (fun w' => w'.cell? ⟨w.heap.size, 0, none⟩ = some (.slice a rows.length cap) ∧ w'.cell? ⟨w.heap.size, 1, none⟩ = some (.slice a2 owners.length cap2) ∧ w'.cell? ⟨b, off + k * 2, none⟩ = some (.int .i64 r1) ∧ w'.cell? ⟨b, off + k * 2 + 1, none⟩ = some (.int .i64 v1))) (by kernel_rfl) (by (try dsimp only); (first | exact ⟨z0, z1, z2, z3⟩ | go_keep)) (fun hHeld => ?_)
        refine take_yes (i := 0) (some 12) ?_ rfl (by kernel_rfl) (by kernel_rfl) (by kernel_rfl) (by kernel_rfl) (fun _ _ _ h => h) (by kernel_rfl) ?_ (by assumption) ?_
        rotate_left
        · (intro w hSw; (try dsimp only at hSw); go_simp; (try with_reducible rfl))
        simp only [Act.put, List.setIfInBounds_toArray, List.set_cons_zero, List.set_cons_succ]
        refine take_yes (i := 1) (some 13) ?_ rfl (by kernel_rfl) (by kernel_rfl) (by kernel_rfl) (by kernel_rfl) (fun _ _ _ h => h) (by kernel_rfl) ?_ (by assumption) ?_
        rotate_left
        · (intro w hSw; (try dsimp only at hSw); go_simp; (try with_reducible rfl))
        simp only [Act.put, List.setIfInBounds_toArray, List.set_cons_zero, List.set_cons_succ]
        refine take_yes (i := 2) (some 14) ?_ rfl (by kernel_rfl) (by kernel_rfl) (by kernel_rfl) (by kernel_rfl) (fun _ _ _ h => h) (by kernel_rfl) ?_ (by assumption) ?_
        rotate_left
        · (intro w hSw; (try dsimp only at hSw); go_simp; (try with_reducible rfl))
        simp only [Act.put, List.setIfInBounds_toArray, List.set_cons_zero, List.set_cons_succ]
        refine take_yes (i := 3) (some 15) ?_ rfl (by kernel_rfl) (by kernel_rfl) (by kernel_rfl) (by kernel_rfl) (fun _ _ _ h => h) (by kernel_rfl) ?_ (by assumption) ?_
        rotate_left
        · (intro w hSw; (try dsimp only at hSw); go_simp; (try with_reducible rfl))
        simp only [Act.put, List.setIfInBounds_toArray, List.set_cons_zero, List.set_cons_succ]
        refine take_yes (i := 4) (some 16) ?_ rfl (by kernel_rfl) (by kernel_rfl) (by kernel_rfl) (by kernel_rfl) (fun _ _ _ h => h) (by kernel_rfl) ?_ (by assumption) ?_
        rotate_left
        · (intro w hSw; (try dsimp only at hSw); go_simp; (try with_reducible rfl))
        simp only [Act.put, List.setIfInBounds_toArray, List.set_cons_zero, List.set_cons_succ]
        refine wpAnyH_ready (rs := [5]) (by kernel_rfl) (by simp) ?_
        refine AllReadyH.cons rfl (fun K hK => ?_) AllReadyH.nil
        rw [if_pos (by rfl)]
        go_simp
        (go_at_call 98; (refine HSH.out.mono ?_); rintro e w6 ⟨rfl, hb6⟩; have z0 := below_cell hb6 x0; have z1 := below_cell hb6 x1; have z2 := below_cell hb6 y0; have z3 := below_cell hb6 y1; have HB6 := Lib.hid (HBX.out.trans (hb6.mono HBX.out.size)); clear hb6)
        refine hK.out _ _ (by (try dsimp only); (first | exact ⟨z0, z1, z2, z3⟩ | go_keep)) (fun hHeld => ?_)
        clear hK K
        try simp only [Act.put, List.setIfInBounds_toArray, List.set_cons_zero, List.set_cons_succ]
        refine take_yes (i := 6) (some 18) _ rfl (by kernel_rfl) (by kernel_rfl) (by kernel_rfl) (by kernel_rfl) (fun _ _ _ h => h) (by kernel_rfl) (fun w _ => by rfl) (by assumption) ?_
        simp only [Act.put, List.setIfInBounds_toArray, List.set_cons_zero, List.set_cons_succ]
        refine take_yes (i := 7) (some 19) _ rfl (by kernel_rfl) (by kernel_rfl) (by kernel_rfl) (by kernel_rfl) (fun _ _ _ h => h) (by kernel_rfl) (fun w _ => by rfl) (by assumption) ?_
        simp only [Act.put, List.setIfInBounds_toArray, List.set_cons_zero, List.set_cons_succ]
        refine take_no (i := 8) (some 20) rfl (by kernel_rfl) (by kernel_rfl) (by kernel_rfl) (by kernel_rfl) (fun _ _ _ h => h) (by kernel_rfl) (by assumption) ?_
        simp only [Act.put, List.setIfInBounds_toArray, List.set_cons_zero, List.set_cons_succ]
        refine take_no (i := 9) (some 21) rfl (by kernel_rfl) (by kernel_rfl) (by kernel_rfl) (by kernel_rfl) (fun _ _ _ h => h) (by kernel_rfl) (by assumption) ?_
        simp only [Act.put, List.setIfInBounds_toArray, List.set_cons_zero, List.set_cons_succ]
        refine take_no (i := 10) (some 22) rfl (by kernel_rfl) (by kernel_rfl) (by kernel_rfl) (by kernel_rfl) (fun _ _ _ h => h) (by kernel_rfl) (by assumption) ?_
        simp only [Act.put, List.setIfInBounds_toArray, List.set_cons_zero, List.set_cons_succ]
        refine take_no (i := 11) (some 23) rfl (by kernel_rfl) (by kernel_rfl) (by kernel_rfl) (by kernel_rfl) (fun _ _ _ h => h) (by kernel_rfl) (by assumption) ?_
        simp only [Act.put, List.setIfInBounds_toArray, List.set_cons_zero, List.set_cons_succ]
        refine take_no (i := 12) (some 24) rfl (by kernel_rfl) (by kernel_rfl) (by kernel_rfl) (by kernel_rfl) (fun _ _ _ h => h) (by kernel_rfl) (by assumption) ?_
        simp only [Act.put, List.setIfInBounds_toArray, List.set_cons_zero, List.set_cons_succ]
        refine take_no (i := 13) (some 25) rfl (by kernel_rfl) (by kernel_rfl) (by kernel_rfl) (by kernel_rfl) (fun _ _ _ h => h) (by kernel_rfl) (by assumption) ?_
        simp only [Act.put, List.setIfInBounds_toArray, List.set_cons_zero, List.set_cons_succ]
        refine take_no (i := 14) (some 26) rfl (by kernel_rfl) (by kernel_rfl) (by kernel_rfl) (by kernel_rfl) (fun _ _ _ h => h) (by kernel_rfl) (by assumption) ?_
        simp only [Act.put, List.setIfInBounds_toArray, List.set_cons_zero, List.set_cons_succ]
        refine take_no (i := 15) (some 27) rfl (by kernel_rfl) (by kernel_rfl) (by kernel_rfl) (by kernel_rfl) (fun _ _ _ h => h) (by kernel_rfl) (by assumption) ?_
        simp only [Act.put, List.setIfInBounds_toArray, List.set_cons_zero, List.set_cons_succ]
        refine take_no (i := 16) (some 28) rfl (by kernel_rfl) (by kernel_rfl) (by kernel_rfl) (by kernel_rfl) (fun _ _ _ h => h) (by kernel_rfl) (by assumption) ?_
        simp only [Act.put, List.setIfInBounds_toArray, List.set_cons_zero, List.set_cons_succ]
        refine take_no (i := 17) (some 29) rfl (by kernel_rfl) (by kernel_rfl) (by kernel_rfl) (by kernel_rfl) (fun _ _ _ h => h) (by kernel_rfl) (by assumption) ?_
        simp only [Act.put, List.setIfInBounds_toArray, List.set_cons_zero, List.set_cons_succ]
        refine take_no (i := 18) (some 30) rfl (by kernel_rfl) (by kernel_rfl) (by kernel_rfl) (by kernel_rfl) (fun _ _ _ h => h) (by kernel_rfl) (by assumption) ?_
        simp only [Act.put, List.setIfInBounds_toArray, List.set_cons_zero, List.set_cons_succ]
        refine take_no (i := 19) (some 31) rfl (by kernel_rfl) (by kernel_rfl) (by kernel_rfl) (by kernel_rfl) (fun _ _ _ h => h) (by kernel_rfl) (by assumption) ?_
        simp only [Act.put, List.setIfInBounds_toArray, List.set_cons_zero, List.set_cons_succ]
        refine take_no (i := 20) (some 32) rfl (by kernel_rfl) (by kernel_rfl) (by kernel_rfl) (by kernel_rfl) (fun _ _ _ h => h) (by kernel_rfl) (by assumption) ?_
        simp only [Act.put, List.setIfInBounds_toArray, List.set_cons_zero, List.set_cons_succ]
        refine take_no (i := 21) (some 33) rfl (by kernel_rfl) (by kernel_rfl) (by kernel_rfl) (by kernel_rfl) (fun _ _ _ h => h) (by kernel_rfl) (by assumption) ?_
        simp only [Act.put, List.setIfInBounds_toArray, List.set_cons_zero, List.set_cons_succ]
        refine take_no (i := 22) (some 34) rfl (by kernel_rfl) (by kernel_rfl) (by kernel_rfl) (by kernel_rfl) (fun _ _ _ h => h) (by kernel_rfl) (by assumption) ?_
        simp only [Act.put, List.setIfInBounds_toArray, List.set_cons_zero, List.set_cons_succ]
        refine take_no (i := 23) (some 35) rfl (by kernel_rfl) (by kernel_rfl) (by kernel_rfl) (by kernel_rfl) (fun _ _ _ h => h) (by kernel_rfl) (by assumption) ?_
        simp only [Act.put, List.setIfInBounds_toArray, List.set_cons_zero, List.set_cons_succ]
        refine take_yes (i := 24) (some 36) (.bool true) rfl (by kernel_rfl) (by kernel_rfl) (by kernel_rfl) (by kernel_rfl) (fun _ _ _ h => h) (by kernel_rfl) (fun w _ => by rfl) (by assumption) ?_
        simp only [Act.put, List.setIfInBounds_toArray, List.set_cons_zero, List.set_cons_succ]
        refine wpAnyH_done (by kernel_rfl) ?_ _
        clear hHeld z0 z1 z2 z3 x0 x1 y0 y1 HSH HBX
        try clear hHeld
        go_wp2_with fail
        go_ret
        exact ⟨ret_bool HV.out.symm, HB1.out.trans (HB6.out.mono HB1.out.size)⟩
      | true =>
        by_cases hk0 : k = 0
        · have hd : decide ((k : Int) > 0) = false := decide_eq_false (by omega)
          have hd2 : decide ((0 : Int) < (k : Int)) = false := decide_eq_false (by omega)
          have hd3 : decide (0 < k) = false := decide_eq_false (by omega)
          have hlast : lastR (-1) (l.take k) = -1 := by rw [hk0]; rfl
          have HNX : Hid (sharesB rows (-1) (l.take (k + 1)) = true) := Lib.hid (by
            rw [HTK.out, HS.out, er, hlast, decide_eq_true]; rfl
            have := (rightS_iff.1 er).1; omega)
          rw [er] at HSH
          clear hk hr64 q0 q1 hb hbd hrw how er hlast hk0
          generalize l[k].1 = r1 at *
          generalize l[k].2 = v1 at *
          go_wp2_with fail
          refine wp_region_held_drew (S := (fun w' => w'.cell? ⟨w.heap.size, 0, none⟩ = some (.slice a rows.length cap) ∧ w'.cell? ⟨w.heap.size, 1, none⟩ = some (.slice a2 owners.length cap2) ∧ w'.cell? ⟨b, off + k * 2, none⟩ = some (.int .i64 r1) ∧ w'.cell? ⟨b, off + k * 2 + 1, none⟩ = some (.int .i64 v1))) (by kernel_rfl) (by (try dsimp only); (first | exact ⟨z0, z1, z2, z3⟩ | go_keep)) (fun hHeld => ?_)
          refine take_yes (i := 0) (some 12) ?_ rfl (by kernel_rfl) (by kernel_rfl) (by kernel_rfl) (by kernel_rfl) (fun _ _ _ h => h) (by kernel_rfl) ?_ (by assumption) ?_
          rotate_left
          · (intro w hSw; (try dsimp only at hSw); go_simp; (try with_reducible rfl))
          simp only [Act.put, List.setIfInBounds_toArray, List.set_cons_zero, List.set_cons_succ]
          refine take_yes (i := 1) (some 13) ?_ rfl (by kernel_rfl) (by kernel_rfl) (by kernel_rfl) (by kernel_rfl) (fun _ _ _ h => h) (by kernel_rfl) ?_ (by assumption) ?_
          rotate_left
          · (intro w hSw; (try dsimp only at hSw); go_simp; (try with_reducible rfl))
          simp only [Act.put, List.setIfInBounds_toArray, List.set_cons_zero, List.set_cons_succ]
          refine take_yes (i := 2) (some 14) ?_ rfl (by kernel_rfl) (by kernel_rfl) (by kernel_rfl) (by kernel_rfl) (fun _ _ _ h => h) (by kernel_rfl) ?_ (by assumption) ?_
          rotate_left
          · (intro w hSw; (try dsimp only at hSw); go_simp; (try with_reducible rfl))
          simp only [Act.put, List.setIfInBounds_toArray, List.set_cons_zero, List.set_cons_succ]
          refine take_yes (i := 3) (some 15) ?_ rfl (by kernel_rfl) (by kernel_rfl) (by kernel_rfl) (by kernel_rfl) (fun _ _ _ h => h) (by kernel_rfl) ?_ (by assumption) ?_
          rotate_left
          · (intro w hSw; (try dsimp only at hSw); go_simp; (try with_reducible rfl))
          simp only [Act.put, List.setIfInBounds_toArray, List.set_cons_zero, List.set_cons_succ]
          refine take_yes (i := 4) (some 16) ?_ rfl (by kernel_rfl) (by kernel_rfl) (by kernel_rfl) (by kernel_rfl) (fun _ _ _ h => h) (by kernel_rfl) ?_ (by assumption) ?_
          rotate_left
          · (intro w hSw; (try dsimp only at hSw); go_simp; (try with_reducible rfl))
          simp only [Act.put, List.setIfInBounds_toArray, List.set_cons_zero, List.set_cons_succ]
          refine wpAnyH_ready (rs := [5]) (by kernel_rfl) (by simp) ?_
          refine AllReadyH.cons rfl (fun K hK => ?_) AllReadyH.nil
          rw [if_pos (by rfl)]
          go_simp
          (go_at_call 98; (refine HSH.out.mono ?_); rintro e w6 ⟨rfl, hb6⟩; have z0 := below_cell hb6 x0; have z1 := below_cell hb6 x1; have z2 := below_cell hb6 y0; have z3 := below_cell hb6 y1; have HB6 := Lib.hid (HBX.out.trans (hb6.mono HBX.out.size)); clear hb6)
          refine hK.out _ _ (by (try dsimp only); (first | exact ⟨z0, z1, z2, z3⟩ | go_keep)) (fun hHeld => ?_)
          clear hK K
          try simp only [Act.put, List.setIfInBounds_toArray, List.set_cons_zero, List.set_cons_succ]
          refine take_yes (i := 6) (some 18) _ rfl (by kernel_rfl) (by kernel_rfl) (by kernel_rfl) (by kernel_rfl) (fun _ _ _ h => h) (by kernel_rfl) (fun w _ => by rfl) (by assumption) ?_
          simp only [Act.put, List.setIfInBounds_toArray, List.set_cons_zero, List.set_cons_succ]
          refine take_yes (i := 7) (some 19) _ rfl (by kernel_rfl) (by kernel_rfl) (by kernel_rfl) (by kernel_rfl) (fun _ _ _ h => h) (by kernel_rfl) (fun w _ => by rfl) (by assumption) ?_
          simp only [Act.put, List.setIfInBounds_toArray, List.set_cons_zero, List.set_cons_succ]
          refine take_yes (i := 8) (some 20) _ rfl (by kernel_rfl) (by kernel_rfl) (by kernel_rfl) (by kernel_rfl) (fun _ _ _ h => h) (by kernel_rfl) (fun w _ => by rfl) (by assumption) ?_
          simp only [Act.put, List.setIfInBounds_toArray, List.set_cons_zero, List.set_cons_succ]
          refine take_yes (i := 9) (some 21) (.bool false) rfl (by kernel_rfl) (by kernel_rfl) (by kernel_rfl) (by kernel_rfl) (fun _ _ _ h => h) (by kernel_rfl) (fun w _ => Eq.trans (b := .ok (.value (.bool (decide ((k : Int) > 0)))) w) rfl (by rw [hd])) (by assumption) ?_
          simp only [Act.put, List.setIfInBounds_toArray, List.set_cons_zero, List.set_cons_succ]
          refine take_yes (i := 10) (some 22) _ rfl (by kernel_rfl) (by kernel_rfl) (by kernel_rfl) (by kernel_rfl) (fun _ _ _ h => h) (by kernel_rfl) (fun w _ => by rfl) (by assumption) ?_
          simp only [Act.put, List.setIfInBounds_toArray, List.set_cons_zero, List.set_cons_succ]
          refine take_no (i := 11) (some 23) rfl (by kernel_rfl) (by kernel_rfl) (by kernel_rfl) (by kernel_rfl) (fun _ _ _ h => h) (by kernel_rfl) (by assumption) ?_
          simp only [Act.put, List.setIfInBounds_toArray, List.set_cons_zero, List.set_cons_succ]
          refine take_no (i := 12) (some 24) rfl (by kernel_rfl) (by kernel_rfl) (by kernel_rfl) (by kernel_rfl) (fun _ _ _ h => h) (by kernel_rfl) (by assumption) ?_
          simp only [Act.put, List.setIfInBounds_toArray, List.set_cons_zero, List.set_cons_succ]
          refine take_no (i := 13) (some 25) rfl (by kernel_rfl) (by kernel_rfl) (by kernel_rfl) (by kernel_rfl) (fun _ _ _ h => h) (by kernel_rfl) (by assumption) ?_
          simp only [Act.put, List.setIfInBounds_toArray, List.set_cons_zero, List.set_cons_succ]
          refine take_no (i := 14) (some 26) rfl (by kernel_rfl) (by kernel_rfl) (by kernel_rfl) (by kernel_rfl) (fun _ _ _ h => h) (by kernel_rfl) (by assumption) ?_
          simp only [Act.put, List.setIfInBounds_toArray, List.set_cons_zero, List.set_cons_succ]
          refine take_no (i := 15) (some 27) rfl (by kernel_rfl) (by kernel_rfl) (by kernel_rfl) (by kernel_rfl) (fun _ _ _ h => h) (by kernel_rfl) (by assumption) ?_
          simp only [Act.put, List.setIfInBounds_toArray, List.set_cons_zero, List.set_cons_succ]
          refine take_no (i := 16) (some 28) rfl (by kernel_rfl) (by kernel_rfl) (by kernel_rfl) (by kernel_rfl) (fun _ _ _ h => h) (by kernel_rfl) (by assumption) ?_
          simp only [Act.put, List.setIfInBounds_toArray, List.set_cons_zero, List.set_cons_succ]
          refine take_no (i := 17) (some 29) rfl (by kernel_rfl) (by kernel_rfl) (by kernel_rfl) (by kernel_rfl) (fun _ _ _ h => h) (by kernel_rfl) (by assumption) ?_
          simp only [Act.put, List.setIfInBounds_toArray, List.set_cons_zero, List.set_cons_succ]
          refine take_no (i := 18) (some 30) rfl (by kernel_rfl) (by kernel_rfl) (by kernel_rfl) (by kernel_rfl) (fun _ _ _ h => h) (by kernel_rfl) (by assumption) ?_
          simp only [Act.put, List.setIfInBounds_toArray, List.set_cons_zero, List.set_cons_succ]
          refine take_no (i := 19) (some 31) rfl (by kernel_rfl) (by kernel_rfl) (by kernel_rfl) (by kernel_rfl) (fun _ _ _ h => h) (by kernel_rfl) (by assumption) ?_
          simp only [Act.put, List.setIfInBounds_toArray, List.set_cons_zero, List.set_cons_succ]
          refine take_no (i := 20) (some 32) rfl (by kernel_rfl) (by kernel_rfl) (by kernel_rfl) (by kernel_rfl) (fun _ _ _ h => h) (by kernel_rfl) (by assumption) ?_
          simp only [Act.put, List.setIfInBounds_toArray, List.set_cons_zero, List.set_cons_succ]
          refine take_no (i := 21) (some 33) rfl (by kernel_rfl) (by kernel_rfl) (by kernel_rfl) (by kernel_rfl) (fun _ _ _ h => h) (by kernel_rfl) (by assumption) ?_
          simp only [Act.put, List.setIfInBounds_toArray, List.set_cons_zero, List.set_cons_succ]
          refine take_no (i := 22) (some 34) rfl (by kernel_rfl) (by kernel_rfl) (by kernel_rfl) (by kernel_rfl) (fun _ _ _ h => h) (by kernel_rfl) (by assumption) ?_
          simp only [Act.put, List.setIfInBounds_toArray, List.set_cons_zero, List.set_cons_succ]
          refine take_yes (i := 23) (some 35) (.bool false) rfl (by kernel_rfl) (by kernel_rfl) (by kernel_rfl) (by kernel_rfl) (fun _ _ _ h => h) (by kernel_rfl) (fun w _ => by rfl) (by assumption) ?_
          simp only [Act.put, List.setIfInBounds_toArray, List.set_cons_zero, List.set_cons_succ]
          refine take_yes (i := 24) (some 36) (.bool false) rfl (by kernel_rfl) (by kernel_rfl) (by kernel_rfl) (by kernel_rfl) (fun _ _ _ h => h) (by kernel_rfl) (fun w _ => by rfl) (by assumption) ?_
          simp only [Act.put, List.setIfInBounds_toArray, List.set_cons_zero, List.set_cons_succ]
          refine wpAnyH_done (by kernel_rfl) ?_ _
          clear hHeld z0 z1 z2 z3 x0 x1 y0 y1 HSH HBX
          try clear hHeld
          go_wp2_with fail
          go_roundw
          case rel => exact ⟨k + 1, by omega, by go_num, HNX, HB6.out⟩
          case measure => simp [intOf]; omega
        · have hd : decide ((k : Int) > 0) = true := decide_eq_true (by omega)
          have hd2 : decide ((0 : Int) < (k : Int)) = true := decide_eq_true (by omega)
          have hd3 : decide (0 < k) = true := decide_eq_true (by omega)
          obtain ⟨j, hj⟩ : ∃ j, k = j + 1 := ⟨k - 1, by omega⟩
          have hjl : j < l.length := by omega
          obtain ⟨b', off', ha', p0, -⟩ := hk j hjl
          simp only [Option.some.injEq, Addr.mk.injEq, and_true] at ha'
          obtain ⟨rfl, rfl⟩ := ha'
          have hlast : lastR (-1) (l.take k) = l[j].1 := by subst hj; exact lastR_take hjl
          have v0 := below_cell hb p0
          have hwj : IntKind.i64.wrap ((k : Int) - 1) = (j : Int) := by rw [IntWalk.i64_in _ (by omega)]; omega
          have hj0 : 0 ≤ (j : Int) := by omega
          have hj1 : (j : Int) < (l.length : Int) := by omega
          rw [er] at HSH
          rw [hlast] at HTK
          by_cases hq : l[j].1 < l[k].1
          · have HNX : Hid (sharesB rows (-1) (l.take (k + 1)) = true) := Lib.hid (by rw [HTK.out, HS.out, er, decide_eq_true hq]; rfl)
            clear hk hr64 q0 q1 hb hbd hrw how er hlast p0 HTK HBD
            generalize l[k].1 = r1 at *
            generalize l[k].2 = v1 at *
            generalize l[j].1 = r0 at *
            have hq1 : decide (r0 ≥ r1) = false := decide_eq_false (by omega)
            have hq2 : decide (r1 ≤ r0) = false := decide_eq_false (by omega)
            clear hq hj
            go_wp2_with fail
            first
              | go_region_held3 (fun w' => w'.cell? ⟨w.heap.size, 0, none⟩ = some (.slice a rows.length cap) ∧ w'.cell? ⟨w.heap.size, 1, none⟩ = some (.slice a2 owners.length cap2) ∧ w'.cell? ⟨b, off + k * 2, none⟩ = some (.int .i64 r1) ∧ w'.cell? ⟨b, off + k * 2 + 1, none⟩ = some (.int .i64 v1) ∧ w'.cell? ⟨b, off + j * 2, none⟩ = some (.int .i64 r0)) (first | go_keep | exact ⟨z0, z1, z2, z3, z4⟩)
                  (first
                    | (go_at_call 98; (refine HSH.out.mono ?_); rintro e w6 ⟨rfl, hb6⟩; have z0 := below_cell hb6 x0; have z1 := below_cell hb6 x1; have z2 := below_cell hb6 y0; have z3 := below_cell hb6 y1; have z4 := below_cell hb6 v0; have HB6 := Lib.hid (HBX.out.trans (hb6.mono HBX.out.size)); clear hb6))
              | fail
            clear hwj
            go_wp2_with fail
            go_roundw
            case rel => exact ⟨k + 1, by omega, by go_num, HNX, HB6.out⟩
            case measure => simp [intOf]; omega
          · have HV : Hid (sharesB rows (-1) l = false) := Lib.hid (HBD.out (by rw [HTK.out, decide_eq_false hq]; simp))
            clear hk hr64 q0 q1 hb hbd hrw how er hlast p0 HTK HBD
            generalize l[k].1 = r1 at *
            generalize l[k].2 = v1 at *
            generalize l[j].1 = r0 at *
            have hq1 : decide (r0 ≥ r1) = true := decide_eq_true (by omega)
            have hq2 : decide (r1 ≤ r0) = true := decide_eq_true (by omega)
            clear hq hj
            go_wp2_with fail
            first
              | go_region_held3 (fun w' => w'.cell? ⟨w.heap.size, 0, none⟩ = some (.slice a rows.length cap) ∧ w'.cell? ⟨w.heap.size, 1, none⟩ = some (.slice a2 owners.length cap2) ∧ w'.cell? ⟨b, off + k * 2, none⟩ = some (.int .i64 r1) ∧ w'.cell? ⟨b, off + k * 2 + 1, none⟩ = some (.int .i64 v1) ∧ w'.cell? ⟨b, off + j * 2, none⟩ = some (.int .i64 r0)) (first | go_keep | exact ⟨z0, z1, z2, z3, z4⟩)
                  (first
                    | (go_at_call 98; (refine HSH.out.mono ?_); rintro e w6 ⟨rfl, hb6⟩; have z0 := below_cell hb6 x0; have z1 := below_cell hb6 x1; have z2 := below_cell hb6 y0; have z3 := below_cell hb6 y1; have z4 := below_cell hb6 v0; have HB6 := Lib.hid (HBX.out.trans (hb6.mono HBX.out.size)); clear hb6))
              | fail
            clear hwj
            go_wp2_with fail
            go_ret
            exact ⟨ret_bool HV.out.symm, HB1.out.trans (HB6.out.mono HB1.out.size)⟩
    · have hdk : decide (k < l.length) = false := decide_eq_false hlt
      have HV : Hid (sharesB rows (-1) l = true) := Lib.hid (by have := HS.out; rwa [List.take_of_length_le (by omega)] at this)
      go_wp2_with fail
      go_ret
      exact ⟨ret_bool HV.out.symm, HB1.out.trans (HBW.out.mono HB1.out.size)⟩

end Go.Proofs.YtnbkbnbmmkfckaaGreat

namespace Go.Proofs.YtnbkbnbmmkfckaaGreat
open Go.RowKit FP

end Go.Proofs.YtnbkbnbmmkfckaaGreat
