/- The reference of moving: Rows, alike, dealt, power, SameKey. -/
import Derived.Test.YtjjoadmkpbmhpaaGreatMRzA
import Derived.Test.YtjjoadmkpbmhpaaGreatMPmH
import Derived.Test.YtjjoadmkpbmhpaaGreatMProF
import Derived.Test.YtjjoadmkpbmhpaaGreatMRegF
namespace Go.Proofs.YtjjoadmkpbmhpaaGreat
open Go.RowKit FP

set_option maxRecDepth 100000 in
set_option maxHeartbeats 4000000 in
theorem ralike_any (u v : Value) (a b : List (Int × Int)) (w : World) (hA : Shares w u a) (hB : Shares w v b) :
    Calls Tryz.prog 100 #[u, v] w fun e w' => e = .returned (.bool (decide (rowsS a = rowsS b))) ∧ Below w.heap.size w w' := by
  obtain ⟨a1, k1, rfl, -, hl1, -, hk1⟩ := id hA
  obtain ⟨a2, k2, rfl, -, hl2, -, hk2⟩ := id hB
  by_cases hl : a.length = b.length
  case neg =>
    have hV : decide (rowsS a = rowsS b) = false := decide_eq_false (fun e => hl (rowsS_len e))
    have HV := Lib.hid hV
    have hn : ((a.length : Int) != (b.length : Int)) = true := by simp; omega
    clear hV hk1 hk2 hA hB
    go_enter Tryz.func100, Tryz.ntmps100
    go_wp2_with fail
    go_ret
    exact ⟨ret_bool HV.out.symm, Below.refl _ _⟩
  case pos =>
    have hn : ((a.length : Int) != (b.length : Int)) = false := by simp [hl]
    have HA := Lib.hid hk1
    have HBB := Lib.hid hk2
    have HL := Lib.hid hl
    clear hk1 hk2 hA hB hl
    go_enter Tryz.func100, Tryz.ntmps100
    go_wp2_with fail
    go_loopw [5] (fun i W => ∃ k : Nat, k ≤ a.length ∧ i = .int .i64 k ∧ Hid (∀ j (h1 : j < a.length) (h2 : j < b.length), j < k → a[j].1 = b[j].1) ∧ Below w.heap.size w W) (fun i _ => a.length - (intOf i).toNat)
    case atStart => exact ⟨0, Nat.zero_le _, rfl, Lib.hid (fun j _ _ h => absurd h (Nat.not_lt_zero _)), Below.refl _ _⟩
    case round =>
      obtain ⟨k, hkl, rfl, HP, hb⟩ := hrel
      have HBW := Lib.hid hb
      by_cases hlt : k < a.length
      · have hlt2 : k < b.length := by have := HL.out; omega
        obtain ⟨b1, o1, ea, qa, -⟩ := HA.out k hlt
        obtain ⟨b2, o2, eb, qb, -⟩ := HBB.out k hlt2
        subst ea eb
        have y1 := below_cell hb qa
        have y2 := below_cell hb qb
        have i0 : (0 : Int) ≤ (k : Int) := by omega
        have i1 : (k : Int) < (a.length : Int) := by omega
        have i2 : (k : Int) < (b.length : Int) := by omega
        have HBD := Lib.hid (fun h => decide_eq_false (rowsS_at hlt hlt2 h))
        have HNX := Lib.hid (fun (h : a[k].1 = b[k].1) => show ∀ j (h1 : j < a.length) (h2 : j < b.length), j < k + 1 → a[j].1 = b[j].1 from fun j h1 h2 h3 => by
          by_cases e : j = k
          · subst e; exact h
          · exact HP.out j h1 h2 (by omega))
        clear qa qb hb
        generalize a[k].1 = x at *
        generalize b[k].1 = y at *
        by_cases hxy : x = y
        · have d : (x != y) = false := by simp [hxy]
          have HX := Lib.hid (HNX.out hxy)
          clear hxy
          go_wp2_with fail
          go_quiet (fail)
          go_wp2_with fail
          go_roundw
          case rel => exact ⟨k + 1, by omega, by go_num, HX, below_drewN HBW.out _⟩
          case measure => simp [intOf]; omega
        · have d : (x != y) = true := by simp [hxy]
          have HX := Lib.hid (HBD.out hxy)
          clear hxy
          go_wp2_with fail
          go_quiet (fail)
          go_wp2_with fail
          go_ret
          exact ⟨ret_bool HX.out.symm, below_drewN HBW.out _⟩
      · obtain rfl : k = a.length := by omega
        have hdk : decide (a.length < a.length) = false := decide_eq_false (by omega)
        have HX : Hid (decide (rowsS a = rowsS b) = true) := Lib.hid (decide_eq_true (rowsS_all HL.out (fun j h1 h2 => HP.out j h1 h2 h1)))
        clear hb
        go_wp2_with fail
        go_ret
        exact ⟨ret_bool HX.out.symm, HBW.out⟩

set_option maxRecDepth 100000 in
theorem rpower39_any (x n : Int) (w : World) (hx : El x) (hn : R64 n) : Calls Tryz.prog 60 #[.int .i64 x, .int .i64 n] w fun r w' => r = .returned (.int .i64 (powE x n)) ∧ w = w' := by
  have HP := Lib.hid (rpow_yes x n w hx hn)
  clear hx hn
  generalize powE x n = p at *
  go_enter Tryz.func60, Tryz.ntmps60
  go_wp2_with fail
  refine HP.out.mono ?_
  rintro e w1 ⟨rfl, rfl⟩
  go_wp2_with fail
  go_ret
  exact ⟨rfl, rfl⟩

structure FRda (w0 : World) (kv : Value) (qv : Value) (rv : Value) (cv : Value) (lv : Value) (row : Int) (ck : Value) (lk : Value) (lz : Value) (B : Nat) (k : Nat) (bR : Nat) (oR : Nat) (bC : Nat) (oC : Nat) (bL : Nat) (oL : Nat) (done : Nat → Bool) (v : Nat → Value) (w : World) : Prop where
  b : Below w0.heap.size w0 w
  f0 : done 0 = true → v 0 = kv
  f1 : done 1 = true → v 1 = qv
  f2 : done 2 = true → v 2 = rv
  f3 : done 3 = true → v 3 = .int .i64 (k : Int)
  f4 : done 4 = true → v 4 = .pointer (some ⟨bR, oR + k, none⟩)
  f5 : done 5 = true → v 5 = .int .i64 row
  f6 : done 6 = true → v 6 = cv
  f7 : done 7 = true → v 7 = .int .i64 (k : Int)
  f8 : done 8 = true → v 8 = .pointer (some ⟨bC, oC + k, none⟩)
  f9 : done 9 = true → v 9 = ck
  f10 : done 10 = true → v 10 = .bool false
  f11 : done 11 = true → v 11 = .bool true
  f12 : done 12 = true → v 12 = .bool true
  f24 : done 24 = true → v 24 = .bool true
  f25 : done 25 = true → v 25 = .bool true
  f35 : done 35 = true → v 35 = .bool true

structure FRdb (w0 : World) (kv : Value) (qv : Value) (rv : Value) (cv : Value) (lv : Value) (row : Int) (ck : Value) (lk : Value) (lz : Value) (B : Nat) (k : Nat) (bR : Nat) (oR : Nat) (bC : Nat) (oC : Nat) (bL : Nat) (oL : Nat) (done : Nat → Bool) (v : Nat → Value) (w : World) : Prop where
  b : Below w0.heap.size w0 w
  f0 : done 0 = true → v 0 = kv
  f1 : done 1 = true → v 1 = qv
  f2 : done 2 = true → v 2 = rv
  f3 : done 3 = true → v 3 = .int .i64 (k : Int)
  f4 : done 4 = true → v 4 = .pointer (some ⟨bR, oR + k, none⟩)
  f5 : done 5 = true → v 5 = .int .i64 row
  f6 : done 6 = true → v 6 = cv
  f7 : done 7 = true → v 7 = .int .i64 (k : Int)
  f8 : done 8 = true → v 8 = .pointer (some ⟨bC, oC + k, none⟩)
  f9 : done 9 = true → v 9 = ck
  f10 : done 10 = true → v 10 = .bool true
  f11 : done 11 = true → v 11 = .bool false
  f12 : done 12 = true → v 12 = .bool false
  f13 : done 13 = true → v 13 = qv
  f14 : done 14 = true → v 14 = cv
  f15 : done 15 = true → v 15 = .int .i64 (k : Int)
  f16 : done 16 = true → v 16 = .pointer (some ⟨bC, oC + k, none⟩)
  f17 : done 17 = true → v 17 = ck
  f18 : done 18 = true → v 18 = lv
  f19 : done 19 = true → v 19 = .int .i64 (k : Int)
  f20 : done 20 = true → v 20 = .pointer (some ⟨bL, oL + k, none⟩)
  f21 : done 21 = true → v 21 = lk
  f22 : done 22 = true → v 22 = .bool false
  f23 : done 23 = true → v 23 = .bool true
  f24 : done 24 = true → v 24 = .bool true
  f25 : done 25 = true → v 25 = .bool true
  f35 : done 35 = true → v 35 = .bool true

structure FRdc (w0 : World) (kv : Value) (qv : Value) (rv : Value) (cv : Value) (lv : Value) (row : Int) (ck : Value) (lk : Value) (lz : Value) (B : Nat) (k : Nat) (bR : Nat) (oR : Nat) (bC : Nat) (oC : Nat) (bL : Nat) (oL : Nat) (done : Nat → Bool) (v : Nat → Value) (w : World) : Prop where
  b : Below w0.heap.size w0 w
  f0 : done 0 = true → v 0 = kv
  f1 : done 1 = true → v 1 = qv
  f2 : done 2 = true → v 2 = rv
  f3 : done 3 = true → v 3 = .int .i64 (k : Int)
  f4 : done 4 = true → v 4 = .pointer (some ⟨bR, oR + k, none⟩)
  f5 : done 5 = true → v 5 = .int .i64 row
  f6 : done 6 = true → v 6 = cv
  f7 : done 7 = true → v 7 = .int .i64 (k : Int)
  f8 : done 8 = true → v 8 = .pointer (some ⟨bC, oC + k, none⟩)
  f9 : done 9 = true → v 9 = ck
  f10 : done 10 = true → v 10 = .bool true
  f11 : done 11 = true → v 11 = .bool false
  f12 : done 12 = true → v 12 = .bool false
  f13 : done 13 = true → v 13 = qv
  f14 : done 14 = true → v 14 = cv
  f15 : done 15 = true → v 15 = .int .i64 (k : Int)
  f16 : done 16 = true → v 16 = .pointer (some ⟨bC, oC + k, none⟩)
  f17 : done 17 = true → v 17 = ck
  f18 : done 18 = true → v 18 = lv
  f19 : done 19 = true → v 19 = .int .i64 (k : Int)
  f20 : done 20 = true → v 20 = .pointer (some ⟨bL, oL + k, none⟩)
  f21 : done 21 = true → v 21 = lk
  f22 : done 22 = true → v 22 = .bool true
  f23 : done 23 = true → v 23 = .bool false
  f24 : done 24 = true → v 24 = .bool false
  f25 : done 25 = true → v 25 = .bool false
  f26 : done 26 = true → v 26 = lv
  f27 : done 27 = true → v 27 = .pointer (some ⟨bL, oL, none⟩)
  f28 : done 28 = true → v 28 = lz
  f29 : done 29 = true → v 29 = lv
  f30 : done 30 = true → v 30 = .int .i64 (k : Int)
  f31 : done 31 = true → v 31 = .pointer (some ⟨bL, oL + k, none⟩)
  f32 : done 32 = true → v 32 = lk
  f33 : done 33 = true → v 33 = .bool false
  f34 : done 34 = true → v 34 = .bool true
  f35 : done 35 = true → v 35 = .bool true

structure FRdd (w0 : World) (kv : Value) (qv : Value) (rv : Value) (cv : Value) (lv : Value) (row : Int) (ck : Value) (lk : Value) (lz : Value) (B : Nat) (k : Nat) (bR : Nat) (oR : Nat) (bC : Nat) (oC : Nat) (bL : Nat) (oL : Nat) (done : Nat → Bool) (v : Nat → Value) (w : World) : Prop where
  b : Below w0.heap.size w0 w
  f0 : done 0 = true → v 0 = kv
  f1 : done 1 = true → v 1 = qv
  f2 : done 2 = true → v 2 = rv
  f3 : done 3 = true → v 3 = .int .i64 (k : Int)
  f4 : done 4 = true → v 4 = .pointer (some ⟨bR, oR + k, none⟩)
  f5 : done 5 = true → v 5 = .int .i64 row
  f6 : done 6 = true → v 6 = cv
  f7 : done 7 = true → v 7 = .int .i64 (k : Int)
  f8 : done 8 = true → v 8 = .pointer (some ⟨bC, oC + k, none⟩)
  f9 : done 9 = true → v 9 = ck
  f10 : done 10 = true → v 10 = .bool true
  f11 : done 11 = true → v 11 = .bool false
  f12 : done 12 = true → v 12 = .bool false
  f13 : done 13 = true → v 13 = qv
  f14 : done 14 = true → v 14 = cv
  f15 : done 15 = true → v 15 = .int .i64 (k : Int)
  f16 : done 16 = true → v 16 = .pointer (some ⟨bC, oC + k, none⟩)
  f17 : done 17 = true → v 17 = ck
  f18 : done 18 = true → v 18 = lv
  f19 : done 19 = true → v 19 = .int .i64 (k : Int)
  f20 : done 20 = true → v 20 = .pointer (some ⟨bL, oL + k, none⟩)
  f21 : done 21 = true → v 21 = lk
  f22 : done 22 = true → v 22 = .bool true
  f23 : done 23 = true → v 23 = .bool false
  f24 : done 24 = true → v 24 = .bool false
  f25 : done 25 = true → v 25 = .bool false
  f26 : done 26 = true → v 26 = lv
  f27 : done 27 = true → v 27 = .pointer (some ⟨bL, oL, none⟩)
  f28 : done 28 = true → v 28 = lz
  f29 : done 29 = true → v 29 = lv
  f30 : done 30 = true → v 30 = .int .i64 (k : Int)
  f31 : done 31 = true → v 31 = .pointer (some ⟨bL, oL + k, none⟩)
  f32 : done 32 = true → v 32 = lk
  f33 : done 33 = true → v 33 = .bool true
  f34 : done 34 = true → v 34 = .bool false
  f35 : done 35 = true → v 35 = .bool false

set_option maxRecDepth 100000 in
set_option maxHeartbeats 8000000 in
theorem rRows39_any (rv ov wv : Value) (rows : List (List Int)) (owners who : List Int) (w : World) (hR : Rows2 w rv rows) (hO : Ints w ov owners) (hW : Ints w wv who) (hl : owners.length ≤ 1000) :
    Calls Tryz.prog 55 #[.agg #[rv, ov], wv] w fun e w' => ∃ v, e = .returned v ∧ Ints w' v (ownN owners who owners.length) ∧ Below w.heap.size w w' := by
  obtain ⟨W0, hW0, hb0, hr0, hz0⟩ := box_prog w rv ov 25
  have hs0 : W0.heap.size = w.heap.size + 1 := by rw [hW0]; simp
  have t0 : Below w.heap.size w W0 := hb0
  have Q0 := Lib.hid hr0
  have HB := Lib.hid t0
  have HR := Lib.hid (hR.below t0)
  have HO := Lib.hid (hO.below t0)
  have HWH := Lib.hid (hW.below t0)
  obtain ⟨a1, k1, rfl, -, hl1, -⟩ := id hR
  obtain ⟨a2, k2, rfl, -, hl2, -⟩ := id hO
  obtain ⟨a3, k3, rfl, -, hl3, -⟩ := id hW
  have HWB := Lib.hid hW0
  clear hW0 hb0 hr0 hs0 t0 hz0
  clear hR hO hW
  go_enter Tryz.func55, Tryz.ntmps55
  go_wp2_with (rw [← HWB.out])
  clear HWB
  go_loopw [5, 6] (fun T0 i V => ∃ (k : Nat) (T : Value), k ≤ owners.length ∧ T = T0 ∧ i = .int .i64 k ∧ Hid (V.ownsRow W0.heap.size 3 1 T (ownL owners who k).length ((ownN owners who k).map (Value.int .i64))) ∧ Hid (Below W0.heap.size W0 V)) (fun _ i _ => owners.length - (intOf i).toNat)
  case atStart => exact ⟨0, _, Nat.zero_le _, rfl, rfl, Lib.hid (World.ownsRow_nil _ _ _ _), Lib.hid (Below.refl _ _)⟩
  case round =>
    obtain ⟨k, T, hkl, rfl, rfl, HOW, HBW⟩ := hrel
    replace HR := Lib.hid (HR.out.below HBW.out)
    replace HO := Lib.hid (HO.out.below HBW.out)
    replace HWH := Lib.hid (HWH.out.below HBW.out)
    replace Q0 := Lib.hid ((HBW.out.block _ (row_lt Q0.out)).trans Q0.out)
    replace HB := Lib.hid (HB.out.trans (HBW.out.mono HB.out.size))
    have p00 := row_cell Q0.out (k := 0) rfl
    have p01 := row_cell Q0.out (k := 1) rfl
    by_cases hlt : k < owners.length
    · obtain ⟨hrk, bO, oO, nO, cO, eO, qO⟩ := HO.out.get (k := k) hlt
      simp only [Value.slice.injEq] at eO
      obtain ⟨rfl, -, -⟩ := eO
      have i0 : (0 : Int) ≤ (k : Int) := by omega
      have i1 : (k : Int) < (owners.length : Int) := by omega
      clear hrk
      go_wp2_with fail
      with_reducible refine (rHas_any _ who (nth owners k) _ HWH.out).mono ?_
      rintro e wq ⟨rfl, rfl⟩
      by_cases hin : nth owners k ∈ who
      rotate_left
      · have HT1 : Hid (ownL owners who (k + 1) = ownL owners who k) := Lib.hid (ownL_no hin)
        have HT2 : Hid (ownN owners who (k + 1) = ownN owners who k) := Lib.hid (by unfold ownN; rw [ownL_no hin])
        rw [decide_eq_false hin]
        clear hin
        go_wp2_with fail
        go_roundw
        case rel => exact ⟨k + 1, _, by omega, rfl, by go_num, by rw [HT1.out, HT2.out]; exact HOW, HBW⟩
        case measure => simp [intOf]; omega
      rw [decide_eq_true hin]
      have HT1 : Hid ((ownL owners who (k + 1)).length = (ownL owners who k).length + 1) := Lib.hid (by rw [ownL_yes hin, List.length_append]; rfl)
      have HT2 : Hid ((ownN owners who (k + 1)).map (Value.int .i64) = (ownN owners who k).map (Value.int .i64) ++ [.int .i64 (k : Int)]) := Lib.hid (by unfold ownN; rw [ownL_yes hin, List.map_append, List.map_append]; rfl)
      have hnl : (ownL owners who k).length ≤ 1000000 := by have := ownL_len owners who k; omega
      have HN := Lib.hid (below_new wr #[.int .i64 (k : Int)] 3)
      have HOX := Lib.hid (own_keep HOW.out HN.out)
      have HQ0 := Lib.hid (show (wr.alloc (.cells #[.int .i64 (k : Int)] 3)).cell? ⟨wr.heap.size, 0, none⟩ = some (.int .i64 (k : Int)) from row_cell (World.alloc_heap_new _ _) rfl)
      have HB9 := Lib.hid (HBW.out.trans (HN.out.mono HBW.out.size))
      have HBS := Lib.hid HB9.out.size
      clear hin
      go_wp2_with (refine app_int rfl _ _ rfl W0.heap.size (ownL owners who k).length _ _ rfl HOX.out wr.heap.size 1 (k : Int) rfl HQ0.out hnl HBS.out ?_; intro v9 w9 h9 o9; have H9 := Lib.hid h9; have O9 := Lib.hid o9; clear h9 o9)
      go_roundw
      case rel => exact ⟨k + 1, _, by omega, rfl, by go_num, by rw [HT1.out, HT2.out]; exact H9, Lib.hid (HB9.out.trans (own_below HOX.out O9.out HBS.out))⟩
      case measure => simp [intOf]; omega
    · obtain rfl : k = owners.length := by omega
      have HIF := Lib.hid (Ints.own (zs := ownN owners who owners.length) HOW.out (fun z hz => by obtain ⟨i, hi, rfl⟩ := List.mem_map.1 hz; have := (ownL_lt hi).1; exact R64.mk (by omega) (by omega)) (by have := ownN_len owners who owners.length; omega))
      have hdk : decide (owners.length < owners.length) = false := decide_eq_false (by omega)
      go_wp2_with fail
      go_ret
      exact ⟨_, rfl, HIF.out, HB.out⟩

set_option maxRecDepth 100000 in
set_option maxHeartbeats 8000000 in
theorem rSameKey39_yes (ep : Int) (rv ov cv rv2 ov2 cv2 : Value) (rows : List (List Int)) (owners cs : List Int) (w : World) (hR : Rows2 w rv rows) (hO : Ints w ov owners) (hC : Ints w cv cs) (hR2 : Rows2 w rv2 rows) (hO2 : Ints w ov2 owners) (hC2 : Ints w cv2 cs) :
    Calls Tryz.prog 17 #[.agg #[.int .i64 ep, rv, ov, cv], .agg #[.int .i64 ep, rv2, ov2, cv2]] w fun e w' => e = .returned (.bool true) ∧ Below w.heap.size w w' := by
  obtain ⟨W0, hW0, hb0, hr0, hs0⟩ := box_key w (.int .i64 ep) rv ov cv 27
  obtain ⟨W1, hW1, hb1, hr1, hs1⟩ := box_key W0 (.int .i64 ep) rv2 ov2 cv2 27
  have t0 : Below w.heap.size w W0 := hb0
  have t1 : Below w.heap.size w W1 := t0.trans (hb1.mono t0.size)
  have Q0 := Lib.hid ((hb1.block _ (row_lt hr0)).trans hr0)
  have Q1 := Lib.hid hr1
  rw [hs0] at Q1
  have HB := Lib.hid t1
  have HR := Lib.hid (hR.below t1)
  have HO := Lib.hid (hO.below t1)
  have HC := Lib.hid (hC.below t1)
  have HR2 := Lib.hid (hR2.below t1)
  have HO2 := Lib.hid (hO2.below t1)
  have HC2 := Lib.hid (hC2.below t1)
  obtain ⟨a1, k1, rfl, -, hl1, -⟩ := id hR
  obtain ⟨a2, k2, rfl, -, hl2, -⟩ := id hO
  obtain ⟨a3, k3, rfl, -, hl3, -⟩ := id hC
  obtain ⟨a4, k4, rfl, -, hl4, -⟩ := id hR2
  obtain ⟨a5, k5, rfl, -, hl5, -⟩ := id hO2
  obtain ⟨a6, k6, rfl, -, hl6, -⟩ := id hC2
  rw [hW0] at hW1
  have HWB := Lib.hid hW1
  clear hW0 hb0 hr0 hs0 t0 hW1 hb1 hr1 hs1 t1
  clear hR hO hC hR2 hO2 hC2
  have p00 := row_cell Q0.out (k := 0) rfl
  have p01 := row_cell Q0.out (k := 1) rfl
  have p02 := row_cell Q0.out (k := 2) rfl
  have p03 := row_cell Q0.out (k := 3) rfl
  have p10 := row_cell Q1.out (k := 0) rfl
  have p11 := row_cell Q1.out (k := 1) rfl
  have p12 := row_cell Q1.out (k := 2) rfl
  have p13 := row_cell Q1.out (k := 3) rfl
  have j1 : (ep == ep) = true := beq_self_eq_true _
  go_enter Tryz.func17, Tryz.ntmps17
  go_wp2_with (rw [← HWB.out])
  clear HWB
  with_reducible refine (rSameP_any _ _ _ _ rows rows owners owners _ HR.out HO.out HR2.out HO2.out).mono ?_
  rintro e w2 ⟨rfl, hb2⟩
  replace p00 := below_cell hb2 p00
  replace p01 := below_cell hb2 p01
  replace p02 := below_cell hb2 p02
  replace p03 := below_cell hb2 p03
  replace p10 := below_cell hb2 p10
  replace p11 := below_cell hb2 p11
  replace p12 := below_cell hb2 p12
  replace p13 := below_cell hb2 p13
  replace HR := Lib.hid (HR.out.below hb2)
  replace HO := Lib.hid (HO.out.below hb2)
  replace HC := Lib.hid (HC.out.below hb2)
  replace HR2 := Lib.hid (HR2.out.below hb2)
  replace HO2 := Lib.hid (HO2.out.below hb2)
  replace HC2 := Lib.hid (HC2.out.below hb2)
  replace Q0 := Lib.hid ((hb2.block _ (row_lt Q0.out)).trans Q0.out)
  replace Q1 := Lib.hid ((hb2.block _ (row_lt Q1.out)).trans Q1.out)
  replace HB := Lib.hid (HB.out.trans (hb2.mono HB.out.size))
  clear hb2
  rw [show sameP rows rows owners owners = true by unfold sameP sameQ; simp]
  go_wp2_with fail
  with_reducible refine (rSame23_is _ _ cs cs true _ HC.out HC2.out (by unfold sameQ; simp)).mono ?_
  rintro e w3 ⟨rfl, hb3⟩
  replace p00 := below_cell hb3 p00
  replace p01 := below_cell hb3 p01
  replace p02 := below_cell hb3 p02
  replace p03 := below_cell hb3 p03
  replace p10 := below_cell hb3 p10
  replace p11 := below_cell hb3 p11
  replace p12 := below_cell hb3 p12
  replace p13 := below_cell hb3 p13
  replace HR := Lib.hid (HR.out.below hb3)
  replace HO := Lib.hid (HO.out.below hb3)
  replace HC := Lib.hid (HC.out.below hb3)
  replace HR2 := Lib.hid (HR2.out.below hb3)
  replace HO2 := Lib.hid (HO2.out.below hb3)
  replace HC2 := Lib.hid (HC2.out.below hb3)
  replace Q0 := Lib.hid ((hb3.block _ (row_lt Q0.out)).trans Q0.out)
  replace Q1 := Lib.hid ((hb3.block _ (row_lt Q1.out)).trans Q1.out)
  replace HB := Lib.hid (HB.out.trans (hb3.mono HB.out.size))
  clear hb3
  go_wp2_with fail
  go_ret
  exact ⟨rfl, HB.out⟩

def dltB (rows : List (List Int)) (owners cs : List Int) (rows2 : List (List Int)) (rws : List Int) (css : List (List Int)) (ls : List (List (Int × Int))) : Bool := decide (css.length = rws.length ∧ ls.length = rws.length) && dealtB rows owners cs rows2 rws css ls rws.length
theorem dltB_off {rows : List (List Int)} {owners cs : List Int} {rows2 : List (List Int)} {rws : List Int} {css : List (List Int)} {ls : List (List (Int × Int))} (h : ¬ (css.length = rws.length ∧ ls.length = rws.length)) : dltB rows owners cs rows2 rws css ls = false := by unfold dltB; rw [decide_eq_false h]; rfl
theorem dltB_on {rows : List (List Int)} {owners cs : List Int} {rows2 : List (List Int)} {rws : List Int} {css : List (List Int)} {ls : List (List (Int × Int))} (h : css.length = rws.length ∧ ls.length = rws.length) : dltB rows owners cs rows2 rws css ls = dealtB rows owners cs rows2 rws css ls rws.length := by unfold dltB; rw [decide_eq_true h]; rfl

set_option maxRecDepth 100000 in
set_option maxHeartbeats 8000000 in
theorem rdealt39_any (ep : Int) (rv ov cv rv2 ov2 rwv cmv lv : Value) (rows : List (List Int)) (owners cs : List Int) (rows2 : List (List Int)) (owners2 rws : List Int) (css : List (List Int)) (ls : List (List (Int × Int))) (w : World) (hR : Rows2 w rv rows) (hO : Ints w ov owners) (hC : Ints w cv cs) (hR2 : Rows2 w rv2 rows2) (hO2 : Ints w ov2 owners2) (hRW : Ints w rwv rws) (hCS : Rows2 w cmv css) (hLS : SRows w lv ls) (hp1 : progE rows owners = 0) (hcb : comB rows cs = true) (hp2 : progE rows2 owners2 = 0) (hin : ∀ i, i < rws.length → 0 ≤ nth rws i ∧ nth rws i < (rows.length : Int)) :
    Calls Tryz.prog 57 #[.agg #[.int .i64 ep, rv, ov, cv], .agg #[rv2, ov2], rwv, cmv, lv] w fun e w' => e = .returned (.bool (dltB rows owners cs rows2 rws css ls)) ∧ Below w.heap.size w w' := by
  have HP1 := Lib.hid hp1
  have HCB := Lib.hid hcb
  have HP2 := Lib.hid hp2
  have HIN := Lib.hid hin
  clear hp1 hcb hp2 hin
  obtain ⟨D, hD⟩ : ∃ b, b = dltB rows owners cs rows2 rws css ls := ⟨_, rfl⟩
  rw [← hD]
  have HD := Lib.hid hD
  clear hD
  obtain ⟨W0, hW0, hb0, hr0, hs0⟩ := box_key w (.int .i64 ep) rv ov cv 27
  obtain ⟨W1, hW1, hb1, hr1, hz1⟩ := box_prog W0 rv2 ov2 25
  have hs1 : W1.heap.size = W0.heap.size + 1 := by rw [hW1]; simp
  have t0 : Below w.heap.size w W0 := hb0
  have t1 : Below w.heap.size w W1 := t0.trans (hb1.mono t0.size)
  have Q0 := Lib.hid ((hb1.block _ (row_lt hr0)).trans hr0)
  have Q1 := Lib.hid hr1
  rw [hs0] at Q1
  have HB := Lib.hid t1
  have HR := Lib.hid (hR.below t1)
  have HO := Lib.hid (hO.below t1)
  have HC := Lib.hid (hC.below t1)
  have HR2 := Lib.hid (hR2.below t1)
  have HO2 := Lib.hid (hO2.below t1)
  have HRW := Lib.hid (hRW.below t1)
  have HCS := Lib.hid (hCS.below t1)
  have HLS := Lib.hid (hLS.below t1)
  obtain ⟨a1, k1, rfl, -, hl1, -⟩ := id hR
  obtain ⟨a2, k2, rfl, -, hl2, -⟩ := id hO
  obtain ⟨a3, k3, rfl, -, hl3, -⟩ := id hC
  obtain ⟨a4, k4, rfl, -, hl4, -⟩ := id hR2
  obtain ⟨a5, k5, rfl, -, hl5, -⟩ := id hO2
  obtain ⟨a6, k6, rfl, -, hl6, -⟩ := id hRW
  obtain ⟨a7, k7, rfl, -, hl7, -⟩ := id hCS
  obtain ⟨a8, k8, rfl, -, hl8, -⟩ := id hLS
  rw [hW0] at hW1
  have HWB := Lib.hid hW1
  clear hW0 hb0 hr0 hs0 t0 hW1 hb1 hr1 hs1 t1 hz1
  clear hR hO hC hR2 hO2 hRW hCS hLS
  by_cases hl1 : css.length = rws.length
  rotate_left
  · have HV : Hid (D = false) := Lib.hid (HD.out.trans (dltB_off fun h => hl1 h.1))
    have d1 : ((css.length : Int) != (rws.length : Int)) = true := bne_iff_ne.2 (by omega)
    go_enter Tryz.func57, Tryz.ntmps57
    go_wp2_with (rw [← HWB.out])
    go_ret
    exact ⟨by rw [HV.out]; rfl, HB.out⟩
  have d1 : ((css.length : Int) != (rws.length : Int)) = false := bne_eq_false_iff_eq.2 (by omega)
  by_cases hl2 : ls.length = rws.length
  rotate_left
  · have HV : Hid (D = false) := Lib.hid (HD.out.trans (dltB_off fun h => hl2 h.2))
    have d2 : ((ls.length : Int) != (rws.length : Int)) = true := bne_iff_ne.2 (by omega)
    clear hl1
    go_enter Tryz.func57, Tryz.ntmps57
    go_wp2_with (rw [← HWB.out])
    go_ret
    exact ⟨by rw [HV.out]; rfl, HB.out⟩
  have d2 : ((ls.length : Int) != (rws.length : Int)) = false := bne_eq_false_iff_eq.2 (by omega)
  have HD2 := Lib.hid (HD.out.trans (dltB_on ⟨hl1, hl2⟩))
  have HL1 := Lib.hid hl1
  have HL2 := Lib.hid hl2
  clear hl1 hl2 HD
  go_enter Tryz.func57, Tryz.ntmps57
  go_wp2_with (rw [← HWB.out])
  clear d1 d2 HWB
  go_loopw [11] (fun i V => ∃ k : Nat, k ≤ rws.length ∧ i = .int .i64 k ∧ Hid (∀ j, j < k → oneB rows owners cs rows2 rws css ls j = true) ∧ Hid (Below W1.heap.size W1 V)) (fun i _ => rws.length - (intOf i).toNat)
  case atStart => exact ⟨0, Nat.zero_le _, rfl, Lib.hid fun j h => absurd h (Nat.not_lt_zero _), Lib.hid (Below.refl _ _)⟩
  case round =>
    obtain ⟨k, hkl, rfl, HDN, HBW⟩ := hrel
    replace HR := Lib.hid (HR.out.below HBW.out)
    replace HO := Lib.hid (HO.out.below HBW.out)
    replace HC := Lib.hid (HC.out.below HBW.out)
    replace HR2 := Lib.hid (HR2.out.below HBW.out)
    replace HO2 := Lib.hid (HO2.out.below HBW.out)
    replace HRW := Lib.hid (HRW.out.below HBW.out)
    replace HCS := Lib.hid (HCS.out.below HBW.out)
    replace HLS := Lib.hid (HLS.out.below HBW.out)
    replace Q0 := Lib.hid ((HBW.out.block _ (row_lt Q0.out)).trans Q0.out)
    replace Q1 := Lib.hid ((HBW.out.block _ (row_lt Q1.out)).trans Q1.out)
    replace HB := Lib.hid (HB.out.trans (HBW.out.mono HB.out.size))
    have p00 := row_cell Q0.out (k := 0) rfl
    have p01 := row_cell Q0.out (k := 1) rfl
    have p02 := row_cell Q0.out (k := 2) rfl
    have p03 := row_cell Q0.out (k := 3) rfl
    have p10 := row_cell Q1.out (k := 0) rfl
    have p11 := row_cell Q1.out (k := 1) rfl
    by_cases hlt : k < rws.length
    · obtain ⟨hrk, bR, oR, nR, cR, eR, qR⟩ := HRW.out.get hlt
      obtain ⟨bC, oC, mC, dC, rC, eC, qC, hIC⟩ := HCS.out.getRow (k := k) (by rw [HL1.out]; exact hlt)
      obtain ⟨bL, oL, mL, dL, rL, eL, qL, hSL⟩ := HLS.out.get (k := k) (by rw [HL2.out]; exact hlt)
      obtain ⟨bZ, oZ, mZ, dZ, rZ, eZ, qZ, hSZ⟩ := HLS.out.get (k := 0) (by rw [HL2.out]; omega)
      simp only [Value.slice.injEq] at eR eC eL eZ
      obtain ⟨rfl, -, -⟩ := eR
      obtain ⟨rfl, -, -⟩ := eC
      obtain ⟨rfl, -, -⟩ := eL
      obtain ⟨eZ, -, -⟩ := eZ
      simp only [Option.some.injEq, Addr.mk.injEq] at eZ
      obtain ⟨rfl, rfl, -⟩ := eZ
      obtain ⟨lz, hlz⟩ : ∃ x, x = ls.getD 0 [] := ⟨_, rfl⟩
      rw [← hlz] at hSZ
      have HLZ := Lib.hid hlz
      have HSZ := Lib.hid hSZ
      obtain ⟨aZ, nZ, kZ, rfl⟩ : ∃ a n k, rZ = .slice a n k := by obtain ⟨a, k, h, -⟩ := id hSZ; exact ⟨_, _, _, h⟩
      obtain ⟨lk, hlk⟩ : ∃ x, x = ls.getD k [] := ⟨_, rfl⟩
      rw [← hlk] at hSL
      have HLK := Lib.hid hlk
      have HSL := Lib.hid hSL
      obtain ⟨aL, nL, kL, rfl⟩ : ∃ a n k, rL = .slice a n k := by obtain ⟨a, k, h, -⟩ := id hSL; exact ⟨_, _, _, h⟩
      obtain ⟨ck, hck⟩ : ∃ x, x = css.getD k [] := ⟨_, rfl⟩
      rw [← hck] at hIC
      have HCKK := Lib.hid hck
      have HIC := Lib.hid hIC
      obtain ⟨aC, nC, kC, rfl⟩ : ∃ a n k, rC = .slice a n k := by obtain ⟨a, k, h, -⟩ := id hIC; exact ⟨_, _, _, h⟩
      rw [Nat.add_zero] at qZ
      obtain ⟨row, hrow⟩ : ∃ x, x = nth rws k := ⟨_, rfl⟩
      rw [← hrow] at qR hrk
      have HROW := Lib.hid hrow
      have HRK := Lib.hid hrk
      have HPE : Hid (pubE rows owners cs row = 0) := Lib.hid (by have h := HIN.out k hlt; rw [← HROW.out] at h; unfold pubE; rw [if_neg (by rw [comB_dchk HP1.out HCB.out]; decide), if_neg (by omega)])
      have HLT := Lib.hid hlt
      have i0 : (0 : Int) ≤ (k : Int) := by omega
      have i1 : (k : Int) < (rws.length : Int) := by omega
      have i2 : (k : Int) < (css.length : Int) := by have := HL1.out; omega
      have i3 : (k : Int) < (ls.length : Int) := by have := HL2.out; omega
      have i4 : (0 : Int) < (ls.length : Int) := by have := HL2.out; omega
      have i5 : 0 < ls.length := by have := HL2.out; omega
      clear hlz hlk hck hSZ hSL hIC hrow hrk
      go_wp2_with fail
      have HFT := Lib.hid (fun (W1 : World) (h1 : Below wr.heap.size wr W1) => rfits39_any ep (.slice a1 rows.length k1) (.slice a2 owners.length k2) (.slice a3 cs.length k3) (.slice a4 rows2.length k4) (.slice a5 owners2.length k5) (.slice aC nC kC) row rows owners cs rows2 owners2 ck W1 (HR.out.below h1) (HO.out.below h1) (HC.out.below h1) (HR2.out.below h1) (HO2.out.below h1) (HIC.out.below h1) HRK.out HP2.out HPE.out)
      have HAL := Lib.hid (fun (W1 : World) (h1 : Below wr.heap.size wr W1) => ralike_any (.slice aZ nZ kZ) (.slice aL nL kL) lz lk W1 (HSZ.out.below h1) (HSL.out.below h1))
      cases hfb : fitM rows owners cs rows2 row ck with
      | false =>
        have HV : Hid (D = false) := Lib.hid (HD2.out.trans (dealtB_bad (i := k) HLT.out (by unfold oneB; rw [← HROW.out, ← HLZ.out, ← HLK.out, ← HCKK.out, hfb, Bool.false_and, Bool.false_and])))
        rw [hfb] at HFT
        have HFI := Lib.hid True.intro
        clear hfb HD2 HDN
        refine wp_region_flowsG (by kernel_rfl) (by kernel_rfl) (by kernel_rfl) (by kernel_rfl) (fun done v W => FRda wr (.agg #[.int .i64 ep, .slice a1 rows.length k1, .slice a2 owners.length k2, .slice a3 cs.length k3]) (.agg #[.slice a4 rows2.length k4, .slice a5 owners2.length k5]) (.slice (some ⟨bR, oR, none⟩) rws.length k6) (.slice (some ⟨bC, oC, none⟩) css.length k7) (.slice (some ⟨bL, oL, none⟩) ls.length k8) (row) (.slice aC nC kC) (.slice aL nL kL) (.slice aZ nZ kZ) (w.heap.size) (k) (bR) (oR) (bC) (oC) (bL) (oL) done v W) (fun v => ?_) ?_ (fun v W h => ?_)
        · exact ⟨(Below.refl _ _).drew, (fun h => by cases h), (fun h => by cases h), (fun h => by cases h), (fun h => by cases h), (fun h => by cases h), (fun h => by cases h), (fun h => by cases h), (fun h => by cases h), (fun h => by cases h), (fun h => by cases h), (fun h => by cases h), (fun h => by cases h), (fun h => by cases h), (fun h => by cases h), (fun h => by cases h), (fun h => by cases h)⟩
        · refine ⟨?_, ?_, ?_, ?_, ?_, ?_, ?_, ?_, ?_, ?_, ?_, ?_, ?_, ?_, ?_, ?_, ?_, ?_, ?_, ?_, ?_, ?_, ?_, ?_, ?_, ?_, ?_, ?_, ?_, ?_, ?_, ?_, ?_, ?_, ?_, ?_, trivial⟩
          · intro done v W A h hd hp hu hA hB hdf
            have e0 : A.tmps[5]?.getD undef = .pointer (some ⟨w.heap.size, 0, none⟩) := hB 5 rfl
            have y0_ := below_cell h.b p00
            have y1_ := below_cell h.b p01
            have y2_ := below_cell h.b p02
            have y3_ := below_cell h.b p03
            clear hA hB hp hu hdf
            go_simp
            exact ⟨_, rfl, { h with f0 := (fun _ => rfl) }⟩
          · intro done v W A h hd hp hu hA hB hdf
            have e0 : A.tmps[6]?.getD undef = .pointer (some ⟨w.heap.size + 1, 0, none⟩) := hB 6 rfl
            have y0_ := below_cell h.b p10
            have y1_ := below_cell h.b p11
            clear hA hB hp hu hdf
            go_simp
            exact ⟨_, rfl, { h with f1 := (fun _ => rfl) }⟩
          · intro done v W A h hd hp hu hA hB hdf
            have e0 : A.tmps[2]?.getD undef = .slice (some ⟨bR, oR, none⟩) rws.length k6 := hB 2 rfl
            clear hA hB hp hu hdf
            go_simp
            exact ⟨_, rfl, { h with f2 := (fun _ => rfl) }⟩
          · intro done v W A h hd hp hu hA hB hdf
            have e0 : A.tmps[11]?.getD undef = .int .i64 (k : Int) := hB 11 rfl
            clear hA hB hp hu hdf
            go_simp
            exact ⟨_, rfl, { h with f3 := (fun _ => rfl) }⟩
          · intro done v W A h hd hp hu hA hB hdf
            have hd2 : done 2 = true := hp 2 rfl
            have hd3 : done 3 = true := hp 3 rfl
            have e0 := (hA 2 32 rfl hd2).trans (h.f2 hd2)
            have e1 := (hA 3 33 rfl hd3).trans (h.f3 hd3)
            clear hA hB hp hu hdf
            go_simp
            exact ⟨_, rfl, { h with f4 := (fun _ => rfl) }⟩
          · intro done v W A h hd hp hu hA hB hdf
            have hd4 : done 4 = true := hp 4 rfl
            have e0 := (hA 4 34 rfl hd4).trans (h.f4 hd4)
            have y0_ := below_cell h.b qR
            clear hA hB hp hu hdf
            go_simp
            exact ⟨_, rfl, { h with f5 := (fun _ => rfl) }⟩
          · intro done v W A h hd hp hu hA hB hdf
            have e0 : A.tmps[3]?.getD undef = .slice (some ⟨bC, oC, none⟩) css.length k7 := hB 3 rfl
            clear hA hB hp hu hdf
            go_simp
            exact ⟨_, rfl, { h with f6 := (fun _ => rfl) }⟩
          · intro done v W A h hd hp hu hA hB hdf
            have e0 : A.tmps[11]?.getD undef = .int .i64 (k : Int) := hB 11 rfl
            clear hA hB hp hu hdf
            go_simp
            exact ⟨_, rfl, { h with f7 := (fun _ => rfl) }⟩
          · intro done v W A h hd hp hu hA hB hdf
            have hd6 : done 6 = true := hp 6 rfl
            have hd7 : done 7 = true := hp 7 rfl
            have e0 := (hA 6 36 rfl hd6).trans (h.f6 hd6)
            have e1 := (hA 7 37 rfl hd7).trans (h.f7 hd7)
            clear hA hB hp hu hdf
            go_simp
            exact ⟨_, rfl, { h with f8 := (fun _ => rfl) }⟩
          · intro done v W A h hd hp hu hA hB hdf
            have hd8 : done 8 = true := hp 8 rfl
            have e0 := (hA 8 38 rfl hd8).trans (h.f8 hd8)
            have y0_ := below_cell h.b qC
            clear hA hB hp hu hdf
            go_simp
            exact ⟨_, rfl, { h with f9 := (fun _ => rfl) }⟩
          · intro done v W A h hd hp hu hA hB hdf
            have hd0 : done 0 = true := hp 0 rfl
            have hd1 : done 1 = true := hp 1 rfl
            have hd5 : done 5 = true := hp 5 rfl
            have hd9 : done 9 = true := hp 9 rfl
            have e0 := (hA 0 30 rfl hd0).trans (h.f0 hd0)
            have e1 := (hA 1 31 rfl hd1).trans (h.f1 hd1)
            have e2 := (hA 5 35 rfl hd5).trans (h.f5 hd5)
            have e3 := (hA 9 39 rfl hd9).trans (h.f9 hd9)
            clear hA hB hp hu hdf
            go_simp
            with_reducible refine (HFT.out W h.b).mono ?_
            rintro e wq ⟨rfl, hb⟩
            exact ⟨_, rfl, { h with b := h.b.trans (hb.mono h.b.size), f10 := (fun _ => rfl) }⟩
          · intro done v W A h hd hp hu hA hB hdf
            have hd10 : done 10 = true := hp 10 rfl
            have e0 := (hA 10 40 rfl hd10).trans (h.f10 hd10)
            clear hA hB hp hu hdf
            go_simp
            exact ⟨_, rfl, { h with f11 := (fun _ => rfl) }⟩
          · intro done v W A h hd hp hu hA hB hdf
            have hd11 : done 11 = true := hp 11 rfl
            have e0 := (hA 11 41 rfl hd11).trans (h.f11 hd11)
            clear hA hB hp hu hdf
            go_simp
            exact ⟨_, rfl, { h with f12 := (fun _ => rfl) }⟩
          · intro done v W A h hd hp hu hA hB hdf
            have hd12 : done 12 = true := hp 12 rfl
            refine ⟨_, h.f12 hd12, (fun hx => by cases hx), (fun hne => { h with  })⟩
          · intro done v W A h hd hp hu hA hB hdf
            have hd12 : done 12 = true := hp 12 rfl
            refine ⟨_, h.f12 hd12, (fun hx => by cases hx), (fun hne => { h with  })⟩
          · intro done v W A h hd hp hu hA hB hdf
            have hd12 : done 12 = true := hp 12 rfl
            refine ⟨_, h.f12 hd12, (fun hx => by cases hx), (fun hne => { h with  })⟩
          · intro done v W A h hd hp hu hA hB hdf
            have hd12 : done 12 = true := hp 12 rfl
            refine ⟨_, h.f12 hd12, (fun hx => by cases hx), (fun hne => { h with  })⟩
          · intro done v W A h hd hp hu hA hB hdf
            have hd12 : done 12 = true := hp 12 rfl
            refine ⟨_, h.f12 hd12, (fun hx => by cases hx), (fun hne => { h with  })⟩
          · intro done v W A h hd hp hu hA hB hdf
            have hd12 : done 12 = true := hp 12 rfl
            refine ⟨_, h.f12 hd12, (fun hx => by cases hx), (fun hne => { h with  })⟩
          · intro done v W A h hd hp hu hA hB hdf
            have hd12 : done 12 = true := hp 12 rfl
            refine ⟨_, h.f12 hd12, (fun hx => by cases hx), (fun hne => { h with  })⟩
          · intro done v W A h hd hp hu hA hB hdf
            have hd12 : done 12 = true := hp 12 rfl
            refine ⟨_, h.f12 hd12, (fun hx => by cases hx), (fun hne => { h with  })⟩
          · intro done v W A h hd hp hu hA hB hdf
            have hd12 : done 12 = true := hp 12 rfl
            refine ⟨_, h.f12 hd12, (fun hx => by cases hx), (fun hne => { h with  })⟩
          · intro done v W A h hd hp hu hA hB hdf
            have hd12 : done 12 = true := hp 12 rfl
            refine ⟨_, h.f12 hd12, (fun hx => by cases hx), (fun hne => { h with  })⟩
          · intro done v W A h hd hp hu hA hB hdf
            have hd12 : done 12 = true := hp 12 rfl
            refine ⟨_, h.f12 hd12, (fun hx => by cases hx), (fun hne => { h with  })⟩
          · intro done v W A h hd hp hu hA hB hdf
            have hd12 : done 12 = true := hp 12 rfl
            have e0 := (hA 12 42 rfl hd12).trans (h.f12 hd12)
            clear hA hB hp hu hdf
            go_simp
            exact ⟨_, rfl, { h with f24 := (fun _ => rfl) }⟩
          · intro done v W A h hd hp hu hA hB hdf
            have hd24 : done 24 = true := hp 24 rfl
            have e0 := (hA 24 54 rfl hd24).trans (h.f24 hd24)
            clear hA hB hp hu hdf
            go_simp
            exact ⟨_, rfl, { h with f25 := (fun _ => rfl) }⟩
          · intro done v W A h hd hp hu hA hB hdf
            have hd25 : done 25 = true := hp 25 rfl
            refine ⟨_, h.f25 hd25, (fun hx => by cases hx), (fun hne => { h with  })⟩
          · intro done v W A h hd hp hu hA hB hdf
            have hd25 : done 25 = true := hp 25 rfl
            refine ⟨_, h.f25 hd25, (fun hx => by cases hx), (fun hne => { h with  })⟩
          · intro done v W A h hd hp hu hA hB hdf
            have hd25 : done 25 = true := hp 25 rfl
            refine ⟨_, h.f25 hd25, (fun hx => by cases hx), (fun hne => { h with  })⟩
          · intro done v W A h hd hp hu hA hB hdf
            have hd25 : done 25 = true := hp 25 rfl
            refine ⟨_, h.f25 hd25, (fun hx => by cases hx), (fun hne => { h with  })⟩
          · intro done v W A h hd hp hu hA hB hdf
            have hd25 : done 25 = true := hp 25 rfl
            refine ⟨_, h.f25 hd25, (fun hx => by cases hx), (fun hne => { h with  })⟩
          · intro done v W A h hd hp hu hA hB hdf
            have hd25 : done 25 = true := hp 25 rfl
            refine ⟨_, h.f25 hd25, (fun hx => by cases hx), (fun hne => { h with  })⟩
          · intro done v W A h hd hp hu hA hB hdf
            have hd25 : done 25 = true := hp 25 rfl
            refine ⟨_, h.f25 hd25, (fun hx => by cases hx), (fun hne => { h with  })⟩
          · intro done v W A h hd hp hu hA hB hdf
            have hd25 : done 25 = true := hp 25 rfl
            refine ⟨_, h.f25 hd25, (fun hx => by cases hx), (fun hne => { h with  })⟩
          · intro done v W A h hd hp hu hA hB hdf
            have hd25 : done 25 = true := hp 25 rfl
            refine ⟨_, h.f25 hd25, (fun hx => by cases hx), (fun hne => { h with  })⟩
          · intro done v W A h hd hp hu hA hB hdf
            have hd25 : done 25 = true := hp 25 rfl
            have e0 := (hA 25 55 rfl hd25).trans (h.f25 hd25)
            clear hA hB hp hu hdf
            go_simp
            exact ⟨_, rfl, { h with f35 := (fun _ => rfl) }⟩
        simp only [putL, Act.put, Nat.reduceAdd, List.setIfInBounds_toArray, List.set_cons_zero, List.set_cons_succ]
        have hbr := h.b
        rw [h.f35 rfl]
        replace HB := Lib.hid (HB.out.trans (hbr.mono HB.out.size))
        replace HBW := Lib.hid (HBW.out.trans (hbr.mono HBW.out.size))
        clear h hbr
        go_wp2_with fail
        go_ret
        exact ⟨by rw [HV.out]; rfl, HB.out⟩
      | true =>
      rw [hfb] at HFT
      have HCM := Lib.hid (show comB rows2 ck = true by have h := hfb; unfold fitM at h; rw [Bool.and_eq_true, Bool.and_eq_true] at h; exact h.2.1)
      have HFI := Lib.hid (fun (W1 : World) (h1 : Below wr.heap.size wr W1) => rfit_any (.slice a4 rows2.length k4) (.slice a5 owners2.length k5) (.slice aC nC kC) (.slice aL nL kL) rows2 owners2 ck lk W1 (HR2.out.below h1) (HO2.out.below h1) (HIC.out.below h1) (HSL.out.below h1) (comB_dchk HP2.out HCM.out))
      cases hgb : fitL rows2 ck lk with
      | false =>
        have HV : Hid (D = false) := Lib.hid (HD2.out.trans (dealtB_bad (i := k) HLT.out (by unfold oneB; rw [← HROW.out, ← HLZ.out, ← HLK.out, ← HCKK.out, hgb, Bool.and_false])))
        rw [hgb] at HFI
        clear hfb hgb HD2 HDN
        refine wp_region_flowsG (by kernel_rfl) (by kernel_rfl) (by kernel_rfl) (by kernel_rfl) (fun done v W => FRdb wr (.agg #[.int .i64 ep, .slice a1 rows.length k1, .slice a2 owners.length k2, .slice a3 cs.length k3]) (.agg #[.slice a4 rows2.length k4, .slice a5 owners2.length k5]) (.slice (some ⟨bR, oR, none⟩) rws.length k6) (.slice (some ⟨bC, oC, none⟩) css.length k7) (.slice (some ⟨bL, oL, none⟩) ls.length k8) (row) (.slice aC nC kC) (.slice aL nL kL) (.slice aZ nZ kZ) (w.heap.size) (k) (bR) (oR) (bC) (oC) (bL) (oL) done v W) (fun v => ?_) ?_ (fun v W h => ?_)
        · exact ⟨(Below.refl _ _).drew, (fun h => by cases h), (fun h => by cases h), (fun h => by cases h), (fun h => by cases h), (fun h => by cases h), (fun h => by cases h), (fun h => by cases h), (fun h => by cases h), (fun h => by cases h), (fun h => by cases h), (fun h => by cases h), (fun h => by cases h), (fun h => by cases h), (fun h => by cases h), (fun h => by cases h), (fun h => by cases h), (fun h => by cases h), (fun h => by cases h), (fun h => by cases h), (fun h => by cases h), (fun h => by cases h), (fun h => by cases h), (fun h => by cases h), (fun h => by cases h), (fun h => by cases h), (fun h => by cases h), (fun h => by cases h)⟩
        · refine ⟨?_, ?_, ?_, ?_, ?_, ?_, ?_, ?_, ?_, ?_, ?_, ?_, ?_, ?_, ?_, ?_, ?_, ?_, ?_, ?_, ?_, ?_, ?_, ?_, ?_, ?_, ?_, ?_, ?_, ?_, ?_, ?_, ?_, ?_, ?_, ?_, trivial⟩
          · intro done v W A h hd hp hu hA hB hdf
            have e0 : A.tmps[5]?.getD undef = .pointer (some ⟨w.heap.size, 0, none⟩) := hB 5 rfl
            have y0_ := below_cell h.b p00
            have y1_ := below_cell h.b p01
            have y2_ := below_cell h.b p02
            have y3_ := below_cell h.b p03
            clear hA hB hp hu hdf
            go_simp
            exact ⟨_, rfl, { h with f0 := (fun _ => rfl) }⟩
          · intro done v W A h hd hp hu hA hB hdf
            have e0 : A.tmps[6]?.getD undef = .pointer (some ⟨w.heap.size + 1, 0, none⟩) := hB 6 rfl
            have y0_ := below_cell h.b p10
            have y1_ := below_cell h.b p11
            clear hA hB hp hu hdf
            go_simp
            exact ⟨_, rfl, { h with f1 := (fun _ => rfl) }⟩
          · intro done v W A h hd hp hu hA hB hdf
            have e0 : A.tmps[2]?.getD undef = .slice (some ⟨bR, oR, none⟩) rws.length k6 := hB 2 rfl
            clear hA hB hp hu hdf
            go_simp
            exact ⟨_, rfl, { h with f2 := (fun _ => rfl) }⟩
          · intro done v W A h hd hp hu hA hB hdf
            have e0 : A.tmps[11]?.getD undef = .int .i64 (k : Int) := hB 11 rfl
            clear hA hB hp hu hdf
            go_simp
            exact ⟨_, rfl, { h with f3 := (fun _ => rfl) }⟩
          · intro done v W A h hd hp hu hA hB hdf
            have hd2 : done 2 = true := hp 2 rfl
            have hd3 : done 3 = true := hp 3 rfl
            have e0 := (hA 2 32 rfl hd2).trans (h.f2 hd2)
            have e1 := (hA 3 33 rfl hd3).trans (h.f3 hd3)
            clear hA hB hp hu hdf
            go_simp
            exact ⟨_, rfl, { h with f4 := (fun _ => rfl) }⟩
          · intro done v W A h hd hp hu hA hB hdf
            have hd4 : done 4 = true := hp 4 rfl
            have e0 := (hA 4 34 rfl hd4).trans (h.f4 hd4)
            have y0_ := below_cell h.b qR
            clear hA hB hp hu hdf
            go_simp
            exact ⟨_, rfl, { h with f5 := (fun _ => rfl) }⟩
          · intro done v W A h hd hp hu hA hB hdf
            have e0 : A.tmps[3]?.getD undef = .slice (some ⟨bC, oC, none⟩) css.length k7 := hB 3 rfl
            clear hA hB hp hu hdf
            go_simp
            exact ⟨_, rfl, { h with f6 := (fun _ => rfl) }⟩
          · intro done v W A h hd hp hu hA hB hdf
            have e0 : A.tmps[11]?.getD undef = .int .i64 (k : Int) := hB 11 rfl
            clear hA hB hp hu hdf
            go_simp
            exact ⟨_, rfl, { h with f7 := (fun _ => rfl) }⟩
          · intro done v W A h hd hp hu hA hB hdf
            have hd6 : done 6 = true := hp 6 rfl
            have hd7 : done 7 = true := hp 7 rfl
            have e0 := (hA 6 36 rfl hd6).trans (h.f6 hd6)
            have e1 := (hA 7 37 rfl hd7).trans (h.f7 hd7)
            clear hA hB hp hu hdf
            go_simp
            exact ⟨_, rfl, { h with f8 := (fun _ => rfl) }⟩
          · intro done v W A h hd hp hu hA hB hdf
            have hd8 : done 8 = true := hp 8 rfl
            have e0 := (hA 8 38 rfl hd8).trans (h.f8 hd8)
            have y0_ := below_cell h.b qC
            clear hA hB hp hu hdf
            go_simp
            exact ⟨_, rfl, { h with f9 := (fun _ => rfl) }⟩
          · intro done v W A h hd hp hu hA hB hdf
            have hd0 : done 0 = true := hp 0 rfl
            have hd1 : done 1 = true := hp 1 rfl
            have hd5 : done 5 = true := hp 5 rfl
            have hd9 : done 9 = true := hp 9 rfl
            have e0 := (hA 0 30 rfl hd0).trans (h.f0 hd0)
            have e1 := (hA 1 31 rfl hd1).trans (h.f1 hd1)
            have e2 := (hA 5 35 rfl hd5).trans (h.f5 hd5)
            have e3 := (hA 9 39 rfl hd9).trans (h.f9 hd9)
            clear hA hB hp hu hdf
            go_simp
            with_reducible refine (HFT.out W h.b).mono ?_
            rintro e wq ⟨rfl, hb⟩
            exact ⟨_, rfl, { h with b := h.b.trans (hb.mono h.b.size), f10 := (fun _ => rfl) }⟩
          · intro done v W A h hd hp hu hA hB hdf
            have hd10 : done 10 = true := hp 10 rfl
            have e0 := (hA 10 40 rfl hd10).trans (h.f10 hd10)
            clear hA hB hp hu hdf
            go_simp
            exact ⟨_, rfl, { h with f11 := (fun _ => rfl) }⟩
          · intro done v W A h hd hp hu hA hB hdf
            have hd11 : done 11 = true := hp 11 rfl
            have e0 := (hA 11 41 rfl hd11).trans (h.f11 hd11)
            clear hA hB hp hu hdf
            go_simp
            exact ⟨_, rfl, { h with f12 := (fun _ => rfl) }⟩
          · intro done v W A h hd hp hu hA hB hdf
            have hd12 : done 12 = true := hp 12 rfl
            refine ⟨_, h.f12 hd12, fun _ => ?_, fun hne => absurd rfl hne⟩
            have e0 : A.tmps[6]?.getD undef = .pointer (some ⟨w.heap.size + 1, 0, none⟩) := hB 6 rfl
            have y0_ := below_cell h.b p10
            have y1_ := below_cell h.b p11
            clear hA hB hp hu hdf
            go_simp
            exact ⟨_, rfl, { h with f13 := (fun _ => rfl) }⟩
          · intro done v W A h hd hp hu hA hB hdf
            have hd12 : done 12 = true := hp 12 rfl
            refine ⟨_, h.f12 hd12, fun _ => ?_, fun hne => absurd rfl hne⟩
            have e0 : A.tmps[3]?.getD undef = .slice (some ⟨bC, oC, none⟩) css.length k7 := hB 3 rfl
            clear hA hB hp hu hdf
            go_simp
            exact ⟨_, rfl, { h with f14 := (fun _ => rfl) }⟩
          · intro done v W A h hd hp hu hA hB hdf
            have hd12 : done 12 = true := hp 12 rfl
            refine ⟨_, h.f12 hd12, fun _ => ?_, fun hne => absurd rfl hne⟩
            have e0 : A.tmps[11]?.getD undef = .int .i64 (k : Int) := hB 11 rfl
            clear hA hB hp hu hdf
            go_simp
            exact ⟨_, rfl, { h with f15 := (fun _ => rfl) }⟩
          · intro done v W A h hd hp hu hA hB hdf
            have hd12 : done 12 = true := hp 12 rfl
            have hd14 : done 14 = true := hp 14 rfl
            have hd15 : done 15 = true := hp 15 rfl
            refine ⟨_, h.f12 hd12, fun _ => ?_, fun hne => absurd rfl hne⟩
            have e0 := (hA 14 44 rfl hd14).trans (h.f14 hd14)
            have e1 := (hA 15 45 rfl hd15).trans (h.f15 hd15)
            clear hA hB hp hu hdf
            go_simp
            exact ⟨_, rfl, { h with f16 := (fun _ => rfl) }⟩
          · intro done v W A h hd hp hu hA hB hdf
            have hd12 : done 12 = true := hp 12 rfl
            have hd16 : done 16 = true := hp 16 rfl
            refine ⟨_, h.f12 hd12, fun _ => ?_, fun hne => absurd rfl hne⟩
            have e0 := (hA 16 46 rfl hd16).trans (h.f16 hd16)
            have y0_ := below_cell h.b qC
            clear hA hB hp hu hdf
            go_simp
            exact ⟨_, rfl, { h with f17 := (fun _ => rfl) }⟩
          · intro done v W A h hd hp hu hA hB hdf
            have hd12 : done 12 = true := hp 12 rfl
            refine ⟨_, h.f12 hd12, fun _ => ?_, fun hne => absurd rfl hne⟩
            have e0 : A.tmps[4]?.getD undef = .slice (some ⟨bL, oL, none⟩) ls.length k8 := hB 4 rfl
            clear hA hB hp hu hdf
            go_simp
            exact ⟨_, rfl, { h with f18 := (fun _ => rfl) }⟩
          · intro done v W A h hd hp hu hA hB hdf
            have hd12 : done 12 = true := hp 12 rfl
            refine ⟨_, h.f12 hd12, fun _ => ?_, fun hne => absurd rfl hne⟩
            have e0 : A.tmps[11]?.getD undef = .int .i64 (k : Int) := hB 11 rfl
            clear hA hB hp hu hdf
            go_simp
            exact ⟨_, rfl, { h with f19 := (fun _ => rfl) }⟩
          · intro done v W A h hd hp hu hA hB hdf
            have hd12 : done 12 = true := hp 12 rfl
            have hd18 : done 18 = true := hp 18 rfl
            have hd19 : done 19 = true := hp 19 rfl
            refine ⟨_, h.f12 hd12, fun _ => ?_, fun hne => absurd rfl hne⟩
            have e0 := (hA 18 48 rfl hd18).trans (h.f18 hd18)
            have e1 := (hA 19 49 rfl hd19).trans (h.f19 hd19)
            clear hA hB hp hu hdf
            go_simp
            exact ⟨_, rfl, { h with f20 := (fun _ => rfl) }⟩
          · intro done v W A h hd hp hu hA hB hdf
            have hd12 : done 12 = true := hp 12 rfl
            have hd20 : done 20 = true := hp 20 rfl
            refine ⟨_, h.f12 hd12, fun _ => ?_, fun hne => absurd rfl hne⟩
            have e0 := (hA 20 50 rfl hd20).trans (h.f20 hd20)
            have y0_ := below_cell h.b qL
            clear hA hB hp hu hdf
            go_simp
            exact ⟨_, rfl, { h with f21 := (fun _ => rfl) }⟩
          · intro done v W A h hd hp hu hA hB hdf
            have hd12 : done 12 = true := hp 12 rfl
            have hd13 : done 13 = true := hp 13 rfl
            have hd17 : done 17 = true := hp 17 rfl
            have hd21 : done 21 = true := hp 21 rfl
            refine ⟨_, h.f12 hd12, fun _ => ?_, fun hne => absurd rfl hne⟩
            have e0 := (hA 13 43 rfl hd13).trans (h.f13 hd13)
            have e1 := (hA 17 47 rfl hd17).trans (h.f17 hd17)
            have e2 := (hA 21 51 rfl hd21).trans (h.f21 hd21)
            clear hA hB hp hu hdf
            go_simp
            with_reducible refine (HFI.out W h.b).mono ?_
            rintro e wq ⟨rfl, hb⟩
            exact ⟨_, rfl, { h with b := h.b.trans (hb.mono h.b.size), f22 := (fun _ => rfl) }⟩
          · intro done v W A h hd hp hu hA hB hdf
            have hd12 : done 12 = true := hp 12 rfl
            have hd22 : done 22 = true := hp 22 rfl
            refine ⟨_, h.f12 hd12, fun _ => ?_, fun hne => absurd rfl hne⟩
            have e0 := (hA 22 52 rfl hd22).trans (h.f22 hd22)
            clear hA hB hp hu hdf
            go_simp
            exact ⟨_, rfl, { h with f23 := (fun _ => rfl) }⟩
          · intro done v W A h hd hp hu hA hB hdf
            have hd12 : done 12 = true := hp 12 rfl
            have hd23 : done 23 = true := hp 23 rfl
            have e0 := (hA 12 42 rfl hd12).trans (h.f12 hd12)
            have e2 := (hA 23 53 rfl hd23).trans (h.f23 hd23)
            clear hA hB hp hu hdf
            go_simp
            exact ⟨_, rfl, { h with f24 := (fun _ => rfl) }⟩
          · intro done v W A h hd hp hu hA hB hdf
            have hd24 : done 24 = true := hp 24 rfl
            have e0 := (hA 24 54 rfl hd24).trans (h.f24 hd24)
            clear hA hB hp hu hdf
            go_simp
            exact ⟨_, rfl, { h with f25 := (fun _ => rfl) }⟩
          · intro done v W A h hd hp hu hA hB hdf
            have hd25 : done 25 = true := hp 25 rfl
            refine ⟨_, h.f25 hd25, (fun hx => by cases hx), (fun hne => { h with  })⟩
          · intro done v W A h hd hp hu hA hB hdf
            have hd25 : done 25 = true := hp 25 rfl
            refine ⟨_, h.f25 hd25, (fun hx => by cases hx), (fun hne => { h with  })⟩
          · intro done v W A h hd hp hu hA hB hdf
            have hd25 : done 25 = true := hp 25 rfl
            refine ⟨_, h.f25 hd25, (fun hx => by cases hx), (fun hne => { h with  })⟩
          · intro done v W A h hd hp hu hA hB hdf
            have hd25 : done 25 = true := hp 25 rfl
            refine ⟨_, h.f25 hd25, (fun hx => by cases hx), (fun hne => { h with  })⟩
          · intro done v W A h hd hp hu hA hB hdf
            have hd25 : done 25 = true := hp 25 rfl
            refine ⟨_, h.f25 hd25, (fun hx => by cases hx), (fun hne => { h with  })⟩
          · intro done v W A h hd hp hu hA hB hdf
            have hd25 : done 25 = true := hp 25 rfl
            refine ⟨_, h.f25 hd25, (fun hx => by cases hx), (fun hne => { h with  })⟩
          · intro done v W A h hd hp hu hA hB hdf
            have hd25 : done 25 = true := hp 25 rfl
            refine ⟨_, h.f25 hd25, (fun hx => by cases hx), (fun hne => { h with  })⟩
          · intro done v W A h hd hp hu hA hB hdf
            have hd25 : done 25 = true := hp 25 rfl
            refine ⟨_, h.f25 hd25, (fun hx => by cases hx), (fun hne => { h with  })⟩
          · intro done v W A h hd hp hu hA hB hdf
            have hd25 : done 25 = true := hp 25 rfl
            refine ⟨_, h.f25 hd25, (fun hx => by cases hx), (fun hne => { h with  })⟩
          · intro done v W A h hd hp hu hA hB hdf
            have hd25 : done 25 = true := hp 25 rfl
            have e0 := (hA 25 55 rfl hd25).trans (h.f25 hd25)
            clear hA hB hp hu hdf
            go_simp
            exact ⟨_, rfl, { h with f35 := (fun _ => rfl) }⟩
        simp only [putL, Act.put, Nat.reduceAdd, List.setIfInBounds_toArray, List.set_cons_zero, List.set_cons_succ]
        have hbr := h.b
        rw [h.f35 rfl]
        replace HB := Lib.hid (HB.out.trans (hbr.mono HB.out.size))
        replace HBW := Lib.hid (HBW.out.trans (hbr.mono HBW.out.size))
        clear h hbr
        go_wp2_with fail
        go_ret
        exact ⟨by rw [HV.out]; rfl, HB.out⟩
      | true =>
      rw [hgb] at HFI
      cases hab : decide (rowsS lz = rowsS lk) with
      | false =>
        have HV : Hid (D = false) := Lib.hid (HD2.out.trans (dealtB_bad (i := k) HLT.out (by unfold oneB; rw [← HROW.out, ← HLZ.out, ← HLK.out, ← HCKK.out, hab, Bool.and_false, Bool.false_and])))
        rw [hab] at HAL
        clear hfb hgb hab HD2 HDN
        refine wp_region_flowsG (by kernel_rfl) (by kernel_rfl) (by kernel_rfl) (by kernel_rfl) (fun done v W => FRdc wr (.agg #[.int .i64 ep, .slice a1 rows.length k1, .slice a2 owners.length k2, .slice a3 cs.length k3]) (.agg #[.slice a4 rows2.length k4, .slice a5 owners2.length k5]) (.slice (some ⟨bR, oR, none⟩) rws.length k6) (.slice (some ⟨bC, oC, none⟩) css.length k7) (.slice (some ⟨bL, oL, none⟩) ls.length k8) (row) (.slice aC nC kC) (.slice aL nL kL) (.slice aZ nZ kZ) (w.heap.size) (k) (bR) (oR) (bC) (oC) (bL) (oL) done v W) (fun v => ?_) ?_ (fun v W h => ?_)
        · exact ⟨(Below.refl _ _).drew, (fun h => by cases h), (fun h => by cases h), (fun h => by cases h), (fun h => by cases h), (fun h => by cases h), (fun h => by cases h), (fun h => by cases h), (fun h => by cases h), (fun h => by cases h), (fun h => by cases h), (fun h => by cases h), (fun h => by cases h), (fun h => by cases h), (fun h => by cases h), (fun h => by cases h), (fun h => by cases h), (fun h => by cases h), (fun h => by cases h), (fun h => by cases h), (fun h => by cases h), (fun h => by cases h), (fun h => by cases h), (fun h => by cases h), (fun h => by cases h), (fun h => by cases h), (fun h => by cases h), (fun h => by cases h), (fun h => by cases h), (fun h => by cases h), (fun h => by cases h), (fun h => by cases h), (fun h => by cases h), (fun h => by cases h), (fun h => by cases h), (fun h => by cases h), (fun h => by cases h)⟩
        · refine ⟨?_, ?_, ?_, ?_, ?_, ?_, ?_, ?_, ?_, ?_, ?_, ?_, ?_, ?_, ?_, ?_, ?_, ?_, ?_, ?_, ?_, ?_, ?_, ?_, ?_, ?_, ?_, ?_, ?_, ?_, ?_, ?_, ?_, ?_, ?_, ?_, trivial⟩
          · intro done v W A h hd hp hu hA hB hdf
            have e0 : A.tmps[5]?.getD undef = .pointer (some ⟨w.heap.size, 0, none⟩) := hB 5 rfl
            have y0_ := below_cell h.b p00
            have y1_ := below_cell h.b p01
            have y2_ := below_cell h.b p02
            have y3_ := below_cell h.b p03
            clear hA hB hp hu hdf
            go_simp
            exact ⟨_, rfl, { h with f0 := (fun _ => rfl) }⟩
          · intro done v W A h hd hp hu hA hB hdf
            have e0 : A.tmps[6]?.getD undef = .pointer (some ⟨w.heap.size + 1, 0, none⟩) := hB 6 rfl
            have y0_ := below_cell h.b p10
            have y1_ := below_cell h.b p11
            clear hA hB hp hu hdf
            go_simp
            exact ⟨_, rfl, { h with f1 := (fun _ => rfl) }⟩
          · intro done v W A h hd hp hu hA hB hdf
            have e0 : A.tmps[2]?.getD undef = .slice (some ⟨bR, oR, none⟩) rws.length k6 := hB 2 rfl
            clear hA hB hp hu hdf
            go_simp
            exact ⟨_, rfl, { h with f2 := (fun _ => rfl) }⟩
          · intro done v W A h hd hp hu hA hB hdf
            have e0 : A.tmps[11]?.getD undef = .int .i64 (k : Int) := hB 11 rfl
            clear hA hB hp hu hdf
            go_simp
            exact ⟨_, rfl, { h with f3 := (fun _ => rfl) }⟩
          · intro done v W A h hd hp hu hA hB hdf
            have hd2 : done 2 = true := hp 2 rfl
            have hd3 : done 3 = true := hp 3 rfl
            have e0 := (hA 2 32 rfl hd2).trans (h.f2 hd2)
            have e1 := (hA 3 33 rfl hd3).trans (h.f3 hd3)
            clear hA hB hp hu hdf
            go_simp
            exact ⟨_, rfl, { h with f4 := (fun _ => rfl) }⟩
          · intro done v W A h hd hp hu hA hB hdf
            have hd4 : done 4 = true := hp 4 rfl
            have e0 := (hA 4 34 rfl hd4).trans (h.f4 hd4)
            have y0_ := below_cell h.b qR
            clear hA hB hp hu hdf
            go_simp
            exact ⟨_, rfl, { h with f5 := (fun _ => rfl) }⟩
          · intro done v W A h hd hp hu hA hB hdf
            have e0 : A.tmps[3]?.getD undef = .slice (some ⟨bC, oC, none⟩) css.length k7 := hB 3 rfl
            clear hA hB hp hu hdf
            go_simp
            exact ⟨_, rfl, { h with f6 := (fun _ => rfl) }⟩
          · intro done v W A h hd hp hu hA hB hdf
            have e0 : A.tmps[11]?.getD undef = .int .i64 (k : Int) := hB 11 rfl
            clear hA hB hp hu hdf
            go_simp
            exact ⟨_, rfl, { h with f7 := (fun _ => rfl) }⟩
          · intro done v W A h hd hp hu hA hB hdf
            have hd6 : done 6 = true := hp 6 rfl
            have hd7 : done 7 = true := hp 7 rfl
            have e0 := (hA 6 36 rfl hd6).trans (h.f6 hd6)
            have e1 := (hA 7 37 rfl hd7).trans (h.f7 hd7)
            clear hA hB hp hu hdf
            go_simp
            exact ⟨_, rfl, { h with f8 := (fun _ => rfl) }⟩
          · intro done v W A h hd hp hu hA hB hdf
            have hd8 : done 8 = true := hp 8 rfl
            have e0 := (hA 8 38 rfl hd8).trans (h.f8 hd8)
            have y0_ := below_cell h.b qC
            clear hA hB hp hu hdf
            go_simp
            exact ⟨_, rfl, { h with f9 := (fun _ => rfl) }⟩
          · intro done v W A h hd hp hu hA hB hdf
            have hd0 : done 0 = true := hp 0 rfl
            have hd1 : done 1 = true := hp 1 rfl
            have hd5 : done 5 = true := hp 5 rfl
            have hd9 : done 9 = true := hp 9 rfl
            have e0 := (hA 0 30 rfl hd0).trans (h.f0 hd0)
            have e1 := (hA 1 31 rfl hd1).trans (h.f1 hd1)
            have e2 := (hA 5 35 rfl hd5).trans (h.f5 hd5)
            have e3 := (hA 9 39 rfl hd9).trans (h.f9 hd9)
            clear hA hB hp hu hdf
            go_simp
            with_reducible refine (HFT.out W h.b).mono ?_
            rintro e wq ⟨rfl, hb⟩
            exact ⟨_, rfl, { h with b := h.b.trans (hb.mono h.b.size), f10 := (fun _ => rfl) }⟩
          · intro done v W A h hd hp hu hA hB hdf
            have hd10 : done 10 = true := hp 10 rfl
            have e0 := (hA 10 40 rfl hd10).trans (h.f10 hd10)
            clear hA hB hp hu hdf
            go_simp
            exact ⟨_, rfl, { h with f11 := (fun _ => rfl) }⟩
          · intro done v W A h hd hp hu hA hB hdf
            have hd11 : done 11 = true := hp 11 rfl
            have e0 := (hA 11 41 rfl hd11).trans (h.f11 hd11)
            clear hA hB hp hu hdf
            go_simp
            exact ⟨_, rfl, { h with f12 := (fun _ => rfl) }⟩
          · intro done v W A h hd hp hu hA hB hdf
            have hd12 : done 12 = true := hp 12 rfl
            refine ⟨_, h.f12 hd12, fun _ => ?_, fun hne => absurd rfl hne⟩
            have e0 : A.tmps[6]?.getD undef = .pointer (some ⟨w.heap.size + 1, 0, none⟩) := hB 6 rfl
            have y0_ := below_cell h.b p10
            have y1_ := below_cell h.b p11
            clear hA hB hp hu hdf
            go_simp
            exact ⟨_, rfl, { h with f13 := (fun _ => rfl) }⟩
          · intro done v W A h hd hp hu hA hB hdf
            have hd12 : done 12 = true := hp 12 rfl
            refine ⟨_, h.f12 hd12, fun _ => ?_, fun hne => absurd rfl hne⟩
            have e0 : A.tmps[3]?.getD undef = .slice (some ⟨bC, oC, none⟩) css.length k7 := hB 3 rfl
            clear hA hB hp hu hdf
            go_simp
            exact ⟨_, rfl, { h with f14 := (fun _ => rfl) }⟩
          · intro done v W A h hd hp hu hA hB hdf
            have hd12 : done 12 = true := hp 12 rfl
            refine ⟨_, h.f12 hd12, fun _ => ?_, fun hne => absurd rfl hne⟩
            have e0 : A.tmps[11]?.getD undef = .int .i64 (k : Int) := hB 11 rfl
            clear hA hB hp hu hdf
            go_simp
            exact ⟨_, rfl, { h with f15 := (fun _ => rfl) }⟩
          · intro done v W A h hd hp hu hA hB hdf
            have hd12 : done 12 = true := hp 12 rfl
            have hd14 : done 14 = true := hp 14 rfl
            have hd15 : done 15 = true := hp 15 rfl
            refine ⟨_, h.f12 hd12, fun _ => ?_, fun hne => absurd rfl hne⟩
            have e0 := (hA 14 44 rfl hd14).trans (h.f14 hd14)
            have e1 := (hA 15 45 rfl hd15).trans (h.f15 hd15)
            clear hA hB hp hu hdf
            go_simp
            exact ⟨_, rfl, { h with f16 := (fun _ => rfl) }⟩
          · intro done v W A h hd hp hu hA hB hdf
            have hd12 : done 12 = true := hp 12 rfl
            have hd16 : done 16 = true := hp 16 rfl
            refine ⟨_, h.f12 hd12, fun _ => ?_, fun hne => absurd rfl hne⟩
            have e0 := (hA 16 46 rfl hd16).trans (h.f16 hd16)
            have y0_ := below_cell h.b qC
            clear hA hB hp hu hdf
            go_simp
            exact ⟨_, rfl, { h with f17 := (fun _ => rfl) }⟩
          · intro done v W A h hd hp hu hA hB hdf
            have hd12 : done 12 = true := hp 12 rfl
            refine ⟨_, h.f12 hd12, fun _ => ?_, fun hne => absurd rfl hne⟩
            have e0 : A.tmps[4]?.getD undef = .slice (some ⟨bL, oL, none⟩) ls.length k8 := hB 4 rfl
            clear hA hB hp hu hdf
            go_simp
            exact ⟨_, rfl, { h with f18 := (fun _ => rfl) }⟩
          · intro done v W A h hd hp hu hA hB hdf
            have hd12 : done 12 = true := hp 12 rfl
            refine ⟨_, h.f12 hd12, fun _ => ?_, fun hne => absurd rfl hne⟩
            have e0 : A.tmps[11]?.getD undef = .int .i64 (k : Int) := hB 11 rfl
            clear hA hB hp hu hdf
            go_simp
            exact ⟨_, rfl, { h with f19 := (fun _ => rfl) }⟩
          · intro done v W A h hd hp hu hA hB hdf
            have hd12 : done 12 = true := hp 12 rfl
            have hd18 : done 18 = true := hp 18 rfl
            have hd19 : done 19 = true := hp 19 rfl
            refine ⟨_, h.f12 hd12, fun _ => ?_, fun hne => absurd rfl hne⟩
            have e0 := (hA 18 48 rfl hd18).trans (h.f18 hd18)
            have e1 := (hA 19 49 rfl hd19).trans (h.f19 hd19)
            clear hA hB hp hu hdf
            go_simp
            exact ⟨_, rfl, { h with f20 := (fun _ => rfl) }⟩
          · intro done v W A h hd hp hu hA hB hdf
            have hd12 : done 12 = true := hp 12 rfl
            have hd20 : done 20 = true := hp 20 rfl
            refine ⟨_, h.f12 hd12, fun _ => ?_, fun hne => absurd rfl hne⟩
            have e0 := (hA 20 50 rfl hd20).trans (h.f20 hd20)
            have y0_ := below_cell h.b qL
            clear hA hB hp hu hdf
            go_simp
            exact ⟨_, rfl, { h with f21 := (fun _ => rfl) }⟩
          · intro done v W A h hd hp hu hA hB hdf
            have hd12 : done 12 = true := hp 12 rfl
            have hd13 : done 13 = true := hp 13 rfl
            have hd17 : done 17 = true := hp 17 rfl
            have hd21 : done 21 = true := hp 21 rfl
            refine ⟨_, h.f12 hd12, fun _ => ?_, fun hne => absurd rfl hne⟩
            have e0 := (hA 13 43 rfl hd13).trans (h.f13 hd13)
            have e1 := (hA 17 47 rfl hd17).trans (h.f17 hd17)
            have e2 := (hA 21 51 rfl hd21).trans (h.f21 hd21)
            clear hA hB hp hu hdf
            go_simp
            with_reducible refine (HFI.out W h.b).mono ?_
            rintro e wq ⟨rfl, hb⟩
            exact ⟨_, rfl, { h with b := h.b.trans (hb.mono h.b.size), f22 := (fun _ => rfl) }⟩
          · intro done v W A h hd hp hu hA hB hdf
            have hd12 : done 12 = true := hp 12 rfl
            have hd22 : done 22 = true := hp 22 rfl
            refine ⟨_, h.f12 hd12, fun _ => ?_, fun hne => absurd rfl hne⟩
            have e0 := (hA 22 52 rfl hd22).trans (h.f22 hd22)
            clear hA hB hp hu hdf
            go_simp
            exact ⟨_, rfl, { h with f23 := (fun _ => rfl) }⟩
          · intro done v W A h hd hp hu hA hB hdf
            have hd12 : done 12 = true := hp 12 rfl
            have hd23 : done 23 = true := hp 23 rfl
            have e0 := (hA 12 42 rfl hd12).trans (h.f12 hd12)
            have e2 := (hA 23 53 rfl hd23).trans (h.f23 hd23)
            clear hA hB hp hu hdf
            go_simp
            exact ⟨_, rfl, { h with f24 := (fun _ => rfl) }⟩
          · intro done v W A h hd hp hu hA hB hdf
            have hd24 : done 24 = true := hp 24 rfl
            have e0 := (hA 24 54 rfl hd24).trans (h.f24 hd24)
            clear hA hB hp hu hdf
            go_simp
            exact ⟨_, rfl, { h with f25 := (fun _ => rfl) }⟩
          · intro done v W A h hd hp hu hA hB hdf
            have hd25 : done 25 = true := hp 25 rfl
            refine ⟨_, h.f25 hd25, fun _ => ?_, fun hne => absurd rfl hne⟩
            have e0 : A.tmps[4]?.getD undef = .slice (some ⟨bL, oL, none⟩) ls.length k8 := hB 4 rfl
            clear hA hB hp hu hdf
            go_simp
            exact ⟨_, rfl, { h with f26 := (fun _ => rfl) }⟩
          · intro done v W A h hd hp hu hA hB hdf
            have hd25 : done 25 = true := hp 25 rfl
            have hd26 : done 26 = true := hp 26 rfl
            refine ⟨_, h.f25 hd25, fun _ => ?_, fun hne => absurd rfl hne⟩
            have e0 := (hA 26 56 rfl hd26).trans (h.f26 hd26)
            clear hA hB hp hu hdf
            go_simp
            exact ⟨_, rfl, { h with f27 := (fun _ => rfl) }⟩
          · intro done v W A h hd hp hu hA hB hdf
            have hd25 : done 25 = true := hp 25 rfl
            have hd27 : done 27 = true := hp 27 rfl
            refine ⟨_, h.f25 hd25, fun _ => ?_, fun hne => absurd rfl hne⟩
            have e0 := (hA 27 57 rfl hd27).trans (h.f27 hd27)
            have y0_ := below_cell h.b qZ
            clear hA hB hp hu hdf
            go_simp
            exact ⟨_, rfl, { h with f28 := (fun _ => rfl) }⟩
          · intro done v W A h hd hp hu hA hB hdf
            have hd25 : done 25 = true := hp 25 rfl
            refine ⟨_, h.f25 hd25, fun _ => ?_, fun hne => absurd rfl hne⟩
            have e0 : A.tmps[4]?.getD undef = .slice (some ⟨bL, oL, none⟩) ls.length k8 := hB 4 rfl
            clear hA hB hp hu hdf
            go_simp
            exact ⟨_, rfl, { h with f29 := (fun _ => rfl) }⟩
          · intro done v W A h hd hp hu hA hB hdf
            have hd25 : done 25 = true := hp 25 rfl
            refine ⟨_, h.f25 hd25, fun _ => ?_, fun hne => absurd rfl hne⟩
            have e0 : A.tmps[11]?.getD undef = .int .i64 (k : Int) := hB 11 rfl
            clear hA hB hp hu hdf
            go_simp
            exact ⟨_, rfl, { h with f30 := (fun _ => rfl) }⟩
          · intro done v W A h hd hp hu hA hB hdf
            have hd25 : done 25 = true := hp 25 rfl
            have hd29 : done 29 = true := hp 29 rfl
            have hd30 : done 30 = true := hp 30 rfl
            refine ⟨_, h.f25 hd25, fun _ => ?_, fun hne => absurd rfl hne⟩
            have e0 := (hA 29 59 rfl hd29).trans (h.f29 hd29)
            have e1 := (hA 30 60 rfl hd30).trans (h.f30 hd30)
            clear hA hB hp hu hdf
            go_simp
            exact ⟨_, rfl, { h with f31 := (fun _ => rfl) }⟩
          · intro done v W A h hd hp hu hA hB hdf
            have hd25 : done 25 = true := hp 25 rfl
            have hd31 : done 31 = true := hp 31 rfl
            refine ⟨_, h.f25 hd25, fun _ => ?_, fun hne => absurd rfl hne⟩
            have e0 := (hA 31 61 rfl hd31).trans (h.f31 hd31)
            have y0_ := below_cell h.b qL
            clear hA hB hp hu hdf
            go_simp
            exact ⟨_, rfl, { h with f32 := (fun _ => rfl) }⟩
          · intro done v W A h hd hp hu hA hB hdf
            have hd25 : done 25 = true := hp 25 rfl
            have hd28 : done 28 = true := hp 28 rfl
            have hd32 : done 32 = true := hp 32 rfl
            refine ⟨_, h.f25 hd25, fun _ => ?_, fun hne => absurd rfl hne⟩
            have e0 := (hA 28 58 rfl hd28).trans (h.f28 hd28)
            have e1 := (hA 32 62 rfl hd32).trans (h.f32 hd32)
            clear hA hB hp hu hdf
            go_simp
            with_reducible refine (HAL.out W h.b).mono ?_
            rintro e wq ⟨rfl, hb⟩
            exact ⟨_, rfl, { h with b := h.b.trans (hb.mono h.b.size), f33 := (fun _ => rfl) }⟩
          · intro done v W A h hd hp hu hA hB hdf
            have hd25 : done 25 = true := hp 25 rfl
            have hd33 : done 33 = true := hp 33 rfl
            refine ⟨_, h.f25 hd25, fun _ => ?_, fun hne => absurd rfl hne⟩
            have e0 := (hA 33 63 rfl hd33).trans (h.f33 hd33)
            clear hA hB hp hu hdf
            go_simp
            exact ⟨_, rfl, { h with f34 := (fun _ => rfl) }⟩
          · intro done v W A h hd hp hu hA hB hdf
            have hd25 : done 25 = true := hp 25 rfl
            have hd34 : done 34 = true := hp 34 rfl
            have e0 := (hA 25 55 rfl hd25).trans (h.f25 hd25)
            have e2 := (hA 34 64 rfl hd34).trans (h.f34 hd34)
            clear hA hB hp hu hdf
            go_simp
            exact ⟨_, rfl, { h with f35 := (fun _ => rfl) }⟩
        simp only [putL, Act.put, Nat.reduceAdd, List.setIfInBounds_toArray, List.set_cons_zero, List.set_cons_succ]
        have hbr := h.b
        rw [h.f35 rfl]
        replace HB := Lib.hid (HB.out.trans (hbr.mono HB.out.size))
        replace HBW := Lib.hid (HBW.out.trans (hbr.mono HBW.out.size))
        clear h hbr
        go_wp2_with fail
        go_ret
        exact ⟨by rw [HV.out]; rfl, HB.out⟩
      | true =>
      rw [hab] at HAL
      replace HDN : Hid (∀ j, j < k + 1 → oneB rows owners cs rows2 rws css ls j = true) := Lib.hid (fun j hj => by
        by_cases hjk : j = k
        · subst hjk; unfold oneB; rw [← HROW.out, ← HLZ.out, ← HLK.out, ← HCKK.out, hfb, hab, hgb]; rfl
        · exact HDN.out j (by omega))
      clear hfb hgb hab
      refine wp_region_flowsG (by kernel_rfl) (by kernel_rfl) (by kernel_rfl) (by kernel_rfl) (fun done v W => FRdd wr (.agg #[.int .i64 ep, .slice a1 rows.length k1, .slice a2 owners.length k2, .slice a3 cs.length k3]) (.agg #[.slice a4 rows2.length k4, .slice a5 owners2.length k5]) (.slice (some ⟨bR, oR, none⟩) rws.length k6) (.slice (some ⟨bC, oC, none⟩) css.length k7) (.slice (some ⟨bL, oL, none⟩) ls.length k8) (row) (.slice aC nC kC) (.slice aL nL kL) (.slice aZ nZ kZ) (w.heap.size) (k) (bR) (oR) (bC) (oC) (bL) (oL) done v W) (fun v => ?_) ?_ (fun v W h => ?_)
      · exact ⟨(Below.refl _ _).drew, (fun h => by cases h), (fun h => by cases h), (fun h => by cases h), (fun h => by cases h), (fun h => by cases h), (fun h => by cases h), (fun h => by cases h), (fun h => by cases h), (fun h => by cases h), (fun h => by cases h), (fun h => by cases h), (fun h => by cases h), (fun h => by cases h), (fun h => by cases h), (fun h => by cases h), (fun h => by cases h), (fun h => by cases h), (fun h => by cases h), (fun h => by cases h), (fun h => by cases h), (fun h => by cases h), (fun h => by cases h), (fun h => by cases h), (fun h => by cases h), (fun h => by cases h), (fun h => by cases h), (fun h => by cases h), (fun h => by cases h), (fun h => by cases h), (fun h => by cases h), (fun h => by cases h), (fun h => by cases h), (fun h => by cases h), (fun h => by cases h), (fun h => by cases h), (fun h => by cases h)⟩
      · refine ⟨?_, ?_, ?_, ?_, ?_, ?_, ?_, ?_, ?_, ?_, ?_, ?_, ?_, ?_, ?_, ?_, ?_, ?_, ?_, ?_, ?_, ?_, ?_, ?_, ?_, ?_, ?_, ?_, ?_, ?_, ?_, ?_, ?_, ?_, ?_, ?_, trivial⟩
        · intro done v W A h hd hp hu hA hB hdf
          have e0 : A.tmps[5]?.getD undef = .pointer (some ⟨w.heap.size, 0, none⟩) := hB 5 rfl
          have y0_ := below_cell h.b p00
          have y1_ := below_cell h.b p01
          have y2_ := below_cell h.b p02
          have y3_ := below_cell h.b p03
          clear hA hB hp hu hdf
          go_simp
          exact ⟨_, rfl, { h with f0 := (fun _ => rfl) }⟩
        · intro done v W A h hd hp hu hA hB hdf
          have e0 : A.tmps[6]?.getD undef = .pointer (some ⟨w.heap.size + 1, 0, none⟩) := hB 6 rfl
          have y0_ := below_cell h.b p10
          have y1_ := below_cell h.b p11
          clear hA hB hp hu hdf
          go_simp
          exact ⟨_, rfl, { h with f1 := (fun _ => rfl) }⟩
        · intro done v W A h hd hp hu hA hB hdf
          have e0 : A.tmps[2]?.getD undef = .slice (some ⟨bR, oR, none⟩) rws.length k6 := hB 2 rfl
          clear hA hB hp hu hdf
          go_simp
          exact ⟨_, rfl, { h with f2 := (fun _ => rfl) }⟩
        · intro done v W A h hd hp hu hA hB hdf
          have e0 : A.tmps[11]?.getD undef = .int .i64 (k : Int) := hB 11 rfl
          clear hA hB hp hu hdf
          go_simp
          exact ⟨_, rfl, { h with f3 := (fun _ => rfl) }⟩
        · intro done v W A h hd hp hu hA hB hdf
          have hd2 : done 2 = true := hp 2 rfl
          have hd3 : done 3 = true := hp 3 rfl
          have e0 := (hA 2 32 rfl hd2).trans (h.f2 hd2)
          have e1 := (hA 3 33 rfl hd3).trans (h.f3 hd3)
          clear hA hB hp hu hdf
          go_simp
          exact ⟨_, rfl, { h with f4 := (fun _ => rfl) }⟩
        · intro done v W A h hd hp hu hA hB hdf
          have hd4 : done 4 = true := hp 4 rfl
          have e0 := (hA 4 34 rfl hd4).trans (h.f4 hd4)
          have y0_ := below_cell h.b qR
          clear hA hB hp hu hdf
          go_simp
          exact ⟨_, rfl, { h with f5 := (fun _ => rfl) }⟩
        · intro done v W A h hd hp hu hA hB hdf
          have e0 : A.tmps[3]?.getD undef = .slice (some ⟨bC, oC, none⟩) css.length k7 := hB 3 rfl
          clear hA hB hp hu hdf
          go_simp
          exact ⟨_, rfl, { h with f6 := (fun _ => rfl) }⟩
        · intro done v W A h hd hp hu hA hB hdf
          have e0 : A.tmps[11]?.getD undef = .int .i64 (k : Int) := hB 11 rfl
          clear hA hB hp hu hdf
          go_simp
          exact ⟨_, rfl, { h with f7 := (fun _ => rfl) }⟩
        · intro done v W A h hd hp hu hA hB hdf
          have hd6 : done 6 = true := hp 6 rfl
          have hd7 : done 7 = true := hp 7 rfl
          have e0 := (hA 6 36 rfl hd6).trans (h.f6 hd6)
          have e1 := (hA 7 37 rfl hd7).trans (h.f7 hd7)
          clear hA hB hp hu hdf
          go_simp
          exact ⟨_, rfl, { h with f8 := (fun _ => rfl) }⟩
        · intro done v W A h hd hp hu hA hB hdf
          have hd8 : done 8 = true := hp 8 rfl
          have e0 := (hA 8 38 rfl hd8).trans (h.f8 hd8)
          have y0_ := below_cell h.b qC
          clear hA hB hp hu hdf
          go_simp
          exact ⟨_, rfl, { h with f9 := (fun _ => rfl) }⟩
        · intro done v W A h hd hp hu hA hB hdf
          have hd0 : done 0 = true := hp 0 rfl
          have hd1 : done 1 = true := hp 1 rfl
          have hd5 : done 5 = true := hp 5 rfl
          have hd9 : done 9 = true := hp 9 rfl
          have e0 := (hA 0 30 rfl hd0).trans (h.f0 hd0)
          have e1 := (hA 1 31 rfl hd1).trans (h.f1 hd1)
          have e2 := (hA 5 35 rfl hd5).trans (h.f5 hd5)
          have e3 := (hA 9 39 rfl hd9).trans (h.f9 hd9)
          clear hA hB hp hu hdf
          go_simp
          with_reducible refine (HFT.out W h.b).mono ?_
          rintro e wq ⟨rfl, hb⟩
          exact ⟨_, rfl, { h with b := h.b.trans (hb.mono h.b.size), f10 := (fun _ => rfl) }⟩
        · intro done v W A h hd hp hu hA hB hdf
          have hd10 : done 10 = true := hp 10 rfl
          have e0 := (hA 10 40 rfl hd10).trans (h.f10 hd10)
          clear hA hB hp hu hdf
          go_simp
          exact ⟨_, rfl, { h with f11 := (fun _ => rfl) }⟩
        · intro done v W A h hd hp hu hA hB hdf
          have hd11 : done 11 = true := hp 11 rfl
          have e0 := (hA 11 41 rfl hd11).trans (h.f11 hd11)
          clear hA hB hp hu hdf
          go_simp
          exact ⟨_, rfl, { h with f12 := (fun _ => rfl) }⟩
        · intro done v W A h hd hp hu hA hB hdf
          have hd12 : done 12 = true := hp 12 rfl
          refine ⟨_, h.f12 hd12, fun _ => ?_, fun hne => absurd rfl hne⟩
          have e0 : A.tmps[6]?.getD undef = .pointer (some ⟨w.heap.size + 1, 0, none⟩) := hB 6 rfl
          have y0_ := below_cell h.b p10
          have y1_ := below_cell h.b p11
          clear hA hB hp hu hdf
          go_simp
          exact ⟨_, rfl, { h with f13 := (fun _ => rfl) }⟩
        · intro done v W A h hd hp hu hA hB hdf
          have hd12 : done 12 = true := hp 12 rfl
          refine ⟨_, h.f12 hd12, fun _ => ?_, fun hne => absurd rfl hne⟩
          have e0 : A.tmps[3]?.getD undef = .slice (some ⟨bC, oC, none⟩) css.length k7 := hB 3 rfl
          clear hA hB hp hu hdf
          go_simp
          exact ⟨_, rfl, { h with f14 := (fun _ => rfl) }⟩
        · intro done v W A h hd hp hu hA hB hdf
          have hd12 : done 12 = true := hp 12 rfl
          refine ⟨_, h.f12 hd12, fun _ => ?_, fun hne => absurd rfl hne⟩
          have e0 : A.tmps[11]?.getD undef = .int .i64 (k : Int) := hB 11 rfl
          clear hA hB hp hu hdf
          go_simp
          exact ⟨_, rfl, { h with f15 := (fun _ => rfl) }⟩
        · intro done v W A h hd hp hu hA hB hdf
          have hd12 : done 12 = true := hp 12 rfl
          have hd14 : done 14 = true := hp 14 rfl
          have hd15 : done 15 = true := hp 15 rfl
          refine ⟨_, h.f12 hd12, fun _ => ?_, fun hne => absurd rfl hne⟩
          have e0 := (hA 14 44 rfl hd14).trans (h.f14 hd14)
          have e1 := (hA 15 45 rfl hd15).trans (h.f15 hd15)
          clear hA hB hp hu hdf
          go_simp
          exact ⟨_, rfl, { h with f16 := (fun _ => rfl) }⟩
        · intro done v W A h hd hp hu hA hB hdf
          have hd12 : done 12 = true := hp 12 rfl
          have hd16 : done 16 = true := hp 16 rfl
          refine ⟨_, h.f12 hd12, fun _ => ?_, fun hne => absurd rfl hne⟩
          have e0 := (hA 16 46 rfl hd16).trans (h.f16 hd16)
          have y0_ := below_cell h.b qC
          clear hA hB hp hu hdf
          go_simp
          exact ⟨_, rfl, { h with f17 := (fun _ => rfl) }⟩
        · intro done v W A h hd hp hu hA hB hdf
          have hd12 : done 12 = true := hp 12 rfl
          refine ⟨_, h.f12 hd12, fun _ => ?_, fun hne => absurd rfl hne⟩
          have e0 : A.tmps[4]?.getD undef = .slice (some ⟨bL, oL, none⟩) ls.length k8 := hB 4 rfl
          clear hA hB hp hu hdf
          go_simp
          exact ⟨_, rfl, { h with f18 := (fun _ => rfl) }⟩
        · intro done v W A h hd hp hu hA hB hdf
          have hd12 : done 12 = true := hp 12 rfl
          refine ⟨_, h.f12 hd12, fun _ => ?_, fun hne => absurd rfl hne⟩
          have e0 : A.tmps[11]?.getD undef = .int .i64 (k : Int) := hB 11 rfl
          clear hA hB hp hu hdf
          go_simp
          exact ⟨_, rfl, { h with f19 := (fun _ => rfl) }⟩
        · intro done v W A h hd hp hu hA hB hdf
          have hd12 : done 12 = true := hp 12 rfl
          have hd18 : done 18 = true := hp 18 rfl
          have hd19 : done 19 = true := hp 19 rfl
          refine ⟨_, h.f12 hd12, fun _ => ?_, fun hne => absurd rfl hne⟩
          have e0 := (hA 18 48 rfl hd18).trans (h.f18 hd18)
          have e1 := (hA 19 49 rfl hd19).trans (h.f19 hd19)
          clear hA hB hp hu hdf
          go_simp
          exact ⟨_, rfl, { h with f20 := (fun _ => rfl) }⟩
        · intro done v W A h hd hp hu hA hB hdf
          have hd12 : done 12 = true := hp 12 rfl
          have hd20 : done 20 = true := hp 20 rfl
          refine ⟨_, h.f12 hd12, fun _ => ?_, fun hne => absurd rfl hne⟩
          have e0 := (hA 20 50 rfl hd20).trans (h.f20 hd20)
          have y0_ := below_cell h.b qL
          clear hA hB hp hu hdf
          go_simp
          exact ⟨_, rfl, { h with f21 := (fun _ => rfl) }⟩
        · intro done v W A h hd hp hu hA hB hdf
          have hd12 : done 12 = true := hp 12 rfl
          have hd13 : done 13 = true := hp 13 rfl
          have hd17 : done 17 = true := hp 17 rfl
          have hd21 : done 21 = true := hp 21 rfl
          refine ⟨_, h.f12 hd12, fun _ => ?_, fun hne => absurd rfl hne⟩
          have e0 := (hA 13 43 rfl hd13).trans (h.f13 hd13)
          have e1 := (hA 17 47 rfl hd17).trans (h.f17 hd17)
          have e2 := (hA 21 51 rfl hd21).trans (h.f21 hd21)
          clear hA hB hp hu hdf
          go_simp
          with_reducible refine (HFI.out W h.b).mono ?_
          rintro e wq ⟨rfl, hb⟩
          exact ⟨_, rfl, { h with b := h.b.trans (hb.mono h.b.size), f22 := (fun _ => rfl) }⟩
        · intro done v W A h hd hp hu hA hB hdf
          have hd12 : done 12 = true := hp 12 rfl
          have hd22 : done 22 = true := hp 22 rfl
          refine ⟨_, h.f12 hd12, fun _ => ?_, fun hne => absurd rfl hne⟩
          have e0 := (hA 22 52 rfl hd22).trans (h.f22 hd22)
          clear hA hB hp hu hdf
          go_simp
          exact ⟨_, rfl, { h with f23 := (fun _ => rfl) }⟩
        · intro done v W A h hd hp hu hA hB hdf
          have hd12 : done 12 = true := hp 12 rfl
          have hd23 : done 23 = true := hp 23 rfl
          have e0 := (hA 12 42 rfl hd12).trans (h.f12 hd12)
          have e2 := (hA 23 53 rfl hd23).trans (h.f23 hd23)
          clear hA hB hp hu hdf
          go_simp
          exact ⟨_, rfl, { h with f24 := (fun _ => rfl) }⟩
        · intro done v W A h hd hp hu hA hB hdf
          have hd24 : done 24 = true := hp 24 rfl
          have e0 := (hA 24 54 rfl hd24).trans (h.f24 hd24)
          clear hA hB hp hu hdf
          go_simp
          exact ⟨_, rfl, { h with f25 := (fun _ => rfl) }⟩
        · intro done v W A h hd hp hu hA hB hdf
          have hd25 : done 25 = true := hp 25 rfl
          refine ⟨_, h.f25 hd25, fun _ => ?_, fun hne => absurd rfl hne⟩
          have e0 : A.tmps[4]?.getD undef = .slice (some ⟨bL, oL, none⟩) ls.length k8 := hB 4 rfl
          clear hA hB hp hu hdf
          go_simp
          exact ⟨_, rfl, { h with f26 := (fun _ => rfl) }⟩
        · intro done v W A h hd hp hu hA hB hdf
          have hd25 : done 25 = true := hp 25 rfl
          have hd26 : done 26 = true := hp 26 rfl
          refine ⟨_, h.f25 hd25, fun _ => ?_, fun hne => absurd rfl hne⟩
          have e0 := (hA 26 56 rfl hd26).trans (h.f26 hd26)
          clear hA hB hp hu hdf
          go_simp
          exact ⟨_, rfl, { h with f27 := (fun _ => rfl) }⟩
        · intro done v W A h hd hp hu hA hB hdf
          have hd25 : done 25 = true := hp 25 rfl
          have hd27 : done 27 = true := hp 27 rfl
          refine ⟨_, h.f25 hd25, fun _ => ?_, fun hne => absurd rfl hne⟩
          have e0 := (hA 27 57 rfl hd27).trans (h.f27 hd27)
          have y0_ := below_cell h.b qZ
          clear hA hB hp hu hdf
          go_simp
          exact ⟨_, rfl, { h with f28 := (fun _ => rfl) }⟩
        · intro done v W A h hd hp hu hA hB hdf
          have hd25 : done 25 = true := hp 25 rfl
          refine ⟨_, h.f25 hd25, fun _ => ?_, fun hne => absurd rfl hne⟩
          have e0 : A.tmps[4]?.getD undef = .slice (some ⟨bL, oL, none⟩) ls.length k8 := hB 4 rfl
          clear hA hB hp hu hdf
          go_simp
          exact ⟨_, rfl, { h with f29 := (fun _ => rfl) }⟩
        · intro done v W A h hd hp hu hA hB hdf
          have hd25 : done 25 = true := hp 25 rfl
          refine ⟨_, h.f25 hd25, fun _ => ?_, fun hne => absurd rfl hne⟩
          have e0 : A.tmps[11]?.getD undef = .int .i64 (k : Int) := hB 11 rfl
          clear hA hB hp hu hdf
          go_simp
          exact ⟨_, rfl, { h with f30 := (fun _ => rfl) }⟩
        · intro done v W A h hd hp hu hA hB hdf
          have hd25 : done 25 = true := hp 25 rfl
          have hd29 : done 29 = true := hp 29 rfl
          have hd30 : done 30 = true := hp 30 rfl
          refine ⟨_, h.f25 hd25, fun _ => ?_, fun hne => absurd rfl hne⟩
          have e0 := (hA 29 59 rfl hd29).trans (h.f29 hd29)
          have e1 := (hA 30 60 rfl hd30).trans (h.f30 hd30)
          clear hA hB hp hu hdf
          go_simp
          exact ⟨_, rfl, { h with f31 := (fun _ => rfl) }⟩
        · intro done v W A h hd hp hu hA hB hdf
          have hd25 : done 25 = true := hp 25 rfl
          have hd31 : done 31 = true := hp 31 rfl
          refine ⟨_, h.f25 hd25, fun _ => ?_, fun hne => absurd rfl hne⟩
          have e0 := (hA 31 61 rfl hd31).trans (h.f31 hd31)
          have y0_ := below_cell h.b qL
          clear hA hB hp hu hdf
          go_simp
          exact ⟨_, rfl, { h with f32 := (fun _ => rfl) }⟩
        · intro done v W A h hd hp hu hA hB hdf
          have hd25 : done 25 = true := hp 25 rfl
          have hd28 : done 28 = true := hp 28 rfl
          have hd32 : done 32 = true := hp 32 rfl
          refine ⟨_, h.f25 hd25, fun _ => ?_, fun hne => absurd rfl hne⟩
          have e0 := (hA 28 58 rfl hd28).trans (h.f28 hd28)
          have e1 := (hA 32 62 rfl hd32).trans (h.f32 hd32)
          clear hA hB hp hu hdf
          go_simp
          with_reducible refine (HAL.out W h.b).mono ?_
          rintro e wq ⟨rfl, hb⟩
          exact ⟨_, rfl, { h with b := h.b.trans (hb.mono h.b.size), f33 := (fun _ => rfl) }⟩
        · intro done v W A h hd hp hu hA hB hdf
          have hd25 : done 25 = true := hp 25 rfl
          have hd33 : done 33 = true := hp 33 rfl
          refine ⟨_, h.f25 hd25, fun _ => ?_, fun hne => absurd rfl hne⟩
          have e0 := (hA 33 63 rfl hd33).trans (h.f33 hd33)
          clear hA hB hp hu hdf
          go_simp
          exact ⟨_, rfl, { h with f34 := (fun _ => rfl) }⟩
        · intro done v W A h hd hp hu hA hB hdf
          have hd25 : done 25 = true := hp 25 rfl
          have hd34 : done 34 = true := hp 34 rfl
          have e0 := (hA 25 55 rfl hd25).trans (h.f25 hd25)
          have e2 := (hA 34 64 rfl hd34).trans (h.f34 hd34)
          clear hA hB hp hu hdf
          go_simp
          exact ⟨_, rfl, { h with f35 := (fun _ => rfl) }⟩
      simp only [putL, Act.put, Nat.reduceAdd, List.setIfInBounds_toArray, List.set_cons_zero, List.set_cons_succ]
      have hbr := h.b
      rw [h.f35 rfl]
      replace HB := Lib.hid (HB.out.trans (hbr.mono HB.out.size))
      replace HBW := Lib.hid (HBW.out.trans (hbr.mono HBW.out.size))
      clear h hbr
      go_wp2_with fail
      go_roundw
      case rel => exact ⟨k + 1, by have := HLT.out; omega, by go_num, HDN, HBW⟩
      case measure => simp [intOf]; omega
    · have HV : Hid (D = true) := Lib.hid (HD2.out.trans (dealtB_all fun j hj => HDN.out j (by omega)))
      have hdk : decide ((k : Int) < (rws.length : Int)) = false := decide_eq_false (by omega)
      have hdk2 : decide (k < rws.length) = false := decide_eq_false hlt
      go_wp2_with fail
      go_ret
      exact ⟨by rw [HV.out]; rfl, HB.out⟩

end Go.Proofs.YtjjoadmkpbmhpaaGreat
