/- The laws of dealing: DealingEnough, the walk. The laws of dealing: DealingHides, the walk. Dealings that are renewed, in plain Lean. The numbers and the people of the laws of renewing. -/
import Derived.Test.YtnbkbnbmmkfckaaMProG
import Derived.Test.YtnbkbnbmmkfckaaMReK
namespace Go.Proofs.Ytnbkbnbmmkfckaa
open Go.RowKit FP

theorem count_rises {x : Int} : ∀ {l : List Int}, l.Pairwise (· < ·) → l.count x = if x ∈ l then 1 else 0
  | [], _ => by simp
  | a :: t, h => by
    obtain ⟨h1, h2⟩ := List.pairwise_cons.1 h
    rw [List.count_cons, count_rises h2]
    by_cases e : a = x
    · subst e
      have hn : a ∉ t := fun hm => by have := h1 a hm; omega
      simp [hn]
    · have e2 : x ≠ a := fun h => e h.symm
      simp [e, e2]
theorem of_deal {rows : List (List Int)} {owners who s : List Int} (hp : peopleB (-1) who = true) : ofQ owners who (dealL rows s) = (ownL owners who rows.length).map (dealF rows s) := by
  have hs := (peopleB_all hp).2.2.1
  unfold ofQ dealL ownL
  rw [List.flatMap_map]
  induction rows.length with
  | zero => rfl
  | succ n ih =>
    rw [List.range_succ, List.flatMap_append, List.filter_append, List.map_append, ih]
    congr 1
    rw [List.flatMap_cons, List.flatMap_nil, List.append_nil]
    show List.replicate (who.count (nth owners ((n : Int)).toNat)) (dealF rows s n) = _
    rw [Int.toNat_natCast, count_rises hs]
    by_cases e : nth owners n ∈ who
    · simp [e]
    · simp [e]
theorem of_sub {rows : List (List Int)} {owners who s : List Int} (hp : peopleB (-1) who = true) : (ofQ owners who (dealL rows s)).Sublist (dealL rows s) := by
  rw [of_deal hp]
  unfold dealL ownL
  exact List.filter_sublist.map _
theorem of_rows {rows : List (List Int)} {owners who s : List Int} (hp : peopleB (-1) who = true) : rowsOf rows (ofQ owners who (dealL rows s)) = pownR rows owners who := by
  rw [of_deal hp]
  unfold rowsOf pownR
  rw [List.map_map]
  rfl
theorem of_ok {rows : List (List Int)} {owners who s : List Int} (h0 : progE rows owners = 0) (hp : peopleB (-1) who = true) : recOk rows (ofQ owners who (dealL rows s)) = accOk rows owners who := by
  unfold recOk accOk
  rw [of_rows hp, show questE rows owners who = 0 by unfold questE; rw [if_neg (by simp [h0]), if_pos hp]]
  simp
theorem questE_of {rows : List (List Int)} {owners who : List Int} (h0 : progE rows owners = 0) (hp : peopleB (-1) who = true) : questE rows owners who = 0 := by
  unfold questE; rw [if_neg (by simp [h0]), if_pos hp]

end Go.Proofs.Ytnbkbnbmmkfckaa

namespace Go.Proofs.Ytnbkbnbmmkfckaa
open Go.RowKit FP

theorem deal_in {rows : List (List Int)} {owners s : List Int} (hP : ProgOK rows owners) : ∀ p ∈ dealL rows s, 0 ≤ p.1 ∧ p.1 < (owners.length : Int) := fun p hq => by
  obtain ⟨k, hk, rfl⟩ := deal_mem hq
  have := hP.len
  exact ⟨by show (0 : Int) ≤ (k : Int); omega, by show (k : Int) < _; omega⟩
end Go.Proofs.Ytnbkbnbmmkfckaa

namespace Go.Proofs.Ytnbkbnbmmkfckaa
open Go.RowKit

theorem DealOK.full {rows : List (List Int)} {owners : List Int} {x : Int} {u : List Int} (h : DealOK rows owners x u) : (x :: u).length = colsQ rows := by rw [List.length_cons]; exact h.len
theorem DealOK.nums {rows : List (List Int)} {owners : List Int} {x : Int} {u : List Int} (h : DealOK rows owners x u) : ∀ z ∈ x :: u, 0 ≤ z ∧ z < 1073741789 := fun z hz => by
  rcases List.mem_cons.1 hz with rfl | hz
  · exact h.hx
  · exact any_odd_false (any_odd_of h.hr) z hz
theorem dealC_len (s : List Int) : (dealC s).length = s.length := by simp [dealC]
theorem com_deal_B {rows : List (List Int)} {owners : List Int} {x : Int} {u : List Int} (h : DealOK rows owners x u) (hp : progE rows owners = 0) : comB rows (dealC (x :: u)) = true ∧ dchkE rows owners (dealC (x :: u)) = 0 := by
  have h0 := dchkE_of (com_deal h hp)
  refine ⟨?_, h0⟩
  rw [comB_E hp] at h0
  cases e : comB rows (dealC (x :: u)) with
  | true => rfl
  | false => rw [e] at h0; cases h0
theorem key_deal {rows : List (List Int)} {owners : List Int} {x ep : Int} {u : List Int} (h : DealOK rows owners x u) (hp : progE rows owners = 0) (h0 : 0 ≤ ep) (h1 : ep ≤ 64) : keyB rows ep (dealC (x :: u)) = true := by
  unfold keyB; rw [(com_deal_B h hp).1, decide_eq_true h0, decide_eq_true h1]; rfl
theorem fitL_deal {rows : List (List Int)} {owners : List Int} {x : Int} {u : List Int} {l : List (Int × Int)} (h : DealOK rows owners x u) (hp : progE rows owners = 0) (hl : l.Sublist (dealL rows (x :: u))) : fitL rows (dealC (x :: u)) l = true := by
  unfold fitL
  rw [part_shares hl, Bool.true_and, List.all_eq_true]
  intro p hq
  obtain ⟨k, hk, rfl⟩ := deal_mem (hl.subset hq)
  have h1 := (fit_deal h hp hk (prodQ_num (rows.getD k []) (x :: u))).2
  rw [(fitB_is (com_deal_B h hp).2).2, decide_eq_true rfl, Bool.and_eq_true] at h1
  exact h1.2
theorem mulL_deal {s t : List Int} (h : t.length = s.length) : mulL (dealC s) (dealC t) = dealC (addQ s t) := by
  refine List.ext_getElem (by rw [mulL_len, dealC_len, dealC_len, addQ_len]) fun k h1 h2 => ?_
  have hk : k < s.length := by rw [mulL_len, dealC_len] at h1; exact h1
  have h3 := sum_com hk h
  rw [nth_at h2] at h3
  rw [h3]
  simp [mulL]
theorem addS_deal {rows : List (List Int)} {owners s t : List Int} (hP : ProgOK rows owners) (hs : s.length = colsQ rows) : addS (dealL rows s) (dealL rows t) = dealL rows (addQ s t) := by
  refine List.ext_getElem (by rw [addS_len, dealL_len, dealL_len]) fun k h1 h2 => ?_
  have hk : k < rows.length := by rw [dealL_len] at h2; exact h2
  rw [dealL_at rows _ h2, sum_prod hP hs k hk]
  have e : (addS (dealL rows s) (dealL rows t))[k] = addP (dealL rows s) (dealL rows t) k := by simp [addS]
  rw [e]
  unfold addP
  rw [getD_at (show k < (dealL rows s).length by rw [dealL_len]; exact hk), getD_at (show k < (dealL rows t).length by rw [dealL_len]; exact hk), dealL_at, dealL_at]
theorem rowsS_deal (rows : List (List Int)) (s t : List Int) : rowsS (dealL rows s) = rowsS (dealL rows t) := by
  unfold rowsS dealL
  rw [List.map_map, List.map_map]
  rfl
/-- The numbers of some dealings of nothing on top of others. -/
def sumZ (u : List Int) (zs : List (List Int)) : List Int := zs.foldl addQ u
theorem addQ_zero {s : Int} (hs : 0 ≤ s ∧ s < 1073741789) (u z : List Int) : addQ (s :: u) (0 :: z) = s :: addQ u z := by
  rw [addQ_cons, Int.add_zero, Int.emod_eq_of_lt hs.1 hs.2]
theorem sumZ_ok {rows : List (List Int)} {owners : List Int} {x : Int} : ∀ {zs : List (List Int)} {u : List Int}, DealOK rows owners x u → DealOK rows owners x (sumZ u zs)
  | [], _, h => h
  | z :: t, u, h => by
    have h2 : DealOK rows owners x (addQ u z) := ⟨h.prog, h.hx, addQ_num u z, by rw [addQ_len]; exact h.len⟩
    exact sumZ_ok (zs := t) h2
def zerC (zs : List (List Int)) : List (List Int) := zs.map fun z => dealC (0 :: z)
def zerL (rows : List (List Int)) (zs : List (List Int)) : List (List (Int × Int)) := zs.map fun z => dealL rows (0 :: z)
theorem renC_deal {rows : List (List Int)} {owners : List Int} {x : Int} : ∀ {zs : List (List Int)} {u : List Int}, DealOK rows owners x u → (∀ z ∈ zs, DealOK rows owners 0 z) → renC (dealC (x :: u)) (zerC zs) = dealC (x :: sumZ u zs)
  | [], _, _, _ => rfl
  | z :: t, u, h, hz => by
    have hz0 := hz z List.mem_cons_self
    have h2 : DealOK rows owners x (addQ u z) := ⟨h.prog, h.hx, addQ_num u z, by rw [addQ_len]; exact h.len⟩
    show renC (mulL (dealC (x :: u)) (dealC (0 :: z))) (zerC t) = _
    rw [mulL_deal (by rw [h.full, hz0.full]), addQ_zero h.hx]
    exact renC_deal (zs := t) h2 (fun y hy => hz y (List.mem_cons_of_mem _ hy))
theorem renL_deal {rows : List (List Int)} {owners : List Int} {x : Int} : ∀ {zs : List (List Int)} {u : List Int}, DealOK rows owners x u → (∀ z ∈ zs, DealOK rows owners 0 z) → renL (dealL rows (x :: u)) (zerL rows zs) = dealL rows (x :: sumZ u zs)
  | [], _, _, _ => rfl
  | z :: t, u, h, hz => by
    have h2 : DealOK rows owners x (addQ u z) := ⟨h.prog, h.hx, addQ_num u z, by rw [addQ_len]; exact h.len⟩
    show renL (addS (dealL rows (x :: u)) (dealL rows (0 :: z))) (zerL rows t) = _
    rw [addS_deal h.prog h.full, addQ_zero h.hx]
    exact renL_deal (zs := t) h2 (fun y hy => hz y (List.mem_cons_of_mem _ hy))
theorem renE_deal {rows : List (List Int)} {owners : List Int} {x ep : Int} {u : List Int} {zs : List (List Int)} (h : DealOK rows owners x u) (hp : progE rows owners = 0) (hz : ∀ z ∈ zs, DealOK rows owners 0 z) (h0 : 0 ≤ ep) (h1 : ep < 64) (hl : zs.length ≤ 64) :
    renE rows owners ep (dealC (x :: u)) (dealL rows (x :: u)) (zerC zs) (zerL rows zs) = 0 := by
  have e1 : (zerC zs).length = zs.length := by simp [zerC]
  have e2 : (zerL rows zs).length = zs.length := by simp [zerL]
  have hall : zerosB rows (dealL rows (x :: u)) (zerC zs) (zerL rows zs) (zerC zs).length = true := by
    refine List.all_eq_true.2 fun i hi => ?_
    have hi2 : i < zs.length := by rw [e1] at hi; exact List.mem_range.1 hi
    have hz1 := hz zs[i] (List.getElem_mem hi2)
    unfold zeroN
    rw [getD_at (show i < (zerC zs).length by omega), getD_at (show i < (zerL rows zs).length by omega)]
    have g1 : (zerC zs)[i]'(by omega) = dealC (0 :: zs[i]) := by simp [zerC]
    have g2 : (zerL rows zs)[i]'(by omega) = dealL rows (0 :: zs[i]) := by simp [zerL]
    rw [g1, g2]
    unfold zeroB
    rw [(com_deal_B hz1 hp).1, fitL_deal hz1 hp (List.Sublist.refl _), decide_eq_true (rowsS_deal rows _ _)]
    have : nth (dealC (0 :: zs[i])) 0 = 1 := by
      unfold dealC; rw [nth_mapv (by simp)]; exact powE_0 4
    rw [this]
    rfl
  rw [renE_key hp, if_neg (by rw [key_deal h hp h0 (by omega)]; decide), if_neg (by omega), fitL_deal h hp (List.Sublist.refl _), if_neg (by decide), if_neg (by omega), hall, if_pos rfl]
/-! One list alone. -/
/-! Numbers that are moved, and moved back. -/
end Go.Proofs.Ytnbkbnbmmkfckaa

namespace Go.Proofs.Ytnbkbnbmmkfckaa
open Go.RowKit FP


set_option maxRecDepth 100000 in
set_option maxHeartbeats 4000000 in
theorem numbers38_any (rv ov lv : Value) (rows : List (List Int)) (owners l : List Int) (w : World) (hR : Rows2 w rv rows) (hO : Ints w ov owners) (hL : Words w lv l) (hp : ProgOK rows owners) :
    Calls Try.prog 32 #[.agg #[rv, ov], lv] w fun e w' => ∃ v, e = .returned v ∧ Ints w' v (randQ rows l) ∧ Below w.heap.size w w' := by
  obtain ⟨W1, hW1, hb1, hr1, hz⟩ := box_prog w rv ov 25
  have HCO := Lib.hid (rcolumns_any rv ov rows owners W1 (hR.below hb1) (hO.below hb1))
  have HL1 := Lib.hid (hL.below hb1)
  obtain ⟨a, cap, rfl, -, hlen, -⟩ := id hR
  obtain ⟨a2, cap2, rfl, -, hlen2, -⟩ := id hO
  obtain ⟨a3, cap3, rfl, -, hlen3, -⟩ := id hL
  have c0 : W1.cell? ⟨w.heap.size, 0, none⟩ = some (.slice a rows.length cap) := row_cell hr1 rfl
  have c1 : W1.cell? ⟨w.heap.size, 1, none⟩ = some (.slice a2 owners.length cap2) := row_cell hr1 rfl
  have HW1 := Lib.hid hW1
  have HB1 := Lib.hid hb1
  have hci := hp.cols
  have hcu := hp.cols_le
  have HRQ : Hid (randQ rows l = (List.range (colsQ rows - 1)).map (randN l)) := Lib.hid rfl
  clear hR hO hL hr1 hW1 hb1 hp
  generalize colsQ rows = cq at *
  have hci2 : (1 : Int) ≤ (cq : Int) := by omega
  have hcv : (cq : Int) ≤ 64 := by omega
  go_enter Try.func32, Try.ntmps32
  go_wp2_with fail
  rw [← HW1.out]
  refine HCO.out.mono ?_
  rintro r w2 ⟨rfl, hb2⟩
  have HL2 := Lib.hid (HL1.out.below hb2)
  have HB2 := Lib.hid (HB1.out.trans (hb2.mono HB1.out.size))
  have h00 : w2.ownsRow w2.heap.size 3 1 (.slice none 0 0) 0 (((List.range 0).map (randN l)).map (Value.int .i64)) := World.ownsRow_nil _ _ _ _
  clear hb2 HCO c0 c1 HL1
  go_wp2_with fail
  go_loopw [4, 10] (fun C i W => ∃ k : Nat, k ≤ cq - 1 ∧ i = .int .i64 k ∧ W.ownsRow w2.heap.size 3 1 C k (((List.range k).map (randN l)).map (Value.int .i64)) ∧ Below w2.heap.size w2 W) (fun _ i _ => (cq - 1) - (intOf i).toNat)
  case atStart => exact ⟨0, Nat.zero_le _, rfl, h00, Below.refl _ _⟩
  case round =>
    clear h00
    obtain ⟨k, hkl, rfl, hown, hb⟩ := hrel
    by_cases hlt : k < cq - 1
    · have hd : decide ((k : Int) < (cq : Int) - 1) = true := decide_eq_true (by omega)
      have hk64 : k ≤ 64 := by omega
      by_cases hin : k < l.length
      · obtain ⟨aa, cc, e1, -, -, hr, hk⟩ := HL2.out
        obtain ⟨b, off, ha, q1⟩ := hk k hin
        simp only [Value.slice.injEq] at e1
        obtain ⟨rfl, -, rfl⟩ := e1
        subst ha
        have y1 := below_cell hb q1
        have hz := hr _ (List.getElem_mem hin)
        have HT : Hid (((List.range (k + 1)).map (randN l)).map (Value.int .i64) = ((List.range k).map (randN l)).map (Value.int .i64) ++ [.int .i64 (l[k] % 1073741789)]) := Lib.hid (by
          rw [range_snoc, List.map_append]; unfold randN; rw [if_pos hin, getD_at hin]; rfl)
        have hi1 : (k : Int) < (l.length : Int) := by omega
        have hz0 := hz.1
        have hz1 := hz.2
        have HBW := Lib.hid hb
        have HOW := Lib.hid hown
        clear hk hr q1 hb hown hz
        generalize l[k] = z at *
        have hm : z.tmod 1073741789 = z % 1073741789 := by rw [Int.tmod_eq_emod_of_nonneg hz0]
        have hw : IntKind.i64.wrap z = z := IntWalk.i64_in _ (by omega)
        have hmb := mod_r64 z
        have HN := Lib.hid (below_new wr #[.int .i64 (z % 1073741789)] 3)
        have HOX := Lib.hid (own_keep HOW.out HN.out)
        have hq0 : (wr.alloc (.cells #[.int .i64 (z % 1073741789)] 3)).cell? ⟨wr.heap.size, 0, none⟩ = some (.int .i64 (z % 1073741789)) := row_cell (World.alloc_heap_new _ _) rfl
        have HQ0 := Lib.hid hq0
        have HB9 := Lib.hid (HBW.out.trans (HN.out.mono HBW.out.size))
        have HBS := Lib.hid HB9.out.size
        clear hq0
        go_wp2_with (refine app_int rfl _ _ rfl w2.heap.size k _ _ rfl HOX.out wr.heap.size 1 (z % 1073741789) rfl HQ0.out (by omega) HBS.out ?_; intro v9 w9 h9 o9; have H9 := Lib.hid h9; have O9 := Lib.hid o9; clear h9 o9)
        go_roundw
        case rel => exact ⟨k + 1, by omega, by go_num, by rw [HT.out]; exact H9.out, HB9.out.trans (own_below HOX.out O9.out HBS.out)⟩
        case measure => simp [intOf]; omega
      · have HT : Hid (((List.range (k + 1)).map (randN l)).map (Value.int .i64) = ((List.range k).map (randN l)).map (Value.int .i64) ++ [.int .i64 0]) := Lib.hid (by
          rw [range_snoc, List.map_append]; unfold randN; rw [if_neg hin]; rfl)
        have hi1 : decide ((k : Int) < (l.length : Int)) = false := decide_eq_false (by omega)
        have hi2 : decide (k < l.length) = false := decide_eq_false (by omega)
        have HBW := Lib.hid hb
        have HOW := Lib.hid hown
        clear hb hown
        have HN := Lib.hid (below_new wr #[.int .i64 0] 3)
        have HOX := Lib.hid (own_keep HOW.out HN.out)
        have hq0 : (wr.alloc (.cells #[.int .i64 0] 3)).cell? ⟨wr.heap.size, 0, none⟩ = some (.int .i64 0) := row_cell (World.alloc_heap_new _ _) rfl
        have HQ0 := Lib.hid hq0
        have HB9 := Lib.hid (HBW.out.trans (HN.out.mono HBW.out.size))
        have HBS := Lib.hid HB9.out.size
        clear hq0
        go_wp2_with (refine app_int rfl _ _ rfl w2.heap.size k _ _ rfl HOX.out wr.heap.size 1 0 rfl HQ0.out (by omega) HBS.out ?_; intro v9 w9 h9 o9; have H9 := Lib.hid h9; have O9 := Lib.hid o9; clear h9 o9)
        go_roundw
        case rel => exact ⟨k + 1, by omega, by go_num, by rw [HT.out]; exact H9.out, HB9.out.trans (own_below HOX.out O9.out HBS.out)⟩
        case measure => simp [intOf]; omega
    · obtain rfl : k = cq - 1 := by omega
      have hd : decide (((cq - 1 : Nat) : Int) < (cq : Int) - 1) = false := decide_eq_false (by omega)
      have HIF := Lib.hid (Ints.own (zs := randQ rows l) (by rw [HRQ.out]; exact hown) (by
        rw [HRQ.out]
        intro z hz
        obtain ⟨i, -, rfl⟩ := List.mem_map.1 hz
        exact num_r64 (randN_num l i)) (by rw [HRQ.out]; simp; omega))
      have HF := Lib.hid (HB2.out.trans (hb.mono HB2.out.size))
      clear hown hb
      go_wp2_with fail
      go_ret
      exact ⟨_, rfl, HIF.out, HF.out⟩



set_option maxRecDepth 100000 in
set_option maxHeartbeats 2000000 in
theorem people38_any (b : Int) (w : World) (h0 : 0 ≤ b) (h1 : b < 18446744073709551616) :
    Calls Try.prog 39 #[.int .u64 b] w fun e w' => ∃ v, e = .returned v ∧ Ints w' v (peopleQ b) ∧ Below w.heap.size w w' := by
  have h00 : w.ownsRow w.heap.size 3 1 (.slice none 0 0) 0 ((bitsL b 0).map fun i => Value.int .i64 (i : Nat)) := World.ownsRow_nil _ _ _ _
  go_enter Try.func39, Try.ntmps39
  go_wp2_with fail
  go_loopw [2, 3, 4] (fun L _ i W => ∃ k : Nat, k ≤ 64 ∧ i = .int .i64 k ∧ W.ownsRow w.heap.size 3 1 L (bitsL b k).length ((bitsL b k).map fun i => Value.int .i64 (i : Nat)) ∧ Below w.heap.size w W) (fun _ _ i _ => 64 - (intOf i).toNat)
  case atStart => exact ⟨0, Nat.zero_le _, rfl, h00, Below.refl _ _⟩
  case round =>
    clear h00
    obtain ⟨k, hkl, rfl, hown, hb⟩ := hrel
    by_cases hlt : k < 64
    · have i1 : (k : Int) < 64 := by omega
      have hl := bitsL_len b k
      have HOW := Lib.hid hown
      have HBW := Lib.hid hb
      clear hown hb
      obtain ⟨s0, s1⟩ := shr_num h0 h1 k
      have HA := and_one _ s0 s1
      have HB : Hid (bitQ b k = decide (b / 2 ^ k % 2 = 1)) := Lib.hid rfl
      cases e : bitQ b k with
      | true =>
        have hx : b / 2 ^ k % 2 = 1 := by rw [HB.out] at e; exact of_decide_eq_true e
        rw [hx] at HA
        have HT : Hid ((bitsL b (k + 1)).map (fun i => Value.int .i64 (i : Nat)) = (bitsL b k).map (fun i => Value.int .i64 (i : Nat)) ++ [.int .i64 k]) := Lib.hid (by rw [bitsL_yes e, List.map_append]; rfl)
        have HL : Hid ((bitsL b (k + 1)).length = (bitsL b k).length + 1) := Lib.hid (by rw [bitsL_yes e]; simp)
        have HN := Lib.hid (below_new wr #[.int .i64 k] 3)
        have HOX := Lib.hid (own_keep HOW.out HN.out)
        have HQ0 := Lib.hid (show (wr.alloc (.cells #[.int .i64 k] 3)).cell? ⟨wr.heap.size, 0, none⟩ = some (.int .i64 k) from row_cell (World.alloc_heap_new _ _) rfl)
        have HB9 := Lib.hid (HBW.out.trans (HN.out.mono HBW.out.size))
        have HBS := Lib.hid HB9.out.size
        clear e hx
        go_wp2_with (refine app_int rfl _ _ rfl w.heap.size (bitsL b k).length _ _ rfl HOX.out wr.heap.size 1 (k : Int) rfl HQ0.out (by omega) HBS.out ?_; intro v9 w9 h9 o9; have H9 := Lib.hid h9; have O9 := Lib.hid o9; clear h9 o9)
        go_roundw
        case rel => exact ⟨k + 1, by omega, by go_num, by rw [HT.out, HL.out]; exact H9.out, HB9.out.trans (own_below HOX.out O9.out HBS.out)⟩
        case measure => simp [intOf]; omega
      | false =>
        have hx : b / 2 ^ k % 2 = 0 := by rw [HB.out] at e; have := of_decide_eq_false e; omega
        rw [hx] at HA
        have HT := Lib.hid (bitsL_no e)
        clear e hx
        go_wp2_with fail
        go_roundw
        case rel => exact ⟨k + 1, by omega, by go_num, by rw [HT.out]; exact HOW.out, HBW.out⟩
        case measure => simp [intOf]; omega
    · obtain rfl : k = 64 := by omega
      have HIF := Lib.hid (Ints.own (zs := peopleQ b) (by unfold peopleQ; rw [List.map_map]; exact hown) (by
        intro z hz
        obtain ⟨i, hi, rfl⟩ := List.mem_map.1 hz
        have : i < 64 := by unfold bitsL at hi; simpa using (List.mem_filter.1 hi).1
        exact R64.mk (by omega) (by omega)) (by unfold peopleQ; rw [List.length_map]; have := bitsL_len b 64; omega))
      have HF := Lib.hid hb
      clear hown hb
      go_wp2_with fail
      go_ret
      exact ⟨_, rfl, HIF.out, HF.out⟩

end Go.Proofs.Ytnbkbnbmmkfckaa
