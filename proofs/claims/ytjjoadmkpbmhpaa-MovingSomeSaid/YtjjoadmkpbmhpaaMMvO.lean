/- The laws of moving: numbers, right, begun. -/
import Derived.Test.YtjjoadmkpbmhpaaMMvN
import Derived.Test.YtjjoadmkpbmhpaaMLaI
import Derived.Test.YtjjoadmkpbmhpaaMProF
namespace Go.Proofs.Ytjjoadmkpbmhpaa
open Go.RowKit FP

theorem results_cell_tmp3 {fn : Func} {p u v x : Tmp} {ty : TypeId} (h : fn.results = #[.cell p ty, .tmp u, .tmp v, .tmp x]) (tmps : Array Value) (P : Program) (w : World) :
    (results fn tmps).run P w = ((asAddr (tmps.getD p undef)).run P w).andThen fun a w₁ => ((loadVar ty a).run P w₁).andThen fun y w₂ => .ok (.tuple #[y, tmps.getD u undef, tmps.getD v undef, tmps.getD x undef]) w₂ := by
  simp only [results, h]
  simp [Sem.run_bind, Result.andThen]

/-- The numbers that are made from a list, from a place on. -/
def numN (l : List Int) (f i : Nat) : Int := if f + i < l.length then l.getD (f + i) 0 % 1073741789 else (1 + (f : Int) + i) % 1073741789
def numL (l : List Int) (f m : Nat) : List Int := (List.range m).map (numN l f)
theorem numL_len (l : List Int) (f m : Nat) : (numL l f m).length = m := by unfold numL; simp
theorem numL_num (l : List Int) (f m : Nat) : ∀ z ∈ numL l f m, 0 ≤ z ∧ z < 1073741789 := fun z hz => by
  unfold numL at hz
  obtain ⟨i, -, rfl⟩ := List.mem_map.1 hz
  unfold numN
  split <;> exact mod_num _

set_option maxRecDepth 100000 in
set_option maxHeartbeats 4000000 in
theorem numbers39_any (lv : Value) (l : List Int) (f m : Nat) (w : World) (hL : Words w lv l) (hf : f ≤ 100000) (hm : m ≤ 100) :
    Calls Try.prog 9 #[lv, .int .i64 (f : Int), .int .i64 (m : Int)] w fun e w' => ∃ v, e = .returned v ∧ Ints w' v (numL l f m) ∧ Below w.heap.size w w' := by
  have HL := Lib.hid hL
  obtain ⟨a3, cap3, rfl, -, hlen3, -⟩ := id hL
  clear hL
  have hf1 : (0 : Int) ≤ (f : Int) := by omega
  have hf2 : (f : Int) ≤ 100000 := by omega
  go_enter Try.func9, Try.ntmps9
  go_wp2_with fail
  go_loopw [6, 10] (fun C i W => ∃ (k : Nat) (C0 : Value), k ≤ m ∧ C0 = C ∧ i = .int .i64 k ∧ Hid (W.ownsRow w.heap.size 3 1 C0 k ((numL l f k).map (Value.int .i64))) ∧ Hid (Below w.heap.size w W)) (fun _ i _ => m - (intOf i).toNat)
  case atStart => exact ⟨0, _, Nat.zero_le _, rfl, rfl, Lib.hid (World.ownsRow_nil _ _ _ _), Lib.hid (Below.refl _ _)⟩
  case round =>
    obtain ⟨k, C0, hkl, rfl, rfl, HOW, HBW⟩ := hrel
    by_cases hlt : k < m
    · have hw1 : IntKind.i64.wrap (1 + (f : Int)) = 1 + (f : Int) := IntWalk.i64_in _ (by omega)
      have hw2 : IntKind.i64.wrap (1 + (f : Int) + (k : Int)) = 1 + (f : Int) + (k : Int) := IntWalk.i64_in _ (by omega)
      have hw3 : IntKind.i64.wrap ((f : Int) + (k : Int)) = (f : Int) + (k : Int) := IntWalk.i64_in _ (by omega)
      by_cases hin : f + k < l.length
      · obtain ⟨aa, cc, e1, -, -, hr, hk⟩ := HL.out
        obtain ⟨b, off, ha, q1⟩ := hk (f + k) hin
        simp only [Value.slice.injEq] at e1
        obtain ⟨rfl, -, rfl⟩ := e1
        subst ha
        have y1 := below_cell HBW.out q1
        have hz := hr _ (List.getElem_mem hin)
        have HT : Hid ((numL l f (k + 1)).map (Value.int .i64) = (numL l f k).map (Value.int .i64) ++ [.int .i64 (l[f + k] % 1073741789)]) := Lib.hid (by
          unfold numL; rw [range_snoc, List.map_append]; unfold numN; rw [if_pos hin, getD_at hin]; rfl)
        have hi1 : ((f : Int) + (k : Int)) < (l.length : Int) := by omega
        have hi0 : (0 : Int) ≤ (f : Int) + (k : Int) := by omega
        have hd : decide ((f : Int) + (k : Int) < (l.length : Int)) = true := decide_eq_true hi1
        have ht : ((f : Int) + (k : Int)).toNat = f + k := by omega
        have hz0 := hz.1
        have hz1 := hz.2
        clear hk hr q1 hz
        generalize l[f + k] = z at *
        have hm2 : z.tmod 1073741789 = z % 1073741789 := by rw [Int.tmod_eq_emod_of_nonneg hz0]
        have hw : IntKind.i64.wrap z = z := IntWalk.i64_in _ (by omega)
        have hmb := mod_r64 z
        have HN := Lib.hid (below_new wr #[.int .i64 (z % 1073741789)] 3)
        have HOX := Lib.hid (own_keep HOW.out HN.out)
        have hq0 : (wr.alloc (.cells #[.int .i64 (z % 1073741789)] 3)).cell? ⟨wr.heap.size, 0, none⟩ = some (.int .i64 (z % 1073741789)) := row_cell (World.alloc_heap_new _ _) rfl
        have HQ0 := Lib.hid hq0
        have HB9 := Lib.hid (HBW.out.trans (HN.out.mono HBW.out.size))
        have HBS := Lib.hid HB9.out.size
        clear hq0
        go_wp2_with (refine app_int rfl _ _ rfl w.heap.size k _ _ rfl HOX.out wr.heap.size 1 (z % 1073741789) rfl HQ0.out (by omega) HBS.out ?_; intro v9 w9 h9 o9; have H9 := Lib.hid h9; have O9 := Lib.hid o9; clear h9 o9)
        go_roundw
        case rel => exact ⟨k + 1, _, by omega, rfl, by go_num, by rw [HT.out]; exact H9, Lib.hid (HB9.out.trans (own_below HOX.out O9.out HBS.out))⟩
        case measure => simp [intOf]; omega
      · have HT : Hid ((numL l f (k + 1)).map (Value.int .i64) = (numL l f k).map (Value.int .i64) ++ [.int .i64 ((1 + (f : Int) + k) % 1073741789)]) := Lib.hid (by
          unfold numL; rw [range_snoc, List.map_append]; unfold numN; rw [if_neg hin]; rfl)
        have hd : decide ((f : Int) + (k : Int) < (l.length : Int)) = false := decide_eq_false (by omega)
        have hm2 : (1 + (f : Int) + (k : Int)).tmod 1073741789 = (1 + (f : Int) + (k : Int)) % 1073741789 := by rw [Int.tmod_eq_emod_of_nonneg (by omega)]
        have hmb := mod_r64 (1 + (f : Int) + (k : Int))
        have HN := Lib.hid (below_new wr #[.int .i64 ((1 + (f : Int) + (k : Int)) % 1073741789)] 3)
        have HOX := Lib.hid (own_keep HOW.out HN.out)
        have hq0 : (wr.alloc (.cells #[.int .i64 ((1 + (f : Int) + (k : Int)) % 1073741789)] 3)).cell? ⟨wr.heap.size, 0, none⟩ = some (.int .i64 ((1 + (f : Int) + (k : Int)) % 1073741789)) := row_cell (World.alloc_heap_new _ _) rfl
        have HQ0 := Lib.hid hq0
        have HB9 := Lib.hid (HBW.out.trans (HN.out.mono HBW.out.size))
        have HBS := Lib.hid HB9.out.size
        clear hq0
        go_wp2_with (refine app_int rfl _ _ rfl w.heap.size k _ _ rfl HOX.out wr.heap.size 1 ((1 + (f : Int) + (k : Int)) % 1073741789) rfl HQ0.out (by omega) HBS.out ?_; intro v9 w9 h9 o9; have H9 := Lib.hid h9; have O9 := Lib.hid o9; clear h9 o9)
        go_roundw
        case rel => exact ⟨k + 1, _, by omega, rfl, by go_num, by rw [HT.out]; exact H9, Lib.hid (HB9.out.trans (own_below HOX.out O9.out HBS.out))⟩
        case measure => simp [intOf]; omega
    · obtain rfl : k = m := by omega
      have HIF := Lib.hid (Ints.own (zs := numL l f k) HOW.out (fun z hz => num_r64 (numL_num _ _ _ z hz)) (by rw [numL_len]; omega))
      obtain ⟨ai, ci, rfl, -⟩ := id HIF.out
      go_wp2_with fail
      go_ret
      exact ⟨_, rfl, HIF.out, HBW.out⟩

def rightB (rows : List (List Int)) (owners : List Int) (rows2 : List (List Int)) (owners2 : List Int) (x : Int) (rnd who : List Int) : Bool :=
  smallQ rows owners && (smallQ rows2 owners2 && (!oddQ x && (decide ((rnd.length : Int) = (colsQ rows : Int) - 1) && (!rnd.any oddQ && (peopleB (-1) who && decide (who.length ≤ 12))))))
theorem rightB_ok {rows : List (List Int)} {owners : List Int} {rows2 : List (List Int)} {owners2 : List Int} {x : Int} {rnd who : List Int} (h : rightB rows owners rows2 owners2 x rnd who = true) : smallQ rows owners = true ∧ smallQ rows2 owners2 = true ∧ peopleB (-1) who = true ∧ who.length ≤ 12 ∧ DealOK rows owners x rnd ∧ progE rows owners = 0 ∧ progE rows2 owners2 = 0 := by
  unfold rightB at h
  simp only [Bool.and_eq_true, decide_eq_true_eq, Bool.not_eq_true'] at h
  obtain ⟨h1, h2, h3, h4, h5, h6, h7⟩ := h
  exact ⟨h1, h2, h6, h7, ⟨progE_ok (small_ok h1).2.1, oddQ_num h3, any_odd_false h5, by omega⟩, (small_ok h1).2.1, (small_ok h2).2.1⟩

set_option maxRecDepth 100000 in
set_option maxHeartbeats 4000000 in
theorem right39_any (rv ov rv2 ov2 mv wv : Value) (rows : List (List Int)) (owners : List Int) (rows2 : List (List Int)) (owners2 : List Int) (x : Int) (rnd who : List Int) (w : World) (hR : Rows2 w rv rows) (hO : Ints w ov owners) (hR2 : Rows2 w rv2 rows2) (hO2 : Ints w ov2 owners2) (hM : Ints w mv rnd) (hW : Ints w wv who) :
    Calls Try.prog 6 #[.agg #[rv, ov], .agg #[rv2, ov2], .int .i64 x, mv, wv] w fun e w' => e = .returned (.bool (rightB rows owners rows2 owners2 x rnd who)) ∧ Below w.heap.size w w' := by
  obtain ⟨W1, hW1, hb1, hr1, hz⟩ := box_prog w rv ov 25
  obtain ⟨W2, hW2, hb2, hr2, hz2⟩ := box_prog W1 rv2 ov2 25
  have hsz : W1.heap.size = w.heap.size + 1 := by rw [hW1]; simp
  have hb := hb1.trans (hb2.mono hb1.size)
  have HR := Lib.hid (hR.below hb)
  have HO := Lib.hid (hO.below hb)
  have HR2 := Lib.hid (hR2.below hb)
  have HO2 := Lib.hid (hO2.below hb)
  have HM := Lib.hid (hM.below hb)
  have HWH := Lib.hid (hW.below hb)
  obtain ⟨a, cap, rfl, -, hlen, -⟩ := id hR
  obtain ⟨a2, cap2, rfl, -, hlen2, -⟩ := id hO
  obtain ⟨a3, cap3, rfl, -, hlen3, -⟩ := id hR2
  obtain ⟨a4, cap4, rfl, -, hlen4, -⟩ := id hO2
  obtain ⟨a5, cap5, rfl, -, hlen5, -⟩ := id hM
  obtain ⟨a6, cap6, rfl, -, hlen6, -⟩ := id hW
  have hq1 := (hb2.block _ (row_lt hr1)).trans hr1
  rw [hsz] at hr2
  have c0 := row_cell hq1 (k := 0) rfl
  have c1 := row_cell hq1 (k := 1) rfl
  have c2 := row_cell hr2 (k := 0) rfl
  have c3 := row_cell hr2 (k := 1) rfl
  rw [hW1] at hW2
  have HW2 := Lib.hid hW2
  have HB := Lib.hid hb
  clear hR hO hR2 hO2 hM hW hW1 hW2 hb1 hb2 hr1 hr2 hq1 hz hz2 hb hsz
  go_enter Try.func6, Try.ntmps6
  go_wp2_with (rw [← HW2.out])
  with_reducible refine (rsmall_any _ _ rows owners _ HR.out HO.out).mono ?_
  rintro e wq ⟨rfl, hbq⟩
  replace c0 := below_cell hbq c0
  replace c1 := below_cell hbq c1
  replace c2 := below_cell hbq c2
  replace c3 := below_cell hbq c3
  replace HR := Lib.hid (HR.out.below hbq)
  replace HO := Lib.hid (HO.out.below hbq)
  replace HR2 := Lib.hid (HR2.out.below hbq)
  replace HO2 := Lib.hid (HO2.out.below hbq)
  replace HM := Lib.hid (HM.out.below hbq)
  replace HWH := Lib.hid (HWH.out.below hbq)
  replace HB := Lib.hid (HB.out.trans (hbq.mono HB.out.size))
  clear hbq
  cases h1 : smallQ rows owners with
  | false =>
    have HV : Hid (rightB rows owners rows2 owners2 x rnd who = false) := Lib.hid (by unfold rightB; simp [h1])
    clear h1
    go_wp2_with fail
    go_ret
    exact ⟨by rw [HV.out]; rfl, HB.out⟩
  | true =>
  go_wp2_with fail
  with_reducible refine (rsmall_any _ _ rows2 owners2 _ HR2.out HO2.out).mono ?_
  rintro e wq ⟨rfl, hbq⟩
  replace c0 := below_cell hbq c0
  replace c1 := below_cell hbq c1
  replace c2 := below_cell hbq c2
  replace c3 := below_cell hbq c3
  replace HR := Lib.hid (HR.out.below hbq)
  replace HO := Lib.hid (HO.out.below hbq)
  replace HR2 := Lib.hid (HR2.out.below hbq)
  replace HO2 := Lib.hid (HO2.out.below hbq)
  replace HM := Lib.hid (HM.out.below hbq)
  replace HWH := Lib.hid (HWH.out.below hbq)
  replace HB := Lib.hid (HB.out.trans (hbq.mono HB.out.size))
  clear hbq
  cases h2 : smallQ rows2 owners2 with
  | false =>
    have HV : Hid (rightB rows owners rows2 owners2 x rnd who = false) := Lib.hid (by unfold rightB; simp [h1, h2])
    clear h1 h2
    go_wp2_with fail
    go_ret
    exact ⟨by rw [HV.out]; rfl, HB.out⟩
  | true =>
  go_wp2_with fail
  with_reducible refine (rnumber34_any x _).mono ?_
  rintro e wq ⟨rfl, rfl⟩
  cases h3 : !oddQ x with
  | false =>
    have HV : Hid (rightB rows owners rows2 owners2 x rnd who = false) := Lib.hid (by unfold rightB; simp [h1, h2, h3])
    clear h1 h2 h3
    go_wp2_with fail
    go_ret
    exact ⟨by rw [HV.out]; rfl, HB.out⟩
  | true =>
  have hc1 := (progE_ok (small_ok h1).2.1).cols
  have hc2 := (progE_ok (small_ok h1).2.1).cols_le
  go_wp2_with fail
  with_reducible refine (rcolumns_any _ _ rows owners _ HR.out HO.out).mono ?_
  rintro e wq ⟨rfl, hbq⟩
  replace c0 := below_cell hbq c0
  replace c1 := below_cell hbq c1
  replace c2 := below_cell hbq c2
  replace c3 := below_cell hbq c3
  replace HR := Lib.hid (HR.out.below hbq)
  replace HO := Lib.hid (HO.out.below hbq)
  replace HR2 := Lib.hid (HR2.out.below hbq)
  replace HO2 := Lib.hid (HO2.out.below hbq)
  replace HM := Lib.hid (HM.out.below hbq)
  replace HWH := Lib.hid (HWH.out.below hbq)
  replace HB := Lib.hid (HB.out.trans (hbq.mono HB.out.size))
  clear hbq
  have hw9 : IntKind.i64.wrap ((colsQ rows : Int) - 1) = (colsQ rows : Int) - 1 := IntWalk.i64_in _ (by omega)
  cases h4 : decide ((rnd.length : Int) = (colsQ rows : Int) - 1) with
  | false =>
    have HV : Hid (rightB rows owners rows2 owners2 x rnd who = false) := Lib.hid (by unfold rightB; rw [h4]; simp)
    have h9 : ((rnd.length : Int) == (colsQ rows : Int) - 1) = false := h4
    clear h1 h2 h3 h4
    go_wp2_with fail
    go_ret
    exact ⟨by rw [HV.out]; rfl, HB.out⟩
  | true =>
  have h9 : ((rnd.length : Int) == (colsQ rows : Int) - 1) = true := h4
  have H4 := Lib.hid h4
  clear h4
  go_wp2_with fail
  clear h9
  with_reducible refine (rNumbers34_any _ rnd _ HM.out).mono ?_
  rintro e wq ⟨rfl, rfl⟩
  cases h5 : !rnd.any oddQ with
  | false =>
    have HV : Hid (rightB rows owners rows2 owners2 x rnd who = false) := Lib.hid (by unfold rightB; rw [h5]; simp)
    clear h1 h2 h3 h5
    go_wp2_with fail
    go_ret
    exact ⟨by rw [HV.out]; rfl, HB.out⟩
  | true =>
  go_wp2_with fail
  with_reducible refine (rPeople_any _ who _ HWH.out).mono ?_
  rintro e wq ⟨rfl, hbq⟩
  replace HB := Lib.hid (HB.out.trans (hbq.mono HB.out.size))
  clear hbq
  cases h6 : peopleB (-1) who with
  | false =>
    have HV : Hid (rightB rows owners rows2 owners2 x rnd who = false) := Lib.hid (by unfold rightB; rw [h6]; simp)
    clear h1 h2 h3 h5 h6
    go_wp2_with fail
    go_ret
    exact ⟨by rw [HV.out]; rfl, HB.out⟩
  | true =>
  have HV : Hid (rightB rows owners rows2 owners2 x rnd who = decide (who.length ≤ 12)) := Lib.hid (by unfold rightB; rw [h1, h2, h3, H4.out, h5, h6]; simp)
  have h10 : decide ((who.length : Int) ≤ 12) = decide (who.length ≤ 12) := by rw [decide_eq_decide]; omega
  clear h1 h2 h3 h5 h6
  go_wp2_with fail
  go_ret
  exact ⟨by rw [HV.out]; first | rfl | (rw [← h10]; rfl), HB.out⟩

set_option maxRecDepth 100000 in
set_option maxHeartbeats 4000000 in
/-- The key of a secret that is dealt. -/
theorem begun39_any (rv ov mv wv : Value) (rows : List (List Int)) (owners : List Int) (x : Int) (rnd who : List Int) (w : World) (hR : Rows2 w rv rows) (hO : Ints w ov owners) (hM : Ints w mv rnd) (hW : Ints w wv who) (h : DealOK rows owners x rnd) (hp : progE rows owners = 0) (hq : questE rows owners who = 0) :
    Calls Try.prog 7 #[.agg #[rv, ov], .int .i64 x, mv, wv] w fun e w' => ∃ al cl ac cc, e = .returned (.tuple #[.agg #[.int .i64 0, rv, ov, .slice ac (colsQ rows) cc], .slice al rows.length cl, .bool (accOk rows owners who), .bool true]) ∧ Shares w' (.slice al rows.length cl) (dealL rows (x :: rnd)) ∧ Ints w' (.slice ac (colsQ rows) cc) (dealC (x :: rnd)) ∧ Below w.heap.size w w' := by
  obtain ⟨W1, hW1, hb1, hr1, hz⟩ := box_prog w rv ov 25
  obtain ⟨W2, hW2, hb2, hr2, hs2⟩ := box_key W1 (.int .i64 0) (.slice none 0 0) (.slice none 0 0) (.slice none 0 0) 30
  have hsz : W1.heap.size = w.heap.size + 1 := by rw [hW1]; simp
  have hb := hb1.trans (hb2.mono hb1.size)
  have HR := Lib.hid (hR.below hb)
  have HO := Lib.hid (hO.below hb)
  have HM := Lib.hid (hM.below hb)
  have HWH := Lib.hid (hW.below hb)
  obtain ⟨a, cap, rfl, -, hlen, -⟩ := id hR
  obtain ⟨a2, cap2, rfl, -, hlen2, -⟩ := id hO
  obtain ⟨a5, cap5, rfl, -, hlen5, -⟩ := id hM
  obtain ⟨a6, cap6, rfl, -, hlen6, -⟩ := id hW
  have hq1 := (hb2.block _ (row_lt hr1)).trans hr1
  rw [hsz] at hr2
  have Q1 := Lib.hid hq1
  have Q2 := Lib.hid hr2
  rw [hW1] at hW2
  have HW2 := Lib.hid hW2
  have HB := Lib.hid hb
  have HD := Lib.hid h
  have HP := Lib.hid hp
  have HQE := Lib.hid hq
  have c0 := row_cell hq1 (k := 0) rfl
  have c1 := row_cell hq1 (k := 1) rfl
  clear hR hO hM hW hW1 hW2 hb1 hb2 hr1 hr2 hs2 hq1 hz hb hsz h hp hq
  go_enter Try.func7, Try.ntmps7
  go_wp2_with (rw [← HW2.out])
  go_wp2_with fail
  with_reducible refine (deal_typed_ok _ _ _ rows owners x rnd _ HR.out HO.out HM.out HD.out HP.out).mono ?_
  rintro e w3 ⟨al, cl, ac, cc, rfl, hl, hc, hb3⟩
  replace c0 := below_cell hb3 c0
  replace c1 := below_cell hb3 c1
  replace HR := Lib.hid (HR.out.below hb3)
  replace HO := Lib.hid (HO.out.below hb3)
  replace HM := Lib.hid (HM.out.below hb3)
  replace HWH := Lib.hid (HWH.out.below hb3)
  replace Q1 := Lib.hid ((hb3.block _ (row_lt Q1.out)).trans Q1.out)
  replace Q2 := Lib.hid ((hb3.block _ (row_lt Q2.out)).trans Q2.out)
  replace HB := Lib.hid (HB.out.trans (hb3.mono HB.out.size))
  clear hb3
  have HL := Lib.hid hl
  have HC := Lib.hid hc
  clear hl hc
  go_wp2_with fail
  go_wp2_with fail
  with_reducible refine (accepts_any _ _ _ rows owners who _ HR.out HO.out HWH.out).mono ?_
  rintro e w4 ⟨yv, rfl, hy, hb4⟩
  replace c0 := below_cell hb4 c0
  replace c1 := below_cell hb4 c1
  replace HR := Lib.hid (HR.out.below hb4)
  replace HO := Lib.hid (HO.out.below hb4)
  replace HM := Lib.hid (HM.out.below hb4)
  replace HWH := Lib.hid (HWH.out.below hb4)
  replace HL := Lib.hid (HL.out.below hb4)
  replace HC := Lib.hid (HC.out.below hb4)
  replace Q1 := Lib.hid ((hb4.block _ (row_lt Q1.out)).trans Q1.out)
  replace Q2 := Lib.hid ((hb4.block _ (row_lt Q2.out)).trans Q2.out)
  replace HB := Lib.hid (HB.out.trans (hb4.mono HB.out.size))
  clear hb4
  rw [HQE.out]
  obtain ⟨ay, ky, rfl, -⟩ := id hy
  clear hy
  have hc1 := HD.out.prog.cols
  have hd1 : decide ((0 : Int) < (colsQ rows : Int)) = true := decide_eq_true (by omega)
  have hd2 : decide (0 < colsQ rows) = true := decide_eq_true (by omega)
  have u0 := row_cell Q2.out (k := 0) rfl
  have u1 := row_cell Q2.out (k := 1) rfl
  have u2 := row_cell Q2.out (k := 2) rfl
  have u3 := row_cell Q2.out (k := 3) rfl
  have f0 := row_free Q2.out 0
  have f1 := row_free Q2.out 1
  have f2 := row_free Q2.out 2
  have f3 := row_free Q2.out 3
  obtain ⟨W5, hW5⟩ : ∃ W5, W5 = putKey w4 (w.heap.size + 1) (.int .i64 0) (.slice a rows.length cap) (.slice a2 owners.length cap2) (.slice ac (colsQ rows) cc) := ⟨_, rfl⟩
  have HB5 := Lib.hid (hW5 ▸ keyW_below HB.out (Nat.le_succ _) _ _ _ _)
  have HL5 := Lib.hid (hW5 ▸ HL.out.keyW Q2.out (by decide) _ _ _ _)
  have HC5 := Lib.hid (hW5 ▸ HC.out.keyW Q2.out (by decide) _ _ _ _)
  have Q5 := Lib.hid (hW5 ▸ keyW_heap Q2.out _ _ _ _)
  have g0 := row_cell Q5.out (k := 0) rfl
  have g1 := row_cell Q5.out (k := 1) rfl
  have g2 := row_cell Q5.out (k := 2) rfl
  have g3 := row_cell Q5.out (k := 3) rfl
  unfold putKey at hW5
  have HW5 := Lib.hid hW5
  clear hW5
  go_wp2_with (rw [← HW5.out])
  try simp only [Exit.inBlock, Exit.then]
  refine bodyPost_ret (v := .tuple #[.agg #[.int .i64 0, .slice a rows.length cap, .slice a2 owners.length cap2, .slice ac (colsQ rows) cc], .slice al rows.length cl, .bool (accOk rows owners who), .bool true]) ?_ rfl ?_
  · rw [results_cell_tmp3 rfl]
    go_simp
  · exact ⟨_, _, _, _, rfl, HL5.out.1, HC5.out.1, HB5.out⟩


end Go.Proofs.Ytjjoadmkpbmhpaa
