/- The reference of dealing: comparing; the laws' program of one row. The laws of dealing: the program of one row. The laws of dealing: the examples. -/
import Derived.Test.YtohebkpgjaaljaaMDeaN
import Derived.BigQuiet
namespace Go.Proofs.Ytohebkpgjaaljaa
open Go.RowKit FP

def sameS (a b : List (Int × Int)) : Bool := decide (a = b)
theorem take_eq_next {α : Type} {a b : List α} {k : Nat} (ha : k < a.length) (hb : k < b.length) (h : a.take k = b.take k) (he : a[k] = b[k]) : a.take (k + 1) = b.take (k + 1) := by
  rw [List.take_succ_eq_append_getElem ha, List.take_succ_eq_append_getElem hb, h, he]

set_option maxRecDepth 100000 in
set_option maxHeartbeats 4000000 in
theorem rsame_any (u v : Value) (a b : List (Int × Int)) (w : World) (hA : Shares w u a) (hB : Shares w v b) :
    Calls Try.prog 40 #[u, v] w fun r w' => r = .returned (.bool (sameS a b)) ∧ Below w.heap.size w w' := by
  obtain ⟨aa, ca, rfl, -, hla, -, hka⟩ := hA
  obtain ⟨ab, cb, rfl, -, hlb, -, hkb⟩ := hB
  have HA := Lib.hid hka
  have HB := Lib.hid hkb
  clear hka hkb
  by_cases hl : a.length = b.length
  · have hlI : ((a.length : Int) != (b.length : Int)) = false := by rw [hl]; exact bne_self_eq_false _
    have HLN := Lib.hid hl
    clear hl
    go_enter Try.func40, Try.ntmps40
    go_wp2_with fail
    go_loopw [5] (fun i W => ∃ k : Nat, k ≤ a.length ∧ i = .int .i64 k ∧ Hid (a.take k = b.take k) ∧ Below w.heap.size w W) (fun i _ => a.length - (intOf i).toNat)
    case atStart => exact ⟨0, Nat.zero_le _, rfl, Lib.hid rfl, Below.refl _ _⟩
    case round =>
      obtain ⟨k, hkl, rfl, HT, hb⟩ := hrel
      by_cases hlt : k < a.length
      · have hltb : k < b.length := by have := HLN.out; omega
        obtain ⟨b1, o1, e1, p0, p1⟩ := HA.out k hlt
        obtain ⟨b2, o2, e2, q0, q1⟩ := HB.out k hltb
        subst e1 e2
        have y0 := below_cell hb p0
        have y1 := below_cell hb p1
        have z0 := below_cell hb q0
        have z1 := below_cell hb q1
        have i0 : 0 ≤ (k : Int) := by omega
        have i1 : (k : Int) < (a.length : Int) := by omega
        have i2 : (k : Int) < (b.length : Int) := by omega
        have HBW := Lib.hid hb
        clear p0 p1 q0 q1 hb
        by_cases he : a[k] = b[k]
        · have HN := Lib.hid (take_eq_next hlt hltb HT.out he)
          have f1 : b[k].1 = a[k].1 := by rw [he]
          have f2 : b[k].2 = a[k].2 := by rw [he]
          rw [f1] at z0
          rw [f2] at z1
          clear he f1 f2
          generalize a[k].1 = x1 at *
          generalize a[k].2 = x2 at *
          go_wp2_with fail
          go_quiet (fail)
          go_wp2_with fail
          go_roundw
          case rel => exact ⟨k + 1, by omega, by go_num, HN, below_drewN HBW.out _⟩
          case measure => simp [intOf]; omega
        · have HV := Lib.hid (show sameS a b = false by
            unfold sameS; refine decide_eq_false (fun e => he ?_)
            subst e; rfl)
          by_cases h1 : a[k].1 = b[k].1
          · have n1 : (a[k].1 == b[k].1) = true := beq_iff_eq.2 h1
            have n2 : (a[k].2 == b[k].2) = false := beq_eq_false_iff_ne.2 (fun h2 => he (Prod.ext h1 h2))
            clear he h1
            generalize a[k].1 = x1 at *
            generalize a[k].2 = x2 at *
            generalize b[k].1 = x3 at *
            generalize b[k].2 = x4 at *
            go_wp2_with fail
            go_quiet (fail)
            go_wp2_with fail
            go_ret
            exact ⟨ret_bool HV.out.symm, below_drewN HBW.out _⟩
          · have n1 : (a[k].1 == b[k].1) = false := beq_eq_false_iff_ne.2 h1
            clear he h1
            generalize a[k].1 = x1 at *
            generalize a[k].2 = x2 at *
            generalize b[k].1 = x3 at *
            generalize b[k].2 = x4 at *
            go_wp2_with fail
            go_quiet (fail)
            go_wp2_with fail
            go_ret
            exact ⟨ret_bool HV.out.symm, below_drewN HBW.out _⟩
      · have HV := Lib.hid (show sameS a b = true by
          unfold sameS; refine decide_eq_true ?_
          have := HT.out
          rwa [List.take_of_length_le (by omega), List.take_of_length_le (by have := HLN.out; omega)] at this)
        have hdk : decide (k < a.length) = false := decide_eq_false hlt
        go_wp2_with fail
        go_ret
        exact ⟨ret_bool HV.out.symm, hb⟩
  · have hlI : ((a.length : Int) != (b.length : Int)) = true := bne_iff_ne.2 (by omega)
    have HV := Lib.hid (show sameS a b = false by unfold sameS; exact decide_eq_false (fun e => hl (by rw [e])))
    go_enter Try.func40, Try.ntmps40
    go_wp2_with fail
    go_ret
    exact ⟨ret_bool HV.out.symm, Below.refl _ _⟩

end Go.Proofs.Ytohebkpgjaaljaa

namespace Go.Proofs.Ytohebkpgjaaljaa
open Go.RowKit FP

theorem rows_of1 {w : World} {b c : Nat} {r : Value} {x : List Int} (h : w.cell? ⟨b, 0, none⟩ = some r) (hI : Ints w r x) (hc : 1 ≤ c) : Rows2 w (.slice (some ⟨b, 0, none⟩) 1 c) [x] :=
  ⟨_, c, rfl, hc, by simp, fun k hk => ⟨b, 0, r, rfl, by obtain rfl : k = 0 := (by simp at hk; omega); exact h, by obtain rfl : k = 0 := (by simp at hk; omega); exact hI⟩⟩
theorem ints_of1 {w : World} {b c : Nat} {x : Int} (h : w.cell? ⟨b, 0, none⟩ = some (.int .i64 x)) (hx : R64 x) (hc : 1 ≤ c) : Ints w (.slice (some ⟨b, 0, none⟩) 1 c) [x] :=
  ⟨_, c, rfl, hc, by simp, by simpa using hx, fun k hk => ⟨b, 0, rfl, by obtain rfl : k = 0 := (by simp at hk; omega); exact h⟩⟩
theorem ints_of2 {w : World} {b c : Nat} {x y : Int} (h : w.cell? ⟨b, 0, none⟩ = some (.int .i64 x)) (h2 : w.cell? ⟨b, 1, none⟩ = some (.int .i64 y)) (hx : R64 x) (hy : R64 y) (hc : 2 ≤ c) : Ints w (.slice (some ⟨b, 0, none⟩) 2 c) [x, y] :=
  ⟨_, c, rfl, hc, by simp, by simp [hx, hy], fun k hk => ⟨b, 0, rfl, by
    match k, hk with
    | 0, _ => exact h
    | 1, _ => exact h2⟩⟩
theorem rows_of2 {w : World} {b c : Nat} {r s : Value} {x y : List Int} (h : w.cell? ⟨b, 0, none⟩ = some r) (h2 : w.cell? ⟨b, 1, none⟩ = some s) (hI : Ints w r x) (hJ : Ints w s y) (hc : 2 ≤ c) : Rows2 w (.slice (some ⟨b, 0, none⟩) 2 c) [x, y] :=
  ⟨_, c, rfl, hc, by simp, fun k hk => by
    match k, hk with
    | 0, _ => exact ⟨b, 0, r, rfl, h, hI⟩
    | 1, _ => exact ⟨b, 0, s, rfl, h2, hJ⟩⟩
theorem shares_of1 {w : World} {b c : Nat} {x y : Int} (h : w.cell? ⟨b, 0, none⟩ = some (.int .i64 x)) (h2 : w.cell? ⟨b, 1, none⟩ = some (.int .i64 y)) (hx : R64 x) (hy : R64 y) (hc : 1 ≤ c) : Shares w (.slice (some ⟨b, 0, none⟩) 1 c) [(x, y)] :=
  ⟨_, c, rfl, hc, by simp, by simp [hx, hy], fun k hk => ⟨b, 0, rfl, by obtain rfl : k = 0 := (by simp at hk; omega); exact h, by obtain rfl : k = 0 := (by simp at hk; omega); exact h2⟩⟩
theorem shares_of2 {w : World} {b c : Nat} {x y x2 y2 : Int} (h : w.cell? ⟨b, 0, none⟩ = some (.int .i64 x)) (h2 : w.cell? ⟨b, 1, none⟩ = some (.int .i64 y)) (h3 : w.cell? ⟨b, 2, none⟩ = some (.int .i64 x2)) (h4 : w.cell? ⟨b, 3, none⟩ = some (.int .i64 y2)) (hx : R64 x) (hy : R64 y) (hx2 : R64 x2) (hy2 : R64 y2) (hc : 2 ≤ c) : Shares w (.slice (some ⟨b, 0, none⟩) 2 c) [(x, y), (x2, y2)] :=
  ⟨_, c, rfl, hc, by simp, by simp [hx, hy, hx2, hy2], fun k hk => by
    match k, hk with
    | 0, _ => exact ⟨b, 0, rfl, h, h2⟩
    | 1, _ => exact ⟨b, 0, rfl, h3, h4⟩⟩

set_option maxRecDepth 100000 in
set_option maxHeartbeats 2000000 in
theorem one34_any (w : World) :
    Calls Try.prog 71 #[] w fun r w' => ∃ rv ov, r = .returned (.agg #[rv, ov]) ∧ Rows2 w' rv [[1]] ∧ Ints w' ov [4] ∧ Below w.heap.size w w' := by
  go_enter Try.func71, Try.ntmps71
  go_wp2_with fail
  refine bodyPost_ret (v := .agg #[.slice (some ⟨w.heap.size + 1 + 1, 0, none⟩) 1 1, .slice (some ⟨w.heap.size + 1 + 1 + 1, 0, none⟩) 1 1]) (by simp [results, Try.results71, go_sem]) rfl ?_
  refine ⟨_, _, rfl, rows_of1 (r := .slice (some ⟨w.heap.size + 1, 0, none⟩) 1 1) (by simp [go_sem]) (ints_of1 (by simp [go_sem]) (R64.mk (by omega) (by omega)) (Nat.le_refl _)) (Nat.le_refl _), ints_of1 (by simp [go_sem]) (R64.mk (by omega) (by omega)) (Nat.le_refl _), ?_⟩
  repeat (first | exact Below.refl _ _ | refine Below.setCell ?_ (by simp; try omega) _ | refine Below.alloc ?_ (by simp; try omega) _ | refine Below.drew ?_)

end Go.Proofs.Ytohebkpgjaaljaa

namespace Go.Proofs.Ytohebkpgjaaljaa
open Go.RowKit FP

theorem sh_lit (w : World) (B : Nat) (hB : w.heap.size = B) (x y : Int) (t : TypeId) (hx : R64 x) (hy : R64 y) : Shares (w.alloc (.cells #[.int .i64 x, .int .i64 y] t)) (.slice (some ⟨B, 0, none⟩) 1 1) [(x, y)] := by
  subst hB
  have h := World.alloc_heap_new w (.cells #[.int .i64 x, .int .i64 y] t)
  exact shares_of1 (row_cell h rfl) (row_cell h rfl) hx hy (Nat.le_refl _)
theorem sh_lit2 (w : World) (B : Nat) (hB : w.heap.size = B) (x y x2 y2 : Int) (t : TypeId) (hx : R64 x) (hy : R64 y) (hx2 : R64 x2) (hy2 : R64 y2) : Shares (w.alloc (.cells #[.int .i64 x, .int .i64 y, .int .i64 x2, .int .i64 y2] t)) (.slice (some ⟨B, 0, none⟩) 2 2) [(x, y), (x2, y2)] := by
  subst hB
  have h := World.alloc_heap_new w (.cells #[.int .i64 x, .int .i64 y, .int .i64 x2, .int .i64 y2] t)
  exact shares_of2 (row_cell h rfl) (row_cell h rfl) (row_cell h rfl) (row_cell h rfl) hx hy hx2 hy2 (Nat.le_refl _)

set_option maxRecDepth 100000 in
theorem two_made (w : World) : ∃ W, W = (((((w.alloc (.cells #[.int .i64 1, .int .i64 1] 3)).alloc (.cells #[.int .i64 1, .int .i64 2] 3)).alloc (.cells #[.slice (some ⟨w.heap.size, 0, none⟩) 2 2, .slice (some ⟨w.heap.size + 1, 0, none⟩) 2 2] 23)).alloc (.cells #[.int .i64 5, .int .i64 6] 3)).alloc (.cells #[.slice (some ⟨w.heap.size + 1 + 1, 0, none⟩) 2 2, .slice (some ⟨w.heap.size + 1 + 1 + 1, 0, none⟩) 2 2] 25)).alloc (.cells #[.int .i64 3] 3) ∧
    Below w.heap.size w W ∧ Rows2 W (.slice (some ⟨w.heap.size + 1 + 1, 0, none⟩) 2 2) [[1, 1], [1, 2]] ∧ Ints W (.slice (some ⟨w.heap.size + 1 + 1 + 1, 0, none⟩) 2 2) [5, 6] ∧ Ints W (.slice (some ⟨w.heap.size + 1 + 1 + 1 + 1 + 1, 0, none⟩) 1 1) [3] ∧
    W.cell? ⟨w.heap.size + 1 + 1 + 1 + 1, 0, none⟩ = some (.slice (some ⟨w.heap.size + 1 + 1, 0, none⟩) 2 2) ∧ W.cell? ⟨w.heap.size + 1 + 1 + 1 + 1, 1, none⟩ = some (.slice (some ⟨w.heap.size + 1 + 1 + 1, 0, none⟩) 2 2) := by
  have r : ∀ x : Int, -10 ≤ x ∧ x ≤ 10 → R64 x := fun x h => R64.mk (by omega) (by omega)
  refine ⟨_, rfl, ?_, ?_, ?_, ?_, ?_, ?_⟩
  · repeat (first | exact Below.refl _ _ | refine Below.alloc ?_ (by simp; try omega) _)
  · exact rows_of2 (r := .slice (some ⟨w.heap.size, 0, none⟩) 2 2) (s := .slice (some ⟨w.heap.size + 1, 0, none⟩) 2 2) (by simp [go_sem]) (by simp [go_sem]) (ints_of2 (by simp [go_sem]) (by simp [go_sem]) (r _ (by omega)) (r _ (by omega)) (Nat.le_refl _)) (ints_of2 (by simp [go_sem]) (by simp [go_sem]) (r _ (by omega)) (r _ (by omega)) (Nat.le_refl _)) (Nat.le_refl _)
  · exact ints_of2 (by simp [go_sem]) (by simp [go_sem]) (r _ (by omega)) (r _ (by omega)) (Nat.le_refl _)
  · exact ints_of1 (by simp [go_sem]) (r _ (by omega)) (Nat.le_refl _)
  · simp [go_sem]
  · simp [go_sem]

set_option maxRecDepth 100000 in
set_option maxHeartbeats 8000000 in
theorem sane34_any (w : World) :
    Calls Try.prog 33 #[] w fun r w' => r = .returned (.bool true) ∧ Below w.heap.size w w' := by
  have r0 : R64 0 := R64.mk (by omega) (by omega)
  have r1 : R64 1 := R64.mk (by omega) (by omega)
  have r7 : R64 7 := R64.mk (by omega) (by omega)
  have r8 : R64 8 := R64.mk (by omega) (by omega)
  have r10 : R64 10 := R64.mk (by omega) (by omega)
  have rq : R64 1073741789 := R64.mk (by omega) (by omega)
  have HD1 := Lib.hid (fun rv ov w hR hO => deal_val rv ov (.slice none 0 0) [[1]] [4] 7 [] 0 [(0, 7)] [powE 4 7] w hR hO (Ints.nil _ _ _) r7 exd_e1 (by rw [if_pos rfl]; exact exd_l1) (by rw [if_pos rfl]; rfl))
  have HD2 := Lib.hid (fun rv ov w hR hO => deal_val rv ov (.slice none 0 0) [[1]] [4] 1073741789 [] 1 [] [] w hR hO (Ints.nil _ _ _) rq exd_e2 rfl rfl)
  have HD3 := Lib.hid (fun rv ov mv w hR hO hM => deal_val rv ov mv [[1, 1], [1, 2]] [5, 6] 10 [3] 0 [(0, 13), (1, 16)] [powE 4 10, powE 4 3] w hR hO hM r10 exd_e3 (by rw [if_pos rfl]; exact exd_l3) (by rw [if_pos rfl]; rfl))
  have HR1 := Lib.hid (fun rv ov lv w hR hO hL => recover_val rv ov lv [[1]] [4] [(0, 7)] 7 true 0 w hR hO hL exr_1)
  have HR2 := Lib.hid (fun rv ov w hR hO => recover_val rv ov (.slice none 0 0) [[1]] [4] [] 0 false 0 w hR hO (Shares.nil _ _ _) exr_3)
  have HR3 := Lib.hid (fun rv ov lv w hR hO hL => recover_val rv ov lv [[1, 1], [1, 2]] [5, 6] [(0, 13), (1, 16)] 10 true 0 w hR hO hL exr_2)
  have HF1 := Lib.hid (fun rv ov cv w hR hO hC => fits_val rv ov cv [[1]] [4] [powE 4 7] 0 7 0 true w hR hO hC r0 r7 exf_1)
  have HF2 := Lib.hid (fun rv ov cv w hR hO hC => fits_val rv ov cv [[1]] [4] [powE 4 7] 0 8 0 false w hR hO hC r0 r8 exf_2)
  have HP1 := Lib.hid (fun rv ov cv w hR hO hC => public_err rv ov cv [[1, 1], [1, 2]] [5, 6] [powE 4 7] 0 340 w hR hO hC r0 exp_1 (by decide))
  have HP2 := Lib.hid (fun rv ov cv w hR hO hC => public_err rv ov cv [[1]] [4] [powE 4 7] 1 1 w hR hO hC r1 exp_2 (by decide))
  have HPW := Lib.hid (fun w => pow_yes 4 7 w el_four r7)
  generalize powE 4 10 = p10 at *
  generalize powE 4 3 = p3 at *
  generalize powE 4 7 = p7 at *
  go_enter Try.func33, Try.ntmps33
  go_wp2_with fail
  refine (one34_any _).mono ?_
  rintro e w1 ⟨rv1, ov1, rfl, hr1, ho1, hb1⟩
  have HRA := Lib.hid hr1; have HOA := Lib.hid ho1; have HB1 := Lib.hid hb1
  clear hr1 ho1 hb1
  go_wp2_with fail
  refine (HD1.out _ _ _ HRA.out HOA.out).mono ?_
  rintro e w2 ⟨lv, cv, rfl, hl2, hc2, hb2⟩
  obtain ⟨la, lc, rfl, -⟩ := id hl2
  obtain ⟨ca, cc, rfl, -⟩ := id hc2
  have HL2 := Lib.hid hl2; have HC2 := Lib.hid hc2; have HB2 := Lib.hid (HB1.out.trans (hb2.mono HB1.out.size))
  clear hl2 hc2 hb2 HRA HOA
  go_wp2_with fail
  refine (one34_any _).mono ?_
  rintro e w3 ⟨rv1, ov1, rfl, hr1, ho1, hb1⟩
  have HRA := Lib.hid hr1; have HOA := Lib.hid ho1; have HB3 := Lib.hid (HB2.out.trans (hb1.mono HB2.out.size))
  have HL3 := Lib.hid (HL2.out.below hb1); have HC3 := Lib.hid (HC2.out.below hb1)
  clear hr1 ho1 hb1 HL2 HC2
  go_wp2_with fail
  refine (HD2.out _ _ _ HRA.out HOA.out).mono ?_
  rintro e w4 ⟨lv4, cv4, rfl, -, -, hb1⟩
  have HL4 := Lib.hid (HL3.out.below hb1); have HC4 := Lib.hid (HC3.out.below hb1); have HB4 := Lib.hid (HB3.out.trans (hb1.mono HB3.out.size))
  clear hb1 HL3 HC3 HRA HOA
  go_wp2_with fail
  refine (one34_any _).mono ?_
  rintro e w5 ⟨rv1, ov1, rfl, hr1, ho1, hb1⟩
  have hbn := below_new w5 #[.int .i64 0, .int .i64 7] 62
  have HRA := Lib.hid (hr1.below hbn); have HOA := Lib.hid (ho1.below hbn)
  have hb5 := HB4.out.trans (hb1.mono HB4.out.size)
  have HB5 := Lib.hid (hb5.trans (hbn.mono hb5.size))
  have HL5 := Lib.hid ((HL4.out.below hb1).below hbn); have HC5 := Lib.hid ((HC4.out.below hb1).below hbn)
  have HSL := Lib.hid (sh_lit w5 w5.heap.size rfl 0 7 62 r0 r7)
  clear hr1 ho1 hb1 hb5 hbn HL4 HC4
  go_wp2_with fail
  refine (HR1.out _ _ _ _ HRA.out HOA.out HSL.out).mono ?_
  rintro e w6 ⟨rfl, hb1⟩
  have HL6 := Lib.hid (HL5.out.below hb1); have HC6 := Lib.hid (HC5.out.below hb1); have HB6 := Lib.hid (HB5.out.trans (hb1.mono HB5.out.size))
  clear hb1 HL5 HC5 HRA HOA HSL
  go_wp2_with fail
  refine (one34_any _).mono ?_
  rintro e w7 ⟨rv1, ov1, rfl, hr1, ho1, hb1⟩
  have HRA := Lib.hid hr1; have HOA := Lib.hid ho1; have HB7 := Lib.hid (HB6.out.trans (hb1.mono HB6.out.size))
  have HL7 := Lib.hid (HL6.out.below hb1); have HC7 := Lib.hid (HC6.out.below hb1)
  clear hr1 ho1 hb1 HL6 HC6
  go_wp2_with fail
  refine (HR2.out _ _ _ HRA.out HOA.out).mono ?_
  rintro e w8 ⟨rfl, hb1⟩
  have hbn := below_new w8 #[.int .i64 0, .int .i64 7] 62
  have hb8 := HB7.out.trans (hb1.mono HB7.out.size)
  have HB8 := Lib.hid (hb8.trans (hbn.mono hb8.size))
  have HL8 := Lib.hid ((HL7.out.below hb1).below hbn); have HC8 := Lib.hid ((HC7.out.below hb1).below hbn)
  have HSL := Lib.hid (sh_lit w8 w8.heap.size rfl 0 7 62 r0 r7)
  clear hb1 hbn hb8 HL7 HC7 HRA HOA
  go_wp2_with fail
  refine (rsame_any _ _ _ _ _ HL8.out HSL.out).mono ?_
  rintro e w9 ⟨rfl, hb1⟩
  rw [show sameS [((0 : Int), (7 : Int))] [(0, 7)] = true by decide]
  have HC9 := Lib.hid (HC8.out.below hb1); have HB9 := Lib.hid (HB8.out.trans (hb1.mono HB8.out.size))
  clear hb1 HL8 HC8 HSL
  go_wp2_with fail
  refine (HPW.out _).mono ?_
  rintro e w10 ⟨rfl, hb1⟩
  have HC10 := Lib.hid (HC9.out.below hb1); have HB10 := Lib.hid (HB9.out.trans (hb1.mono HB9.out.size))
  clear hb1 HC9
  go_wp2_with fail
  refine (one34_any _).mono ?_
  rintro e w11 ⟨rv1, ov1, rfl, hr1, ho1, hb1⟩
  have HRA := Lib.hid hr1; have HOA := Lib.hid ho1; have HB11 := Lib.hid (HB10.out.trans (hb1.mono HB10.out.size))
  have HC11 := Lib.hid (HC10.out.below hb1)
  clear hr1 ho1 hb1 HC10
  go_wp2_with fail
  refine (HF1.out _ _ _ _ HRA.out HOA.out HC11.out).mono ?_
  rintro e w12 ⟨rfl, hb1⟩
  have HC12 := Lib.hid (HC11.out.below hb1); have HB12 := Lib.hid (HB11.out.trans (hb1.mono HB11.out.size))
  clear hb1 HC11 HRA HOA
  go_wp2_with fail
  refine (one34_any _).mono ?_
  rintro e w13 ⟨rv1, ov1, rfl, hr1, ho1, hb1⟩
  have HRA := Lib.hid hr1; have HOA := Lib.hid ho1; have HB13 := Lib.hid (HB12.out.trans (hb1.mono HB12.out.size))
  have HC13 := Lib.hid (HC12.out.below hb1)
  clear hr1 ho1 hb1 HC12
  go_wp2_with fail
  refine (HF2.out _ _ _ _ HRA.out HOA.out HC13.out).mono ?_
  rintro e w14 ⟨rfl, hb1⟩
  have HC14 := Lib.hid (HC13.out.below hb1); have HB14 := Lib.hid (HB13.out.trans (hb1.mono HB13.out.size))
  clear hb1 HC13 HRA HOA
  go_wp2_with fail
  obtain ⟨W, hW, hbW, hrW, hoW, hmW, hx0, hx1⟩ := two_made w14
  have HRW := Lib.hid hrW; have HOW := Lib.hid hoW; have HMW := Lib.hid hmW
  have HCW := Lib.hid (HC14.out.below hbW); have HBW := Lib.hid (HB14.out.trans (hbW.mono HB14.out.size))
  rw [← hW]
  clear hrW hoW hmW hW hbW HC14
  refine (HD3.out _ _ _ _ HRW.out HOW.out HMW.out).mono ?_
  rintro e w15 ⟨lv, cv, rfl, hl2, hc2, hb2⟩
  obtain ⟨la2, lc2, rfl, -⟩ := id hl2
  have HL15 := Lib.hid hl2; have HB15 := Lib.hid (HBW.out.trans (hb2.mono HBW.out.size))
  have HC15 := Lib.hid (HCW.out.below hb2); have HR15 := Lib.hid (HRW.out.below hb2); have HO15 := Lib.hid (HOW.out.below hb2)
  have y0 := below_cell hb2 hx0
  have y1 := below_cell hb2 hx1
  clear hl2 hc2 hb2 hx0 hx1 HCW HRW HOW HMW
  go_wp2_with fail
  refine (HR3.out _ _ _ _ HR15.out HO15.out HL15.out).mono ?_
  rintro e w16 ⟨rfl, hb1⟩
  have HL16 := Lib.hid (HL15.out.below hb1); have HC16 := Lib.hid (HC15.out.below hb1); have HB16 := Lib.hid (HB15.out.trans (hb1.mono HB15.out.size))
  have HR16 := Lib.hid (HR15.out.below hb1); have HO16 := Lib.hid (HO15.out.below hb1)
  have z0 := below_cell hb1 y0
  have z1 := below_cell hb1 y1
  clear hb1 HL15 HC15 HR15 HO15 y0 y1
  go_wp2_with fail
  refine (HP1.out _ _ _ _ HR16.out HO16.out HC16.out).mono ?_
  rintro e w17 ⟨rfl, hb1⟩
  have HL17 := Lib.hid (HL16.out.below hb1); have HC17 := Lib.hid (HC16.out.below hb1); have HB17 := Lib.hid (HB16.out.trans (hb1.mono HB16.out.size))
  clear hb1 HL16 HC16 HR16 HO16 z0 z1
  go_wp2_with fail
  refine (one34_any _).mono ?_
  rintro e w18 ⟨rv1, ov1, rfl, hr1, ho1, hb1⟩
  have HRA := Lib.hid hr1; have HOA := Lib.hid ho1; have HB18 := Lib.hid (HB17.out.trans (hb1.mono HB17.out.size))
  have HL18 := Lib.hid (HL17.out.below hb1); have HC18 := Lib.hid (HC17.out.below hb1)
  clear hr1 ho1 hb1 HL17 HC17
  go_wp2_with fail
  refine (HP2.out _ _ _ _ HRA.out HOA.out HC18.out).mono ?_
  rintro e w19 ⟨rfl, hb1⟩
  have hc19 := HC18.out.below hb1
  have HB19 := Lib.hid (HB18.out.trans (hb1.mono HB18.out.size))
  obtain ⟨-, b9, o9, n9, k9, e9, q9⟩ := hc19.get (k := 0) (by simp)
  simp only [Value.slice.injEq] at e9
  obtain ⟨rfl, -, rfl⟩ := e9
  rw [show nth [p7] 0 = p7 from rfl, Nat.add_zero] at q9
  have hbn := below_new w19 #[.int .i64 0, .int .i64 13, .int .i64 1, .int .i64 16] 62
  have HL20 := Lib.hid ((HL18.out.below hb1).below hbn)
  have HB20 := Lib.hid (HB19.out.trans (hbn.mono HB19.out.size))
  have HSL2 := Lib.hid (sh_lit2 w19 w19.heap.size rfl 0 13 1 16 62 r0 (R64.mk (by omega) (by omega)) r1 (R64.mk (by omega) (by omega)))
  have q10 := below_cell hbn q9
  clear hb1 hbn hc19 HRA HOA HC18 HL18
  go_wp2_with fail
  refine (rsame_any _ _ _ _ _ HL20.out HSL2.out).mono ?_
  rintro e w21 ⟨rfl, hb1⟩
  rw [show sameS [((0 : Int), (13 : Int)), (1, 16)] [(0, 13), (1, 16)] = true by decide]
  have HB21 := Lib.hid (HB20.out.trans (hb1.mono HB20.out.size))
  clear hb1
  go_wp2_with fail
  go_ret
  exact ⟨rfl, HB21.out⟩

end Go.Proofs.Ytohebkpgjaaljaa
