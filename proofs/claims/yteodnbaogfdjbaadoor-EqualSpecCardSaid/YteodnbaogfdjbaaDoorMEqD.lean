/- Package equal: Prove. Is a number from one to another one? Package parcels, in plain Lean: pads, conditions, errors. Package parcels: the encoding of some integers, pads. -/
import Derived.Test.YteodnbaogfdjbaaDoorMHash
import Derived.Test.YteodnbaogfdjbaaDoorMCodD
import Derived.Deep.RegionWith
import Derived.Lib.MinMax
namespace Go.Proofs.YteodnbaogfdjbaaDoor
open Go.RowKit FP

/-- The nonce of a proof, its E, its S. -/
def prN (x a : Int) : Int := max 1 (hashG (strB tagN) (encL [x, a]))
def prE (x a : Int) : Int := chal (powE 4 x) a (powE a x) (powE 4 (prN x a)) (powE a (prN x a))
def prS (x a : Int) : Int := (prN x a + prE x a * x) % 1073741789
theorem prN_num (x a : Int) : 1 ≤ prN x a ∧ prN x a < 1073741789 := by
  unfold prN
  have := hashG_num (strB tagN) (encL [x, a])
  omega
theorem prE_num (x a : Int) : 0 ≤ prE x a ∧ prE x a < 1073741789 := chal_num _ _ _ _ _
theorem prS_num (x a : Int) : 0 ≤ prS x a ∧ prS x a < 1073741789 := by unfold prS; omega

set_option maxRecDepth 100000 in
set_option maxHeartbeats 2000000 in
theorem prove_key (x a : Int) (w : World) (h : x < 1 ∨ 1073741789 ≤ x) (hx : R64 x) :
    Calls Tryd.prog 7 #[.int .i64 x, .int .i64 a] w fun e w' => e = .returned (.tuple #[.int .i64 0, .agg #[.int .i64 0, .int .i64 0], .int .i64 110]) ∧ Below w.heap.size w w' := by
  obtain ⟨x1, x2⟩ := hx
  by_cases h1 : x < 1
  · go_enter Tryd.func7, Tryd.ntmps7
    go_wp2_with fail
    go_region_with (fail)
    all_goals
      go_wp2_with fail
      refine bodyPost_ret (v := .tuple #[.int .i64 0, .agg #[.int .i64 0, .int .i64 0], .int .i64 110]) (by simp [results, Tryd.results7, go_sem]) rfl ⟨rfl, ?_⟩
      repeat (first | exact Below.refl _ _ | refine Below.drew ?_ | refine Below.setCell ?_ (by simp) _ | refine Below.alloc ?_ (by simp) _)
  · have h2 : 1073741789 ≤ x := by omega
    go_enter Tryd.func7, Tryd.ntmps7
    go_wp2_with fail
    go_region_with (fail)
    all_goals
      go_wp2_with fail
      refine bodyPost_ret (v := .tuple #[.int .i64 0, .agg #[.int .i64 0, .int .i64 0], .int .i64 110]) (by simp [results, Tryd.results7, go_sem]) rfl ⟨rfl, ?_⟩
      repeat (first | exact Below.refl _ _ | refine Below.drew ?_ | refine Below.setCell ?_ (by simp) _ | refine Below.alloc ?_ (by simp) _)

theorem below_cells2 (w : World) (t : TypeId) : ∃ W, W = w.alloc (.cells #[.int .i64 0, .int .i64 0] t) ∧ Below w.heap.size w W ∧ W.heap[w.heap.size]? = some (.cells #[.int .i64 0, .int .i64 0] t (0, 0)) :=
  ⟨_, rfl, below_new _ _ _, World.alloc_heap_new _ _⟩

set_option maxRecDepth 100000 in
set_option maxHeartbeats 2000000 in
theorem prove_group (x a : Int) (w : World) (h1 : 1 ≤ x) (h2 : x < 1073741789) (hr : R64 a) (ha : ¬ El a) :
    Calls Tryd.prog 7 #[.int .i64 x, .int .i64 a] w fun e w' => e = .returned (.tuple #[.int .i64 0, .agg #[.int .i64 0, .int .i64 0], .int .i64 100]) ∧ Below w.heap.size w w' := by
  obtain ⟨W1, hW1, hb1, hr1⟩ := below_cells2 w 23
  have HW1 := Lib.hid hW1
  clear hW1
  go_enter Tryd.func7, Tryd.ntmps7
  go_wp2_with fail
  rw [← HW1.out]
  with_reducible refine (pow_no a x _ hr ha).mono ?_
  rintro e w2 ⟨rfl, hb2⟩
  have hr2 := (hb2.block _ (row_lt hr1)).trans hr1
  have c0 : w2.cell? ⟨w.heap.size, 0, none⟩ = some (.int .i64 0) := row_cell hr2 rfl
  have c1 : w2.cell? ⟨w.heap.size, 1, none⟩ = some (.int .i64 0) := row_cell hr2 rfl
  have f0 := row_free hr2 0
  have f1 := row_free hr2 1
  have hb := hb1.trans (hb2.mono hb1.size)
  clear hr1 hr2 hb1 hb2
  go_wp2_with fail
  go_region_with (fail)
  all_goals
    go_wp2_with fail
    refine bodyPost_ret (v := .tuple #[.int .i64 0, .agg #[.int .i64 0, .int .i64 0], .int .i64 100]) (by simp [results, Tryd.results7, go_sem, c0, c1]) rfl ⟨rfl, ?_⟩
    repeat (first | exact hb | refine Below.drew ?_ | refine Below.setCell ?_ (by simp) _ | refine Below.alloc ?_ (by simp) _)

set_option maxRecDepth 100000 in
set_option maxHeartbeats 2000000 in
theorem prove_yes (x a : Int) (w : World) (h1 : 1 ≤ x) (h2 : x < 1073741789) (ha : El a) (hG : Glob w) :
    Calls Tryd.prog 7 #[.int .i64 x, .int .i64 a] w fun e w' => e = .returned (.tuple #[.int .i64 (powE a x), .agg #[.int .i64 (prE x a), .int .i64 (prS x a)], .int .i64 0]) ∧ Below w.heap.size w w' := by
  obtain ⟨W1, hW1, hb1, hr1⟩ := below_cells2 w 23
  have HW1 := Lib.hid hW1
  clear hW1
  have hx64 : R64 x := ⟨by omega, by omega⟩
  obtain ⟨n1, n2⟩ := prN_num x a
  have hN64 : R64 (prN x a) := ⟨by omega, by omega⟩
  have HNV : Hid (max 1 (hashG (strB tagN) (encL [x, a])) = prN x a) := Lib.hid rfl
  obtain ⟨E1, E2⟩ := prE_num x a
  have HEV : Hid (chal (powE 4 x) a (powE a x) (powE 4 (prN x a)) (powE a (prN x a)) = prE x a) := Lib.hid rfl
  have HSV : Hid ((prN x a + prE x a * x) % 1073741789 = prS x a) := Lib.hid rfl
  have hm1 : 0 ≤ prE x a * x := Int.mul_nonneg E1 (by omega)
  have hm2 : prE x a * x ≤ 1073741789 * 1073741789 := Int.mul_le_mul (by omega) (by omega) (by omega) (by omega)
  have HM1 := Lib.hid hm1
  have HM2 : Hid (prE x a * x ≤ 1152921429444920521) := Lib.hid (by omega)
  generalize prN x a = kk at *
  generalize prE x a = EE at *
  generalize prS x a = SS at *
  clear hm1 hm2
  go_enter Tryd.func7, Tryd.ntmps7
  go_wp2_with fail
  rw [← HW1.out]
  with_reducible refine (pow_yes a x _ ha hx64).mono ?_
  rintro e w2 ⟨rfl, hb2⟩
  have hb3 := hb1.trans (hb2.mono hb1.size)
  go_wp2_with fail
  with_reducible refine (epow_any 4 x _ el_four hx64).mono ?_
  rintro e w3 ⟨rfl, hb4⟩
  have hb5 := hb3.trans (hb4.mono hb3.size)
  go_wp2_with fail
  refine (text_any _ [x, a] _ (pair_ints _ x a _ _ rfl hx64 ha.r64) (by simp)).mono ?_
  rintro e w4 ⟨v4, rfl, hv4, hb6⟩
  have hb7 := (hb5.alloc hb5.size (.cells #[.int .i64 x, .int .i64 a] 3))
  have hb8 := hb7.trans (hb6.mono hb7.size)
  have HV4 := Lib.hid hv4
  clear hv4
  go_wp2_with fail
  refine (hash_any tagN v4 (encL [x, a]) _ (by decide) HV4.out (encL_pos _) (by have := encL_len (zs := [x, a]) (by intro z hz; simp at hz; rcases hz with rfl | rfl; exact hx64; exact ha.r64) (by simp); simp at this; omega) (hG.below hb8)).mono ?_
  rintro e w5 ⟨rfl, hb9⟩
  have hb10 := hb8.trans (hb9.mono hb8.size)
  generalize hashG (strB tagN) (encL [x, a]) = hh at *
  have hg10 := hG.below hb10
  have hr10 : w5.heap[w.heap.size]? = some (.cells #[.int .i64 0, .int .i64 0] 23 (0, 0)) := by
    have e1 := (hb2.block _ (row_lt hr1)).trans hr1
    have e2 := (hb4.block _ (row_lt e1)).trans e1
    have e3 := ((below_new w3 #[.int .i64 x, .int .i64 a] 3).block _ (row_lt e2)).trans e2
    have e4 := (hb6.block _ (row_lt e3)).trans e3
    exact (hb9.block _ (row_lt e4)).trans e4
  clear hr1 hb1 hb2 hb3 hb4 hb5 hb6 hb7 hb8 hb9 HV4
  go_wp2_with fail
  rw [HNV.out]
  with_reducible refine (epow_any 4 kk _ el_four hN64).mono ?_
  rintro e w6 ⟨rfl, hb11⟩
  have hb12 := hb10.trans (hb11.mono hb10.size)
  have hr12 := (hb11.block _ (row_lt hr10)).trans hr10
  clear hr10 hb11
  go_wp2_with fail
  with_reducible refine (epow_any a kk _ ha hN64).mono ?_
  rintro e w7 ⟨rfl, hb13⟩
  have hb14 := hb12.trans (hb13.mono hb12.size)
  have hr14 := (hb13.block _ (row_lt hr12)).trans hr12
  have hg14 := hG.below hb14
  have HRS := Lib.hid (show ∀ z ∈ [powE 4 x, a, powE a x, powE 4 kk, powE a kk], R64 z by intro z hz; simp at hz; rcases hz with rfl | rfl | rfl | rfl | rfl; exact (el_powE el_four x).r64; exact ha.r64; exact (el_powE ha x).r64; exact (el_powE el_four kk).r64; exact (el_powE ha kk).r64)
  clear hr12 hb13 hb12 hb10 hg10
  go_wp2_with fail
  with_reducible refine (challenge_any _ _ _ _ _ _ HRS.out hg14).mono ?_
  rintro e w8 ⟨rfl, hb15⟩
  rw [HEV.out]
  have hb16 := hb14.trans (hb15.mono hb14.size)
  have hr16 := (hb15.block _ (row_lt hr14)).trans hr14
  have c0 : w8.cell? ⟨w.heap.size, 0, none⟩ = some (.int .i64 0) := row_cell hr16 rfl
  have c1 : w8.cell? ⟨w.heap.size, 1, none⟩ = some (.int .i64 0) := row_cell hr16 rfl
  have f0 := row_free hr16 0
  have f1 := row_free hr16 1
  have hr20 := row_set (row_set (row_set (row_set hr16 0 (.int .i64 EE)) 1 (.int .i64 SS)) 0 (.int .i64 EE)) 1 (.int .i64 SS)
  have d0 := Lib.hid (row_cell hr20 (k := 0) (v := .int .i64 EE) rfl)
  have d1 := Lib.hid (row_cell hr20 (k := 1) (v := .int .i64 SS) rfl)
  clear hr14 hb15 hb14 hg14 hr16 hr20
  have hm1 := HM1.out
  have hm2 := HM2.out
  go_wp2_with fail
  rw [HSV.out]
  clear hm1 hm2
  go_region_with (fail)
  all_goals
    go_wp2_with fail
    refine bodyPost_ret (v := .tuple #[.int .i64 (powE a x), .agg #[.int .i64 EE, .int .i64 SS], .int .i64 0]) (by simp [results, Tryd.results7, go_sem, d0.out, d1.out]) rfl ⟨rfl, ?_⟩
    repeat (first | exact hb16 | refine Below.drew ?_ | refine Below.setCell ?_ (by simp) _ | refine Below.alloc ?_ (by simp) _)

end Go.Proofs.YteodnbaogfdjbaaDoor

namespace Go.Proofs.YteodnbaogfdjbaaDoor

/-- Is a number from one to another one? -/
def inB (n lo hi : Int) : Bool := decide (lo ≤ n) && decide (n ≤ hi)
theorem inB_iff {n lo hi : Int} : inB n lo hi = true ↔ lo ≤ n ∧ n ≤ hi := by unfold inB; rw [Bool.and_eq_true, decide_eq_true_eq, decide_eq_true_eq]
theorem lt_le_dec (n : Int) : decide (n < 1073741789) = decide (n ≤ 1073741788) := decide_eq_decide.2 (by omega)
theorem lt_le_64 (n : Int) : decide (n < 64) = decide (n ≤ 63) := decide_eq_decide.2 (by omega)

end Go.Proofs.YteodnbaogfdjbaaDoor

namespace Go.Proofs.YteodnbaogfdjbaaDoor
open Go.RowKit FP

/-- The tag of pads. -/
def tagP : ByteArray := ⟨#[112, 97, 100]⟩
/-- The pad of an element, a dealer and a row. -/
def padV (d dealer row : Int) : Int := hashG (strB tagP) (encL [d, dealer, row])
theorem padV_num (d dealer row : Int) : 0 ≤ padV d dealer row ∧ padV d dealer row < 1073741789 := hashG_num _ _

/-- The error of the first condition that does not hold. -/
def firstE : List (Bool × Int) → Int
  | [] => 0
  | (true, _) :: l => firstE l
  | (false, e) :: _ => e
theorem firstE_cons (b : Bool) (e : Int) (l : List (Bool × Int)) : firstE ((b, e) :: l) = if b = true then firstE l else e := by
  cases b <;> rfl
/-- Is a parcel right? -/
def rightB (row pt c : Int) : Bool := inB row 0 63 && (elB pt && inB c 0 1073741788)
theorem rightB_first (row pt c : Int) : (firstE [(inB row 0 63, 350), (elB pt, 350), (inB c 0 1073741788, 350)] == 0) = rightB row pt c := by
  unfold rightB
  cases inB row 0 63 <;> cases elB pt <;> cases inB c 0 1073741788 <;> rfl
/-- Errors. -/
def sealE (u key dealer row value : Int) : Int := firstE [(inB u 1 1073741788, 110), (elB key, 100), (inB dealer 0 63, 1), (inB row 0 63, 1), (inB value 0 1073741788, 350)]
def openE (s dealer row pt c : Int) : Int := firstE [(inB s 1 1073741788, 110), (inB dealer 0 63, 1), (rightB row pt c, 350)]
def withE (d dealer row pt c : Int) : Int := firstE [(elB d, 100), (inB dealer 0 63, 1), (rightB row pt c, 350)]
structure Sealed (u key dealer row value : Int) : Prop where
  u : 1 ≤ u ∧ u ≤ 1073741788
  key : El key
  dealer : 0 ≤ dealer ∧ dealer ≤ 63
  row : 0 ≤ row ∧ row ≤ 63
  value : 0 ≤ value ∧ value ≤ 1073741788
structure RightP (row pt c : Int) : Prop where
  row : 0 ≤ row ∧ row ≤ 63
  pt : El pt
  c : 0 ≤ c ∧ c ≤ 1073741788
theorem rightB_iff {row pt c : Int} : rightB row pt c = true ↔ RightP row pt c := by
  unfold rightB
  rw [Bool.and_eq_true, Bool.and_eq_true, inB_iff, elB_iff, inB_iff]
  exact ⟨fun ⟨a, b, c⟩ => ⟨a, b, c⟩, fun ⟨a, b, c⟩ => ⟨a, b, c⟩⟩
theorem sealE_ok {u key dealer row value : Int} : sealE u key dealer row value = 0 ↔ Sealed u key dealer row value := by
  have h : sealE u key dealer row value = 0 ↔ inB u 1 1073741788 = true ∧ elB key = true ∧ inB dealer 0 63 = true ∧ inB row 0 63 = true ∧ inB value 0 1073741788 = true := by
    unfold sealE
    cases inB u 1 1073741788 <;> cases elB key <;> cases inB dealer 0 63 <;> cases inB row 0 63 <;> cases inB value 0 1073741788 <;> simp [firstE]
  rw [h, inB_iff, elB_iff, inB_iff, inB_iff, inB_iff]
  exact ⟨fun ⟨a, b, c, d, e⟩ => ⟨a, b, c, d, e⟩, fun ⟨a, b, c, d, e⟩ => ⟨a, b, c, d, e⟩⟩
theorem openE_ok {s dealer row pt c : Int} : openE s dealer row pt c = 0 ↔ (1 ≤ s ∧ s ≤ 1073741788) ∧ (0 ≤ dealer ∧ dealer ≤ 63) ∧ RightP row pt c := by
  have h : openE s dealer row pt c = 0 ↔ inB s 1 1073741788 = true ∧ inB dealer 0 63 = true ∧ rightB row pt c = true := by
    unfold openE
    cases inB s 1 1073741788 <;> cases inB dealer 0 63 <;> cases rightB row pt c <;> simp [firstE]
  rw [h, inB_iff, inB_iff, rightB_iff]
theorem withE_ok {d dealer row pt c : Int} : withE d dealer row pt c = 0 ↔ El d ∧ (0 ≤ dealer ∧ dealer ≤ 63) ∧ RightP row pt c := by
  have h : withE d dealer row pt c = 0 ↔ elB d = true ∧ inB dealer 0 63 = true ∧ rightB row pt c = true := by
    unfold withE
    cases elB d <;> cases inB dealer 0 63 <;> cases rightB row pt c <;> simp [firstE]
  rw [h, elB_iff, inB_iff, rightB_iff]
/-- What is sealed, and what is opened. -/
def cipV (u key dealer row value : Int) : Int := (value + padV (powE key u) dealer row) % 1073741789
def opnV (d dealer row c : Int) : Int := (c - padV d dealer row + 1073741789) % 1073741789
theorem cipV_num (u key dealer row value : Int) : 0 ≤ cipV u key dealer row value ∧ cipV u key dealer row value < 1073741789 := by unfold cipV; omega
theorem opnV_cipV {u key dealer row value : Int} (h : 0 ≤ value ∧ value ≤ 1073741788) : opnV (powE key u) dealer row (cipV u key dealer row value) = value := by
  unfold opnV cipV
  have := padV_num (powE key u) dealer row
  omega
/-- The power of the point is the power of the key. -/
theorem point_key (u s : Int) : powE (powE 4 u) s = powE (powE 4 s) u := by
  rw [powE_mul el_four, powE_mul el_four, Int.mul_comm]
theorem sealed_right {u key dealer row value : Int} (h : Sealed u key dealer row value) : RightP row (powE 4 u) (cipV u key dealer row value) :=
  ⟨h.row, el_powE el_four u, by have := cipV_num u key dealer row value; omega⟩

end Go.Proofs.YteodnbaogfdjbaaDoor

namespace Go.Proofs.YteodnbaogfdjbaaDoor
open Go.RowKit FP

set_option maxRecDepth 100000 in
set_option maxHeartbeats 2000000 in
theorem integers_any (v : Value) (zs : List Int) (w : World) (hI : Ints w v zs) (hl : zs.length ≤ 1000) :
    Calls Tryd.prog 65 #[v] w fun e w' => ∃ v', e = .returned v' ∧ Byts w' v' (encL zs) ∧ Below w.heap.size w w' := by
  obtain ⟨a, cap, rfl, hcap, hlen, hr, hk⟩ := hI
  have HR := Lib.hid hr
  have HK := Lib.hid hk
  clear hr hk
  go_enter Tryd.func65, Tryd.ntmps65
  go_wp2_with fail
  have h00 : TextI w zs 0 (w.alloc (.cells #[.int .i64 3, .int .i64 0, .string ⟨#[]⟩, .slice none 0 0] 70)) := ⟨_, World.alloc_heap_new _ _, World.ownsRow_nil _ _ _ _, (Below.refl _ _).alloc (Nat.le_refl _) _⟩
  go_loopw [11] (fun i W => ∃ k : Nat, k ≤ zs.length ∧ i = .int .i64 k ∧ TextI w zs k W) (fun i _ => zs.length - (intOf i).toNat)
  case atStart => exact ⟨0, Nat.zero_le _, rfl, h00⟩
  case round =>
    clear h00
    obtain ⟨k, hkl, rfl, L, hrow, hown, hbe⟩ := hrel
    have hbx := row_lt hrow
    by_cases hlt : k < zs.length
    · obtain ⟨b, off, rfl, q1⟩ := HK.out k hlt
      have hz := HR.out _ (List.getElem_mem hlt)
      have c1 := below_cell hbe q1
      have HT := Lib.hid (show zs.take k ++ [zs[k]] = zs.take (k + 1) from (List.take_succ_eq_append_getElem hlt).symm)
      generalize zs[k] = z at *
      have x3 : wr.cell? ⟨w.heap.size, 3, none⟩ = some L := row_cell hrow rfl
      have x0 : wr.cell? ⟨w.heap.size, 0, none⟩ = some (.int .i64 3) := row_cell hrow rfl
      obtain ⟨W1, hW1, hb1, hr1⟩ := boxed4 wr (.int .i64 1) (.int .i64 z) (.string ⟨#[]⟩) (.slice none 0 0) 70
      have HOW := Lib.hid (own_keep hown hb1)
      have HCE : Hid (∀ j u, (valC z)[j]? = some u → W1.cell? ⟨wr.heap.size, j, none⟩ = some u) := Lib.hid (fun j u hj => row_cell hr1 (by
        match j with
        | 0 | 1 | 2 | 3 => exact hj
        | n + 4 => simp [valC] at hj))
      have HNE := Lib.hid (own_ne hown (b := w.heap.size) (.inr (by omega)))
      have HRW := Lib.hid ((hb1.block _ hbx).trans hrow)
      have HBX : Hid (w.heap.size < W1.heap.size) := Lib.hid (Nat.lt_of_lt_of_le hbx hb1.size)
      have HB1 := Lib.hid hb1
      have HW1 := Lib.hid hW1
      have hk1 : k ≤ 1000 := by omega
      have hbs : w.heap.size + 1 ≤ W1.heap.size := Nat.lt_of_lt_of_le hbx hb1.size
      have HBS := Lib.hid hbs
      clear q1 hown hrow hr1 hb1 hW1 hbs
      go_wp2_with (refine app_val rfl _ _ rfl (w.heap.size + 1) _ (zs.take k) _ rfl (HW1.out ▸ HOW.out) wr.heap.size 1 z rfl (HW1.out ▸ HCE.out) (by omega) (HW1.out ▸ HBS.out) ?_; rw [← HW1.out]; intro g8 cap8 w8 h8 o8; have hr8 := (o8.1.block _ HBX.out (fun e => HNE.out e.symm)).trans HRW.out; have y3 : w8.cell? ⟨w.heap.size, 3, none⟩ = some L := row_cell hr8 rfl; have f3 := row_free hr8 3; have HR8 := Lib.hid hr8; have H8 := Lib.hid h8; have O8 := Lib.hid o8; clear hr8 h8 o8)
      go_roundw
      case rel => exact ⟨k + 1, by omega, by go_num, _, row_set HR8.out 3 _, by
        have hb8 := own_below HOW.out O8.out.1 HBS.out
        refine own_keep_set ?_ (Nat.lt_succ_self _) _
        rw [← HT.out]; exact H8.out, ((hbe.trans (HB1.out.mono hbe.size)).trans (own_below HOW.out O8.out.1 HBS.out |>.mono (Nat.le_succ _))).setCell (Nat.le_refl _) _⟩
      case measure => simp [intOf]; omega
    · have hk2 : k = zs.length := by omega
      rw [hk2, List.take_length] at hown
      have hVl := Lib.hid (Vals.own hown HR.out (by omega))
      have x0 : wr.cell? ⟨w.heap.size, 0, none⟩ = some (.int .i64 3) := row_cell hrow rfl
      have x1 : wr.cell? ⟨w.heap.size, 1, none⟩ = some (.int .i64 0) := row_cell hrow rfl
      have x2 : wr.cell? ⟨w.heap.size, 2, none⟩ = some (.string ⟨#[]⟩) := row_cell hrow rfl
      have x3 : wr.cell? ⟨w.heap.size, 3, none⟩ = some L := row_cell hrow rfl
      have hdt : decide (k < zs.length) = false := decide_eq_false hlt
      obtain ⟨aL, cL, hLe, -⟩ := id hVl.out
      subst hLe
      clear hown hrow hk2
      go_wp2_with fail
      refine (encode_any _ zs _ hVl.out).mono ?_
      rintro e w9 ⟨v9, rfl, hv9, hb9⟩
      have HV9 := Lib.hid hv9
      clear hv9
      go_wp2_with fail
      go_ret
      exact ⟨_, rfl, HV9.out, hbe.trans (hb9.mono hbe.size)⟩

set_option maxRecDepth 100000 in
set_option maxHeartbeats 1000000 in
theorem pad_any (d dealer row : Int) (w : World) (h : ∀ z ∈ [d, dealer, row], R64 z) (hG : Glob w) :
    Calls Tryd.prog 40 #[.int .i64 d, .int .i64 dealer, .int .i64 row] w fun e w' => e = .returned (.int .i64 (padV d dealer row)) ∧ Below w.heap.size w w' := by
  have hI := Lib.hid (ints_made w [d, dealer, row] 3 w.heap.size rfl h (by simp))
  have hb0 := below_new w #[.int .i64 d, .int .i64 dealer, .int .i64 row] 3
  go_enter Tryd.func40, Tryd.ntmps40
  go_wp2_with fail
  refine (integers_any _ [d, dealer, row] _ hI.out (by simp)).mono ?_
  rintro e w1 ⟨v1, rfl, hv1, hb1⟩
  have hb01 := hb0.trans (hb1.mono hb0.size)
  have HV := Lib.hid hv1
  clear hv1
  go_wp2_with fail
  refine (hash_any tagP v1 (encL [d, dealer, row]) _ (by decide) HV.out (encL_pos _) (by have := encL_len h (by simp); simp at this; omega) (hG.below hb01)).mono ?_
  rintro e w2 ⟨rfl, hb2⟩
  go_wp2_with fail
  go_ret
  exact ⟨rfl, hb01.trans (hb2.mono hb01.size)⟩

end Go.Proofs.YteodnbaogfdjbaaDoor
