/- Package equal: Prove. Is a number from one to another one? Package parcels, in plain Lean: pads, conditions, errors. Package parcels: the encoding of some integers, pads. Package parcels: conditions, and the error of the first that does not hold. Package parcels: check. -/
import Derived.Test.YteodnbaogfdjbaaDoorMHash
import Derived.Test.YteodnbaogfdjbaaDoorMCodD
import Derived.Deep.RegionWith
import Derived.Lib.MinMax
import Derived.Laws.EntriesVeiled
namespace Go.Proofs.YteodnbaogfdjbaaDoor
open Go.RowKit FP

/-- The nonce of a proof, its E, its S. -/
def prN (x a : Int) : Int := max 1 (hashG (strB tagN) (encL [x, a]))
def prE (x a : Int) : Int := chal (powE 4 x) a (powE a x) (powE 4 (prN x a)) (powE a (prN x a))
def prS (x a : Int) : Int := (prN x a + prE x a * x) % 1073741789
theorem prN_num (x a : Int) : 1 ≤ prN x a ∧ prN x a < 1073741789 := by
  unfold prN
  have := hashG_num (strB tagN) (encL [x, a])
  omega
theorem prE_num (x a : Int) : 0 ≤ prE x a ∧ prE x a < 1073741789 := chal_num _ _ _ _ _
theorem prS_num (x a : Int) : 0 ≤ prS x a ∧ prS x a < 1073741789 := by unfold prS; omega

set_option maxRecDepth 100000 in
set_option maxHeartbeats 2000000 in
theorem prove_key (x a : Int) (w : World) (h : x < 1 ∨ 1073741789 ≤ x) (hx : R64 x) :
    Calls Tryd.prog 7 #[.int .i64 x, .int .i64 a] w fun e w' => e = .returned (.tuple #[.int .i64 0, .agg #[.int .i64 0, .int .i64 0], .int .i64 110]) ∧ Below w.heap.size w w' := by
  obtain ⟨x1, x2⟩ := hx
  by_cases h1 : x < 1
  · go_enter Tryd.func7, Tryd.ntmps7
    go_wp2_with fail
    go_region_with (fail)
    all_goals
      go_wp2_with fail
      refine bodyPost_ret (v := .tuple #[.int .i64 0, .agg #[.int .i64 0, .int .i64 0], .int .i64 110]) (by simp [results, Tryd.results7, go_sem]) rfl ⟨rfl, ?_⟩
      repeat (first | exact Below.refl _ _ | refine Below.drew ?_ | refine Below.setCell ?_ (by simp) _ | refine Below.alloc ?_ (by simp) _)
  · have h2 : 1073741789 ≤ x := by omega
    go_enter Tryd.func7, Tryd.ntmps7
    go_wp2_with fail
    go_region_with (fail)
    all_goals
      go_wp2_with fail
      refine bodyPost_ret (v := .tuple #[.int .i64 0, .agg #[.int .i64 0, .int .i64 0], .int .i64 110]) (by simp [results, Tryd.results7, go_sem]) rfl ⟨rfl, ?_⟩
      repeat (first | exact Below.refl _ _ | refine Below.drew ?_ | refine Below.setCell ?_ (by simp) _ | refine Below.alloc ?_ (by simp) _)

theorem below_cells2 (w : World) (t : TypeId) : ∃ W, W = w.alloc (.cells #[.int .i64 0, .int .i64 0] t) ∧ Below w.heap.size w W ∧ W.heap[w.heap.size]? = some (.cells #[.int .i64 0, .int .i64 0] t (0, 0)) :=
  ⟨_, rfl, below_new _ _ _, World.alloc_heap_new _ _⟩

set_option maxRecDepth 100000 in
set_option maxHeartbeats 2000000 in
theorem prove_group (x a : Int) (w : World) (h1 : 1 ≤ x) (h2 : x < 1073741789) (hr : R64 a) (ha : ¬ El a) :
    Calls Tryd.prog 7 #[.int .i64 x, .int .i64 a] w fun e w' => e = .returned (.tuple #[.int .i64 0, .agg #[.int .i64 0, .int .i64 0], .int .i64 100]) ∧ Below w.heap.size w w' := by
  obtain ⟨W1, hW1, hb1, hr1⟩ := below_cells2 w 23
  have HW1 := Lib.hid hW1
  clear hW1
  go_enter Tryd.func7, Tryd.ntmps7
  go_wp2_with fail
  rw [← HW1.out]
  with_reducible refine (pow_no a x _ hr ha).mono ?_
  rintro e w2 ⟨rfl, hb2⟩
  have hr2 := (hb2.block _ (row_lt hr1)).trans hr1
  have c0 : w2.cell? ⟨w.heap.size, 0, none⟩ = some (.int .i64 0) := row_cell hr2 rfl
  have c1 : w2.cell? ⟨w.heap.size, 1, none⟩ = some (.int .i64 0) := row_cell hr2 rfl
  have f0 := row_free hr2 0
  have f1 := row_free hr2 1
  have hb := hb1.trans (hb2.mono hb1.size)
  clear hr1 hr2 hb1 hb2
  go_wp2_with fail
  go_region_with (fail)
  all_goals
    go_wp2_with fail
    refine bodyPost_ret (v := .tuple #[.int .i64 0, .agg #[.int .i64 0, .int .i64 0], .int .i64 100]) (by simp [results, Tryd.results7, go_sem, c0, c1]) rfl ⟨rfl, ?_⟩
    repeat (first | exact hb | refine Below.drew ?_ | refine Below.setCell ?_ (by simp) _ | refine Below.alloc ?_ (by simp) _)

set_option maxRecDepth 100000 in
set_option maxHeartbeats 2000000 in
theorem prove_yes (x a : Int) (w : World) (h1 : 1 ≤ x) (h2 : x < 1073741789) (ha : El a) (hG : Glob w) :
    Calls Tryd.prog 7 #[.int .i64 x, .int .i64 a] w fun e w' => e = .returned (.tuple #[.int .i64 (powE a x), .agg #[.int .i64 (prE x a), .int .i64 (prS x a)], .int .i64 0]) ∧ Below w.heap.size w w' := by
  obtain ⟨W1, hW1, hb1, hr1⟩ := below_cells2 w 23
  have HW1 := Lib.hid hW1
  clear hW1
  have hx64 : R64 x := ⟨by omega, by omega⟩
  obtain ⟨n1, n2⟩ := prN_num x a
  have hN64 : R64 (prN x a) := ⟨by omega, by omega⟩
  have HNV : Hid (max 1 (hashG (strB tagN) (encL [x, a])) = prN x a) := Lib.hid rfl
  obtain ⟨E1, E2⟩ := prE_num x a
  have HEV : Hid (chal (powE 4 x) a (powE a x) (powE 4 (prN x a)) (powE a (prN x a)) = prE x a) := Lib.hid rfl
  have HSV : Hid ((prN x a + prE x a * x) % 1073741789 = prS x a) := Lib.hid rfl
  have hm1 : 0 ≤ prE x a * x := Int.mul_nonneg E1 (by omega)
  have hm2 : prE x a * x ≤ 1073741789 * 1073741789 := Int.mul_le_mul (by omega) (by omega) (by omega) (by omega)
  have HM1 := Lib.hid hm1
  have HM2 : Hid (prE x a * x ≤ 1152921429444920521) := Lib.hid (by omega)
  generalize prN x a = kk at *
  generalize prE x a = EE at *
  generalize prS x a = SS at *
  clear hm1 hm2
  go_enter Tryd.func7, Tryd.ntmps7
  go_wp2_with fail
  rw [← HW1.out]
  with_reducible refine (pow_yes a x _ ha hx64).mono ?_
  rintro e w2 ⟨rfl, hb2⟩
  have hb3 := hb1.trans (hb2.mono hb1.size)
  go_wp2_with fail
  with_reducible refine (epow_any 4 x _ el_four hx64).mono ?_
  rintro e w3 ⟨rfl, hb4⟩
  have hb5 := hb3.trans (hb4.mono hb3.size)
  go_wp2_with fail
  refine (text_any _ [x, a] _ (pair_ints _ x a _ _ rfl hx64 ha.r64) (by simp)).mono ?_
  rintro e w4 ⟨v4, rfl, hv4, hb6⟩
  have hb7 := (hb5.alloc hb5.size (.cells #[.int .i64 x, .int .i64 a] 3))
  have hb8 := hb7.trans (hb6.mono hb7.size)
  have HV4 := Lib.hid hv4
  clear hv4
  go_wp2_with fail
  refine (hash_any tagN v4 (encL [x, a]) _ (by decide) HV4.out (encL_pos _) (by have := encL_len (zs := [x, a]) (by intro z hz; simp at hz; rcases hz with rfl | rfl; exact hx64; exact ha.r64) (by simp); simp at this; omega) (hG.below hb8)).mono ?_
  rintro e w5 ⟨rfl, hb9⟩
  have hb10 := hb8.trans (hb9.mono hb8.size)
  generalize hashG (strB tagN) (encL [x, a]) = hh at *
  have hg10 := hG.below hb10
  have hr10 : w5.heap[w.heap.size]? = some (.cells #[.int .i64 0, .int .i64 0] 23 (0, 0)) := by
    have e1 := (hb2.block _ (row_lt hr1)).trans hr1
    have e2 := (hb4.block _ (row_lt e1)).trans e1
    have e3 := ((below_new w3 #[.int .i64 x, .int .i64 a] 3).block _ (row_lt e2)).trans e2
    have e4 := (hb6.block _ (row_lt e3)).trans e3
    exact (hb9.block _ (row_lt e4)).trans e4
  clear hr1 hb1 hb2 hb3 hb4 hb5 hb6 hb7 hb8 hb9 HV4
  go_wp2_with fail
  rw [HNV.out]
  with_reducible refine (epow_any 4 kk _ el_four hN64).mono ?_
  rintro e w6 ⟨rfl, hb11⟩
  have hb12 := hb10.trans (hb11.mono hb10.size)
  have hr12 := (hb11.block _ (row_lt hr10)).trans hr10
  clear hr10 hb11
  go_wp2_with fail
  with_reducible refine (epow_any a kk _ ha hN64).mono ?_
  rintro e w7 ⟨rfl, hb13⟩
  have hb14 := hb12.trans (hb13.mono hb12.size)
  have hr14 := (hb13.block _ (row_lt hr12)).trans hr12
  have hg14 := hG.below hb14
  have HRS := Lib.hid (show ∀ z ∈ [powE 4 x, a, powE a x, powE 4 kk, powE a kk], R64 z by intro z hz; simp at hz; rcases hz with rfl | rfl | rfl | rfl | rfl; exact (el_powE el_four x).r64; exact ha.r64; exact (el_powE ha x).r64; exact (el_powE el_four kk).r64; exact (el_powE ha kk).r64)
  clear hr12 hb13 hb12 hb10 hg10
  go_wp2_with fail
  with_reducible refine (challenge_any _ _ _ _ _ _ HRS.out hg14).mono ?_
  rintro e w8 ⟨rfl, hb15⟩
  rw [HEV.out]
  have hb16 := hb14.trans (hb15.mono hb14.size)
  have hr16 := (hb15.block _ (row_lt hr14)).trans hr14
  have c0 : w8.cell? ⟨w.heap.size, 0, none⟩ = some (.int .i64 0) := row_cell hr16 rfl
  have c1 : w8.cell? ⟨w.heap.size, 1, none⟩ = some (.int .i64 0) := row_cell hr16 rfl
  have f0 := row_free hr16 0
  have f1 := row_free hr16 1
  have hr20 := row_set (row_set (row_set (row_set hr16 0 (.int .i64 EE)) 1 (.int .i64 SS)) 0 (.int .i64 EE)) 1 (.int .i64 SS)
  have d0 := Lib.hid (row_cell hr20 (k := 0) (v := .int .i64 EE) rfl)
  have d1 := Lib.hid (row_cell hr20 (k := 1) (v := .int .i64 SS) rfl)
  clear hr14 hb15 hb14 hg14 hr16 hr20
  have hm1 := HM1.out
  have hm2 := HM2.out
  go_wp2_with fail
  rw [HSV.out]
  clear hm1 hm2
  go_region_with (fail)
  all_goals
    go_wp2_with fail
    refine bodyPost_ret (v := .tuple #[.int .i64 (powE a x), .agg #[.int .i64 EE, .int .i64 SS], .int .i64 0]) (by simp [results, Tryd.results7, go_sem, d0.out, d1.out]) rfl ⟨rfl, ?_⟩
    repeat (first | exact hb16 | refine Below.drew ?_ | refine Below.setCell ?_ (by simp) _ | refine Below.alloc ?_ (by simp) _)

end Go.Proofs.YteodnbaogfdjbaaDoor

namespace Go.Proofs.YteodnbaogfdjbaaDoor

/-- Is a number from one to another one? -/
def inB (n lo hi : Int) : Bool := decide (lo ≤ n) && decide (n ≤ hi)
theorem inB_iff {n lo hi : Int} : inB n lo hi = true ↔ lo ≤ n ∧ n ≤ hi := by unfold inB; rw [Bool.and_eq_true, decide_eq_true_eq, decide_eq_true_eq]
theorem lt_le_dec (n : Int) : decide (n < 1073741789) = decide (n ≤ 1073741788) := decide_eq_decide.2 (by omega)
theorem lt_le_64 (n : Int) : decide (n < 64) = decide (n ≤ 63) := decide_eq_decide.2 (by omega)

end Go.Proofs.YteodnbaogfdjbaaDoor

namespace Go.Proofs.YteodnbaogfdjbaaDoor
open Go.RowKit FP

/-- The tag of pads. -/
def tagP : ByteArray := ⟨#[112, 97, 100]⟩
/-- The pad of an element, a dealer and a row. -/
def padV (d dealer row : Int) : Int := hashG (strB tagP) (encL [d, dealer, row])
theorem padV_num (d dealer row : Int) : 0 ≤ padV d dealer row ∧ padV d dealer row < 1073741789 := hashG_num _ _

/-- The error of the first condition that does not hold. -/
def firstE : List (Bool × Int) → Int
  | [] => 0
  | (true, _) :: l => firstE l
  | (false, e) :: _ => e
theorem firstE_cons (b : Bool) (e : Int) (l : List (Bool × Int)) : firstE ((b, e) :: l) = if b = true then firstE l else e := by
  cases b <;> rfl
/-- Is a parcel right? -/
def rightB (row pt c : Int) : Bool := inB row 0 63 && (elB pt && inB c 0 1073741788)
theorem rightB_first (row pt c : Int) : (firstE [(inB row 0 63, 350), (elB pt, 350), (inB c 0 1073741788, 350)] == 0) = rightB row pt c := by
  unfold rightB
  cases inB row 0 63 <;> cases elB pt <;> cases inB c 0 1073741788 <;> rfl
/-- Errors. -/
def sealE (u key dealer row value : Int) : Int := firstE [(inB u 1 1073741788, 110), (elB key, 100), (inB dealer 0 63, 1), (inB row 0 63, 1), (inB value 0 1073741788, 350)]
def openE (s dealer row pt c : Int) : Int := firstE [(inB s 1 1073741788, 110), (inB dealer 0 63, 1), (rightB row pt c, 350)]
def withE (d dealer row pt c : Int) : Int := firstE [(elB d, 100), (inB dealer 0 63, 1), (rightB row pt c, 350)]
structure Sealed (u key dealer row value : Int) : Prop where
  u : 1 ≤ u ∧ u ≤ 1073741788
  key : El key
  dealer : 0 ≤ dealer ∧ dealer ≤ 63
  row : 0 ≤ row ∧ row ≤ 63
  value : 0 ≤ value ∧ value ≤ 1073741788
structure RightP (row pt c : Int) : Prop where
  row : 0 ≤ row ∧ row ≤ 63
  pt : El pt
  c : 0 ≤ c ∧ c ≤ 1073741788
theorem rightB_iff {row pt c : Int} : rightB row pt c = true ↔ RightP row pt c := by
  unfold rightB
  rw [Bool.and_eq_true, Bool.and_eq_true, inB_iff, elB_iff, inB_iff]
  exact ⟨fun ⟨a, b, c⟩ => ⟨a, b, c⟩, fun ⟨a, b, c⟩ => ⟨a, b, c⟩⟩
theorem sealE_ok {u key dealer row value : Int} : sealE u key dealer row value = 0 ↔ Sealed u key dealer row value := by
  have h : sealE u key dealer row value = 0 ↔ inB u 1 1073741788 = true ∧ elB key = true ∧ inB dealer 0 63 = true ∧ inB row 0 63 = true ∧ inB value 0 1073741788 = true := by
    unfold sealE
    cases inB u 1 1073741788 <;> cases elB key <;> cases inB dealer 0 63 <;> cases inB row 0 63 <;> cases inB value 0 1073741788 <;> simp [firstE]
  rw [h, inB_iff, elB_iff, inB_iff, inB_iff, inB_iff]
  exact ⟨fun ⟨a, b, c, d, e⟩ => ⟨a, b, c, d, e⟩, fun ⟨a, b, c, d, e⟩ => ⟨a, b, c, d, e⟩⟩
theorem openE_ok {s dealer row pt c : Int} : openE s dealer row pt c = 0 ↔ (1 ≤ s ∧ s ≤ 1073741788) ∧ (0 ≤ dealer ∧ dealer ≤ 63) ∧ RightP row pt c := by
  have h : openE s dealer row pt c = 0 ↔ inB s 1 1073741788 = true ∧ inB dealer 0 63 = true ∧ rightB row pt c = true := by
    unfold openE
    cases inB s 1 1073741788 <;> cases inB dealer 0 63 <;> cases rightB row pt c <;> simp [firstE]
  rw [h, inB_iff, inB_iff, rightB_iff]
theorem withE_ok {d dealer row pt c : Int} : withE d dealer row pt c = 0 ↔ El d ∧ (0 ≤ dealer ∧ dealer ≤ 63) ∧ RightP row pt c := by
  have h : withE d dealer row pt c = 0 ↔ elB d = true ∧ inB dealer 0 63 = true ∧ rightB row pt c = true := by
    unfold withE
    cases elB d <;> cases inB dealer 0 63 <;> cases rightB row pt c <;> simp [firstE]
  rw [h, elB_iff, inB_iff, rightB_iff]
/-- What is sealed, and what is opened. -/
def cipV (u key dealer row value : Int) : Int := (value + padV (powE key u) dealer row) % 1073741789
def opnV (d dealer row c : Int) : Int := (c - padV d dealer row + 1073741789) % 1073741789
theorem cipV_num (u key dealer row value : Int) : 0 ≤ cipV u key dealer row value ∧ cipV u key dealer row value < 1073741789 := by unfold cipV; omega
theorem opnV_cipV {u key dealer row value : Int} (h : 0 ≤ value ∧ value ≤ 1073741788) : opnV (powE key u) dealer row (cipV u key dealer row value) = value := by
  unfold opnV cipV
  have := padV_num (powE key u) dealer row
  omega
/-- The power of the point is the power of the key. -/
theorem point_key (u s : Int) : powE (powE 4 u) s = powE (powE 4 s) u := by
  rw [powE_mul el_four, powE_mul el_four, Int.mul_comm]
theorem sealed_right {u key dealer row value : Int} (h : Sealed u key dealer row value) : RightP row (powE 4 u) (cipV u key dealer row value) :=
  ⟨h.row, el_powE el_four u, by have := cipV_num u key dealer row value; omega⟩

end Go.Proofs.YteodnbaogfdjbaaDoor

namespace Go.Proofs.YteodnbaogfdjbaaDoor
open Go.RowKit FP

set_option maxRecDepth 100000 in
set_option maxHeartbeats 2000000 in
theorem integers_any (v : Value) (zs : List Int) (w : World) (hI : Ints w v zs) (hl : zs.length ≤ 1000) :
    Calls Tryd.prog 65 #[v] w fun e w' => ∃ v', e = .returned v' ∧ Byts w' v' (encL zs) ∧ Below w.heap.size w w' := by
  obtain ⟨a, cap, rfl, hcap, hlen, hr, hk⟩ := hI
  have HR := Lib.hid hr
  have HK := Lib.hid hk
  clear hr hk
  go_enter Tryd.func65, Tryd.ntmps65
  go_wp2_with fail
  have h00 : TextI w zs 0 (w.alloc (.cells #[.int .i64 3, .int .i64 0, .string ⟨#[]⟩, .slice none 0 0] 70)) := ⟨_, World.alloc_heap_new _ _, World.ownsRow_nil _ _ _ _, (Below.refl _ _).alloc (Nat.le_refl _) _⟩
  go_loopw [11] (fun i W => ∃ k : Nat, k ≤ zs.length ∧ i = .int .i64 k ∧ TextI w zs k W) (fun i _ => zs.length - (intOf i).toNat)
  case atStart => exact ⟨0, Nat.zero_le _, rfl, h00⟩
  case round =>
    clear h00
    obtain ⟨k, hkl, rfl, L, hrow, hown, hbe⟩ := hrel
    have hbx := row_lt hrow
    by_cases hlt : k < zs.length
    · obtain ⟨b, off, rfl, q1⟩ := HK.out k hlt
      have hz := HR.out _ (List.getElem_mem hlt)
      have c1 := below_cell hbe q1
      have HT := Lib.hid (show zs.take k ++ [zs[k]] = zs.take (k + 1) from (List.take_succ_eq_append_getElem hlt).symm)
      generalize zs[k] = z at *
      have x3 : wr.cell? ⟨w.heap.size, 3, none⟩ = some L := row_cell hrow rfl
      have x0 : wr.cell? ⟨w.heap.size, 0, none⟩ = some (.int .i64 3) := row_cell hrow rfl
      obtain ⟨W1, hW1, hb1, hr1⟩ := boxed4 wr (.int .i64 1) (.int .i64 z) (.string ⟨#[]⟩) (.slice none 0 0) 70
      have HOW := Lib.hid (own_keep hown hb1)
      have HCE : Hid (∀ j u, (valC z)[j]? = some u → W1.cell? ⟨wr.heap.size, j, none⟩ = some u) := Lib.hid (fun j u hj => row_cell hr1 (by
        match j with
        | 0 | 1 | 2 | 3 => exact hj
        | n + 4 => simp [valC] at hj))
      have HNE := Lib.hid (own_ne hown (b := w.heap.size) (.inr (by omega)))
      have HRW := Lib.hid ((hb1.block _ hbx).trans hrow)
      have HBX : Hid (w.heap.size < W1.heap.size) := Lib.hid (Nat.lt_of_lt_of_le hbx hb1.size)
      have HB1 := Lib.hid hb1
      have HW1 := Lib.hid hW1
      have hk1 : k ≤ 1000 := by omega
      have hbs : w.heap.size + 1 ≤ W1.heap.size := Nat.lt_of_lt_of_le hbx hb1.size
      have HBS := Lib.hid hbs
      clear q1 hown hrow hr1 hb1 hW1 hbs
      go_wp2_with (refine app_val rfl _ _ rfl (w.heap.size + 1) _ (zs.take k) _ rfl (HW1.out ▸ HOW.out) wr.heap.size 1 z rfl (HW1.out ▸ HCE.out) (by omega) (HW1.out ▸ HBS.out) ?_; rw [← HW1.out]; intro g8 cap8 w8 h8 o8; have hr8 := (o8.1.block _ HBX.out (fun e => HNE.out e.symm)).trans HRW.out; have y3 : w8.cell? ⟨w.heap.size, 3, none⟩ = some L := row_cell hr8 rfl; have f3 := row_free hr8 3; have HR8 := Lib.hid hr8; have H8 := Lib.hid h8; have O8 := Lib.hid o8; clear hr8 h8 o8)
      go_roundw
      case rel => exact ⟨k + 1, by omega, by go_num, _, row_set HR8.out 3 _, by
        have hb8 := own_below HOW.out O8.out.1 HBS.out
        refine own_keep_set ?_ (Nat.lt_succ_self _) _
        rw [← HT.out]; exact H8.out, ((hbe.trans (HB1.out.mono hbe.size)).trans (own_below HOW.out O8.out.1 HBS.out |>.mono (Nat.le_succ _))).setCell (Nat.le_refl _) _⟩
      case measure => simp [intOf]; omega
    · have hk2 : k = zs.length := by omega
      rw [hk2, List.take_length] at hown
      have hVl := Lib.hid (Vals.own hown HR.out (by omega))
      have x0 : wr.cell? ⟨w.heap.size, 0, none⟩ = some (.int .i64 3) := row_cell hrow rfl
      have x1 : wr.cell? ⟨w.heap.size, 1, none⟩ = some (.int .i64 0) := row_cell hrow rfl
      have x2 : wr.cell? ⟨w.heap.size, 2, none⟩ = some (.string ⟨#[]⟩) := row_cell hrow rfl
      have x3 : wr.cell? ⟨w.heap.size, 3, none⟩ = some L := row_cell hrow rfl
      have hdt : decide (k < zs.length) = false := decide_eq_false hlt
      obtain ⟨aL, cL, hLe, -⟩ := id hVl.out
      subst hLe
      clear hown hrow hk2
      go_wp2_with fail
      refine (encode_any _ zs _ hVl.out).mono ?_
      rintro e w9 ⟨v9, rfl, hv9, hb9⟩
      have HV9 := Lib.hid hv9
      clear hv9
      go_wp2_with fail
      go_ret
      exact ⟨_, rfl, HV9.out, hbe.trans (hb9.mono hbe.size)⟩

set_option maxRecDepth 100000 in
set_option maxHeartbeats 1000000 in
theorem pad_any (d dealer row : Int) (w : World) (h : ∀ z ∈ [d, dealer, row], R64 z) (hG : Glob w) :
    Calls Tryd.prog 40 #[.int .i64 d, .int .i64 dealer, .int .i64 row] w fun e w' => e = .returned (.int .i64 (padV d dealer row)) ∧ Below w.heap.size w w' := by
  have hI := Lib.hid (ints_made w [d, dealer, row] 3 w.heap.size rfl h (by simp))
  have hb0 := below_new w #[.int .i64 d, .int .i64 dealer, .int .i64 row] 3
  go_enter Tryd.func40, Tryd.ntmps40
  go_wp2_with fail
  refine (integers_any _ [d, dealer, row] _ hI.out (by simp)).mono ?_
  rintro e w1 ⟨v1, rfl, hv1, hb1⟩
  have hb01 := hb0.trans (hb1.mono hb0.size)
  have HV := Lib.hid hv1
  clear hv1
  go_wp2_with fail
  refine (hash_any tagP v1 (encL [d, dealer, row]) _ (by decide) HV.out (encL_pos _) (by have := encL_len h (by simp); simp at this; omega) (hG.below hb01)).mono ?_
  rintro e w2 ⟨rfl, hb2⟩
  go_wp2_with fail
  go_ret
  exact ⟨rfl, hb01.trans (hb2.mono hb01.size)⟩

end Go.Proofs.YteodnbaogfdjbaaDoor

namespace Go.Proofs.YteodnbaogfdjbaaDoor
open Go.RowKit FP

/-- The blocks from lo on are as they were. -/
structure Keep (lo : Nat) (w w' : World) : Prop where
  size : w.heap.size ≤ w'.heap.size
  block : ∀ k, lo ≤ k → k < w.heap.size → w'.heap[k]? = w.heap[k]?
theorem Keep.below {lo : Nat} {w w' : World} (h : Below w.heap.size w w') : Keep lo w w' := ⟨h.size, fun k _ hk => h.block k hk⟩
theorem Keep.trans {lo : Nat} {a b c : World} (h : Keep lo a b) (k : Keep lo b c) : Keep lo a c :=
  ⟨Nat.le_trans h.size k.size, fun x h1 h2 => (k.block x h1 (Nat.lt_of_lt_of_le h2 h.size)).trans (h.block x h1 h2)⟩
theorem Keep.low {lo lo' : Nat} {w w' : World} (h : Keep lo w w') (hl : lo ≤ lo') : Keep lo' w w' := ⟨h.size, fun k h1 h2 => h.block k (Nat.le_trans hl h1) h2⟩
theorem Keep.setCell {lo : Nat} {w w' : World} (h : Keep lo w w') {b o : Nat} (hb : b < lo) (v : Value) : Keep lo w (w'.setCell ⟨b, o, none⟩ v) :=
  ⟨by simpa [World.setCell] using h.size, fun k h1 h2 => (Below.heap_setCell _ _ _ _ (by show k ≠ b; omega)).trans (h.block k h1 h2)⟩
theorem Keep.refl (lo : Nat) (w : World) : Keep lo w w := ⟨Nat.le_refl _, fun _ _ _ => rfl⟩
theorem Keep.cell {lo : Nat} {w w' : World} (h : Keep lo w w') {b o : Nat} {v : Value} (hb : lo ≤ b) (hc : w.cell? ⟨b, o, none⟩ = some v) : w'.cell? ⟨b, o, none⟩ = some v := by
  have := h.block b hb (lt_of_cell hc)
  unfold World.cell? at hc ⊢
  rw [this]; exact hc
/-- The callee answers b, whatever has been laid behind, or written below lo. -/
def CondF (lo : Nat) (w : World) (f : FuncId) (cap : Array Value) (b : Bool) : Prop :=
  Goes Tryd.prog f ∧ ∀ w', Keep lo w w' → Calls Tryd.prog f cap w' fun e w'' => e = .returned (.bool b) ∧ Below w'.heap.size w' w''
theorem CondF.keep {lo : Nat} {w w' : World} {f : FuncId} {cap : Array Value} {b : Bool} (h : CondF lo w f cap b) (hb : Keep lo w w') : CondF lo w' f cap b :=
  ⟨h.1, fun w'' h2 => h.2 w'' (hb.trans h2)⟩
theorem CondF.low {lo lo' : Nat} {w : World} {f : FuncId} {cap : Array Value} {b : Bool} (h : CondF lo' w f cap b) (hl : lo ≤ lo') : CondF lo w f cap b :=
  ⟨h.1, fun w'' h2 => h.2 w'' (h2.low hl)⟩
/-- A call leaves a condition. -/
def CondR (b : Bool) (e : Int) (w : World) (r : Ending) (w' : World) : Prop :=
  ∃ f cap, r = .returned (.agg #[.func (.func f) #[] cap, .int .i64 e]) ∧ CondF w.heap.size w' f cap b ∧ Below w.heap.size w w'

set_option maxRecDepth 100000 in
theorem goes_within1 : Goes Tryd.prog 64 := goes_of Tryd.func64 (by kernel_rfl) rfl
set_option maxRecDepth 100000 in
theorem goes_element1 : Goes Tryd.prog 63 := goes_of Tryd.func63 (by kernel_rfl) rfl
set_option maxRecDepth 100000 in
theorem goes_right1 : Goes Tryd.prog 68 := goes_of Tryd.func68 (by kernel_rfl) rfl

set_option maxRecDepth 100000 in
set_option maxHeartbeats 400000 in
theorem within1_any (lb nb hb : Nat) (n lo hi : Int) (w : World) (c0 : w.cell? ⟨lb, 0, none⟩ = some (.int .i64 lo)) (c1 : w.cell? ⟨nb, 0, none⟩ = some (.int .i64 n)) (c2 : w.cell? ⟨hb, 0, none⟩ = some (.int .i64 hi)) :
    Calls Tryd.prog 64 #[.pointer (some ⟨lb, 0, none⟩), .pointer (some ⟨nb, 0, none⟩), .pointer (some ⟨hb, 0, none⟩)] w fun e w' => e = .returned (.bool (inB n lo hi)) ∧ Below w.heap.size w w' := by
  by_cases h1 : lo ≤ n
  · have H := Lib.hid (show inB n lo hi = decide (n ≤ hi) by unfold inB; rw [decide_eq_true h1, Bool.true_and])
    go_enter Tryd.func64, Tryd.ntmps64
    go_wp2_with fail
    go_ret
    exact ⟨ret_bool H.out.symm, Below.refl _ _⟩
  · have H := Lib.hid (show inB n lo hi = false by unfold inB; rw [decide_eq_false h1, Bool.false_and])
    go_enter Tryd.func64, Tryd.ntmps64
    go_wp2_with fail
    go_ret
    exact ⟨ret_bool H.out.symm, Below.refl _ _⟩

set_option maxRecDepth 100000 in
set_option maxHeartbeats 400000 in
theorem element1_any (nb : Nat) (n : Int) (w : World) (hn : R64 n) (c1 : w.cell? ⟨nb, 0, none⟩ = some (.int .i64 n)) :
    Calls Tryd.prog 63 #[.pointer (some ⟨nb, 0, none⟩)] w fun e w' => e = .returned (.bool (elB n)) ∧ Below w.heap.size w w' := by
  go_enter Tryd.func63, Tryd.ntmps63
  go_wp2_with fail
  with_reducible refine (valid_any _ _ hn).mono ?_
  rintro e w1 ⟨rfl, rfl⟩
  go_wp2_with fail
  go_ret
  exact ⟨rfl, Below.refl _ _⟩

set_option maxRecDepth 100000 in
set_option maxHeartbeats 1000000 in
theorem within_any (n lo hi e : Int) (w : World) :
    Calls Tryd.prog 39 #[.int .i64 n, .int .i64 lo, .int .i64 hi, .int .i64 e] w (CondR (inB n lo hi) e w) := by
  have hmf : ∀ (fn : Fn) (first cap : Array Value) (w : World), (Instr.makeFunc fn first cap).run Tryd.prog w = .ok (.func fn first cap) w := fun _ _ _ _ => rfl
  go_enter Tryd.func39, Tryd.ntmps39
  go_wp2_with fail
  refine bodyPost_ret (v := .agg #[.func (.func 64) #[] #[.pointer (some ⟨w.heap.size + 1, 0, none⟩), .pointer (some ⟨w.heap.size, 0, none⟩), .pointer (some ⟨w.heap.size + 1 + 1, 0, none⟩)], .int .i64 e]) (by simp [results, Tryd.results39, go_sem]) rfl ?_
  refine ⟨_, _, rfl, ⟨goes_within1, fun w' hb => ?_⟩, ?_⟩
  · exact within1_any _ _ _ n lo hi w' (hb.cell (by omega) (by simp [go_sem])) (hb.cell (by omega) (by simp [go_sem])) (hb.cell (by omega) (by simp [go_sem]))
  · repeat (first | exact Below.refl _ _ | refine Below.setCell ?_ (by simp; try omega) _ | refine Below.alloc ?_ (by simp; try omega) _ | refine Below.drew ?_)

set_option maxRecDepth 100000 in
set_option maxHeartbeats 1000000 in
theorem element_any (n e : Int) (w : World) (hn : R64 n) :
    Calls Tryd.prog 37 #[.int .i64 n, .int .i64 e] w (CondR (elB n) e w) := by
  have hmf : ∀ (fn : Fn) (first cap : Array Value) (w : World), (Instr.makeFunc fn first cap).run Tryd.prog w = .ok (.func fn first cap) w := fun _ _ _ _ => rfl
  go_enter Tryd.func37, Tryd.ntmps37
  go_wp2_with fail
  refine bodyPost_ret (v := .agg #[.func (.func 63) #[] #[.pointer (some ⟨w.heap.size, 0, none⟩)], .int .i64 e]) (by simp [results, Tryd.results37, go_sem]) rfl ?_
  refine ⟨_, _, rfl, ⟨goes_element1, fun w' hb => ?_⟩, ?_⟩
  · exact element1_any _ n w' hn (hb.cell (Nat.le_refl _) (by simp [go_sem]))
  · repeat (first | exact Below.refl _ _ | refine Below.setCell ?_ (by simp; try omega) _ | refine Below.alloc ?_ (by simp; try omega) _ | refine Below.drew ?_)

end Go.Proofs.YteodnbaogfdjbaaDoor

namespace Go.Proofs.YteodnbaogfdjbaaDoor
open Go.RowKit FP

/-- The slice v reads as conditions. -/
def Conds (w : World) (v : Value) (cs : List (Bool × Int)) : Prop :=
  ∃ b off c, v = .slice (some ⟨b, off, none⟩) cs.length c ∧ cs.length ≤ c ∧ cs.length ≤ 1000 ∧
    ∀ k (h : k < cs.length), ∃ lo f cap, w.cell? ⟨b, off + k * 2, none⟩ = some (.func (.func f) #[] cap) ∧ w.cell? ⟨b, off + k * 2 + 1, none⟩ = some (.int .i64 cs[k].2) ∧ CondF lo w f cap cs[k].1
theorem firstE_none {cs : List (Bool × Int)} (h : ∀ x ∈ cs, x.1 = true) : firstE cs = 0 := by
  induction cs with
  | nil => rfl
  | cons x l ih =>
    obtain ⟨b, e⟩ := x
    have : b = true := h (b, e) (by simp)
    subst this
    exact ih (fun y hy => h y (by simp [hy]))
theorem firstE_at {cs : List (Bool × Int)} {k : Nat} (hk : k < cs.length) (h : ∀ x ∈ cs.take k, x.1 = true) (hp : cs[k].1 = false) : firstE cs = cs[k].2 := by
  induction cs generalizing k with
  | nil => exact absurd hk (Nat.not_lt_zero _)
  | cons x l ih =>
    obtain ⟨b, e⟩ := x
    cases k with
    | zero =>
      have : b = false := hp
      subst this; rfl
    | succ k =>
      have : b = true := h (b, e) (by simp)
      subst this
      exact ih (by simpa using hk) (fun y hy => h y (by simp [hy])) hp

set_option maxRecDepth 100000 in
set_option maxHeartbeats 1000000 in
theorem unmet_any (f : FuncId) (cap : Array Value) (b : Bool) (e : Int) (lo : Nat) (w : World) (hF : CondF lo w f cap b) :
    Calls Tryd.prog 62 #[.agg #[.func (.func f) #[] cap, .int .i64 e]] w fun r w' => r = .returned (.bool (!b)) ∧ Below w.heap.size w w' := by
  have hE' : ∀ (args : Array Value) (w : World), (callFunc f args).run Tryd.prog w = .ok (.enter f args) w := hF.1
  have HB := Lib.hid (below_new w #[.func (.func f) #[] cap, .int .i64 e] 52)
  have HC := Lib.hid (hF.2 _ (Keep.below HB.out))
  clear hF
  go_enter Tryd.func62, Tryd.ntmps62
  go_wp2_with fail
  refine HC.out.mono ?_
  rintro r w1 ⟨rfl, hb1⟩
  go_wp2_with fail
  go_ret
  exact ⟨rfl, HB.out.trans (hb1.mono HB.out.size)⟩

/-- What first leaves. -/
def FirstR (cs : List (Bool × Int)) (w : World) (r : Ending) (w' : World) : Prop :=
  ((∃ f cap, r = .returned (.tuple #[.agg #[.func (.func f) #[] cap, .int .i64 (firstE cs)], .bool true])) ∨ (r = .returned (.tuple #[.agg #[.nilFunc, .int .i64 0], .bool false]) ∧ firstE cs = 0)) ∧ Below w.heap.size w w'

theorem cond_row (w : World) (t : TypeId) : ∃ W, W = w.alloc (.cells #[.nilFunc, .int .i64 0] t) ∧ Below w.heap.size w W ∧ W.heap[w.heap.size]? = some (.cells #[.nilFunc, .int .i64 0] t (0, 0)) :=
  ⟨_, rfl, below_new _ _ _, World.alloc_heap_new _ _⟩

set_option maxRecDepth 100000 in
set_option maxHeartbeats 2000000 in
theorem first_any (v : Value) (cs : List (Bool × Int)) (w : World) (hC : Conds w v cs) :
    Calls Tryd.prog 61 #[.func (.func 62) #[] #[], v] w (FirstR cs w) := by
  obtain ⟨b, off, c, rfl, hcap, hlen, hk⟩ := hC
  obtain ⟨W1, hW1, hb1, hr1⟩ := cond_row w 52
  have HK := Lib.hid hk
  have HW1 := Lib.hid hW1
  have HB1 := Lib.hid hb1
  have HR1 := Lib.hid hr1
  have hst := fun (a : Addr) (fn : Fn) (x y : Array Value) (w : World) => run_store Tryd.prog w a (.func fn x y) .plain rfl
  clear hk hW1 hb1 hr1
  go_enter Tryd.func61, Tryd.ntmps61
  go_wp2_with fail
  rw [← HW1.out]
  go_loopw [10] (fun i W => ∃ k : Nat, k ≤ cs.length ∧ i = .int .i64 k ∧ Hid (∀ x ∈ cs.take k, x.1 = true) ∧ Below W1.heap.size W1 W) (fun i _ => cs.length - (intOf i).toNat)
  case atStart => exact ⟨0, Nat.zero_le _, rfl, Lib.hid (by simp), Below.refl _ _⟩
  case round =>
    obtain ⟨k, hkl, rfl, HP, hb⟩ := hrel
    by_cases hlt : k < cs.length
    · obtain ⟨lo, f, cap, q1, q2, q3⟩ := HK.out k hlt
      have hb2 := HB1.out.trans (hb.mono HB1.out.size)
      have c1 := below_cell hb2 q1
      have c2 := below_cell hb2 q2
      have HF := Lib.hid (q3.keep (Keep.below hb2))
      obtain ⟨e, he⟩ : ∃ e, e = cs[k].2 := ⟨_, rfl⟩
      rw [← he] at c2
      have HE := Lib.hid he
      have hr2 := (hb.block _ (row_lt HR1.out)).trans HR1.out
      have HR2 := Lib.hid hr2
      have HB2 := Lib.hid hb
      have HB3 := Lib.hid (hb.alloc hb.size (.cells #[.func (.func f) #[] cap, .int .i64 e] 52))
      have HU := Lib.hid (unmet_any f cap cs[k].1 e lo _ (HF.out.keep (Keep.below (below_new wr #[.func (.func f) #[] cap, .int .i64 e] 52))))
      have y0 : (wr.alloc (.cells #[.func (.func f) #[] cap, .int .i64 e] 52)).cell? ⟨wr.heap.size, 0, none⟩ = some (.func (.func f) #[] cap) := by simp [go_sem]
      have y1 : (wr.alloc (.cells #[.func (.func f) #[] cap, .int .i64 e] 52)).cell? ⟨wr.heap.size, 1, none⟩ = some (.int .i64 e) := by simp [go_sem]
      have Y0 := Lib.hid y0
      have Y1 := Lib.hid y1
      clear q1 q2 q3 he hr2 hb hb2 y0 y1
      cases hp : cs[k].1 with
      | true =>
        have HN := Lib.hid (show ∀ x ∈ cs.take (k + 1), x.1 = true by
          rw [List.take_succ_eq_append_getElem hlt]
          intro z hz
          rcases List.mem_append.1 hz with h | h
          · exact HP.out z h
          · rw [List.mem_singleton.1 h]; exact hp)
        rw [hp] at HU
        clear hp
        go_wp2_with fail
        refine HU.out.mono ?_
        rintro r w1 ⟨rfl, hb1⟩
        go_wp2_with fail
        go_roundw
        case rel => exact ⟨k + 1, by omega, by go_num, HN, HB3.out.trans (hb1.mono HB3.out.size)⟩
        case measure => simp [intOf]; omega
      | false =>
        have HV := Lib.hid (show firstE cs = e by rw [HE.out]; exact firstE_at hlt HP.out hp)
        rw [hp] at HU
        clear hp
        go_wp2_with fail
        refine HU.out.mono ?_
        rintro r w1 ⟨rfl, hb1⟩
        have z0 := below_cell hb1 Y0.out
        have z1 := below_cell hb1 Y1.out
        have hr3 := (hb1.block _ (Nat.lt_of_lt_of_le (row_lt HR2.out) (by simp))).trans (((below_new wr #[.func (.func f) #[] cap, .int .i64 e] 52).block _ (row_lt HR2.out)).trans HR2.out)
        have x0 : w1.cell? ⟨w.heap.size, 0, none⟩ = some .nilFunc := row_cell hr3 rfl
        have x1 : w1.cell? ⟨w.heap.size, 1, none⟩ = some (.int .i64 0) := row_cell hr3 rfl
        have f0 := row_free hr3 0
        have f1 := row_free hr3 1
        have HR3 := Lib.hid hr3
        have HB4 := Lib.hid (HB1.out.trans ((HB3.out.trans (hb1.mono HB3.out.size)).mono HB1.out.size))
        clear hr3 hb1
        go_wp2_with fail
        have hr4 := row_set (row_set HR3.out 0 (.func (.func f) #[] cap)) 1 (.int .i64 e)
        have d0 := row_cell hr4 (k := 0) (v := .func (.func f) #[] cap) rfl
        have d1 := row_cell hr4 (k := 1) (v := .int .i64 e) rfl
        refine bodyPost_ret (v := .tuple #[.agg #[.func (.func f) #[] cap, .int .i64 e], .bool true]) (by simp [results, Tryd.results61, go_sem, d0, d1]) rfl ?_
        refine ⟨.inl ⟨f, cap, ?_⟩, ?_⟩
        · rw [HV.out]
        · repeat (first | exact HB4.out | refine Below.setCell ?_ (by simp) _)
    · have HV := Lib.hid (show firstE cs = 0 from firstE_none (by have := HP.out; rwa [List.take_of_length_le (by omega)] at this))
      have hr2 := (hb.block _ (row_lt HR1.out)).trans HR1.out
      have x0 : wr.cell? ⟨w.heap.size, 0, none⟩ = some .nilFunc := row_cell hr2 rfl
      have x1 : wr.cell? ⟨w.heap.size, 1, none⟩ = some (.int .i64 0) := row_cell hr2 rfl
      have f0 := row_free hr2 0
      have f1 := row_free hr2 1
      go_wp2_with fail
      have hr4 := row_set (row_set hr2 0 .nilFunc) 1 (.int .i64 0)
      have d0 := row_cell hr4 (k := 0) (v := .nilFunc) rfl
      have d1 := row_cell hr4 (k := 1) (v := .int .i64 0) rfl
      refine bodyPost_ret (v := .tuple #[.agg #[.nilFunc, .int .i64 0], .bool false]) (by simp [results, Tryd.results61, go_sem, d0, d1]) rfl ?_
      refine ⟨.inr ⟨rfl, HV.out⟩, ?_⟩
      have hb3 := HB1.out.trans (hb.mono HB1.out.size)
      repeat (first | exact hb3 | refine Below.setCell ?_ (by simp) _)

set_option maxRecDepth 100000 in
set_option maxHeartbeats 1000000 in
theorem pcheck_any (v : Value) (cs : List (Bool × Int)) (w : World) (hC : Conds w v cs) :
    Calls Tryd.prog 35 #[v] w fun r w' => r = .returned (.int .i64 (firstE cs)) ∧ Below w.heap.size w w' := by
  go_enter Tryd.func35, Tryd.ntmps35
  go_wp2_with fail
  refine (first_any v cs w hC).mono ?_
  clear hC
  rintro r w1 ⟨⟨f, cap, rfl⟩ | ⟨rfl, h0⟩, hb⟩
  · go_wp2_with fail
    go_ret
    exact ⟨rfl, by repeat (first | exact hb | refine Below.setCell ?_ (by simp) _ | refine Below.alloc ?_ hb.size _)⟩
  · have H0 := Lib.hid h0
    clear h0
    go_wp2_with fail
    go_ret
    exact ⟨ret_int H0.out.symm, by repeat (first | exact hb | refine Below.setCell ?_ (by simp) _ | refine Below.alloc ?_ hb.size _)⟩

end Go.Proofs.YteodnbaogfdjbaaDoor
