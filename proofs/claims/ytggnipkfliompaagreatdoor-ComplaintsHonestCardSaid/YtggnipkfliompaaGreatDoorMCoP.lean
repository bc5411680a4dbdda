/- The laws of complaints, in plain Lean: what Make and Settle answer about a sealed dealing. The laws of complaints: Guilty. The arguments of a law: read as rows and lists; and what a law's call leaves. A law's argument that is a program, a word or a list of words. -/
import Derived.Test.YtggnipkfliompaaGreatDoorMCoM
import Derived.Test.YtggnipkfliompaaGreatDoorMCoF
import Derived.Test.YtggnipkfliompaaGreatDoorMCoL
import Derived.Test.YtggnipkfliompaaGreatDoorMCoO
import Derived.Test.YtggnipkfliompaaGreatDoorRows
import Derived.Test.YtggnipkfliompaaGreatDoorMBase
import Derived.Test.YtggnipkfliompaaGreatDoorMLinU
import Derived.ProofKit
import Derived.OpenShut
import Derived.Carry
import Derived.ChangeSlices
import Derived.ReadAgain
import Derived.Deep.Matrix
import Derived.SizedLaws
import Derived.Lib.SmallJoins
namespace Go.Proofs.YtggnipkfliompaaGreatDoor
open Go.RowKit FP

section
variable {rows : List (List Int)} {owners ss : List Int} {x : Int} {rnd : List Int} {dealer row by' : Int} {i : Nat}
theorem Sml.mkE (h : Sml rows owners (x :: rnd) dealer ss) (hi : i < rows.length) : Proofs.YtggnipkfliompaaGreatDoor.mkE rows owners (ssF ss i) (dF rows (x :: rnd) dealer ss row by') (i : Int) = 0 := (h.sd row by').open0 hi (h.ss hi)
theorem Sml.mkB (h : Sml rows owners (x :: rnd) dealer ss) (hi : i < rows.length) (hby : 0 ≤ by' ∧ by' < 1073741789) : Proofs.YtggnipkfliompaaGreatDoor.mkB rows owners (ssF ss i) (dF rows (x :: rnd) dealer ss row by') (i : Int) = (decide ((i : Int) = row) && decide (by' ≠ 0)) :=
  ((h.sd row by').mkB hi).trans (by rw [vsF_wrong _ _ _ _ _ hby, Bool.not_not])
theorem wrong_ne (hby : 0 ≤ by' ∧ by' < 1073741789) (hw : (decide ((i : Int) = row) && decide (by' ≠ 0)) = true) : vsF rows (x :: rnd) row by' i ≠ prodQ (rows.getD i []) (x :: rnd) := fun e => by
  have h1 := vsF_wrong rows (x :: rnd) row by' i hby
  rw [hw, decide_eq_true e] at h1
  cases h1
theorem Sml.mkC (h : Sml rows owners (x :: rnd) dealer ss) (hi : i < rows.length) (hby : 0 ≤ by' ∧ by' < 1073741789) (hw : (decide ((i : Int) = row) && decide (by' ≠ 0)) = true) : Proofs.YtggnipkfliompaaGreatDoor.mkC rows owners (ssF ss i) (dF rows (x :: rnd) dealer ss row by') (i : Int) = ownC dealer (usF ss) (ssF ss) i :=
  (h.sd row by').mkC hi (wrong_ne hby hw)
theorem Sml.st (h : Sml rows owners (x :: rnd) dealer ss) (hi : i < rows.length) (hby : 0 ≤ by' ∧ by' < 1073741789) (hw : (decide ((i : Int) = row) && decide (by' ≠ 0)) = true) :
    stE rows owners (powE 4 (ssF ss i)) (dF rows (x :: rnd) dealer ss row by') (ownC dealer (usF ss) (ssF ss) i) = 0 ∧ stG rows owners (powE 4 (ssF ss i)) (dF rows (x :: rnd) dealer ss row by') (ownC dealer (usF ss) (ssF ss) i) = 1 := by
  refine ⟨(h.sd row by').stE0 hi _ _ rfl rfl, ((h.sd row by').own hi _ _ rfl rfl rfl).trans ?_⟩
  rw [if_neg, if_neg]
  · rw [decide_eq_true_eq]; exact wrong_ne hby hw
  · have := own_chk (ss := ssF ss) (us := usF ss) i
    show ¬ chkB (powE 4 (ssF ss i)) (powE 4 (usF ss i)) (ownD (usF ss) (ssF ss) i) (prE (ssF ss i) (powE 4 (usF ss i))) (prS (ssF ss i) (powE 4 (usF ss i))) = false
    rw [this]; decide
theorem hon_fit : vsF rows (x :: rnd) (-1) 0 i = prodQ (rows.getD i []) (x :: rnd) := if_neg (by omega)
theorem Sml.hst (h : Sml rows owners (x :: rnd) dealer ss) (hi : i < rows.length) (key : Int) (c : Cmp) (hd : c.dealer = dealer) (hr : c.row = (i : Int)) :
    stE rows owners key (dF rows (x :: rnd) dealer ss (-1) 0) c = 0 ∧ (stG rows owners key (dF rows (x :: rnd) dealer ss (-1) 0) c = 2 ∨ (stG rows owners key (dF rows (x :: rnd) dealer ss (-1) 0) c = 1 ∧ chkB key (powE 4 (usF ss i)) c.D c.E c.S = true ∧ c.D ≠ ownD (usF ss) (ssF ss) i)) := by
  refine ⟨(h.sd (-1) 0).stE0 hi _ _ hd hr, ?_⟩
  have e1 := (h.sd (-1) 0).stG hi key c hd hr
  by_cases hD : c.D = ownD (usF ss) (ssF ss) i
  · left
    refine ((h.sd (-1) 0).own hi key c hd hr hD).trans ?_
    rw [if_pos (show decide (vsF rows (x :: rnd) (-1) 0 i = _) = true from decide_eq_true hon_fit)]
    split <;> rfl
  · cases hc : chkB key (powE 4 (usF ss i)) c.D c.E c.S with
    | false =>
      left
      exact e1.trans (if_pos hc)
    | true =>
      rw [if_neg (by rw [hc]; decide)] at e1
      by_cases h2 : opnV c.D dealer (i : Int) (cipV (usF ss i) (powE 4 (ssF ss i)) dealer (i : Int) (vsF rows (x :: rnd) (-1) 0 i)) = prodQ (rows.getD i []) (x :: rnd)
      · left; exact e1.trans (if_pos (decide_eq_true h2))
      · right; exact ⟨e1.trans (if_neg (by rw [decide_eq_true_eq]; exact h2)), rfl, hD⟩
theorem Sml.hown (h : Sml rows owners (x :: rnd) dealer ss) (hi : i < rows.length) (key : Int) : stE rows owners key (dF rows (x :: rnd) dealer ss (-1) 0) (ownC dealer (usF ss) (ssF ss) i) = 0 ∧ stG rows owners key (dF rows (x :: rnd) dealer ss (-1) 0) (ownC dealer (usF ss) (ssF ss) i) = 2 := by
  refine ⟨(h.sd (-1) 0).stE0 hi _ _ rfl rfl, ((h.sd (-1) 0).own hi key _ rfl rfl rfl).trans ?_⟩
  rw [if_pos (show decide (vsF rows (x :: rnd) (-1) 0 i = _) = true from decide_eq_true hon_fit)]
  split <;> rfl
end

end Go.Proofs.YtggnipkfliompaaGreatDoor

namespace Go.Proofs.YtggnipkfliompaaGreatDoor
open Go.RowKit FP

theorem Sml.cons {rows : List (List Int)} {owners numbers ss : List Int} {dealer : Int} (h : Sml rows owners numbers dealer ss) : ∃ x rnd, numbers = x :: rnd := by
  cases numbers with
  | nil => have h1 := (progE_ok h.p0).cols; have h2 := h.nl; simp at h2; omega
  | cons x rnd => exact ⟨x, rnd, rfl⟩
set_option maxRecDepth 100000 in
theorem sealedN_any (rv ov mv sv : Value) (rows : List (List Int)) (owners numbers : List Int) (dealer : Int) (ss : List Int) (row by' : Int) (w : World) (hG : Glob w) (hR : Rows2 w rv rows) (hO : Ints w ov owners) (hM : Ints w mv numbers) (hS : Ints w sv ss) (h : Sml rows owners numbers dealer ss) (hby : 0 ≤ by' ∧ by' < 1073741789) :
    Calls Tryz.prog 20 #[.agg #[rv, ov], mv, .int .i64 dealer, sv, .int .i64 row, .int .i64 by'] w fun r w' => ∃ v, r = .returned (.tuple #[v, .bool true]) ∧ SealR rows numbers dealer ss row by' w.heap.size v w' ∧ Below w.heap.size w w' := by
  obtain ⟨x, rnd, rfl⟩ := h.cons
  exact sealed36_any rv ov mv sv rows owners x rnd dealer ss row by' w hG hR hO hM hS h hby
/-- What Make and Settle answer. -/
theorem Sml.made {rows : List (List Int)} {owners numbers ss : List Int} {dealer row by' : Int} {i : Nat} (h : Sml rows owners numbers dealer ss) (hi : i < rows.length) (hby : 0 ≤ by' ∧ by' < 1073741789) :
    Proofs.YtggnipkfliompaaGreatDoor.mkE rows owners (ssF ss i) (dF rows numbers dealer ss row by') (i : Int) = 0 ∧ Proofs.YtggnipkfliompaaGreatDoor.mkB rows owners (ssF ss i) (dF rows numbers dealer ss row by') (i : Int) = (decide ((i : Int) = row) && decide (by' ≠ 0)) ∧
    ((decide ((i : Int) = row) && decide (by' ≠ 0)) = false → Proofs.YtggnipkfliompaaGreatDoor.mkC rows owners (ssF ss i) (dF rows numbers dealer ss row by') (i : Int) = ⟨0, 0, 0, 0, 0⟩) ∧
    ((decide ((i : Int) = row) && decide (by' ≠ 0)) = true → Proofs.YtggnipkfliompaaGreatDoor.mkC rows owners (ssF ss i) (dF rows numbers dealer ss row by') (i : Int) = ownC dealer (usF ss) (ssF ss) i ∧ stE rows owners (powE 4 (ssF ss i)) (dF rows numbers dealer ss row by') (ownC dealer (usF ss) (ssF ss) i) = 0 ∧ stG rows owners (powE 4 (ssF ss i)) (dF rows numbers dealer ss row by') (ownC dealer (usF ss) (ssF ss) i) = 1) := by
  obtain ⟨x, rnd, rfl⟩ := h.cons
  exact ⟨h.mkE hi, h.mkB hi hby, fun hw => mkC_no ((h.mkB hi hby).trans hw), fun hw => ⟨h.mkC hi hby hw, h.st hi hby hw⟩⟩
set_option maxRecDepth 100000 in
theorem makeF_any (rv ov cv pv : Value) (rows : List (List Int)) (owners s : List Int) (dealer : Int) (ss : List Int) (row by' n k : Int) (w : World) (hG : Glob w) (hR : Rows2 w rv rows) (hO : Ints w ov owners) (hC : Ints w cv (dealC s)) (hP : Parcels w pv (dF rows s dealer ss row by').ps) (hn : R64 n) (hk : R64 k) :
    Calls Tryz.prog 15 #[.agg #[rv, ov], .int .i64 n, .agg #[.int .i64 dealer, cv, pv], .int .i64 k] w fun r w' =>
      r = .returned (.tuple #[cmpV (Proofs.YtggnipkfliompaaGreatDoor.mkC rows owners n (dF rows s dealer ss row by') k), .bool (Proofs.YtggnipkfliompaaGreatDoor.mkB rows owners n (dF rows s dealer ss row by') k), .int .i64 (Proofs.YtggnipkfliompaaGreatDoor.mkE rows owners n (dF rows s dealer ss row by') k)]) ∧ Below w.heap.size w w' :=
  cMake_any rv ov cv pv rows owners (dF rows s dealer ss row by') n k w hG hR hO hC hP hn hk
set_option maxRecDepth 100000 in
theorem settleF_any (rv ov cv pv : Value) (rows : List (List Int)) (owners s : List Int) (dealer : Int) (ss : List Int) (row by' key cd cr D E S : Int) (w : World) (hG : Glob w) (hR : Rows2 w rv rows) (hO : Ints w ov owners) (hC : Ints w cv (dealC s)) (hP : Parcels w pv (dF rows s dealer ss row by').ps) (hk : R64 key) (hc : CmpR ⟨cd, cr, D, E, S⟩) :
    Calls Tryz.prog 17 #[.agg #[rv, ov], .int .i64 key, .agg #[.int .i64 dealer, cv, pv], .agg #[.int .i64 cd, .int .i64 cr, .int .i64 D, .int .i64 E, .int .i64 S]] w fun r w' =>
      r = .returned (.tuple #[.int .i64 (Proofs.YtggnipkfliompaaGreatDoor.stG rows owners key (dF rows s dealer ss row by') ⟨cd, cr, D, E, S⟩), .int .i64 (Proofs.YtggnipkfliompaaGreatDoor.stE rows owners key (dF rows s dealer ss row by') ⟨cd, cr, D, E, S⟩)]) ∧ Below w.heap.size w w' :=
  cSettle_any rv ov cv pv rows owners (dF rows s dealer ss row by') ⟨cd, cr, D, E, S⟩ key w hG hR hO hC hP hk hc
theorem own_cmpR (dealer : Int) (ss : List Int) (i : Nat) (hd : 0 ≤ dealer ∧ dealer ≤ 63) (hi : i < 64) : CmpR (ownC dealer (usF ss) (ssF ss) i) :=
  ⟨R64.mk (by show (-4611686018427387904 : Int) ≤ dealer; omega) (by show dealer ≤ 4611686018427387904; omega), R64.mk (by show (-4611686018427387904 : Int) ≤ (i : Int); omega) (by show (i : Int) ≤ 4611686018427387904; omega), (el_powE (el_powE el_four _) _).r64, num_r64 (prE_num _ _), num_r64 (prS_num _ _)⟩

set_option maxRecDepth 100000 in
set_option maxHeartbeats 8000000 in
theorem guilty36_any (rv ov mv sv : Value) (rows : List (List Int)) (owners numbers : List Int) (dealer : Int) (ss : List Int) (row byn : Nat) (w : World) (hG : Glob w) (hR : Rows2 w rv rows) (hO : Ints w ov owners) (hM : Ints w mv numbers) (hS : Ints w sv ss) (hrow : row < 256) (hbyn : byn < 4294967296) :
    Calls Tryz.prog 5 #[.agg #[rv, ov], mv, .int .i64 dealer, sv, .int .u8 (row : Int), .int .u32 (byn : Int)] w fun r w' => r = .returned (.bool true) ∧ Below w.heap.size w w' := by
  have HG := Lib.hid (fun W (h : Below w.heap.size w W) => hG.below h)
  obtain ⟨W1, hW1, hb1, hr1, hz⟩ := box_prog w rv ov 25
  have HR := Lib.hid (hR.below hb1)
  have HO := Lib.hid (hO.below hb1)
  have HM := Lib.hid (hM.below hb1)
  have HS := Lib.hid (hS.below hb1)
  obtain ⟨a1, k1, rfl, -, hl1, -⟩ := id hR
  obtain ⟨a2, k2, rfl, -, hl2, -⟩ := id hO
  obtain ⟨a3, k3, rfl, -, hl3, -⟩ := id hM
  obtain ⟨a4, k4, rfl, -, hl4, -⟩ := id hS
  have Q1 := Lib.hid hr1
  have HB := Lib.hid hb1
  have HW1 := Lib.hid hW1
  have c0 := row_cell hr1 (k := 0) rfl
  have c1 := row_cell hr1 (k := 1) rfl
  have wrow : IntKind.i64.wrap (row : Int) = (row : Int) := IntWalk.i64_in _ (by omega)
  clear hG hR hO hM hS hr1 hW1 hb1 hz
  go_enter Tryz.func5, Tryz.ntmps5
  go_wp2_with (rw [← HW1.out])
  with_reducible refine (sane36_any _ (HG.out _ HB.out)).mono ?_
  rintro e w2 ⟨rfl, hb2⟩
  replace c0 := below_cell hb2 c0
  replace c1 := below_cell hb2 c1
  replace HR := Lib.hid (HR.out.below hb2)
  replace HO := Lib.hid (HO.out.below hb2)
  replace HM := Lib.hid (HM.out.below hb2)
  replace HS := Lib.hid (HS.out.below hb2)
  replace Q1 := Lib.hid ((hb2.block _ (row_lt Q1.out)).trans Q1.out)
  replace HB := Lib.hid (HB.out.trans (hb2.mono HB.out.size))
  clear hb2
  clear HW1
  go_wp2_with fail
  with_reducible refine (small36_any _ _ _ _ rows owners numbers dealer ss row _ HR.out HO.out HM.out HS.out hrow).mono ?_
  rintro e w3 ⟨b, rfl, hsm, hb3⟩
  replace c0 := below_cell hb3 c0
  replace c1 := below_cell hb3 c1
  replace HR := Lib.hid (HR.out.below hb3)
  replace HO := Lib.hid (HO.out.below hb3)
  replace HM := Lib.hid (HM.out.below hb3)
  replace HS := Lib.hid (HS.out.below hb3)
  replace Q1 := Lib.hid ((hb3.block _ (row_lt Q1.out)).trans Q1.out)
  replace HB := Lib.hid (HB.out.trans (hb3.mono HB.out.size))
  clear hb3
  cases b with
  | false =>
    clear hsm
    go_wp2_with fail
    go_ret
    exact ⟨rfl, HB.out⟩
  | true =>
  obtain ⟨hsm, hrl⟩ := hsm rfl
  have hby : 0 ≤ ((byn : Int) % 1073741789) ∧ ((byn : Int) % 1073741789) < 1073741789 := mod_num _
  obtain ⟨b', hb'⟩ : ∃ b', b' = (byn : Int) % 1073741789 := ⟨_, rfl⟩
  rw [← hb'] at hby
  have y1 : IntKind.i64.wrap (byn : Int) = (byn : Int) := IntWalk.i64_in _ (by omega)
  have y2 : (byn : Int).tmod 1073741789 = b' := by rw [hb']; exact Int.tmod_eq_emod_of_nonneg (by omega)
  have y3 : IntKind.i64.wrap b' = b' := IntWalk.i64_in _ (by omega)
  have y4 : IntKind.u32.wrap b' = b' := by have := hby; simp [IntKind.wrap, IntKind.bits, IntKind.signed]; omega
  have HSM := Lib.hid hsm
  have HBY := Lib.hid hby
  clear hsm hrl hb' hby hrow hbyn
  go_wp2_with fail
  with_reducible refine (sealedN_any _ _ _ _ rows owners numbers dealer ss (row : Int) b' _ (HG.out _ HB.out) HR.out HO.out HM.out HS.out HSM.out HBY.out).mono ?_
  rintro e w4 ⟨v4, rfl, ⟨gc, oc, kc, gp, kp, rfl, hc4, hp4, -, -⟩, hb4⟩
  replace c0 := below_cell hb4 c0
  replace c1 := below_cell hb4 c1
  replace HR := Lib.hid (HR.out.below hb4)
  replace HO := Lib.hid (HO.out.below hb4)
  replace HM := Lib.hid (HM.out.below hb4)
  replace HS := Lib.hid (HS.out.below hb4)
  replace Q1 := Lib.hid ((hb4.block _ (row_lt Q1.out)).trans Q1.out)
  replace HB := Lib.hid (HB.out.trans (hb4.mono HB.out.size))
  clear hb4
  have HC := Lib.hid hc4
  have HP := Lib.hid hp4
  clear hc4 hp4
  go_wp2_with fail
  obtain ⟨W5, hW5⟩ : ∃ W, W = w4.alloc (.cells #[.int .i64 dealer, .slice (some ⟨gc, oc, none⟩) numbers.length kc, .slice (some ⟨gp, 0, none⟩) rows.length kp] 28) := ⟨_, rfl⟩
  have hb5 : Below w4.heap.size w4 W5 := by rw [hW5]; exact below_new _ _ _
  have hq5 : W5.heap[w4.heap.size]? = some (.cells #[.int .i64 dealer, .slice (some ⟨gc, oc, none⟩) numbers.length kc, .slice (some ⟨gp, 0, none⟩) rows.length kp] 28 (0, 0)) := by rw [hW5]; exact World.alloc_heap_new _ _
  have Q5 := Lib.hid hq5
  rw [← hW5]
  clear hW5 hq5
  replace c0 := below_cell hb5 c0
  replace c1 := below_cell hb5 c1
  replace HR := Lib.hid (HR.out.below hb5)
  replace HO := Lib.hid (HO.out.below hb5)
  replace HM := Lib.hid (HM.out.below hb5)
  replace HS := Lib.hid (HS.out.below hb5)
  replace HC := Lib.hid (HC.out.below hb5)
  replace HP := Lib.hid (HP.out.below hb5)
  replace Q1 := Lib.hid ((hb5.block _ (row_lt Q1.out)).trans Q1.out)
  replace HB := Lib.hid (HB.out.trans (hb5.mono HB.out.size))
  clear hb5
  obtain ⟨bD, hbD⟩ : ∃ b, b = w4.heap.size := ⟨_, rfl⟩
  rw [← hbD] at Q5 ⊢
  clear hbD
  have e0 := row_cell Q5.out (k := 0) rfl
  have e1 := row_cell Q5.out (k := 1) rfl
  have e2 := row_cell Q5.out (k := 2) rfl
  have HDL := Lib.hid HSM.out.dl
  have hr6 : rows.length ≤ 6 := HSM.out.r6
  have HSN := Lib.hid HSM.out.sl
  have HMD := Lib.hid (fun i (hi : i < rows.length) => HSM.out.made (row := (row : Int)) hi HBY.out)
  have HNN := Lib.hid (fun i (hi : i < rows.length) => HSM.out.sn _ (List.getElem_mem (by rw [HSM.out.sl]; exact hi : i < ss.length)))
  have h01 : W5 = W5 := rfl
  go_loopw [16, 17, 18, 19, 20, 21, 22, 23, 24, 52] (fun _ _ _ _ _ _ _ _ _ i W => ∃ k : Nat, k ≤ rows.length ∧ i = .int .i64 k ∧ Below W5.heap.size W5 W) (fun _ _ _ _ _ _ _ _ _ i _ => rows.length - (intOf i).toNat)
  case atStart => exact ⟨0, Nat.zero_le _, rfl, Below.refl _ _⟩
  case round =>
    obtain ⟨k, hkl, rfl, hbk⟩ := hrel
    replace c0 := below_cell hbk c0
    replace c1 := below_cell hbk c1
    replace e0 := below_cell hbk e0
    replace e1 := below_cell hbk e1
    replace e2 := below_cell hbk e2
    replace HR := Lib.hid (HR.out.below hbk)
    replace HO := Lib.hid (HO.out.below hbk)
    replace HM := Lib.hid (HM.out.below hbk)
    replace HS := Lib.hid (HS.out.below hbk)
    replace HC := Lib.hid (HC.out.below hbk)
    replace HP := Lib.hid (HP.out.below hbk)
    replace Q1 := Lib.hid ((hbk.block _ (row_lt Q1.out)).trans Q1.out)
    replace Q5 := Lib.hid ((hbk.block _ (row_lt Q5.out)).trans Q5.out)
    replace HB := Lib.hid (HB.out.trans (hbk.mono HB.out.size))
    have HBK := Lib.hid hbk
    clear hbk h01
    by_cases hlt : k < rows.length
    · have hks : k < ss.length := by rw [HSN.out]; exact hlt
      obtain ⟨bS, oS, e8, qS⟩ := ints_at HS.out hks
      subst e8
      have hkn : nth ss k = ss[k] := nth_at hks
      have hn := HNN.out k hlt
      rw [← hkn] at qS hn
      have HNR := Lib.hid hn
      obtain ⟨hE, hBB, hC0, hC1⟩ := HMD.out k hlt
      have hks2 : ssF ss k = nth ss k := rfl
      rw [hks2] at hE hBB hC0 hC1
      have HE := Lib.hid hE
      have HBB := Lib.hid hBB
      have HC0 := Lib.hid hC0
      have HC1 := Lib.hid hC1
      obtain ⟨n, hnn⟩ : ∃ n, n = nth ss k := ⟨_, rfl⟩
      rw [← hnn] at qS HE HBB HC0 HC1 HNR
      have j0 : 0 ≤ (k : Int) := by omega
      have j1 : (k : Int) < (ss.length : Int) := by omega
      have j2 : decide ((k : Int) < (ss.length : Int)) = true := decide_eq_true j1
      have HCR := Lib.hid (own_cmpR dealer ss k HDL.out (by omega))
      have HPW := Lib.hid (fun W => pow_yes 4 n W el_four (R64.mk (by have := HNR.out; omega) (by have := HNR.out; omega)))
      have HKR := Lib.hid (el_powE el_four n).r64
      clear hn hE hBB hC0 hC1 hks2 hnn hkn
      go_wp2_with fail
      with_reducible refine (makeF_any _ _ _ _ rows owners numbers dealer ss (row : Int) b' n (k : Int) _ (HG.out _ HB.out) HR.out HO.out HC.out HP.out (R64.mk (by have := HNR.out; omega) (by have := HNR.out; omega)) (R64.mk (by omega) (by omega))).mono ?_
      rintro e w6 ⟨rfl, hb6⟩
      replace c0 := below_cell hb6 c0
      replace c1 := below_cell hb6 c1
      replace e0 := below_cell hb6 e0
      replace e1 := below_cell hb6 e1
      replace e2 := below_cell hb6 e2
      replace HR := Lib.hid (HR.out.below hb6)
      replace HO := Lib.hid (HO.out.below hb6)
      replace HM := Lib.hid (HM.out.below hb6)
      replace HS := Lib.hid (HS.out.below hb6)
      replace HC := Lib.hid (HC.out.below hb6)
      replace HP := Lib.hid (HP.out.below hb6)
      replace Q1 := Lib.hid ((hb6.block _ (row_lt Q1.out)).trans Q1.out)
      replace Q5 := Lib.hid ((hb6.block _ (row_lt Q5.out)).trans Q5.out)
      replace HB := Lib.hid (HB.out.trans (hb6.mono HB.out.size))
      replace HBK := Lib.hid (HBK.out.trans (hb6.mono HBK.out.size))
      clear hb6
      rw [HE.out, HBB.out]
      cases hw : (decide ((k : Int) = (row : Int)) && decide (b' ≠ 0)) with
      | false =>
        rw [HC0.out hw]
        unfold cmpV cmpA
        clear HC0 HC1 HBB HE HCR HPW HKR
        have HBN := Lib.hid (HBK.out.trans ((below_new w6 #[.int .i64 0, .int .i64 0, .int .i64 0, .int .i64 0, .int .i64 0] 34).mono HBK.out.size))
        by_cases hkr : (k : Int) = (row : Int)
        · have d0 : ((k : Int) == (row : Int)) = true := beq_iff_eq.2 hkr
          have d1 : (b' != 0) = false := by
            rw [decide_eq_true hkr, Bool.true_and] at hw
            exact bne_eq_false_iff_eq.2 (Decidable.not_not.1 (of_decide_eq_false hw))
          clear hw hkr
          go_wp2_with fail
          go_roundw
          case rel => exact ⟨k + 1, by omega, by go_num, HBN.out⟩
          case measure => simp [intOf]; omega
        · have d0 : ((k : Int) == (row : Int)) = false := beq_eq_false_iff_ne.2 hkr
          clear hw hkr
          go_wp2_with fail
          go_roundw
          case rel => exact ⟨k + 1, by omega, by go_num, HBN.out⟩
          case measure => simp [intOf]; omega
      | true =>
        obtain ⟨hC, hSE, hSG⟩ := HC1.out hw
        rw [hC]
        rw [Bool.and_eq_true, decide_eq_true_eq, decide_eq_true_eq] at hw
        have d0 : ((k : Int) == (row : Int)) = true := beq_iff_eq.2 hw.1
        have d1 : (b' != 0) = true := bne_iff_ne.2 hw.2
        obtain ⟨D, E, S, hoc⟩ : ∃ D E S, ownC dealer (usF ss) (ssF ss) k = ⟨dealer, (k : Int), D, E, S⟩ := ⟨_, _, _, rfl⟩
        obtain ⟨kk, hkk⟩ : ∃ kk, kk = powE 4 n := ⟨_, rfl⟩
        rw [hoc] at hSE hSG HCR ⊢
        rw [← hkk] at hSE hSG HPW HKR
        rw [show cmpV ⟨dealer, (k : Int), D, E, S⟩ = .agg #[.int .i64 dealer, .int .i64 (k : Int), .int .i64 D, .int .i64 E, .int .i64 S] from rfl]
        have HSR := Lib.hid (And.intro hSG hSE)
        obtain ⟨W7, hW7⟩ : ∃ W, W = w6.alloc (.cells #[.int .i64 dealer, .int .i64 (k : Int), .int .i64 D, .int .i64 E, .int .i64 S] 34) := ⟨_, rfl⟩
        have hb7 : Below w6.heap.size w6 W7 := by rw [hW7]; exact below_new _ _ _
        have QC : Hid (W7.heap[w6.heap.size]? = some (.cells #[.int .i64 dealer, .int .i64 (k : Int), .int .i64 D, .int .i64 E, .int .i64 S] 34 (0, 0))) := Lib.hid (by rw [hW7]; exact World.alloc_heap_new _ _)
        have HW7 := Lib.hid hW7
        clear hC hSE hSG hoc hkk hw hW7 HC0 HC1 HBB HE
        replace c0 := below_cell hb7 c0
        replace c1 := below_cell hb7 c1
        replace e0 := below_cell hb7 e0
        replace e1 := below_cell hb7 e1
        replace e2 := below_cell hb7 e2
        replace HR := Lib.hid (HR.out.below hb7)
        replace HO := Lib.hid (HO.out.below hb7)
        replace HM := Lib.hid (HM.out.below hb7)
        replace HS := Lib.hid (HS.out.below hb7)
        replace HC := Lib.hid (HC.out.below hb7)
        replace HP := Lib.hid (HP.out.below hb7)
        replace Q1 := Lib.hid ((hb7.block _ (row_lt Q1.out)).trans Q1.out)
        replace Q5 := Lib.hid ((hb7.block _ (row_lt Q5.out)).trans Q5.out)
        replace HB := Lib.hid (HB.out.trans (hb7.mono HB.out.size))
        replace HBK := Lib.hid (HBK.out.trans (hb7.mono HBK.out.size))
        clear hb7
        have g0 := row_cell QC.out (k := 0) (v := .int .i64 dealer) rfl
        have g1 := row_cell QC.out (k := 1) (v := .int .i64 (k : Int)) rfl
        have g2 := row_cell QC.out (k := 2) (v := .int .i64 D) rfl
        have g3 := row_cell QC.out (k := 3) (v := .int .i64 E) rfl
        have g4 := row_cell QC.out (k := 4) (v := .int .i64 S) rfl
        go_wp2_with (rw [← HW7.out])
        clear HW7
        with_reducible refine (HPW.out _).mono ?_
        rintro e w8 ⟨rfl, hb8⟩
        replace c0 := below_cell hb8 c0
        replace c1 := below_cell hb8 c1
        replace e0 := below_cell hb8 e0
        replace e1 := below_cell hb8 e1
        replace e2 := below_cell hb8 e2
        replace g0 := below_cell hb8 g0
        replace g1 := below_cell hb8 g1
        replace g2 := below_cell hb8 g2
        replace g3 := below_cell hb8 g3
        replace g4 := below_cell hb8 g4
        replace HR := Lib.hid (HR.out.below hb8)
        replace HO := Lib.hid (HO.out.below hb8)
        replace HM := Lib.hid (HM.out.below hb8)
        replace HS := Lib.hid (HS.out.below hb8)
        replace HC := Lib.hid (HC.out.below hb8)
        replace HP := Lib.hid (HP.out.below hb8)
        replace Q1 := Lib.hid ((hb8.block _ (row_lt Q1.out)).trans Q1.out)
        replace Q5 := Lib.hid ((hb8.block _ (row_lt Q5.out)).trans Q5.out)
        replace QC := Lib.hid ((hb8.block _ (row_lt QC.out)).trans QC.out)
        replace HB := Lib.hid (HB.out.trans (hb8.mono HB.out.size))
        replace HBK := Lib.hid (HBK.out.trans (hb8.mono HBK.out.size))
        clear hb8 HPW
        go_wp2_with fail
        with_reducible refine (settleF_any _ _ _ _ rows owners numbers dealer ss (row : Int) b' kk dealer (k : Int) D E S _ (HG.out _ HB.out) HR.out HO.out HC.out HP.out HKR.out HCR.out).mono ?_
        rintro e w9 ⟨rfl, hb9⟩
        replace c0 := below_cell hb9 c0
        replace c1 := below_cell hb9 c1
        replace e0 := below_cell hb9 e0
        replace e1 := below_cell hb9 e1
        replace e2 := below_cell hb9 e2
        replace g0 := below_cell hb9 g0
        replace g1 := below_cell hb9 g1
        replace g2 := below_cell hb9 g2
        replace g3 := below_cell hb9 g3
        replace g4 := below_cell hb9 g4
        replace HR := Lib.hid (HR.out.below hb9)
        replace HO := Lib.hid (HO.out.below hb9)
        replace HM := Lib.hid (HM.out.below hb9)
        replace HS := Lib.hid (HS.out.below hb9)
        replace HC := Lib.hid (HC.out.below hb9)
        replace HP := Lib.hid (HP.out.below hb9)
        replace Q1 := Lib.hid ((hb9.block _ (row_lt Q1.out)).trans Q1.out)
        replace Q5 := Lib.hid ((hb9.block _ (row_lt Q5.out)).trans Q5.out)
        replace QC := Lib.hid ((hb9.block _ (row_lt QC.out)).trans QC.out)
        replace HB := Lib.hid (HB.out.trans (hb9.mono HB.out.size))
        replace HBK := Lib.hid (HBK.out.trans (hb9.mono HBK.out.size))
        clear hb9
        rw [HSR.out.1, HSR.out.2]
        go_wp2_with fail
        go_roundw
        case rel => exact ⟨k + 1, by omega, by go_num, HBK.out⟩
        case measure => simp [intOf]; omega
    · obtain rfl : k = rows.length := by omega
      have j2 : decide ((rows.length : Int) < (ss.length : Int)) = false := decide_eq_false (by have := HSN.out; omega)
      have j3 : decide (rows.length < ss.length) = false := decide_eq_false (by have := HSN.out; omega)
      go_wp2_with fail
      go_ret
      exact ⟨rfl, HB.out⟩

set_option maxRecDepth 100000 in
theorem guiltyC_any (rv ov mv sv : Value) (rows : List (List Int)) (owners numbers : List Int) (dealer : Int) (ss : List Int) (row byn : Int) (w : World) (hR : Rows2 w rv rows) (hO : Ints w ov owners) (hM : Ints w mv numbers) (_hd : R64 dealer) (hS : Ints w sv ss) (hrow : 0 ≤ row ∧ row < 256) (hbyn : 0 ≤ byn ∧ byn < 4294967296) (hG : Glob w) :
    Calls Tryz.prog 5 #[.agg #[rv, ov], mv, .int .i64 dealer, sv, .int .u8 row, .int .u32 byn] w fun r w' => r = .returned (.bool true) ∧ Below w.heap.size w w' := by
  obtain ⟨r, rfl⟩ := Int.eq_ofNat_of_zero_le hrow.1
  obtain ⟨b, rfl⟩ := Int.eq_ofNat_of_zero_le hbyn.1
  exact guilty36_any rv ov mv sv rows owners numbers dealer ss r b w hG hR hO hM hS (by omega) (by omega)

end Go.Proofs.YtggnipkfliompaaGreatDoor

namespace Go.Proofs.YtggnipkfliompaaGreatDoor
open Go.ChangeShapes Go.WideShapes Go.ChangeAt Go.RowKit Go.Deep

set_option maxRecDepth 100000 in
theorem ownKnobP : ownKnob Tryz.prog.godebug = none := by kernel_rfl
set_option maxRecDepth 100000 in
theorem laidOutP : laidOutB Tryz.prog = true := by kernel_rfl
set_option maxRecDepth 100000 in
theorem cellsInt : Tryz.prog.cellsOf 3 = 1 := by kernel_rfl
set_option maxRecDepth 100000 in
theorem cellsRow : Tryz.prog.cellsOf 23 = 1 := by kernel_rfl
set_option maxRecDepth 100000 in
theorem bytesInt : Tryz.prog.bytesOf 3 = 8 := by kernel_rfl
set_option maxRecDepth 100000 in
theorem bytesRow : Tryz.prog.bytesOf 23 = 24 := by kernel_rfl
theorem reach_is : reachBytes = 140737488351232 := rfl

theorem wf_r64 {n : Int} (h : (Lit.int .i64 n).wf = true) : R64 n := by
  simp [Lit.wf, IntKind.min, IntKind.max, IntKind.signed, IntKind.bits] at h
  unfold R64; omega

/-- All weights of a datum are within the reach. -/
def Light {H : Type} (t : TypeId) (d : DataW H) : Prop := ∀ n ∈ d.weights Tryz.prog t, n ≤ reachBytes

set_option maxRecDepth 100000 in
theorem light_of {H : Type} {ts : List TypeId} {ds : List (DataW H)} (h : (DataW.weightsEach Tryz.prog ts ds).all (· ≤ reachBytes) = true) {j : Nat} {t : TypeId} {d : DataW H} (ht : ts[j]? = some t) (hd : ds[j]? = some d) : Light t d := fun n hn => by
  have := List.all_eq_true.1 h _ (DataW.weights_mem_each ht hd n hn)
  simpa using this

set_option maxRecDepth 100000 in
theorem weightsAll_mem {H : Type} {e : TypeId} {ds : List (DataW H)} {d : DataW H} (hd : d ∈ ds) {n : Nat} (hn : n ∈ d.weights Tryz.prog e) : n ∈ DataW.weightsAll Tryz.prog e ds := by
  induction ds with
  | nil => cases hd
  | cons a l ih =>
    simp only [DataW.weightsAll, List.mem_append]
    rcases List.mem_cons.1 hd with rfl | h
    · exact .inl hn
    · exact .inr (ih h)

section
variable {H : Type} {enc : TypeId × Value → H} {W : World}

set_option maxRecDepth 100000 in
/-- A list of integers as an argument. -/
theorem open_list {v : Value} {d : DataW H} {ps : List MemPlace} (hs : ∃ a n c, v = .slice a n c) (h : DataW.Trod enc Tryz.prog W 0 (fun _ => true) true 23 v d ps) (hl : Light 23 d) : ∃ zs, Ints W v zs := by
  obtain ⟨a0, len, cap, rfl⟩ := hs
  obtain ⟨fuel, hf⟩ := h
  rcases open_ints Tryz.underlying23 Tryz.underlying3 cellsInt hf with ⟨hcs, -⟩ | ⟨a, len', cap', zs, hcs, -, hle, hm, hz, hx, hcell, hwf⟩
  · simp [Value.cells] at hcs
    obtain ⟨rfl, rfl, rfl⟩ := hcs
    exact ⟨[], Ints.nil _ _ _⟩
  · simp [Value.cells] at hcs
    obtain ⟨rfl, rfl, rfl⟩ := hcs
    simp only [if_true] at hz
    simp only [Prod.mk.injEq] at hx
    have hlen : cap ≤ 17592186044416 := by
      have := hl ((zs.take len).length + (zs.drop len).length |>.mul 8) (by
        rw [hx.1]
        simp only [DataW.weights, Tryz.underlying23, bytesInt, lits, List.length_map]
        exact List.mem_cons_self ..)
      have h2 : ((zs.take len).length + (zs.drop len).length) * 8 ≤ reachBytes := this
      rw [reach_is] at h2
      simp at h2
      omega
    refine ⟨zs.take len, some a, cap, by simp [hz, hle], by simp; omega, by simp; omega, fun z hzz => wf_r64 (hwf z (List.mem_of_mem_take hzz)), fun k hk => ?_⟩
    simp at hk
    have hc := hcell k (by omega)
    obtain ⟨b, o, sp⟩ := a
    have hsp : sp = none := by
      have h0 := World.cell?_spot (hcell 0 (by omega))
      simpa [Addr.add] using h0
    subst hsp
    refine ⟨b, o, rfl, ?_⟩
    rw [← add_plain, hc]
    simp [List.getD, List.getElem?_eq_getElem (show k < zs.length by omega)]

set_option maxRecDepth 100000 in
theorem intRow_light {A : Option Addr} {L : Nat} {zs : List Int} (h : Light 23 (intRow (H := H) .i64 A L zs)) (hA : A ≠ none) : zs.length ≤ 17592186044416 := by
  cases A with
  | none => exact absurd rfl hA
  | some a =>
    have h2 : ((zs.take L).length + (zs.drop L).length) * 8 ≤ reachBytes := h _ (by
      simp only [intRow, DataW.weights, Tryz.underlying23, bytesInt, lits, List.length_map]
      exact List.mem_cons_self ..)
    rw [reach_is] at h2
    simp at h2
    omega

set_option maxRecDepth 100000 in
/-- Rows as an argument. -/
theorem open_rows {v : Value} {d : DataW H} {ps : List MemPlace} (hs : ∃ a n c, v = .slice a n c) (h : DataW.Trod enc Tryz.prog W 0 (fun _ => true) true 22 v d ps) (hl : Light 22 d) : ∃ rows, Rows2 W v rows := by
  obtain ⟨a0, len, cap, rfl⟩ := hs
  obtain ⟨fuel, hf⟩ := h
  rcases open_int_rows Tryz.underlying22 Tryz.underlying23 Tryz.underlying3 cellsRow cellsInt hf with ⟨hcs, -⟩ | ⟨a, len', cap', A, L, C, Z, hcs, -, hle, hm, hx, hrows⟩
  · simp [Value.cells] at hcs
    obtain ⟨rfl, rfl, rfl⟩ := hcs
    exact ⟨[], Rows2.nil _ _ _⟩
  · simp [Value.cells] at hcs
    obtain ⟨rfl, rfl, rfl⟩ := hcs
    simp only [Prod.mk.injEq] at hx
    have hlen : cap * 24 ≤ reachBytes := by
      have := hl ((len + (cap - len)) * 24) (by
        rw [hx.1]
        simp only [DataW.weights, Tryz.underlying22, bytesRow, List.length_map, List.length_range]
        exact List.mem_cons_self ..)
      rwa [show len + (cap - len) = cap by omega] at this
    rw [reach_is] at hlen
    have hrow : ∀ r, r < len → ∃ zs : List Int, Ints W (.slice (A r) (L r) (C r)) zs := fun r hr => by
      obtain ⟨h1, h2, h3, h4, h5, h6, h7⟩ := hrows r (by omega)
      cases hA : A r with
      | none =>
        have := h6 hA
        have hL : L r = 0 := by omega
        rw [hL]; exact ⟨[], Ints.nil _ _ _⟩
      | some a' =>
        obtain ⟨-, hcell⟩ := h7 a' hA
        have hlt : Light 23 (intRow (H := H) .i64 (A r) (L r) (Z r)) := fun n hn => hl n (by
          rw [hx.1]
          simp only [DataW.weights, Tryz.underlying22]
          refine List.mem_cons_of_mem _ (List.mem_append_left _ (weightsAll_mem (List.mem_map.2 ⟨r, List.mem_range.2 hr, rfl⟩) hn)))
        have hzl := intRow_light hlt (by rw [hA]; simp)
        refine ⟨(Z r).take (L r), some a', C r, by simp [h4, h2], by simp; omega, by simp; omega, fun z hzz => wf_r64 (h5 z (List.mem_of_mem_take hzz)), fun k hk => ?_⟩
        simp at hk
        obtain ⟨b, o, sp⟩ := a'
        have hsp : sp = none := by
          have h0 := World.cell?_spot (hcell 0 (by omega))
          simpa [Addr.add] using h0
        subst hsp
        refine ⟨b, o, rfl, ?_⟩
        rw [← add_plain, hcell k (by omega)]
        simp [List.getD, List.getElem?_eq_getElem (show k < (Z r).length by omega)]
    obtain ⟨f, hfz⟩ : ∃ f : Nat → List Int, ∀ r, r < len → Ints W (.slice (A r) (L r) (C r)) (f r) :=
      ⟨fun r => if hr : r < len then (hrow r hr).choose else [], fun r hr => by simp only [dif_pos hr]; exact (hrow r hr).choose_spec⟩
    refine ⟨(List.range len).map f, some a, cap, by simp, by simp [hle], by simp; omega, fun k hk => ?_⟩
    simp at hk
    obtain ⟨b, o, sp⟩ := a
    have hsp : sp = none := by
      have h0 := World.cell?_spot (hrows 0 (by omega)).1
      simpa [Addr.add] using h0
    subst hsp
    refine ⟨b, o, .slice (A k) (L k) (C k), rfl, ?_, ?_⟩
    · rw [← add_plain]; exact (hrows k (by omega)).1
    · simpa using hfz k hk

set_option maxRecDepth 100000 in
theorem trodAll_below {W' : World} (hb : Below W.heap.size W W') : ∀ {ts : List TypeId} {vs : List Value} {ds : List (DataW H)} {ps : List MemPlace}, (∀ t ∈ ts, Tryz.prog.readableRec t = true ∧ t < Tryz.prog.types.size) →
    DataW.TrodAll enc Tryz.prog W 0 (fun _ => true) true ts vs ds ps → (∀ x ∈ ps, x.block < W.heap.size) → DataW.TrodAll enc Tryz.prog W' 0 (fun b => decide (b < W.heap.size)) true ts vs ds ps
  | [], vs, ds, ps, _, h, _ => by
    obtain ⟨rfl, rfl, rfl⟩ := trodAll_nil h
    exact trodAll_mk0
  | t :: ts, vs, ds, ps, ht, h, hlt => by
    obtain ⟨v, vs', d, ds', p, q, rfl, rfl, rfl, h1, h2⟩ := trodAll_cons h
    exact trodAll_cons_mk (Below.trod laidOutP (ht t (by simp)).1 (ht t (by simp)).2 h1 hb (fun x hx => hlt x (List.mem_append_left _ hx)))
      (trodAll_below hb (fun t' ht' => ht t' (by simp [ht'])) h2 (fun x hx => hlt x (List.mem_append_right _ hx)))

set_option maxRecDepth 100000 in
/-- A law's post, where the call returned true and all that there was is as it was. -/
theorem law_post {f : Func} {s : ChangeSpec} {W' : World} {args : Array Value} {ds : List (DataW H)} {before : List MemPlace} {apart : Bool} (hvars : s.vars = []) (hres : f.resultTypes = #[4])
    (hts : (f.params.toList.all fun t => Tryz.prog.readableRec t && decide (t < Tryz.prog.types.size)) = true) (hA : DataW.TrodAll enc Tryz.prog W 0 (fun _ => true) true f.params.toList args.toList ds before)
    (hW : DataW.Whole enc Tryz.prog f.params.toList s.vars apart W args.toList ds [] before) (hb : Below W.heap.size W W') (hfn : s.fn H (ds ++ []) = { results := [.lit (.bool true)], args := ds }) :
    s.post enc Tryz.prog f apart true false false W args (.bool true) W' := by
  refine ⟨ds, [], before, [], before, [], hW, ?_, ?_, ?_, hb.frame _, fun h => by cases h⟩
  · rw [hfn, hres]; exact trodAll_mk1 (shut_bool Tryz.underlying4 true)
  · rw [hfn]; exact trodAll_below hb (fun t ht => by have := List.all_eq_true.1 hts t ht; simpa using this) hA (fun x hx => by simpa using hW.lt x hx)
  · rw [hfn, hvars]; rfl

end
end Go.Proofs.YtggnipkfliompaaGreatDoor

namespace Go.Proofs.YtggnipkfliompaaGreatDoor
open Go.ChangeShapes Go.WideShapes Go.ChangeAt Go.RowKit Go.Deep Go.Joins

theorem wf_u32 {n : Int} (h : (Lit.int .u32 n).wf = true) : 0 ≤ n ∧ n < 4294967296 := by
  simp [Lit.wf, IntKind.min, IntKind.max, IntKind.signed, IntKind.bits] at h
  omega
set_option maxRecDepth 100000 in
theorem cellsProgram : Tryz.prog.cellsOf 25 = 2 := by kernel_rfl

section
variable {H : Type} {enc : TypeId × Value → H} {W : World} {base : Nat}

set_option maxRecDepth 100000 in
/-- A program as an argument. -/
theorem open_program {v : Value} {d : DataW H} {ps : List MemPlace} (hv : Value.okWide Tryz.prog W .any base 25 v) (h : DataW.Trod enc Tryz.prog W 0 (fun _ => true) true 25 v d ps) (hl : Light 25 d) :
    ∃ rv ov rows owners, v = .agg #[rv, ov] ∧ Rows2 W rv rows ∧ Ints W ov owners := by
  obtain ⟨v0, v1, y0, y1, n, rfl, rfl, -, h0, h1⟩ := open_agg2 Tryz.underlying25 (by kernel_rfl) cellsProgram hv h
  obtain ⟨a0, l0, c0, e0⟩ := slice_form Tryz.underlying22 h0
  obtain ⟨a1, l1, c1, e1⟩ := slice_form Tryz.underlying23 h1
  simp only [List.cons.injEq, and_true] at e0 e1
  subst e0 e1
  have hw : ∀ m, m ∈ y0.1.weights Tryz.prog 22 ++ (y1.1.weights Tryz.prog 23 ++ []) → m ≤ reachBytes := fun m hm => hl m (by
    simp only [DataW.weights, Tryz.underlying25]
    exact hm)
  obtain ⟨rows, hr⟩ := open_rows ⟨_, _, _, rfl⟩ (v := .slice a0 l0 c0) (d := y0.1) (ps := y0.2) ⟨n, h0⟩ (fun m hm => hw m (List.mem_append_left _ hm))
  obtain ⟨owners, ho⟩ := open_list ⟨_, _, _, rfl⟩ (v := .slice a1 l1 c1) (d := y1.1) (ps := y1.2) ⟨n, h1⟩ (fun m hm => hw m (List.mem_append_right _ (List.mem_append_left _ hm)))
  exact ⟨_, _, rows, owners, rfl, hr, ho⟩
end

end Go.Proofs.YtggnipkfliompaaGreatDoor
