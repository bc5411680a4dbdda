/- The reference of keygen: Keys, Fine, Right, Dealers. The laws of keygen: keysOf. Package keygen: slices of dealings and of complaints that grow. The laws of keygen, in plain Lean: the complaints that are made (KeygenFits). The laws of dealing: DealingSum, the walk. The laws of dealing: people of bits, and the shares of people. The laws of dealing: the shares of people (the reference's Of). The laws of dealing: DealingEnough, the walk. The laws of keygen, in plain Lean: all together have the key (KeygenTogether). -/
import Derived.Test.YtggnipkfliompaaGreatDoorMKgA
import Derived.Test.YtggnipkfliompaaGreatDoorMKgU
import Derived.Test.YtggnipkfliompaaGreatDoorMDeaW
import Derived.Test.YtggnipkfliompaaGreatDoorMLinJ
import Derived.Test.YtggnipkfliompaaGreatDoorMMapZ
import Derived.Test.YtggnipkfliompaaGreatDoorMKgP
import Derived.Test.YtggnipkfliompaaGreatDoorMKgT
import Derived.Test.YtggnipkfliompaaGreatDoorMParF
import Derived.Test.YtggnipkfliompaaGreatDoorMProF
import Derived.Laws.OwnMore
import Derived.Deep.RegionHeld3
import Derived.Deep.RegionLaw
import Derived.Deep.AppendLies
import Derived.Laws.Bits64b
set_option maxHeartbeats 8000000
set_option maxRecDepth 100000
namespace Go.Proofs.YtggnipkfliompaaGreatDoor
open Go.RowKit FP
theorem keys_long {owners keys : List Int} (h : ¬ keys.length ≤ 64) : keysB owners keys = false := by unfold keysB; rw [decide_eq_false h]; rfl
theorem keys_odd {owners keys : List Int} {k : Nat} (h : k < keys.length) (ho : oddK keys[k] = true) : keysB owners keys = false := by
 unfold keysB; rw [List.any_eq_true.2 ⟨_, List.getElem_mem h, ho⟩]; simp
theorem keys_miss {owners keys : List Int} {k : Nat} (h : k < owners.length) (ho : missK keys owners[k] = true) : keysB owners keys = false := by
 unfold keysB; rw [List.any_eq_true.2 ⟨_, List.getElem_mem h, ho⟩]; simp
theorem keys_all {owners keys : List Int} (h1 : keys.length ≤ 64) (h2 : ∀ k (h : k < keys.length), oddK keys[k] = false) (h3 : ∀ k (h : k < owners.length), missK keys owners[k] = false) : keysB owners keys = true := by
 unfold keysB
 rw [decide_eq_true h1, Bool.true_and, Bool.and_eq_true, Bool.not_eq_true', Bool.not_eq_true']
 refine ⟨List.any_eq_false.2 fun x hx => ?_, List.any_eq_false.2 fun x hx => ?_⟩
 ·obtain ⟨k, hk, rfl⟩ := List.getElem_of_mem hx; simp [h2 k hk]
 ·obtain ⟨k, hk, rfl⟩ := List.getElem_of_mem hx; simp [h3 k hk]
theorem rKeys_any (rv ov kv : Value) (owners keys : List Int) (w : World) (hR : ∃ a n c, rv = .slice a n c) (hO : Ints w ov owners) (hK : Ints w kv keys) (h0 : ∀ o ∈ owners, 0 ≤ o) :
  Calls Tryz.prog 95 #[.agg #[rv, ov], kv] w fun r w' => r = .returned (.bool (keysB owners keys)) ∧ Below w.heap.size w w' := by
 obtain ⟨W1, hW1, hb1, hr1, hz⟩ := box_prog w rv ov 25
 have HO := Lib.hid (hO.below hb1)
 have HK := Lib.hid (hK.below hb1)
 obtain ⟨a1, n1, k1, rfl⟩ := hR
 obtain ⟨a2, k2, rfl, -, hl2, -⟩ := id hO
 obtain ⟨a3, k3, rfl, -, hl3, hr3, -⟩ := id hK
 have c1 := row_cell hr1 (k := 1) (v := .slice a2 owners.length k2) rfl
 have HW1 := Lib.hid hW1
 have HB := Lib.hid hb1
 have HR64 := Lib.hid hr3
 have H0 := Lib.hid h0
 have HKL := Lib.hid (fun h => keys_long (owners := owners) (keys := keys) h)
 have HKO := Lib.hid (fun k h ho => keys_odd (owners := owners) (keys := keys) (k := k) h ho)
 have HKM := Lib.hid (fun k h ho => keys_miss (owners := owners) (keys := keys) (k := k) h ho)
 have HKA := Lib.hid (fun h1 h2 h3 => keys_all (owners := owners) (keys := keys) h1 h2 h3)
 clear hO hK hb1 hr1 hW1 hz hr3 h0
 by_cases hl : keys.length ≤ 64
 rotate_left
 ·have HV := Lib.hid (HKL.out hl)
  have d0 : decide ((64 : Int) < (keys.length : Int)) = true := decide_eq_true (by omega)
  clear hl
  go_enter Tryz.func95, Tryz.ntmps95
  go_wp2_with (rw [← HW1.out])
  go_ret
  exact ⟨ret_bool HV.out.symm, HB.out⟩
 have HL := Lib.hid hl
 have d0 : decide ((64 : Int) < (keys.length : Int)) = false := decide_eq_false (by omega)
 have d0' : decide (64 < keys.length) = false := decide_eq_false (by omega)
 clear hl
 go_enter Tryz.func95, Tryz.ntmps95
 go_wp2_with (rw [← HW1.out])
 go_loopw [5] (fun i W => ∃ k : Nat, k ≤ keys.length ∧ i = .int .i64 k ∧ Hid (∀ j (h : j < keys.length), j < k → oddK keys[j] = false) ∧ W = W1) (fun i _ => keys.length - (intOf i).toNat)
 case atStart => exact ⟨0, Nat.zero_le _, rfl, Lib.hid (fun j _ h => absurd h (Nat.not_lt_zero j)), rfl⟩
 case round =>
  obtain ⟨k, hkl, rfl, HP, rfl⟩ := hrel
  by_cases hlt : k < keys.length
  ·obtain ⟨-, b1, o1, n2, cc1, e1, q1⟩ := HK.out.get hlt
   simp only [Value.slice.injEq] at e1
   obtain ⟨rfl, -, -⟩ := e1
   rw [nth_at hlt] at q1
   have hx64 : R64 keys[k] := HR64.out _ (List.getElem_mem hlt)
   have HVN := Lib.hid (fun h => HKO.out k hlt h)
   obtain ⟨x, hx⟩ : ∃ x, x = keys[k] := ⟨_, rfl⟩
   rw [← hx] at q1 hx64 HVN
   have HX := Lib.hid hx
   have i0 : (0 : Int) ≤ (k : Int) := by omega
   have i1 : (k : Int) < (keys.length : Int) := by omega
   clear hx
   by_cases hz : x = 0
   ·have e0 : (x != 0) = false := by rw [hz]; rfl
    have HN := Lib.hid (show ∀ j (h : j < keys.length), j < k + 1 → oddK keys[j] = false from fun j h h1 => by
     by_cases e : j = k
     ·subst e; rw [← HX.out, hz]; rfl
     ·exact HP.out j h (by omega))
    clear hz hx64
    go_wp2_with fail
    go_roundw
    case rel => exact ⟨k + 1, by omega, by go_num, HN, by trivial⟩
    case measure => simp [intOf]; omega
   ·have e0 : (x != 0) = true := bne_iff_ne.2 hz
    have HVA := Lib.hid (fun w => rvalid_any x w hx64)
    have HOX : Hid (oddK x = !elB x) := Lib.hid (by unfold oddK; rw [beq_eq_false_iff_ne.2 hz]; rfl)
    clear hz hx64
    go_wp2_with fail
    with_reducible refine (HVA.out _).mono ?_
    rintro r w2 ⟨rfl, rfl⟩
    cases he : elB x with
    | true =>
     have HN := Lib.hid (show ∀ j (h : j < keys.length), j < k + 1 → oddK keys[j] = false from fun j h h1 => by
      by_cases e : j = k
      ·subst e; rw [← HX.out, HOX.out, he]; rfl
      ·exact HP.out j h (by omega))
     clear he
     go_wp2_with fail
     go_roundw
     case rel => exact ⟨k + 1, by omega, by go_num, HN, by trivial⟩
     case measure => simp [intOf]; omega
    | false =>
     have HV := Lib.hid (HVN.out (by rw [HOX.out, he]; rfl))
     clear he
     go_wp2_with fail
     go_ret
     exact ⟨ret_bool HV.out.symm, HB.out⟩
  ·have hdk : decide (k < keys.length) = false := decide_eq_false hlt
   have HPA := Lib.hid (show ∀ j (h : j < keys.length), oddK keys[j] = false from fun j h => HP.out j h (by omega))
   obtain rfl : k = keys.length := by omega
   clear hlt hkl HP
   go_wp2_with fail
   go_loopw [6] (fun i W => ∃ k : Nat, k ≤ owners.length ∧ i = .int .i64 k ∧ Hid (∀ j (h : j < owners.length), j < k → missK keys owners[j] = false) ∧ W = wr) (fun i _ => owners.length - (intOf i).toNat)
   case atStart => exact ⟨0, Nat.zero_le _, rfl, Lib.hid (fun j _ h => absurd h (Nat.not_lt_zero j)), rfl⟩
   case round =>
    obtain ⟨k, hkl, rfl, HQ, rfl⟩ := hrel
    by_cases hlt : k < owners.length
    ·obtain ⟨-, b1, o1, n2, cc1, e1, q1⟩ := HO.out.get hlt
     simp only [Value.slice.injEq] at e1
     obtain ⟨rfl, -, -⟩ := e1
     rw [nth_at hlt] at q1
     have hx0 : 0 ≤ owners[k] := H0.out _ (List.getElem_mem hlt)
     have HVN := Lib.hid (fun h => HKM.out k hlt h)
     obtain ⟨x, hx⟩ : ∃ x, x = owners[k] := ⟨_, rfl⟩
     rw [← hx] at q1 hx0 HVN
     have HX := Lib.hid hx
     have i0 : (0 : Int) ≤ (k : Int) := by omega
     have i1 : (k : Int) < (owners.length : Int) := by omega
     clear hx
     by_cases hge : (keys.length : Int) ≤ x
     ·have HV := Lib.hid (HVN.out (by unfold missK; rw [decide_eq_true hge]; rfl))
      have t0 : decide ((keys.length : Int) ≤ x) = true := decide_eq_true hge
      clear hge
      go_wp2_with fail
      go_ret
      exact ⟨ret_bool HV.out.symm, HB.out⟩
     have t0 : decide ((keys.length : Int) ≤ x) = false := decide_eq_false hge
     obtain ⟨m, rfl⟩ : ∃ m : Nat, x = (m : Int) := ⟨x.toNat, by omega⟩
     have hm : m < keys.length := by omega
     obtain ⟨-, b3, o3, n3, cc3, e3, q3⟩ := HK.out.get hm
     simp only [Value.slice.injEq] at e3
     obtain ⟨rfl, -, -⟩ := e3
     have t1 : decide (keys.length ≤ m) = false := decide_eq_false (by omega)
     have HMM : Hid (missK keys (m : Int) = (nth keys m == 0)) := Lib.hid (by unfold missK; rw [t0, Bool.false_or, Int.toNat_natCast])
     have i2 : (m : Int) < (keys.length : Int) := by omega
     clear hge
     obtain ⟨y, hy⟩ : ∃ y, y = nth keys m := ⟨_, rfl⟩
     rw [← hy] at q3 HMM
     clear hy
     by_cases hy0 : y = 0
     ·have HV := Lib.hid (HVN.out (by rw [HMM.out, hy0]; rfl))
      have t2 : (y == 0) = true := beq_iff_eq.2 hy0
      clear hy0
      go_wp2_with fail
      go_ret
      exact ⟨ret_bool HV.out.symm, HB.out⟩
     ·have t2 : (y == 0) = false := beq_eq_false_iff_ne.2 hy0
      have HN := Lib.hid (show ∀ j (h : j < owners.length), j < k + 1 → missK keys owners[j] = false from fun j h h1 => by
       by_cases e : j = k
       ·subst e; rw [← HX.out, HMM.out, t2]
       ·exact HQ.out j h (by omega))
      clear hy0
      go_wp2_with fail
      go_roundw
      case rel => exact ⟨k + 1, by omega, by go_num, HN, by trivial⟩
      case measure => simp [intOf]; omega
    ·have HV := Lib.hid (HKA.out HL.out HPA.out (fun j h => HQ.out j h (by omega)))
     have hdk2 : decide (k < owners.length) = false := decide_eq_false hlt
     obtain rfl : k = owners.length := by omega
     clear hlt hkl
     go_wp2_with fail
     go_ret
     exact ⟨ret_bool HV.out.symm, HB.out⟩
end Go.Proofs.YtggnipkfliompaaGreatDoor
namespace Go.Proofs.YtggnipkfliompaaGreatDoor
open Go.RowKit FP
def KeysPost (rows : List (List Int)) (owners secrets : List Int) (w : World) (e : Ending) (w' : World) : Prop := ∃ a n c ok, e = .returned (.tuple #[.slice a n c, .bool ok]) ∧ Below w.heap.size w w' ∧
 (ok = true → n = secrets.length ∧ Ints w' (.slice a n c) (secrets.map (powE 4)) ∧ KeysOf owners secrets (secrets.map (powE 4)) ∧ progE rows owners = 0 ∧ secrets.length ≤ 10)
theorem keysOf_any (rv ov sv : Value) (rows : List (List Int)) (owners secrets : List Int) (w : World) (hR : Rows2 w rv rows) (hO : Ints w ov owners) (hS : Ints w sv secrets) :
  Calls Tryz.prog 37 #[.agg #[rv, ov], sv] w (KeysPost rows owners secrets w) := by
 obtain ⟨W0, hW0, hb, r0, -⟩ := box_prog w rv ov 25
 have HR := Lib.hid (hR.below hb)
 have HO := Lib.hid (hO.below hb)
 have HS := Lib.hid (hS.below hb)
 have HB := Lib.hid hb
 obtain ⟨a1, k1, rfl, -, hl1, -⟩ := id hR
 obtain ⟨a2, k2, rfl, -, hl2, -⟩ := id hO
 obtain ⟨a3, k3, rfl, -, hl3, hr3, -⟩ := id hS
 have HRR := Lib.hid hr3
 have c0 := row_cell r0 (k := 0) (v := .slice a1 rows.length k1) rfl
 have c1 := row_cell r0 (k := 1) (v := .slice a2 owners.length k2) rfl
 have HW0 := Lib.hid hW0
 clear hR hO hS hb r0 hW0 hr3
 go_enter Tryz.func37, Tryz.ntmps37
 by_cases h1 : secrets.length ≤ 10
 rotate_left
 ·have d1 : decide ((10 : Int) < (secrets.length : Int)) = true := decide_eq_true (by omega)
  have d2 : decide (10 < secrets.length) = true := decide_eq_true (by omega)
  go_wp2_with (rw [← HW0.out])
  go_ret2
  exact ⟨_, _, _, false, rfl, HB.out, fun h => by cases h⟩
 have d1 : decide ((10 : Int) < (secrets.length : Int)) = false := decide_eq_false (by omega)
 have d2 : decide (10 < secrets.length) = false := decide_eq_false (by omega)
 go_wp2_with (rw [← HW0.out])
 clear HW0
 with_reducible refine (rSmall37_any _ _ rows owners _ HR.out HO.out).mono ?_
 rintro e w2 ⟨⟨b, rfl⟩, hb2⟩
 replace c0 := below_cell hb2 c0
 replace c1 := below_cell hb2 c1
 replace HR := Lib.hid (HR.out.below hb2)
 replace HO := Lib.hid (HO.out.below hb2)
 replace HS := Lib.hid (HS.out.below hb2)
 replace HB := Lib.hid (HB.out.trans (hb2.mono HB.out.size))
 clear hb2
 cases b with
 | false =>
  go_wp2_with fail
  go_ret2
  exact ⟨_, _, _, false, rfl, HB.out, fun h => by cases h⟩
 | true =>
 go_wp2_with fail
 with_reducible refine (rpCheck_any _ _ rows owners _ HR.out HO.out).mono ?_
 rintro e w3 ⟨rfl, hb3⟩
 replace c0 := below_cell hb3 c0
 replace c1 := below_cell hb3 c1
 replace HR := Lib.hid (HR.out.below hb3)
 replace HO := Lib.hid (HO.out.below hb3)
 replace HS := Lib.hid (HS.out.below hb3)
 replace HB := Lib.hid (HB.out.trans (hb3.mono HB.out.size))
 clear hb3
 by_cases hp : progE rows owners = 0
 rotate_left
 ·have e1 : (progE rows owners != 0) = true := bne_iff_ne.2 hp
  go_wp2_with fail
  go_ret2
  exact ⟨_, _, _, false, rfl, HB.out, fun h => by cases h⟩
 rw [hp]
 have HP0 := Lib.hid hp
 clear hp d1 d2
 go_wp2_with fail
 go_loopw [4, 25] (fun x i Y => ∃ k : Nat, k ≤ secrets.length ∧ i = .int .i64 k ∧ Y.ownsRow w3.heap.size 3 1 x k (((secrets.take k).map (powE 4)).map (Value.int .i64)) ∧ Hid (∀ s ∈ secrets.take k, 1 ≤ s ∧ s ≤ 1073741788) ∧ Below w3.heap.size w3 Y) (fun _ i _ => secrets.length - (intOf i).toNat)
 case atStart => exact ⟨0, Nat.zero_le _, rfl, World.ownsRow_nil _ _ _ _, Lib.hid (by simp), Below.refl _ _⟩
 case round =>
  obtain ⟨k, hkl, rfl, hown, HK, hb⟩ := hrel
  obtain ⟨xa, xc, hx⟩ := own_form hown
  subst hx
  by_cases hlt : k < secrets.length
  ·obtain ⟨b, off, ea, qs⟩ := ints_at (HS.out.below hb) hlt
   subst ea
   have hr := HRR.out _ (List.getElem_mem hlt)
   have htk : secrets.take (k + 1) = secrets.take k ++ [secrets[k]] := List.take_succ_eq_append_getElem hlt
   obtain ⟨s, hs⟩ : ∃ s, s = secrets[k] := ⟨_, rfl⟩
   rw [← hs] at qs hr htk
   have HTK := Lib.hid htk
   have HOW := Lib.hid hown
   have HBK := Lib.hid hb
   have HBW := Lib.hid (HB.out.trans (hb.mono HB.out.size))
   have i0 : (0 : Int) ≤ (k : Int) := Int.natCast_nonneg k
   have i1 : (k : Int) < (secrets.length : Int) := by omega
   have HRS := Lib.hid hr
   clear hs htk hown hb hr
   by_cases hs1 : s < 1
   ·have d3 : decide (s < 1) = true := decide_eq_true hs1
    go_wp2_with fail
    go_ret2
    exact ⟨_, _, _, false, rfl, HBW.out, fun h => by cases h⟩
   have d3 : decide (s < 1) = false := decide_eq_false hs1
   by_cases hs2 : (1073741789 : Int) ≤ s
   ·have d4 : decide ((1073741789 : Int) ≤ s) = true := decide_eq_true hs2
    go_wp2_with fail
    go_ret2
    exact ⟨_, _, _, false, rfl, HBW.out, fun h => by cases h⟩
   have d4 : decide ((1073741789 : Int) ≤ s) = false := decide_eq_false hs2
   go_wp2_with fail
   with_reducible refine (rpow_yes 4 s _ el_four HRS.out).mono ?_
   rintro e w5 ⟨rfl, rfl⟩
   have HKS := Lib.hid (show ∀ z ∈ secrets.take (k + 1), 1 ≤ z ∧ z ≤ 1073741788 from fun z hz => by
    rw [HTK.out] at hz
    rcases List.mem_append.1 hz with h9 | h9
    ·exact HK.out z h9
    ·rw [List.mem_singleton.1 h9]; omega)
   obtain ⟨W6, hW6⟩ : ∃ W, W = wr.alloc (.cells #[.int .i64 (powE 4 s)] 3) := ⟨_, rfl⟩
   have hb6 : Below wr.heap.size wr W6 := by rw [hW6]; exact below_new _ _ _
   have HC6 : Hid (W6.cell? ⟨wr.heap.size, 0, none⟩ = some (.int .i64 (powE 4 s))) := Lib.hid (by rw [hW6]; exact row_cell (World.alloc_heap_new _ _) rfl)
   have HO6 := Lib.hid (own_keep HOW.out hb6)
   have HB6 := Lib.hid (HBK.out.trans (hb6.mono HBK.out.size))
   have HN6 : Hid (k ≤ 1000000) := Lib.hid (by omega)
   have HS6 : Hid (w3.heap.size ≤ W6.heap.size) := Lib.hid HB6.out.size
   have HW6 := Lib.hid hW6
   have HLT := Lib.hid hlt
   clear hW6 hb6 d3 d4 hs1 hs2
   go_wp2_with (first | rw [← HW6.out] | (at_builtin; refine app_int rfl _ _ rfl w3.heap.size k _ _ rfl HO6.out wr.heap.size 1 (powE 4 s) rfl HC6.out HN6.out HS6.out ?_; intro v9 w9 h9 g9; have H9 := Lib.hid h9; have B9 := Lib.hid (own_below HO6.out g9 HS6.out); clear h9 g9))
   go_roundw
   case rel => exact ⟨k + 1, HLT.out, by go_num, by rw [HTK.out, List.map_append, List.map_append]; exact H9.out, HKS, HB6.out.trans B9.out⟩
   case measure =>
    have h9 := HLT.out
    simp [intOf]; omega
  ·obtain rfl : k = secrets.length := by omega
   rw [List.take_length] at hown HK
   have hki : Ints wr (.slice xa secrets.length xc) (secrets.map (powE 4)) := Ints.own hown (fun z hz => by
    obtain ⟨y, -, rfl⟩ := List.mem_map.1 hz
    exact (el_powE el_four _).r64) (by rw [List.length_map]; omega)
   have HKI := Lib.hid hki
   have ho0 : ∀ z ∈ owners, 0 ≤ z := fun z hz => ((progE_ok HP0.out).own z hz).1
   have HO0 := Lib.hid ho0
   replace c0 := below_cell hb c0
   replace c1 := below_cell hb c1
   replace HR := Lib.hid (HR.out.below hb)
   replace HO := Lib.hid (HO.out.below hb)
   replace HS := Lib.hid (HS.out.below hb)
   replace HB := Lib.hid (HB.out.trans (hb.mono HB.out.size))
   clear hown hki ho0 hb
   go_wp2_with fail
   with_reducible refine (rKeys_any _ _ _ owners (secrets.map (powE 4)) _ ⟨_, _, _, rfl⟩ HO.out HKI.out HO0.out).mono ?_
   rintro e w7 ⟨rfl, hb7⟩
   have HKI7 := Lib.hid (HKI.out.below hb7)
   replace c0 := below_cell hb7 c0
   replace c1 := below_cell hb7 c1
   replace HR := Lib.hid (HR.out.below hb7)
   replace HO := Lib.hid (HO.out.below hb7)
   replace HS := Lib.hid (HS.out.below hb7)
   replace HB := Lib.hid (HB.out.trans (hb7.mono HB.out.size))
   clear hb7
   go_wp2_with fail
   go_ret2
   exact ⟨_, _, _, _, rfl, HB.out, fun h => ⟨rfl, HKI7.out, ⟨rfl, HK.out, keysB_iff.1 h, HO0.out⟩, HP0.out, h1⟩⟩
end Go.Proofs.YtggnipkfliompaaGreatDoor
namespace Go.Proofs.YtggnipkfliompaaGreatDoor
open Go.RowKit FP
abbrev DV := Dlg × (Value × Value)
def dvC (z : DV) : List Value := [.int .i64 z.1.dealer, z.2.1, z.2.2]
structure DvOK (w : World) (z : DV) : Prop where
 r : R64 z.1.dealer
 cs : Ints w z.2.1 z.1.cs
 ps : Parcels w z.2.2 z.1.ps
theorem DvOK.below {w w' : World} {z : DV} (h : DvOK w z) (hb : Below w.heap.size w w') : DvOK w' z := ⟨h.r, h.cs.below hb, h.ps.below hb⟩
def noV : DV := (⟨0, [], []⟩, (.slice none 0 0, .slice none 0 0))
def dvV (zs : List DV) (k : Nat) : Value × Value := (zs.getD k noV).2
theorem dvflat_at : ∀ (l : List DV) (k j : Nat) (hk : k < l.length), j < 3 → (l.flatMap dvC)[k * 3 + j]? = (dvC l[k])[j]?
 | [], k, _, hk, _ => absurd hk (Nat.not_lt_zero k)
 | z :: l, 0, j, _, hj => by
  rw [List.flatMap_cons, Nat.zero_mul, Nat.zero_add, List.getElem?_append_left (by show j < 3; exact hj)]; rfl
 | z :: l, k + 1, j, hk, hj => by
  rw [List.flatMap_cons, List.getElem?_append_right (by show 3 ≤ _; omega)]
  have e : (k + 1) * 3 + j - (dvC z).length = k * 3 + j := by show (k + 1) * 3 + j - 3 = _; omega
  rw [e, dvflat_at l k j (by simpa using hk) hj]; rfl
theorem dvflat_size (l : List DV) : (l.flatMap dvC).length = l.length * 3 := by
 induction l with
 | nil => rfl
 | cons z l ih => rw [List.flatMap_cons, List.length_append, ih, List.length_cons]; show 3 + _ = _; omega
theorem dvflat_snoc (l : List DV) (z : DV) : (l ++ [z]).flatMap dvC = l.flatMap dvC ++ dvC z := by rw [List.flatMap_append]; simp
theorem Dlgs.own {w : World} {base n : Nat} {v : Value} {zs : List DV} (h : w.ownsRow base 28 3 v n (zs.flatMap dvC)) (hz : ∀ z ∈ zs, DvOK w z) (hl : zs.length ≤ 1000000) : Dlgs w v (zs.map (·.1)) (dvV zs) := by
 obtain ⟨hn, h⟩ := h
 rw [dvflat_size] at hn
 obtain rfl : n = zs.length := by omega
 rcases h with ⟨rfl, h0⟩ | ⟨g, cap, cur, rfl, -, hg, hnc, -, hcs, hcur⟩
 ·exact ⟨none, 0, by rw [List.length_map, h0], by rw [List.length_map]; omega, by rw [List.length_map]; omega, fun k hk => absurd hk (by rw [List.length_map]; omega)⟩
 ·refine ⟨some ⟨g, 0, none⟩, cap, by rw [List.length_map], by rw [List.length_map]; exact hnc, by rw [List.length_map]; omega, fun k hk => ⟨g, 0, rfl, ?_⟩⟩
  have hk2 : k < zs.length := by rw [List.length_map] at hk; exact hk
  have hok := hz _ (List.getElem_mem hk2)
  have hv : dvV zs k = zs[k].2 := by unfold dvV; rw [getD_at hk2]
  have hd : (zs.map (·.1))[k] = zs[k].1 := by simp
  have hcell : ∀ j u, j < 3 → (dvC zs[k])[j]? = some u → w.cell? ⟨g, 0 + k * 3 + j, none⟩ = some u := fun j u hj hu => by
   have e2 : (cur.toList.take (zs.length * 3))[k * 3 + j]? = (dvC zs[k])[j]? := by rw [hcur, dvflat_at zs k j hk2 hj]
   rw [List.getElem?_take, if_pos (by omega)] at e2
   rw [Nat.zero_add]
   exact row_cell hg (by rw [← Array.getElem?_toList, e2]; exact hu)
  rw [hv, hd]
  exact ⟨hcell 0 _ (by omega) rfl, hcell 1 _ (by omega) rfl, hcell 2 _ (by omega) rfl, hok.r, hok.cs, hok.ps⟩
theorem infoDlg : (Tryz.prog.info? 28).map (fun i => (i.zero.map (·.cells.size), i.size, i.bytes)) = some (some 3, 3, 56) := by kernel_rfl
theorem app_dlg {ops : Array Oper} {rest : List Oper} {o : Oper} {a : Act} {Q : Exit → Act → World → Prop} {W : World} (hgd : o.guard = none) (s x : Operand) (ho : o.op = .call { callee := .builtin .append, args := #[s, x], argTypes := #[55, 55] })
  (base : Nat) (v : Value) (l : List DV) (n : Nat) (hs : a.eval s = v) (hown : W.ownsRow base 28 3 v n (l.flatMap dvC)) (b c : Nat) (z : DV) (hx : a.eval x = .slice (some ⟨b, 0, none⟩) 1 c) (hsl : (∃ a n c, z.2.1 = .slice a n c) ∧ ∃ a n c, z.2.2 = .slice a n c) (hcell : ∀ j u, (dvC z)[j]? = some u → W.cell? ⟨b, j, none⟩ = some u) (hn : n ≤ 1000000) (hbase : base ≤ W.heap.size)
  (h : ∀ g cap w', w'.ownsRow base 28 3 (.slice (some ⟨g, 0, none⟩) (n + 1) cap) (n + 1) ((l ++ [z]).flatMap dvC) → Onto W v w' (.slice (some ⟨g, 0, none⟩) (n + 1) cap) → wpList Tryz.prog ops Q rest (a.put o.dst (.slice (some ⟨g, 0, none⟩) (n + 1) cap)) w') : wpList Tryz.prog ops Q (o :: rest) a W := by
 obtain ⟨i, hi, hzz⟩ := Option.map_eq_some_iff.1 infoDlg
 simp only [Prod.mk.injEq] at hzz
 obtain ⟨hz, hs1, hb⟩ := hzz
 obtain ⟨zv, hzv, hzs⟩ := Option.map_eq_some_iff.1 hz
 refine wpList_append_lies _ hgd s x 55 ho base 28 i zv 3 56 Tryz.underlying55 hi hzv hs1 hb hzs (by decide) v n (l.flatMap dvC) hs hown ⟨b, 0, none⟩ 1 c (dvC z) hx rfl ?_ ?_ (by decide) ?_ ?_ hbase W.heap.size rfl ?_
 ·intro j u hu
  rw [add_row]; exact hcell j u hu
 ·intro u hu
  simp only [dvC, List.mem_cons, List.not_mem_nil, or_false] at hu
  obtain ⟨⟨a1, n1, c1, e1⟩, ⟨a2, n2, c2, e2⟩⟩ := hsl
  rcases hu with rfl | rfl | rfl
  ·rfl
  ·rw [e1]; rfl
  ·rw [e2]; rfl
 ·unfold maxLen; omega
 ·omega
 ·intro g cap w' h1 h2 h3 _
  refine h g cap w' (by rw [dvflat_snoc]; exact h1) ⟨h2, ?_⟩
  rcases h3 with h3 | h3
  ·exact .inl (h3 ▸ rfl)
  ·exact .inr ⟨g, rfl, by omega⟩
end Go.Proofs.YtggnipkfliompaaGreatDoor
namespace Go.Proofs.YtggnipkfliompaaGreatDoor
open Go.RowKit FP
section
variable {rows : List (List Int)} {owners secrets keys : List Int}
end
def sputW (W : World) (B : Nat) (a b : Value) : World := (W.setCell ⟨B, 0, none⟩ a).setCell ⟨B, 1, none⟩ b
theorem sput_below {n0 C : Nat} {w0 W : World} (a b : Value) (hb : Below n0 w0 W) (hC : n0 ≤ C) : Below n0 w0 (sputW W C a b) := (hb.setCell hC _).setCell hC _
def SBox (n0 : Nat) (w : World) (d s : Bool) (v : Value) (r x : Int) : Prop := d = true → ∃ B, v = .pointer (some ⟨B, 0, none⟩) ∧ n0 ≤ B ∧ B < w.heap.size ∧ w.heap[B]? = some (.cells (if s = true then #[.int .i64 r, .int .i64 x] else #[.int .i64 0, .int .i64 0]) 68 (0, 0))
theorem SBox.nil (n0 : Nat) (w : World) (v : Value) (r x : Int) : SBox n0 w false false v r x := fun h => by cases h
theorem SBox.below {n0 : Nat} {w w' : World} {d s : Bool} {v : Value} {r x : Int} (h : SBox n0 w d s v r x) (hb : Below w.heap.size w w') : SBox n0 w' d s v r x := fun hd => by
 obtain ⟨B, e, h1, h2, h3⟩ := h hd
 exact ⟨B, e, h1, Nat.lt_of_lt_of_le h2 hb.size, (hb.block _ h2).trans h3⟩
theorem SBox.alloc {n0 : Nat} {w : World} {d s : Bool} {v : Value} {r x : Int} (_h : SBox n0 w d s v r x) (hs : s = false) (hn : n0 ≤ w.heap.size) : SBox n0 (w.alloc (.cells #[.int .i64 0, .int .i64 0] 68)) true s (.pointer (some ⟨w.heap.size, 0, none⟩)) r x := fun _ =>
 ⟨w.heap.size, rfl, hn, by simp, by rw [hs]; exact World.alloc_heap_new _ _⟩
theorem SBox.store {n0 : Nat} {w : World} {d s : Bool} {v : Value} {r x : Int} {B : Nat} (h : SBox n0 w d s v r x) (hv : v = .pointer (some ⟨B, 0, none⟩)) (hd : d = true) (hS : w.heap[B]? = some (.cells #[.int .i64 0, .int .i64 0] 68 (0, 0))) : SBox n0 (sputW w B (.int .i64 r) (.int .i64 x)) d true v r x := fun _ => by
 obtain ⟨B', e, h1, h2, -⟩ := h hd
 rw [hv] at e
 simp only [Value.pointer.injEq, Option.some.injEq, Addr.mk.injEq] at e
 obtain ⟨rfl, -, -⟩ := e
 refine ⟨B, hv, h1, by simpa [sputW] using h2, ?_⟩
 rw [if_pos rfl]
 exact row_set (row_set hS 0 _) 1 _
end Go.Proofs.YtggnipkfliompaaGreatDoor
namespace Go.Proofs.YtggnipkfliompaaGreatDoor
open Go.RowKit FP
abbrev Recovers (rows : List (List Int)) (owners : List Int) (D : List (Int × Int)) (b : Bool) (v : Int) : Prop :=
 ∀ rv ov lv w, Rows2 w rv rows → Ints w ov owners → Shares w lv D → Calls Tryz.prog 49 #[.agg #[rv, ov], lv] w fun r w' => r = .returned (.tuple #[.int .i64 v, .bool b, .int .i64 0]) ∧ Below w.heap.size w w'
theorem recovers_part {rows : List (List Int)} {owners : List Int} {s : List Int} {l : List (Int × Int)} (hp : progE rows owners = 0) (hn : ∀ z ∈ s, 0 ≤ z ∧ z < 1073741789) (h : l.Sublist (dealL rows s)) : Recovers rows owners l (recOk rows l) (if recOk rows l = true then nth s 0 else 0) := fun rv ov lv w hR hO hL => by
 obtain ⟨h1, h2, h3⟩ := part_rec hp hn h
 have := recover_any rv ov lv rows owners l w hR hO hL
 rw [h1, h2, h3] at this
 exact this
end Go.Proofs.YtggnipkfliompaaGreatDoor
namespace Go.Proofs.YtggnipkfliompaaGreatDoor
open Go.RowKit FP
end Go.Proofs.YtggnipkfliompaaGreatDoor
namespace Go.Proofs.YtggnipkfliompaaGreatDoor
open Go.RowKit FP
def ofQ (owners who : List Int) (l : List (Int × Int)) : List (Int × Int) := l.flatMap fun s => List.replicate (who.count (nth owners s.1.toNat)) s
end Go.Proofs.YtggnipkfliompaaGreatDoor
namespace Go.Proofs.YtggnipkfliompaaGreatDoor
open Go.RowKit FP
theorem count_rises {x : Int} : ∀ {l : List Int}, l.Pairwise (· < ·) → l.count x = if x ∈ l then 1 else 0
 | [], _ => by simp
 | a :: t, h => by
  obtain ⟨h1, h2⟩ := List.pairwise_cons.1 h
  rw [List.count_cons, count_rises h2]
  by_cases e : a = x
  ·subst e
   have hn : a ∉ t := fun hm => by have := h1 a hm; omega
   simp [hn]
  ·have e2 : x ≠ a := fun h => e h.symm
   simp [e, e2]
theorem of_deal {rows : List (List Int)} {owners who s : List Int} (hp : peopleB (-1) who = true) : ofQ owners who (dealL rows s) = (ownL owners who rows.length).map (dealF rows s) := by
 have hs := (peopleB_all hp).2.2.1
 unfold ofQ dealL ownL
 rw [List.flatMap_map]
 induction rows.length with
 | zero => rfl
 | succ n ih =>
  rw [List.range_succ, List.flatMap_append, List.filter_append, List.map_append, ih]
  congr 1
  rw [List.flatMap_cons, List.flatMap_nil, List.append_nil]
  show List.replicate (who.count (nth owners ((n : Int)).toNat)) (dealF rows s n) = _
  rw [Int.toNat_natCast, count_rises hs]
  by_cases e : nth owners n ∈ who
  ·simp [e]
  ·simp [e]
theorem of_sub {rows : List (List Int)} {owners who s : List Int} (hp : peopleB (-1) who = true) : (ofQ owners who (dealL rows s)).Sublist (dealL rows s) := by
 rw [of_deal hp]
 unfold dealL ownL
 exact List.filter_sublist.map _
theorem of_rows {rows : List (List Int)} {owners who s : List Int} (hp : peopleB (-1) who = true) : rowsOf rows (ofQ owners who (dealL rows s)) = pownR rows owners who := by
 rw [of_deal hp]
 unfold rowsOf pownR
 rw [List.map_map]
 rfl
theorem of_ok {rows : List (List Int)} {owners who s : List Int} (h0 : progE rows owners = 0) (hp : peopleB (-1) who = true) : recOk rows (ofQ owners who (dealL rows s)) = accOk rows owners who := by
 unfold recOk accOk
 rw [of_rows hp, show questE rows owners who = 0 by unfold questE; rw [if_neg (by simp [h0]), if_pos hp]]
 simp
theorem questE_of {rows : List (List Int)} {owners who : List Int} (h0 : progE rows owners = 0) (hp : peopleB (-1) who = true) : questE rows owners who = 0 := by
 unfold questE; rw [if_neg (by simp [h0]), if_pos hp]
end Go.Proofs.YtggnipkfliompaaGreatDoor
namespace Go.Proofs.YtggnipkfliompaaGreatDoor
open Go.RowKit FP
section
variable {rows : List (List Int)} {owners keys secrets who : List Int} {T : List Dl}
theorem dl_quE (h : DlOK rows owners keys T) (hT : T ≠ []) (hk : KeysOf owners secrets keys) (hp : progE rows owners = 0) (hl : T.length ≤ 64) :
  quE rows owners keys (dlL rows owners keys T) [] = 0 ∧ qualL rows owners keys [] (dlL rows owners keys T) = dlL rows owners keys T := by
 have hq := dl_qual h
 refine ⟨quE_of hp hk.ok (by rw [dlL_len]; exact hl) (by simp) (dl_ord h) ?_, hq⟩
 rw [hq]
 intro e
 have := congrArg List.length e
 rw [dlL_len] at this
 exact hT (List.length_eq_zero_iff.1 this)
theorem dl_own (h : DlOK rows owners keys T) (hT : T ≠ []) (hk : KeysOf owners secrets keys) (hp : progE rows owners = 0) (hl : T.length ≤ 64) {i : Nat} (hi : i < rows.length) :
  owE rows owners (secOf owners secrets i) (i : Int) (dlrL (dlL rows owners keys T)) (dlL rows owners keys T) = 0 ∧ owV rows owners (secOf owners secrets i) (i : Int) (dlrL (dlL rows owners keys T)) (dlL rows owners keys T) = prodQ (rows.getD i []) (sumT T) ∧ owR rows owners (secOf owners secrets i) (i : Int) (dlrL (dlL rows owners keys T)) (dlL rows owners keys T) = (i : Int) := by
 have ho := dl_ord h
 have hE : owE rows owners (secOf owners secrets i) (i : Int) (dlrL (dlL rows owners keys T)) (dlL rows owners keys T) = 0 := by
  unfold owE
  rw [if_neg (by simp [hp]), if_neg (by rw [inB_iff.2 (hk.at (by rw [← (progE_ok hp).len]; exact hi)).2.1]; simp), if_neg (by omega), if_neg (by rw [dlL_len]; omega), if_neg (by rw [ho]; simp), if_neg (by rw [dls_of ho (List.Sublist.refl _) (dl_fine h)]; simp)]
 refine ⟨hE, ?_, ?_⟩
 ·unfold owV
  rw [if_pos hE, owS_all ho (List.Sublist.refl _) (dl_fine h), dl_val h hT hk hi]
 ·unfold owR
  rw [if_pos hE]
def shrL (rows : List (List Int)) (owners who s : List Int) (n : Nat) : List (Int × Int) := (ownL owners who n).map (dealF rows s)
theorem shrL_yes {s : List Int} {n : Nat} (h : nth owners n ∈ who) : shrL rows owners who s (n + 1) = shrL rows owners who s n ++ [((n : Int), prodQ (rows.getD n []) s)] := by
 unfold shrL; rw [ownL_yes h, List.map_append]; rfl
theorem shrL_no {s : List Int} {n : Nat} (h : ¬ nth owners n ∈ who) : shrL rows owners who s (n + 1) = shrL rows owners who s n := by
 unfold shrL; rw [ownL_no h]
theorem shrL_len (s : List Int) (n : Nat) : (shrL rows owners who s n).length ≤ n := by
 unfold shrL; rw [List.length_map]; exact ownL_len _ _ _
theorem shr_rec {s : List Int} (hp : progE rows owners = 0) (hw : peopleB (-1) who = true) (hn : ∀ z ∈ s, 0 ≤ z ∧ z < 1073741789) :
  Recovers rows owners (shrL rows owners who s rows.length) (accOk rows owners who) (if accOk rows owners who = true then nth s 0 else 0) := by
 have h := recovers_part (owners := owners) (s := s) hp hn (of_sub (rows := rows) (owners := owners) (s := s) hw)
 rw [of_ok hp hw, of_deal hw] at h
 exact h
theorem dl_key (h : DlOK rows owners keys T) (hT : T ≠ []) : nth (dealC (sumT T)) 0 = powE 4 (sumX T) ∧ 0 < (dealC (sumT T)).length := by
 have hl : 0 < (sumT T).length := by
  cases T with
  | nil => exact absurd rfl hT
  | cons t T =>
   unfold sumT
   have key : ∀ (zs : List (List Int)) (s : List Int), (sumZ s zs).length = s.length := by
    intro zs
    induction zs with
    | nil => intro s; rfl
    | cons y zs ih => intro s; show (sumZ (addQ s y) zs).length = _; rw [ih, addQ_len]
   rw [key]; simp
 refine ⟨?_, by rw [dealC_len]; exact hl⟩
 unfold dealC
 rw [nth_mapv hl, sumT_head h hT]
theorem dlL_snoc (t : Dl) : dlL rows owners keys (T ++ [t]) = dlL rows owners keys T ++ [dlD rows owners keys T.length t] := by
 unfold dlL
 rw [List.length_append, List.length_singleton, List.range_succ, List.map_append, List.map_singleton]
 congr 1
 ·refine List.map_congr_left fun k hk => ?_
  have hk := List.mem_range.1 hk
  rw [getD_at (by rw [List.length_append]; omega), List.getElem_append_left hk, getD_at hk]
 ·rw [getD_at (by simp)]
  simp
theorem sumX_snoc (t : Dl) : sumX (T ++ [t]) = (sumX T + t.1) % 1073741789 := by
 unfold sumX; rw [List.foldl_append]; rfl
theorem sumX_num : 0 ≤ sumX T ∧ sumX T < 1073741789 := by
 unfold sumX
 have h : ∀ (l : List Dl) (a : Int), 0 ≤ a ∧ a < 1073741789 → 0 ≤ l.foldl (fun a t => (a + t.1) % 1073741789) a ∧ l.foldl (fun a t => (a + t.1) % 1073741789) a < 1073741789 := by
  intro l
  induction l with
  | nil => intro a h; exact h
  | cons t l ih => intro a _; exact ih _ ⟨(by show 0 ≤ (a + t.1) % 1073741789; omega), (by show (a + t.1) % 1073741789 < 1073741789; omega)⟩
 exact h T 0 ⟨by omega, by omega⟩
theorem dlOK_snoc {t : Dl} (h : DlOK rows owners keys T) (ht : KdOK rows owners keys (2 * (T.length : Int)) t.1 t.2.1 t.2.2) : DlOK rows owners keys (T ++ [t]) := fun k hk => by
 by_cases hlt : k < T.length
 ·rw [List.getElem_append_left hlt]; exact h k hlt
 ·have e : k = T.length := by rw [List.length_append, List.length_singleton] at hk; omega
  subst e
  rw [List.getElem_append_right (Nat.le_refl _)]
  simpa using ht
end
end Go.Proofs.YtggnipkfliompaaGreatDoor
