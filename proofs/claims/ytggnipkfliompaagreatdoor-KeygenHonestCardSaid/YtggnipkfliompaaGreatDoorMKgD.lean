/- The reference of keygen: Keys, Fine, Right, Dealers. The laws of keygen: keysOf. Package keygen: slices of dealings and of complaints that grow. The laws of keygen, in plain Lean: a dealing is put among others (KeygenHonest). The reference of digest: ror, word. The reference of digest: numbers. The reference of digest: padded. The reference of digest: a block, the schedule. The reference of digest: Sum. The reference of digest: Tagged. The reference of group: Hash. The references' small functions: numerals, unsigned, mod. The reference of codec: lists of integers are well-formed, and not deep. The reference of codec: the bytes of lists of integers. The reference of codec: Encode at lists of integers, Int. The reference of parcels: Pad. The reference of parcels: With, Open. The reference of parcels: Seal. The reference of keygen: Deal. The laws of keygen: KeygenSpec. -/
import Derived.Test.YtggnipkfliompaaGreatDoorMKgA
import Derived.Test.YtggnipkfliompaaGreatDoorMKgU
import Derived.Test.YtggnipkfliompaaGreatDoorMDeaJ
import Derived.Test.YtggnipkfliompaaGreatDoorMDeaA
import Derived.Test.YtggnipkfliompaaGreatDoorMKgI
import Derived.Test.YtggnipkfliompaaGreatDoorMKgP
import Derived.Test.YtggnipkfliompaaGreatDoorMDigD
import Derived.Test.YtggnipkfliompaaGreatDoorMCodD
import Derived.Test.YtggnipkfliompaaGreatDoorMCoI
import Derived.Test.YtggnipkfliompaaGreatDoorMRange3
import Derived.Test.YtggnipkfliompaaGreatDoorMParA
import Derived.Test.YtggnipkfliompaaGreatDoorMKgE
import Derived.BigQuiet
import Derived.Great.BuildSlice
import Derived.Lib.MinMax
namespace Go.Proofs.YtggnipkfliompaaGreatDoor
open Go.RowKit FP

theorem keys_long {owners keys : List Int} (h : ¬ keys.length ≤ 64) : keysB owners keys = false := by unfold keysB; rw [decide_eq_false h]; rfl
theorem keys_odd {owners keys : List Int} {k : Nat} (h : k < keys.length) (ho : oddK keys[k] = true) : keysB owners keys = false := by
  unfold keysB; rw [List.any_eq_true.2 ⟨_, List.getElem_mem h, ho⟩]; simp
theorem keys_miss {owners keys : List Int} {k : Nat} (h : k < owners.length) (ho : missK keys owners[k] = true) : keysB owners keys = false := by
  unfold keysB; rw [List.any_eq_true.2 ⟨_, List.getElem_mem h, ho⟩]; simp
theorem keys_all {owners keys : List Int} (h1 : keys.length ≤ 64) (h2 : ∀ k (h : k < keys.length), oddK keys[k] = false) (h3 : ∀ k (h : k < owners.length), missK keys owners[k] = false) : keysB owners keys = true := by
  unfold keysB
  rw [decide_eq_true h1, Bool.true_and, Bool.and_eq_true, Bool.not_eq_true', Bool.not_eq_true']
  refine ⟨List.any_eq_false.2 fun x hx => ?_, List.any_eq_false.2 fun x hx => ?_⟩
  · obtain ⟨k, hk, rfl⟩ := List.getElem_of_mem hx; simp [h2 k hk]
  · obtain ⟨k, hk, rfl⟩ := List.getElem_of_mem hx; simp [h3 k hk]

set_option maxRecDepth 100000 in
set_option maxHeartbeats 4000000 in
theorem rKeys_any (rv ov kv : Value) (owners keys : List Int) (w : World) (hR : ∃ a n c, rv = .slice a n c) (hO : Ints w ov owners) (hK : Ints w kv keys) (h0 : ∀ o ∈ owners, 0 ≤ o) :
    Calls Tryz.prog 95 #[.agg #[rv, ov], kv] w fun r w' => r = .returned (.bool (keysB owners keys)) ∧ Below w.heap.size w w' := by
  obtain ⟨W1, hW1, hb1, hr1, hz⟩ := box_prog w rv ov 25
  have HO := Lib.hid (hO.below hb1)
  have HK := Lib.hid (hK.below hb1)
  obtain ⟨a1, n1, k1, rfl⟩ := hR
  obtain ⟨a2, k2, rfl, -, hl2, -⟩ := id hO
  obtain ⟨a3, k3, rfl, -, hl3, hr3, -⟩ := id hK
  have c1 := row_cell hr1 (k := 1) (v := .slice a2 owners.length k2) rfl
  have HW1 := Lib.hid hW1
  have HB := Lib.hid hb1
  have HR64 := Lib.hid hr3
  have H0 := Lib.hid h0
  have HKL := Lib.hid (fun h => keys_long (owners := owners) (keys := keys) h)
  have HKO := Lib.hid (fun k h ho => keys_odd (owners := owners) (keys := keys) (k := k) h ho)
  have HKM := Lib.hid (fun k h ho => keys_miss (owners := owners) (keys := keys) (k := k) h ho)
  have HKA := Lib.hid (fun h1 h2 h3 => keys_all (owners := owners) (keys := keys) h1 h2 h3)
  clear hO hK hb1 hr1 hW1 hz hr3 h0
  by_cases hl : keys.length ≤ 64
  rotate_left
  · have HV := Lib.hid (HKL.out hl)
    have d0 : decide ((64 : Int) < (keys.length : Int)) = true := decide_eq_true (by omega)
    clear hl
    go_enter Tryz.func95, Tryz.ntmps95
    go_wp2_with (rw [← HW1.out])
    go_ret
    exact ⟨ret_bool HV.out.symm, HB.out⟩
  have HL := Lib.hid hl
  have d0 : decide ((64 : Int) < (keys.length : Int)) = false := decide_eq_false (by omega)
  have d0' : decide (64 < keys.length) = false := decide_eq_false (by omega)
  clear hl
  go_enter Tryz.func95, Tryz.ntmps95
  go_wp2_with (rw [← HW1.out])
  go_loopw [5] (fun i W => ∃ k : Nat, k ≤ keys.length ∧ i = .int .i64 k ∧ Hid (∀ j (h : j < keys.length), j < k → oddK keys[j] = false) ∧ W = W1) (fun i _ => keys.length - (intOf i).toNat)
  case atStart => exact ⟨0, Nat.zero_le _, rfl, Lib.hid (fun j _ h => absurd h (Nat.not_lt_zero j)), rfl⟩
  case round =>
    obtain ⟨k, hkl, rfl, HP, rfl⟩ := hrel
    by_cases hlt : k < keys.length
    · obtain ⟨-, b1, o1, n2, cc1, e1, q1⟩ := HK.out.get hlt
      simp only [Value.slice.injEq] at e1
      obtain ⟨rfl, -, -⟩ := e1
      rw [nth_at hlt] at q1
      have hx64 : R64 keys[k] := HR64.out _ (List.getElem_mem hlt)
      have HVN := Lib.hid (fun h => HKO.out k hlt h)
      obtain ⟨x, hx⟩ : ∃ x, x = keys[k] := ⟨_, rfl⟩
      rw [← hx] at q1 hx64 HVN
      have HX := Lib.hid hx
      have i0 : (0 : Int) ≤ (k : Int) := by omega
      have i1 : (k : Int) < (keys.length : Int) := by omega
      clear hx
      by_cases hz : x = 0
      · have e0 : (x != 0) = false := by rw [hz]; rfl
        have HN := Lib.hid (show ∀ j (h : j < keys.length), j < k + 1 → oddK keys[j] = false from fun j h h1 => by
          by_cases e : j = k
          · subst e; rw [← HX.out, hz]; rfl
          · exact HP.out j h (by omega))
        clear hz hx64
        go_wp2_with fail
        go_roundw
        case rel => exact ⟨k + 1, by omega, by go_num, HN, by trivial⟩
        case measure => simp [intOf]; omega
      · have e0 : (x != 0) = true := bne_iff_ne.2 hz
        have HVA := Lib.hid (fun w => rvalid_any x w hx64)
        have HOX : Hid (oddK x = !elB x) := Lib.hid (by unfold oddK; rw [beq_eq_false_iff_ne.2 hz]; rfl)
        clear hz hx64
        go_wp2_with fail
        with_reducible refine (HVA.out _).mono ?_
        rintro r w2 ⟨rfl, rfl⟩
        cases he : elB x with
        | true =>
          have HN := Lib.hid (show ∀ j (h : j < keys.length), j < k + 1 → oddK keys[j] = false from fun j h h1 => by
            by_cases e : j = k
            · subst e; rw [← HX.out, HOX.out, he]; rfl
            · exact HP.out j h (by omega))
          clear he
          go_wp2_with fail
          go_roundw
          case rel => exact ⟨k + 1, by omega, by go_num, HN, by trivial⟩
          case measure => simp [intOf]; omega
        | false =>
          have HV := Lib.hid (HVN.out (by rw [HOX.out, he]; rfl))
          clear he
          go_wp2_with fail
          go_ret
          exact ⟨ret_bool HV.out.symm, HB.out⟩
    · have hdk : decide (k < keys.length) = false := decide_eq_false hlt
      have HPA := Lib.hid (show ∀ j (h : j < keys.length), oddK keys[j] = false from fun j h => HP.out j h (by omega))
      obtain rfl : k = keys.length := by omega
      clear hlt hkl HP
      go_wp2_with fail
      go_loopw [6] (fun i W => ∃ k : Nat, k ≤ owners.length ∧ i = .int .i64 k ∧ Hid (∀ j (h : j < owners.length), j < k → missK keys owners[j] = false) ∧ W = wr) (fun i _ => owners.length - (intOf i).toNat)
      case atStart => exact ⟨0, Nat.zero_le _, rfl, Lib.hid (fun j _ h => absurd h (Nat.not_lt_zero j)), rfl⟩
      case round =>
        obtain ⟨k, hkl, rfl, HQ, rfl⟩ := hrel
        by_cases hlt : k < owners.length
        · obtain ⟨-, b1, o1, n2, cc1, e1, q1⟩ := HO.out.get hlt
          simp only [Value.slice.injEq] at e1
          obtain ⟨rfl, -, -⟩ := e1
          rw [nth_at hlt] at q1
          have hx0 : 0 ≤ owners[k] := H0.out _ (List.getElem_mem hlt)
          have HVN := Lib.hid (fun h => HKM.out k hlt h)
          obtain ⟨x, hx⟩ : ∃ x, x = owners[k] := ⟨_, rfl⟩
          rw [← hx] at q1 hx0 HVN
          have HX := Lib.hid hx
          have i0 : (0 : Int) ≤ (k : Int) := by omega
          have i1 : (k : Int) < (owners.length : Int) := by omega
          clear hx
          by_cases hge : (keys.length : Int) ≤ x
          · have HV := Lib.hid (HVN.out (by unfold missK; rw [decide_eq_true hge]; rfl))
            have t0 : decide ((keys.length : Int) ≤ x) = true := decide_eq_true hge
            clear hge
            go_wp2_with fail
            go_ret
            exact ⟨ret_bool HV.out.symm, HB.out⟩
          have t0 : decide ((keys.length : Int) ≤ x) = false := decide_eq_false hge
          obtain ⟨m, rfl⟩ : ∃ m : Nat, x = (m : Int) := ⟨x.toNat, by omega⟩
          have hm : m < keys.length := by omega
          obtain ⟨-, b3, o3, n3, cc3, e3, q3⟩ := HK.out.get hm
          simp only [Value.slice.injEq] at e3
          obtain ⟨rfl, -, -⟩ := e3
          have t1 : decide (keys.length ≤ m) = false := decide_eq_false (by omega)
          have HMM : Hid (missK keys (m : Int) = (nth keys m == 0)) := Lib.hid (by unfold missK; rw [t0, Bool.false_or, Int.toNat_natCast])
          have i2 : (m : Int) < (keys.length : Int) := by omega
          clear hge
          obtain ⟨y, hy⟩ : ∃ y, y = nth keys m := ⟨_, rfl⟩
          rw [← hy] at q3 HMM
          clear hy
          by_cases hy0 : y = 0
          · have HV := Lib.hid (HVN.out (by rw [HMM.out, hy0]; rfl))
            have t2 : (y == 0) = true := beq_iff_eq.2 hy0
            clear hy0
            go_wp2_with fail
            go_ret
            exact ⟨ret_bool HV.out.symm, HB.out⟩
          · have t2 : (y == 0) = false := beq_eq_false_iff_ne.2 hy0
            have HN := Lib.hid (show ∀ j (h : j < owners.length), j < k + 1 → missK keys owners[j] = false from fun j h h1 => by
              by_cases e : j = k
              · subst e; rw [← HX.out, HMM.out, t2]
              · exact HQ.out j h (by omega))
            clear hy0
            go_wp2_with fail
            go_roundw
            case rel => exact ⟨k + 1, by omega, by go_num, HN, by trivial⟩
            case measure => simp [intOf]; omega
        · have HV := Lib.hid (HKA.out HL.out HPA.out (fun j h => HQ.out j h (by omega)))
          have hdk2 : decide (k < owners.length) = false := decide_eq_false hlt
          obtain rfl : k = owners.length := by omega
          clear hlt hkl
          go_wp2_with fail
          go_ret
          exact ⟨ret_bool HV.out.symm, HB.out⟩

set_option maxRecDepth 100000 in
set_option maxHeartbeats 4000000 in
theorem rDealers37_any (lv : Value) (l : List Dlg) (vs : DVals) (w : World) (hL : Dlgs w lv l vs) :
    Calls Tryz.prog 38 #[lv] w fun e w' => e = .returned (.bool (ordB l)) ∧ Below w.heap.size w w' := by
  have HL := Lib.hid hL
  obtain ⟨a1, k1, rfl, -, hl1, -⟩ := id hL
  clear hL
  have HBAD := Lib.hid (fun k h hb => ordB_bad (l := l) (k := k) h hb)
  have HALL := Lib.hid (fun h => ordB_all (l := l) h)
  have HAT := Lib.hid (fun k (h : k < l.length) => dlrL_at h)
  generalize ordB l = OB at *
  go_enter Tryz.func38, Tryz.ntmps38
  go_wp2_with fail
  go_loopw [3] (fun i W => ∃ k : Nat, k ≤ l.length ∧ i = .int .i64 ((k : Int) + 1) ∧ Hid (∀ j, j < k → j + 1 < l.length → nth (dlrL l) j < nth (dlrL l) (j + 1)) ∧ Below w.heap.size w W) (fun i _ => l.length + 1 - (intOf i).toNat)
  case atStart => exact ⟨0, Nat.zero_le _, rfl, Lib.hid (fun j h => absurd h (Nat.not_lt_zero j)), Below.refl _ _⟩
  case round =>
    obtain ⟨k, hkl, rfl, HK, hb⟩ := hrel
    by_cases hlt : k + 1 < l.length
    · obtain ⟨b, off, ha, hA⟩ := HL.out.at (k := k) (by omega)
      obtain ⟨b2, off2, ha2, hA2⟩ := HL.out.at (k := k + 1) hlt
      subst ha
      simp only [Option.some.injEq, Addr.mk.injEq] at ha2
      obtain ⟨rfl, rfl, -⟩ := ha2
      have y0 : wr.cell? ⟨b, off + k * 3, none⟩ = some (.int .i64 l[k].dealer) := below_cell hb hA.c0
      have y1 : wr.cell? ⟨b, off + (k + 1) * 3, none⟩ = some (.int .i64 l[k + 1].dealer) := below_cell hb hA2.c0
      have hx0 := HAT.out k (by omega)
      have hx1 := HAT.out (k + 1) hlt
      obtain ⟨p, hp⟩ : ∃ p, p = l[k].dealer := ⟨_, rfl⟩
      obtain ⟨q, hq⟩ : ∃ p, p = l[k + 1].dealer := ⟨_, rfl⟩
      rw [← hp] at y0 hx0
      rw [← hq] at y1 hx1
      have HX := Lib.hid (And.intro hx0 hx1)
      have HB := Lib.hid hb
      have i0 : (0 : Int) ≤ (k : Int) := by omega
      have i1 : (k : Int) < (l.length : Int) := by omega
      have i2 : (0 : Int) ≤ ((k + 1 : Nat) : Int) := by omega
      have i3 : ((k : Int) + 1) < (l.length : Int) := by omega
      have i4 : (0 : Int) ≤ (k : Int) + 1 := by omega
      have w1 : IntKind.i64.wrap ((k : Int) + 1 - 1) = (k : Int) := by rw [show (k : Int) + 1 - 1 = (k : Int) by omega]; exact IntWalk.i64_in _ (by omega)
      have e3 : ((k : Int) + 1).toNat = k + 1 := by omega
      have d3 : decide ((k : Int) + 1 < (l.length : Int)) = true := decide_eq_true i3
      clear hp hq hx0 hx1 hb hA hA2
      by_cases hpq : p < q
      · have HN := Lib.hid (show ∀ j, j < k + 1 → j + 1 < l.length → nth (dlrL l) j < nth (dlrL l) (j + 1) from fun j h1 h2 => by
          by_cases e : j = k
          · subst e; rw [HX.out.1, HX.out.2]; exact hpq
          · exact HK.out j (by omega) h2)
        have d9 : decide (q ≤ p) = false := decide_eq_false (by omega)
        clear hpq
        go_wp2_with fail
        go_quiet (fail)
        go_wp2_with fail
        go_roundw
        case rel => exact ⟨k + 1, by omega, by go_num, HN, below_drewN HB.out _⟩
        case measure => simp [intOf]; omega
      · have HV := Lib.hid (HBAD.out k hlt (by rw [HX.out.1, HX.out.2]; omega))
        have d9 : decide (q ≤ p) = true := decide_eq_true (by omega)
        clear hpq
        go_wp2_with fail
        go_quiet (fail)
        go_wp2_with fail
        go_ret
        exact ⟨ret_bool HV.out.symm, below_drewN HB.out _⟩
    · have HV := Lib.hid (HALL.out (fun j hj => HK.out j (by omega) hj))
      have d3 : decide ((k : Int) + 1 < (l.length : Int)) = false := decide_eq_false (by omega)
      go_wp2_with fail
      go_ret
      exact ⟨ret_bool HV.out.symm, hb⟩

end Go.Proofs.YtggnipkfliompaaGreatDoor

namespace Go.Proofs.YtggnipkfliompaaGreatDoor
open Go.RowKit FP

/-- What keysOf gives. -/
def KeysPost (rows : List (List Int)) (owners secrets : List Int) (w : World) (e : Ending) (w' : World) : Prop := ∃ a n c ok, e = .returned (.tuple #[.slice a n c, .bool ok]) ∧ Below w.heap.size w w' ∧
  (ok = true → n = secrets.length ∧ Ints w' (.slice a n c) (secrets.map (powE 4)) ∧ KeysOf owners secrets (secrets.map (powE 4)) ∧ progE rows owners = 0 ∧ secrets.length ≤ 10)
set_option maxRecDepth 100000 in
set_option maxHeartbeats 8000000 in
theorem keysOf_any (rv ov sv : Value) (rows : List (List Int)) (owners secrets : List Int) (w : World) (hR : Rows2 w rv rows) (hO : Ints w ov owners) (hS : Ints w sv secrets) :
    Calls Tryz.prog 37 #[.agg #[rv, ov], sv] w (KeysPost rows owners secrets w) := by
  obtain ⟨W0, hW0, hb, r0, -⟩ := box_prog w rv ov 25
  have HR := Lib.hid (hR.below hb)
  have HO := Lib.hid (hO.below hb)
  have HS := Lib.hid (hS.below hb)
  have HB := Lib.hid hb
  obtain ⟨a1, k1, rfl, -, hl1, -⟩ := id hR
  obtain ⟨a2, k2, rfl, -, hl2, -⟩ := id hO
  obtain ⟨a3, k3, rfl, -, hl3, hr3, -⟩ := id hS
  have HRR := Lib.hid hr3
  have c0 := row_cell r0 (k := 0) (v := .slice a1 rows.length k1) rfl
  have c1 := row_cell r0 (k := 1) (v := .slice a2 owners.length k2) rfl
  have HW0 := Lib.hid hW0
  clear hR hO hS hb r0 hW0 hr3
  go_enter Tryz.func37, Tryz.ntmps37
  by_cases h1 : secrets.length ≤ 10
  rotate_left
  · have d1 : decide ((10 : Int) < (secrets.length : Int)) = true := decide_eq_true (by omega)
    have d2 : decide (10 < secrets.length) = true := decide_eq_true (by omega)
    go_wp2_with (rw [← HW0.out])
    go_ret2
    exact ⟨_, _, _, false, rfl, HB.out, fun h => by cases h⟩
  have d1 : decide ((10 : Int) < (secrets.length : Int)) = false := decide_eq_false (by omega)
  have d2 : decide (10 < secrets.length) = false := decide_eq_false (by omega)
  go_wp2_with (rw [← HW0.out])
  clear HW0
  with_reducible refine (rSmall37_any _ _ rows owners _ HR.out HO.out).mono ?_
  rintro e w2 ⟨⟨b, rfl⟩, hb2⟩
  replace c0 := below_cell hb2 c0
  replace c1 := below_cell hb2 c1
  replace HR := Lib.hid (HR.out.below hb2)
  replace HO := Lib.hid (HO.out.below hb2)
  replace HS := Lib.hid (HS.out.below hb2)
  replace HB := Lib.hid (HB.out.trans (hb2.mono HB.out.size))
  clear hb2
  cases b with
  | false =>
    go_wp2_with fail
    go_ret2
    exact ⟨_, _, _, false, rfl, HB.out, fun h => by cases h⟩
  | true =>
  go_wp2_with fail
  with_reducible refine (rpCheck_any _ _ rows owners _ HR.out HO.out).mono ?_
  rintro e w3 ⟨rfl, hb3⟩
  replace c0 := below_cell hb3 c0
  replace c1 := below_cell hb3 c1
  replace HR := Lib.hid (HR.out.below hb3)
  replace HO := Lib.hid (HO.out.below hb3)
  replace HS := Lib.hid (HS.out.below hb3)
  replace HB := Lib.hid (HB.out.trans (hb3.mono HB.out.size))
  clear hb3
  by_cases hp : progE rows owners = 0
  rotate_left
  · have e1 : (progE rows owners != 0) = true := bne_iff_ne.2 hp
    go_wp2_with fail
    go_ret2
    exact ⟨_, _, _, false, rfl, HB.out, fun h => by cases h⟩
  rw [hp]
  have HP0 := Lib.hid hp
  clear hp d1 d2
  go_wp2_with fail
  go_loopw [4, 25] (fun x i Y => ∃ k : Nat, k ≤ secrets.length ∧ i = .int .i64 k ∧ Y.ownsRow w3.heap.size 3 1 x k (((secrets.take k).map (powE 4)).map (Value.int .i64)) ∧ Hid (∀ s ∈ secrets.take k, 1 ≤ s ∧ s ≤ 1073741788) ∧ Below w3.heap.size w3 Y) (fun _ i _ => secrets.length - (intOf i).toNat)
  case atStart => exact ⟨0, Nat.zero_le _, rfl, World.ownsRow_nil _ _ _ _, Lib.hid (by simp), Below.refl _ _⟩
  case round =>
    obtain ⟨k, hkl, rfl, hown, HK, hb⟩ := hrel
    obtain ⟨xa, xc, hx⟩ := own_form hown
    subst hx
    by_cases hlt : k < secrets.length
    · obtain ⟨b, off, ea, qs⟩ := ints_at (HS.out.below hb) hlt
      subst ea
      have hr := HRR.out _ (List.getElem_mem hlt)
      have htk : secrets.take (k + 1) = secrets.take k ++ [secrets[k]] := List.take_succ_eq_append_getElem hlt
      obtain ⟨s, hs⟩ : ∃ s, s = secrets[k] := ⟨_, rfl⟩
      rw [← hs] at qs hr htk
      have HTK := Lib.hid htk
      have HOW := Lib.hid hown
      have HBK := Lib.hid hb
      have HBW := Lib.hid (HB.out.trans (hb.mono HB.out.size))
      have i0 : (0 : Int) ≤ (k : Int) := Int.natCast_nonneg k
      have i1 : (k : Int) < (secrets.length : Int) := by omega
      have HRS := Lib.hid hr
      clear hs htk hown hb hr
      by_cases hs1 : s < 1
      · have d3 : decide (s < 1) = true := decide_eq_true hs1
        go_wp2_with fail
        go_ret2
        exact ⟨_, _, _, false, rfl, HBW.out, fun h => by cases h⟩
      have d3 : decide (s < 1) = false := decide_eq_false hs1
      by_cases hs2 : (1073741789 : Int) ≤ s
      · have d4 : decide ((1073741789 : Int) ≤ s) = true := decide_eq_true hs2
        go_wp2_with fail
        go_ret2
        exact ⟨_, _, _, false, rfl, HBW.out, fun h => by cases h⟩
      have d4 : decide ((1073741789 : Int) ≤ s) = false := decide_eq_false hs2
      go_wp2_with fail
      with_reducible refine (rpow_yes 4 s _ el_four HRS.out).mono ?_
      rintro e w5 ⟨rfl, rfl⟩
      have HKS := Lib.hid (show ∀ z ∈ secrets.take (k + 1), 1 ≤ z ∧ z ≤ 1073741788 from fun z hz => by
        rw [HTK.out] at hz
        rcases List.mem_append.1 hz with h9 | h9
        · exact HK.out z h9
        · rw [List.mem_singleton.1 h9]; omega)
      obtain ⟨W6, hW6⟩ : ∃ W, W = wr.alloc (.cells #[.int .i64 (powE 4 s)] 3) := ⟨_, rfl⟩
      have hb6 : Below wr.heap.size wr W6 := by rw [hW6]; exact below_new _ _ _
      have HC6 : Hid (W6.cell? ⟨wr.heap.size, 0, none⟩ = some (.int .i64 (powE 4 s))) := Lib.hid (by rw [hW6]; exact row_cell (World.alloc_heap_new _ _) rfl)
      have HO6 := Lib.hid (own_keep HOW.out hb6)
      have HB6 := Lib.hid (HBK.out.trans (hb6.mono HBK.out.size))
      have HN6 : Hid (k ≤ 1000000) := Lib.hid (by omega)
      have HS6 : Hid (w3.heap.size ≤ W6.heap.size) := Lib.hid HB6.out.size
      have HW6 := Lib.hid hW6
      have HLT := Lib.hid hlt
      clear hW6 hb6 d3 d4 hs1 hs2
      go_wp2_with (first | rw [← HW6.out] | (at_builtin; refine app_int rfl _ _ rfl w3.heap.size k _ _ rfl HO6.out wr.heap.size 1 (powE 4 s) rfl HC6.out HN6.out HS6.out ?_; intro v9 w9 h9 g9; have H9 := Lib.hid h9; have B9 := Lib.hid (own_below HO6.out g9 HS6.out); clear h9 g9))
      go_roundw
      case rel => exact ⟨k + 1, HLT.out, by go_num, by rw [HTK.out, List.map_append, List.map_append]; exact H9.out, HKS, HB6.out.trans B9.out⟩
      case measure =>
        have h9 := HLT.out
        simp [intOf]; omega
    · obtain rfl : k = secrets.length := by omega
      rw [List.take_length] at hown HK
      have hki : Ints wr (.slice xa secrets.length xc) (secrets.map (powE 4)) := Ints.own hown (fun z hz => by
        obtain ⟨y, -, rfl⟩ := List.mem_map.1 hz
        exact (el_powE el_four _).r64) (by rw [List.length_map]; omega)
      have HKI := Lib.hid hki
      have ho0 : ∀ z ∈ owners, 0 ≤ z := fun z hz => ((progE_ok HP0.out).own z hz).1
      have HO0 := Lib.hid ho0
      replace c0 := below_cell hb c0
      replace c1 := below_cell hb c1
      replace HR := Lib.hid (HR.out.below hb)
      replace HO := Lib.hid (HO.out.below hb)
      replace HS := Lib.hid (HS.out.below hb)
      replace HB := Lib.hid (HB.out.trans (hb.mono HB.out.size))
      clear hown hki ho0 hb
      go_wp2_with fail
      with_reducible refine (rKeys_any _ _ _ owners (secrets.map (powE 4)) _ ⟨_, _, _, rfl⟩ HO.out HKI.out HO0.out).mono ?_
      rintro e w7 ⟨rfl, hb7⟩
      have HKI7 := Lib.hid (HKI.out.below hb7)
      replace c0 := below_cell hb7 c0
      replace c1 := below_cell hb7 c1
      replace HR := Lib.hid (HR.out.below hb7)
      replace HO := Lib.hid (HO.out.below hb7)
      replace HS := Lib.hid (HS.out.below hb7)
      replace HB := Lib.hid (HB.out.trans (hb7.mono HB.out.size))
      clear hb7
      go_wp2_with fail
      go_ret2
      exact ⟨_, _, _, _, rfl, HB.out, fun h => ⟨rfl, HKI7.out, ⟨rfl, HK.out, keysB_iff.1 h, HO0.out⟩, HP0.out, h1⟩⟩

end Go.Proofs.YtggnipkfliompaaGreatDoor

namespace Go.Proofs.YtggnipkfliompaaGreatDoor
open Go.RowKit FP

/-- A dealing, with the values of its slices. -/
abbrev DV := Dlg × (Value × Value)
def dvC (z : DV) : List Value := [.int .i64 z.1.dealer, z.2.1, z.2.2]
structure DvOK (w : World) (z : DV) : Prop where
  r : R64 z.1.dealer
  cs : Ints w z.2.1 z.1.cs
  ps : Parcels w z.2.2 z.1.ps
def noV : DV := (⟨0, [], []⟩, (.slice none 0 0, .slice none 0 0))
def dvV (zs : List DV) (k : Nat) : Value × Value := (zs.getD k noV).2
theorem dvflat_at : ∀ (l : List DV) (k j : Nat) (hk : k < l.length), j < 3 → (l.flatMap dvC)[k * 3 + j]? = (dvC l[k])[j]?
  | [], k, _, hk, _ => absurd hk (Nat.not_lt_zero k)
  | z :: l, 0, j, _, hj => by
    rw [List.flatMap_cons, Nat.zero_mul, Nat.zero_add, List.getElem?_append_left (by show j < 3; exact hj)]; rfl
  | z :: l, k + 1, j, hk, hj => by
    rw [List.flatMap_cons, List.getElem?_append_right (by show 3 ≤ _; omega)]
    have e : (k + 1) * 3 + j - (dvC z).length = k * 3 + j := by show (k + 1) * 3 + j - 3 = _; omega
    rw [e, dvflat_at l k j (by simpa using hk) hj]; rfl
theorem dvflat_size (l : List DV) : (l.flatMap dvC).length = l.length * 3 := by
  induction l with
  | nil => rfl
  | cons z l ih => rw [List.flatMap_cons, List.length_append, ih, List.length_cons]; show 3 + _ = _; omega
theorem dvflat_snoc (l : List DV) (z : DV) : (l ++ [z]).flatMap dvC = l.flatMap dvC ++ dvC z := by rw [List.flatMap_append]; simp
/-- A row of the call's own reads as dealings. -/
theorem Dlgs.own {w : World} {base n : Nat} {v : Value} {zs : List DV} (h : w.ownsRow base 28 3 v n (zs.flatMap dvC)) (hz : ∀ z ∈ zs, DvOK w z) (hl : zs.length ≤ 1000000) : Dlgs w v (zs.map (·.1)) (dvV zs) := by
  obtain ⟨hn, h⟩ := h
  rw [dvflat_size] at hn
  obtain rfl : n = zs.length := by omega
  rcases h with ⟨rfl, h0⟩ | ⟨g, cap, cur, rfl, -, hg, hnc, -, hcs, hcur⟩
  · exact ⟨none, 0, by rw [List.length_map, h0], by rw [List.length_map]; omega, by rw [List.length_map]; omega, fun k hk => absurd hk (by rw [List.length_map]; omega)⟩
  · refine ⟨some ⟨g, 0, none⟩, cap, by rw [List.length_map], by rw [List.length_map]; exact hnc, by rw [List.length_map]; omega, fun k hk => ⟨g, 0, rfl, ?_⟩⟩
    have hk2 : k < zs.length := by rw [List.length_map] at hk; exact hk
    have hok := hz _ (List.getElem_mem hk2)
    have hv : dvV zs k = zs[k].2 := by unfold dvV; rw [getD_at hk2]
    have hd : (zs.map (·.1))[k] = zs[k].1 := by simp
    have hcell : ∀ j u, j < 3 → (dvC zs[k])[j]? = some u → w.cell? ⟨g, 0 + k * 3 + j, none⟩ = some u := fun j u hj hu => by
      have e2 : (cur.toList.take (zs.length * 3))[k * 3 + j]? = (dvC zs[k])[j]? := by rw [hcur, dvflat_at zs k j hk2 hj]
      rw [List.getElem?_take, if_pos (by omega)] at e2
      rw [Nat.zero_add]
      exact row_cell hg (by rw [← Array.getElem?_toList, e2]; exact hu)
    rw [hv, hd]
    exact ⟨hcell 0 _ (by omega) rfl, hcell 1 _ (by omega) rfl, hcell 2 _ (by omega) rfl, hok.r, hok.cs, hok.ps⟩
set_option maxRecDepth 100000 in
theorem infoDlg : (Tryz.prog.info? 28).map (fun i => (i.zero.map (·.cells.size), i.size, i.bytes)) = some (some 3, 3, 56) := by kernel_rfl
set_option maxRecDepth 100000 in
/-- One dealing is appended. -/
theorem app_dlg {ops : Array Oper} {rest : List Oper} {o : Oper} {a : Act} {Q : Exit → Act → World → Prop} {W : World} (hgd : o.guard = none) (s x : Operand) (ho : o.op = .call { callee := .builtin .append, args := #[s, x], argTypes := #[55, 55] })
    (base : Nat) (v : Value) (l : List DV) (n : Nat) (hs : a.eval s = v) (hown : W.ownsRow base 28 3 v n (l.flatMap dvC)) (b c : Nat) (z : DV) (hx : a.eval x = .slice (some ⟨b, 0, none⟩) 1 c) (hsl : (∃ a n c, z.2.1 = .slice a n c) ∧ ∃ a n c, z.2.2 = .slice a n c) (hcell : ∀ j u, (dvC z)[j]? = some u → W.cell? ⟨b, j, none⟩ = some u) (hn : n ≤ 1000000) (hbase : base ≤ W.heap.size)
    (h : ∀ g cap w', w'.ownsRow base 28 3 (.slice (some ⟨g, 0, none⟩) (n + 1) cap) (n + 1) ((l ++ [z]).flatMap dvC) → Onto W v w' (.slice (some ⟨g, 0, none⟩) (n + 1) cap) → wpList Tryz.prog ops Q rest (a.put o.dst (.slice (some ⟨g, 0, none⟩) (n + 1) cap)) w') : wpList Tryz.prog ops Q (o :: rest) a W := by
  obtain ⟨i, hi, hzz⟩ := Option.map_eq_some_iff.1 infoDlg
  simp only [Prod.mk.injEq] at hzz
  obtain ⟨hz, hs1, hb⟩ := hzz
  obtain ⟨zv, hzv, hzs⟩ := Option.map_eq_some_iff.1 hz
  refine wpList_append_lies _ hgd s x 55 ho base 28 i zv 3 56 Tryz.underlying55 hi hzv hs1 hb hzs (by decide) v n (l.flatMap dvC) hs hown ⟨b, 0, none⟩ 1 c (dvC z) hx rfl ?_ ?_ (by decide) ?_ ?_ hbase W.heap.size rfl ?_
  · intro j u hu
    rw [add_row]; exact hcell j u hu
  · intro u hu
    simp only [dvC, List.mem_cons, List.not_mem_nil, or_false] at hu
    obtain ⟨⟨a1, n1, c1, e1⟩, ⟨a2, n2, c2, e2⟩⟩ := hsl
    rcases hu with rfl | rfl | rfl
    · rfl
    · rw [e1]; rfl
    · rw [e2]; rfl
  · unfold maxLen; omega
  · omega
  · intro g cap w' h1 h2 h3 _
    refine h g cap w' (by rw [dvflat_snoc]; exact h1) ⟨h2, ?_⟩
    rcases h3 with h3 | h3
    · exact .inl (h3 ▸ rfl)
    · exact .inr ⟨g, rfl, by omega⟩
end Go.Proofs.YtggnipkfliompaaGreatDoor

namespace Go.Proofs.YtggnipkfliompaaGreatDoor
open Go.RowKit FP

/-- One of the others comes: it is left out, or the dealing is put ahead of it, or it is put behind. -/
def stepH (n : Int) (zd : DV) (s : List DV × Bool) (x : DV) : List DV × Bool :=
  if x.1.dealer = n then s else if n < x.1.dealer ∧ s.2 = false then (s.1 ++ [zd] ++ [x], true) else (s.1 ++ [x], s.2)
def putsH (n : Int) (zd : DV) (xs : List DV) : List DV × Bool := xs.foldl (stepH n zd) ([], false)
/-- The list at the end. -/
def allH (n : Int) (zd : DV) (xs : List DV) : List DV := if (putsH n zd xs).2 = true then (putsH n zd xs).1 else (putsH n zd xs).1 ++ [zd]
theorem putsH_snoc (n : Int) (zd : DV) (xs : List DV) (x : DV) : putsH n zd (xs ++ [x]) = stepH n zd (putsH n zd xs) x := by unfold putsH; rw [List.foldl_append]; rfl
theorem stepH_same {n : Int} {zd : DV} {s : List DV × Bool} {x : DV} (h : x.1.dealer = n) : stepH n zd s x = s := if_pos h
theorem stepH_first {n : Int} {zd : DV} {s : List DV × Bool} {x : DV} (h : x.1.dealer ≠ n) (h2 : n < x.1.dealer) (h3 : s.2 = false) : stepH n zd s x = (s.1 ++ [zd] ++ [x], true) := by
  unfold stepH; rw [if_neg h, if_pos ⟨h2, h3⟩]
theorem stepH_more {n : Int} {zd : DV} {s : List DV × Bool} {x : DV} (h : x.1.dealer ≠ n) (h2 : ¬(n < x.1.dealer ∧ s.2 = false)) : stepH n zd s x = (s.1 ++ [x], s.2) := by
  unfold stepH; rw [if_neg h, if_neg h2]
theorem putsH_inv (n : Int) (zd : DV) : ∀ (k : Nat) (xs : List DV), xs.length = k → ((putsH n zd xs).2 = true → zd ∈ (putsH n zd xs).1) ∧ (∀ z ∈ (putsH n zd xs).1, z = zd ∨ z ∈ xs) ∧ (putsH n zd xs).1.length ≤ k + (if (putsH n zd xs).2 = true then 1 else 0)
  | 0, xs, h => by
    obtain rfl : xs = [] := List.length_eq_zero_iff.1 h
    exact ⟨(fun h => by cases h), (fun z hz => by cases hz), by simp [putsH]⟩
  | k + 1, xs, h => by
    obtain ⟨ys, x, rfl⟩ : ∃ ys x, xs = ys ++ [x] := ⟨xs.dropLast, xs.getLast (by intro e; rw [e] at h; cases h), (List.dropLast_concat_getLast _).symm⟩
    have hy : ys.length = k := by rw [List.length_append, List.length_singleton] at h; omega
    obtain ⟨i1, i2, i3⟩ := putsH_inv n zd k ys hy
    rw [putsH_snoc]
    generalize putsH n zd ys = s at *
    obtain ⟨sl, sb⟩ := s
    simp only at i1 i2 i3
    by_cases h1 : x.1.dealer = n
    · rw [stepH_same h1]
      exact ⟨i1, fun z hz => (i2 z hz).imp id (fun h => List.mem_append_left _ h), by show sl.length ≤ k + 1 + (if sb = true then 1 else 0); have i4 : sl.length ≤ k + (if sb = true then 1 else 0) := i3; omega⟩
    · by_cases h2 : n < x.1.dealer ∧ sb = false
      · rw [stepH_first h1 h2.1 h2.2]
        refine ⟨fun _ => by simp, fun z hz => ?_, ?_⟩
        · simp only [List.mem_append, List.mem_singleton] at hz ⊢
          rcases hz with (hz | hz) | hz
          · exact (i2 z hz).imp id Or.inl
          · exact .inl hz
          · exact .inr (.inr hz)
        · rw [h2.2] at i3
          simp at i3 ⊢
          omega
      · rw [stepH_more h1 h2]
        refine ⟨fun h => List.mem_append_left _ (i1 h), fun z hz => ?_, ?_⟩
        · simp only [List.mem_append, List.mem_singleton] at hz ⊢
          rcases hz with hz | hz
          · exact (i2 z hz).imp id Or.inl
          · exact .inr (.inr hz)
        · rw [List.length_append, List.length_singleton]; simp only; omega
theorem allH_mem (n : Int) (zd : DV) (xs : List DV) : zd ∈ allH n zd xs := by
  unfold allH
  by_cases h : (putsH n zd xs).2 = true
  · rw [if_pos h]; exact (putsH_inv n zd _ xs rfl).1 h
  · rw [if_neg h]; simp
theorem allH_of {n : Int} {zd : DV} {xs : List DV} {z : DV} (h : z ∈ allH n zd xs) : z = zd ∨ z ∈ xs := by
  unfold allH at h
  by_cases h2 : (putsH n zd xs).2 = true
  · rw [if_pos h2] at h; exact (putsH_inv n zd _ xs rfl).2.1 z h
  · rw [if_neg h2, List.mem_append, List.mem_singleton] at h
    exact h.elim ((putsH_inv n zd _ xs rfl).2.1 z) Or.inl
theorem putsH_len (n : Int) (zd : DV) (xs : List DV) : (putsH n zd xs).1.length ≤ xs.length + 1 := by
  have h := (putsH_inv n zd _ xs rfl).2.2
  refine Nat.le_trans h ?_
  split <;> omega

/-- The first of the others, with their values. -/
def xsH (l : List Dlg) (vs : DVals) (k : Nat) : List DV := (List.range k).map fun i => ((l.getD i noD, vs i) : DV)
theorem xsH_len (l : List Dlg) (vs : DVals) (k : Nat) : (xsH l vs k).length = k := by simp [xsH]
theorem xsH_put {n : Int} {zd : DV} {l : List Dlg} {vs : DVals} {k : Nat} {s : List DV × Bool} (h : putsH n zd (xsH l vs k) = s) : putsH n zd (xsH l vs (k + 1)) = stepH n zd s (l.getD k noD, vs k) := by
  unfold xsH at h ⊢
  rw [range_snoc, putsH_snoc, h]
theorem dv_cells {W : World} {b : Nat} {d : Dlg} {cv pv : Value} (h : W.heap[b]? = some (.cells #[.int .i64 d.dealer, cv, pv] 28 (0, 0))) : ∀ j u, (dvC (d, (cv, pv)))[j]? = some u → W.cell? ⟨b, j, none⟩ = some u := fun j u hj => row_cell h (by
  match j with
  | 0 | 1 | 2 => exact hj
  | n + 3 => simp [dvC] at hj)
/-- A complaint that proves no other element than the right one. -/
def GoodC (rows : List (List Int)) (owners secrets keys us : List Int) (dealer : Int) (c : Cmp) : Prop :=
  c.dealer = dealer → 0 ≤ c.row → c.row < (rows.length : Int) → chkB (keyOf owners keys c.row.toNat) (powE 4 (nth us c.row.toNat)) c.D c.E c.S = true → c.D = powE (powE 4 (nth us c.row.toNat)) (secOf owners secrets c.row.toNat)
/-- KeygenHonest, in plain Lean. -/
theorem honest_in {rows : List (List Int)} {owners keys secrets : List Int} {dealer x : Int} {rnd us : List Int} {l : List Dlg} {cl : List Cmp} (h : KdOK rows owners keys dealer x rnd us) (hk : KeysOf owners secrets keys) (hc : ∀ c ∈ cl, GoodC rows owners secrets keys us dealer c) (hl : kdD rows owners keys dealer x rnd us ∈ l) (ho : ordB l = true) (h1 : l.length ≤ 64) (h2 : cl.length ≤ 4096) :
    quE rows owners keys l cl = 0 ∧ dealer ∈ dlrL (qualL rows owners keys cl l) := by
  have hq : kdD rows owners keys dealer x rnd us ∈ qualL rows owners keys cl l := qual_of hl h.fine fun c hc2 => kdD_cnt h hk (hc c hc2)
  refine ⟨quE_of h.p0 h.keys h1 h2 ho (fun e => by rw [e] at hq; cases hq), List.mem_map.2 ⟨_, hq, (kdD_dealer h).1⟩⟩

end Go.Proofs.YtggnipkfliompaaGreatDoor

namespace Go.Proofs.YtggnipkfliompaaGreatDoor
open Go.RowKit

end Go.Proofs.YtggnipkfliompaaGreatDoor

namespace Go.Proofs.YtggnipkfliompaaGreatDoor
open Go.RowKit

end Go.Proofs.YtggnipkfliompaaGreatDoor

namespace Go.Proofs.YtggnipkfliompaaGreatDoor
open Go.RowKit

end Go.Proofs.YtggnipkfliompaaGreatDoor

namespace Go.Proofs.YtggnipkfliompaaGreatDoor
open Go.RowKit

end Go.Proofs.YtggnipkfliompaaGreatDoor

namespace Go.Proofs.YtggnipkfliompaaGreatDoor
open Go.RowKit

end Go.Proofs.YtggnipkfliompaaGreatDoor

namespace Go.Proofs.YtggnipkfliompaaGreatDoor
open Go.RowKit

end Go.Proofs.YtggnipkfliompaaGreatDoor

namespace Go.Proofs.YtggnipkfliompaaGreatDoor
open Go.RowKit

end Go.Proofs.YtggnipkfliompaaGreatDoor

namespace Go.Proofs.YtggnipkfliompaaGreatDoor
open Go.RowKit

end Go.Proofs.YtggnipkfliompaaGreatDoor

namespace Go.Proofs.YtggnipkfliompaaGreatDoor
open Go.RowKit

end Go.Proofs.YtggnipkfliompaaGreatDoor

namespace Go.Proofs.YtggnipkfliompaaGreatDoor
open Go.RowKit

end Go.Proofs.YtggnipkfliompaaGreatDoor

namespace Go.Proofs.YtggnipkfliompaaGreatDoor
open Go.RowKit

end Go.Proofs.YtggnipkfliompaaGreatDoor

namespace Go.Proofs.YtggnipkfliompaaGreatDoor
open Go.RowKit

end Go.Proofs.YtggnipkfliompaaGreatDoor

namespace Go.Proofs.YtggnipkfliompaaGreatDoor
open Go.RowKit

end Go.Proofs.YtggnipkfliompaaGreatDoor

namespace Go.Proofs.YtggnipkfliompaaGreatDoor
open Go.RowKit

end Go.Proofs.YtggnipkfliompaaGreatDoor

namespace Go.Proofs.YtggnipkfliompaaGreatDoor
open Go.RowKit FP

end Go.Proofs.YtggnipkfliompaaGreatDoor

namespace Go.Proofs.YtggnipkfliompaaGreatDoor
open Go.RowKit FP

theorem newB (w : World) (d : Int) (cv pv : Value) : ∃ W, W = w.alloc (.cells #[.int .i64 d, cv, pv] 28) ∧ Below w.heap.size w W ∧ W.heap[w.heap.size]? = some (.cells #[.int .i64 d, cv, pv] 28 (0, 0)) := ⟨_, rfl, below_new _ _ _, World.alloc_heap_new _ _⟩
end Go.Proofs.YtggnipkfliompaaGreatDoor
