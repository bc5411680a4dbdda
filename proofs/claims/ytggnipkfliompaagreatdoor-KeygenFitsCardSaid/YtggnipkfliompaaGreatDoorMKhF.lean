/- The laws of keygen: KeygenFits. -/
import Derived.Test.YtggnipkfliompaaGreatDoorMKgD
import Derived.Test.YtggnipkfliompaaGreatDoorMKhC
import Derived.Test.YtggnipkfliompaaGreatDoorMKgS
import Derived.Test.YtggnipkfliompaaGreatDoorMKgT
import Derived.Test.YtggnipkfliompaaGreatDoorMCodD
import Derived.Test.YtggnipkfliompaaGreatDoorMCoI
namespace Go.Proofs.YtggnipkfliompaaGreatDoor
open Go.RowKit FP


structure FFi17 (w0 : World) (pb : Nat) (db : Nat) (rv : Value) (ov : Value) (dl : Int) (cv : Value) (pv : Value) (sb : Nat) (so : Nat) (ns : Nat) (cs : Nat) (m : Nat) (i : Nat) (s : Int) (cd : Int) (cr : Int) (D1 : Int) (E1 : Int) (S1 : Int) (bb : Bool) (done : Nat → Bool) (v : Nat → Value) (w : World) : Prop where
  b : Below w0.heap.size w0 w
  f0 : done 0 = true → v 0 = .agg #[rv, ov]
  f1 : done 1 = true → v 1 = .slice (some ⟨sb, so, none⟩) ns cs
  f2 : done 2 = true → v 2 = .int .i64 (m : Int)
  f3 : done 3 = true → v 3 = .pointer (some ⟨sb, so + m, none⟩)
  f4 : done 4 = true → v 4 = .int .i64 s
  f5 : done 5 = true → v 5 = .agg #[.int .i64 dl, cv, pv]
  f6 : done 6 = true → v 6 = .int .i64 (i : Int)
  f7 : done 7 = true → v 7 = .tuple #[.agg #[.int .i64 cd, .int .i64 cr, .int .i64 D1, .int .i64 E1, .int .i64 S1], .bool bb, .int .i64 0]
  f8 : done 8 = true → v 8 = .tuple #[.agg #[.int .i64 cd, .int .i64 cr, .int .i64 D1, .int .i64 E1, .int .i64 S1], .bool bb, .int .i64 0]
  f9 : done 9 = true → v 9 = .agg #[.int .i64 cd, .int .i64 cr, .int .i64 D1, .int .i64 E1, .int .i64 S1]
  f10 : done 10 = true → v 10 = .bool bb
  f11 : done 11 = true → v 11 = .int .i64 0
  f14 : done 14 = true → v 14 = .bool bb
  f15 : done 15 = true → v 15 = .int .i64 0
  bx : MBox w0.heap.size w (done 12) (done 13) (v 12) ⟨cd, cr, D1, E1, S1⟩

structure FFi32 (w0 : World) (pb : Nat) (rv : Value) (ov : Value) (sb : Nat) (so : Nat) (ns : Nat) (cs : Nat) (m : Nat) (i : Nat) (s : Int) (ds : Value) (lv : Value) (r : Int) (x : Int) (done : Nat → Bool) (v : Nat → Value) (w : World) : Prop where
  b : Below w0.heap.size w0 w
  f0 : done 0 = true → v 0 = .agg #[rv, ov]
  f1 : done 1 = true → v 1 = .slice (some ⟨sb, so, none⟩) ns cs
  f2 : done 2 = true → v 2 = .int .i64 (m : Int)
  f3 : done 3 = true → v 3 = .pointer (some ⟨sb, so + m, none⟩)
  f4 : done 4 = true → v 4 = .int .i64 s
  f5 : done 5 = true → v 5 = .int .i64 (i : Int)
  f6 : done 6 = true → v 6 = ds
  f7 : done 7 = true → v 7 = lv
  f8 : done 8 = true → v 8 = .tuple #[.agg #[.int .i64 r, .int .i64 x], .int .i64 0]
  f9 : done 9 = true → v 9 = .tuple #[.agg #[.int .i64 r, .int .i64 x], .int .i64 0]
  f10 : done 10 = true → v 10 = .agg #[.int .i64 r, .int .i64 x]
  f11 : done 11 = true → v 11 = .int .i64 0
  f14 : done 14 = true → v 14 = .int .i64 0
  bx : SBox w0.heap.size w (done 12) (done 13) (v 12) r x

set_option maxRecDepth 100000 in
set_option maxHeartbeats 16000000 in
theorem keygenFits_any (rv ov sv dv cv : Value) (rows : List (List Int)) (owners secrets : List Int) (l : List Dlg) (vs : DVals) (cl : List Cmp) (w : World) (hG : Glob w) (hR : Rows2 w rv rows) (hO : Ints w ov owners) (hS : Ints w sv secrets) (hD : Dlgs w dv l vs) (hC : Cmps w cv cl) :
    Calls Tryz.prog 11 #[.agg #[rv, ov], sv, dv, cv] w fun r w' => r = .returned (.bool true) ∧ Below w.heap.size w w' := by
  obtain ⟨W0, hW0, hb, r0, -⟩ := box_prog w rv ov 25
  have HG := Lib.hid (hG.below hb)
  have HR := Lib.hid (hR.below hb)
  have HO := Lib.hid (hO.below hb)
  have HS := Lib.hid (hS.below hb)
  have HD := Lib.hid (hD.below hb)
  have HC := Lib.hid (hC.below hb)
  have HB := Lib.hid hb
  obtain ⟨a1, k1, rfl, -, hl1, -⟩ := id hR
  obtain ⟨a2, k2, rfl, -, hl2, -⟩ := id hO
  obtain ⟨a3, k3, rfl, -, hl3, -⟩ := id hS
  obtain ⟨a4, k4, rfl, -, hl4, -⟩ := id hD
  obtain ⟨a5, k5, rfl, -, hl5, -⟩ := id hC
  have c0 := row_cell r0 (k := 0) (v := .slice a1 rows.length k1) rfl
  have c1 := row_cell r0 (k := 1) (v := .slice a2 owners.length k2) rfl
  have HW0 := Lib.hid hW0
  clear hG hR hO hS hD hC hb r0 hW0
  go_enter Tryz.func11, Tryz.ntmps11
  go_wp2_with (rw [← HW0.out])
  clear HW0
  with_reducible refine (sane37_any _ HG.out).mono ?_
  rintro e w2 ⟨rfl, hb2⟩
  replace c0 := below_cell hb2 c0
  replace c1 := below_cell hb2 c1
  replace HG := Lib.hid (HG.out.below hb2)
  replace HR := Lib.hid (HR.out.below hb2)
  replace HO := Lib.hid (HO.out.below hb2)
  replace HS := Lib.hid (HS.out.below hb2)
  replace HD := Lib.hid (HD.out.below hb2)
  replace HC := Lib.hid (HC.out.below hb2)
  replace HB := Lib.hid (HB.out.trans (hb2.mono HB.out.size))
  clear hb2
  go_wp2_with fail
  with_reducible refine (keysOf_any _ _ _ rows owners secrets _ HR.out HO.out HS.out).mono ?_
  rintro e w3 ⟨ka, kn, kc, ok, rfl, hb3, hkeys⟩
  replace c0 := below_cell hb3 c0
  replace c1 := below_cell hb3 c1
  replace HG := Lib.hid (HG.out.below hb3)
  replace HR := Lib.hid (HR.out.below hb3)
  replace HO := Lib.hid (HO.out.below hb3)
  replace HS := Lib.hid (HS.out.below hb3)
  replace HD := Lib.hid (HD.out.below hb3)
  replace HC := Lib.hid (HC.out.below hb3)
  replace HB := Lib.hid (HB.out.trans (hb3.mono HB.out.size))
  clear hb3
  cases ok with
  | false =>
    go_wp2_with fail
    go_ret
    exact ⟨rfl, HB.out⟩
  | true =>
  obtain ⟨rfl, hki, hko, hp0, hs10⟩ := hkeys rfl
  obtain ⟨keys, hkk⟩ : ∃ keys, keys = secrets.map (powE 4) := ⟨_, rfl⟩
  rw [← hkk] at hki hko
  have HK := Lib.hid hki
  have HKO := Lib.hid hko
  have HP0 := Lib.hid hp0
  have HKL : Hid (keys.length = secrets.length) := Lib.hid (by rw [hkk, List.length_map])
  clear hkeys hki hko hp0 hkk
  by_cases h1 : l.length ≤ 4
  rotate_left
  · have d1 : decide ((4 : Int) < (l.length : Int)) = true := decide_eq_true (by omega)
    have d2 : decide (4 < l.length) = true := decide_eq_true (by omega)
    go_wp2_with fail
    go_ret
    exact ⟨rfl, HB.out⟩
  have d1 : decide ((4 : Int) < (l.length : Int)) = false := decide_eq_false (by omega)
  have d2 : decide (4 < l.length) = false := decide_eq_false (by omega)
  by_cases h2 : cl.length ≤ 6
  rotate_left
  · have d3 : decide ((6 : Int) < (cl.length : Int)) = true := decide_eq_true (by omega)
    have d4 : decide (6 < cl.length) = true := decide_eq_true (by omega)
    go_wp2_with fail
    go_ret
    exact ⟨rfl, HB.out⟩
  have d3 : decide ((6 : Int) < (cl.length : Int)) = false := decide_eq_false (by omega)
  have d4 : decide (6 < cl.length) = false := decide_eq_false (by omega)
  go_wp2_with fail
  with_reducible refine (rFew37_any _ _ _ _ rows owners keys l vs none 0 0 _ HR.out HO.out HK.out HD.out (by omega)).mono ?_
  rintro e w4 ⟨⟨b, rfl⟩, hb4⟩
  replace c0 := below_cell hb4 c0
  replace c1 := below_cell hb4 c1
  replace HG := Lib.hid (HG.out.below hb4)
  replace HR := Lib.hid (HR.out.below hb4)
  replace HO := Lib.hid (HO.out.below hb4)
  replace HS := Lib.hid (HS.out.below hb4)
  replace HD := Lib.hid (HD.out.below hb4)
  replace HC := Lib.hid (HC.out.below hb4)
  replace HK := Lib.hid (HK.out.below hb4)
  replace HB := Lib.hid (HB.out.trans (hb4.mono HB.out.size))
  clear hb4
  cases b with
  | false =>
    go_wp2_with fail
    go_ret
    exact ⟨rfl, HB.out⟩
  | true =>
  go_wp2_with fail
  clear d1 d2 d3 d4
  with_reducible refine (rDealers37_any _ l vs _ HD.out).mono ?_
  rintro e w5 ⟨rfl, hb5⟩
  replace c0 := below_cell hb5 c0
  replace c1 := below_cell hb5 c1
  replace HG := Lib.hid (HG.out.below hb5)
  replace HR := Lib.hid (HR.out.below hb5)
  replace HO := Lib.hid (HO.out.below hb5)
  replace HS := Lib.hid (HS.out.below hb5)
  replace HD := Lib.hid (HD.out.below hb5)
  replace HC := Lib.hid (HC.out.below hb5)
  replace HK := Lib.hid (HK.out.below hb5)
  replace HB := Lib.hid (HB.out.trans (hb5.mono HB.out.size))
  clear hb5
  cases hob : ordB l with
  | false =>
    go_wp2_with fail
    go_ret
    exact ⟨rfl, HB.out⟩
  | true =>
  have HORD := Lib.hid hob
  clear hob
  obtain ⟨W6, hW6⟩ : ∃ W, W = w5.alloc (.cells #[] 34) := ⟨_, rfl⟩
  have hb6 : Below w5.heap.size w5 W6 := by rw [hW6]; exact below_new _ _ _
  have H6 : Hid (W6.ownsRow w5.heap.size 34 5 (.slice (some ⟨w5.heap.size, 0, none⟩) 0 0) 0 []) := Lib.hid (by rw [hW6]; exact World.ownsRow_made _ #[] 0 (Nat.le_refl _) (by unfold maxLen; omega) rfl)
  have HC6 := Lib.hid (HC.out.below hb6)
  have HB6 := Lib.hid hb6
  have HS6 : Hid (w5.heap.size ≤ W6.heap.size) := Lib.hid hb6.size
  have HW6 := Lib.hid hW6
  have HL2 := Lib.hid h2
  clear hb6 hW6
  go_wp2_with (first | rw [← HW6.out] | (at_builtin; refine app_cmps rfl _ _ rfl w5.heap.size 0 _ [] rfl H6.out a5 k5 cl rfl HC6.out (by have := HL2.out; omega) HS6.out ?_; intro v7 w7 h7 hb7; rw [Nat.zero_add, List.nil_append] at h7; obtain ⟨va7, vn7, vc7, rfl⟩ := own_sl h7; have H7 := Lib.hid h7; have B7 := Lib.hid (HB6.out.trans hb7); clear h7 hb7))
  clear HW6 H6 HC6 HB6 HS6
  go_loopw [11, 67] (fun x i Y => ∃ k : Nat, k ≤ l.length ∧ i = .int .i64 k ∧ Y.ownsRow w5.heap.size 34 5 x (cl ++ madL rows owners secrets (l.take k)).length ((cl ++ madL rows owners secrets (l.take k)).flatMap cmpC) ∧ Below w5.heap.size w5 Y) (fun _ i _ => l.length - (intOf i).toNat)
  case atStart => exact ⟨0, Nat.zero_le _, rfl, by simpa [madL] using H7.out, B7.out⟩
  case round =>
    obtain ⟨k, hkl, rfl, hown, hb⟩ := hrel
    clear H7 B7
    by_cases hlt : k < l.length
    · obtain ⟨b, off, ea, hat⟩ := (HD.out.below hb).at hlt
      subst ea
      have hsn := madL_succ (rows := rows) (owners := owners) (secrets := secrets) hlt
      have hml := madL_len (rows := rows) (owners := owners) (secrets := secrets) (l.take k)
      have hol : owners.length ≤ 64 := by rw [← (progE_ok HP0.out).len]; exact (progE_ok HP0.out).few
      have hcl : (cl ++ madL rows owners secrets (l.take k)).length ≤ 300 := by
        rw [List.length_append]
        have h9 : (l.take k).length ≤ 4 := by rw [List.length_take]; omega
        have h8 : (l.take k).length * owners.length ≤ 4 * 64 := Nat.mul_le_mul h9 hol
        omega
      have HSN : Hid (cl ++ madL rows owners secrets (l.take (k + 1)) = (cl ++ madL rows owners secrets (l.take k)) ++ madF rows owners secrets l[k]) := Lib.hid (by rw [hsn, List.append_assoc])
      obtain ⟨C, hC⟩ : ∃ C, C = (cl ++ madL rows owners secrets (l.take k)) := ⟨_, rfl⟩
      rw [← hC] at hown hcl HSN
      obtain ⟨_, _, -, hat5⟩ := HD.out.at hlt
      have hd5 := And.intro hat5.cs hat5.ps
      clear hat5
      obtain ⟨d, hd⟩ : ∃ d, d = l[k] := ⟨_, rfl⟩
      rw [← hd] at hat HSN hd5
      obtain ⟨zv, hzv⟩ : ∃ z, z = vs k := ⟨_, rfl⟩
      rw [← hzv] at hat hd5
      obtain ⟨v1, v2⟩ := zv
      simp only at hat hd5
      obtain ⟨ca, cc, rfl, -⟩ := id hat.cs
      obtain ⟨pa, pc, rfl, -⟩ := id hat.ps
      have y0 := hat.c0
      have y1 := hat.c1
      have y2 := hat.c2
      obtain ⟨W8, hW8, hb8, hr8⟩ := newB wr d.dealer (.slice ca d.cs.length cc) (.slice pa d.ps.length pc)
      have x0_ := row_cell hr8 (k := 0) (v := .int .i64 d.dealer) rfl
      have x1_ := row_cell hr8 (k := 1) (v := .slice ca d.cs.length cc) rfl
      have x2_ := row_cell hr8 (k := 2) (v := .slice pa d.ps.length pc) rfl
      have HDC := Lib.hid (hat.cs.below hb8)
      have HDP := Lib.hid (hat.ps.below hb8)
      have HDR := Lib.hid (show R64 d.dealer from hat.r)
      have HNE := Lib.hid (own_ne hown (.inl (Nat.le_refl wr.heap.size)))
      have HBX := Lib.hid hr8
      have HW8 := Lib.hid hW8
      have HOW := Lib.hid (own_keep hown hb8)
      have HBW := Lib.hid (hb.trans (hb8.mono hb.size))
      have c0_ := below_cell HBW.out c0
      have c1_ := below_cell HBW.out c1
      have i0 : (0 : Int) ≤ (k : Int) := Int.natCast_nonneg k
      have i1 : (k : Int) < (l.length : Int) := by omega
      have HLT := Lib.hid hlt
      have HCL := Lib.hid hcl
      have HD5 := Lib.hid hd5
      obtain ⟨xa9, xn9, xc9, rfl⟩ := own_sl HOW.out
      obtain ⟨wd, rfl⟩ : ∃ x, x = wr := ⟨_, rfl⟩
      clear hW8 hb8 hr8 hown hb hC hd hzv hat hsn hml hcl hd5
      go_wp2_with (rw [← HW8.out])
      with_reducible refine (kright_any _ _ _ _ rows owners d _ (HR.out.below HBW.out) (HO.out.below HBW.out) HDC.out HDP.out).mono ?_
      rintro e w9 ⟨rfl, hb9⟩
      rw [HP0.out, show kriB rows owners d = fineB rows d from by unfold kriB; rw [if_pos HP0.out]]
      replace x0_ := below_cell hb9 x0_
      replace x1_ := below_cell hb9 x1_
      replace x2_ := below_cell hb9 x2_
      replace c0_ := below_cell hb9 c0_
      replace c1_ := below_cell hb9 c1_
      replace HDC := Lib.hid (HDC.out.below hb9)
      replace HDP := Lib.hid (HDP.out.below hb9)
      replace HOW := Lib.hid (own_keep HOW.out hb9)
      replace HBX := Lib.hid ((hb9.block _ (row_lt HBX.out)).trans HBX.out)
      replace HBW := Lib.hid (HBW.out.trans (hb9.mono HBW.out.size))
      clear hb9
      cases hfd : fineB rows d with
      | false =>
        replace HSN := Lib.hid (HSN.out.trans (by unfold madF; rw [hfd, if_neg (by decide), List.append_nil]))
        clear hfd
        go_wp2_with fail
        go_loopw [11, 82] (fun x i Y => x = .slice xa9 xn9 xc9 ∧ i = .int .i64 0 ∧ Y = w9) (fun _ _ _ => 0)
        case atStart => exact ⟨rfl, rfl, rfl⟩
        case round =>
          obtain ⟨rfl, rfl, rfl⟩ := hrel
          by_cases h0 : 0 < owners.length
          · obtain ⟨ob, oo, ea, qo_⟩ := ints_at (HO.out.below HBW.out) h0
            subst ea
            rw [Nat.add_zero] at qo_
            have j1 : (0 : Int) < (owners.length : Int) := by omega
            go_wp2_with fail
            go_roundw
            case rel => exact ⟨k + 1, HLT.out, by go_num, by rw [HSN.out]; exact HOW.out, HBW.out⟩
            case measure =>
              have h9 := HLT.out
              simp [intOf]; omega
          · have j1 : owners.length = 0 := by omega
            have j2 : decide ((0 : Int) < (owners.length : Int)) = false := decide_eq_false (by omega)
            have j3 : decide (0 < owners.length) = false := decide_eq_false (by omega)
            go_wp2_with fail
            go_roundw
            case rel => exact ⟨k + 1, HLT.out, by go_num, by rw [HSN.out]; exact HOW.out, HBW.out⟩
            case measure =>
              have h9 := HLT.out
              simp [intOf]; omega
      | true =>
        replace HSN := Lib.hid (HSN.out.trans (by unfold madF; rw [hfd, if_pos rfl]))
        have HFD := Lib.hid (fineB_iff.1 hfd)
        clear hfd
        have HBX0 := Lib.hid HBX.out
        go_wp2_with fail
        go_loopw [11, 82] (fun x i Y => ∃ j : Nat, j ≤ owners.length ∧ i = .int .i64 j ∧ Y.ownsRow w5.heap.size 34 5 x (C ++ madeD rows owners secrets d j).length ((C ++ madeD rows owners secrets d j).flatMap cmpC) ∧ Below w5.heap.size w5 Y ∧ Y.heap[wd.heap.size]? = some (.cells #[.int .i64 d.dealer, .slice ca d.cs.length cc, .slice pa d.ps.length pc] 28 (0, 0)) ∧ x.ownBlock ≠ some wd.heap.size) (fun _ i _ => owners.length - (intOf i).toNat)
        case atStart => exact ⟨0, Nat.zero_le _, rfl, by simpa [madeD] using HOW.out, HBW.out, HBX0.out, HNE.out⟩
        case round =>
          clear HOW HBW HBX HBX0 HNE x0_ x1_ x2_ c0_ c1_
          obtain ⟨j, hjl, rfl, hown, hb, hbx, hne⟩ := hrel
          obtain ⟨wi, rfl⟩ : ∃ x, x = wr := ⟨_, rfl⟩
          by_cases hjt : j < owners.length
          · have hjr : j < rows.length := by rw [(progE_ok HP0.out).len]; exact hjt
            have hj64 : j ≤ 64 := by have := (progE_ok HP0.out).few; omega
            have hat := HKO.out.at hjt
            obtain ⟨ob, oo, ea, qo_⟩ := ints_at (HO.out.below hb) hjt
            subst ea
            obtain ⟨m, hm⟩ : ∃ m : Nat, owners[j] = (m : Int) := ⟨owners[j].toNat, by have := HKO.out.own _ (List.getElem_mem hjt); omega⟩
            have hmn : nth owners j = (m : Int) := by rw [nth_at hjt]; exact hm
            have hms : m < secrets.length := by have h9 := hat.1; rw [hmn, Int.toNat_natCast] at h9; exact h9
            obtain ⟨sb, so, ea, qs_⟩ := ints_at (HS.out.below hb) hms
            subst ea
            have hsm : secrets[m] = secOf owners secrets j := by unfold secOf; rw [hmn, Int.toNat_natCast, nth_at hms]
            rw [hm] at qo_
            rw [hsm] at qs_
            have hyes := madeD_yes (rows := rows) (owners := owners) (secrets := secrets) (d := d) (n := j)
            have hno := madeD_no (rows := rows) (owners := owners) (secrets := secrets) (d := d) (n := j)
            have hk0 := HFD.out.mk0 HP0.out hjr hat.2.1
            have hdl := madeD_len (rows := rows) (owners := owners) (secrets := secrets) (d := d) j
            have hsr : R64 (secOf owners secrets j) := num_r64 ⟨by have := hat.2.1; omega, by have := hat.2.1; omega⟩
            have hjr64 : R64 (j : Int) := R64.mk (by omega) (by omega)
            have HMK0 := Lib.hid (fun W (h : Below wi.heap.size wi W) => cMake_any (.slice a1 rows.length k1) (.slice (some ⟨ob, oo, none⟩) owners.length k2) (.slice ca d.cs.length cc) (.slice pa d.ps.length pc) rows owners d (secOf owners secrets j) (j : Int) W ((HG.out.below hb).below h) ((HR.out.below hb).below h) ((HO.out.below hb).below h) ((HD5.out.1.below hb).below h) ((HD5.out.2.below hb).below h) hsr hjr64)
            rw [hk0] at HMK0
            clear hat hmn hsm hm hk0 hjr64 hsr
            generalize mkC rows owners (secOf owners secrets j) d (j : Int) = c at *
            generalize mkB rows owners (secOf owners secrets j) d (j : Int) = bb at *
            generalize secOf owners secrets j = sec at *
            obtain ⟨L, hL⟩ : ∃ L, L = C ++ madeD rows owners secrets d j := ⟨_, rfl⟩
            have HYES : Hid (bb = true → C ++ madeD rows owners secrets d (j + 1) = L ++ [c]) := Lib.hid (fun h => by rw [hyes h, hL, List.append_assoc])
            have HNO : Hid (bb = false → C ++ madeD rows owners secrets d (j + 1) = L) := Lib.hid (fun h => by rw [hno h, hL])
            have HLL : Hid (L.length ≤ 1000) := Lib.hid (by rw [hL, List.length_append]; have := HCL.out; omega)
            rw [← hL] at hown
            obtain ⟨cd, cr, D1, E1, S1⟩ := c
            have HMK : Hid (∀ W, Below wi.heap.size wi W → Calls Tryz.prog 15 #[.agg #[.slice a1 rows.length k1, .slice (some ⟨ob, oo, none⟩) owners.length k2], .int .i64 sec, .agg #[.int .i64 d.dealer, .slice ca d.cs.length cc, .slice pa d.ps.length pc], .int .i64 (j : Int)] W fun r w' => r = .returned (.tuple #[.agg #[.int .i64 cd, .int .i64 cr, .int .i64 D1, .int .i64 E1, .int .i64 S1], .bool bb, .int .i64 0]) ∧ Below W.heap.size W w') := Lib.hid HMK0.out
            obtain ⟨xa, xn, xc, rfl⟩ := own_sl hown
            have HOW := Lib.hid hown
            have HBW := Lib.hid hb
            have HBX := Lib.hid hbx
            have HNE := Lib.hid hne
            have HJT := Lib.hid hjt
            have x0_ := row_cell hbx (k := 0) (v := .int .i64 d.dealer) rfl
            have x1_ := row_cell hbx (k := 1) (v := .slice ca d.cs.length cc) rfl
            have x2_ := row_cell hbx (k := 2) (v := .slice pa d.ps.length pc) rfl
            have c0_ := below_cell hb c0
            have c1_ := below_cell hb c1
            have i0 : (0 : Int) ≤ (j : Int) := Int.natCast_nonneg j
            have i1 : (j : Int) < (owners.length : Int) := by omega
            have i5 : (0 : Int) ≤ (m : Int) := Int.natCast_nonneg m
            have i6 : (m : Int) < (secrets.length : Int) := by omega
            clear hown hb hbx hne hL hyes hno hdl HMK0 hms hjr
            go_wp2_with fail
            refine wp_region_flowsG (by kernel_rfl) (by kernel_rfl) (by kernel_rfl) (by kernel_rfl) (fun done v W => FFi17 wi (w.heap.size) (wd.heap.size) (.slice a1 rows.length k1) (.slice (some ⟨ob, oo, none⟩) owners.length k2) (d.dealer) (.slice ca d.cs.length cc) (.slice pa d.ps.length pc) (sb) (so) (secrets.length) (k3) (m) (j) (sec) (cd) (cr) (D1) (E1) (S1) (bb) done v W) (fun v => ?_) ?_ (fun v W h => ?_)
            · exact ⟨(Below.refl _ _).drew, (fun h => by cases h), (fun h => by cases h), (fun h => by cases h), (fun h => by cases h), (fun h => by cases h), (fun h => by cases h), (fun h => by cases h), (fun h => by cases h), (fun h => by cases h), (fun h => by cases h), (fun h => by cases h), (fun h => by cases h), (fun h => by cases h), (fun h => by cases h), MBox.nil _ _ _ _⟩
            · refine ⟨?_, ?_, ?_, ?_, ?_, ?_, ?_, ?_, ?_, ?_, ?_, ?_, ?_, ?_, ?_, ?_, trivial⟩
              · intro done v W A h hd hp hu hA hB hdf
                have e0 : A.tmps[4]?.getD undef = .pointer (some ⟨w.heap.size, 0, none⟩) := hB 4 rfl
                have y0_ := below_cell h.b c0_
                have y1_ := below_cell h.b c1_
                clear hA hB hp hu hdf
                go_simp
                exact ⟨_, rfl, { h with f0 := (fun _ => rfl) }⟩
              · intro done v W A h hd hp hu hA hB hdf
                have e0 : A.tmps[1]?.getD undef = .slice (some ⟨sb, so, none⟩) secrets.length k3 := hB 1 rfl
                clear hA hB hp hu hdf
                go_simp
                exact ⟨_, rfl, { h with f1 := (fun _ => rfl) }⟩
              · intro done v W A h hd hp hu hA hB hdf
                have e0 : A.tmps[17]?.getD undef = .int .i64 (m : Int) := hB 17 rfl
                clear hA hB hp hu hdf
                go_simp
                exact ⟨_, rfl, { h with f2 := (fun _ => rfl) }⟩
              · intro done v W A h hd hp hu hA hB hdf
                have hd1 : done 1 = true := hp 1 rfl
                have hd2 : done 2 = true := hp 2 rfl
                have e0 := (hA 1 91 rfl hd1).trans (h.f1 hd1)
                have e1 := (hA 2 92 rfl hd2).trans (h.f2 hd2)
                clear hA hB hp hu hdf
                go_simp
                exact ⟨_, rfl, { h with f3 := (fun _ => rfl) }⟩
              · intro done v W A h hd hp hu hA hB hdf
                have hd3 : done 3 = true := hp 3 rfl
                have e0 := (hA 3 93 rfl hd3).trans (h.f3 hd3)
                have y0_ := below_cell h.b qs_
                clear hA hB hp hu hdf
                go_simp
                exact ⟨_, rfl, { h with f4 := (fun _ => rfl) }⟩
              · intro done v W A h hd hp hu hA hB hdf
                have e0 : A.tmps[13]?.getD undef = .pointer (some ⟨wd.heap.size, 0, none⟩) := hB 13 rfl
                have y0_ := below_cell h.b x0_
                have y1_ := below_cell h.b x1_
                have y2_ := below_cell h.b x2_
                clear hA hB hp hu hdf
                go_simp
                exact ⟨_, rfl, { h with f5 := (fun _ => rfl) }⟩
              · intro done v W A h hd hp hu hA hB hdf
                have e0 : A.tmps[16]?.getD undef = .int .i64 (j : Int) := hB 16 rfl
                clear hA hB hp hu hdf
                go_simp
                exact ⟨_, rfl, { h with f6 := (fun _ => rfl) }⟩
              · intro done v W A h hd hp hu hA hB hdf
                have hd0 : done 0 = true := hp 0 rfl
                have hd4 : done 4 = true := hp 4 rfl
                have hd5 : done 5 = true := hp 5 rfl
                have hd6 : done 6 = true := hp 6 rfl
                have e0 := (hA 0 90 rfl hd0).trans (h.f0 hd0)
                have e1 := (hA 4 94 rfl hd4).trans (h.f4 hd4)
                have e2 := (hA 5 95 rfl hd5).trans (h.f5 hd5)
                have e3 := (hA 6 96 rfl hd6).trans (h.f6 hd6)
                clear hA hB hp hu hdf
                go_simp
                with_reducible refine (HMK.out W h.b).mono ?_
                rintro e wq ⟨rfl, hb⟩
                exact ⟨_, rfl, { h with b := h.b.trans (hb.mono h.b.size), f7 := (fun _ => rfl), bx := (h.bx.below hb) }⟩
              · intro done v W A h hd hp hu hA hB hdf
                have hd7 : done 7 = true := hp 7 rfl
                have e0 := (hA 7 97 rfl hd7).trans (h.f7 hd7)
                clear hA hB hp hu hdf
                go_simp
                exact ⟨_, rfl, { h with f8 := (fun _ => rfl) }⟩
              · intro done v W A h hd hp hu hA hB hdf
                have hd8 : done 8 = true := hp 8 rfl
                have e0 := (hA 8 89 rfl hd8).trans (h.f8 hd8)
                clear hA hB hp hu hdf
                go_simp
                exact ⟨_, rfl, { h with f9 := (fun _ => rfl) }⟩
              · intro done v W A h hd hp hu hA hB hdf
                have hd8 : done 8 = true := hp 8 rfl
                have e0 := (hA 8 89 rfl hd8).trans (h.f8 hd8)
                clear hA hB hp hu hdf
                go_simp
                exact ⟨_, rfl, { h with f10 := (fun _ => rfl) }⟩
              · intro done v W A h hd hp hu hA hB hdf
                have hd8 : done 8 = true := hp 8 rfl
                have e0 := (hA 8 89 rfl hd8).trans (h.f8 hd8)
                clear hA hB hp hu hdf
                go_simp
                exact ⟨_, rfl, { h with f11 := (fun _ => rfl) }⟩
              · intro done v W A h hd hp hu hA hB hdf
                have n13_12 : done 13 = false := flow_not (fun hj => hu 13 12 rfl (hj)) hd
                have hb := below_new W (cmpA cmpZ) 34
                have hn := h.b.size
                clear hA hB hp hu hdf
                go_simp
                exact ⟨_, rfl, { h with b := h.b.trans (hb.mono h.b.size), bx := (h.bx.alloc n13_12 hn) }⟩
              · intro done v W A h hd hp hu hA hB hdf
                have hd9 : done 9 = true := hp 9 rfl
                have hd12 : done 12 = true := hp 12 rfl
                obtain ⟨B, eB, hn0, -, hS⟩ := h.bx hd12
                simp only [hd, Bool.false_eq_true, if_false] at hS
                have e1 := (hA 12 18 rfl hd12).trans eB
                have e2 := (hA 9 98 rfl hd9).trans (h.f9 hd9)
                have u0 := row_cell hS (k := 0) (v := .int .i64 0) rfl
                have u1 := row_cell hS (k := 1) (v := .int .i64 0) rfl
                have u2 := row_cell hS (k := 2) (v := .int .i64 0) rfl
                have u3 := row_cell hS (k := 3) (v := .int .i64 0) rfl
                have u4 := row_cell hS (k := 4) (v := .int .i64 0) rfl
                have g0 := row_free hS 0
                have g1 := row_free hS 1
                have g2 := row_free hS 2
                have g3 := row_free hS 3
                have g4 := row_free hS 4
                clear hA hB hp hu hdf
                go_simp
                exact ⟨undef, { h with b := cmpW_below (C := B) (⟨cd, cr, D1, E1, S1⟩ : Cmp) h.b hn0, bx := (h.bx.store eB hd12 hS) }⟩
              · intro done v W A h hd hp hu hA hB hdf
                have hd10 : done 10 = true := hp 10 rfl
                have e0 := (hA 10 99 rfl hd10).trans (h.f10 hd10)
                clear hA hB hp hu hdf
                go_simp
                exact ⟨_, rfl, { h with f14 := (fun _ => rfl) }⟩
              · intro done v W A h hd hp hu hA hB hdf
                have hd11 : done 11 = true := hp 11 rfl
                have e0 := (hA 11 100 rfl hd11).trans (h.f11 hd11)
                clear hA hB hp hu hdf
                go_simp
                exact ⟨_, rfl, { h with f15 := (fun _ => rfl) }⟩
            simp only [putL, Act.put, Nat.reduceAdd, List.setIfInBounds_toArray, List.set_cons_zero, List.set_cons_succ]
            rw [h.f14 rfl]
            rw [h.f15 rfl]
            have hbr := h.b
            obtain ⟨B, eB, hB0, -, hBR⟩ := h.bx rfl
            rw [eB]
            clear h eB HMK
            obtain ⟨W1, rfl⟩ : ∃ x, x = W := ⟨_, rfl⟩
            have HBR := Lib.hid hbr
            have hBR2 : W1.heap[B]? = some (.cells #[.int .i64 cd, .int .i64 cr, .int .i64 D1, .int .i64 E1, .int .i64 S1] 34 (0, 0)) := hBR
            clear hbr hBR
            cases bb with
            | false =>
              have HN := Lib.hid (HNO.out rfl)
              clear HNO HYES hBR2
              go_wp2_with fail
              go_roundw
              case rel => exact ⟨j + 1, HJT.out, by go_num, by rw [HN.out]; exact own_keep HOW.out HBR.out, HBW.out.trans (HBR.out.mono HBW.out.size), (HBR.out.block _ (row_lt HBX.out)).trans HBX.out, HNE.out⟩
              case measure =>
                have h9 := HJT.out
                simp [intOf]; omega
            | true =>
              have HN := Lib.hid (HYES.out rfl)
              have g0 := row_cell hBR2 (k := 0) (v := .int .i64 cd) rfl
              have g1 := row_cell hBR2 (k := 1) (v := .int .i64 cr) rfl
              have g2 := row_cell hBR2 (k := 2) (v := .int .i64 D1) rfl
              have g3 := row_cell hBR2 (k := 3) (v := .int .i64 E1) rfl
              have g4 := row_cell hBR2 (k := 4) (v := .int .i64 S1) rfl
              obtain ⟨W2, hW2, hb2, hr2⟩ : ∃ W, W = W1.alloc (.cells #[.int .i64 cd, .int .i64 cr, .int .i64 D1, .int .i64 E1, .int .i64 S1] 34) ∧ Below W1.heap.size W1 W ∧ W.heap[W1.heap.size]? = some (.cells #[.int .i64 cd, .int .i64 cr, .int .i64 D1, .int .i64 E1, .int .i64 S1] 34 (0, 0)) := ⟨_, rfl, below_new _ _ _, World.alloc_heap_new _ _⟩
              have HW2 := Lib.hid hW2
              have hb12 := HBR.out.trans (hb2.mono HBR.out.size)
              have HO2 := Lib.hid (own_keep HOW.out hb12)
              have HB2 := Lib.hid (HBW.out.trans (hb12.mono HBW.out.size))
              have HX2 := Lib.hid ((hb12.block _ (row_lt HBX.out)).trans HBX.out)
              have HC2 : Hid (∀ i u, (cmpC ⟨cd, cr, D1, E1, S1⟩)[i]? = some u → W2.cell? ⟨W1.heap.size, i, none⟩ = some u) := Lib.hid (fun i u hu => cmp_row hr2 i u hu)
              have HS2 : Hid (w5.heap.size ≤ W2.heap.size) := Lib.hid HB2.out.size
              clear hW2 hb2 hr2 hb12 HNO HYES hBR2
              go_wp2_with (first | rw [← HW2.out] | (at_builtin; refine app_cmp rfl _ _ rfl w5.heap.size _ L L.length rfl HO2.out W1.heap.size 1 ⟨cd, cr, D1, E1, S1⟩ rfl HC2.out (by have := HLL.out; omega) HS2.out ?_; intro g9 c9 w8 h9 o9; have H9 := Lib.hid h9; have B9 := Lib.hid (own_below HO2.out o9.1 HS2.out); have X9 := Lib.hid ((o9.1.block _ (row_lt HX2.out) (fun e => HNE.out e.symm)).trans HX2.out); have N9 := Lib.hid (onto_ne o9 (row_lt HX2.out) HNE.out); clear h9 o9))
              go_roundw
              case rel => exact ⟨j + 1, HJT.out, by go_num, by rw [HN.out, List.length_append]; exact H9.out, HB2.out.trans B9.out, X9.out, N9.out⟩
              case measure =>
                have h9 := HJT.out
                simp [intOf]; omega
          · obtain rfl : j = owners.length := by omega
            have HOW := Lib.hid hown
            have HBW := Lib.hid hb
            clear hown hb hbx hne
            go_wp2_with fail
            go_roundw
            case rel => exact ⟨k + 1, HLT.out, by go_num, by rw [HSN.out]; exact HOW.out, HBW.out⟩
            case measure =>
              have h9 := HLT.out
              simp [intOf]; omega
    · obtain rfl : k = l.length := by omega
      rw [List.take_length] at hown
      replace c0 := below_cell hb c0
      replace c1 := below_cell hb c1
      replace HG := Lib.hid (HG.out.below hb)
      replace HR := Lib.hid (HR.out.below hb)
      replace HO := Lib.hid (HO.out.below hb)
      replace HS := Lib.hid (HS.out.below hb)
      replace HD := Lib.hid (HD.out.below hb)
      replace HC := Lib.hid (HC.out.below hb)
      replace HK := Lib.hid (HK.out.below hb)
      replace HB := Lib.hid (HB.out.trans (hb.mono HB.out.size))
      clear hb
      obtain ⟨wc, rfl⟩ : ∃ x, x = wr := ⟨_, rfl⟩
      have hol : owners.length ≤ 64 := by rw [← (progE_ok HP0.out).len]; exact (progE_ok HP0.out).few
      have hml := madL_len (rows := rows) (owners := owners) (secrets := secrets) l
      have h8 : l.length * owners.length ≤ 4 * 64 := Nat.mul_le_mul h1 hol
      have hcl : (cl ++ madL rows owners secrets l).length ≤ 300 := by
        rw [List.length_append]
        omega
      have hcr : ∀ c ∈ cl ++ madL rows owners secrets l, CmpR c := fun c hc => by
        rcases List.mem_append.1 hc with h9 | h9
        · obtain ⟨_, _, _, _, _, hr, _⟩ := HC.out
          exact hr c h9
        · exact madL_r HP0.out l c h9
      have HX := Lib.hid (Cmps.own hown hcr (by omega))
      obtain ⟨xa, xc, rfl, -⟩ := id HX.out
      have hmm : ∀ d ∈ l, ∀ i, i < owners.length → fineB rows d = true → mkB rows owners (secOf owners secrets i) d (i : Int) = true → mkC rows owners (secOf owners secrets i) d (i : Int) ∈ cl ++ madL rows owners secrets l := fun d hd i hi hf hm => List.mem_append_right _ (madL_mem hd hf hi hm)
      obtain ⟨Z, hZ⟩ : ∃ Z, Z = cl ++ madL rows owners secrets l := ⟨_, rfl⟩
      rw [← hZ] at HX hcl hmm ⊢
      have HMM := Lib.hid hmm
      have hqe := quE_370 (cl := Z) HP0.out HKO.out.ok (by omega) (by omega) HORD.out
      have HCL := Lib.hid hcl
      clear hown hcr hZ hml h8 hol hmm hcl
      go_wp2_with fail
      with_reducible refine (kQualified_any _ _ _ _ _ rows owners keys l vs Z _ HG.out HR.out HO.out HK.out HD.out HX.out).mono ?_
      rintro e w7 ⟨v, kv, rfl, hb7, hoff, hon⟩
      replace c0 := below_cell hb7 c0
      replace c1 := below_cell hb7 c1
      replace HG := Lib.hid (HG.out.below hb7)
      replace HR := Lib.hid (HR.out.below hb7)
      replace HO := Lib.hid (HO.out.below hb7)
      replace HS := Lib.hid (HS.out.below hb7)
      replace HD := Lib.hid (HD.out.below hb7)
      replace HC := Lib.hid (HC.out.below hb7)
      replace HK := Lib.hid (HK.out.below hb7)
      replace HB := Lib.hid (HB.out.trans (hb7.mono HB.out.size))
      clear hb7
      obtain ⟨ME, hME⟩ : ∃ z, z = quE rows owners keys l Z := ⟨_, rfl⟩
      rw [← hME] at hoff hon hqe ⊢
      rcases hqe with hE | hE
      rotate_left
      · obtain ⟨rfl, rfl⟩ := hoff (by omega)
        rw [hE]
        obtain ⟨W8, hW8, hb8, hr8⟩ := newK w7 (.int .i64 0) (.slice none 0 0) (.slice none 0 0) (.slice none 0 0)
        subst hW8
        have HBN := Lib.hid (HB.out.trans (hb8.mono HB.out.size))
        clear hoff hon hE hME hb8 hr8
        go_wp2_with fail
        go_ret
        exact ⟨rfl, HBN.out⟩
      subst hE
      obtain ⟨hvi, cv2, rfl, hci⟩ := hon rfl
      obtain ⟨hp0, hko, -, -, hord, hqn⟩ := quE_parts hME.symm
      have HFT := Lib.hid (fun i (hi : i < rows.length) s (hs : 1 ≤ s ∧ s ≤ 1073741788) (hk : keyOf owners keys i = powE 4 s) hm => own_fits hME.symm hi hs hk hm)
      have HQN : Hid (0 < (dlrL (qualL rows owners keys Z l)).length) := Lib.hid (by rw [dlrL_len]; exact List.length_pos_iff.2 hqn)
      have HVR : Hid (∀ i, owE rows owners (secOf owners secrets i) (i : Int) (dlrL (qualL rows owners keys Z l)) l = 0 → owR rows owners (secOf owners secrets i) (i : Int) (dlrL (qualL rows owners keys Z l)) l = (i : Int) ∧ owV rows owners (secOf owners secrets i) (i : Int) (dlrL (qualL rows owners keys Z l)) l = owS rows (secOf owners secrets i) (i : Int) (dlrL (qualL rows owners keys Z l)) l (dlrL (qualL rows owners keys Z l)).length) := Lib.hid (fun i h9 => ⟨by unfold owR; rw [if_pos h9], by unfold owV; rw [if_pos h9]⟩)
      generalize comL (qualL rows owners keys Z l) = cq at *
      generalize dlrL (qualL rows owners keys Z l) = q at *
      clear hoff hon hME hp0 hko hord hqn
      obtain ⟨va, vc, rfl, -⟩ := id hvi
      obtain ⟨za, zc, rfl, -⟩ := id hci
      obtain ⟨W8, hW8, hb8, hr8⟩ := newK w7 (.int .i64 0) (.slice a1 rows.length k1) (.slice a2 owners.length k2) (.slice za cq.length zc)
      have HW8 := Lib.hid hW8
      have HVI := Lib.hid (hvi.below hb8)
      have HCI := Lib.hid (hci.below hb8)
      have oc0 := c0
      have oc1 := c1
      replace c0 := below_cell hb8 c0
      replace c1 := below_cell hb8 c1
      replace HG := Lib.hid (HG.out.below hb8)
      replace HR := Lib.hid (HR.out.below hb8)
      replace HO := Lib.hid (HO.out.below hb8)
      replace HS := Lib.hid (HS.out.below hb8)
      replace HD := Lib.hid (HD.out.below hb8)
      replace HC := Lib.hid (HC.out.below hb8)
      replace HK := Lib.hid (HK.out.below hb8)
      replace HB := Lib.hid (HB.out.trans (hb8.mono HB.out.size))
      clear hb8
      have k0_ := row_cell hr8 (k := 0) rfl
      have k1_ := row_cell hr8 (k := 1) rfl
      have k2_ := row_cell hr8 (k := 2) rfl
      have k3_ := row_cell hr8 (k := 3) rfl
      have e1 : (q.length == 0) = false := beq_eq_false_iff_ne.2 (by have := HQN.out; omega)
      have e2 : ((q.length : Int) == 0) = false := beq_eq_false_iff_ne.2 (by have := HQN.out; omega)
      clear hW8 hr8 hvi hci
      go_wp2_with (rw [← HW8.out])
      clear HW8 oc0 oc1 e1 e2
      go_loopw [139] (fun i Y => ∃ j : Nat, j ≤ owners.length ∧ i = .int .i64 j ∧ Below W8.heap.size W8 Y) (fun i _ => owners.length - (intOf i).toNat)
      case atStart => exact ⟨0, Nat.zero_le _, rfl, Below.refl _ _⟩
      case round =>
        obtain ⟨j, hjl, rfl, hb⟩ := hrel
        by_cases hjt : j < owners.length
        · have hjr : j < rows.length := by rw [(progE_ok HP0.out).len]; exact hjt
          have hj64 : j ≤ 64 := by have := (progE_ok HP0.out).few; omega
          have hat := HKO.out.at hjt
          obtain ⟨ob, oo, ea, qo_⟩ := ints_at (HO.out.below hb) hjt
          subst ea
          obtain ⟨m, hm⟩ : ∃ m : Nat, owners[j] = (m : Int) := ⟨owners[j].toNat, by have := HKO.out.own _ (List.getElem_mem hjt); omega⟩
          have hmn : nth owners j = (m : Int) := by rw [nth_at hjt]; exact hm
          have hms : m < secrets.length := by have h9 := hat.1; rw [hmn, Int.toNat_natCast] at h9; exact h9
          obtain ⟨sb, so, ea, qs_⟩ := ints_at (HS.out.below hb) hms
          subst ea
          have hsm : secrets[m] = secOf owners secrets j := by unfold secOf; rw [hmn, Int.toNat_natCast, nth_at hms]
          rw [hm] at qo_
          rw [hsm] at qs_
          have hft := HFT.out j hjr (secOf owners secrets j) hat.2.1 hat.2.2 (fun d hd hf hm => HMM.out d hd j hjt hf hm)
          have hvr := HVR.out j hft.1
          have hsr : R64 (secOf owners secrets j) := num_r64 ⟨by have := hat.2.1; omega, by have := hat.2.1; omega⟩
          have hjr64 : R64 (j : Int) := R64.mk (by omega) (by omega)
          have HOW0 := Lib.hid (fun W (h : Below wr.heap.size wr W) => kOwn_any (.slice a1 rows.length k1) (.slice (some ⟨ob, oo, none⟩) owners.length k2) (.slice va q.length vc) (.slice a4 l.length k4) rows owners (secOf owners secrets j) (j : Int) q l vs W ((HG.out.below hb).below h) ((HR.out.below hb).below h) ((HO.out.below hb).below h) hsr hjr64 ((HVI.out.below hb).below h) ((HD.out.below hb).below h))
          rw [hft.1, hvr.1, hvr.2] at HOW0
          have hxn := owS_num rows (secOf owners secrets j) (j : Int) q l q.length
          have hfe := hft.2.1
          have hfb := hft.2.2
          clear hft hvr hat hmn hsm hm
          generalize owS rows (secOf owners secrets j) (j : Int) q l q.length = x at *
          generalize secOf owners secrets j = sec at *
          have HOW : Hid (∀ W, Below wr.heap.size wr W → Calls Tryz.prog 33 #[.agg #[.slice a1 rows.length k1, .slice (some ⟨ob, oo, none⟩) owners.length k2], .int .i64 sec, .int .i64 (j : Int), .slice va q.length vc, .slice a4 l.length k4] W fun r w' => r = .returned (.tuple #[.agg #[.int .i64 (j : Int), .int .i64 x], .int .i64 0]) ∧ Below W.heap.size W w') := Lib.hid (fun W h => (HOW0.out W h).mono fun r w' h9 => h9)
          have HFF := Lib.hid (And.intro hfe hfb)
          have HXR := Lib.hid (And.intro hjr64 (num_r64 hxn))
          have HBW := Lib.hid hb
          have HJT := Lib.hid hjt
          have c0_ := below_cell hb c0
          have c1_ := below_cell hb c1
          have z2_ := below_cell hb k2_
          have z3_ := below_cell hb k3_
          have i0 : (0 : Int) ≤ (j : Int) := Int.natCast_nonneg j
          have i1 : (j : Int) < (owners.length : Int) := by omega
          have i5 : (0 : Int) ≤ (m : Int) := Int.natCast_nonneg m
          have i6 : (m : Int) < (secrets.length : Int) := by omega
          clear hb hfe hfb hxn hjr64 hsr HOW0 hms hjr
          go_wp2_with fail
          refine wp_region_flowsG (by kernel_rfl) (by kernel_rfl) (by kernel_rfl) (by kernel_rfl) (fun done v W => FFi32 wr (w.heap.size) (.slice a1 rows.length k1) (.slice (some ⟨ob, oo, none⟩) owners.length k2) (sb) (so) (secrets.length) (k3) (m) (j) (sec) (.slice va q.length vc) (.slice a4 l.length k4) ((j : Int)) (x) done v W) (fun v => ?_) ?_ (fun v W h => ?_)
          · exact ⟨(Below.refl _ _).drew, (fun h => by cases h), (fun h => by cases h), (fun h => by cases h), (fun h => by cases h), (fun h => by cases h), (fun h => by cases h), (fun h => by cases h), (fun h => by cases h), (fun h => by cases h), (fun h => by cases h), (fun h => by cases h), (fun h => by cases h), (fun h => by cases h), SBox.nil _ _ _ _ _⟩
          · refine ⟨?_, ?_, ?_, ?_, ?_, ?_, ?_, ?_, ?_, ?_, ?_, ?_, ?_, ?_, ?_, trivial⟩
            · intro done v W A h hd hp hu hA hB hdf
              have e0 : A.tmps[4]?.getD undef = .pointer (some ⟨w.heap.size, 0, none⟩) := hB 4 rfl
              have y0_ := below_cell h.b c0_
              have y1_ := below_cell h.b c1_
              clear hA hB hp hu hdf
              go_simp
              exact ⟨_, rfl, { h with f0 := (fun _ => rfl) }⟩
            · intro done v W A h hd hp hu hA hB hdf
              have e0 : A.tmps[1]?.getD undef = .slice (some ⟨sb, so, none⟩) secrets.length k3 := hB 1 rfl
              clear hA hB hp hu hdf
              go_simp
              exact ⟨_, rfl, { h with f1 := (fun _ => rfl) }⟩
            · intro done v W A h hd hp hu hA hB hdf
              have e0 : A.tmps[25]?.getD undef = .int .i64 (m : Int) := hB 25 rfl
              clear hA hB hp hu hdf
              go_simp
              exact ⟨_, rfl, { h with f2 := (fun _ => rfl) }⟩
            · intro done v W A h hd hp hu hA hB hdf
              have hd1 : done 1 = true := hp 1 rfl
              have hd2 : done 2 = true := hp 2 rfl
              have e0 := (hA 1 146 rfl hd1).trans (h.f1 hd1)
              have e1 := (hA 2 147 rfl hd2).trans (h.f2 hd2)
              clear hA hB hp hu hdf
              go_simp
              exact ⟨_, rfl, { h with f3 := (fun _ => rfl) }⟩
            · intro done v W A h hd hp hu hA hB hdf
              have hd3 : done 3 = true := hp 3 rfl
              have e0 := (hA 3 148 rfl hd3).trans (h.f3 hd3)
              have y0_ := below_cell h.b qs_
              clear hA hB hp hu hdf
              go_simp
              exact ⟨_, rfl, { h with f4 := (fun _ => rfl) }⟩
            · intro done v W A h hd hp hu hA hB hdf
              have e0 : A.tmps[24]?.getD undef = .int .i64 (j : Int) := hB 24 rfl
              clear hA hB hp hu hdf
              go_simp
              exact ⟨_, rfl, { h with f5 := (fun _ => rfl) }⟩
            · intro done v W A h hd hp hu hA hB hdf
              have e0 : A.tmps[21]?.getD undef = .slice va q.length vc := hB 21 rfl
              clear hA hB hp hu hdf
              go_simp
              exact ⟨_, rfl, { h with f6 := (fun _ => rfl) }⟩
            · intro done v W A h hd hp hu hA hB hdf
              have e0 : A.tmps[2]?.getD undef = .slice a4 l.length k4 := hB 2 rfl
              clear hA hB hp hu hdf
              go_simp
              exact ⟨_, rfl, { h with f7 := (fun _ => rfl) }⟩
            · intro done v W A h hd hp hu hA hB hdf
              have hd0 : done 0 = true := hp 0 rfl
              have hd4 : done 4 = true := hp 4 rfl
              have hd5 : done 5 = true := hp 5 rfl
              have hd6 : done 6 = true := hp 6 rfl
              have hd7 : done 7 = true := hp 7 rfl
              have e0 := (hA 0 145 rfl hd0).trans (h.f0 hd0)
              have e1 := (hA 4 149 rfl hd4).trans (h.f4 hd4)
              have e2 := (hA 5 150 rfl hd5).trans (h.f5 hd5)
              have e3 := (hA 6 151 rfl hd6).trans (h.f6 hd6)
              have e4 := (hA 7 152 rfl hd7).trans (h.f7 hd7)
              clear hA hB hp hu hdf
              go_simp
              with_reducible refine (HOW.out W h.b).mono ?_
              rintro e wq ⟨rfl, hb⟩
              exact ⟨_, rfl, { h with b := h.b.trans (hb.mono h.b.size), f8 := (fun _ => rfl), bx := (h.bx.below hb) }⟩
            · intro done v W A h hd hp hu hA hB hdf
              have hd8 : done 8 = true := hp 8 rfl
              have e0 := (hA 8 153 rfl hd8).trans (h.f8 hd8)
              clear hA hB hp hu hdf
              go_simp
              exact ⟨_, rfl, { h with f9 := (fun _ => rfl) }⟩
            · intro done v W A h hd hp hu hA hB hdf
              have hd9 : done 9 = true := hp 9 rfl
              have e0 := (hA 9 144 rfl hd9).trans (h.f9 hd9)
              clear hA hB hp hu hdf
              go_simp
              exact ⟨_, rfl, { h with f10 := (fun _ => rfl) }⟩
            · intro done v W A h hd hp hu hA hB hdf
              have hd9 : done 9 = true := hp 9 rfl
              have e0 := (hA 9 144 rfl hd9).trans (h.f9 hd9)
              clear hA hB hp hu hdf
              go_simp
              exact ⟨_, rfl, { h with f11 := (fun _ => rfl) }⟩
            · intro done v W A h hd hp hu hA hB hdf
              have n13_12 : done 13 = false := flow_not (fun hj => hu 13 12 rfl (hj)) hd
              have hb := below_new W #[.int .i64 0, .int .i64 0] 68
              have hn := h.b.size
              clear hA hB hp hu hdf
              go_simp
              exact ⟨_, rfl, { h with b := h.b.trans (hb.mono h.b.size), bx := (h.bx.alloc n13_12 hn) }⟩
            · intro done v W A h hd hp hu hA hB hdf
              have hd10 : done 10 = true := hp 10 rfl
              have hd12 : done 12 = true := hp 12 rfl
              obtain ⟨B, eB, hn0, -, hS⟩ := h.bx hd12
              simp only [hd, Bool.false_eq_true, if_false] at hS
              have e1 := (hA 12 26 rfl hd12).trans eB
              have e2 := (hA 10 154 rfl hd10).trans (h.f10 hd10)
              have u0 := row_cell hS (k := 0) (v := .int .i64 0) rfl
              have u1 := row_cell hS (k := 1) (v := .int .i64 0) rfl
              have g0 := row_free hS 0
              have g1 := row_free hS 1
              clear hA hB hp hu hdf
              go_simp
              exact ⟨undef, { h with b := sput_below (C := B) (.int .i64 (j : Int)) (.int .i64 x) h.b hn0, bx := (h.bx.store eB hd12 hS) }⟩
            · intro done v W A h hd hp hu hA hB hdf
              have hd11 : done 11 = true := hp 11 rfl
              have e0 := (hA 11 155 rfl hd11).trans (h.f11 hd11)
              clear hA hB hp hu hdf
              go_simp
              exact ⟨_, rfl, { h with f14 := (fun _ => rfl) }⟩
          simp only [putL, Act.put, Nat.reduceAdd, List.setIfInBounds_toArray, List.set_cons_zero, List.set_cons_succ]
          rw [h.f14 rfl]
          have hbr := h.b
          obtain ⟨B, eB, hB0, -, hBR⟩ := h.bx rfl
          rw [eB]
          clear h eB HOW
          obtain ⟨W1, rfl⟩ : ∃ x, x = W := ⟨_, rfl⟩
          have hBR2 : W1.heap[B]? = some (.cells #[.int .i64 (j : Int), .int .i64 x] 68 (0, 0)) := hBR
          have g0 := row_cell hBR2 (k := 0) (v := .int .i64 (j : Int)) rfl
          have g1 := row_cell hBR2 (k := 1) (v := .int .i64 x) rfl
          replace c0_ := below_cell hbr c0_
          replace c1_ := below_cell hbr c1_
          replace z2_ := below_cell hbr z2_
          replace z3_ := below_cell hbr z3_
          have HB1 := Lib.hid (HBW.out.trans (hbr.mono HBW.out.size))
          clear hbr hBR hBR2
          go_wp2_with fail
          with_reducible refine (fits_any _ _ _ rows owners cq (j : Int) x _ (HR.out.below HB1.out) (HO.out.below HB1.out) (HCI.out.below HB1.out) HXR.out.1 HXR.out.2).mono ?_
          rintro e w9 ⟨rfl, hb9⟩
          rw [HFF.out.1, HFF.out.2]
          have HB2 := Lib.hid (HB1.out.trans (hb9.mono HB1.out.size))
          clear hb9
          go_wp2_with fail
          go_roundw
          case rel => exact ⟨j + 1, HJT.out, by go_num, HB2.out⟩
          case measure =>
            have h9 := HJT.out
            simp [intOf]; omega
        · go_wp2_with fail
          go_ret
          exact ⟨rfl, HB.out.trans (hb.mono HB.out.size)⟩

set_option maxRecDepth 100000 in
theorem keygenFits_all (rv ov sv dv cv : Value) (rows : List (List Int)) (owners secrets : List Int) (l : List Dlg) (vs : DVals) (cl : List Cmp) (w : World) (hR : Rows2 w rv rows) (hO : Ints w ov owners) (hS : Ints w sv secrets) (hD : Dlgs w dv l vs) (hC : Cmps w cv cl) (hG : Glob w) :
    Calls Tryz.prog 11 #[.agg #[rv, ov], sv, dv, cv] w fun r w' => r = .returned (.bool true) ∧ Below w.heap.size w w' :=
  keygenFits_any rv ov sv dv cv rows owners secrets l vs cl w hG hR hO hS hD hC

end Go.Proofs.YtggnipkfliompaaGreatDoor
