/- The laws of moving: MovingLies. -/
import Derived.Test.YtjjoadmkpbmhpaaMMvP
import Derived.Test.YtjjoadmkpbmhpaaMRzA
import Derived.Test.YtjjoadmkpbmhpaaMRbP
namespace Go.Proofs.Ytjjoadmkpbmhpaa
open Go.RowKit FP

theorem quest_ok {rows : List (List Int)} {owners who : List Int} (hp : progE rows owners = 0) (hw : peopleB (-1) who = true) : questE rows owners who = 0 := by
  unfold questE; rw [if_neg (by simp [hp]), hw]; rfl
theorem u8_wf {n : Int} (h : (Lit.int .u8 n).wf = true) : 0 ≤ n ∧ n < 256 := by
  simp [Lit.wf, IntKind.min, IntKind.max, IntKind.signed, IntKind.bits] at h
  omega
/-- Commitments to another value are refused. -/
theorem lies_fit {rows : List (List Int)} {owners : List Int} {x : Int} {u : List Int} {rows2 : List (List Int)} {owners2 : List Int} {i0 : Nat} {a : Int} {v : List Int} (h : DealOK rows owners x u) (hp : progE rows owners = 0) (hp2 : progE rows2 owners2 = 0) (h2 : DealOK rows2 owners2 a v) (hi : i0 < rows.length) (hne : a ≠ prodQ (rows.getD i0 []) (x :: u)) :
    fitM rows owners (dealC (x :: u)) rows2 (i0 : Int) (dealC (a :: v)) = false ∧ chkE rows owners 0 (dealC (x :: u)) rows2 owners2 = 0 := by
  refine ⟨?_, ?_⟩
  · rw [fitM_deal h hp ⟨by omega, by omega⟩ h2 hp2, Int.toNat_natCast]; exact decide_eq_false hne
  · unfold chkE; rw [if_neg (by simp [hp]), key_deal h hp (by decide) (by decide), if_neg (by simp), hp2]
theorem lies_err {rows : List (List Int)} {owners : List Int} {x : Int} {u : List Int} {rows2 : List (List Int)} {owners2 : List Int} {i0 : Nat} {a : Int} {v : List Int} (h : DealOK rows owners x u) (hp : progE rows owners = 0) (hp2 : progE rows2 owners2 = 0) (h2 : DealOK rows2 owners2 a v) (hi : i0 < rows.length) (hne : a ≠ prodQ (rows.getD i0 []) (x :: u)) :
    mvE rows owners 0 (dealC (x :: u)) rows2 owners2 [nth owners i0] [(i0 : Int)] [dealC (a :: v)] [dealL rows2 (a :: v)] = 340 ∨ mvE rows owners 0 (dealC (x :: u)) rows2 owners2 [nth owners i0] [(i0 : Int)] [dealC (a :: v)] [dealL rows2 (a :: v)] = 1 := by
  obtain ⟨hf, hc⟩ := lies_fit h hp hp2 h2 hi hne
  have hd : dealtB rows owners (dealC (x :: u)) rows2 [(i0 : Int)] [dealC (a :: v)] [dealL rows2 (a :: v)] 1 = false := by
    refine dealtB_bad (i := 0) (by decide) ?_
    unfold oneB
    show ((fitM rows owners (dealC (x :: u)) rows2 (i0 : Int) (dealC (a :: v)) && _) && _) = false
    rw [hf]; rfl
  unfold mvE
  rw [hc, if_neg (by decide), if_neg (by decide)]
  split
  · exact .inr rfl
  · split
    · exact .inl rfl
    · rw [if_neg (by rw [show [(i0 : Int)].length = 1 from rfl, hd]; decide)]; exact .inl rfl
theorem ints_sub1 {w : World} {b o n c k : Nat} {zs : List Int} (h : Ints w (.slice (some ⟨b, o, none⟩) n c) zs) (hk : k < zs.length) : Ints w (.slice (some ⟨b, o + k, none⟩) 1 (c - k)) [nth zs k] ∧ n ≤ c ∧ k < n := by
  obtain ⟨a, cap, h1, h2, h3, h4, h5⟩ := h
  simp only [Value.slice.injEq] at h1
  obtain ⟨rfl, rfl, rfl⟩ := h1
  refine ⟨⟨_, _, rfl, by simp; omega, by simp, fun z hz => by rw [List.mem_singleton.1 hz, nth_at hk]; exact h4 _ (List.getElem_mem hk), fun j hj => ?_⟩, h2, hk⟩
  obtain rfl : j = 0 := by simp at hj; omega
  obtain ⟨b', o', e, q⟩ := h5 k hk
  simp only [Option.some.injEq, Addr.mk.injEq] at e
  obtain ⟨rfl, rfl, -⟩ := e
  exact ⟨_, _, rfl, by simp [nth_at hk]; exact q⟩
structure FLi11 (w0 : World) (qv : Value) (lv : Value) (B : Nat) (bS : Nat) (val : Int) (by_ : Int) (a : Int) (nc : Nat) (m : Nat) (rows2 : List (List Int)) (ms : List Int) (done : Nat → Bool) (v : Nat → Value) (w : World) : Prop where
  b : Below w0.heap.size w0 w
  f0 : done 0 = true → v 0 = qv
  f1 : done 1 = true → v 1 = .pointer (some ⟨bS, 1, none⟩)
  f2 : done 2 = true → v 2 = .int .i64 val
  f3 : done 3 = true → v 3 = .int .i64 by_
  f4 : done 4 = true → v 4 = .int .i64 (val + by_)
  f5 : done 5 = true → v 5 = .int .i64 a
  f6 : done 6 = true → v 6 = lv
  f7 : done 7 = true → v 7 = qv
  f8 : done 8 = true → v 8 = .int .i64 (nc : Int)
  f9 : done 9 = true → v 9 = .int .i64 (m : Int)
  f10 : done 10 = true → done 11 = false → Ints w (v 10) ms
  f11 : done 11 = true → DlK rows2 (a :: ms) w0.heap.size (v 11) w
  f12 : done 12 = true → v 12 = v 11
  f13 : done 13 = true → v 13 = projV 0 (v 11)
  f14 : done 14 = true → v 14 = projV 1 (v 11)
  f15 : done 15 = true → v 15 = projV 2 (v 11)
  f16 : done 16 = true → v 16 = projV 0 (v 11)
  f17 : done 17 = true → v 17 = projV 1 (v 11)
  f18 : done 18 = true → v 18 = projV 2 (v 11)

structure FLi15 (w0 : World) (kv : Value) (qv : Value) (ov : Value) (ow : Value) (cv : Value) (sv : Value) (B : Nat) (bK : Nat) (bS : Nat) (i0 : Nat) (code : Int) (C : List Int) (S : List (Int × Int)) (done : Nat → Bool) (v : Nat → Value) (w : World) : Prop where
  b : Below w0.heap.size w0 w
  f0 : done 0 = true → v 0 = kv
  f1 : done 1 = true → v 1 = qv
  f2 : done 2 = true → v 2 = .pointer (some ⟨B, 1, none⟩)
  f3 : done 3 = true → v 3 = ov
  f4 : done 4 = true → v 4 = .pointer (some ⟨bS, 0, none⟩)
  f5 : done 5 = true → v 5 = .int .i64 (i0 : Int)
  f6 : done 6 = true → v 6 = .pointer (some ⟨bS, 0, none⟩)
  f7 : done 7 = true → v 7 = .int .i64 (i0 : Int)
  f8 : done 8 = true → v 8 = .int .i64 ((i0 : Int) + 1)
  f9 : done 9 = true → v 9 = ow
  f10 : done 10 = true → v 10 = .pointer (some ⟨bS, 0, none⟩)
  f11 : done 11 = true → v 11 = .int .i64 (i0 : Int)
  f12 : done 12 = true → done 17 = false → Ints w (v 12) [(i0 : Int)]
  f13 : done 13 = true → v 13 = cv
  f14 : done 14 = true → done 17 = false → Rows2 w (v 14) [C]
  f15 : done 15 = true → v 15 = sv
  f16 : done 16 = true → done 17 = false → SRows w (v 16) [S]
  f17 : done 17 = true → v 17 = .tuple #[.agg #[.int .i64 0, .slice none 0 0, .slice none 0 0, .slice none 0 0], .slice none 0 0, .int .i64 code]
  f18 : done 18 = true → v 18 = .tuple #[.agg #[.int .i64 0, .slice none 0 0, .slice none 0 0, .slice none 0 0], .slice none 0 0, .int .i64 code]
  f19 : done 19 = true → v 19 = .agg #[.int .i64 0, .slice none 0 0, .slice none 0 0, .slice none 0 0]
  f20 : done 20 = true → v 20 = .slice none 0 0
  f21 : done 21 = true → v 21 = .int .i64 code
  f24 : done 24 = true → v 24 = .slice none 0 0
  f25 : done 25 = true → v 25 = .int .i64 code
  bx : KeyBox w0.heap.size 30 w (done 22) (done 23) (v 22) (.agg #[.int .i64 0, .slice none 0 0, .slice none 0 0, .slice none 0 0])

set_option maxRecDepth 100000 in
set_option maxHeartbeats 16000000 in
theorem movingLies_any (rv ov rv2 ov2 mv wv lv : Value) (rows : List (List Int)) (owners : List Int) (rows2 : List (List Int)) (owners2 : List Int) (x : Int) (rnd who l : List Int) (which by_ : Int) (w : World) (hR : Rows2 w rv rows) (hO : Ints w ov owners) (hR2 : Rows2 w rv2 rows2) (hO2 : Ints w ov2 owners2) (_hx : R64 x) (hM : Ints w mv rnd) (hW : Ints w wv who) (hL : Words w lv l) (hwh : 0 ≤ which ∧ which < 256) (hby : R64 by_) :
    Calls Try.prog 3 #[.agg #[rv, ov], .agg #[rv2, ov2], .int .i64 x, mv, wv, lv, .int .u8 which, .int .i64 by_] w fun e w' => e = .returned (.bool true) ∧ Below w.heap.size w w' := by
  have HWI := Lib.hid hwh
  have HBY := Lib.hid hby
  clear hwh hby _hx
  obtain ⟨W0, hW0, hb0, hr0, hz0⟩ := box_prog w rv ov 25
  have hs0 : W0.heap.size = w.heap.size + 1 := by rw [hW0]; simp
  obtain ⟨W1, hW1, hb1, hr1, hz1⟩ := box_prog W0 rv2 ov2 25
  have hs1 : W1.heap.size = W0.heap.size + 1 := by rw [hW1]; simp
  have t0 : Below w.heap.size w W0 := hb0
  have t1 : Below w.heap.size w W1 := t0.trans (hb1.mono t0.size)
  have Q0 := Lib.hid ((hb1.block _ (row_lt hr0)).trans hr0)
  have Q1 := Lib.hid hr1
  rw [hs0] at Q1
  have HB := Lib.hid t1
  have HR := Lib.hid (hR.below t1)
  have HO := Lib.hid (hO.below t1)
  have HR2 := Lib.hid (hR2.below t1)
  have HO2 := Lib.hid (hO2.below t1)
  have HM := Lib.hid (hM.below t1)
  have HWH := Lib.hid (hW.below t1)
  have HL := Lib.hid (hL.below t1)
  obtain ⟨a1, k1, rfl, -, hl1, -⟩ := id hR
  obtain ⟨a2, k2, rfl, -, hl2, -⟩ := id hO
  obtain ⟨a3, k3, rfl, -, hl3, -⟩ := id hR2
  obtain ⟨a4, k4, rfl, -, hl4, -⟩ := id hO2
  obtain ⟨a5, k5, rfl, -, hl5, -⟩ := id hM
  obtain ⟨a6, k6, rfl, -, hl6, -⟩ := id hW
  obtain ⟨a7, k7, rfl, -, hl7, -⟩ := id hL
  rw [hW0] at hW1
  have HWB := Lib.hid hW1
  clear hW0 hb0 hr0 hs0 t0 hW1 hb1 hr1 hs1 t1 hz0 hz1
  clear hR hO hR2 hO2 hM hW hL
  go_enter Try.func3, Try.ntmps3
  go_wp2_with (rw [← HWB.out])
  clear HWB
  with_reducible refine (sane39_any _).mono ?_
  rintro e w2 ⟨rfl, hb2⟩
  replace HR := Lib.hid (HR.out.below hb2)
  replace HO := Lib.hid (HO.out.below hb2)
  replace HR2 := Lib.hid (HR2.out.below hb2)
  replace HO2 := Lib.hid (HO2.out.below hb2)
  replace HM := Lib.hid (HM.out.below hb2)
  replace HWH := Lib.hid (HWH.out.below hb2)
  replace HL := Lib.hid (HL.out.below hb2)
  replace Q0 := Lib.hid ((hb2.block _ (row_lt Q0.out)).trans Q0.out)
  replace Q1 := Lib.hid ((hb2.block _ (row_lt Q1.out)).trans Q1.out)
  replace HB := Lib.hid (HB.out.trans (hb2.mono HB.out.size))
  clear hb2
  have p00 := row_cell Q0.out (k := 0) rfl
  have p01 := row_cell Q0.out (k := 1) rfl
  have p10 := row_cell Q1.out (k := 0) rfl
  have p11 := row_cell Q1.out (k := 1) rfl
  go_wp2_with fail
  with_reducible refine (right39_any _ _ _ _ _ _ rows owners rows2 owners2 x rnd who _ HR.out HO.out HR2.out HO2.out HM.out HWH.out).mono ?_
  rintro e w3 ⟨rfl, hb3⟩
  replace p00 := below_cell hb3 p00
  replace p01 := below_cell hb3 p01
  replace p10 := below_cell hb3 p10
  replace p11 := below_cell hb3 p11
  replace HR := Lib.hid (HR.out.below hb3)
  replace HO := Lib.hid (HO.out.below hb3)
  replace HR2 := Lib.hid (HR2.out.below hb3)
  replace HO2 := Lib.hid (HO2.out.below hb3)
  replace HM := Lib.hid (HM.out.below hb3)
  replace HWH := Lib.hid (HWH.out.below hb3)
  replace HL := Lib.hid (HL.out.below hb3)
  replace Q0 := Lib.hid ((hb3.block _ (row_lt Q0.out)).trans Q0.out)
  replace Q1 := Lib.hid ((hb3.block _ (row_lt Q1.out)).trans Q1.out)
  replace HB := Lib.hid (HB.out.trans (hb3.mono HB.out.size))
  clear hb3
  cases hrb : rightB rows owners rows2 owners2 x rnd who with
  | false =>
    go_wp2_with fail
    go_ret
    exact ⟨rfl, HB.out⟩
  | true =>
  obtain ⟨hs1, hs2, hpw, hw12, hD, hp1, hp2⟩ := rightB_ok hrb
  have HD := Lib.hid hD
  have HP1 := Lib.hid hp1
  have HP2 := Lib.hid hp2
  have HPW := Lib.hid hpw
  clear hs1 hs2 hpw hw12 hD hp1 hp2 hrb
  by_cases hb1 : by_ < 1
  · have d1 : decide (by_ < 1) = true := decide_eq_true hb1
    clear hb1
    go_wp2_with fail
    go_ret
    exact ⟨rfl, HB.out⟩
  have d1 : decide (by_ < 1) = false := decide_eq_false hb1
  by_cases hbq : 1073741789 ≤ by_
  · have d2 : decide (1073741789 ≤ by_) = true := decide_eq_true hbq
    clear hb1 hbq
    go_wp2_with fail
    go_ret
    exact ⟨rfl, HB.out⟩
  have d2 : decide (1073741789 ≤ by_) = false := decide_eq_false hbq
  have HBR : Hid (1 ≤ by_ ∧ by_ < 1073741789) := Lib.hid ⟨by omega, by omega⟩
  clear hb1 hbq
  go_wp2_with fail
  clear d1 d2
  with_reducible refine (begun39_any _ _ _ _ rows owners x rnd who _ HR.out HO.out HM.out HWH.out HD.out HP1.out (quest_ok HP1.out HPW.out)).mono ?_
  rintro e w5 ⟨asl, csl, aK, kK, rfl, hsh, hcm, hb5⟩
  replace p00 := below_cell hb5 p00
  replace p01 := below_cell hb5 p01
  replace p10 := below_cell hb5 p10
  replace p11 := below_cell hb5 p11
  replace HR := Lib.hid (HR.out.below hb5)
  replace HO := Lib.hid (HO.out.below hb5)
  replace HR2 := Lib.hid (HR2.out.below hb5)
  replace HO2 := Lib.hid (HO2.out.below hb5)
  replace HM := Lib.hid (HM.out.below hb5)
  replace HWH := Lib.hid (HWH.out.below hb5)
  replace HL := Lib.hid (HL.out.below hb5)
  replace Q0 := Lib.hid ((hb5.block _ (row_lt Q0.out)).trans Q0.out)
  replace Q1 := Lib.hid ((hb5.block _ (row_lt Q1.out)).trans Q1.out)
  replace HB := Lib.hid (HB.out.trans (hb5.mono HB.out.size))
  clear hb5
  have HSH := Lib.hid hsh
  have HCM := Lib.hid hcm
  clear hsh hcm
  obtain ⟨nK, hnK⟩ : ∃ n, n = colsQ rows := ⟨_, rfl⟩
  rw [← hnK] at HCM ⊢
  clear hnK
  obtain ⟨W6, hW6, hb6, hr6, hs6⟩ := box_key w5 (.int .i64 0) (.slice a1 rows.length k1) (.slice a2 owners.length k2) (.slice aK nK kK) 30
  have HW6 := Lib.hid hW6
  have Q2 := Lib.hid hr6
  replace p00 := below_cell hb6 p00
  replace p01 := below_cell hb6 p01
  replace p10 := below_cell hb6 p10
  replace p11 := below_cell hb6 p11
  replace HR := Lib.hid (HR.out.below hb6)
  replace HO := Lib.hid (HO.out.below hb6)
  replace HR2 := Lib.hid (HR2.out.below hb6)
  replace HO2 := Lib.hid (HO2.out.below hb6)
  replace HM := Lib.hid (HM.out.below hb6)
  replace HWH := Lib.hid (HWH.out.below hb6)
  replace HL := Lib.hid (HL.out.below hb6)
  replace HSH := Lib.hid (HSH.out.below hb6)
  replace HCM := Lib.hid (HCM.out.below hb6)
  replace Q0 := Lib.hid ((hb6.block _ (row_lt Q0.out)).trans Q0.out)
  replace Q1 := Lib.hid ((hb6.block _ (row_lt Q1.out)).trans Q1.out)
  replace HB := Lib.hid (HB.out.trans (hb6.mono HB.out.size))
  clear hb6
  clear hW6 hr6 hs6
  generalize accOk rows owners who = ac0 at *
  by_cases hn0 : rows.length = 0
  · have d1 : ((rows.length : Int) == 0) = true := beq_iff_eq.2 (by omega)
    have d2 : (rows.length == 0) = true := beq_iff_eq.2 hn0
    clear hn0
    go_wp2_with (rw [← HW6.out])
    go_ret
    exact ⟨rfl, by first | exact HB.out | (rw [← HW6.out]; exact HB.out)⟩
  have d1 : ((rows.length : Int) == 0) = false := beq_eq_false_iff_ne.2 (by omega)
  have hwh := HWI.out
  obtain ⟨i0, hi0, hil⟩ : ∃ i0 : Nat, which.tmod (rows.length : Int) = (i0 : Int) ∧ i0 < rows.length := by
    refine ⟨(which.tmod (rows.length : Int)).toNat, ?_, ?_⟩
    · rw [Int.tmod_eq_emod_of_nonneg hwh.1]; have := Int.emod_nonneg which (b := (rows.length : Int)) (by omega); omega
    · rw [Int.tmod_eq_emod_of_nonneg hwh.1]; have := Int.emod_lt_of_pos which (b := (rows.length : Int)) (by omega); have := Int.emod_nonneg which (b := (rows.length : Int)) (by omega); omega
  have hw8 : IntKind.i64.wrap which = which := IntWalk.i64_in _ (by omega)
  have hw9 : IntKind.i64.wrap (i0 : Int) = (i0 : Int) := IntWalk.i64_in _ (by have := HD.out.prog.few; omega)
  have hnz : ((rows.length : Int)) ≠ 0 := by omega
  obtain ⟨aS, cS, eS, -, -, -, hk1⟩ := id HSH.out
  obtain ⟨b1, o1, ea, y1, y2⟩ := hk1 i0 (by rw [dealL_len]; exact hil)
  simp only [Value.slice.injEq] at eS
  obtain ⟨rfl, -, -⟩ := eS
  subst ea
  rw [dealL_at] at y1 y2
  simp only at y1 y2
  obtain ⟨val, hval⟩ : ∃ v, v = prodQ (rows.getD i0 []) (x :: rnd) := ⟨_, rfl⟩
  rw [← hval] at y2
  have hvn : 0 ≤ val ∧ val < 1073741789 := by rw [hval]; exact prodQ_num _ _
  have HVAL := Lib.hid hval
  obtain ⟨W7, hW7, hb7, hr7, hz7⟩ := box_prog W6 (.int .i64 (i0 : Int)) (.int .i64 val) 35
  have HW7 := Lib.hid hW7
  have Q3 := Lib.hid hr7
  have q0 := row_cell Q2.out (k := 0) rfl
  have q1 := row_cell Q2.out (k := 1) rfl
  have q2 := row_cell Q2.out (k := 2) rfl
  have q3 := row_cell Q2.out (k := 3) rfl
  replace p00 := below_cell hb7 p00
  replace p01 := below_cell hb7 p01
  replace p10 := below_cell hb7 p10
  replace p11 := below_cell hb7 p11
  replace q0 := below_cell hb7 q0
  replace q1 := below_cell hb7 q1
  replace q2 := below_cell hb7 q2
  replace q3 := below_cell hb7 q3
  replace HR := Lib.hid (HR.out.below hb7)
  replace HO := Lib.hid (HO.out.below hb7)
  replace HR2 := Lib.hid (HR2.out.below hb7)
  replace HO2 := Lib.hid (HO2.out.below hb7)
  replace HM := Lib.hid (HM.out.below hb7)
  replace HWH := Lib.hid (HWH.out.below hb7)
  replace HL := Lib.hid (HL.out.below hb7)
  replace HSH := Lib.hid (HSH.out.below hb7)
  replace HCM := Lib.hid (HCM.out.below hb7)
  replace Q0 := Lib.hid ((hb7.block _ (row_lt Q0.out)).trans Q0.out)
  replace Q1 := Lib.hid ((hb7.block _ (row_lt Q1.out)).trans Q1.out)
  replace Q2 := Lib.hid ((hb7.block _ (row_lt Q2.out)).trans Q2.out)
  replace HB := Lib.hid (HB.out.trans (hb7.mono HB.out.size))
  clear hb7
  clear hW7 hr7 hz7 hk1 hval
  obtain ⟨bK, hbK⟩ : ∃ b, b = w5.heap.size := ⟨_, rfl⟩
  obtain ⟨bS, hbS⟩ : ∃ b, b = W6.heap.size := ⟨_, rfl⟩
  have i0a : (0 : Int) ≤ (i0 : Int) := by omega
  have i0b : (i0 : Int) < (rows.length : Int) := by omega
  go_wp2_with (first | rw [← HW6.out] | rw [← HW7.out])
  rw [← hbK] at q0 q1 q2 q3 Q2 ⊢
  rw [← hbS] at Q3 ⊢
  have s0 := row_cell Q3.out (k := 0) rfl
  have s1 := row_cell Q3.out (k := 1) rfl
  clear HW6 HW7 hbK hbS y1 y2 d1 hw8 hi0 hnz hwh i0b
  have hcu := (progE_ok HP2.out).cols_le
  have hci := (progE_ok HP2.out).cols
  have hbr := HBR.out
  have hwc : IntKind.i64.wrap ((colsQ rows2 : Int) - 1) = ((colsQ rows2 - 1 : Nat) : Int) := by rw [IntKind.wrap_i64]; omega
  have hwa : IntKind.i64.wrap (val + by_) = val + by_ := IntWalk.i64_in _ (by omega)
  obtain ⟨a, ha⟩ : ∃ a, a = (val + by_) % 1073741789 := ⟨_, rfl⟩
  have hta : (val + by_).tmod 1073741789 = a := by rw [ha]; exact Int.tmod_eq_emod_of_nonneg (by omega)
  have han : 0 ≤ a ∧ a < 1073741789 := by rw [ha]; exact mod_num _
  have hne : a ≠ val := by omega
  have hwt : IntKind.i64.wrap a = a := IntWalk.i64_in _ (by omega)
  obtain ⟨ms, hms⟩ : ∃ m, m = numL l 0 (colsQ rows2 - 1) := ⟨_, rfl⟩
  have HDD : Hid (DealOK rows2 owners2 a ms) := Lib.hid ⟨progE_ok HP2.out, han, by rw [hms]; exact numL_num _ _ _, by rw [hms, numL_len]; omega⟩
  have HNE : Hid (a ≠ prodQ (rows.getD i0 []) (x :: rnd)) := Lib.hid (by rw [← HVAL.out]; exact hne)
  have HCO := Lib.hid (fun (W1 : World) (h1 : Below W7.heap.size W7 W1) => rCols_any (.slice a3 rows2.length k3) (.slice a4 owners2.length k4) rows2 W1 (HR2.out.below h1) ⟨_, _, _, rfl⟩)
  have HNU := Lib.hid (fun (W1 : World) (h1 : Below W7.heap.size W7 W1) => show Calls Try.prog 9 #[(.slice a7 l.length k7), .int .i64 0, .int .i64 ((colsQ rows2 - 1 : Nat) : Int)] W1 (fun e w' => ∃ v, e = .returned v ∧ Ints w' v ms ∧ Below W1.heap.size W1 w') from by rw [hms]; exact numbers39_any (.slice a7 l.length k7) l 0 (colsQ rows2 - 1) W1 (HL.out.below h1) (by omega) (by omega))
  have HDL := Lib.hid (fun (W1 : World) (h1 : Below W7.heap.size W7 W1) (v1 : Value) (m1 : Ints W1 v1 ms) => show Calls Try.prog 8 #[.agg #[(.slice a3 rows2.length k3), (.slice a4 owners2.length k4)], .int .i64 a, v1] W1 (fun e w' => ∃ z, e = .returned z ∧ DlK rows2 (a :: ms) W7.heap.size z w' ∧ Below W1.heap.size W1 w') from by
    refine (deal_fresh (.slice a3 rows2.length k3) (.slice a4 owners2.length k4) v1 rows2 owners2 a ms W1 (HR2.out.below h1) (HO2.out.below h1) m1 HDD.out HP2.out).mono ?_
    rintro e w' ⟨l1, c1, rfl, hs, hi, hf, hb⟩
    obtain ⟨al, cl, rfl, -⟩ := id hs.1
    obtain ⟨ac, cc, rfl, -⟩ := id hi.1
    exact ⟨_, rfl, ⟨al, cl, ac, cc, rfl, hs, hi, fun b hb => Nat.le_trans h1.size (hf b hb)⟩, hb⟩)
  clear hms ha hne
  refine wp_region_flowsG (by kernel_rfl) (by kernel_rfl) (by kernel_rfl) (by kernel_rfl) (fun done v W => FLi11 W7 (.agg #[.slice a3 rows2.length k3, .slice a4 owners2.length k4]) (.slice a7 l.length k7) (w.heap.size) (bS) (val) (by_) (a) ((colsQ rows2)) ((colsQ rows2 - 1)) (rows2) (ms) done v W) (fun v => ?_) ?_ (fun v W h => ?_)
  · exact ⟨(Below.refl _ _).drew, (fun h => by cases h), (fun h => by cases h), (fun h => by cases h), (fun h => by cases h), (fun h => by cases h), (fun h => by cases h), (fun h => by cases h), (fun h => by cases h), (fun h => by cases h), (fun h => by cases h), (fun h => by cases h), (fun h => by cases h), (fun h => by cases h), (fun h => by cases h), (fun h => by cases h), (fun h => by cases h), (fun h => by cases h), (fun h => by cases h), (fun h => by cases h)⟩
  · refine ⟨?_, ?_, ?_, ?_, ?_, ?_, ?_, ?_, ?_, ?_, ?_, ?_, ?_, ?_, ?_, ?_, ?_, ?_, ?_, trivial⟩
    · intro done v W A h hd hp hu hA hB hdf
      have e0 : A.tmps[9]?.getD undef = .pointer (some ⟨w.heap.size + 1, 0, none⟩) := hB 9 rfl
      have y0_ := below_cell h.b p10
      have y1_ := below_cell h.b p11
      clear hA hB hp hu hdf
      go_simp
      exact ⟨_, rfl, { h with f0 := (fun _ => rfl) }⟩
    · intro done v W A h hd hp hu hA hB hdf
      have e0 : A.tmps[21]?.getD undef = .pointer (some ⟨bS, 0, none⟩) := hB 21 rfl
      clear hA hB hp hu hdf
      go_simp
      exact ⟨_, rfl, { h with f1 := (fun _ => rfl) }⟩
    · intro done v W A h hd hp hu hA hB hdf
      have hd1 : done 1 = true := hp 1 rfl
      have e0 := (hA 1 72 rfl hd1).trans (h.f1 hd1)
      have y0_ := below_cell h.b s1
      clear hA hB hp hu hdf
      go_simp
      exact ⟨_, rfl, { h with f2 := (fun _ => rfl) }⟩
    · intro done v W A h hd hp hu hA hB hdf
      have e0 : A.tmps[7]?.getD undef = .int .i64 by_ := hB 7 rfl
      clear hA hB hp hu hdf
      go_simp
      exact ⟨_, rfl, { h with f3 := (fun _ => rfl) }⟩
    · intro done v W A h hd hp hu hA hB hdf
      have hd2 : done 2 = true := hp 2 rfl
      have hd3 : done 3 = true := hp 3 rfl
      have e0 := (hA 2 73 rfl hd2).trans (h.f2 hd2)
      have e1 := (hA 3 74 rfl hd3).trans (h.f3 hd3)
      clear hA hB hp hu hdf
      go_simp
      exact ⟨_, rfl, { h with f4 := (fun _ => rfl) }⟩
    · intro done v W A h hd hp hu hA hB hdf
      have hd4 : done 4 = true := hp 4 rfl
      have e0 := (hA 4 75 rfl hd4).trans (h.f4 hd4)
      clear hA hB hp hu hdf
      go_simp
      exact ⟨_, rfl, { h with f5 := (fun _ => rfl) }⟩
    · intro done v W A h hd hp hu hA hB hdf
      have e0 : A.tmps[5]?.getD undef = .slice a7 l.length k7 := hB 5 rfl
      clear hA hB hp hu hdf
      go_simp
      exact ⟨_, rfl, { h with f6 := (fun _ => rfl) }⟩
    · intro done v W A h hd hp hu hA hB hdf
      have e0 : A.tmps[9]?.getD undef = .pointer (some ⟨w.heap.size + 1, 0, none⟩) := hB 9 rfl
      have y0_ := below_cell h.b p10
      have y1_ := below_cell h.b p11
      clear hA hB hp hu hdf
      go_simp
      exact ⟨_, rfl, { h with f7 := (fun _ => rfl) }⟩
    · intro done v W A h hd hp hu hA hB hdf
      have hd7 : done 7 = true := hp 7 rfl
      have e0 := (hA 7 78 rfl hd7).trans (h.f7 hd7)
      clear hA hB hp hu hdf
      go_simp
      with_reducible refine (HCO.out W h.b).mono ?_
      rintro e wq ⟨rfl, hb⟩
      exact ⟨_, rfl, { h with b := h.b.trans (hb.mono h.b.size), f8 := (fun _ => rfl), f10 := (fun h1 h2 => (h.f10 h1 h2).below hb), f11 := (fun h1 => (h.f11 h1).below hb) }⟩
    · intro done v W A h hd hp hu hA hB hdf
      have hd8 : done 8 = true := hp 8 rfl
      have e0 := (hA 8 79 rfl hd8).trans (h.f8 hd8)
      clear hA hB hp hu hdf
      go_simp
      exact ⟨_, rfl, { h with f9 := (fun _ => rfl) }⟩
    · intro done v W A h hd hp hu hA hB hdf
      have hd6 : done 6 = true := hp 6 rfl
      have hd9 : done 9 = true := hp 9 rfl
      have e0 := (hA 6 77 rfl hd6).trans (h.f6 hd6)
      have e2 := (hA 9 80 rfl hd9).trans (h.f9 hd9)
      clear hA hB hp hu hdf
      go_simp
      with_reducible refine (HNU.out W h.b).mono ?_
      rintro e wq ⟨u, rfl, hn, hb⟩
      exact ⟨_, rfl, { h with b := h.b.trans (hb.mono h.b.size), f10 := (fun _ _ => hn), f11 := (fun h1 => (h.f11 h1).below hb) }⟩
    · intro done v W A h hd hp hu hA hB hdf
      have n12_11 : done 12 = false := flow_not (fun hj => hu 12 11 rfl (hj)) hd
      have n13_11 : done 13 = false := flow_not (fun hj => hu 12 11 rfl (hu 13 12 rfl (hj))) hd
      have n14_11 : done 14 = false := flow_not (fun hj => hu 12 11 rfl (hu 14 12 rfl (hj))) hd
      have n15_11 : done 15 = false := flow_not (fun hj => hu 12 11 rfl (hu 15 12 rfl (hj))) hd
      have n16_11 : done 16 = false := flow_not (fun hj => hu 16 11 rfl (hj)) hd
      have n17_11 : done 17 = false := flow_not (fun hj => hu 17 11 rfl (hj)) hd
      have n18_11 : done 18 = false := flow_not (fun hj => hu 18 11 rfl (hj)) hd
      have hd0 : done 0 = true := hp 0 rfl
      have hd5 : done 5 = true := hp 5 rfl
      have hd10 : done 10 = true := hp 10 rfl
      have e0 := (hA 0 71 rfl hd0).trans (h.f0 hd0)
      have e1 := (hA 5 76 rfl hd5).trans (h.f5 hd5)
      have e2 := hA 10 81 rfl hd10
      have m2 := h.f10 hd10 hd
      clear hA hB hp hu hdf
      go_simp
      with_reducible refine (HDL.out W h.b _ m2).mono ?_
      rintro e wq ⟨u, rfl, hn, hb⟩
      exact ⟨_, rfl, { h with b := h.b.trans (hb.mono h.b.size), f10 := (fun _ h2 => absurd (show true = false from h2) (by decide)), f11 := (fun _ => hn), f12 := (fun hj => absurd (hj.symm.trans n12_11) (by decide)), f13 := (fun hj => absurd (hj.symm.trans n13_11) (by decide)), f14 := (fun hj => absurd (hj.symm.trans n14_11) (by decide)), f15 := (fun hj => absurd (hj.symm.trans n15_11) (by decide)), f16 := (fun hj => absurd (hj.symm.trans n16_11) (by decide)), f17 := (fun hj => absurd (hj.symm.trans n17_11) (by decide)), f18 := (fun hj => absurd (hj.symm.trans n18_11) (by decide)) }⟩
    · intro done v W A h hd hp hu hA hB hdf
      have hd11 : done 11 = true := hp 11 rfl
      have e0 := hA 11 82 rfl hd11
      clear hA hB hp hu hdf
      go_simp
      exact ⟨_, rfl, { h with f12 := (fun _ => rfl) }⟩
    · intro done v W A h hd hp hu hA hB hdf
      have hd11 : done 11 = true := hu 12 11 rfl (hp 12 rfl)
      have hd12 : done 12 = true := hp 12 rfl
      obtain ⟨al, cl, ac, cc, eD, hsD, hcD, hfD⟩ := h.f11 hd11
      have e0 := (hA 12 70 rfl hd12).trans ((h.f12 hd12).trans eD)
      clear hA hB hp hu hdf
      go_simp
      exact ⟨_, rfl, { h with f13 := (fun _ => (by show _ = projV 0 (v 11); rw [eD]; rfl)) }⟩
    · intro done v W A h hd hp hu hA hB hdf
      have hd11 : done 11 = true := hu 12 11 rfl (hp 12 rfl)
      have hd12 : done 12 = true := hp 12 rfl
      obtain ⟨al, cl, ac, cc, eD, hsD, hcD, hfD⟩ := h.f11 hd11
      have e0 := (hA 12 70 rfl hd12).trans ((h.f12 hd12).trans eD)
      clear hA hB hp hu hdf
      go_simp
      exact ⟨_, rfl, { h with f14 := (fun _ => (by show _ = projV 1 (v 11); rw [eD]; rfl)) }⟩
    · intro done v W A h hd hp hu hA hB hdf
      have hd11 : done 11 = true := hu 12 11 rfl (hp 12 rfl)
      have hd12 : done 12 = true := hp 12 rfl
      obtain ⟨al, cl, ac, cc, eD, hsD, hcD, hfD⟩ := h.f11 hd11
      have e0 := (hA 12 70 rfl hd12).trans ((h.f12 hd12).trans eD)
      clear hA hB hp hu hdf
      go_simp
      exact ⟨_, rfl, { h with f15 := (fun _ => (by show _ = projV 2 (v 11); rw [eD]; rfl)) }⟩
    · intro done v W A h hd hp hu hA hB hdf
      have hd13 : done 13 = true := hp 13 rfl
      have e0 := hA 13 83 rfl hd13
      clear hA hB hp hu hdf
      go_simp
      exact ⟨_, rfl, { h with f16 := (fun _ => (h.f13 hd13)) }⟩
    · intro done v W A h hd hp hu hA hB hdf
      have hd14 : done 14 = true := hp 14 rfl
      have e0 := hA 14 84 rfl hd14
      clear hA hB hp hu hdf
      go_simp
      exact ⟨_, rfl, { h with f17 := (fun _ => (h.f14 hd14)) }⟩
    · intro done v W A h hd hp hu hA hB hdf
      have hd15 : done 15 = true := hp 15 rfl
      have e0 := hA 15 85 rfl hd15
      clear hA hB hp hu hdf
      go_simp
      exact ⟨_, rfl, { h with f18 := (fun _ => (h.f15 hd15)) }⟩
  simp only [putL, Act.put, Nat.reduceAdd, List.setIfInBounds_toArray, List.set_cons_zero, List.set_cons_succ]
  obtain ⟨al, cl, ac, cc, eD, hsD, hcD, hfD⟩ := h.f11 rfl
  rw [show v 16 = .slice al (dealL rows2 (a :: ms)).length cl from (h.f16 rfl).trans (by rw [eD]; rfl)]
  rw [show v 17 = .slice ac (dealC (a :: ms)).length cc from (h.f17 rfl).trans (by rw [eD]; rfl)]
  rw [show v 18 = .int .i64 0 from (h.f18 rfl).trans (by rw [eD]; rfl)]
  have hbr := h.b
  have HS2 := Lib.hid hsD.1
  have HC2 := Lib.hid hcD.1
  replace p00 := below_cell hbr p00
  replace p01 := below_cell hbr p01
  replace p10 := below_cell hbr p10
  replace p11 := below_cell hbr p11
  replace q0 := below_cell hbr q0
  replace q1 := below_cell hbr q1
  replace q2 := below_cell hbr q2
  replace q3 := below_cell hbr q3
  replace s0 := below_cell hbr s0
  replace s1 := below_cell hbr s1
  replace HR := Lib.hid (HR.out.below hbr)
  replace HO := Lib.hid (HO.out.below hbr)
  replace HR2 := Lib.hid (HR2.out.below hbr)
  replace HO2 := Lib.hid (HO2.out.below hbr)
  replace HM := Lib.hid (HM.out.below hbr)
  replace HWH := Lib.hid (HWH.out.below hbr)
  replace HL := Lib.hid (HL.out.below hbr)
  replace HSH := Lib.hid (HSH.out.below hbr)
  replace HCM := Lib.hid (HCM.out.below hbr)
  replace Q0 := Lib.hid ((hbr.block _ (row_lt Q0.out)).trans Q0.out)
  replace Q1 := Lib.hid ((hbr.block _ (row_lt Q1.out)).trans Q1.out)
  replace Q2 := Lib.hid ((hbr.block _ (row_lt Q2.out)).trans Q2.out)
  replace Q3 := Lib.hid ((hbr.block _ (row_lt Q3.out)).trans Q3.out)
  replace HB := Lib.hid (HB.out.trans (hbr.mono HB.out.size))
  clear h hbr hsD hcD hfD eD HCO HNU HDL hwc hwa hta hwt han hvn hcu hci
  have HLR := Lib.hid HD.out.prog.len
  have n0 : decide ((i0 : Int) < 0) = false := decide_eq_false (by omega)
  have n1 : decide ((owners.length : Int) ≤ (i0 : Int)) = false := decide_eq_false (by have := HLR.out; omega)
  have n2 : decide (owners.length ≤ i0) = false := decide_eq_false (by have := HLR.out; omega)
  obtain ⟨nc2, hnc2⟩ : ∃ n, n = (dealC (a :: ms)).length := ⟨_, rfl⟩
  obtain ⟨nl2, hnl2⟩ : ∃ n, n = (dealL rows2 (a :: ms)).length := ⟨_, rfl⟩
  rw [← hnc2] at HC2 ⊢
  rw [← hnl2] at HS2 ⊢
  clear hnc2 hnl2
  go_wp2_with fail
  clear n0 n1 n2
  obtain ⟨hff, hcc⟩ := lies_fit HD.out HP1.out HP2.out HDD.out hil HNE.out
  have HR0 : Hid (R64 (i0 : Int)) := Lib.hid (R64.mk (by omega) (by have := HD.out.prog.few; omega))
  have hfe : mfE rows owners 0 (dealC (x :: rnd)) rows2 owners2 (i0 : Int) (dealC (a :: ms)) = 0 := by unfold mfE; rw [hcc, if_neg (by decide), if_neg (by omega), (com_deal_B HDD.out HP2.out).1]; rfl
  have HFE := Lib.hid (And.intro hfe (show mfB rows owners 0 (dealC (x :: rnd)) rows2 owners2 (i0 : Int) (dealC (a :: ms)) = false by unfold mfB; rw [hfe, hff]; rfl))
  clear hff hcc hfe
  with_reducible refine (mf_val 0 _ _ _ _ _ _ (i0 : Int) rows owners (dealC (x :: rnd)) rows2 owners2 (dealC (a :: ms)) _ _ _ HR.out HO.out HCM.out HR2.out HO2.out HC2.out HR0.out HFE.out).mono ?_
  rintro e w14 ⟨rfl, hb14⟩
  replace p00 := below_cell hb14 p00
  replace p01 := below_cell hb14 p01
  replace p10 := below_cell hb14 p10
  replace p11 := below_cell hb14 p11
  replace q0 := below_cell hb14 q0
  replace q1 := below_cell hb14 q1
  replace q2 := below_cell hb14 q2
  replace q3 := below_cell hb14 q3
  replace s0 := below_cell hb14 s0
  replace s1 := below_cell hb14 s1
  replace HR := Lib.hid (HR.out.below hb14)
  replace HO := Lib.hid (HO.out.below hb14)
  replace HR2 := Lib.hid (HR2.out.below hb14)
  replace HO2 := Lib.hid (HO2.out.below hb14)
  replace HM := Lib.hid (HM.out.below hb14)
  replace HWH := Lib.hid (HWH.out.below hb14)
  replace HL := Lib.hid (HL.out.below hb14)
  replace HSH := Lib.hid (HSH.out.below hb14)
  replace HCM := Lib.hid (HCM.out.below hb14)
  replace HS2 := Lib.hid (HS2.out.below hb14)
  replace HC2 := Lib.hid (HC2.out.below hb14)
  replace Q0 := Lib.hid ((hb14.block _ (row_lt Q0.out)).trans Q0.out)
  replace Q1 := Lib.hid ((hb14.block _ (row_lt Q1.out)).trans Q1.out)
  replace Q2 := Lib.hid ((hb14.block _ (row_lt Q2.out)).trans Q2.out)
  replace Q3 := Lib.hid ((hb14.block _ (row_lt Q3.out)).trans Q3.out)
  replace HB := Lib.hid (HB.out.trans (hb14.mono HB.out.size))
  clear hb14
  obtain ⟨hok, bO, oO, nO, cO, eO, qO⟩ := HO.out.get (k := i0) (by have := HLR.out; omega)
  simp only [Value.slice.injEq] at eO
  obtain ⟨rfl, -, -⟩ := eO
  obtain ⟨hio, hkc, hik⟩ := ints_sub1 (k := i0) HO.out (by have := HLR.out; omega)
  have hsl := fun w => run_slice_one bO oO owners.length k2 i0 hik hkc w
  have HIO := Lib.hid hio
  clear hio hok qO
  have hw1 : IntKind.i64.wrap ((i0 : Int) + 1) = (i0 : Int) + 1 := IntWalk.i64_in _ (by have := HD.out.prog.few; omega)
  have herr := lies_err HD.out HP1.out HP2.out HDD.out hil HNE.out
  obtain ⟨code, hcode⟩ : ∃ c, c = mvE rows owners 0 (dealC (x :: rnd)) rows2 owners2 [nth owners i0] [(i0 : Int)] [dealC (a :: ms)] [dealL rows2 (a :: ms)] := ⟨_, rfl⟩
  rw [← hcode] at herr
  have HCD := Lib.hid hcode.symm
  have HER := Lib.hid herr
  clear hcode herr
  go_wp2_with fail
  have HMV := Lib.hid (fun (W1 : World) (h1 : Below w14.heap.size w14 W1) (v3 v4 v5 : Value) (m3 : Ints W1 v3 [(i0 : Int)]) (m4 : Rows2 W1 v4 [dealC (a :: ms)]) (m5 : SRows W1 v5 [dealL rows2 (a :: ms)]) => mv_err 0 (.slice a1 rows.length k1) (.slice (some ⟨bO, oO, none⟩) owners.length k2) (.slice aK nK kK) (.slice a3 rows2.length k3) (.slice a4 owners2.length k4) v4 v5 (.slice (some ⟨bO, oO + i0, none⟩) 1 (k2 - i0)) v3 rows owners (dealC (x :: rnd)) rows2 owners2 [nth owners i0] [(i0 : Int)] [dealC (a :: ms)] [dealL rows2 (a :: ms)] code W1 (HR.out.below h1) (HO.out.below h1) (HCM.out.below h1) (HR2.out.below h1) (HO2.out.below h1) m4 m5 (HIO.out.below h1) m3 HCD.out (by rcases HER.out with h | h <;> rw [h] <;> decide))
  obtain ⟨C, hC⟩ : ∃ C, C = dealC (a :: ms) := ⟨_, rfl⟩
  obtain ⟨S, hS⟩ : ∃ S, S = dealL rows2 (a :: ms) := ⟨_, rfl⟩
  rw [← hC] at HMV HC2
  rw [← hS] at HMV HS2
  clear hC hS HCD
  refine wp_region_flowsG (by kernel_rfl) (by kernel_rfl) (by kernel_rfl) (by kernel_rfl) (fun done v W => FLi15 w14 (.agg #[.int .i64 0, .slice a1 rows.length k1, .slice (some ⟨bO, oO, none⟩) owners.length k2, .slice aK nK kK]) (.agg #[.slice a3 rows2.length k3, .slice a4 owners2.length k4]) (.slice (some ⟨bO, oO, none⟩) owners.length k2) (.slice (some ⟨bO, oO + i0, none⟩) 1 (k2 - i0)) (.slice ac nc2 cc) (.slice al nl2 cl) (w.heap.size) (bK) (bS) (i0) (code) (C) (S) done v W) (fun v => ?_) ?_ (fun v W h => ?_)
  · exact ⟨(Below.refl _ _).drew, (fun h => by cases h), (fun h => by cases h), (fun h => by cases h), (fun h => by cases h), (fun h => by cases h), (fun h => by cases h), (fun h => by cases h), (fun h => by cases h), (fun h => by cases h), (fun h => by cases h), (fun h => by cases h), (fun h => by cases h), (fun h => by cases h), (fun h => by cases h), (fun h => by cases h), (fun h => by cases h), (fun h => by cases h), (fun h => by cases h), (fun h => by cases h), (fun h => by cases h), (fun h => by cases h), (fun h => by cases h), (fun h => by cases h), (fun h => by cases h), KeyBox.nil _ _ _ _ _⟩
  · refine ⟨?_, ?_, ?_, ?_, ?_, ?_, ?_, ?_, ?_, ?_, ?_, ?_, ?_, ?_, ?_, ?_, ?_, ?_, ?_, ?_, ?_, ?_, ?_, ?_, ?_, ?_, trivial⟩
    · intro done v W A h hd hp hu hA hB hdf
      have e0 : A.tmps[17]?.getD undef = .pointer (some ⟨bK, 0, none⟩) := hB 17 rfl
      have y0_ := below_cell h.b q0
      have y1_ := below_cell h.b q1
      have y2_ := below_cell h.b q2
      have y3_ := below_cell h.b q3
      clear hA hB hp hu hdf
      go_simp
      exact ⟨_, rfl, { h with f0 := (fun _ => rfl) }⟩
    · intro done v W A h hd hp hu hA hB hdf
      have e0 : A.tmps[9]?.getD undef = .pointer (some ⟨w.heap.size + 1, 0, none⟩) := hB 9 rfl
      have y0_ := below_cell h.b p10
      have y1_ := below_cell h.b p11
      clear hA hB hp hu hdf
      go_simp
      exact ⟨_, rfl, { h with f1 := (fun _ => rfl) }⟩
    · intro done v W A h hd hp hu hA hB hdf
      have e0 : A.tmps[8]?.getD undef = .pointer (some ⟨w.heap.size, 0, none⟩) := hB 8 rfl
      clear hA hB hp hu hdf
      go_simp
      exact ⟨_, rfl, { h with f2 := (fun _ => rfl) }⟩
    · intro done v W A h hd hp hu hA hB hdf
      have hd2 : done 2 = true := hp 2 rfl
      have e0 := (hA 2 113 rfl hd2).trans (h.f2 hd2)
      have y0_ := below_cell h.b p01
      clear hA hB hp hu hdf
      go_simp
      exact ⟨_, rfl, { h with f3 := (fun _ => rfl) }⟩
    · intro done v W A h hd hp hu hA hB hdf
      have e0 : A.tmps[21]?.getD undef = .pointer (some ⟨bS, 0, none⟩) := hB 21 rfl
      clear hA hB hp hu hdf
      go_simp
      exact ⟨_, rfl, { h with f4 := (fun _ => rfl) }⟩
    · intro done v W A h hd hp hu hA hB hdf
      have hd4 : done 4 = true := hp 4 rfl
      have e0 := (hA 4 115 rfl hd4).trans (h.f4 hd4)
      have y0_ := below_cell h.b s0
      clear hA hB hp hu hdf
      go_simp
      exact ⟨_, rfl, { h with f5 := (fun _ => rfl) }⟩
    · intro done v W A h hd hp hu hA hB hdf
      have e0 : A.tmps[21]?.getD undef = .pointer (some ⟨bS, 0, none⟩) := hB 21 rfl
      clear hA hB hp hu hdf
      go_simp
      exact ⟨_, rfl, { h with f6 := (fun _ => rfl) }⟩
    · intro done v W A h hd hp hu hA hB hdf
      have hd6 : done 6 = true := hp 6 rfl
      have e0 := (hA 6 117 rfl hd6).trans (h.f6 hd6)
      have y0_ := below_cell h.b s0
      clear hA hB hp hu hdf
      go_simp
      exact ⟨_, rfl, { h with f7 := (fun _ => rfl) }⟩
    · intro done v W A h hd hp hu hA hB hdf
      have hd7 : done 7 = true := hp 7 rfl
      have e0 := (hA 7 118 rfl hd7).trans (h.f7 hd7)
      clear hA hB hp hu hdf
      go_simp
      exact ⟨_, rfl, { h with f8 := (fun _ => rfl) }⟩
    · intro done v W A h hd hp hu hA hB hdf
      have hd3 : done 3 = true := hp 3 rfl
      have hd5 : done 5 = true := hp 5 rfl
      have hd8 : done 8 = true := hp 8 rfl
      have e0 := (hA 3 114 rfl hd3).trans (h.f3 hd3)
      have e1 := (hA 5 116 rfl hd5).trans (h.f5 hd5)
      have e2 := (hA 8 119 rfl hd8).trans (h.f8 hd8)
      clear hA hB hp hu hdf
      go_simp
      exact ⟨_, rfl, { h with f9 := (fun _ => rfl) }⟩
    · intro done v W A h hd hp hu hA hB hdf
      have e0 : A.tmps[21]?.getD undef = .pointer (some ⟨bS, 0, none⟩) := hB 21 rfl
      clear hA hB hp hu hdf
      go_simp
      exact ⟨_, rfl, { h with f10 := (fun _ => rfl) }⟩
    · intro done v W A h hd hp hu hA hB hdf
      have hd10 : done 10 = true := hp 10 rfl
      have e0 := (hA 10 121 rfl hd10).trans (h.f10 hd10)
      have y0_ := below_cell h.b s0
      clear hA hB hp hu hdf
      go_simp
      exact ⟨_, rfl, { h with f11 := (fun _ => rfl) }⟩
    · intro done v W A h hd hp hu hA hB hdf
      have hd11 : done 11 = true := hp 11 rfl
      have e0 := (hA 11 122 rfl hd11).trans (h.f11 hd11)
      have hb := below_new W #[.int .i64 (i0 : Int)] 3
      clear hA hB hp hu hdf
      go_simp
      exact ⟨_, rfl, { h with b := h.b.trans (hb.mono h.b.size), f12 := (fun _ _ => lit1 W _ (i0 : Int) HR0.out), f14 := (fun h1 h2 => (h.f14 h1 h2).below hb), f16 := (fun h1 h2 => (h.f16 h1 h2).below hb), bx := (h.bx.below hb) }⟩
    · intro done v W A h hd hp hu hA hB hdf
      have e0 : A.tmps[23]?.getD undef = .slice ac nc2 cc := hB 23 rfl
      clear hA hB hp hu hdf
      go_simp
      exact ⟨_, rfl, { h with f13 := (fun _ => rfl) }⟩
    · intro done v W A h hd hp hu hA hB hdf
      have hd13 : done 13 = true := hp 13 rfl
      have e0 := (hA 13 124 rfl hd13).trans (h.f13 hd13)
      have hb := below_new W #[.slice ac nc2 cc] 23
      clear hA hB hp hu hdf
      go_simp
      exact ⟨_, rfl, { h with b := h.b.trans (hb.mono h.b.size), f12 := (fun h1 h2 => (h.f12 h1 h2).below hb), f14 := (fun _ _ => Rows2.one (HC2.out.below h.b) _), f16 := (fun h1 h2 => (h.f16 h1 h2).below hb), bx := (h.bx.below hb) }⟩
    · intro done v W A h hd hp hu hA hB hdf
      have e0 : A.tmps[22]?.getD undef = .slice al nl2 cl := hB 22 rfl
      clear hA hB hp hu hdf
      go_simp
      exact ⟨_, rfl, { h with f15 := (fun _ => rfl) }⟩
    · intro done v W A h hd hp hu hA hB hdf
      have hd15 : done 15 = true := hp 15 rfl
      have e0 := (hA 15 126 rfl hd15).trans (h.f15 hd15)
      have hb := below_new W #[.slice al nl2 cl] 31
      clear hA hB hp hu hdf
      go_simp
      exact ⟨_, rfl, { h with b := h.b.trans (hb.mono h.b.size), f12 := (fun h1 h2 => (h.f12 h1 h2).below hb), f14 := (fun h1 h2 => (h.f14 h1 h2).below hb), f16 := (fun _ _ => SRows.one (HS2.out.below h.b) _), bx := (h.bx.below hb) }⟩
    · intro done v W A h hd hp hu hA hB hdf
      have hd0 : done 0 = true := hp 0 rfl
      have hd1 : done 1 = true := hp 1 rfl
      have hd9 : done 9 = true := hp 9 rfl
      have hd12 : done 12 = true := hp 12 rfl
      have hd14 : done 14 = true := hp 14 rfl
      have hd16 : done 16 = true := hp 16 rfl
      have e0 := (hA 0 111 rfl hd0).trans (h.f0 hd0)
      have e1 := (hA 1 112 rfl hd1).trans (h.f1 hd1)
      have e2 := (hA 9 120 rfl hd9).trans (h.f9 hd9)
      have e3 := hA 12 123 rfl hd12
      have m3 := h.f12 hd12 hd
      have e4 := hA 14 125 rfl hd14
      have m4 := h.f14 hd14 hd
      have e5 := hA 16 127 rfl hd16
      have m5 := h.f16 hd16 hd
      clear hA hB hp hu hdf
      go_simp
      with_reducible refine (HMV.out W h.b _ _ _ m3 m4 m5).mono ?_
      rintro e wq ⟨rfl, hb⟩
      exact ⟨_, rfl, { h with b := h.b.trans (hb.mono h.b.size), f12 := (fun _ h2 => absurd (show true = false from h2) (by decide)), f14 := (fun _ h2 => absurd (show true = false from h2) (by decide)), f16 := (fun _ h2 => absurd (show true = false from h2) (by decide)), f17 := (fun _ => rfl), bx := (h.bx.below hb) }⟩
    · intro done v W A h hd hp hu hA hB hdf
      have hd17 : done 17 = true := hp 17 rfl
      have e0 := (hA 17 128 rfl hd17).trans (h.f17 hd17)
      clear hA hB hp hu hdf
      go_simp
      exact ⟨_, rfl, { h with f18 := (fun _ => rfl) }⟩
    · intro done v W A h hd hp hu hA hB hdf
      have hd18 : done 18 = true := hp 18 rfl
      have e0 := (hA 18 110 rfl hd18).trans (h.f18 hd18)
      clear hA hB hp hu hdf
      go_simp
      exact ⟨_, rfl, { h with f19 := (fun _ => rfl) }⟩
    · intro done v W A h hd hp hu hA hB hdf
      have hd18 : done 18 = true := hp 18 rfl
      have e0 := (hA 18 110 rfl hd18).trans (h.f18 hd18)
      clear hA hB hp hu hdf
      go_simp
      exact ⟨_, rfl, { h with f20 := (fun _ => rfl) }⟩
    · intro done v W A h hd hp hu hA hB hdf
      have hd18 : done 18 = true := hp 18 rfl
      have e0 := (hA 18 110 rfl hd18).trans (h.f18 hd18)
      clear hA hB hp hu hdf
      go_simp
      exact ⟨_, rfl, { h with f21 := (fun _ => rfl) }⟩
    · intro done v W A h hd hp hu hA hB hdf
      have n23_22 : done 23 = false := flow_not (fun hj => hu 23 22 rfl (hj)) hd
      have hb := below_new W zeroK 30
      have hn := h.b.size
      clear hA hB hp hu hdf
      go_simp
      exact ⟨_, rfl, { h with b := h.b.trans (hb.mono h.b.size), f12 := (fun h1 h2 => (h.f12 h1 h2).below hb), f14 := (fun h1 h2 => (h.f14 h1 h2).below hb), f16 := (fun h1 h2 => (h.f16 h1 h2).below hb), bx := (h.bx.alloc n23_22 hn) }⟩
    · intro done v W A h hd hp hu hA hB hdf
      have hd17 : done 17 = true := hp 17 rfl
      have hd19 : done 19 = true := hp 19 rfl
      have hd22 : done 22 = true := hp 22 rfl
      obtain ⟨B, eB, hn0, -, hS⟩ := h.bx hd22
      simp only [hd, Bool.false_eq_true, if_false] at hS
      have e1 := (hA 22 27 rfl hd22).trans eB
      have e2 := (hA 19 129 rfl hd19).trans (h.f19 hd19)
      have u0 := row_cell hS (k := 0) rfl
      have u1 := row_cell hS (k := 1) rfl
      have u2 := row_cell hS (k := 2) rfl
      have u3 := row_cell hS (k := 3) rfl
      have g0 := row_free hS 0
      have g1 := row_free hS 1
      have g2 := row_free hS 2
      have g3 := row_free hS 3
      clear hA hB hp hu hdf
      go_simp
      exact ⟨undef, { h with b := keyW_below h.b hn0 _ _ _ _, f12 := (fun _ h2 => absurd (hd17.symm.trans h2) (by decide)), f14 := (fun _ h2 => absurd (hd17.symm.trans h2) (by decide)), f16 := (fun _ h2 => absurd (hd17.symm.trans h2) (by decide)), bx := (h.bx.store eB hd22 rfl hS) }⟩
    · intro done v W A h hd hp hu hA hB hdf
      have hd20 : done 20 = true := hp 20 rfl
      have e0 := (hA 20 130 rfl hd20).trans (h.f20 hd20)
      clear hA hB hp hu hdf
      go_simp
      exact ⟨_, rfl, { h with f24 := (fun _ => rfl) }⟩
    · intro done v W A h hd hp hu hA hB hdf
      have hd21 : done 21 = true := hp 21 rfl
      have e0 := (hA 21 131 rfl hd21).trans (h.f21 hd21)
      clear hA hB hp hu hdf
      go_simp
      exact ⟨_, rfl, { h with f25 := (fun _ => rfl) }⟩
  simp only [putL, Act.put, Nat.reduceAdd, List.setIfInBounds_toArray, List.set_cons_zero, List.set_cons_succ]
  rw [h.f24 rfl]
  rw [h.f25 rfl]
  have hbr := h.b
  obtain ⟨bX, eX, -, -, hX⟩ := h.bx rfl
  rw [eX]
  have QX := Lib.hid (show W.heap[bX]? = some (.cells #[.int .i64 0, .slice none 0 0, .slice none 0 0, .slice none 0 0] 30 (0, 0)) from hX)
  replace HB := Lib.hid (HB.out.trans (hbr.mono HB.out.size))
  clear h hbr hX eX HMV hsl hw1 p00 p01 p10 p11 q0 q1 q2 q3 s0 s1
  have x0 := row_cell QX.out (k := 0) rfl
  have x1 := row_cell QX.out (k := 1) rfl
  have x2 := row_cell QX.out (k := 2) rfl
  have x3 := row_cell QX.out (k := 3) rfl
  rcases HER.out with rfl | rfl
  all_goals
    go_wp2_with fail
    with_reducible refine (rSameKey39_yes 0 _ _ _ _ _ _ [] [] [] _ (Rows2.nil _ _ _) (Ints.nil _ _ _) (Ints.nil _ _ _) (Rows2.nil _ _ _) (Ints.nil _ _ _) (Ints.nil _ _ _)).mono ?_
    rintro e w17 ⟨rfl, hb17⟩
    replace HB := Lib.hid (HB.out.trans (hb17.mono HB.out.size))
    clear x0 x1 x2 x3 hb17
    go_wp2_with fail
    go_ret
    exact ⟨rfl, HB.out⟩

end Go.Proofs.Ytjjoadmkpbmhpaa
