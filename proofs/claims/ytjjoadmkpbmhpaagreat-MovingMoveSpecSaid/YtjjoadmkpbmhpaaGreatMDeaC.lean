/- The reference of program: Check. The reference of package linear: Check, Error, Few. The reference of package linear: rows less multiples of rows, and products. -/
import Derived.Test.YtjjoadmkpbmhpaaGreatMDeaA
import Derived.Test.YtjjoadmkpbmhpaaGreatMLinJ
import Derived.BigQuiet
import Derived.IntWalk
namespace Go.Proofs.YtjjoadmkpbmhpaaGreat
open Go.RowKit

theorem any_of_take {α : Type} {p : α → Bool} {l : List α} {k : Nat} (h : ¬ k < l.length) (hp : ∀ x ∈ l.take k, p x = false) : l.any p = false := by
  have h2 : ∀ x ∈ l, p x = false := by rwa [List.take_of_length_le (by omega)] at hp
  cases e : l.any p with
  | false => rfl
  | true => obtain ⟨x, hx, hq⟩ := List.any_eq_true.1 e; rw [h2 x hx] at hq; cases hq
theorem take_next {α : Type} {p : α → Bool} {l : List α} {k : Nat} (h : k < l.length) (hp : ∀ x ∈ l.take k, p x = false) (hk : p l[k] = false) : ∀ x ∈ l.take (k + 1), p x = false := by
  rw [List.take_succ_eq_append_getElem h]
  intro x hx
  rcases List.mem_append.1 hx with hx | hx
  · exact hp x hx
  · rw [List.mem_singleton.1 hx]; exact hk
theorem any_here {α : Type} {p : α → Bool} {l : List α} {k : Nat} (h : k < l.length) (hk : p l[k] = true) : l.any p = true := List.any_eq_true.2 ⟨_, List.getElem_mem h, hk⟩

set_option maxRecDepth 100000 in
set_option maxHeartbeats 4000000 in
theorem rpCheck_any (rv ov : Value) (rows : List (List Int)) (owners : List Int) (w : World) (hR : Rows2 w rv rows) (hO : Ints w ov owners) :
    Calls Tryz.prog 69 #[.agg #[rv, ov]] w fun e w' => e = .returned (.int .i64 (progE rows owners)) ∧ Below w.heap.size w w' := by
  obtain ⟨W1, hW1, hb1, hr1, hz⟩ := box_prog w rv ov 25
  have HR1 := Lib.hid (hR.below hb1)
  have HO1 := Lib.hid (hO.below hb1)
  obtain ⟨a, cap, rfl, -, hlen, -⟩ := id hR
  obtain ⟨a2, cap2, rfl, -, hlen2, -⟩ := id hO
  have c0 : W1.cell? ⟨w.heap.size, 0, none⟩ = some (.slice a rows.length cap) := rowp_cell hr1 rfl
  have c1 : W1.cell? ⟨w.heap.size, 1, none⟩ = some (.slice a2 owners.length cap2) := rowp_cell hr1 rfl
  have HW1 := Lib.hid hW1
  have HB1 := Lib.hid hb1
  clear hR hO hr1 hW1 hb1
  by_cases h64 : rows.length ≤ 64
  · go_enter Tryz.func69, Tryz.ntmps69
    go_wp2_with fail
    rw [← HW1.out]
    go_loopw [3] (fun i W => ∃ k : Nat, k ≤ rows.length ∧ i = .int .i64 k ∧ Hid (∀ r ∈ rows.take k, longR r = false) ∧ Below W1.heap.size W1 W) (fun i _ => rows.length - (intOf i).toNat)
    case atStart => exact ⟨0, Nat.zero_le _, rfl, Lib.hid (by simp), Below.refl _ _⟩
    case round =>
      obtain ⟨k, hkl, rfl, HP, hb⟩ := hrel
      have x0 := below_cell hb c0
      have x1 := below_cell hb c1
      have HBR := Lib.hid hb
      by_cases hlt : k < rows.length
      · obtain ⟨aa, cc, e1, -, -, hk⟩ := HR1.out
        obtain ⟨b, off, r, ha, q1, hI⟩ := hk k hlt
        simp only [Value.slice.injEq] at e1
        obtain ⟨rfl, -, rfl⟩ := e1
        subst ha
        have y1 := below_cell hb q1
        obtain ⟨ra, rc, rfl, -⟩ := id hI
        clear hk hI q1
        cases el : longR rows[k] with
        | true =>
          have HV := Lib.hid (progE_long (owners := owners) (.inr (any_here hlt el)))
          have hd : decide ((64 : Int) < (rows[k].length : Int)) = true := decide_eq_true (by simp [longR] at el; omega)
          clear el
          generalize rows[k] = r at *
          go_wp2_with fail
          go_ret
          exact ⟨ret_int HV.out.symm, HB1.out.trans (HBR.out.mono HB1.out.size)⟩
        | false =>
          have HN := Lib.hid (take_next hlt HP.out el)
          have hd : decide ((64 : Int) < (rows[k].length : Int)) = false := decide_eq_false (by simp [longR] at el; omega)
          clear el
          generalize rows[k] = r at *
          go_wp2_with fail
          go_roundw
          case rel => exact ⟨k + 1, by omega, by go_num, HN, HBR.out⟩
          case measure => simp [intOf]; omega
      · have HL := Lib.hid (any_of_take hlt HP.out)
        have HB2 := Lib.hid (HB1.out.trans (HBR.out.mono HB1.out.size))
        have HR2 := Lib.hid (HR1.out.below HBR.out)
        have HO2 := Lib.hid (HO1.out.below HBR.out)
        have hdk : decide (k < rows.length) = false := decide_eq_false hlt
        by_cases hne : rows.length = owners.length
        · have hneI : ((rows.length : Int) != (owners.length : Int)) = false := by rw [hne]; exact bne_self_eq_false _
          have HNE := Lib.hid hne
          clear hne HP HR1 HO1 hb HBR
          go_wp2_with fail
          obtain ⟨wo, hwo⟩ : ∃ wo : World, wo = wr := ⟨_, rfl⟩
          rw [← hwo] at HR2 HO2 HB2 x0 x1 ⊢
          clear hwo
          go_loopw [4] (fun i W => ∃ k : Nat, k ≤ rows.length ∧ i = .int .i64 k ∧ Hid (∀ j (hj : j < rows.length), j < k → rowBad (wide rows) rows[j] (owners[j]'(by have := HNE.out; omega)) = false) ∧ Below wo.heap.size wo W) (fun i _ => rows.length - (intOf i).toNat)
          case atStart => exact ⟨0, Nat.zero_le _, rfl, Lib.hid (fun j _ h => absurd h (Nat.not_lt_zero _)), Below.refl _ _⟩
          case round =>
            obtain ⟨k, hkl, rfl, HP, hb⟩ := hrel
            have v0 := below_cell hb x0
            have v1 := below_cell hb x1
            have HB3 := Lib.hid (HB2.out.trans (hb.mono HB2.out.size))
            have HBR := Lib.hid hb
            by_cases hlt : k < rows.length
            · have hko : k < owners.length := by have := HNE.out; omega
              obtain ⟨aa, cc, e1, -, -, hk⟩ := HR2.out
              obtain ⟨b, off, r, ha, q1, hI⟩ := hk k hlt
              obtain ⟨b0, off0, r0, ha0, q0, hI0⟩ := hk 0 (by omega)
              simp only [Value.slice.injEq] at e1
              obtain ⟨rfl, -, rfl⟩ := e1
              subst ha
              simp only [Option.some.injEq, Addr.mk.injEq, and_true] at ha0
              obtain ⟨rfl, rfl⟩ := ha0
              obtain ⟨aa2, cc2, e2, -, -, hr2, hk2⟩ := HO2.out
              obtain ⟨b2, off2, ha2, q2⟩ := hk2 k hko
              simp only [Value.slice.injEq] at e2
              obtain ⟨rfl, -, rfl⟩ := e2
              subst ha2
              have hor := hr2 _ (List.getElem_mem hko)
              rw [Nat.add_zero] at q0
              have y0 := below_cell hb q0
              have y1 := below_cell hb q1
              have y2 := below_cell hb q2
              have HI := Lib.hid (hI.below hb)
              obtain ⟨ra, rc, rfl, -, hrl, -⟩ := id hI
              obtain ⟨ra0, rc0, rfl, -⟩ := id hI0
              have HWD := Lib.hid (wide_at rows (by omega))
              have HBAD := Lib.hid (fun h => progE_bad h64 HL.out HNE.out hlt h)
              have HNX := Lib.hid (show rowBad (wide rows) rows[k] owners[k] = false → ∀ j (hj : j < rows.length), j < k + 1 → rowBad (wide rows) rows[j] (owners[j]'(by have := HNE.out; omega)) = false from fun h j hj hjk => by
                by_cases e : j = k
                · subst e; exact h
                · exact HP.out j hj (by omega))
              rw [HWD.out] at y0
              have i0 : 0 ≤ (k : Int) := by omega
              have i1 : (k : Int) < (rows.length : Int) := by omega
              have i2 : (k : Int) < (owners.length : Int) := by omega
              have i3 : (0 : Int) < (rows.length : Int) := by omega
              clear hI hI0 hk hk2 hr2 q0 q1 q2 HP hb HWD
              generalize rows[k] = r at *
              generalize owners[k] = o at *
              generalize wide rows = m at *
              by_cases e0 : r.length = 0
              · have HV := Lib.hid (HBAD.out (bad_0 e0))
                have z0 : decide ((r.length : Int) < 1) = true := decide_eq_true (by omega)
                clear e0 HNX HBAD
                go_wp2_with fail
                go_quiet (fail)
                go_wp2_with fail
                go_ret
                exact ⟨ret_int HV.out.symm, below_drewN HB3.out _⟩
              · have z0 : decide ((r.length : Int) < 1) = false := decide_eq_false (by omega)
                by_cases e1 : r.length = m
                · have z1 : ((r.length : Int) != (m : Int)) = false := by rw [e1]; exact bne_self_eq_false _
                  by_cases e2 : 0 ≤ o
                  · have z2 : decide (o < 0) = false := decide_eq_false (by omega)
                    by_cases e3 : o < 64
                    · have z3 : decide (o ≥ 64) = false := decide_eq_false (by omega)
                      have z4 : decide (64 ≤ o) = false := decide_eq_false (by omega)
                      have HOK := Lib.hid (inB_iff.2 (show 0 ≤ o ∧ o ≤ 63 by omega))
                      have HE1 := Lib.hid e1
                      clear e1
                      go_wp2_with fail
                      go_quiet (fail)
                      obtain ⟨wq, hwq⟩ : ∃ wq : World, wq = wr := ⟨_, rfl⟩
                      rw [← hwq] at HI HB3 HBR v0 v1 y0 y1 y2 ⊢
                      clear hwq y0 y2
                      go_wp2_with fail
                      go_loopw [5] (fun i W => ∃ j : Nat, j ≤ r.length ∧ i = .int .i64 j ∧ Hid (∀ z ∈ r.take j, oddQ z = false) ∧ Below wq.heap.size wq W) (fun i _ => r.length - (intOf i).toNat)
                      case atStart => exact ⟨0, Nat.zero_le _, rfl, Lib.hid (by simp), below_drewN (Below.refl _ _) _⟩
                      case round =>
                        obtain ⟨j, hjl, rfl, HQ, hbq⟩ := hrel
                        have s0 := below_cell hbq v0
                        have s1 := below_cell hbq v1
                        have s2 := below_cell hbq y1
                        have HBQ := Lib.hid hbq
                        by_cases hj : j < r.length
                        · obtain ⟨ab, ac, e5, -, -, hrr, hkk⟩ := HI.out
                          obtain ⟨bb, oo, ha5, q5⟩ := hkk j hj
                          simp only [Value.slice.injEq] at e5
                          obtain ⟨rfl, -, rfl⟩ := e5
                          subst ha5
                          have s3 := below_cell hbq q5
                          have hz64 := hrr _ (List.getElem_mem hj)
                          have j0 : 0 ≤ (j : Int) := by omega
                          have j1 : (j : Int) < (r.length : Int) := by omega
                          clear hkk hrr hbq q5
                          cases eo : oddQ r[j] with
                          | true =>
                            have HV := Lib.hid (HBAD.out (bad_3 (m := m) (o := o) (any_here hj eo)))
                            by_cases hn : r[j] < 0
                            · clear eo HNX HBAD
                              generalize r[j] = z at *
                              go_wp2_with fail
                              go_ret
                              exact ⟨ret_int HV.out.symm, HB3.out.trans (HBQ.out.mono HB3.out.size)⟩
                            · have hq : decide (r[j] ≥ 1073741789) = true := decide_eq_true (by simp [oddQ] at eo; omega)
                              have hq2 : decide (1073741789 ≤ r[j]) = true := decide_eq_true (by simp [oddQ] at eo; omega)
                              have hn0 : 0 ≤ r[j] := by omega
                              clear eo hn HNX HBAD
                              generalize r[j] = z at *
                              go_wp2_with fail
                              go_ret
                              exact ⟨ret_int HV.out.symm, HB3.out.trans (HBQ.out.mono HB3.out.size)⟩
                          | false =>
                            have HN := Lib.hid (take_next hj HQ.out eo)
                            have hn0 : 0 ≤ r[j] := by simp [oddQ] at eo; omega
                            have hn1 : r[j] < 1073741789 := by simp [oddQ] at eo; omega
                            clear eo HNX HBAD
                            generalize r[j] = z at *
                            go_wp2_with fail
                            go_roundw
                            case rel => exact ⟨j + 1, by omega, by go_num, HN, HBQ.out⟩
                            case measure => simp [intOf]; omega
                        · have HN := Lib.hid (HNX.out (bad_no e0 HE1.out HOK.out (any_of_take hj HQ.out)))
                          have hdj : decide (j < r.length) = false := decide_eq_false hj
                          clear HNX HBAD e0
                          go_wp2_with fail
                          go_roundw
                          case rel => exact ⟨k + 1, by omega, by go_num, HN, HBR.out.trans (HBQ.out.mono HBR.out.size)⟩
                          case measure => simp [intOf]; omega
                    · have HV := Lib.hid (HBAD.out (bad_2 (m := m) (r := r) (inB_false (show ¬ (0 ≤ o ∧ o ≤ 63) by omega))))
                      have z3 : decide (o ≥ 64) = true := decide_eq_true (by omega)
                      have z4 : decide (64 ≤ o) = true := decide_eq_true (by omega)
                      clear e0 e1 HNX HBAD
                      go_wp2_with fail
                      go_quiet (fail)
                      go_wp2_with fail
                      go_ret
                      exact ⟨ret_int HV.out.symm, below_drewN HB3.out _⟩
                  · have HV := Lib.hid (HBAD.out (bad_2 (m := m) (r := r) (inB_false (show ¬ (0 ≤ o ∧ o ≤ 63) by omega))))
                    have z2 : decide (o < 0) = true := decide_eq_true (by omega)
                    clear e0 e1 HNX HBAD
                    go_wp2_with fail
                    go_quiet (fail)
                    go_wp2_with fail
                    go_ret
                    exact ⟨ret_int HV.out.symm, below_drewN HB3.out _⟩
                · have HV := Lib.hid (HBAD.out (bad_1 (o := o) e1))
                  have z1 : ((r.length : Int) != (m : Int)) = true := bne_iff_ne.2 (by omega)
                  clear e0 e1 HNX HBAD
                  go_wp2_with fail
                  go_quiet (fail)
                  go_wp2_with fail
                  go_ret
                  exact ⟨ret_int HV.out.symm, below_drewN HB3.out _⟩
            · have HV := Lib.hid (progE_fine h64 HL.out HNE.out (fun j hj => HP.out j hj (by omega)))
              have hdk : decide (k < rows.length) = false := decide_eq_false hlt
              go_wp2_with fail
              go_ret
              exact ⟨ret_int HV.out.symm, HB3.out⟩
        · have hneI : ((rows.length : Int) != (owners.length : Int)) = true := bne_iff_ne.2 (by omega)
          have HV := Lib.hid (progE_len h64 HL.out hne)
          clear hne
          go_wp2_with fail
          go_ret
          exact ⟨ret_int HV.out.symm, HB2.out⟩
  · have HV := Lib.hid (progE_long (rows := rows) (owners := owners) (.inl (by omega)))
    have hd : decide ((rows.length : Int) ≤ 64) = false := decide_eq_false (by omega)
    go_enter Tryz.func69, Tryz.ntmps69
    go_wp2_with fail
    go_ret
    exact ⟨ret_int HV.out.symm, HW1.out ▸ HB1.out⟩

end Go.Proofs.YtjjoadmkpbmhpaaGreat

namespace Go.Proofs.YtjjoadmkpbmhpaaGreat
open Go.RowKit

theorem Ints.drewN {w : World} {v : Value} {zs : List Int} (h : Ints w v zs) (n : Nat) : Ints (w.drewN n) v zs := h.below (below_drewN (Below.refl _ _) n)
theorem Rows2.drewN {w : World} {v : Value} {rows : List (List Int)} (h : Rows2 w v rows) (n : Nat) : Rows2 (w.drewN n) v rows := h.below (below_drewN (Below.refl _ _) n)

set_option maxRecDepth 100000 in
theorem Numbers_is (v : Value) (zs : List Int) (b : Bool) (w : World) (hI : Ints w v zs) (hb : (!zs.any oddQ) = b) :
    Calls Tryz.prog 142 #[v] w fun e w' => e = .returned (.bool b) ∧ w' = w :=
  (Numbers_any v zs w hI).mono fun _ _ ⟨h, e⟩ => ⟨h.trans (by rw [hb]), e.symm⟩

set_option maxRecDepth 100000 in
set_option maxHeartbeats 2000000 in
theorem rCheck_any (v : Value) (rows : List (List Int)) (w : World) (hI : Rows2 w v rows) :
    Calls Tryz.prog 141 #[v] w fun e w' => e = .returned (.int .i64 (checkErr rows)) ∧ Below w.heap.size w w' := by
  have hI0 := hI
  obtain ⟨a, cap, rfl, hcap, hlen, hk⟩ := hI
  by_cases hm : rows.length ≤ 64
  · have HC := Lib.hid (checkErr_few hm)
    have hm' : decide ((64 : Int) < (rows.length : Int)) = false := decide_eq_false (by omega)
    clear hm
    go_enter Tryz.func141, Tryz.ntmps141
    go_wp2_with fail
    go_loop [3] (fun i => ∃ k : Nat, k ≤ rows.length ∧ i = .int .i64 k ∧ Hid (∀ r ∈ rows.take k, r.length ≤ 64)) (fun i => rows.length - (intOf i).toNat)
    case atStart => exact ⟨0, Nat.zero_le _, rfl, Lib.hid (by simp)⟩
    case round =>
      obtain ⟨k, hkl, rfl, HP⟩ := hrel
      by_cases hlt : k < rows.length
      · obtain ⟨b, off, r, rfl, hc, hr⟩ := hk k hlt
        obtain ⟨a', cap', rfl, k1, k2, k3, k4⟩ := hr
        clear hk k3 k4
        by_cases h64 : rows[k].length ≤ 64
        · have HN := Lib.hid (take_all hlt HP.out h64)
          have h64' : decide ((64 : Int) < (rows[k].length : Int)) = false := decide_eq_false (by omega)
          go_wp2_with fail
          go_round
          case rel => exact ⟨k + 1, by omega, by go_num, HN⟩
          case measure => simp [intOf]; omega
        · have HN := Lib.hid (kindErr_long rows k hlt (by omega))
          have h64' : decide ((64 : Int) < (rows[k].length : Int)) = true := decide_eq_true (by omega)
          go_wp2_with fail
          go_ret
          exact ⟨ret_int (by rw [HC.out, HN.out]), Below.refl _ _⟩
      · have HS := Lib.hid (take_whole hlt HP.out)
        obtain rfl : k = rows.length := by omega
        clear HP
        go_wp2_with fail
        go_loopw [4] (fun i wr => ∃ k : Nat, k ≤ rows.length ∧ i = .int .i64 k ∧ Hid (∀ r ∈ rows.take k, rowOk (wide rows) r = true) ∧ Below w.heap.size w wr) (fun i _ => rows.length - (intOf i).toNat)
        case atStart => exact ⟨0, Nat.zero_le _, rfl, Lib.hid (by simp), Below.refl _ _⟩
        case round =>
          obtain ⟨k, hkl, rfl, HP, hb⟩ := hrel
          by_cases hlt : k < rows.length
          · obtain ⟨b, off, r, rfl, hc, hr⟩ := hk k hlt
            have hrI := hr.below hb
            obtain ⟨a', cap', rfl, k1, k2, k3, k4⟩ := hr
            obtain ⟨b0, off0, r0, e0, hc0, hr0⟩ := hk 0 (by omega)
            obtain ⟨rfl, rfl⟩ : b = b0 ∧ off = off0 := by cases e0; exact ⟨rfl, rfl⟩
            obtain ⟨a0, cap0, rfl, m1, m2, m3, m4⟩ := hr0
            have hw0 := wide_at rows (by omega)
            rw [hw0] at hc0 m1 m2
            have hc := below_cell hb hc
            have hc0 := below_cell hb hc0
            rw [Nat.add_zero] at hc0
            have i1 : (0 : Int) ≤ (k : Int) := by omega
            have i2 : (k : Int) < (rows.length : Int) := by omega
            have i3 : (0 : Int) < (rows.length : Int) := by omega
            clear hk k3 k4 m3 m4 e0 hw0
            by_cases hl : rows[k].length = wide rows
            · rw [hl] at hc hrI k1 k2
              have hn : ((wide rows : Int) != (wide rows : Int)) = false := by simp
              by_cases ho : rows[k].any oddQ = true
              · have HN := Lib.hid (kindErr_bad rows HS.out k hlt (by simp [rowOk, ho]))
                have HO := Lib.hid (show (!rows[k].any oddQ) = false by rw [ho]; rfl)
                clear ho hl
                go_wp2_with fail
                go_quiet ((go_at_call 142; exact Calls.quiet_of_same (Numbers_is _ rows[k] _ _ (hrI.drewN _) HO.out)))
                go_wp2_with fail
                go_ret
                exact ⟨ret_int (by rw [HC.out, HN.out]), below_drewN hb _⟩
              · have HN := Lib.hid (take_all hlt HP.out (show rowOk (wide rows) rows[k] = true by simp only [rowOk, hl]; simpa using ho))
                have HO := Lib.hid (show (!rows[k].any oddQ) = true by simpa using ho)
                clear ho hl
                go_wp2_with fail
                go_quiet ((go_at_call 142; exact Calls.quiet_of_same (Numbers_is _ rows[k] _ _ (hrI.drewN _) HO.out)))
                go_wp2_with fail
                go_roundw
                case rel => exact ⟨k + 1, by omega, by go_num, HN, below_drewN hb _⟩
                case measure => simp [intOf]; omega
            · have HN := Lib.hid (kindErr_bad rows HS.out k hlt (by simp [rowOk, hl]))
              have hn : ((rows[k].length : Int) != (wide rows : Int)) = true := by rw [bne_iff_ne]; omega
              clear hl
              go_wp2_with fail
              go_quiet (fail)
              go_wp2_with fail
              go_ret
              exact ⟨ret_int (by rw [HC.out, HN.out]), below_drewN hb _⟩
          · have HN := Lib.hid (kindErr_ok rows HS.out (take_whole hlt HP.out))
            go_wp2_with fail
            go_ret
            exact ⟨ret_int (by rw [HC.out, HN.out]), hb⟩
  · have HC := Lib.hid (checkErr_many (rows := rows) (by omega))
    have hm' : decide ((64 : Int) < (rows.length : Int)) = true := decide_eq_true (by omega)
    go_enter Tryz.func141, Tryz.ntmps141
    go_wp2_with fail
    go_ret
    exact ⟨ret_int HC.out.symm, Below.refl _ _⟩

theorem kind1_ok {t : List Int} (h1 : t.length ≤ 64) (h2 : t.any oddQ = false) : kindErr [t] = 0 :=
  kindErr_ok [t] (by simpa using h1) (by intro r hr; rw [List.mem_singleton.1 hr]; simp only [rowOk, h2]; simp [wide])
theorem kind1_long {t : List Int} (h1 : 64 < t.length) : kindErr [t] = 2 := kindErr_long [t] 0 (by simp) (by simpa using h1)
theorem kind1_odd {t : List Int} (h1 : t.length ≤ 64) (h2 : t.any oddQ = true) : kindErr [t] = 130 :=
  kindErr_bad [t] (by simpa using h1) 0 (by simp) (by simp [rowOk, h2])

set_option maxRecDepth 100000 in
set_option maxHeartbeats 2000000 in
theorem rError_any (v u : Value) (rows : List (List Int)) (t : List Int) (w : World) (hI : Rows2 w v rows) (hU : Ints w u t) :
    Calls Tryz.prog 126 #[v, u] w fun e w' => e = .returned (.int .i64 (examErr rows t)) ∧ Below w.heap.size w w' := by
  have hI0 := hI
  have hU0 := hU
  obtain ⟨a, cap, rfl, hcap, hlen, hk⟩ := hI
  obtain ⟨a2, cap2, rfl, hcap2, hlen2, -⟩ := hU
  by_cases h0 : checkErr rows = 0
  · have H0 := Lib.hid h0
    by_cases h64 : 64 < t.length
    · have HC := Lib.hid (show examErr rows t = 2 by rw [examErr_kind h0 (by rw [kind1_long h64]; decide), kind1_long h64])
      have h64' : decide ((64 : Int) < (t.length : Int)) = true := decide_eq_true (by omega)
      clear h0
      go_enter Tryz.func126, Tryz.ntmps126
      go_wp2_with fail
      with_reducible refine (rCheck_any _ rows _ hI0).mono ?_
      rintro e w1 ⟨rfl, hb⟩
      rw [H0.out]
      go_wp2_with fail
      go_ret
      exact ⟨ret_int HC.out.symm, hb⟩
    · have h64' : decide ((64 : Int) < (t.length : Int)) = false := decide_eq_false (by omega)
      by_cases ho : t.any oddQ = true
      · have HC := Lib.hid (show examErr rows t = 130 by rw [examErr_kind h0 (by rw [kind1_odd (by omega) ho]; decide), kind1_odd (by omega) ho])
        have HO := Lib.hid (show (!t.any oddQ) = false by rw [ho]; rfl)
        clear h0 ho
        go_enter Tryz.func126, Tryz.ntmps126
        go_wp2_with fail
        with_reducible refine (rCheck_any _ rows _ hI0).mono ?_
        rintro e w1 ⟨rfl, hb⟩
        rw [H0.out]
        go_wp2_with fail
        with_reducible refine (Numbers_is _ t _ _ (hU0.below hb) HO.out).mono ?_
        rintro e w' ⟨rfl, rfl⟩
        go_wp2_with fail
        go_ret
        exact ⟨ret_int HC.out.symm, hb⟩
      · have HO := Lib.hid (show (!t.any oddQ) = true by simpa using ho)
        have hk1 := kind1_ok (t := t) (by omega) (by simpa using ho)
        by_cases hn : rows.length = 0
        · have HC := Lib.hid (examErr_ok (rows := rows) h0 hk1 (.inl hn))
          obtain rfl : rows = [] := List.length_eq_zero_iff.1 hn
          have hI1 : Rows2 w (.slice a 0 cap) [] := hI0
          clear h0 ho hn hk1
          go_enter Tryz.func126, Tryz.ntmps126
          go_wp2_with fail
          with_reducible refine (rCheck_any _ [] _ hI1).mono ?_
          rintro e w1 ⟨rfl, hb⟩
          rw [H0.out]
          go_wp2_with fail
          with_reducible refine (Numbers_is _ t _ _ (hU0.below hb) HO.out).mono ?_
          rintro e w' ⟨rfl, rfl⟩
          go_wp2_with fail
          go_ret
          exact ⟨ret_int HC.out.symm, hb⟩
        · have hnI : decide ((0 : Int) < (rows.length : Int)) = true := decide_eq_true (by omega)
          have hn0 : 0 < rows.length := by omega
          obtain ⟨b0, off0, r0, rfl, hc0, hr0⟩ := hk 0 hn0
          obtain ⟨a0, cap0, rfl, m1, m2, m3, m4⟩ := hr0
          rw [wide_at rows hn0] at hc0 m1 m2
          rw [Nat.add_zero] at hc0
          have i1 : (0 : Int) < (rows.length : Int) := by omega
          by_cases hw : wide rows = t.length
          · have HC := Lib.hid (examErr_ok (rows := rows) h0 hk1 (.inr hw))
            have hq : ((t.length : Int) != (wide rows : Int)) = false := by rw [hw]; simp
            clear h0 ho hn hk1 m3 m4 hk hw
            go_enter Tryz.func126, Tryz.ntmps126
            go_wp2_with fail
            with_reducible refine (rCheck_any _ rows _ hI0).mono ?_
            rintro e w1 ⟨rfl, hb⟩
            rw [H0.out]
            go_wp2_with fail
            with_reducible refine (Numbers_is _ t _ _ (hU0.below hb) HO.out).mono ?_
            rintro e w' ⟨rfl, rfl⟩
            have hc1 := below_cell hb hc0
            go_wp2_with fail
            go_ret
            exact ⟨ret_int HC.out.symm, hb⟩
          · have HC := Lib.hid (examErr_bad (rows := rows) h0 hk1 (by rintro (h | h); exact hn h; exact hw h))
            have hq : ((t.length : Int) != (wide rows : Int)) = true := by rw [bne_iff_ne]; omega
            clear h0 ho hn hk1 m3 m4 hk hw
            go_enter Tryz.func126, Tryz.ntmps126
            go_wp2_with fail
            with_reducible refine (rCheck_any _ rows _ hI0).mono ?_
            rintro e w1 ⟨rfl, hb⟩
            rw [H0.out]
            go_wp2_with fail
            with_reducible refine (Numbers_is _ t _ _ (hU0.below hb) HO.out).mono ?_
            rintro e w' ⟨rfl, rfl⟩
            have hc1 := below_cell hb hc0
            go_wp2_with fail
            go_ret
            exact ⟨ret_int HC.out.symm, hb⟩
  · have HC := Lib.hid (examErr_check (t := t) h0)
    have hC : (checkErr rows != 0) = true := by simpa using h0
    have HC2 := Lib.hid hC
    clear h0 hC
    go_enter Tryz.func126, Tryz.ntmps126
    go_wp2_with fail
    with_reducible refine (rCheck_any _ rows _ hI0).mono ?_
    rintro e w1 ⟨rfl, hb⟩
    have hC := HC2.out
    go_wp2_with fail
    go_ret
    exact ⟨ret_int HC.out.symm, hb⟩

end Go.Proofs.YtjjoadmkpbmhpaaGreat

namespace Go.Proofs.YtjjoadmkpbmhpaaGreat
open Go.RowKit

/-- The element of a list, or 0. -/
def nth (l : List Int) (i : Nat) : Int := l[i]?.getD 0
theorem nth_at {l : List Int} {i : Nat} (h : i < l.length) : nth l i = l[i] := by unfold nth; rw [List.getElem?_eq_getElem h]; rfl
theorem nth_out {l : List Int} {i : Nat} (h : ¬ i < l.length) : nth l i = 0 := by unfold nth; rw [List.getElem?_eq_none (by omega)]; rfl

/-- A row less a multiple of another one. -/
def lessF (a b : List Int) (n : Int) : Nat → Int := fun i => (nth a i + -(n * nth b i % 1073741789)) % 1073741789
def lessQ (a b : List Int) (n : Int) : List Int := (List.range a.length).map (lessF a b n)
/-- The first K elements of a function, 0 behind. -/
def upTo (f : Nat → Int) (K : Nat) : Nat → Int := fun i => if i < K then f i else 0
theorem upTo_0 (f : Nat → Int) : upTo f 0 = fun _ => 0 := by funext i; unfold upTo; rw [if_neg (by omega)]
theorem upTo_s (f : Nat → Int) (K : Nat) : upTo f (K + 1) = fun i => if i = K then f K else upTo f K i := by
  funext i; unfold upTo
  by_cases e : i = K
  · rw [if_pos (by omega), if_pos e, e]
  · rw [if_neg e]
    by_cases h : i < K
    · rw [if_pos (by omega), if_pos h]
    · rw [if_neg (by omega), if_neg h]
theorem upTo_list (f : Nat → Int) (K : Nat) : (List.range K).map (upTo f K) = (List.range K).map f :=
  List.map_congr_left fun i hi => by unfold upTo; rw [if_pos (by simpa using hi)]

theorem Ints.get {w : World} {v : Value} {zs : List Int} (h : Ints w v zs) {k : Nat} (hk : k < zs.length) : R64 (nth zs k) ∧ ∃ b off n c, v = .slice (some ⟨b, off, none⟩) n c ∧ w.cell? ⟨b, off + k, none⟩ = some (.int .i64 (nth zs k)) := by
  obtain ⟨a, cap, rfl, h1, h2, h3, h4⟩ := h
  obtain ⟨b, off, rfl, hc⟩ := h4 k hk
  rw [nth_at hk]
  exact ⟨h3 _ (List.getElem_mem hk), b, off, _, _, rfl, hc⟩

set_option maxRecDepth 100000 in
set_option maxHeartbeats 4000000 in
theorem less_any (v u : Value) (a b : List Int) (n : Int) (w : World) (hI : Ints w v a) (hJ : Ints w u b) (hl : a.length ≤ b.length) (hn : R64 n) (hm : a.length ≤ 1000000) :
    Calls Tryz.prog 145 #[v, u, .int .i64 n] w fun e w' => e = .returned (.slice (some ⟨w.heap.size, 0, none⟩) a.length a.length) ∧ IBlk w' w.heap.size a.length (lessF a b n) ∧ Ints w' (.slice (some ⟨w.heap.size, 0, none⟩) a.length a.length) (lessQ a b n) ∧ Below w.heap.size w w' ∧ w.heap.size < w'.heap.size := by
  have HA := Lib.hid (fun k (hk : k < a.length) => hI.get hk)
  have HB := Lib.hid (fun k (hk : k < b.length) => hJ.get hk)
  obtain ⟨pa, ca, rfl, ha1, ha2, -, -⟩ := hI
  obtain ⟨pb, cb, rfl, hb1, hb2, -, -⟩ := hJ
  obtain ⟨H, hH⟩ : ∃ H, H = w.heap.size := ⟨_, rfl⟩
  have hmk := run_ints a.length hm
  go_enter Tryz.func145, Tryz.ntmps145
  go_wp2_with fail
  obtain ⟨W1, hW1⟩ : ∃ W1, w.alloc (.cells (madeCells #[.int .i64 0] a.length) 3) = W1 := ⟨_, rfl⟩
  have hI1 : IBlk W1 H a.length (upTo (lessF a b n) 0) := by rw [← hW1, hH, upTo_0]; exact IBlk.made _ _ _
  have hb1' : Below H w W1 := by rw [← hW1, hH]; exact (Below.refl _ _).alloc (Nat.le_refl _) _
  have hs1 : H < W1.heap.size := by rw [← hW1, hH]; simp
  rw [hW1, ← hH]
  have HH := Lib.hid hH
  clear hH hW1 hmk
  go_loopw [8] (fun i wr => ∃ k : Nat, k ≤ a.length ∧ i = .int .i64 k ∧ IBlk wr H a.length (upTo (lessF a b n) k) ∧ Below H w wr ∧ H < wr.heap.size) (fun i _ => a.length - (intOf i).toNat)
  case atStart => exact ⟨0, Nat.zero_le _, rfl, hI1, hb1', hs1⟩
  case round =>
    obtain ⟨k, hkl, rfl, hIk, hb, hs⟩ := hrel
    by_cases hlt : k < a.length
    · obtain ⟨hra, ba, oa, _, _, e1, hca⟩ := HA.out k hlt
      cases e1
      obtain ⟨hrb, bb, ob, _, _, e2, hcb⟩ := HB.out k (by omega)
      cases e2
      have hba : ba < H := by rw [HH.out]; exact lt_of_cell hca
      have hbb : bb < H := by rw [HH.out]; exact lt_of_cell hcb
      have hca : wr.cell? ⟨ba, oa + k, none⟩ = some (.int .i64 (nth a k)) := by rw [hb.cell (p := ⟨ba, oa + k, none⟩) hba]; exact hca
      have hcb : wr.cell? ⟨bb, ob + k, none⟩ = some (.int .i64 (nth b k)) := by rw [hb.cell (p := ⟨bb, ob + k, none⟩) hbb]; exact hcb
      have HF := Lib.hid (show lessF a b n k = (nth a k + -(n * nth b k % 1073741789)) % 1073741789 from rfl)
      have HU := Lib.hid (upTo_s (lessF a b n) k)
      obtain ⟨x, hx⟩ : ∃ x, x = nth a k := ⟨_, rfl⟩
      obtain ⟨y, hy⟩ : ∃ y, y = nth b k := ⟨_, rfl⟩
      rw [← hx] at hra hca HF
      rw [← hy] at hrb hcb HF
      have hyc := hIk.cell k hlt
      have hyf := hIk.fro k hlt
      have i1 : (0 : Int) ≤ (k : Int) := by omega
      have i2 : (k : Int) < (a.length : Int) := by omega
      have i3 : (k : Int) < (b.length : Int) := by omega
      have hm0 := mod_num (n * y)
      have hneg : R64 (-(n * y % 1073741789)) := by unfold R64; omega
      obtain ⟨z, hz⟩ : ∃ z, z = upTo (lessF a b n) k k := ⟨_, rfl⟩
      rw [← hz] at hyc
      clear hx hy hz
      go_wp2_with fail
      have hsx : ∀ v, (wr.setCell ⟨H, k, none⟩ v).drew.cell? ⟨ba, oa + k, none⟩ = some (.int .i64 x) := fun v => (set_other (W := wr) (u := v) (.inl (by omega))).trans hca
      have hsy : ∀ v, (wr.setCell ⟨H, k, none⟩ v).drew.cell? ⟨bb, ob + k, none⟩ = some (.int .i64 y) := fun v => (set_other (W := wr) (u := v) (.inl (by omega))).trans hcb
      have hwr : IntKind.i64.wrap (-(n * y % 1073741789)) = -(n * y % 1073741789) := IntWalk.i64_in _ (by omega)
      go_region_held3 (fun w' => w'.cell? ⟨ba, oa + k, none⟩ = some (.int .i64 x) ∧ w'.cell? ⟨bb, ob + k, none⟩ = some (.int .i64 y)) (first | go_keep | exact ⟨hsx _, hsy _⟩)
        (first
          | (go_at_call 62; with_reducible refine (rmul_any n y _ hn hrb).mono ?_; rintro e w6 ⟨rfl, rfl⟩)
          | (go_at_call 61; with_reducible refine (radd_any x (-(n * y % 1073741789)) _ hra hneg).mono ?_; rintro e w6 ⟨rfl, rfl⟩))
      clear hwr
      go_wp2_with fail
      have hI' := hIk.set (k := k) ((x + -(n * y % 1073741789)) % 1073741789)
      rw [← HF.out, ← HU.out] at hI'
      rw [HF.out] at hI'
      go_roundw
      case rel => exact ⟨k + 1, by omega, by go_num, ⟨hI'.cell, hI'.fro⟩, (hb.setCell (Nat.le_refl _) _).drew, by simp [World.setCell]; exact hs⟩
      case measure => simp [intOf]; omega
    · obtain rfl : k = a.length := by omega
      have hI' := hIk.ints (Nat.le_refl _) ha2 (fun i hi => by unfold upTo; rw [if_pos hi]; exact mod_r64 _)
      rw [upTo_list] at hI'
      go_wp2_with fail
      go_ret
      rw [← HH.out]
      refine ⟨rfl, ⟨fun i hi => by rw [hIk.cell i hi]; unfold upTo; rw [if_pos hi], hIk.fro⟩, hI', hb, hs⟩

/-- A row times a number. -/
def timesQ (a : List Int) (n : Int) : List Int := (List.range a.length).map fun i => n * nth a i % 1073741789
theorem zeros_len (k : Nat) : ((List.range k).map fun _ => (0 : Int)).length = k := by simp
theorem nth_zeros (k i : Nat) : nth ((List.range k).map fun _ => (0 : Int)) i = 0 := by
  unfold nth
  by_cases h : i < k
  · simp [h]
  · rw [List.getElem?_eq_none (by simpa using h)]; rfl
theorem less_zeros (a : List Int) (n : Int) : lessQ ((List.range a.length).map fun _ => (0 : Int)) a (-n) = timesQ a n := by
  unfold lessQ timesQ
  rw [zeros_len]
  refine List.map_congr_left fun i _ => ?_
  unfold lessF
  rw [nth_zeros, Int.neg_mul]; omega

set_option maxRecDepth 100000 in
set_option maxHeartbeats 4000000 in
theorem times_any (v : Value) (a : List Int) (n : Int) (w : World) (hI : Ints w v a) (hn : 0 ≤ n ∧ n < 1073741789) (hm : a.length ≤ 1000000) :
    Calls Tryz.prog 144 #[v, .int .i64 n] w fun e w' => (∃ b, e = .returned (.slice (some ⟨b, 0, none⟩) a.length a.length) ∧ w.heap.size < b ∧ Ints w' (.slice (some ⟨b, 0, none⟩) a.length a.length) (timesQ a n)) ∧ Below w.heap.size w w' := by
  have hI0 := hI
  obtain ⟨pa, ca, rfl, ha1, ha2, -, -⟩ := hI
  have HZ := Lib.hid (less_zeros a n)
  have hmk := run_ints a.length hm
  have hneg : R64 (-n) := by unfold R64; omega
  go_enter Tryz.func144, Tryz.ntmps144
  go_wp2_with fail
  obtain ⟨W1, hW1⟩ : ∃ W1, w.alloc (.cells (madeCells #[.int .i64 0] a.length) 3) = W1 := ⟨_, rfl⟩
  have hI1 : Ints W1 (.slice (some ⟨w.heap.size, 0, none⟩) a.length a.length) ((List.range a.length).map fun _ => (0 : Int)) := by
    rw [← hW1]; exact (IBlk.made _ _ _).ints (Nat.le_refl _) ha2 (fun _ _ => by unfold R64; omega)
  have hb1 : Below w.heap.size w W1 := by rw [← hW1]; exact (Below.refl _ _).alloc (Nat.le_refl _) _
  have hs1 : W1.heap.size = w.heap.size + 1 := by rw [← hW1]; simp
  have HS := Lib.hid hs1
  rw [hW1]
  clear hW1 hmk hs1
  have hz := zeros_len a.length
  have HL := Lib.hid hz
  have hJ1 := hI0.below hb1
  have hc := less_any _ _ _ a (-n) W1 hI1 hJ1 (by rw [hz]; exact Nat.le_refl _) hneg (by rw [hz]; exact hm)
  rw [hz] at hc
  clear hz
  have HC := Lib.hid hc
  clear hc
  with_reducible refine HC.out.mono ?_
  rintro e w2 ⟨rfl, -, hI2, hb2, hs2⟩
  rw [HZ.out] at hI2
  go_wp2_with fail
  go_ret
  refine ⟨⟨_, rfl, by rw [HS.out]; omega, hI2⟩, hb1.trans (hb2.mono (by rw [HS.out]; omega))⟩

/-- The product of two lists, after K elements. -/
def prodF (a b : List Int) : Nat → Int
  | 0 => 0
  | k + 1 => (prodF a b k + nth a k * nth b k % 1073741789) % 1073741789
def prodQ (a b : List Int) : Int := prodF a b a.length
theorem prodF_num (a b : List Int) : ∀ k, 0 ≤ prodF a b k ∧ prodF a b k < 1073741789
  | 0 => by simp [prodF]
  | k + 1 => mod_num _

end Go.Proofs.YtjjoadmkpbmhpaaGreat
