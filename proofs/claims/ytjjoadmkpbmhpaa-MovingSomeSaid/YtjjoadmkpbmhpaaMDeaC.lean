/- The reference of program: Check. The reference of package linear: Check, Error, Few. The reference of package linear: rows less multiples of rows, and products. The reference's reduction: tables whose rows are lists that are read. The reference's reduction: the walk. Package dealing: numbers, columns, products of lists. -/
import Derived.Test.YtjjoadmkpbmhpaaMDeaA
import Derived.Test.YtjjoadmkpbmhpaaMLinJ
import Derived.BigQuiet
import Derived.IntWalk
import Derived.Maps.AppendAt
import Derived.Deep.AppendSrc
namespace Go.Proofs.Ytjjoadmkpbmhpaa
open Go.RowKit

theorem any_of_take {α : Type} {p : α → Bool} {l : List α} {k : Nat} (h : ¬ k < l.length) (hp : ∀ x ∈ l.take k, p x = false) : l.any p = false := by
  have h2 : ∀ x ∈ l, p x = false := by rwa [List.take_of_length_le (by omega)] at hp
  cases e : l.any p with
  | false => rfl
  | true => obtain ⟨x, hx, hq⟩ := List.any_eq_true.1 e; rw [h2 x hx] at hq; cases hq
theorem take_next {α : Type} {p : α → Bool} {l : List α} {k : Nat} (h : k < l.length) (hp : ∀ x ∈ l.take k, p x = false) (hk : p l[k] = false) : ∀ x ∈ l.take (k + 1), p x = false := by
  rw [List.take_succ_eq_append_getElem h]
  intro x hx
  rcases List.mem_append.1 hx with hx | hx
  · exact hp x hx
  · rw [List.mem_singleton.1 hx]; exact hk
theorem any_here {α : Type} {p : α → Bool} {l : List α} {k : Nat} (h : k < l.length) (hk : p l[k] = true) : l.any p = true := List.any_eq_true.2 ⟨_, List.getElem_mem h, hk⟩

set_option maxRecDepth 100000 in
set_option maxHeartbeats 4000000 in
theorem rpCheck_any (rv ov : Value) (rows : List (List Int)) (owners : List Int) (w : World) (hR : Rows2 w rv rows) (hO : Ints w ov owners) :
    Calls Try.prog 53 #[.agg #[rv, ov]] w fun e w' => e = .returned (.int .i64 (progE rows owners)) ∧ Below w.heap.size w w' := by
  obtain ⟨W1, hW1, hb1, hr1, hz⟩ := box_prog w rv ov 25
  have HR1 := Lib.hid (hR.below hb1)
  have HO1 := Lib.hid (hO.below hb1)
  obtain ⟨a, cap, rfl, -, hlen, -⟩ := id hR
  obtain ⟨a2, cap2, rfl, -, hlen2, -⟩ := id hO
  have c0 : W1.cell? ⟨w.heap.size, 0, none⟩ = some (.slice a rows.length cap) := rowp_cell hr1 rfl
  have c1 : W1.cell? ⟨w.heap.size, 1, none⟩ = some (.slice a2 owners.length cap2) := rowp_cell hr1 rfl
  have HW1 := Lib.hid hW1
  have HB1 := Lib.hid hb1
  clear hR hO hr1 hW1 hb1
  by_cases h64 : rows.length ≤ 64
  · go_enter Try.func53, Try.ntmps53
    go_wp2_with fail
    rw [← HW1.out]
    go_loopw [3] (fun i W => ∃ k : Nat, k ≤ rows.length ∧ i = .int .i64 k ∧ Hid (∀ r ∈ rows.take k, longR r = false) ∧ Below W1.heap.size W1 W) (fun i _ => rows.length - (intOf i).toNat)
    case atStart => exact ⟨0, Nat.zero_le _, rfl, Lib.hid (by simp), Below.refl _ _⟩
    case round =>
      obtain ⟨k, hkl, rfl, HP, hb⟩ := hrel
      have x0 := below_cell hb c0
      have x1 := below_cell hb c1
      have HBR := Lib.hid hb
      by_cases hlt : k < rows.length
      · obtain ⟨aa, cc, e1, -, -, hk⟩ := HR1.out
        obtain ⟨b, off, r, ha, q1, hI⟩ := hk k hlt
        simp only [Value.slice.injEq] at e1
        obtain ⟨rfl, -, rfl⟩ := e1
        subst ha
        have y1 := below_cell hb q1
        obtain ⟨ra, rc, rfl, -⟩ := id hI
        clear hk hI q1
        cases el : longR rows[k] with
        | true =>
          have HV := Lib.hid (progE_long (owners := owners) (.inr (any_here hlt el)))
          have hd : decide ((64 : Int) < (rows[k].length : Int)) = true := decide_eq_true (by simp [longR] at el; omega)
          clear el
          generalize rows[k] = r at *
          go_wp2_with fail
          go_ret
          exact ⟨ret_int HV.out.symm, HB1.out.trans (HBR.out.mono HB1.out.size)⟩
        | false =>
          have HN := Lib.hid (take_next hlt HP.out el)
          have hd : decide ((64 : Int) < (rows[k].length : Int)) = false := decide_eq_false (by simp [longR] at el; omega)
          clear el
          generalize rows[k] = r at *
          go_wp2_with fail
          go_roundw
          case rel => exact ⟨k + 1, by omega, by go_num, HN, HBR.out⟩
          case measure => simp [intOf]; omega
      · have HL := Lib.hid (any_of_take hlt HP.out)
        have HB2 := Lib.hid (HB1.out.trans (HBR.out.mono HB1.out.size))
        have HR2 := Lib.hid (HR1.out.below HBR.out)
        have HO2 := Lib.hid (HO1.out.below HBR.out)
        have hdk : decide (k < rows.length) = false := decide_eq_false hlt
        by_cases hne : rows.length = owners.length
        · have hneI : ((rows.length : Int) != (owners.length : Int)) = false := by rw [hne]; exact bne_self_eq_false _
          have HNE := Lib.hid hne
          clear hne HP HR1 HO1 hb HBR
          go_wp2_with fail
          obtain ⟨wo, hwo⟩ : ∃ wo : World, wo = wr := ⟨_, rfl⟩
          rw [← hwo] at HR2 HO2 HB2 x0 x1 ⊢
          clear hwo
          go_loopw [4] (fun i W => ∃ k : Nat, k ≤ rows.length ∧ i = .int .i64 k ∧ Hid (∀ j (hj : j < rows.length), j < k → rowBad (wide rows) rows[j] (owners[j]'(by have := HNE.out; omega)) = false) ∧ Below wo.heap.size wo W) (fun i _ => rows.length - (intOf i).toNat)
          case atStart => exact ⟨0, Nat.zero_le _, rfl, Lib.hid (fun j _ h => absurd h (Nat.not_lt_zero _)), Below.refl _ _⟩
          case round =>
            obtain ⟨k, hkl, rfl, HP, hb⟩ := hrel
            have v0 := below_cell hb x0
            have v1 := below_cell hb x1
            have HB3 := Lib.hid (HB2.out.trans (hb.mono HB2.out.size))
            have HBR := Lib.hid hb
            by_cases hlt : k < rows.length
            · have hko : k < owners.length := by have := HNE.out; omega
              obtain ⟨aa, cc, e1, -, -, hk⟩ := HR2.out
              obtain ⟨b, off, r, ha, q1, hI⟩ := hk k hlt
              obtain ⟨b0, off0, r0, ha0, q0, hI0⟩ := hk 0 (by omega)
              simp only [Value.slice.injEq] at e1
              obtain ⟨rfl, -, rfl⟩ := e1
              subst ha
              simp only [Option.some.injEq, Addr.mk.injEq, and_true] at ha0
              obtain ⟨rfl, rfl⟩ := ha0
              obtain ⟨aa2, cc2, e2, -, -, hr2, hk2⟩ := HO2.out
              obtain ⟨b2, off2, ha2, q2⟩ := hk2 k hko
              simp only [Value.slice.injEq] at e2
              obtain ⟨rfl, -, rfl⟩ := e2
              subst ha2
              have hor := hr2 _ (List.getElem_mem hko)
              rw [Nat.add_zero] at q0
              have y0 := below_cell hb q0
              have y1 := below_cell hb q1
              have y2 := below_cell hb q2
              have HI := Lib.hid (hI.below hb)
              obtain ⟨ra, rc, rfl, -, hrl, -⟩ := id hI
              obtain ⟨ra0, rc0, rfl, -⟩ := id hI0
              have HWD := Lib.hid (wide_at rows (by omega))
              have HBAD := Lib.hid (fun h => progE_bad h64 HL.out HNE.out hlt h)
              have HNX := Lib.hid (show rowBad (wide rows) rows[k] owners[k] = false → ∀ j (hj : j < rows.length), j < k + 1 → rowBad (wide rows) rows[j] (owners[j]'(by have := HNE.out; omega)) = false from fun h j hj hjk => by
                by_cases e : j = k
                · subst e; exact h
                · exact HP.out j hj (by omega))
              rw [HWD.out] at y0
              have i0 : 0 ≤ (k : Int) := by omega
              have i1 : (k : Int) < (rows.length : Int) := by omega
              have i2 : (k : Int) < (owners.length : Int) := by omega
              have i3 : (0 : Int) < (rows.length : Int) := by omega
              clear hI hI0 hk hk2 hr2 q0 q1 q2 HP hb HWD
              generalize rows[k] = r at *
              generalize owners[k] = o at *
              generalize wide rows = m at *
              by_cases e0 : r.length = 0
              · have HV := Lib.hid (HBAD.out (bad_0 e0))
                have z0 : decide ((r.length : Int) < 1) = true := decide_eq_true (by omega)
                clear e0 HNX HBAD
                go_wp2_with fail
                go_quiet (fail)
                go_wp2_with fail
                go_ret
                exact ⟨ret_int HV.out.symm, below_drewN HB3.out _⟩
              · have z0 : decide ((r.length : Int) < 1) = false := decide_eq_false (by omega)
                by_cases e1 : r.length = m
                · have z1 : ((r.length : Int) != (m : Int)) = false := by rw [e1]; exact bne_self_eq_false _
                  by_cases e2 : 0 ≤ o
                  · have z2 : decide (o < 0) = false := decide_eq_false (by omega)
                    by_cases e3 : o < 64
                    · have z3 : decide (o ≥ 64) = false := decide_eq_false (by omega)
                      have z4 : decide (64 ≤ o) = false := decide_eq_false (by omega)
                      have HOK := Lib.hid (inB_iff.2 (show 0 ≤ o ∧ o ≤ 63 by omega))
                      have HE1 := Lib.hid e1
                      clear e1
                      go_wp2_with fail
                      go_quiet (fail)
                      obtain ⟨wq, hwq⟩ : ∃ wq : World, wq = wr := ⟨_, rfl⟩
                      rw [← hwq] at HI HB3 HBR v0 v1 y0 y1 y2 ⊢
                      clear hwq y0 y2
                      go_wp2_with fail
                      go_loopw [5] (fun i W => ∃ j : Nat, j ≤ r.length ∧ i = .int .i64 j ∧ Hid (∀ z ∈ r.take j, oddQ z = false) ∧ Below wq.heap.size wq W) (fun i _ => r.length - (intOf i).toNat)
                      case atStart => exact ⟨0, Nat.zero_le _, rfl, Lib.hid (by simp), below_drewN (Below.refl _ _) _⟩
                      case round =>
                        obtain ⟨j, hjl, rfl, HQ, hbq⟩ := hrel
                        have s0 := below_cell hbq v0
                        have s1 := below_cell hbq v1
                        have s2 := below_cell hbq y1
                        have HBQ := Lib.hid hbq
                        by_cases hj : j < r.length
                        · obtain ⟨ab, ac, e5, -, -, hrr, hkk⟩ := HI.out
                          obtain ⟨bb, oo, ha5, q5⟩ := hkk j hj
                          simp only [Value.slice.injEq] at e5
                          obtain ⟨rfl, -, rfl⟩ := e5
                          subst ha5
                          have s3 := below_cell hbq q5
                          have hz64 := hrr _ (List.getElem_mem hj)
                          have j0 : 0 ≤ (j : Int) := by omega
                          have j1 : (j : Int) < (r.length : Int) := by omega
                          clear hkk hrr hbq q5
                          cases eo : oddQ r[j] with
                          | true =>
                            have HV := Lib.hid (HBAD.out (bad_3 (m := m) (o := o) (any_here hj eo)))
                            by_cases hn : r[j] < 0
                            · clear eo HNX HBAD
                              generalize r[j] = z at *
                              go_wp2_with fail
                              go_ret
                              exact ⟨ret_int HV.out.symm, HB3.out.trans (HBQ.out.mono HB3.out.size)⟩
                            · have hq : decide (r[j] ≥ 1073741789) = true := decide_eq_true (by simp [oddQ] at eo; omega)
                              have hq2 : decide (1073741789 ≤ r[j]) = true := decide_eq_true (by simp [oddQ] at eo; omega)
                              have hn0 : 0 ≤ r[j] := by omega
                              clear eo hn HNX HBAD
                              generalize r[j] = z at *
                              go_wp2_with fail
                              go_ret
                              exact ⟨ret_int HV.out.symm, HB3.out.trans (HBQ.out.mono HB3.out.size)⟩
                          | false =>
                            have HN := Lib.hid (take_next hj HQ.out eo)
                            have hn0 : 0 ≤ r[j] := by simp [oddQ] at eo; omega
                            have hn1 : r[j] < 1073741789 := by simp [oddQ] at eo; omega
                            clear eo HNX HBAD
                            generalize r[j] = z at *
                            go_wp2_with fail
                            go_roundw
                            case rel => exact ⟨j + 1, by omega, by go_num, HN, HBQ.out⟩
                            case measure => simp [intOf]; omega
                        · have HN := Lib.hid (HNX.out (bad_no e0 HE1.out HOK.out (any_of_take hj HQ.out)))
                          have hdj : decide (j < r.length) = false := decide_eq_false hj
                          clear HNX HBAD e0
                          go_wp2_with fail
                          go_roundw
                          case rel => exact ⟨k + 1, by omega, by go_num, HN, HBR.out.trans (HBQ.out.mono HBR.out.size)⟩
                          case measure => simp [intOf]; omega
                    · have HV := Lib.hid (HBAD.out (bad_2 (m := m) (r := r) (inB_false (show ¬ (0 ≤ o ∧ o ≤ 63) by omega))))
                      have z3 : decide (o ≥ 64) = true := decide_eq_true (by omega)
                      have z4 : decide (64 ≤ o) = true := decide_eq_true (by omega)
                      clear e0 e1 HNX HBAD
                      go_wp2_with fail
                      go_quiet (fail)
                      go_wp2_with fail
                      go_ret
                      exact ⟨ret_int HV.out.symm, below_drewN HB3.out _⟩
                  · have HV := Lib.hid (HBAD.out (bad_2 (m := m) (r := r) (inB_false (show ¬ (0 ≤ o ∧ o ≤ 63) by omega))))
                    have z2 : decide (o < 0) = true := decide_eq_true (by omega)
                    clear e0 e1 HNX HBAD
                    go_wp2_with fail
                    go_quiet (fail)
                    go_wp2_with fail
                    go_ret
                    exact ⟨ret_int HV.out.symm, below_drewN HB3.out _⟩
                · have HV := Lib.hid (HBAD.out (bad_1 (o := o) e1))
                  have z1 : ((r.length : Int) != (m : Int)) = true := bne_iff_ne.2 (by omega)
                  clear e0 e1 HNX HBAD
                  go_wp2_with fail
                  go_quiet (fail)
                  go_wp2_with fail
                  go_ret
                  exact ⟨ret_int HV.out.symm, below_drewN HB3.out _⟩
            · have HV := Lib.hid (progE_fine h64 HL.out HNE.out (fun j hj => HP.out j hj (by omega)))
              have hdk : decide (k < rows.length) = false := decide_eq_false hlt
              go_wp2_with fail
              go_ret
              exact ⟨ret_int HV.out.symm, HB3.out⟩
        · have hneI : ((rows.length : Int) != (owners.length : Int)) = true := bne_iff_ne.2 (by omega)
          have HV := Lib.hid (progE_len h64 HL.out hne)
          clear hne
          go_wp2_with fail
          go_ret
          exact ⟨ret_int HV.out.symm, HB2.out⟩
  · have HV := Lib.hid (progE_long (rows := rows) (owners := owners) (.inl (by omega)))
    have hd : decide ((rows.length : Int) ≤ 64) = false := decide_eq_false (by omega)
    go_enter Try.func53, Try.ntmps53
    go_wp2_with fail
    go_ret
    exact ⟨ret_int HV.out.symm, HW1.out ▸ HB1.out⟩

end Go.Proofs.Ytjjoadmkpbmhpaa

namespace Go.Proofs.Ytjjoadmkpbmhpaa
open Go.RowKit

theorem Ints.drewN {w : World} {v : Value} {zs : List Int} (h : Ints w v zs) (n : Nat) : Ints (w.drewN n) v zs := h.below (below_drewN (Below.refl _ _) n)
theorem Rows2.drewN {w : World} {v : Value} {rows : List (List Int)} (h : Rows2 w v rows) (n : Nat) : Rows2 (w.drewN n) v rows := h.below (below_drewN (Below.refl _ _) n)

theorem kind1_ok {t : List Int} (h1 : t.length ≤ 64) (h2 : t.any oddQ = false) : kindErr [t] = 0 :=
  kindErr_ok [t] (by simpa using h1) (by intro r hr; rw [List.mem_singleton.1 hr]; simp only [rowOk, h2]; simp [wide])
end Go.Proofs.Ytjjoadmkpbmhpaa

namespace Go.Proofs.Ytjjoadmkpbmhpaa
open Go.RowKit

/-- The element of a list, or 0. -/
def nth (l : List Int) (i : Nat) : Int := l[i]?.getD 0
theorem nth_at {l : List Int} {i : Nat} (h : i < l.length) : nth l i = l[i] := by unfold nth; rw [List.getElem?_eq_getElem h]; rfl
theorem nth_out {l : List Int} {i : Nat} (h : ¬ i < l.length) : nth l i = 0 := by unfold nth; rw [List.getElem?_eq_none (by omega)]; rfl

theorem Ints.get {w : World} {v : Value} {zs : List Int} (h : Ints w v zs) {k : Nat} (hk : k < zs.length) : R64 (nth zs k) ∧ ∃ b off n c, v = .slice (some ⟨b, off, none⟩) n c ∧ w.cell? ⟨b, off + k, none⟩ = some (.int .i64 (nth zs k)) := by
  obtain ⟨a, cap, rfl, h1, h2, h3, h4⟩ := h
  obtain ⟨b, off, rfl, hc⟩ := h4 k hk
  rw [nth_at hk]
  exact ⟨h3 _ (List.getElem_mem hk), b, off, _, _, rfl, hc⟩

/-- The product of two lists, after K elements. -/
def prodF (a b : List Int) : Nat → Int
  | 0 => 0
  | k + 1 => (prodF a b k + nth a k * nth b k % 1073741789) % 1073741789
def prodQ (a b : List Int) : Int := prodF a b a.length
theorem prodF_num (a b : List Int) : ∀ k, 0 ≤ prodF a b k ∧ prodF a b k < 1073741789
  | 0 => by simp [prodF]
  | k + 1 => mod_num _

end Go.Proofs.Ytjjoadmkpbmhpaa

namespace Go.Proofs.Ytjjoadmkpbmhpaa
open Go.RowKit

/-- The first m elements of a row. -/
def rowM (m : Nat) (f : Nat → Int) : List Int := (List.range m).map f
theorem rowM_len (m : Nat) (f : Nat → Int) : (rowM m f).length = m := by simp [rowM]
theorem rowM_congr {m : Nat} {f g : Nat → Int} (h : ∀ j, j < m → f j = g j) : rowM m f = rowM m g := List.map_congr_left fun j hj => h j (by simpa using hj)
/-! The reference's reduction, as a function. -/
def ownR (X : Mat) (c k : Nat) : Nat → Int := fun j => invQ (X k c) * X k j % 1073741789
def putM (X : Mat) (i : Nat) (f : Nat → Int) : Mat := fun i' j => if i' = i then f j else X i' j
def lessA (X : Mat) (f : Nat → Int) (c q : Nat) : Mat := fun i j => if i < q then (X i j + -(X i c * f j % 1073741789)) % 1073741789 else X i j
def pivR (X : Mat) (n r c k : Nat) : Mat := putM (lessA (putM X k (X r)) (ownR X c k) c n) r (ownR X c k)
def stepR (n : Nat) (s : Mat × List Nat) (c : Nat) : Mat × List Nat :=
  if findP s.1 n c s.2.length < n then (pivR s.1 n s.2.length c (findP s.1 n c s.2.length), s.2 ++ [c]) else s
def redR (n : Nat) (X : Mat) (many : Nat) : Mat × List Nat := (List.range many).foldl (stepR n) (X, [])
theorem redR_succ (n : Nat) (x : Mat) (many : Nat) : redR n x (many + 1) = stepR n (redR n x many) many := by
  unfold redR; rw [List.range_succ, List.foldl_append]; rfl
theorem stepR_none {n : Nat} {x : Mat} {piv : List Nat} {c : Nat} (h : findP x n c piv.length = n) : stepR n (x, piv) c = (x, piv) := by
  unfold stepR; rw [if_neg]; show ¬ findP x n c piv.length < n; omega
theorem stepR_some {n : Nat} {x : Mat} {piv : List Nat} {c k : Nat} (h : findP x n c piv.length = k) (hk : k < n) : stepR n (x, piv) c = (pivR x n piv.length c k, piv ++ [c]) := by
  unfold stepR
  have h' : findP (x, piv).1 n c (x, piv).2.length = k := h
  rw [h', if_pos hk]
theorem redR_len (n : Nat) (x : Mat) : ∀ c, (redR n x c).2.length ≤ n
  | 0 => by simp [redR]
  | c + 1 => by
    rw [redR_succ]
    have ih := redR_len n x c
    generalize redR n x c = s at ih
    unfold stepR
    split
    · have := findP_ge s.1 n c s.2.length
      simp; omega
    · exact ih
/-! Numbers stay numbers. -/
def NumM (n m : Nat) (X : Mat) : Prop := ∀ i j, i < n → j < m → 0 ≤ X i j ∧ X i j < 1073741789
theorem NumM.put {n m : Nat} {X : Mat} (h : NumM n m X) {i : Nat} {f : Nat → Int} (hf : ∀ j, j < m → 0 ≤ f j ∧ f j < 1073741789) : NumM n m (putM X i f) := fun i' j hi hj => by
  unfold putM; split
  · exact hf j hj
  · exact h i' j hi hj
theorem NumM.less {n m : Nat} {X : Mat} (h : NumM n m X) (f : Nat → Int) (c q : Nat) : NumM n m (lessA X f c q) := fun i j hi hj => by
  unfold lessA; split
  · exact mod_num _
  · exact h i j hi hj
theorem NumM.pivR {n m : Nat} {X : Mat} (h : NumM n m X) {r c k : Nat} (hr : r < n) : NumM n m (pivR X n r c k) :=
  ((h.put fun j hj => h r j hr hj).less _ _ _).put fun _ _ => mod_num _
theorem redR_num {n m : Nat} {X : Mat} (h : NumM n m X) : ∀ c, NumM n m (redR n X c).1
  | 0 => h
  | c + 1 => by
    rw [redR_succ]
    have ih := redR_num h c
    generalize redR n X c = s at ih
    unfold stepR
    split
    · rename_i hk
      exact ih.pivR (Nat.lt_of_le_of_lt (findP_ge s.1 n c s.2.length) hk)
    · exact ih

/-! The table in memory. -/

/-- A store into a cell that holds a slice leaves all slices of integers as they were. -/
theorem Ints.store {W : World} {v : Value} {zs : List Int} (h : Ints W v zs) {b o : Nat} {a : Option Addr} {n c : Nat} (hp : W.cell? ⟨b, o, none⟩ = some (.slice a n c)) (u : Value) : Ints (W.setCell ⟨b, o, none⟩ u) v zs := by
  obtain ⟨p, cap, rfl, h1, h2, h3, h4⟩ := h
  refine ⟨p, cap, rfl, h1, h2, h3, fun k hk => ?_⟩
  obtain ⟨b', off, e, hc⟩ := h4 k hk
  refine ⟨b', off, e, ?_⟩
  by_cases e1 : b = b' ∧ o = off + k
  · obtain ⟨rfl, rfl⟩ := e1
    rw [hp] at hc; cases hc
  · rw [set_other (by
      by_cases e2 : b = b'
      · exact .inr fun e3 => e1 ⟨e2, e3⟩
      · exact .inl e2)]; exact hc

structure RTab (S B0 : Nat) (a : Option Addr) (n m : Nat) (X : Mat) (pv : Value) (W : World) : Prop where
  blk : 0 < n → ∃ B, a = some ⟨B, 0, none⟩ ∧ S ≤ B ∧ B < B0
  row : ∀ i B, a = some ⟨B, 0, none⟩ → i < n → ∃ p c, W.cell? ⟨B, i, none⟩ = some (.slice p m c) ∧ W.frozen? ⟨B, i, none⟩ = false ∧ Ints W (.slice p m c) (rowM m (X i)) ∧ (0 < m → ∀ g, pv.ownBlock = some g → (Value.slice p m c).ownBlock ≠ some g)

theorem RTab.below {S B0 : Nat} {a : Option Addr} {n m : Nat} {X : Mat} {pv : Value} {W W' : World} (h : RTab S B0 a n m X pv W) (hb : Below W.heap.size W W') : RTab S B0 a n m X pv W' :=
  ⟨h.blk, fun i B e hi => by
    obtain ⟨p, c, h1, h2, h3, h4⟩ := h.row i B e hi
    exact ⟨p, c, below_cell hb h1, by rw [hb.frozen (p := ⟨B, i, none⟩) (lt_of_cell h1)]; exact h2, h3.below hb, h4⟩⟩
theorem RTab.drew {S B0 : Nat} {a : Option Addr} {n m : Nat} {X : Mat} {pv : Value} {W : World} (h : RTab S B0 a n m X pv W) : RTab S B0 a n m X pv W.drew := h.below (Below.refl _ _).drew
theorem RTab.congr {S B0 : Nat} {a : Option Addr} {n m : Nat} {X Y : Mat} {pv : Value} {W : World} (h : RTab S B0 a n m X pv W) (e : ∀ i j, i < n → j < m → X i j = Y i j) : RTab S B0 a n m Y pv W :=
  ⟨h.blk, fun i B ea hi => by
    obtain ⟨p, c, h1, h2, h3, h4⟩ := h.row i B ea hi
    exact ⟨p, c, h1, h2, by rw [← rowM_congr (fun j hj => e i j hi hj)]; exact h3, h4⟩⟩
theorem RTab.store {S B0 B : Nat} {n m : Nat} {X : Mat} {pv : Value} {W : World} (h : RTab S B0 (some ⟨B, 0, none⟩) n m X pv W) {i : Nat} (hi : i < n) {p : Option Addr} {c : Nat} {f : Nat → Int} (hf : Ints W (.slice p m c) (rowM m f)) (ho : 0 < m → ∀ g, pv.ownBlock = some g → (Value.slice p m c).ownBlock ≠ some g) :
    RTab S B0 (some ⟨B, 0, none⟩) n m (putM X i f) pv (W.setCell ⟨B, i, none⟩ (.slice p m c)) :=
  ⟨h.blk, fun i' B' e hi' => by
    obtain rfl : B' = B := by cases e; rfl
    obtain ⟨p0, c0, h1, h2, h3, h4⟩ := h.row i B' rfl hi
    by_cases e : i' = i
    · subst e
      refine ⟨p, c, World.cell?_setCell_same' _ _ _ (by rw [h1]; rfl), by rw [World.frozen?_setCell]; exact h2, ?_, ho⟩
      have : putM X i' f i' = f := by funext j; unfold putM; rw [if_pos rfl]
      rw [this]; exact hf.store h1 _
    · obtain ⟨p', c', k1, k2, k3, k4⟩ := h.row i' B' rfl hi'
      refine ⟨p', c', by rw [set_other (.inr (fun e' => e e'.symm))]; exact k1, by rw [World.frozen?_setCell]; exact k2, ?_, k4⟩
      have : putM X i f i' = X i' := by funext j; unfold putM; rw [if_neg e]
      rw [this]; exact k3.store h1 _⟩

/-- The pivots grow. -/
theorem RTab.grown {S B0 : Nat} {a : Option Addr} {n m : Nat} {X : Mat} {pv pv' : Value} {W W' : World} (h : RTab S B0 a n m X pv W) (hg : W.grownBy W' pv.ownBlock) (hB : ∀ g, pv.ownBlock = some g → B0 ≤ g) (ho : pv'.ownBlock = pv.ownBlock ∨ pv'.ownBlock = some W.heap.size) : RTab S B0 a n m X pv' W' := by
  refine ⟨h.blk, fun i B e hi => ?_⟩
  obtain ⟨p, c, h1, h2, h3, h4⟩ := h.row i B e hi
  have hlt := lt_of_cell h1
  have hne : pv.ownBlock ≠ some B := fun e' => by
    obtain ⟨B', e2, _, h5⟩ := h.blk (by omega)
    rw [e] at e2
    obtain rfl : B = B' := by cases e2; rfl
    have := hB _ e'; omega
  have cellEq : ∀ (b o : Nat) (u : Value), pv.ownBlock ≠ some b → W.cell? ⟨b, o, none⟩ = some u → W'.cell? ⟨b, o, none⟩ = some u := fun b o u hne hc => by
    rw [World.cell?_of_block (w := W) (w' := W') (a := ⟨b, o, none⟩) (hg.block b (lt_of_cell hc) hne.symm)]; exact hc
  refine ⟨p, c, cellEq B i _ hne h1, ?_, ?_, ?_⟩
  · rw [World.frozen?_of_block (w := W) (w' := W') (a := ⟨B, i, none⟩) (hg.block B hlt hne.symm)]; exact h2
  · obtain ⟨p', c', e1, q1, q2, q3, q4⟩ := h3
    refine ⟨p', c', e1, q1, q2, q3, fun k hk => ?_⟩
    obtain ⟨b', off, e2, hc⟩ := q4 k hk
    refine ⟨b', off, e2, cellEq b' _ _ (fun e3 => ?_) hc⟩
    rw [rowM_len] at hk
    refine h4 (by omega) b' e3 ?_
    injection e1 with e5; subst e5; subst e2; rfl
  · intro hm g hgg
    rcases ho with ho | ho
    · rw [ho] at hgg; exact h4 hm g hgg
    · rw [ho] at hgg
      cases hgg
      obtain ⟨p', c', e1, q1, q2, q3, q4⟩ := h3
      obtain ⟨b', off, e2, hc⟩ := q4 0 (by rw [rowM_len]; exact hm)
      injection e1 with e5; subst e5; subst e2
      have := lt_of_cell hc
      intro e4
      have e5 : some b' = some W.heap.size := e4
      injection e5 with e6
      exact absurd this (by show ¬ b' < _; omega)

end Go.Proofs.Ytjjoadmkpbmhpaa

namespace Go.Proofs.Ytjjoadmkpbmhpaa
open Go.RowKit

/-- An append of which the run is known. -/
theorem wpList_app_run {P : Program} {ops : Array Oper} {rest : List Oper} {o : Oper} {a : Act} {Q : Exit → Act → World → Prop} {W w' : World} (hgd : o.guard = none) (s x : Operand) (t : TypeId)
    (ho : o.op = .call { callee := .builtin .append, args := #[s, x], argTypes := #[t, t] }) (v u v' : Value) (hs : a.eval s = v) (hx : a.eval x = u)
    (hr : (Builtin.append_ #[t, t] o.type #[v, u]).run P W = .ok v' w') (h : wpList P ops Q rest (a.put o.dst v') w') : wpList P ops Q (o :: rest) a W := by
  refine wpList_plain hgd fun K hK => ?_
  unfold Oper.wp execOp
  simp only [ho, resolve, invoke, builtin, Sem.run_bind, Sem.run_pure, Result.andThen_ok, List.map_toArray, List.map_cons, List.map_nil, hs, hx, hr]
  exact hK _ _ h

end Go.Proofs.Ytjjoadmkpbmhpaa

namespace Go.Proofs.Ytjjoadmkpbmhpaa
open Go.RowKit

set_option maxRecDepth 100000 in
theorem dodd_any (z : Int) (w : World) : Calls Try.prog 62 #[.int .i64 z] w fun r w' => r = .returned (.bool (oddQ z)) ∧ w = w' := by
  by_cases h1 : z < 0
  · have H := Lib.hid (show oddQ z = true by simp [oddQ, h1])
    go_enter Try.func62, Try.ntmps62
    go_wp2_with fail
    go_ret
    exact ⟨ret_bool H.out.symm, rfl⟩
  · have h2 : 0 ≤ z := by omega
    have H := Lib.hid (show oddQ z = decide (1073741789 ≤ z) by unfold oddQ; rw [decide_eq_false h1, Bool.false_or])
    go_enter Try.func62, Try.ntmps62
    go_wp2_with fail
    go_ret
    exact ⟨ret_bool H.out.symm, rfl⟩
theorem dodd_tests (w : World) (zs : List Int) : Tests 62 #[] w oddQ zs :=
  fun z _ w' _ => (dodd_any z w').mono fun _ _ ⟨h, e⟩ => ⟨h, e ▸ Below.refl _ _⟩
set_option maxRecDepth 100000 in
theorem dodd_goes : Goes Try.prog 62 := goes_of Try.func62 (by kernel_rfl) rfl
set_option maxRecDepth 100000 in
theorem numbers_any (v : Value) (zs : List Int) (w : World) (hI : Ints w v zs) : Calls Try.prog 29 #[v] w fun r w' => r = .returned (.bool (!zs.any oddQ)) ∧ Below w.heap.size w w' := by
  have HC := Lib.hid (containsFunc_any 62 #[] oddQ v zs w hI dodd_goes (dodd_tests _ _))
  clear hI
  go_enter Try.func29, Try.ntmps29
  go_wp2_with fail
  refine HC.out.mono ?_
  rintro e w3 ⟨rfl, hb3⟩
  go_wp2_with fail
  go_ret
  exact ⟨rfl, hb3⟩

/-- How many columns a program has. -/
def colsQ (rows : List (List Int)) : Nat := if rows.length = 0 then 1 else wide rows
set_option maxRecDepth 100000 in
set_option maxHeartbeats 1000000 in
theorem columns_any (rv ov : Value) (rows : List (List Int)) (owners : List Int) (w : World) (hR : Rows2 w rv rows) (hO : Ints w ov owners) :
    Calls Try.prog 30 #[.agg #[rv, ov]] w fun e w' => e = .returned (.int .i64 (colsQ rows)) ∧ Below w.heap.size w w' := by
  obtain ⟨W1, hW1, hb1, hr1, hz⟩ := box_prog w rv ov 25
  have HR1 := Lib.hid (hR.below hb1)
  obtain ⟨a, cap, rfl, -, hlen, -⟩ := id hR
  obtain ⟨a2, cap2, rfl, -, hlen2, -⟩ := id hO
  have c0 : W1.cell? ⟨w.heap.size, 0, none⟩ = some (.slice a rows.length cap) := rowp_cell hr1 rfl
  have HW1 := Lib.hid hW1
  have HB1 := Lib.hid hb1
  clear hR hO hr1 hW1 hb1
  by_cases h0 : rows.length = 0
  · have HV := Lib.hid (show colsQ rows = 1 by unfold colsQ; rw [if_pos h0])
    have z0 : ((rows.length : Int) == 0) = true := by rw [h0]; rfl
    clear h0
    go_enter Try.func30, Try.ntmps30
    go_wp2_with fail
    go_ret
    exact ⟨ret_int (by rw [HV.out]; rfl), HW1.out ▸ HB1.out⟩
  · have HV := Lib.hid (show colsQ rows = wide rows by unfold colsQ; rw [if_neg h0])
    have z0 : ((rows.length : Int) == 0) = false := beq_eq_false_iff_ne.2 (by omega)
    obtain ⟨aa, cc, e1, -, -, hk⟩ := HR1.out
    obtain ⟨b, off, r, ha, q1, hI⟩ := hk 0 (by omega)
    simp only [Value.slice.injEq] at e1
    obtain ⟨rfl, -, rfl⟩ := e1
    subst ha
    rw [Nat.add_zero] at q1
    obtain ⟨ra, rc, rfl, -⟩ := id hI
    rw [wide_at rows (by omega)] at q1
    have i3 : (0 : Int) < (rows.length : Int) := by omega
    clear hk hI h0
    generalize wide rows = m at *
    go_enter Try.func30, Try.ntmps30
    go_wp2_with (rw [← HW1.out])
    go_ret
    exact ⟨ret_int (by rw [HV.out]), HB1.out⟩

set_option maxRecDepth 100000 in
set_option maxHeartbeats 1000000 in
theorem times1_any (i : Nat) (n : Int) (bb : Nat) (u : Value) (b : List Int) (w : World) (hc : w.cell? ⟨bb, 0, none⟩ = some u) (hJ : Ints w u b) (hi : i < b.length) (hn : R64 n) :
    Calls Try.prog 65 #[.int .i64 i, .int .i64 n, .pointer (some ⟨bb, 0, none⟩)] w fun e w' => e = .returned (.int .i64 (n * nth b i % 1073741789)) ∧ w = w' := by
  obtain ⟨hr, b0, off, nn, c, rfl, hcell⟩ := hJ.get hi
  obtain ⟨a', c', e', -, hlen, -⟩ := id hJ
  simp only [Value.slice.injEq] at e'
  obtain ⟨-, rfl, rfl⟩ := e'
  have i0 : 0 ≤ (i : Int) := by omega
  have i1 : (i : Int) < (b.length : Int) := by omega
  clear hJ
  generalize nth b i = z at *
  go_enter Try.func65, Try.ntmps65
  go_wp2_with fail
  with_reducible refine (mul_any n z _ hn hr).mono ?_
  rintro e w3 ⟨rfl, rfl⟩
  go_wp2_with fail
  go_ret
  exact ⟨rfl, rfl⟩
set_option maxRecDepth 100000 in
theorem times1_goes : Goes Try.prog 65 := goes_of Try.func65 (by kernel_rfl) rfl

set_option maxRecDepth 100000 in
set_option maxHeartbeats 2000000 in
theorem dsum_any (v u : Value) (a b : List Int) (bb : Nat) (w : World) (hI : Ints w v a) (hJ : Ints w u b) (hl : a.length ≤ b.length) (hc : w.cell? ⟨bb, 0, none⟩ = some u) :
    Calls Try.prog 64 #[v, .func (.func 65) #[] #[.pointer (some ⟨bb, 0, none⟩)]] w fun e w' => e = .returned (.int .i64 (prodQ a b)) ∧ Below w.heap.size w w' := by
  have HA := Lib.hid (fun k (hk : k < a.length) => hI.get hk)
  obtain ⟨aa, ca, rfl, hcap, hlen, -⟩ := id hI
  have HT := Lib.hid (fun k (hk : k < a.length) (n : Int) (hn : R64 n) W (hb : Below w.heap.size w W) => times1_any k n bb u b W (below_cell hb hc) (hJ.below hb) (by omega) hn)
  have hE' : ∀ (args : Array Value) (w : World), (callFunc 65 args).run Try.prog w = .ok (.enter 65 args) w := times1_goes
  clear hI hJ hc
  go_enter Try.func64, Try.ntmps64
  go_wp2_with fail
  go_loopw [4, 9] (fun s i W => ∃ k : Nat, k ≤ a.length ∧ i = .int .i64 k ∧ s = .int .i64 (prodF a b k) ∧ Below w.heap.size w W) (fun _ i _ => a.length - (intOf i).toNat)
  case atStart => exact ⟨0, Nat.zero_le _, rfl, rfl, Below.refl _ _⟩
  case round =>
    obtain ⟨k, hkl, rfl, rfl, hb⟩ := hrel
    have HP := Lib.hid (prodF_num a b k)
    by_cases hlt : k < a.length
    · obtain ⟨hr, b0, off, nn, c, e1, hcell⟩ := HA.out k hlt
      simp only [Value.slice.injEq] at e1
      obtain ⟨rfl, -, -⟩ := e1
      have y1 := below_cell hb hcell
      have HT2 := Lib.hid (HT.out k hlt (nth a k) hr wr hb)
      have HS := Lib.hid (show prodF a b (k + 1) = (prodF a b k + nth a k * nth b k % 1073741789) % 1073741789 from rfl)
      have hp64 : R64 (prodF a b k) := num_r64 HP.out
      have hm64 := mod_r64 (nth a k * nth b k)
      generalize nth a k * nth b k % 1073741789 = z at *
      generalize nth a k = x at *
      clear hcell
      go_wp2_with fail
      refine HT2.out.mono ?_
      rintro e w3 ⟨rfl, rfl⟩
      go_wp2_with fail
      with_reducible refine (add_any _ z _ hp64 hm64).mono ?_
      rintro e w3 ⟨rfl, hb3⟩
      go_wp2_with fail
      go_roundw
      case rel => exact ⟨k + 1, by omega, by go_num, by rw [HS.out], hb.trans (hb3.mono hb.size)⟩
      case measure => simp [intOf]; omega
    · have HV := Lib.hid (show prodF a b k = prodQ a b by unfold prodQ; rw [show k = a.length by omega])
      go_wp2_with fail
      go_ret
      exact ⟨ret_int HV.out, hb⟩

set_option maxRecDepth 100000 in
set_option maxHeartbeats 1000000 in
theorem dtimes_any (v u : Value) (a b : List Int) (w : World) (hI : Ints w v a) (hJ : Ints w u b) (hl : a.length ≤ b.length) :
    Calls Try.prog 32 #[v, u] w fun e w' => e = .returned (.int .i64 (prodQ a b)) ∧ Below w.heap.size w w' := by
  have hmf : ∀ (fn : Fn) (first cap : Array Value) (w : World), (Instr.makeFunc fn first cap).run Try.prog w = .ok (.func fn first cap) w := fun _ _ _ _ => rfl
  have HB := Lib.hid ((Below.refl w.heap.size w).alloc (Nat.le_refl _) (.cells #[u] 23))
  have HD := Lib.hid (dsum_any v u a b w.heap.size _ (hI.below HB.out) (hJ.below HB.out) hl (rowp_cell (World.alloc_heap_new w (.cells #[u] 23)) rfl))
  obtain ⟨aa, ca, rfl, -⟩ := id hI
  obtain ⟨ab, cb, rfl, -⟩ := id hJ
  clear hI hJ
  go_enter Try.func32, Try.ntmps32
  go_wp2_with fail
  refine HD.out.mono ?_
  rintro e w3 ⟨rfl, hb3⟩
  go_wp2_with fail
  go_ret
  exact ⟨rfl, HB.out.trans (hb3.mono HB.out.size)⟩

end Go.Proofs.Ytjjoadmkpbmhpaa
