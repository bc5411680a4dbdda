/- slices.BinarySearch of a list that rises. Package program: the rows of people. -/
import Derived.Test.YtnbkbnbmmkfckaaMInB
import Derived.Test.YtnbkbnbmmkfckaaMLinM
import Derived.Test.YtnbkbnbmmkfckaaMRegIn
import Derived.Test.YtnbkbnbmmkfckaaMRange4
import Derived.Test.YtnbkbnbmmkfckaaMDeaD
namespace Go.Proofs.Ytnbkbnbmmkfckaa
open Go.RowKit

set_option maxRecDepth 100000 in
theorem cnan_any (x : Int) (w : World) : Calls Try.prog 160 #[.int .i64 x] w fun r w' => r = .returned (.bool false) ∧ w = w' := by
  have h1 : (x != x) = false := by simp
  go_enter Try.func160, Try.ntmps160
  go_wp2_with fail
  go_ret
  exact ⟨rfl, rfl⟩
set_option maxRecDepth 100000 in
theorem snan_any (x : Int) (w : World) : Calls Try.prog 159 #[.int .i64 x] w fun r w' => r = .returned (.bool false) ∧ w = w' := by
  have h1 : (x != x) = false := by simp
  go_enter Try.func159, Try.ntmps159
  go_wp2_with fail
  go_ret
  exact ⟨rfl, rfl⟩
set_option maxRecDepth 100000 in
theorem cless_any (x y : Int) (w : World) : Calls Try.prog 158 #[.int .i64 x, .int .i64 y] w fun r w' => r = .returned (.bool (decide (x < y))) ∧ w = w' := by
  go_enter Try.func158, Try.ntmps158
  go_wp2_with fail
  with_reducible refine (cnan_any x _).mono ?_
  rintro e w' ⟨rfl, rfl⟩
  go_wp2_with fail
  go_ret
  exact ⟨rfl, rfl⟩

set_option maxRecDepth 100000 in
set_option maxHeartbeats 2000000 in
theorem bsearch_any (v : Value) (zs : List Int) (x : Int) (w : World) (hI : Ints w v zs) (hs : zs.Pairwise (· < ·)) (hl : zs.length ≤ 1000000000) :
    Calls Try.prog 152 #[v, .int .i64 x] w fun r w' => (∃ i : Nat, r = .returned (.tuple #[.int .i64 i, .bool (decide (x ∈ zs))])) ∧ Below w.heap.size w w' := by
  have HS := Lib.hid (List.pairwise_iff_getElem.1 hs)
  have HI := Lib.hid hI
  obtain ⟨a, cap, rfl, -, -, -, hk⟩ := hI
  have HK := Lib.hid hk
  clear hs hk
  go_enter Try.func152, Try.ntmps152
  go_wp2_with fail
  go_loopw [7, 8, 9] (fun i j h W => ∃ p q : Nat, p ≤ q ∧ q ≤ zs.length ∧ i = .int .i64 p ∧ j = .int .i64 q ∧ Hid (∀ m (hm : m < zs.length), m < p → zs[m] < x) ∧ Hid (∀ m (hm : m < zs.length), q ≤ m → x ≤ zs[m]) ∧ Below w.heap.size w W) (fun i j _ _ => (intOf j).toNat - (intOf i).toNat)
  case atStart => exact ⟨0, zs.length, Nat.zero_le _, Nat.le_refl _, rfl, rfl, Lib.hid (fun m _ h => absurd h (Nat.not_lt_zero _)), Lib.hid (fun m h1 h2 => absurd h1 (by omega)), Below.refl _ _⟩
  case round =>
    obtain ⟨p, q, hpq, hql, rfl, rfl, HA, HB, hb⟩ := hrel
    by_cases hlt : p < q
    · have h0 : (p : Int) < (q : Int) := by omega
      have h1 : IntKind.i64.wrap ((p : Int) + (q : Int)) = (p : Int) + (q : Int) := IntWalk.i64_in _ (by omega)
      have h2 : IntKind.u64.wrap ((p : Int) + (q : Int)) = (p : Int) + (q : Int) := IntWalk.u64_in _ (by omega)
      obtain ⟨h, hh⟩ : ∃ h : Nat, h = (p + q) / 2 := ⟨_, rfl⟩
      have h3 : ((p : Int) + (q : Int)) / 2 = (h : Int) := by omega
      have h4 : h < q := by omega
      have h5 : p ≤ h := by omega
      have h6 : h < zs.length := by omega
      obtain ⟨b, off, rfl, hc⟩ := HK.out h h6
      have hc2 := below_cell hb hc
      have h7 : (0 : Int) ≤ (h : Int) := by omega
      have h8 : (h : Int) < (zs.length : Int) := by omega
      obtain ⟨z, hz⟩ : ∃ z, z = zs[h] := ⟨_, rfl⟩
      rw [← hz] at hc2
      have HZ := Lib.hid hz
      clear hh hz hc
      by_cases hzx : z < x
      · have hd : decide (z < x) = true := decide_eq_true hzx
        clear hzx
        go_wp2_with fail
        with_reducible refine (cless_any z x _).mono ?_
        rintro e w' ⟨rfl, rfl⟩
        go_wp2_with fail
        go_roundw
        case rel => exact ⟨h + 1, q, by omega, hql, by go_num, rfl, Lib.hid (fun m hm hlt2 => by
          have h9 : zs[h] < x := HZ.out ▸ of_decide_eq_true hd
          by_cases e : m = h
          · subst e; exact h9
          · have := HS.out m h hm h6 (by omega); omega), HB, hb⟩
        case measure => simp [intOf]; omega
      · have hd : decide (z < x) = false := decide_eq_false hzx
        clear hzx
        go_wp2_with fail
        with_reducible refine (cless_any z x _).mono ?_
        rintro e w' ⟨rfl, rfl⟩
        go_wp2_with fail
        go_roundw
        case rel => exact ⟨p, h, h5, by omega, rfl, rfl, HA, Lib.hid (fun m hm hge => by
          have h9 : ¬ zs[h] < x := HZ.out ▸ of_decide_eq_false hd
          by_cases e : m = h
          · subst e; omega
          · have := HS.out h m h6 hm (by omega); omega), hb⟩
        case measure => simp [intOf]; omega
    · obtain rfl : p = q := by omega
      have h0 : decide ((p : Int) < (p : Int)) = false := by simp
      by_cases hp : p < zs.length
      · obtain ⟨b, off, rfl, hc⟩ := HK.out p hp
        have hc2 := below_cell hb hc
        have h7 : (0 : Int) ≤ (p : Int) := by omega
        have h8 : (p : Int) < (zs.length : Int) := by omega
        have HM : Hid (decide (x ∈ zs) = (zs[p] == x)) := Lib.hid (by
          by_cases e : zs[p] = x
          · rw [decide_eq_true (e ▸ List.getElem_mem hp), beq_iff_eq.2 e]
          · rw [beq_eq_false_iff_ne.2 e, decide_eq_false]
            intro hm
            obtain ⟨m, hml, rfl⟩ := List.mem_iff_getElem.1 hm
            rcases Nat.lt_trichotomy m p with h | h | h
            · have := HA.out m hml h; omega
            · subst h; exact e rfl
            · have h1 := HB.out p hp (Nat.le_refl _); have h2 := HS.out p m hp hml h; omega)
        obtain ⟨z, hz⟩ : ∃ z, z = zs[p] := ⟨_, rfl⟩
        rw [← hz] at hc2 HM
        clear hz hc
        by_cases hzx : z = x
        · have hd : (z == x) = true := beq_iff_eq.2 hzx
          rw [hd] at HM
          subst hzx
          go_wp2_with fail
          go_ret2
          exact ⟨⟨p, by rw [HM.out]; rfl⟩, hb⟩
        · have hd : (z == x) = false := beq_eq_false_iff_ne.2 hzx
          rw [hd] at HM
          go_wp2_with fail
          with_reducible refine (snan_any z _).mono ?_
          rintro e w' ⟨rfl, rfl⟩
          go_wp2_with fail
          go_ret2
          exact ⟨⟨p, by rw [HM.out]; rfl⟩, hb⟩
      · have h8 : decide ((p : Int) < (zs.length : Int)) = false := decide_eq_false (by omega)
        have h9 : decide (p < zs.length) = false := decide_eq_false (by omega)
        have HM : Hid (decide (x ∈ zs) = false) := Lib.hid (decide_eq_false (fun hm => by
          obtain ⟨m, hml, rfl⟩ := List.mem_iff_getElem.1 hm
          have := HA.out m hml (by omega); omega))
        go_wp2_with fail
        go_ret2
        exact ⟨⟨p, by rw [HM.out]; rfl⟩, hb⟩

end Go.Proofs.Ytnbkbnbmmkfckaa

namespace Go.Proofs.Ytnbkbnbmmkfckaa
open Go.RowKit FP

attribute [local go_sem] Oper.semAt_some

/-- The numbers of the rows of people, below a number. -/
def ownL (owners who : List Int) (n : Nat) : List Nat := (List.range n).filter (fun i => decide (nth owners i ∈ who))
theorem ownL_yes {owners who : List Int} {n : Nat} (h : nth owners n ∈ who) : ownL owners who (n + 1) = ownL owners who n ++ [n] := by
  unfold ownL; rw [List.range_succ, List.filter_append]; simp [h]
theorem ownL_no {owners who : List Int} {n : Nat} (h : ¬ nth owners n ∈ who) : ownL owners who (n + 1) = ownL owners who n := by
  unfold ownL; rw [List.range_succ, List.filter_append]; simp [h]
theorem ownL_split (owners who : List Int) {n N : Nat} (h : n ≤ N) : ∃ r, ownL owners who N = ownL owners who n ++ r := by
  obtain ⟨k, rfl⟩ : ∃ k, N = n + k := ⟨N - n, by omega⟩
  unfold ownL
  rw [List.range_add, List.filter_append]
  exact ⟨_, rfl⟩
theorem ownL_at {owners who : List Int} {n N : Nat} (h : n < N) (hm : nth owners n ∈ who) : (ownL owners who N).getD (ownL owners who n).length 0 = n ∧ (ownL owners who n).length < (ownL owners who N).length := by
  obtain ⟨r, hr⟩ := ownL_split owners who (show n + 1 ≤ N by omega)
  rw [ownL_yes hm] at hr
  rw [hr]
  refine ⟨?_, by simp⟩
  rw [List.append_assoc, List.getD_eq_getElem?_getD, List.getElem?_append_right (Nat.le_refl _)]
  simp
theorem ownL_lt {owners who : List Int} {N i : Nat} (h : i ∈ ownL owners who N) : i < N ∧ nth owners i ∈ who := by
  unfold ownL at h
  simpa using h

set_option maxRecDepth 100000 in
set_option maxHeartbeats 4000000 in
theorem own1_iterates (pb wb : Nat) (rv ov wv : Value) (rows : List (List Int)) (owners who : List Int) (a : Option Addr) (cap : Nat) (g : Nat → Value) (hrv : rv = .slice a rows.length cap) (hgs : ∀ j, ∃ x n c, g j = .slice x n c) (hlen : owners.length = rows.length) (hfew : rows.length ≤ 1000000)
    (hs : who.Pairwise (· < ·)) (hwl : who.length ≤ 1000000000) (I : Nat → World → Prop)
    (hF : ∀ j W, I j W → (∀ k, k < rows.length → ∃ b off, a = some ⟨b, off, none⟩ ∧ W.cell? ⟨b, off + k, none⟩ = some (g k)) ∧ Ints W ov owners ∧ Ints W wv who ∧ W.cell? ⟨pb, 0, none⟩ = some rv ∧ W.cell? ⟨pb, 1, none⟩ = some ov ∧ W.cell? ⟨wb, 0, none⟩ = some wv) :
    Iterates4 Try.prog 151 #[.pointer (some ⟨pb, 0, none⟩), .pointer (some ⟨wb, 0, none⟩)] (ownL owners who rows.length).length (fun j => #[.int .i64 ((ownL owners who rows.length).getD j 0), g ((ownL owners who rows.length).getD j 0)]) I := by
  subst hrv
  intro ll J Jx W hJ hA hY h0
  obtain ⟨-, hO0, hW0, c0, -, -⟩ := hF 0 W (hJ 0 W h0)
  obtain ⟨al, cl, rfl, -⟩ := id hO0
  obtain ⟨aw, cw, rfl, -⟩ := id hW0
  have HF := Lib.hid hF
  have HY := Lib.hid hY
  have HA := Lib.hid hA
  have HS := Lib.hid hs
  have HL := Lib.hid hlen
  refine callsIn_of_wp Try.func151 rfl trivial ?_ rfl
  simp only [Try.ntmps151, List.size_toArray, List.length_cons, List.length_nil, Nat.reduceAdd, Nat.reduceSub, Array.replicate_succ, Array.replicate_zero, List.push_toArray, List.append_toArray, List.nil_append, List.cons_append]
  clear hO0 hW0 hF hY hA hs hlen
  gi_wp2
  gi_loopw [4, 5, 6, 7, 11] (fun _ _ _ _ i wr => ∃ j : Nat, j ≤ rows.length ∧ i = .int .i64 j ∧ J (ownL owners who j).length wr) (fun _ _ _ _ i _ => rows.length - (intOf i).toNat)
  case atStart => exact ⟨0, Nat.zero_le _, rfl, h0⟩
  case round =>
    obtain ⟨j, hj, rfl, hJj⟩ := hrel
    by_cases hlt : j < rows.length
    · obtain ⟨hg, hO, hWm, z0, z1, zw⟩ := HF.out _ wr (hJ _ wr hJj)
      obtain ⟨b, off, rfl, y0⟩ := hg j hlt
      obtain ⟨hr64, b2, o2, n2, k2, e2, y2⟩ := hO.get (k := j) (by rw [HL.out]; exact hlt)
      simp only [Value.slice.injEq] at e2
      obtain ⟨rfl, -, -⟩ := e2
      have HBS := Lib.hid (fun x W h => bsearch_any (.slice aw who.length cw) who x W h HS.out hwl)
      have HWD := Lib.hid (hWm.below ((Below.refl wr.heap.size wr).drew))
      obtain ⟨gx, gn, gc, hgj⟩ := hgs j
      have HGJ := Lib.hid hgj
      rw [hgj] at y0
      have i0 : 0 ≤ (j : Int) := by omega
      have i1 : (j : Int) < (rows.length : Int) := by omega
      have i2 : (j : Int) < (owners.length : Int) := by have := HL.out; omega
      obtain ⟨x, hx⟩ : ∃ x, x = nth owners j := ⟨_, rfl⟩
      rw [← hx] at y2 hr64
      have HX := Lib.hid hx
      have HJJ := Lib.hid hJj
      clear hg hO hWm hgj hx hJj
      gi_wp2
      refine wpIn_wide.2 ?_
      go_region_held3 (fun w' => w'.cell? ⟨pb, 1, none⟩ = some (.slice (some ⟨b2, o2, none⟩) owners.length cl) ∧ w'.cell? ⟨wb, 0, none⟩ = some (.slice aw who.length cw) ∧ w'.cell? ⟨b2, o2 + j, none⟩ = some (.int .i64 x)) (first | go_keep | exact ⟨t1, t2, t3⟩)
        (first
          | (go_at_call 152; (with_reducible refine (HBS.out x _ HWD.out).mono ?_); rintro e w6 ⟨⟨ix, rfl⟩, hb6⟩; have hb7 := ((Below.refl wr.heap.size wr).drew).trans hb6; have HB7 := Lib.hid hb7; have t1 := below_cell hb7 z1; have t2 := below_cell hb7 zw; have t3 := below_cell hb7 y2; clear hb6 hb7))
      by_cases hm : x ∈ who
      · have hd : decide (x ∈ who) = true := decide_eq_true hm
        obtain ⟨hgn, hcn⟩ := ownL_at (owners := owners) (who := who) hlt (by rw [← HX.out]; exact hm)
        have HN := Lib.hid (show (ownL owners who (j + 1)).length = (ownL owners who j).length + 1 by rw [ownL_yes (by rw [← HX.out]; exact hm)]; simp)
        obtain ⟨fn, tmps, assign, body, hy, hR⟩ := HY.out _ w6 (HA.out _ wr w6 HJJ.out HB7.out) hcn
        simp only [hgn] at hy
        rw [HGJ.out] at hy
        clear hm hgn hcn
        rw [hd]
        gi_wp2
        refine ⟨rfl, hR.mono ?_⟩
        rintro e W3 (⟨rfl, hJ3⟩ | ⟨rfl, hJx3⟩)
        · gi_wp2
          go_roundw
          case rel => exact ⟨j + 1, by omega, by go_num, by rw [HN.out]; exact hJ3⟩
          case measure => simp [intOf]; omega
        · gi_wp2
          refine bodyPost_ret (results_none rfl _ _ _) rfl ?_
          exact ⟨⟨_, rfl⟩, .inr ⟨_, by have := (ownL_at (owners := owners) (who := who) hlt (by rw [← HX.out]; exact of_decide_eq_true hd)).2; omega, hJx3⟩⟩
      · have hd : decide (x ∈ who) = false := decide_eq_false hm
        have HN := Lib.hid (show (ownL owners who (j + 1)).length = (ownL owners who j).length by rw [ownL_no (by rw [← HX.out]; exact hm)])
        have HJ6 := Lib.hid (HA.out _ wr w6 HJJ.out HB7.out)
        rw [hd]
        gi_wp2
        refine ⟨fun _ h => (by cases h), ?_⟩
        gi_wp2
        go_roundw
        case rel => exact ⟨j + 1, by omega, by go_num, by rw [HN.out]; exact HJ6.out⟩
        case measure => simp [intOf]; omega
    · obtain rfl : j = rows.length := by omega
      gi_wp2
      go_end0
      exact ⟨⟨_, rfl⟩, .inl hJj⟩

set_option maxRecDepth 100000 in
theorem own1_goes : Goes Try.prog 151 := goes_of Try.func151 (by kernel_rfl) rfl

set_option maxRecDepth 100000 in
set_option maxHeartbeats 1000000 in
theorem own_any (rv ov wv : Value) (w : World) (hr : ∃ a n c, rv = .slice a n c) (ho : ∃ a n c, ov = .slice a n c) (hl : ∃ a n c, wv = .slice a n c) :
    Calls Try.prog 129 #[.agg #[rv, ov], wv] w fun e w' =>
      e = .returned (.func (.func 151) #[] #[.pointer (some ⟨w.heap.size, 0, none⟩), .pointer (some ⟨w.heap.size + 1, 0, none⟩)]) ∧ w' = (w.alloc (.cells #[rv, ov] 25)).alloc (.cells #[wv] 23) := by
  obtain ⟨a, n, c, rfl⟩ := hr
  obtain ⟨a2, n2, c2, rfl⟩ := ho
  obtain ⟨a3, n3, c3, rfl⟩ := hl
  have hmf : ∀ (fn : Fn) (first cap : Array Value) (w : World), (Instr.makeFunc fn first cap).run Try.prog w = .ok (.func fn first cap) w := fun _ _ _ _ => rfl
  go_enter Try.func129, Try.ntmps129
  go_wp2_with fail
  go_ret
  exact ⟨rfl, rfl⟩

end Go.Proofs.Ytnbkbnbmmkfckaa
