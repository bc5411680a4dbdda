/- slices.BinarySearch of a list that rises. Package program: the rows of people. Package program: question, where it refuses. Two rows of a call's own, side by side, each in a variable. -/
import Derived.Test.YtggnipkfliompaaGreatDoorMDeaA
import Derived.Test.YtggnipkfliompaaGreatDoorMLinJ
import Derived.Test.YtggnipkfliompaaGreatDoorMKgT
import Derived.Test.YtggnipkfliompaaGreatDoorMDeaL
import Derived.Test.YtggnipkfliompaaGreatDoorMLinP
import Derived.Test.YtggnipkfliompaaGreatDoorMLaE
import Derived.Test.YtggnipkfliompaaGreatDoorMRegL
import Derived.Deep.RegionLaw
import Derived.Deep.AppendLies
set_option maxHeartbeats 8000000
set_option maxRecDepth 100000
namespace Go.Proofs.YtggnipkfliompaaGreatDoor
open Go.RowKit
theorem cnan_any (x : Int) (w : World) : Calls Tryz.prog 239 #[.int .i64 x] w fun r w' => r = .returned (.bool false) ∧ w = w' := by
 have h1 : (x != x) = false := by simp
 go_enter Tryz.func239, Tryz.ntmps239
 go_wp2_with fail
 go_ret
 exact ⟨rfl, rfl⟩
theorem snan_any (x : Int) (w : World) : Calls Tryz.prog 227 #[.int .i64 x] w fun r w' => r = .returned (.bool false) ∧ w = w' := by
 have h1 : (x != x) = false := by simp
 go_enter Tryz.func227, Tryz.ntmps227
 go_wp2_with fail
 go_ret
 exact ⟨rfl, rfl⟩
theorem cless_any (x y : Int) (w : World) : Calls Tryz.prog 226 #[.int .i64 x, .int .i64 y] w fun r w' => r = .returned (.bool (decide (x < y))) ∧ w = w' := by
 go_enter Tryz.func226, Tryz.ntmps226
 go_wp2_with fail
 with_reducible refine (cnan_any x _).mono ?_
 rintro e w' ⟨rfl, rfl⟩
 go_wp2_with fail
 go_ret
 exact ⟨rfl, rfl⟩
theorem bsearch_any (v : Value) (zs : List Int) (x : Int) (w : World) (hI : Ints w v zs) (hs : zs.Pairwise (· < ·)) (hl : zs.length ≤ 1000000000) :
  Calls Tryz.prog 208 #[v, .int .i64 x] w fun r w' => (∃ i : Nat, r = .returned (.tuple #[.int .i64 i, .bool (decide (x ∈ zs))])) ∧ Below w.heap.size w w' := by
 have HS := Lib.hid (List.pairwise_iff_getElem.1 hs)
 have HI := Lib.hid hI
 obtain ⟨a, cap, rfl, -, -, -, hk⟩ := hI
 have HK := Lib.hid hk
 clear hs hk
 go_enter Tryz.func208, Tryz.ntmps208
 go_wp2_with fail
 go_loopw [7, 8, 9] (fun i j h W => ∃ p q : Nat, p ≤ q ∧ q ≤ zs.length ∧ i = .int .i64 p ∧ j = .int .i64 q ∧ Hid (∀ m (hm : m < zs.length), m < p → zs[m] < x) ∧ Hid (∀ m (hm : m < zs.length), q ≤ m → x ≤ zs[m]) ∧ Below w.heap.size w W) (fun i j _ _ => (intOf j).toNat - (intOf i).toNat)
 case atStart => exact ⟨0, zs.length, Nat.zero_le _, Nat.le_refl _, rfl, rfl, Lib.hid (fun m _ h => absurd h (Nat.not_lt_zero _)), Lib.hid (fun m h1 h2 => absurd h1 (by omega)), Below.refl _ _⟩
 case round =>
  obtain ⟨p, q, hpq, hql, rfl, rfl, HA, HB, hb⟩ := hrel
  by_cases hlt : p < q
  ·have h0 : (p : Int) < (q : Int) := by omega
   have h1 : IntKind.i64.wrap ((p : Int) + (q : Int)) = (p : Int) + (q : Int) := IntWalk.i64_in _ (by omega)
   have h2 : IntKind.u64.wrap ((p : Int) + (q : Int)) = (p : Int) + (q : Int) := IntWalk.u64_in _ (by omega)
   obtain ⟨h, hh⟩ : ∃ h : Nat, h = (p + q) / 2 := ⟨_, rfl⟩
   have h3 : ((p : Int) + (q : Int)) / 2 = (h : Int) := by omega
   have h4 : h < q := by omega
   have h5 : p ≤ h := by omega
   have h6 : h < zs.length := by omega
   obtain ⟨b, off, rfl, hc⟩ := HK.out h h6
   have hc2 := below_cell hb hc
   have h7 : (0 : Int) ≤ (h : Int) := by omega
   have h8 : (h : Int) < (zs.length : Int) := by omega
   obtain ⟨z, hz⟩ : ∃ z, z = zs[h] := ⟨_, rfl⟩
   rw [← hz] at hc2
   have HZ := Lib.hid hz
   clear hh hz hc
   by_cases hzx : z < x
   ·have hd : decide (z < x) = true := decide_eq_true hzx
    clear hzx
    go_wp2_with fail
    with_reducible refine (cless_any z x _).mono ?_
    rintro e w' ⟨rfl, rfl⟩
    go_wp2_with fail
    go_roundw
    case rel => exact ⟨h + 1, q, by omega, hql, by go_num, rfl, Lib.hid (fun m hm hlt2 => by
     have h9 : zs[h] < x := HZ.out ▸ of_decide_eq_true hd
     by_cases e : m = h
     ·subst e; exact h9
     ·have := HS.out m h hm h6 (by omega); omega), HB, hb⟩
    case measure => simp [intOf]; omega
   ·have hd : decide (z < x) = false := decide_eq_false hzx
    clear hzx
    go_wp2_with fail
    with_reducible refine (cless_any z x _).mono ?_
    rintro e w' ⟨rfl, rfl⟩
    go_wp2_with fail
    go_roundw
    case rel => exact ⟨p, h, h5, by omega, rfl, rfl, HA, Lib.hid (fun m hm hge => by
     have h9 : ¬ zs[h] < x := HZ.out ▸ of_decide_eq_false hd
     by_cases e : m = h
     ·subst e; omega
     ·have := HS.out h m h6 hm (by omega); omega), hb⟩
    case measure => simp [intOf]; omega
  ·obtain rfl : p = q := by omega
   have h0 : decide ((p : Int) < (p : Int)) = false := by simp
   by_cases hp : p < zs.length
   ·obtain ⟨b, off, rfl, hc⟩ := HK.out p hp
    have hc2 := below_cell hb hc
    have h7 : (0 : Int) ≤ (p : Int) := by omega
    have h8 : (p : Int) < (zs.length : Int) := by omega
    have HM : Hid (decide (x ∈ zs) = (zs[p] == x)) := Lib.hid (by
     by_cases e : zs[p] = x
     ·rw [decide_eq_true (e ▸ List.getElem_mem hp), beq_iff_eq.2 e]
     ·rw [beq_eq_false_iff_ne.2 e, decide_eq_false]
      intro hm
      obtain ⟨m, hml, rfl⟩ := List.mem_iff_getElem.1 hm
      rcases Nat.lt_trichotomy m p with h | h | h
      ·have := HA.out m hml h; omega
      ·subst h; exact e rfl
      ·have h1 := HB.out p hp (Nat.le_refl _); have h2 := HS.out p m hp hml h; omega)
    obtain ⟨z, hz⟩ : ∃ z, z = zs[p] := ⟨_, rfl⟩
    rw [← hz] at hc2 HM
    clear hz hc
    by_cases hzx : z = x
    ·have hd : (z == x) = true := beq_iff_eq.2 hzx
     rw [hd] at HM
     subst hzx
     go_wp2_with fail
     go_ret2
     exact ⟨⟨p, by rw [HM.out]; rfl⟩, hb⟩
    ·have hd : (z == x) = false := beq_eq_false_iff_ne.2 hzx
     rw [hd] at HM
     go_wp2_with fail
     with_reducible refine (snan_any z _).mono ?_
     rintro e w' ⟨rfl, rfl⟩
     go_wp2_with fail
     go_ret2
     exact ⟨⟨p, by rw [HM.out]; rfl⟩, hb⟩
   ·have h8 : decide ((p : Int) < (zs.length : Int)) = false := decide_eq_false (by omega)
    have h9 : decide (p < zs.length) = false := decide_eq_false (by omega)
    have HM : Hid (decide (x ∈ zs) = false) := Lib.hid (decide_eq_false (fun hm => by
     obtain ⟨m, hml, rfl⟩ := List.mem_iff_getElem.1 hm
     have := HA.out m hml (by omega); omega))
    go_wp2_with fail
    go_ret2
    exact ⟨⟨p, by rw [HM.out]; rfl⟩, hb⟩
end Go.Proofs.YtggnipkfliompaaGreatDoor
namespace Go.Proofs.YtggnipkfliompaaGreatDoor
open Go.RowKit FP
attribute [local go_sem] Oper.semAt_some
def ownL (owners who : List Int) (n : Nat) : List Nat := (List.range n).filter (fun i => decide (nth owners i ∈ who))
theorem ownL_yes {owners who : List Int} {n : Nat} (h : nth owners n ∈ who) : ownL owners who (n + 1) = ownL owners who n ++ [n] := by
 unfold ownL; rw [List.range_succ, List.filter_append]; simp [h]
theorem ownL_no {owners who : List Int} {n : Nat} (h : ¬ nth owners n ∈ who) : ownL owners who (n + 1) = ownL owners who n := by
 unfold ownL; rw [List.range_succ, List.filter_append]; simp [h]
theorem ownL_split (owners who : List Int) {n N : Nat} (h : n ≤ N) : ∃ r, ownL owners who N = ownL owners who n ++ r := by
 obtain ⟨k, rfl⟩ : ∃ k, N = n + k := ⟨N - n, by omega⟩
 unfold ownL
 rw [List.range_add, List.filter_append]
 exact ⟨_, rfl⟩
theorem ownL_at {owners who : List Int} {n N : Nat} (h : n < N) (hm : nth owners n ∈ who) : (ownL owners who N).getD (ownL owners who n).length 0 = n ∧ (ownL owners who n).length < (ownL owners who N).length := by
 obtain ⟨r, hr⟩ := ownL_split owners who (show n + 1 ≤ N by omega)
 rw [ownL_yes hm] at hr
 rw [hr]
 refine ⟨?_, by simp⟩
 rw [List.append_assoc, List.getD_eq_getElem?_getD, List.getElem?_append_right (Nat.le_refl _)]
 simp
theorem ownL_lt {owners who : List Int} {N i : Nat} (h : i ∈ ownL owners who N) : i < N ∧ nth owners i ∈ who := by
 unfold ownL at h
 simpa using h
theorem own1_iterates (pb wb : Nat) (rv ov wv : Value) (rows : List (List Int)) (owners who : List Int) (a : Option Addr) (cap : Nat) (g : Nat → Value) (hrv : rv = .slice a rows.length cap) (hgs : ∀ j, ∃ x n c, g j = .slice x n c) (hlen : owners.length = rows.length) (hfew : rows.length ≤ 1000000)
  (hs : who.Pairwise (· < ·)) (hwl : who.length ≤ 1000000000) (I : Nat → World → Prop)
  (hF : ∀ j W, I j W → (∀ k, k < rows.length → ∃ b off, a = some ⟨b, off, none⟩ ∧ W.cell? ⟨b, off + k, none⟩ = some (g k)) ∧ Ints W ov owners ∧ Ints W wv who ∧ W.cell? ⟨pb, 0, none⟩ = some rv ∧ W.cell? ⟨pb, 1, none⟩ = some ov ∧ W.cell? ⟨wb, 0, none⟩ = some wv) :
  Iterates4 Tryz.prog 207 #[.pointer (some ⟨pb, 0, none⟩), .pointer (some ⟨wb, 0, none⟩)] (ownL owners who rows.length).length (fun j => #[.int .i64 ((ownL owners who rows.length).getD j 0), g ((ownL owners who rows.length).getD j 0)]) I := by
 subst hrv
 intro ll J Jx W hJ hA hY h0
 obtain ⟨-, hO0, hW0, c0, -, -⟩ := hF 0 W (hJ 0 W h0)
 obtain ⟨al, cl, rfl, -⟩ := id hO0
 obtain ⟨aw, cw, rfl, -⟩ := id hW0
 have HF := Lib.hid hF
 have HY := Lib.hid hY
 have HA := Lib.hid hA
 have HS := Lib.hid hs
 have HL := Lib.hid hlen
 refine callsIn_of_wp Tryz.func207 rfl trivial ?_ rfl
 simp only [Tryz.ntmps207, List.size_toArray, List.length_cons, List.length_nil, Nat.reduceAdd, Nat.reduceSub, Array.replicate_succ, Array.replicate_zero, List.push_toArray, List.append_toArray, List.nil_append, List.cons_append]
 clear hO0 hW0 hF hY hA hs hlen
 gi_wp2
 gi_loopw [4, 5, 6, 7, 11] (fun _ _ _ _ i wr => ∃ j : Nat, j ≤ rows.length ∧ i = .int .i64 j ∧ J (ownL owners who j).length wr) (fun _ _ _ _ i _ => rows.length - (intOf i).toNat)
 case atStart => exact ⟨0, Nat.zero_le _, rfl, h0⟩
 case round =>
  obtain ⟨j, hj, rfl, hJj⟩ := hrel
  by_cases hlt : j < rows.length
  ·obtain ⟨hg, hO, hWm, z0, z1, zw⟩ := HF.out _ wr (hJ _ wr hJj)
   obtain ⟨b, off, rfl, y0⟩ := hg j hlt
   obtain ⟨hr64, b2, o2, n2, k2, e2, y2⟩ := hO.get (k := j) (by rw [HL.out]; exact hlt)
   simp only [Value.slice.injEq] at e2
   obtain ⟨rfl, -, -⟩ := e2
   have HBS := Lib.hid (fun x W h => bsearch_any (.slice aw who.length cw) who x W h HS.out hwl)
   have HWD := Lib.hid (hWm.below ((Below.refl wr.heap.size wr).drew))
   obtain ⟨gx, gn, gc, hgj⟩ := hgs j
   have HGJ := Lib.hid hgj
   rw [hgj] at y0
   have i0 : 0 ≤ (j : Int) := by omega
   have i1 : (j : Int) < (rows.length : Int) := by omega
   have i2 : (j : Int) < (owners.length : Int) := by have := HL.out; omega
   obtain ⟨x, hx⟩ : ∃ x, x = nth owners j := ⟨_, rfl⟩
   rw [← hx] at y2 hr64
   have HX := Lib.hid hx
   have HJJ := Lib.hid hJj
   clear hg hO hWm hgj hx hJj
   gi_wp2
   refine wpIn_wide.2 ?_
   go_region_held3 (fun w' => w'.cell? ⟨pb, 1, none⟩ = some (.slice (some ⟨b2, o2, none⟩) owners.length cl) ∧ w'.cell? ⟨wb, 0, none⟩ = some (.slice aw who.length cw) ∧ w'.cell? ⟨b2, o2 + j, none⟩ = some (.int .i64 x)) (first | go_keep | exact ⟨t1, t2, t3⟩)
    (first
     | (go_at_call 208; (with_reducible refine (HBS.out x _ HWD.out).mono ?_); rintro e w6 ⟨⟨ix, rfl⟩, hb6⟩; have hb7 := ((Below.refl wr.heap.size wr).drew).trans hb6; have HB7 := Lib.hid hb7; have t1 := below_cell hb7 z1; have t2 := below_cell hb7 zw; have t3 := below_cell hb7 y2; clear hb6 hb7))
   by_cases hm : x ∈ who
   ·have hd : decide (x ∈ who) = true := decide_eq_true hm
    obtain ⟨hgn, hcn⟩ := ownL_at (owners := owners) (who := who) hlt (by rw [← HX.out]; exact hm)
    have HN := Lib.hid (show (ownL owners who (j + 1)).length = (ownL owners who j).length + 1 by rw [ownL_yes (by rw [← HX.out]; exact hm)]; simp)
    obtain ⟨fn, tmps, assign, body, hy, hR⟩ := HY.out _ w6 (HA.out _ wr w6 HJJ.out HB7.out) hcn
    simp only [hgn] at hy
    rw [HGJ.out] at hy
    clear hm hgn hcn
    rw [hd]
    gi_wp2
    refine ⟨rfl, hR.mono ?_⟩
    rintro e W3 (⟨rfl, hJ3⟩ | ⟨rfl, hJx3⟩)
    ·gi_wp2
     go_roundw
     case rel => exact ⟨j + 1, by omega, by go_num, by rw [HN.out]; exact hJ3⟩
     case measure => simp [intOf]; omega
    ·gi_wp2
     refine bodyPost_ret (results_none rfl _ _ _) rfl ?_
     exact ⟨⟨_, rfl⟩, .inr ⟨_, by have := (ownL_at (owners := owners) (who := who) hlt (by rw [← HX.out]; exact of_decide_eq_true hd)).2; omega, hJx3⟩⟩
   ·have hd : decide (x ∈ who) = false := decide_eq_false hm
    have HN := Lib.hid (show (ownL owners who (j + 1)).length = (ownL owners who j).length by rw [ownL_no (by rw [← HX.out]; exact hm)])
    have HJ6 := Lib.hid (HA.out _ wr w6 HJJ.out HB7.out)
    rw [hd]
    gi_wp2
    refine ⟨fun _ h => (by cases h), ?_⟩
    gi_wp2
    go_roundw
    case rel => exact ⟨j + 1, by omega, by go_num, by rw [HN.out]; exact HJ6.out⟩
    case measure => simp [intOf]; omega
  ·obtain rfl : j = rows.length := by omega
   gi_wp2
   go_end0
   exact ⟨⟨_, rfl⟩, .inl hJj⟩
theorem own1_goes : Goes Tryz.prog 207 := goes_of Tryz.func207 (by kernel_rfl) rfl
theorem own_any (rv ov wv : Value) (w : World) (hr : ∃ a n c, rv = .slice a n c) (ho : ∃ a n c, ov = .slice a n c) (hl : ∃ a n c, wv = .slice a n c) :
  Calls Tryz.prog 177 #[.agg #[rv, ov], wv] w fun e w' =>
   e = .returned (.func (.func 207) #[] #[.pointer (some ⟨w.heap.size, 0, none⟩), .pointer (some ⟨w.heap.size + 1, 0, none⟩)]) ∧ w' = (w.alloc (.cells #[rv, ov] 25)).alloc (.cells #[wv] 23) := by
 obtain ⟨a, n, c, rfl⟩ := hr
 obtain ⟨a2, n2, c2, rfl⟩ := ho
 obtain ⟨a3, n3, c3, rfl⟩ := hl
 have hmf : ∀ (fn : Fn) (first cap : Array Value) (w : World), (Instr.makeFunc fn first cap).run Tryz.prog w = .ok (.func fn first cap) w := fun _ _ _ _ => rfl
 go_enter Tryz.func177, Tryz.ntmps177
 go_wp2_with fail
 go_ret
 exact ⟨rfl, rfl⟩
end Go.Proofs.YtggnipkfliompaaGreatDoor
namespace Go.Proofs.YtggnipkfliompaaGreatDoor
open Go.RowKit FP
def peopleB (last : Int) : List Int → Bool
 | [] => true
 | n :: l => inB n 0 63 && (decide (last < n) && peopleB n l)
def lastP (last : Int) (l : List Int) : Int := l.getLast?.getD last
theorem peopleB_snoc {p : Int} : ∀ {l : List Int} {last : Int}, peopleB last (l ++ [p]) = (peopleB last l && (inB p 0 63 && decide (lastP last l < p)))
 | [], last => by
  simp [peopleB, lastP]
  rfl
 | q :: l, last => by
  rw [List.cons_append, peopleB, peopleB_snoc, peopleB]
  have : lastP q l = lastP last (q :: l) := by
   unfold lastP
   cases l with
   | nil => rfl
   | cons a t => rw [List.getLast?_cons_cons]; simp [List.getLast?_cons]
  rw [this]
  cases inB q 0 63 <;> cases decide (last < q) <;> simp
theorem lastP_snoc (last : Int) (l : List Int) (p : Int) : lastP last (l ++ [p]) = p := by unfold lastP; simp
theorem lastP_take {l : List Int} {last : Int} {k : Nat} (hk : k < l.length) : lastP last (l.take (k + 1)) = l[k] := by
 rw [List.take_succ_eq_append_getElem hk, lastP_snoc]
theorem peopleB_take {l : List Int} {last : Int} {k : Nat} (hk : k < l.length) : peopleB last (l.take (k + 1)) = (peopleB last (l.take k) && (inB l[k] 0 63 && decide (lastP last (l.take k) < l[k]))) := by
 rw [List.take_succ_eq_append_getElem hk, peopleB_snoc]
theorem peopleB_front : ∀ {l : List Int} {last : Int}, peopleB last l = true → ∀ k, peopleB last (l.take k) = true
 | [], _, _, k => by rw [List.take_nil]; rfl
 | p :: l, last, h, 0 => rfl
 | p :: l, last, h, k + 1 => by
  rw [List.take_succ_cons]
  unfold peopleB at h ⊢
  simp only [Bool.and_eq_true] at h ⊢
  exact ⟨h.1, h.2.1, peopleB_front h.2.2 k⟩
theorem peopleB_bad {l : List Int} {last : Int} {k : Nat} (h : peopleB last (l.take (k + 1)) = false) : peopleB last l = false := by
 cases e : peopleB last l with
 | false => rfl
 | true => rw [peopleB_front e] at h; cases h
theorem peopleB_all : ∀ {l : List Int} {last : Int}, peopleB last l = true → (∀ p ∈ l, 0 ≤ p ∧ p ≤ 63) ∧ (∀ p ∈ l, last < p) ∧ l.Pairwise (· < ·) ∧ (l ≠ [] → last + l.length ≤ 63)
 | [], _, _ => ⟨by simp, by simp, List.Pairwise.nil, fun h => absurd rfl h⟩
 | p :: l, last, h => by
  unfold peopleB at h
  simp only [Bool.and_eq_true, decide_eq_true_eq] at h
  obtain ⟨h1, h2, h3⟩ := h
  obtain ⟨i1, i2, i3, i4⟩ := peopleB_all h3
  have h4 := inB_iff.1 h1
  refine ⟨fun q hq => ?_, fun q hq => ?_, List.pairwise_cons.2 ⟨i2, i3⟩, fun _ => ?_⟩
  ·rcases List.mem_cons.1 hq with rfl | hq
   ·exact h4
   ·exact i1 q hq
  ·rcases List.mem_cons.1 hq with rfl | hq
   ·exact h2
   ·have := i2 q hq; omega
  ·by_cases hl : l = []
   ·subst hl; simp; omega
   ·have := i4 hl; rw [List.length_cons]; omega
theorem peopleB_len {l : List Int} (h : peopleB (-1) l = true) : l.length ≤ 64 := by
 by_cases hl : l = []
 ·subst hl; simp
 ·have := (peopleB_all h).2.2.2 hl; omega
def questE (rows : List (List Int)) (owners who : List Int) : Int := if progE rows owners ≠ 0 then progE rows owners else if peopleB (-1) who = true then 0 else 1
theorem box_quest (w : World) (u v : Value) : ∃ W, W = ((w.alloc (.cells #[u, v] 25)).alloc (.cells #[.slice none 0 0] 22)).alloc (.cells #[.slice none 0 0] 23) ∧ Below w.heap.size w W ∧ W.heap.size = w.heap.size + 3 ∧ W.heap[w.heap.size]? = some (.cells #[u, v] 25 (0, 0)) ∧ W.heap[w.heap.size + 1]? = some (.cells #[.slice none 0 0] 22 (0, 0)) ∧ W.heap[w.heap.size + 1 + 1]? = some (.cells #[.slice none 0 0] 23 (0, 0)) := by
 obtain ⟨A, hA⟩ : ∃ A, A = w.alloc (.cells #[u, v] 25) := ⟨_, rfl⟩
 obtain ⟨B, hB⟩ : ∃ B, B = A.alloc (.cells #[.slice none 0 0] 22) := ⟨_, rfl⟩
 have sA : A.heap.size = w.heap.size + 1 := by rw [hA]; simp
 have sB : B.heap.size = w.heap.size + 1 + 1 := by rw [hB]; simp [sA]
 have a0 : A.heap[w.heap.size]? = some (.cells #[u, v] 25 (0, 0)) := by rw [hA]; exact World.alloc_heap_new _ _
 have b1 : B.heap[w.heap.size + 1]? = some (.cells #[.slice none 0 0] 22 (0, 0)) := by rw [hB, ← sA]; exact World.alloc_heap_new _ _
 have b0 : B.heap[w.heap.size]? = some (.cells #[u, v] 25 (0, 0)) := by rw [hB, Below.heap_alloc _ _ _ (by omega)]; exact a0
 refine ⟨_, rfl, ?_, ?_, ?_, ?_, ?_⟩
 ·exact (((Below.refl _ _).alloc (Nat.le_refl _) _).alloc (by simp) _).alloc (by simp; omega) _
 ·simp
 ·rw [← hA, ← hB, Below.heap_alloc _ _ _ (by omega)]; exact b0
 ·rw [← hA, ← hB, Below.heap_alloc _ _ _ (by omega)]; exact b1
 ·rw [← hA, ← hB, ← sB]; exact World.alloc_heap_new _ _
theorem quest_no (rv ov wv : Value) (rows : List (List Int)) (owners who : List Int) (w : World) (hR : Rows2 w rv rows) (hO : Ints w ov owners) (hW : Ints w wv who) (he : questE rows owners who ≠ 0) :
  Calls Tryz.prog 116 #[.agg #[rv, ov], wv] w fun r w' => r = .returned (.tuple #[.slice none 0 0, .slice none 0 0, .slice none 0 0, .int .i64 (questE rows owners who)]) ∧ Below w.heap.size w w' := by
 obtain ⟨W1, hW1, hb1, hz1, hr0, hr1, hr2⟩ := box_quest w rv ov
 have HR := Lib.hid (hR.below hb1)
 have HO := Lib.hid (hO.below hb1)
 have HWH := Lib.hid (hW.below hb1)
 have HPC := Lib.hid (pCheck_any rv ov rows owners W1 HR.out HO.out)
 obtain ⟨a, cap, rfl, -, hlen, -⟩ := id hR
 obtain ⟨a2, cap2, rfl, -, hlen2, -⟩ := id hO
 obtain ⟨a3, cap3, rfl, -, hlen3, -⟩ := id hW
 have c0 : W1.cell? ⟨w.heap.size, 0, none⟩ = some (.slice a rows.length cap) := row_cell hr0 rfl
 have c1 : W1.cell? ⟨w.heap.size, 1, none⟩ = some (.slice a2 owners.length cap2) := row_cell hr0 rfl
 have HB := Lib.hid hb1
 have HW1 := Lib.hid hW1
 have HL : Hid (∀ (W : World) (e : Int), Below w.heap.size w W → w.heap.size + 3 ≤ W.heap.size → e = questE rows owners who → W.heap[w.heap.size + 1]? = some (.cells #[.slice none 0 0] 22 (0, 0)) → W.heap[w.heap.size + 1 + 1]? = some (.cells #[.slice none 0 0] 23 (0, 0)) → Below w.heap.size w ((W.setCell ⟨w.heap.size + 1, 0, none⟩ (.slice none 0 0)).setCell ⟨w.heap.size + 1 + 1, 0, none⟩ (.slice none 0 0)) ∧ ((W.setCell ⟨w.heap.size + 1, 0, none⟩ (.slice none 0 0)).setCell ⟨w.heap.size + 1 + 1, 0, none⟩ (.slice none 0 0)).cell? ⟨w.heap.size + 1, 0, none⟩ = some (.slice none 0 0) ∧ ((W.setCell ⟨w.heap.size + 1, 0, none⟩ (.slice none 0 0)).setCell ⟨w.heap.size + 1 + 1, 0, none⟩ (.slice none 0 0)).cell? ⟨w.heap.size + 1 + 1, 0, none⟩ = some (.slice none 0 0)) := Lib.hid (by
  intro W e hb hs he h1 h2
  refine ⟨(hb.setCell (by simp) _).setCell (by simp; omega) _, ?_, ?_⟩
  ·rw [World.cell?_setCell_far _ _ _ _ (by simp)]; exact World.cell?_setCell_same' _ _ _ (by rw [row_cell (k := 0) h1 rfl]; rfl)
  ·refine World.cell?_setCell_same' _ _ _ ?_
   rw [World.cell?_setCell_far _ _ _ _ (by simp), row_cell (k := 0) h2 rfl]; rfl)
 clear hR hO hW hr0 hW1 hb1
 by_cases hp : progE rows owners = 0
 ·have HE := Lib.hid (show questE rows owners who = if peopleB (-1) who = true then 0 else 1 by unfold questE; rw [if_neg (by simp [hp])])
  have HN := Lib.hid (show peopleB (-1) who = false by
   cases e : peopleB (-1) who with
   | false => rfl
   | true => rw [HE.out, e] at he; exact absurd rfl he)
  have HV := Lib.hid (show (1 : Int) = questE rows owners who by rw [HE.out, HN.out]; rfl)
  rw [hp] at HPC
  clear hp he
  refine calls_of_range Tryz.func116 rfl ?_
  simp only [Tryz.ntmps116, List.size_toArray, List.length_cons, List.length_nil, Nat.reduceAdd, Nat.reduceSub, Array.replicate_succ, Array.replicate_zero, List.push_toArray, List.append_toArray, List.nil_append, List.cons_append]
  go_wp2_with fail
  rw [← HW1.out]
  refine HPC.out.mono ?_
  rintro r w2 ⟨rfl, hb2⟩
  replace hr1 := (hb2.block _ (by omega)).trans hr1
  replace hr2 := (hb2.block _ (by omega)).trans hr2
  have hz2 := Nat.le_trans (Nat.le_of_eq hz1.symm) hb2.size
  replace c0 := below_cell hb2 c0
  replace c1 := below_cell hb2 c1
  replace HR := Lib.hid (HR.out.below hb2)
  replace HO := Lib.hid (HO.out.below hb2)
  replace HWH := Lib.hid (HWH.out.below hb2)
  replace HB := Lib.hid (HB.out.trans (hb2.mono HB.out.size))
  clear hb2
  clear HPC hz1
  go_wp2_with fail
  go_loopw [8, 10, 21] (fun last _ i W => ∃ k : Nat, k ≤ who.length ∧ i = .int .i64 k ∧ last = .int .i64 (lastP (-1) (who.take k)) ∧ Hid (peopleB (-1) (who.take k) = true) ∧ W = w2) (fun _ _ i _ => who.length - (intOf i).toNat)
  case atStart => exact ⟨0, Nat.zero_le _, rfl, rfl, Lib.hid rfl, rfl⟩
  case round =>
   obtain ⟨k, hkl, rfl, rfl, HS, rfl⟩ := hrel
   by_cases hlt : k < who.length
   ·obtain ⟨hr64, b, off, n1, k1, e1, q1⟩ := HWH.out.get hlt
    simp only [Value.slice.injEq] at e1
    obtain ⟨rfl, -, -⟩ := e1
    have HTK := Lib.hid (peopleB_take (last := -1) hlt)
    have HLT := Lib.hid (lastP_take (last := -1) hlt)
    have HBD := Lib.hid (fun h => peopleB_bad (l := who) (last := -1) (k := k) h)
    rw [← nth_at hlt] at HTK HLT
    have i0 : 0 ≤ (k : Int) := by omega
    have i1 : (k : Int) < (who.length : Int) := by omega
    generalize nth who k = x at *
    cases ex : inB x 0 63 with
    | false =>
     have x1 : wr.cell? ⟨w.heap.size + 1, 0, none⟩ = some (.slice none 0 0) := row_cell hr1 rfl
     have x2 : wr.cell? ⟨w.heap.size + 1 + 1, 0, none⟩ = some (.slice none 0 0) := row_cell hr2 rfl
     have f1 := row_free hr1 0
     have f2 := row_free hr2 0
     have HX := Lib.hid ex
     clear ex
     go_wp2_with fail
     with_reducible refine (pperson_any x _).mono ?_
     rintro e w3 ⟨rfl, rfl⟩
     rw [HX.out]
     go_wp2_with fail
     have hO := HL.out wr _ HB.out hz2 HV.out hr1 hr2
     refine leaves_marks3 (B := w.heap.size) (v := .tuple #[.slice none 0 0, .slice none 0 0, .slice none 0 0, .int .i64 1]) (fun W => W.cell? ⟨w.heap.size + 1, 0, none⟩ = some (.slice none 0 0) ∧ W.cell? ⟨w.heap.size + 1 + 1, 0, none⟩ = some (.slice none 0 0)) ?_ ?_ ?_ _ _ trivial hO.2 ⟨by rw [← HV.out], hO.1⟩
     ·rintro W1 ⟨h1, h2⟩
      simp [results, Tryz.results116, go_sem, h1, h2]
     ·exact fun W1 W2 h hs => ⟨sim_cell hs h.1, sim_cell hs h.2⟩
     ·rintro W1 W2 ⟨h1, h2⟩ hs
      exact ⟨h1, h2.trans (sim_below hs)⟩
    | true =>
     have HER := Lib.hid ex
     clear ex
     obtain ⟨la, hla⟩ : ∃ la, la = lastP (-1) (who.take k) := ⟨_, rfl⟩
     rw [← hla] at HTK
     have HLA := Lib.hid hla.symm
     by_cases hlast : la < x
     ·have hd : decide (x ≤ la) = false := decide_eq_false (by omega)
      have HNX : Hid (peopleB (-1) (who.take (k + 1)) = true) := Lib.hid (by rw [HTK.out, HS.out, HER.out, decide_eq_true hlast]; rfl)
      have hlast2 : lastP (-1) (who.take k) < x := by rw [← hla]; exact hlast
      clear hla
      go_wp2_with fail
      with_reducible refine (pperson_any x _).mono ?_
      rintro e w3 ⟨rfl, rfl⟩
      rw [HER.out]
      go_wp2_with fail
      go_roundw
      case rel => exact ⟨k + 1, by omega, by go_num, by rw [HLT.out], HNX, by trivial⟩
      case measure => simp [intOf]; omega
     ·have hlast2 : x ≤ lastP (-1) (who.take k) := by rw [← hla]; omega
      clear hla
      have x1 : wr.cell? ⟨w.heap.size + 1, 0, none⟩ = some (.slice none 0 0) := row_cell hr1 rfl
      have x2 : wr.cell? ⟨w.heap.size + 1 + 1, 0, none⟩ = some (.slice none 0 0) := row_cell hr2 rfl
      have f1 := row_free hr1 0
      have f2 := row_free hr2 0
      go_wp2_with fail
      with_reducible refine (pperson_any x _).mono ?_
      rintro e w3 ⟨rfl, rfl⟩
      rw [HER.out]
      go_wp2_with fail
      have hO := HL.out wr _ HB.out hz2 HV.out hr1 hr2
      refine leaves_marks3 (B := w.heap.size) (v := .tuple #[.slice none 0 0, .slice none 0 0, .slice none 0 0, .int .i64 1]) (fun W => W.cell? ⟨w.heap.size + 1, 0, none⟩ = some (.slice none 0 0) ∧ W.cell? ⟨w.heap.size + 1 + 1, 0, none⟩ = some (.slice none 0 0)) ?_ ?_ ?_ _ _ trivial hO.2 ⟨by rw [← HV.out], hO.1⟩
      ·rintro W1 ⟨h1, h2⟩
       simp [results, Tryz.results116, go_sem, h1, h2]
      ·exact fun W1 W2 h hs => ⟨sim_cell hs h.1, sim_cell hs h.2⟩
      ·rintro W1 W2 ⟨h1, h2⟩ hs
       exact ⟨h1, h2.trans (sim_below hs)⟩
   ·exfalso
    obtain rfl : k = who.length := by omega
    have h1 := HS.out
    rw [List.take_length, HN.out] at h1
    cases h1
 ·have HV := Lib.hid (show progE rows owners = questE rows owners who by unfold questE; rw [if_pos hp])
  have h2 : (progE rows owners != 0) = true := bne_iff_ne.2 hp
  clear he
  refine calls_of_range Tryz.func116 rfl ?_
  simp only [Tryz.ntmps116, List.size_toArray, List.length_cons, List.length_nil, Nat.reduceAdd, Nat.reduceSub, Array.replicate_succ, Array.replicate_zero, List.push_toArray, List.append_toArray, List.nil_append, List.cons_append]
  go_wp2_with fail
  rw [← HW1.out]
  refine HPC.out.mono ?_
  rintro r wr ⟨rfl, hb2⟩
  replace hr1 := (hb2.block _ (by omega)).trans hr1
  replace hr2 := (hb2.block _ (by omega)).trans hr2
  have hz2 := Nat.le_trans (Nat.le_of_eq hz1.symm) hb2.size
  replace c0 := below_cell hb2 c0
  replace c1 := below_cell hb2 c1
  replace HR := Lib.hid (HR.out.below hb2)
  replace HO := Lib.hid (HO.out.below hb2)
  replace HWH := Lib.hid (HWH.out.below hb2)
  replace HB := Lib.hid (HB.out.trans (hb2.mono HB.out.size))
  clear hb2
  clear HPC hz1
  have x1 : wr.cell? ⟨w.heap.size + 1, 0, none⟩ = some (.slice none 0 0) := row_cell hr1 rfl
  have x2 : wr.cell? ⟨w.heap.size + 1 + 1, 0, none⟩ = some (.slice none 0 0) := row_cell hr2 rfl
  have f1 := row_free hr1 0
  have f2 := row_free hr2 0
  go_wp2_with fail
  have hO := HL.out wr _ HB.out hz2 HV.out hr1 hr2
  refine leaves_marks3 (B := w.heap.size) (v := .tuple #[.slice none 0 0, .slice none 0 0, .slice none 0 0, .int .i64 (progE rows owners)]) (fun W => W.cell? ⟨w.heap.size + 1, 0, none⟩ = some (.slice none 0 0) ∧ W.cell? ⟨w.heap.size + 1 + 1, 0, none⟩ = some (.slice none 0 0)) ?_ ?_ ?_ _ _ trivial hO.2 ⟨by rw [← HV.out], hO.1⟩
  ·rintro W1 ⟨h1, h2⟩
   simp [results, Tryz.results116, go_sem, h1, h2]
  ·exact fun W1 W2 h hs => ⟨sim_cell hs h.1, sim_cell hs h.2⟩
  ·rintro W1 W2 ⟨h1, h2⟩ hs
   exact ⟨h1, h2.trans (sim_below hs)⟩
end Go.Proofs.YtggnipkfliompaaGreatDoor
namespace Go.Proofs.YtggnipkfliompaaGreatDoor
open Go.RowKit FP
theorem Ints.cells {w w' : World} {v : Value} {zs : List Int} (h : Ints w v zs) (hc : ∀ b o u, w.cell? ⟨b, o, none⟩ = some u → w'.cell? ⟨b, o, none⟩ = some u) : Ints w' v zs := by
 obtain ⟨a, cap, rfl, h1, h2, h3, h4⟩ := h
 exact ⟨a, cap, rfl, h1, h2, h3, fun k hk => by obtain ⟨b, off, h5, h6⟩ := h4 k hk; exact ⟨b, off, h5, hc _ _ _ h6⟩⟩
theorem Rows2.cells {w w' : World} {v : Value} {rows : List (List Int)} (h : Rows2 w v rows) (hc : ∀ b o u, w.cell? ⟨b, o, none⟩ = some u → w'.cell? ⟨b, o, none⟩ = some u) : Rows2 w' v rows := by
 obtain ⟨a, cap, rfl, h1, h2, h4⟩ := h
 exact ⟨a, cap, rfl, h1, h2, fun k hk => by obtain ⟨b, off, r, h5, h6, h7⟩ := h4 k hk; exact ⟨b, off, r, h5, hc _ _ _ h6, h7.cells hc⟩⟩
theorem set_same_cells {W : World} {b o : Nat} {v : Value} (h : W.cell? ⟨b, o, none⟩ = some v) : ∀ b' o' u, W.cell? ⟨b', o', none⟩ = some u → (W.setCell ⟨b, o, none⟩ v).cell? ⟨b', o', none⟩ = some u := fun b' o' u hu => by
 by_cases e : (⟨b, o, none⟩ : Addr) = ⟨b', o', none⟩
 ·rw [← e] at hu ⊢
  rw [h] at hu
  injection hu with hu
  subst hu
  exact World.cell?_setCell_same' _ _ _ (by rw [h]; rfl)
 ·rw [World.cell?_setCell_other _ _ _ _ e]; exact hu
theorem own_is {W : World} {base size n : Nat} {e : TypeId} {v : Value} {xs : List Value} (h : W.ownsRow base e size v n xs) : ∃ a k c, v = .slice a k c := by
 rcases h.2 with ⟨rfl, -⟩ | ⟨g, cap, cur, rfl, -⟩
 ·exact ⟨_, _, _, rfl⟩
 ·exact ⟨_, _, _, rfl⟩
structure Two (base : Nat) (W : World) (n m : Nat) (L1 L2 : Value) (xs ys : List Value) : Prop where
 a : W.ownsRow base 23 1 L1 n xs
 b : W.ownsRow base 3 1 L2 m ys
 ap : ∀ q, L1.ownBlock = some q → L2.ownBlock ≠ some q
theorem Two.keep {base : Nat} {W W' : World} {n m : Nat} {L1 L2 : Value} {xs ys : List Value} (h : Two base W n m L1 L2 xs ys) (hb : Below W.heap.size W W') : Two base W' n m L1 L2 xs ys :=
 ⟨own_keep h.a hb, own_keep h.b hb, h.ap⟩
theorem Two.one {base : Nat} {W W' : World} {n m n' g k c : Nat} {L1 L2 : Value} {xs ys xs' : List Value} (h : Two base W n m L1 L2 xs ys) (ho : W'.ownsRow base 23 1 (.slice (some ⟨g, 0, none⟩) k c) n' xs') (hg : W.grownBy W' L1.ownBlock) (hat : L1.ownBlock = some g ∨ g = W.heap.size) : Two base W' n' m (.slice (some ⟨g, 0, none⟩) k c) L2 xs' ys := by
 refine ⟨ho, own_apart h.b hg (fun q h1 h2 => h.ap q h2 h1), fun q h1 h2 => ?_⟩
 have e : g = q := by injection h1
 subst e
 rcases hat with h3 | h3
 ·exact h.ap g h3 h2
 ·have := (own_lt h.b g h2).2; omega
theorem Two.two {base : Nat} {W W' : World} {n m m' g k c : Nat} {L1 L2 : Value} {xs ys ys' : List Value} (h : Two base W n m L1 L2 xs ys) (ho : W'.ownsRow base 3 1 (.slice (some ⟨g, 0, none⟩) k c) m' ys') (hg : W.grownBy W' L2.ownBlock) (hat : L2.ownBlock = some g ∨ g = W.heap.size) : Two base W' n m' L1 (.slice (some ⟨g, 0, none⟩) k c) xs ys' := by
 refine ⟨own_apart h.a hg h.ap, ho, fun q h1 h2 => ?_⟩
 have e : g = q := by injection h2
 subst e
 rcases hat with h3 | h3
 ·exact h.ap g h1 h3
 ·have := (own_lt h.a g h1).2; omega
structure PairI (w w0 : World) (B C : Nat) (f h : Nat → Value) (j : Nat) (W : World) : Prop where
 be : Below w.heap.size w W
 size : C ≤ W.heap.size
 same : ∀ k, k < C → k ≠ B → k ≠ B + 1 → W.heap[k]? = w0.heap[k]?
 row : ∃ L1 L2, W.heap[B]? = some (.cells #[L1] 22 (0, 0)) ∧ W.heap[B + 1]? = some (.cells #[L2] 23 (0, 0)) ∧ Two C W j j L1 L2 ((List.range j).map f) ((List.range j).map h)
theorem pairI_sim {w w0 : World} {B C : Nat} {f h : Nat → Value} {j S : Nat} {W W' : World} (H : PairI w w0 B C f h j W) (hC : C ≤ S) (hw : w.heap.size ≤ S) (hs : Sim S W W') : PairI w w0 B C f h j W' := by
 obtain ⟨h1, h2, h3, L1, L2, h4, h5, h6⟩ := H
 exact ⟨h1.trans ((sim_below hs).mono hw), Nat.le_trans h2 hs.size, fun k hk e1 e2 => (hs.low k (by omega)).trans (h3 k hk e1 e2), L1, L2, hs.cells _ _ h4 rfl, hs.cells _ _ h5 rfl, own_sim h6.a hs, own_sim h6.b hs, h6.ap⟩
theorem pairI_next {w w0 : World} {B C : Nat} {f h : Nat → Value} {j : Nat} {W W' : World} {L1 L2 : Value} (H : PairI w w0 B C f h j W) (hB : w.heap.size ≤ B) (hBC : B + 1 < C) (hb : Below C W W')
  (h2 : Two C W' (j + 1) (j + 1) L1 L2 ((List.range (j + 1)).map f) ((List.range (j + 1)).map h)) : PairI w w0 B C f h (j + 1) ((W'.setCell ⟨B, 0, none⟩ L1).setCell ⟨B + 1, 0, none⟩ L2) := by
 obtain ⟨g1, g2, g3, M1, M2, g4, g5, -⟩ := H
 have r1 : W'.heap[B]? = some (.cells #[M1] 22 (0, 0)) := (hb.block _ (by omega)).trans g4
 have r2 : W'.heap[B + 1]? = some (.cells #[M2] 23 (0, 0)) := (hb.block _ hBC).trans g5
 have s1 : (W'.setCell ⟨B, 0, none⟩ L1).heap[B]? = some (.cells #[L1] 22 (0, 0)) := row_set r1 0 L1
 have s2 : (W'.setCell ⟨B, 0, none⟩ L1).heap[B + 1]? = some (.cells #[M2] 23 (0, 0)) := (Below.heap_setCell _ _ _ _ (by show B + 1 ≠ B; omega)).trans r2
 refine ⟨?_, ?_, fun k hk e1 e2 => ?_, L1, L2, (Below.heap_setCell _ _ _ _ (by show B ≠ B + 1; omega)).trans s1, row_set s2 0 L2, ?_⟩
 ·exact ((g1.trans (hb.mono (by omega))).setCell hB _).setCell (by show _ ≤ B + 1; omega) _
 ·have := hb.size; simp [World.setCell]; omega
 ·rw [Below.heap_setCell _ _ _ _ (by show k ≠ B + 1; omega), Below.heap_setCell _ _ _ _ (by show k ≠ B; omega), hb.block k hk, g3 k hk e1 e2]
 ·exact ⟨own_keep_set (own_keep_set h2.a (by omega) _) hBC _, own_keep_set (own_keep_set h2.b (by omega) _) hBC _, h2.ap⟩
theorem pair_keeps {W W' : World} {B : Nat} {L1 L2 : Value} (h : KeepsOthers W W') : KeepsOthers W ((W'.setCell ⟨B, 0, none⟩ L1).setCell ⟨B + 1, 0, none⟩ L2) :=
 (h.trans (KeepsOthers.setCell _ _ _)).trans (KeepsOthers.setCell _ _ _)
theorem step_app_row {ops : Array Oper} {o : Oper} {a : Act} {K : Act → World → Prop} {Q : Exit → Act → World → Prop} {E : Prop} {W : World} (hgd : o.guard = none) (s x : Operand) (ho : o.op = .call { callee := .builtin .append, args := #[s, x], argTypes := #[22, 22] })
  (base n : Nat) (v : Value) (xs : List Value) (hs : a.eval s = v) (hown : W.ownsRow base 23 1 v n xs) (b c : Nat) (z : Value) (hx : a.eval x = .slice (some ⟨b, 0, none⟩) 1 c) (hcell : W.cell? ⟨b, 0, none⟩ = some z) (hz1 : z.oneCell' = true) (hn : n ≤ 1000000) (hbase : base ≤ W.heap.size) (H : Nat) (hH : W.heap.size = H)
  (h : ∀ g cap w', w'.ownsRow base 23 1 (.slice (some ⟨g, 0, none⟩) (n + 1) cap) (n + 1) (xs ++ [z]) → W.grownBy w' v.ownBlock → (v.ownBlock = some g ∨ g = H) → g < w'.heap.size → K (a.put o.dst (.slice (some ⟨g, 0, none⟩) (n + 1) cap)) w') :
  if Region.wanted o (yielded ops a.tmps) = true then Oper.wp Tryz.prog o a W K Q else E := by
 obtain ⟨i0, hi0, hz0, hs0, hb0⟩ := info_parts infoRows
 refine step_append_lies _ hgd s x 22 ho base 23 i0 (.slice none 0 0) 1 24 Tryz.underlying22 hi0 hz0 hs0 hb0 rfl (by decide) v n xs hs hown ⟨b, 0, none⟩ 1 c [z] hx rfl ?_ ?_ (by decide) ?_ ?_ hbase H hH h
 ·intro j u hu
  cases j with
  | zero => simp at hu; subst hu; rw [add_off]; exact hcell
  | succ j => simp at hu
 ·intro u hu; simp at hu; subst hu; exact hz1
 ·unfold maxLen; omega
 ·omega
end Go.Proofs.YtggnipkfliompaaGreatDoor
