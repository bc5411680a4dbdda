/- The laws of complaints: sealed. -/
import Derived.Test.YtggnipkfliompaaGreatDoorMCoM
import Derived.Test.YtggnipkfliompaaGreatDoorMRegF
import Derived.Test.YtggnipkfliompaaGreatDoorMRdG
namespace Go.Proofs.YtggnipkfliompaaGreatDoor
open Go.RowKit FP

theorem dealC_len36 (s : List Int) : (dealC s).length = s.length := by simp [dealC]
/-- A part of a tuple. -/
def projV (k : Nat) (t : Value) : Value := match t with
  | .tuple a => a.getD k undef
  | _ => undef
/-- A box of three values. -/
def zero3 : Array Value := #[.int .i64 0, .int .i64 0, .int .i64 0]
def put3 (W : World) (B : Nat) (a b c : Value) : World := ((W.setCell ⟨B, 0, none⟩ a).setCell ⟨B, 1, none⟩ b).setCell ⟨B, 2, none⟩ c
theorem put3_row {W : World} {B : Nat} {x y z : Value} (a b c : Value) (t : TypeId) (q : W.heap[B]? = some (.cells #[x, y, z] t (0, 0))) : (put3 W B a b c).heap[B]? = some (.cells #[a, b, c] t (0, 0)) := row_set (row_set (row_set q 0 a) 1 b) 2 c
theorem put3_below {n0 B : Nat} {w0 W : World} (a b c : Value) (hb : Below n0 w0 W) (hB : n0 ≤ B) : Below n0 w0 (put3 W B a b c) := ((hb.setCell hB _).setCell hB _).setCell hB _
theorem put3_size (W : World) (B : Nat) (a b c : Value) : (put3 W B a b c).heap.size = W.heap.size := by simp [put3, World.setCell]
def Box3 (n0 : Nat) (w : World) (d s : Bool) (v a b c : Value) : Prop := d = true → ∃ B, v = .pointer (some ⟨B, 0, none⟩) ∧ n0 ≤ B ∧ B < w.heap.size ∧ w.heap[B]? = some (.cells (if s = true then #[a, b, c] else zero3) 49 (0, 0))
theorem Box3.nil (n0 : Nat) (w : World) (v a b c : Value) : Box3 n0 w false false v a b c := fun h => by cases h
theorem Box3.below {n0 : Nat} {w w' : World} {d s : Bool} {v a b c : Value} (h : Box3 n0 w d s v a b c) (hb : Below w.heap.size w w') : Box3 n0 w' d s v a b c := fun hd => by
  obtain ⟨B, e, h1, h2, h3⟩ := h hd
  exact ⟨B, e, h1, Nat.lt_of_lt_of_le h2 hb.size, (hb.block _ h2).trans h3⟩
theorem Box3.alloc {n0 : Nat} {w : World} {d s : Bool} {v a b c : Value} (_h : Box3 n0 w d s v a b c) (hs : s = false) (hn : n0 ≤ w.heap.size) : Box3 n0 (w.alloc (.cells zero3 49)) true s (.pointer (some ⟨w.heap.size, 0, none⟩)) a b c := fun _ =>
  ⟨w.heap.size, rfl, hn, by simp, by rw [hs]; exact World.alloc_heap_new _ _⟩
theorem Box3.store {n0 : Nat} {w : World} {d s : Bool} {v a b c : Value} {B : Nat} (h : Box3 n0 w d s v a b c) (hv : v = .pointer (some ⟨B, 0, none⟩)) (hd : d = true) (hS : w.heap[B]? = some (.cells zero3 49 (0, 0))) : Box3 n0 (put3 w B a b c) d true v a b c := fun _ => by
  obtain ⟨B', e, h1, h2, -⟩ := h hd
  rw [hv] at e
  simp only [Value.pointer.injEq, Option.some.injEq, Addr.mk.injEq] at e
  obtain ⟨rfl, -, -⟩ := e
  exact ⟨B, hv, h1, by rw [put3_size]; exact h2, put3_row a b c _ hS⟩

/-- What Deal returns, in new memory. -/
def DealV (rows : List (List Int)) (s : List Int) (n0 : Nat) (v : Value) (w : World) : Prop := ∃ al cl ac cc, v = .tuple #[.slice al rows.length cl, .slice ac s.length cc, .int .i64 0] ∧ Shares w (.slice al rows.length cl) (dealL rows s) ∧ Ints w (.slice ac s.length cc) (dealC s) ∧ (∀ b, (Value.slice al rows.length cl).ownBlock = some b → n0 ≤ b) ∧ (∀ b, (Value.slice ac s.length cc).ownBlock = some b → n0 ≤ b)
theorem DealV.below {rows : List (List Int)} {s : List Int} {n0 : Nat} {v : Value} {w w' : World} (h : DealV rows s n0 v w) (hb : Below w.heap.size w w') : DealV rows s n0 v w' := by
  obtain ⟨al, cl, ac, cc, e, h1, h2, h3, h4⟩ := h
  exact ⟨al, cl, ac, cc, e, h1.below hb, h2.below hb, h3, h4⟩
set_option maxRecDepth 100000 in
theorem rDeal_new (rv ov mv : Value) (rows : List (List Int)) (owners : List Int) (x : Int) (rnd : List Int) (w : World) (n0 : Nat) (hn : n0 ≤ w.heap.size) (hR : Rows2 w rv rows) (hO : Ints w ov owners) (hM : Ints w mv rnd) (hD : DealOK rows owners x rnd) (hp0 : progE rows owners = 0) :
    Calls Tryz.prog 69 #[.agg #[rv, ov], .int .i64 x, mv] w fun r w' => ∃ u, r = .returned u ∧ DealV rows (x :: rnd) n0 u w' ∧ Below w.heap.size w w' := by
  refine (rDeal_fresh rv ov mv rows owners x rnd w hR hO hM hD hp0).mono ?_
  rintro r w' ⟨lv, cv, rfl, hl, hc, h1, h2, hb⟩
  obtain ⟨al, cl, rfl, -⟩ := id hl
  obtain ⟨ac, cc, rfl, -⟩ := id hc
  rw [dealL_len] at hl h1 ⊢
  rw [dealC_len36] at hc h2 ⊢
  exact ⟨_, rfl, ⟨al, cl, ac, cc, rfl, hl, hc, fun b e => Nat.le_trans hn (h1 b e), fun b e => Nat.le_trans hn (h2 b e)⟩, hb⟩
theorem shares_at {w : World} {a : Option Addr} {n c : Nat} {l : List (Int × Int)} (h : Shares w (.slice a n c) l) {k : Nat} (hk : k < l.length) : ∃ b off, a = some ⟨b, off, none⟩ ∧ w.cell? ⟨b, off + k * 2, none⟩ = some (.int .i64 l[k].1) ∧ w.cell? ⟨b, off + k * 2 + 1, none⟩ = some (.int .i64 l[k].2) := by
  obtain ⟨a', cap, h1, -, -, -, h5⟩ := h
  cases h1
  exact h5 k hk
theorem shares_set {w : World} {b B o o2 n c : Nat} {l : List (Int × Int)} (h : Shares w (.slice (some ⟨b, o2, none⟩) n c) l) (hb : b ≠ B) (v : Value) : Shares (w.setCell ⟨B, o, none⟩ v) (.slice (some ⟨b, o2, none⟩) n c) l := by
  obtain ⟨a, cap, h1, h2, h3, h4, h5⟩ := h
  refine ⟨a, cap, h1, h2, h3, h4, fun k hk => ?_⟩
  obtain ⟨b', off, e, hc, hd⟩ := h5 k hk
  cases h1
  simp only [Option.some.injEq, Addr.mk.injEq, and_true] at e
  obtain ⟨rfl, rfl⟩ := e
  exact ⟨b, o2, rfl, (cell_other (.inl hb.symm)).trans hc, (cell_other (.inl hb.symm)).trans hd⟩
theorem shares_keep {B : Nat} {w w' : World} {b o2 n c : Nat} {l : List (Int × Int)} (h : Shares w (.slice (some ⟨b, o2, none⟩) n c) l) (hb : Below B w w') (hlt : b < B) : Shares w' (.slice (some ⟨b, o2, none⟩) n c) l := by
  obtain ⟨a, cap, h1, h2, h3, h4, h5⟩ := h
  refine ⟨a, cap, h1, h2, h3, h4, fun k hk => ?_⟩
  obtain ⟨b', off, e, hc, hd⟩ := h5 k hk
  cases h1
  simp only [Option.some.injEq, Addr.mk.injEq, and_true] at e
  obtain ⟨rfl, rfl⟩ := e
  exact ⟨b, o2, rfl, (hb.cell (p := ⟨b, o2 + k * 2, none⟩) hlt).trans hc, (hb.cell (p := ⟨b, o2 + k * 2 + 1, none⟩) hlt).trans hd⟩
theorem ints_put3 {w : World} {b B o2 n c : Nat} {l : List Int} (h : Ints w (.slice (some ⟨b, o2, none⟩) n c) l) (hb : b ≠ B) (x y z : Value) : Ints (put3 w B x y z) (.slice (some ⟨b, o2, none⟩) n c) l := ints_set (ints_set (ints_set h hb _) hb _) hb _
theorem shares_put3 {w : World} {b B o2 n c : Nat} {l : List (Int × Int)} (h : Shares w (.slice (some ⟨b, o2, none⟩) n c) l) (hb : b ≠ B) (x y z : Value) : Shares (put3 w B x y z) (.slice (some ⟨b, o2, none⟩) n c) l := shares_set (shares_set (shares_set h hb _) hb _) hb _
theorem ints_tail36 {w : World} {b off c : Nat} {x : Int} {zs : List Int} (h : Ints w (.slice (some ⟨b, off, none⟩) (zs.length + 1) c) (x :: zs)) : Ints w (.slice (if c = 1 then some ⟨b, off, none⟩ else some ⟨b, off + 1, none⟩) zs.length (c - 1)) zs := by
  obtain ⟨a, cap, h1, h2, h3, h4, h5⟩ := h
  simp only [Value.slice.injEq] at h1
  obtain ⟨rfl, -, rfl⟩ := h1
  simp only [List.length_cons] at h2 h3
  by_cases e : c = 1
  · have hz : zs = [] := List.length_eq_zero_iff.1 (by omega)
    subst hz
    exact Ints.nil _ _ _
  · rw [if_neg e]
    refine ⟨_, _, rfl, by omega, by omega, fun z hz => h4 z (List.mem_cons_of_mem _ hz), fun k hk => ⟨b, off + 1, rfl, ?_⟩⟩
    obtain ⟨b2, o2, h6, h7⟩ := h5 (k + 1) (by simp; omega)
    simp only [Option.some.injEq, Addr.mk.injEq] at h6
    obtain ⟨rfl, rfl, -⟩ := h6
    rw [show off + 1 + k = off + (k + 1) by omega]
    simpa using h7
theorem parcels_put3 {w : World} {B n c : Nat} {a : Option Addr} {l : List Pcl} (h : Parcels w (.slice a n c) l) (hb : ∀ b o2, a = some ⟨b, o2, none⟩ → b ≠ B) (x y z : Value) : Parcels (put3 w B x y z) (.slice a n c) l := ((h.set hb _).set hb _).set hb _
theorem lt_size {w : World} {b o : Nat} {v : Value} (h : w.cell? ⟨b, o, none⟩ = some v) : b < w.heap.size := by
  unfold World.cell? at h
  by_cases hb : b < w.heap.size
  · exact hb
  · have e : w.heap[b]? = none := Array.getElem?_eq_none (Nat.le_of_not_lt hb)
    simp only [e] at h
    cases h
structure FSe1 (w0 : World) (pv : Value) (nv : Value) (tv : Value) (B : Nat) (bN : Nat) (oN : Nat) (x : Int) (rows : List (List Int)) (s : List Int) (done : Nat → Bool) (v : Nat → Value) (w : World) : Prop where
  b : Below w0.heap.size w0 w
  f0 : done 0 = true → v 0 = pv
  f1 : done 1 = true → v 1 = nv
  f2 : done 2 = true → v 2 = .pointer (some ⟨bN, oN, none⟩)
  f3 : done 3 = true → v 3 = .int .i64 x
  f4 : done 4 = true → v 4 = nv
  f5 : done 5 = true → v 5 = tv
  f6 : done 6 = true → DealV rows s w0.heap.size (v 6) w
  f7 : done 7 = true → v 7 = v 6
  f8 : done 8 = true → v 8 = projV 0 (v 6)
  f9 : done 9 = true → v 9 = projV 1 (v 6)
  f10 : done 10 = true → v 10 = projV 2 (v 6)
  f11 : done 11 = true → v 11 = projV 0 (v 6)
  f12 : done 12 = true → v 12 = projV 1 (v 6)
  f13 : done 13 = true → v 13 = projV 2 (v 6)

structure FSe11 (w0 : World) (sv : Value) (k : Nat) (bS : Nat) (oS : Nat) (n : Int) (m : Int) (u0 : Int) (u : Int) (key : Int) (dealer : Int) (bB : Nat) (vv : Int) (pt : Int) (ci : Int) (done : Nat → Bool) (v : Nat → Value) (w : World) : Prop where
  b : Below w0.heap.size w0 w
  f0 : done 0 = true → v 0 = sv
  f1 : done 1 = true → v 1 = .int .i64 (k : Int)
  f2 : done 2 = true → v 2 = .pointer (some ⟨bS, oS + k, none⟩)
  f3 : done 3 = true → v 3 = .int .i64 n
  f4 : done 4 = true → v 4 = .int .i64 (k : Int)
  f5 : done 5 = true → v 5 = .int .i64 m
  f6 : done 6 = true → v 6 = .int .i64 u0
  f7 : done 7 = true → v 7 = .int .i64 u
  f8 : done 8 = true → v 8 = .int .i64 key
  f9 : done 9 = true → v 9 = .int .i64 dealer
  f10 : done 10 = true → v 10 = .int .i64 (k : Int)
  f11 : done 11 = true → v 11 = .pointer (some ⟨bB, 1, none⟩)
  f12 : done 12 = true → v 12 = .int .i64 vv
  f13 : done 13 = true → v 13 = .tuple #[.agg #[.int .i64 (k : Int), .int .i64 pt, .int .i64 ci], .int .i64 0]
  f14 : done 14 = true → v 14 = .tuple #[.agg #[.int .i64 (k : Int), .int .i64 pt, .int .i64 ci], .int .i64 0]
  f15 : done 15 = true → v 15 = .agg #[.int .i64 (k : Int), .int .i64 pt, .int .i64 ci]
  f16 : done 16 = true → v 16 = .int .i64 0
  f19 : done 19 = true → v 19 = .int .i64 0
  bx : Box3 w0.heap.size w (done 17) (done 18) (v 17) (.int .i64 (k : Int)) (.int .i64 pt) (.int .i64 ci)

/-- What sealed returns. -/
def SealR (rows : List (List Int)) (s : List Int) (dealer : Int) (ss : List Int) (row by' : Int) (n0 : Nat) (v : Value) (w : World) : Prop :=
  ∃ gc oc kc gp kp, v = .agg #[.int .i64 dealer, .slice (some ⟨gc, oc, none⟩) s.length kc, .slice (some ⟨gp, 0, none⟩) rows.length kp] ∧ Ints w (.slice (some ⟨gc, oc, none⟩) s.length kc) (dealC s) ∧ Parcels w (.slice (some ⟨gp, 0, none⟩) rows.length kp) (dF rows s dealer ss row by').ps ∧ n0 ≤ gc ∧ n0 ≤ gp
set_option maxRecDepth 100000 in
set_option maxHeartbeats 16000000 in
theorem sealed36_any (rv ov mv sv : Value) (rows : List (List Int)) (owners : List Int) (x : Int) (rnd : List Int) (dealer : Int) (ss : List Int) (row by' : Int) (w : World) (hG : Glob w) (hR : Rows2 w rv rows) (hO : Ints w ov owners) (hM : Ints w mv (x :: rnd)) (hS : Ints w sv ss) (h : Sml rows owners (x :: rnd) dealer ss) (hby : 0 ≤ by' ∧ by' < 1073741789) :
    Calls Tryz.prog 20 #[.agg #[rv, ov], mv, .int .i64 dealer, sv, .int .i64 row, .int .i64 by'] w fun r w' => ∃ v, r = .returned (.tuple #[v, .bool true]) ∧ SealR rows (x :: rnd) dealer ss row by' w.heap.size v w' ∧ Below w.heap.size w w' := by
  have HSM := Lib.hid h
  have HG := Lib.hid (fun W (h : Below w.heap.size w W) => hG.below h)
  have HSI := Lib.hid (fun W (h : Below w.heap.size w W) => hS.below h)
  obtain ⟨W1, hW1, hb1, hr1, hz⟩ := box_prog w rv ov 25
  have hs1 : W1.heap.size = w.heap.size + 1 := by rw [hW1]; simp
  obtain ⟨W2, hW2, hb2, hr2, hs2⟩ := box36 W1 (.int .i64 0) (.slice none 0 0) (.slice none 0 0) 28
  have hb := hb1.trans (hb2.mono hb1.size)
  have HR := Lib.hid (hR.below hb)
  have HO := Lib.hid (hO.below hb)
  have HM := Lib.hid (hM.below hb)
  obtain ⟨a1, k1, rfl, -, hl1, -⟩ := id hR
  obtain ⟨a2, k2, rfl, -, hl2, -⟩ := id hO
  obtain ⟨a4, k4, rfl, -, hl4, -⟩ := id hS
  have Q1 := Lib.hid ((hb2.block _ (row_lt hr1)).trans hr1)
  rw [hs1] at hr2
  have Q2 := Lib.hid hr2
  have hs3 : W2.heap.size = w.heap.size + 2 := by rw [hs2, hs1]
  have HB := Lib.hid hb
  rw [hW1] at hW2
  have HW2 := Lib.hid hW2
  have c0 := row_cell Q1.out (k := 0) rfl
  have c1 := row_cell Q1.out (k := 1) rfl
  have hM2 := HM.out
  obtain ⟨a3, k3, rfl, hc3, hl3, hr3, hk3⟩ := id hM2
  obtain ⟨bN, oN, rfl, qN⟩ := hk3 0 (by simp)
  simp only [List.length_cons] at hM2 hc3 hl3
  have HX := Lib.hid (ints_tail36 hM2)
  simp only [List.getElem_cons_zero, Nat.add_zero] at qN
  have hDK := h.deal
  have HDN := Lib.hid (fun W n0 hn h1 h2 h3 => rDeal_new (.slice a1 rows.length k1) (.slice a2 owners.length k2) (.slice (if k3 = 1 then some ⟨bN, oN, none⟩ else some ⟨bN, oN + 1, none⟩) rnd.length (k3 - 1)) rows owners x rnd W n0 hn h1 h2 h3 hDK h.p0)
  have HNE : Hid (0 < (dealC (x :: rnd)).length ∧ 0 < (dealL rows (x :: rnd)).length) := Lib.hid ⟨by rw [dealC_len36]; simp, by rw [dealL_len]; exact h.r1⟩
  have HNS : Hid ((x :: rnd).length = (dealC (x :: rnd)).length) := Lib.hid (dealC_len36 _).symm
  have hlen : ((rows.length : Int) != (ss.length : Int)) = false := bne_eq_false_iff_eq.2 (by rw [h.sl])
  have hrl : rows.length ≤ 6 := h.r6
  have HSLN := Lib.hid h.sl
  simp only [List.length_cons]
  obtain ⟨m, hm⟩ : ∃ m, m = rnd.length := ⟨_, rfl⟩
  obtain ⟨s, hs⟩ : ∃ s, s = x :: rnd := ⟨_, rfl⟩
  have hsm : s.length = m + 1 := by rw [hs, hm]; rfl
  rw [← hs] at HSM HNE HNS HDN ⊢
  rw [← hm] at HX HDN hc3 ⊢
  obtain ⟨T, hT⟩ : ∃ T, (if k3 = 1 then some (⟨bN, oN, none⟩ : Addr) else some ⟨bN, oN + 1, none⟩) = T := ⟨_, rfl⟩
  rw [hT] at HX HDN
  have HSM1 := Lib.hid hsm
  have HHS3 := Lib.hid hs3
  clear hG hR hO hM hS h hz hb hb1 hb2 hr1 hr2 hs1 hs2 hs3 hW1 hW2 hM2 hDK hk3 hr3 hl3 hm hs hsm HM
  go_enter Tryz.func20, Tryz.ntmps20
  go_wp2_with (rw [← HW2.out])
  clear HW2
  have i1 : (0 : Int) < (m : Int) + 1 := by omega
  have i2 : (1 : Int) ≤ (m : Int) + 1 := by omega
  obtain ⟨wr, hwr⟩ : ∃ x, x = W2 := ⟨_, rfl⟩
  subst hwr
  have HDL := Lib.hid (fun W (hb : Below wr.heap.size wr W) => HDN.out W wr.heap.size hb.size (HR.out.below hb) (HO.out.below hb) (HX.out.below hb))
  refine wp_region_flowsG (by kernel_rfl) (by kernel_rfl) (by kernel_rfl) (by kernel_rfl) (fun done v W => FSe1 wr (.agg #[.slice a1 rows.length k1, .slice a2 owners.length k2]) (.slice (some ⟨bN, oN, none⟩) (m + 1) k3) (.slice T m (k3 - 1)) (w.heap.size) (bN) (oN) (x) (rows) (s) done v W) (fun v => ?_) ?_ (fun v W h => ?_)
  · exact ⟨(Below.refl _ _).drew, (fun h => by cases h), (fun h => by cases h), (fun h => by cases h), (fun h => by cases h), (fun h => by cases h), (fun h => by cases h), (fun h => by cases h), (fun h => by cases h), (fun h => by cases h), (fun h => by cases h), (fun h => by cases h), (fun h => by cases h), (fun h => by cases h), (fun h => by cases h)⟩
  · refine ⟨?_, ?_, ?_, ?_, ?_, ?_, ?_, ?_, ?_, ?_, ?_, ?_, ?_, ?_, trivial⟩
    · intro done v W A h hd hp hu hA hB hdf
      have e0 : A.tmps[6]?.getD undef = .pointer (some ⟨w.heap.size, 0, none⟩) := hB 6 rfl
      have y0_ := below_cell h.b c0
      have y1_ := below_cell h.b c1
      clear hA hB hp hu hdf
      go_simp
      exact ⟨_, rfl, { h with f0 := (fun _ => rfl) }⟩
    · intro done v W A h hd hp hu hA hB hdf
      have e0 : A.tmps[1]?.getD undef = .slice (some ⟨bN, oN, none⟩) (m + 1) k3 := hB 1 rfl
      clear hA hB hp hu hdf
      go_simp
      exact ⟨_, rfl, { h with f1 := (fun _ => rfl) }⟩
    · intro done v W A h hd hp hu hA hB hdf
      have hd1 : done 1 = true := hp 1 rfl
      have e0 := (hA 1 25 rfl hd1).trans (h.f1 hd1)
      clear hA hB hp hu hdf
      go_simp
      exact ⟨_, rfl, { h with f2 := (fun _ => rfl) }⟩
    · intro done v W A h hd hp hu hA hB hdf
      have hd2 : done 2 = true := hp 2 rfl
      have e0 := (hA 2 26 rfl hd2).trans (h.f2 hd2)
      have y0_ := below_cell h.b qN
      clear hA hB hp hu hdf
      go_simp
      exact ⟨_, rfl, { h with f3 := (fun _ => rfl) }⟩
    · intro done v W A h hd hp hu hA hB hdf
      have e0 : A.tmps[1]?.getD undef = .slice (some ⟨bN, oN, none⟩) (m + 1) k3 := hB 1 rfl
      clear hA hB hp hu hdf
      go_simp
      exact ⟨_, rfl, { h with f4 := (fun _ => rfl) }⟩
    · intro done v W A h hd hp hu hA hB hdf
      have hd4 : done 4 = true := hp 4 rfl
      have e0 := (hA 4 28 rfl hd4).trans (h.f4 hd4)
      clear hA hB hp hu hdf
      go_simp
      exact ⟨_, rfl, { h with f5 := (fun _ => rfl) }⟩
    · intro done v W A h hd hp hu hA hB hdf
      have n7_6 : done 7 = false := flow_not (fun hj => hu 7 6 rfl (hj)) hd
      have n8_6 : done 8 = false := flow_not (fun hj => hu 7 6 rfl (hu 8 7 rfl (hj))) hd
      have n9_6 : done 9 = false := flow_not (fun hj => hu 7 6 rfl (hu 9 7 rfl (hj))) hd
      have n10_6 : done 10 = false := flow_not (fun hj => hu 7 6 rfl (hu 10 7 rfl (hj))) hd
      have n11_6 : done 11 = false := flow_not (fun hj => hu 11 6 rfl (hj)) hd
      have n12_6 : done 12 = false := flow_not (fun hj => hu 12 6 rfl (hj)) hd
      have n13_6 : done 13 = false := flow_not (fun hj => hu 13 6 rfl (hj)) hd
      have hd0 : done 0 = true := hp 0 rfl
      have hd3 : done 3 = true := hp 3 rfl
      have hd5 : done 5 = true := hp 5 rfl
      have e0 := (hA 0 24 rfl hd0).trans (h.f0 hd0)
      have e1 := (hA 3 27 rfl hd3).trans (h.f3 hd3)
      have e2 := (hA 5 29 rfl hd5).trans (h.f5 hd5)
      clear hA hB hp hu hdf
      go_simp
      with_reducible refine (HDL.out W h.b).mono ?_
      rintro e wq ⟨u, rfl, hn, hb⟩
      exact ⟨_, rfl, { h with b := h.b.trans (hb.mono h.b.size), f6 := (fun _ => hn), f7 := (fun hj => absurd (hj.symm.trans n7_6) (by decide)), f8 := (fun hj => absurd (hj.symm.trans n8_6) (by decide)), f9 := (fun hj => absurd (hj.symm.trans n9_6) (by decide)), f10 := (fun hj => absurd (hj.symm.trans n10_6) (by decide)), f11 := (fun hj => absurd (hj.symm.trans n11_6) (by decide)), f12 := (fun hj => absurd (hj.symm.trans n12_6) (by decide)), f13 := (fun hj => absurd (hj.symm.trans n13_6) (by decide)) }⟩
    · intro done v W A h hd hp hu hA hB hdf
      have hd6 : done 6 = true := hp 6 rfl
      have e0 := hA 6 30 rfl hd6
      clear hA hB hp hu hdf
      go_simp
      exact ⟨_, rfl, { h with f7 := (fun _ => rfl) }⟩
    · intro done v W A h hd hp hu hA hB hdf
      have hd6 : done 6 = true := hu 7 6 rfl (hp 7 rfl)
      have hd7 : done 7 = true := hp 7 rfl
      obtain ⟨al, cl, ac, cc, eD, hsD, hcD, hfD, hgD⟩ := h.f6 hd6
      have e0 := (hA 7 23 rfl hd7).trans ((h.f7 hd7).trans eD)
      clear hA hB hp hu hdf
      go_simp
      exact ⟨_, rfl, { h with f8 := (fun _ => (by show _ = projV 0 (v 6); rw [eD]; rfl)) }⟩
    · intro done v W A h hd hp hu hA hB hdf
      have hd6 : done 6 = true := hu 7 6 rfl (hp 7 rfl)
      have hd7 : done 7 = true := hp 7 rfl
      obtain ⟨al, cl, ac, cc, eD, hsD, hcD, hfD, hgD⟩ := h.f6 hd6
      have e0 := (hA 7 23 rfl hd7).trans ((h.f7 hd7).trans eD)
      clear hA hB hp hu hdf
      go_simp
      exact ⟨_, rfl, { h with f9 := (fun _ => (by show _ = projV 1 (v 6); rw [eD]; rfl)) }⟩
    · intro done v W A h hd hp hu hA hB hdf
      have hd6 : done 6 = true := hu 7 6 rfl (hp 7 rfl)
      have hd7 : done 7 = true := hp 7 rfl
      obtain ⟨al, cl, ac, cc, eD, hsD, hcD, hfD, hgD⟩ := h.f6 hd6
      have e0 := (hA 7 23 rfl hd7).trans ((h.f7 hd7).trans eD)
      clear hA hB hp hu hdf
      go_simp
      exact ⟨_, rfl, { h with f10 := (fun _ => (by show _ = projV 2 (v 6); rw [eD]; rfl)) }⟩
    · intro done v W A h hd hp hu hA hB hdf
      have hd8 : done 8 = true := hp 8 rfl
      have e0 := hA 8 31 rfl hd8
      clear hA hB hp hu hdf
      go_simp
      exact ⟨_, rfl, { h with f11 := (fun _ => (h.f8 hd8)) }⟩
    · intro done v W A h hd hp hu hA hB hdf
      have hd9 : done 9 = true := hp 9 rfl
      have e0 := hA 9 32 rfl hd9
      clear hA hB hp hu hdf
      go_simp
      exact ⟨_, rfl, { h with f12 := (fun _ => (h.f9 hd9)) }⟩
    · intro done v W A h hd hp hu hA hB hdf
      have hd10 : done 10 = true := hp 10 rfl
      have e0 := hA 10 33 rfl hd10
      clear hA hB hp hu hdf
      go_simp
      exact ⟨_, rfl, { h with f13 := (fun _ => (h.f10 hd10)) }⟩
  simp only [putL, Act.put, Nat.reduceAdd, List.setIfInBounds_toArray, List.set_cons_zero, List.set_cons_succ]
  obtain ⟨al, cl, ac, cc, eD, hsD, hcD, hfD, hgD⟩ := h.f6 rfl
  rw [show v 11 = .slice al rows.length cl from (h.f11 rfl).trans (by rw [eD]; rfl)]
  rw [show v 12 = .slice ac s.length cc from (h.f12 rfl).trans (by rw [eD]; rfl)]
  rw [show v 13 = .int .i64 0 from (h.f13 rfl).trans (by rw [eD]; rfl)]
  have hbr := h.b
  have HSD := Lib.hid hsD
  have HCD := Lib.hid hcD
  have HFD := Lib.hid hfD
  have HGD := Lib.hid hgD
  replace Q1 := Lib.hid ((hbr.block _ (row_lt Q1.out)).trans Q1.out)
  replace Q2 := Lib.hid ((hbr.block _ (row_lt Q2.out)).trans Q2.out)
  replace HB := Lib.hid (HB.out.trans (hbr.mono HB.out.size))
  clear h hbr HDL HDN HR HO HX hT i1 i2 eD hsD hcD hfD hgD c0 c1 qN
  obtain ⟨gl, ol, rfl, ql, -⟩ := shares_at HSD.out HNE.out.2
  obtain ⟨gc, oc, rfl, qc⟩ := ints_at HCD.out HNE.out.1
  have HGL : Hid (w.heap.size + 2 ≤ gl ∧ gl < W.heap.size ∧ w.heap.size + 2 ≤ gc ∧ gc < W.heap.size) := Lib.hid ⟨by have := HFD.out gl rfl; have := HHS3.out; omega, lt_size ql, by have := HGD.out gc rfl; have := HHS3.out; omega, lt_size qc⟩
  clear ql qc HFD HGD HNE
  obtain ⟨W5, hW5⟩ : ∃ W5, W5 = put3 W (w.heap.size + 1) (.int .i64 dealer) (.slice (some ⟨gc, oc, none⟩) s.length cc) (.slice none 0 0) := ⟨_, rfl⟩
  have HB5 := Lib.hid (hW5 ▸ put3_below _ _ _ HB.out (Nat.le_succ _))
  have HS5 := Lib.hid (hW5 ▸ shares_put3 HSD.out (by have := HGL.out; omega) _ _ _)
  have HC5 := Lib.hid (hW5 ▸ ints_put3 HCD.out (by have := HGL.out; omega) _ _ _)
  have Q5 := Lib.hid (hW5 ▸ put3_row _ _ _ _ Q2.out)
  have hz5 : W5.heap.size = W.heap.size := by rw [hW5]; exact put3_size _ _ _ _ _
  rw [← hz5] at HGL
  have HE5 := Lib.hid (World.ownsRow_nil W5 W5.heap.size 49 3)
  have b0 := row_cell Q2.out (k := 0) (v := .int .i64 0) rfl
  have f0 := row_free Q2.out 0
  have b1 := row_cell Q2.out (k := 1) (v := .slice none 0 0) rfl
  have f1 := row_free Q2.out 1
  have b2 := row_cell Q2.out (k := 2) (v := .slice none 0 0) rfl
  have f2 := row_free Q2.out 2
  unfold put3 at hW5
  have HW5 := Lib.hid hW5
  clear hW5 hz5
  go_wp2_with (rw [← HW5.out])
  clear b0 b1 b2 f0 f1 f2 hlen
  have h02 : W5.ownsRow W5.heap.size 49 3 (.slice none 0 0) 0 (((dF rows s dealer ss row by').ps.take 0).flatMap parC) := World.ownsRow_nil _ _ _ _
  go_loopw [17, 18, 19, 20, 21, 22, 49] (fun _ _ _ _ _ _ i W => ∃ k : Nat, k ≤ rows.length ∧ i = .int .i64 k ∧ Below w.heap.size w W ∧ Shares W (.slice (some ⟨gl, ol, none⟩) rows.length cl) (dealL rows s) ∧ Ints W (.slice (some ⟨gc, oc, none⟩) s.length cc) (dealC s) ∧ ∃ pv, W.heap[w.heap.size + 1]? = some (.cells #[.int .i64 dealer, .slice (some ⟨gc, oc, none⟩) s.length cc, pv] 28 (0, 0)) ∧ W.ownsRow W5.heap.size 49 3 pv k (((dF rows s dealer ss row by').ps.take k).flatMap parC) ∧ W5.heap.size ≤ W.heap.size) (fun _ _ _ _ _ _ i _ => rows.length - (intOf i).toNat)
  case atStart => exact ⟨0, Nat.zero_le _, rfl, HB5.out, HS5.out, HC5.out, _, Q5.out, h02, Nat.le_refl _⟩
  case round =>
    clear h02
    obtain ⟨k, hkl, rfl, hb, hl, hc, pv, q1, ho, hsz⟩ := hrel
    obtain ⟨a9, n9, k9, rfl⟩ := own_sl ho
    have Q1 := Lib.hid q1
    have HL := Lib.hid hl
    have HC := Lib.hid hc
    have HB := Lib.hid hb
    have HO := Lib.hid ho
    have HSZ := Lib.hid hsz
    by_cases hlt : k < rows.length
    · obtain ⟨lb, lo, e9, l0, l1⟩ := shares_at hl (k := k) (by rw [dealL_len]; exact hlt)
      simp only [Option.some.injEq, Addr.mk.injEq, and_true] at e9
      obtain ⟨rfl, rfl⟩ := e9
      rw [dealL_at rows s (by rw [dealL_len]; exact hlt)] at l0 l1
      have hks : k < ss.length := by rw [HSLN.out]; exact hlt
      obtain ⟨bS, oS, e8, qS⟩ := ints_at (HSI.out wr hb) hks
      subst e8
      have hkn : nth ss k = ss[k] := nth_at hks
      have HSE : Hid (Sealed (usF ss k) (powE 4 (nth ss k)) dealer (k : Int) (vsF rows s row by' k)) := Lib.hid
        ⟨usF_in _ _, el_powE el_four _, HSM.out.dl, by omega, vsF_in _ _ _ _ _⟩
      have HT : Hid ((dF rows s dealer ss row by').ps.take (k + 1) = (dF rows s dealer ss row by').ps.take k ++ [((k : Int), powE 4 (usF ss k), cipV (usF ss k) (powE 4 (nth ss k)) dealer (k : Int) (vsF rows s row by' k))]) := Lib.hid (by
        have hk : k < (dF rows s dealer ss row by').ps.length := by rw [dF_len]; exact hlt
        rw [List.take_succ_eq_append_getElem hk, dF_at]
        rfl)
      have HNR : Hid (1 ≤ nth ss k ∧ nth ss k ≤ 1073741788) := Lib.hid (HSM.out.ss hlt)
      have HUF : Hid (usF ss k = 1 + (nth ss k + (k : Int)) % 1073741788) := Lib.hid rfl
      have HVF : Hid (vsF rows s row by' k = if (k : Int) = row then (prodQ (rows.getD k []) s + by') % 1073741789 else prodQ (rows.getD k []) s) := Lib.hid rfl
      have HVR := Lib.hid (vsF_in rows s row by' k)
      have HPR := Lib.hid (prodQ_num (rows.getD k []) s)
      rw [← hkn] at qS
      generalize nth ss k = n at *
      generalize usF ss k = u at *
      obtain ⟨key, hkey⟩ : ∃ z, z = powE 4 n := ⟨_, rfl⟩
      rw [← hkey] at HT HSE
      have HP := Lib.hid (fun W => pow_yes 4 n W el_four (R64.mk (by have := HNR.out; omega) (by have := HNR.out; omega)))
      rw [← hkey] at HP
      replace l0 : wr.cell? ⟨gl, ol + k * 2, none⟩ = some (.int .i64 (k : Int)) := l0
      replace l1 : wr.cell? ⟨gl, ol + k * 2 + 1, none⟩ = some (.int .i64 (prodQ (rows.getD k []) s)) := l1
      generalize prodQ (rows.getD k []) s = p at *
      obtain ⟨vv, hv⟩ : ∃ v, v = vsF rows s row by' k := ⟨_, rfl⟩
      rw [← hv] at HT HSE HVF HVR
      obtain ⟨m1, hm1⟩ : ∃ m1, m1 = n + (k : Int) := ⟨_, rfl⟩
      obtain ⟨u0, hu0⟩ : ∃ u0, u0 = m1 % 1073741788 := ⟨_, rfl⟩
      have w1 : IntKind.i64.wrap (n + (k : Int)) = m1 := by rw [hm1]; exact IntWalk.i64_in _ (by have := HNR.out; omega)
      have w2 : m1.tmod 1073741788 = u0 := by rw [hu0]; exact Int.tmod_eq_emod_of_nonneg (by have := HNR.out; omega)
      have w3 : IntKind.i64.wrap u0 = u0 := IntWalk.i64_in _ (by omega)
      have w4 : IntKind.i64.wrap (1 + u0) = u := by rw [HUF.out, ← hm1, ← hu0]; exact IntWalk.i64_in _ (by omega)
      have j0 : 0 ≤ (k : Int) := by omega
      have j1 : (k : Int) < (rows.length : Int) := by omega
      have j3 : (k : Int) < (ss.length : Int) := by omega
      have j4 : decide ((k : Int) < (rows.length : Int)) = true := decide_eq_true j1
      obtain ⟨W6, hW6⟩ : ∃ W6, W6 = wr.alloc (.cells #[.int .i64 (k : Int), .int .i64 p] 68) := ⟨_, rfl⟩
      have HBW : Hid (Below wr.heap.size wr W6) := Lib.hid (by rw [hW6]; exact below_new _ _ _)
      have QS : Hid (W6.heap[wr.heap.size]? = some (.cells #[.int .i64 (k : Int), .int .i64 p] 68 (0, 0))) := Lib.hid (by rw [hW6]; exact World.alloc_heap_new _ _)
      replace qS := below_cell HBW.out qS
      have HW6 := Lib.hid hW6
      obtain ⟨bB, hbB⟩ : ∃ b, b = wr.heap.size := ⟨_, rfl⟩
      have HBB := Lib.hid hbB
      clear hkey hv hm1 hu0 hb q1 hl hc ho hsz hkn hW6 hbB
      go_wp2_with (rw [← HW6.out])
      with_reducible refine (HP.out _).mono ?_
      rintro e w7 ⟨rfl, hb7⟩
      replace HBW := Lib.hid (HBW.out.trans (hb7.mono HBW.out.size))
      replace QS := Lib.hid ((hb7.block _ (row_lt QS.out)).trans QS.out)
      replace qS := below_cell hb7 qS
      clear hb7 HW6 HP l0 l1
      rw [← HBB.out] at QS ⊢
      by_cases hkr : (k : Int) = row
      · have hve : vv = (p + by') % 1073741789 := HVF.out.trans (if_pos hkr)
        have t5 : IntKind.i64.wrap (p + by') = p + by' := IntWalk.i64_in _ (by have := HPR.out; omega)
        have t6 : (p + by').tmod 1073741789 = vv := by rw [hve]; exact Int.tmod_eq_emod_of_nonneg (by have := HPR.out; omega)
        have t7 : IntKind.i64.wrap vv = vv := IntWalk.i64_in _ (by have := HVR.out; omega)
        have d0 : ((k : Int) == row) = true := beq_iff_eq.2 hkr
        clear hve hkr
        have s1 := row_cell QS.out (k := 1) (v := .int .i64 p) rfl
        have s2 := row_free QS.out 1
        obtain ⟨W8, hW8⟩ : ∃ W8, W8 = w7.setCell ⟨bB, 1, none⟩ (.int .i64 vv) := ⟨_, rfl⟩
        have hne : bS ≠ bB := by
          have h1 := HBB.out
          obtain ⟨b', o', e', q'⟩ := ints_at (HSI.out wr HB.out) hks
          simp only [Option.some.injEq, Addr.mk.injEq, and_true] at e'
          have := lt_size q'
          omega
        replace qS : W8.cell? ⟨bS, oS + k, none⟩ = some (.int .i64 n) := by rw [hW8]; exact (cell_other (.inl hne.symm)).trans qS
        replace QS := Lib.hid (show W8.heap[bB]? = some (.cells #[.int .i64 (k : Int), .int .i64 vv] 68 (0, 0)) by rw [hW8]; exact row_set QS.out 1 _)
        replace HBW := Lib.hid (show Below wr.heap.size wr W8 by rw [hW8]; exact HBW.out.setCell (by show wr.heap.size ≤ bB; have := HBB.out; omega) _)
        have HW8 := Lib.hid hW8
        clear hW8 hne
        go_wp2_with (rw [← HW8.out])
        clear HW8 s1 s2
        have HSL := Lib.hid (fun W (hq : Below W8.heap.size W8 W) => seal_yes u key dealer (k : Int) vv W HSE.out (HG.out _ (HB.out.trans ((HBW.out.trans (hq.mono HBW.out.size)).mono HB.out.size))))
        obtain ⟨pt, hpt⟩ : ∃ z, z = powE 4 u := ⟨_, rfl⟩
        obtain ⟨ci, hci⟩ : ∃ z, z = cipV u key dealer (k : Int) vv := ⟨_, rfl⟩
        rw [← hpt, ← hci] at HT HSL
        clear hpt hci
        have qB1 := row_cell QS.out (k := 1) (v := .int .i64 vv) rfl
        refine wp_region_flowsG (by kernel_rfl) (by kernel_rfl) (by kernel_rfl) (by kernel_rfl) (fun done v W => FSe11 W8 (.slice (some ⟨bS, oS, none⟩) ss.length k4) (k) (bS) (oS) (n) (m1) (u0) (u) (key) (dealer) (bB) (vv) (pt) (ci) done v W) (fun v => ?_) ?_ (fun v W h => ?_)
        · exact ⟨(Below.refl _ _).drew, (fun h => by cases h), (fun h => by cases h), (fun h => by cases h), (fun h => by cases h), (fun h => by cases h), (fun h => by cases h), (fun h => by cases h), (fun h => by cases h), (fun h => by cases h), (fun h => by cases h), (fun h => by cases h), (fun h => by cases h), (fun h => by cases h), (fun h => by cases h), (fun h => by cases h), (fun h => by cases h), (fun h => by cases h), (fun h => by cases h), Box3.nil _ _ _ _ _ _⟩
        · refine ⟨?_, ?_, ?_, ?_, ?_, ?_, ?_, ?_, ?_, ?_, ?_, ?_, ?_, ?_, ?_, ?_, ?_, ?_, ?_, ?_, trivial⟩
          · intro done v W A h hd hp hu hA hB hdf
            have e0 : A.tmps[3]?.getD undef = .slice (some ⟨bS, oS, none⟩) ss.length k4 := hB 3 rfl
            clear hA hB hp hu hdf
            go_simp
            exact ⟨_, rfl, { h with f0 := (fun _ => rfl) }⟩
          · intro done v W A h hd hp hu hA hB hdf
            have e0 : A.tmps[17]?.getD undef = .int .i64 (k : Int) := hB 17 rfl
            clear hA hB hp hu hdf
            go_simp
            exact ⟨_, rfl, { h with f1 := (fun _ => rfl) }⟩
          · intro done v W A h hd hp hu hA hB hdf
            have hd0 : done 0 = true := hp 0 rfl
            have hd1 : done 1 = true := hp 1 rfl
            have e0 := (hA 0 72 rfl hd0).trans (h.f0 hd0)
            have e1 := (hA 1 73 rfl hd1).trans (h.f1 hd1)
            clear hA hB hp hu hdf
            go_simp
            exact ⟨_, rfl, { h with f2 := (fun _ => rfl) }⟩
          · intro done v W A h hd hp hu hA hB hdf
            have hd2 : done 2 = true := hp 2 rfl
            have e0 := (hA 2 74 rfl hd2).trans (h.f2 hd2)
            have y0_ := below_cell h.b qS
            clear hA hB hp hu hdf
            go_simp
            exact ⟨_, rfl, { h with f3 := (fun _ => rfl) }⟩
          · intro done v W A h hd hp hu hA hB hdf
            have e0 : A.tmps[17]?.getD undef = .int .i64 (k : Int) := hB 17 rfl
            clear hA hB hp hu hdf
            go_simp
            exact ⟨_, rfl, { h with f4 := (fun _ => rfl) }⟩
          · intro done v W A h hd hp hu hA hB hdf
            have hd3 : done 3 = true := hp 3 rfl
            have hd4 : done 4 = true := hp 4 rfl
            have e0 := (hA 3 75 rfl hd3).trans (h.f3 hd3)
            have e1 := (hA 4 76 rfl hd4).trans (h.f4 hd4)
            clear hA hB hp hu hdf
            go_simp
            exact ⟨_, rfl, { h with f5 := (fun _ => rfl) }⟩
          · intro done v W A h hd hp hu hA hB hdf
            have hd5 : done 5 = true := hp 5 rfl
            have e0 := (hA 5 77 rfl hd5).trans (h.f5 hd5)
            clear hA hB hp hu hdf
            go_simp
            exact ⟨_, rfl, { h with f6 := (fun _ => rfl) }⟩
          · intro done v W A h hd hp hu hA hB hdf
            have hd6 : done 6 = true := hp 6 rfl
            have e1 := (hA 6 78 rfl hd6).trans (h.f6 hd6)
            clear hA hB hp hu hdf
            go_simp
            exact ⟨_, rfl, { h with f7 := (fun _ => rfl) }⟩
          · intro done v W A h hd hp hu hA hB hdf
            have e0 : A.tmps[19]?.getD undef = .int .i64 key := hB 19 rfl
            clear hA hB hp hu hdf
            go_simp
            exact ⟨_, rfl, { h with f8 := (fun _ => rfl) }⟩
          · intro done v W A h hd hp hu hA hB hdf
            have e0 : A.tmps[2]?.getD undef = .int .i64 dealer := hB 2 rfl
            clear hA hB hp hu hdf
            go_simp
            exact ⟨_, rfl, { h with f9 := (fun _ => rfl) }⟩
          · intro done v W A h hd hp hu hA hB hdf
            have e0 : A.tmps[17]?.getD undef = .int .i64 (k : Int) := hB 17 rfl
            clear hA hB hp hu hdf
            go_simp
            exact ⟨_, rfl, { h with f10 := (fun _ => rfl) }⟩
          · intro done v W A h hd hp hu hA hB hdf
            have e0 : A.tmps[18]?.getD undef = .pointer (some ⟨bB, 0, none⟩) := hB 18 rfl
            clear hA hB hp hu hdf
            go_simp
            exact ⟨_, rfl, { h with f11 := (fun _ => rfl) }⟩
          · intro done v W A h hd hp hu hA hB hdf
            have hd11 : done 11 = true := hp 11 rfl
            have e0 := (hA 11 83 rfl hd11).trans (h.f11 hd11)
            have y0_ := below_cell h.b qB1
            clear hA hB hp hu hdf
            go_simp
            exact ⟨_, rfl, { h with f12 := (fun _ => rfl) }⟩
          · intro done v W A h hd hp hu hA hB hdf
            have hd7 : done 7 = true := hp 7 rfl
            have hd8 : done 8 = true := hp 8 rfl
            have hd9 : done 9 = true := hp 9 rfl
            have hd10 : done 10 = true := hp 10 rfl
            have hd12 : done 12 = true := hp 12 rfl
            have e0 := (hA 7 79 rfl hd7).trans (h.f7 hd7)
            have e1 := (hA 8 80 rfl hd8).trans (h.f8 hd8)
            have e2 := (hA 9 81 rfl hd9).trans (h.f9 hd9)
            have e3 := (hA 10 82 rfl hd10).trans (h.f10 hd10)
            have e4 := (hA 12 84 rfl hd12).trans (h.f12 hd12)
            clear hA hB hp hu hdf
            go_simp
            with_reducible refine (HSL.out W h.b).mono ?_
            rintro e wq ⟨rfl, hb⟩
            exact ⟨_, rfl, { h with b := h.b.trans (hb.mono h.b.size), f13 := (fun _ => rfl), bx := (h.bx.below hb) }⟩
          · intro done v W A h hd hp hu hA hB hdf
            have hd13 : done 13 = true := hp 13 rfl
            have e0 := (hA 13 85 rfl hd13).trans (h.f13 hd13)
            clear hA hB hp hu hdf
            go_simp
            exact ⟨_, rfl, { h with f14 := (fun _ => rfl) }⟩
          · intro done v W A h hd hp hu hA hB hdf
            have hd14 : done 14 = true := hp 14 rfl
            have e0 := (hA 14 71 rfl hd14).trans (h.f14 hd14)
            clear hA hB hp hu hdf
            go_simp
            exact ⟨_, rfl, { h with f15 := (fun _ => rfl) }⟩
          · intro done v W A h hd hp hu hA hB hdf
            have hd14 : done 14 = true := hp 14 rfl
            have e0 := (hA 14 71 rfl hd14).trans (h.f14 hd14)
            clear hA hB hp hu hdf
            go_simp
            exact ⟨_, rfl, { h with f16 := (fun _ => rfl) }⟩
          · intro done v W A h hd hp hu hA hB hdf
            have n18_17 : done 18 = false := flow_not (fun hj => hu 18 17 rfl (hj)) hd
            have hb := below_new W zero3 49
            have hn := h.b.size
            clear hA hB hp hu hdf
            go_simp
            exact ⟨_, rfl, { h with b := h.b.trans (hb.mono h.b.size), bx := (h.bx.alloc n18_17 hn) }⟩
          · intro done v W A h hd hp hu hA hB hdf
            have hd15 : done 15 = true := hp 15 rfl
            have hd17 : done 17 = true := hp 17 rfl
            obtain ⟨B, eB, hn0, -, hS⟩ := h.bx hd17
            simp only [hd, Bool.false_eq_true, if_false] at hS
            have e1 := (hA 17 21 rfl hd17).trans eB
            have e2 := (hA 15 86 rfl hd15).trans (h.f15 hd15)
            have u0 := row_cell hS (k := 0) (v := .int .i64 0) rfl
            have u1 := row_cell hS (k := 1) (v := .int .i64 0) rfl
            have u2 := row_cell hS (k := 2) (v := .int .i64 0) rfl
            have g0 := row_free hS 0
            have g1 := row_free hS 1
            have g2 := row_free hS 2
            clear hA hB hp hu hdf
            go_simp
            exact ⟨undef, { h with b := put3_below _ _ _ h.b hn0, bx := (h.bx.store eB hd17 hS) }⟩
          · intro done v W A h hd hp hu hA hB hdf
            have hd16 : done 16 = true := hp 16 rfl
            have e0 := (hA 16 87 rfl hd16).trans (h.f16 hd16)
            clear hA hB hp hu hdf
            go_simp
            exact ⟨_, rfl, { h with f19 := (fun _ => rfl) }⟩
        simp only [putL, Act.put, Nat.reduceAdd, List.setIfInBounds_toArray, List.set_cons_zero, List.set_cons_succ]
        rw [h.f19 rfl]
        have hbr := h.b
        obtain ⟨bP, eX, -, -, hX⟩ := h.bx rfl
        have QP := Lib.hid (show W.heap[bP]? = some (.cells #[.int .i64 (k : Int), .int .i64 pt, .int .i64 ci] 49 (0, 0)) from hX)
        rw [eX]
        clear eX hX qB1 QS
        replace HBW := Lib.hid (HBW.out.trans (hbr.mono HBW.out.size))
        clear h hbr HSL
        replace Q1 := Lib.hid ((HBW.out.block _ (row_lt Q1.out)).trans Q1.out)
        have z0 := row_cell QP.out (k := 0) (v := .int .i64 (k : Int)) rfl
        have z1 := row_cell QP.out (k := 1) (v := .int .i64 pt) rfl
        have z2 := row_cell QP.out (k := 2) (v := .int .i64 ci) rfl
        have b2 := row_cell Q1.out (k := 2) (v := .slice a9 n9 k9) rfl
        have hr5 := World.alloc_heap_new W (.cells #[.int .i64 (k : Int), .int .i64 pt, .int .i64 ci] 49)
        have hb5 := below_new W #[.int .i64 (k : Int), .int .i64 pt, .int .i64 ci] 49
        have y0 := Lib.hid (row_cell hr5 (k := 0) (v := .int .i64 (k : Int)) rfl)
        have y1 := Lib.hid (row_cell hr5 (k := 1) (v := .int .i64 pt) rfl)
        have y2 := Lib.hid (row_cell hr5 (k := 2) (v := .int .i64 ci) rfl)
        have HOX := Lib.hid (own_keep (own_keep HO.out HBW.out) hb5)
        have HB6 := Lib.hid (HBW.out.trans (hb5.mono HBW.out.size))
        have HBS : W5.heap.size ≤ (W.alloc (.cells #[.int .i64 (k : Int), .int .i64 pt, .int .i64 ci] 49)).heap.size := Nat.le_trans HSZ.out HB6.out.size
        have HQ6 := Lib.hid ((hb5.block _ (row_lt Q1.out)).trans Q1.out)
        clear hr5 hb5
        go_wp2_with (refine app_parcel rfl _ _ rfl W5.heap.size (.slice a9 n9 k9) _ k rfl HOX.out W.heap.size 0 1 ((k : Int), pt, ci) rfl y0.out y1.out y2.out (by omega) HBS ?_; intro g9 c9 w9 h9 o9; have hb9 := own_below HOX.out o9.1 HBS; have x1 : w9.heap[w.heap.size + 1]? = some (.cells #[.int .i64 dealer, .slice (some ⟨gc, oc, none⟩) s.length cc, .slice a9 n9 k9] 28 (0, 0)) := (hb9.block _ (by have := HGL.out; omega)).trans HQ6.out; have x2 := row_cell x1 (k := 2) (v := .slice a9 n9 k9) rfl; have x3 := row_free x1 2; have H9 := Lib.hid h9; have X1 := Lib.hid x1; have B9 := Lib.hid hb9; clear h9 o9 x1 hb9)
        go_roundw
        case rel =>
          have hgl := HGL.out
          have hbw := (HB.out.trans (HB6.out.mono HB.out.size)).trans (B9.out.mono (show w.heap.size ≤ W5.heap.size by omega))
          refine ⟨k + 1, by omega, by go_num, hbw.setCell (by show w.heap.size ≤ w.heap.size + 1; omega) _, ?_, ?_, .slice (some ⟨g9, 0, none⟩) (k + 1) c9, ?_, ?_, ?_⟩
          · refine shares_set ?_ (by omega) _
            exact shares_keep (HL.out.below HB6.out) B9.out (by omega)
          · refine ints_set ?_ (by omega) _
            exact ints_keep (HC.out.below HB6.out) B9.out (by omega)
          · exact row_set X1.out 2 _
          · rw [HT.out]; exact own_keep_set H9.out (by omega) _
          · have := B9.out.size; simp [World.setCell]; omega
        case measure => simp [intOf]; omega
      · have hve : vv = p := HVF.out.trans (if_neg hkr)
        have d0 : ((k : Int) == row) = false := beq_eq_false_iff_ne.2 hkr
        rw [← hve] at QS
        clear hve hkr
        obtain ⟨W8, hW8⟩ : ∃ W8, W8 = w7 := ⟨_, rfl⟩
        subst hW8
        go_wp2_with fail
        have HSL := Lib.hid (fun W (hq : Below W8.heap.size W8 W) => seal_yes u key dealer (k : Int) vv W HSE.out (HG.out _ (HB.out.trans ((HBW.out.trans (hq.mono HBW.out.size)).mono HB.out.size))))
        obtain ⟨pt, hpt⟩ : ∃ z, z = powE 4 u := ⟨_, rfl⟩
        obtain ⟨ci, hci⟩ : ∃ z, z = cipV u key dealer (k : Int) vv := ⟨_, rfl⟩
        rw [← hpt, ← hci] at HT HSL
        clear hpt hci
        have qB1 := row_cell QS.out (k := 1) (v := .int .i64 vv) rfl
        refine wp_region_flowsG (by kernel_rfl) (by kernel_rfl) (by kernel_rfl) (by kernel_rfl) (fun done v W => FSe11 W8 (.slice (some ⟨bS, oS, none⟩) ss.length k4) (k) (bS) (oS) (n) (m1) (u0) (u) (key) (dealer) (bB) (vv) (pt) (ci) done v W) (fun v => ?_) ?_ (fun v W h => ?_)
        · exact ⟨(Below.refl _ _).drew, (fun h => by cases h), (fun h => by cases h), (fun h => by cases h), (fun h => by cases h), (fun h => by cases h), (fun h => by cases h), (fun h => by cases h), (fun h => by cases h), (fun h => by cases h), (fun h => by cases h), (fun h => by cases h), (fun h => by cases h), (fun h => by cases h), (fun h => by cases h), (fun h => by cases h), (fun h => by cases h), (fun h => by cases h), (fun h => by cases h), Box3.nil _ _ _ _ _ _⟩
        · refine ⟨?_, ?_, ?_, ?_, ?_, ?_, ?_, ?_, ?_, ?_, ?_, ?_, ?_, ?_, ?_, ?_, ?_, ?_, ?_, ?_, trivial⟩
          · intro done v W A h hd hp hu hA hB hdf
            have e0 : A.tmps[3]?.getD undef = .slice (some ⟨bS, oS, none⟩) ss.length k4 := hB 3 rfl
            clear hA hB hp hu hdf
            go_simp
            exact ⟨_, rfl, { h with f0 := (fun _ => rfl) }⟩
          · intro done v W A h hd hp hu hA hB hdf
            have e0 : A.tmps[17]?.getD undef = .int .i64 (k : Int) := hB 17 rfl
            clear hA hB hp hu hdf
            go_simp
            exact ⟨_, rfl, { h with f1 := (fun _ => rfl) }⟩
          · intro done v W A h hd hp hu hA hB hdf
            have hd0 : done 0 = true := hp 0 rfl
            have hd1 : done 1 = true := hp 1 rfl
            have e0 := (hA 0 72 rfl hd0).trans (h.f0 hd0)
            have e1 := (hA 1 73 rfl hd1).trans (h.f1 hd1)
            clear hA hB hp hu hdf
            go_simp
            exact ⟨_, rfl, { h with f2 := (fun _ => rfl) }⟩
          · intro done v W A h hd hp hu hA hB hdf
            have hd2 : done 2 = true := hp 2 rfl
            have e0 := (hA 2 74 rfl hd2).trans (h.f2 hd2)
            have y0_ := below_cell h.b qS
            clear hA hB hp hu hdf
            go_simp
            exact ⟨_, rfl, { h with f3 := (fun _ => rfl) }⟩
          · intro done v W A h hd hp hu hA hB hdf
            have e0 : A.tmps[17]?.getD undef = .int .i64 (k : Int) := hB 17 rfl
            clear hA hB hp hu hdf
            go_simp
            exact ⟨_, rfl, { h with f4 := (fun _ => rfl) }⟩
          · intro done v W A h hd hp hu hA hB hdf
            have hd3 : done 3 = true := hp 3 rfl
            have hd4 : done 4 = true := hp 4 rfl
            have e0 := (hA 3 75 rfl hd3).trans (h.f3 hd3)
            have e1 := (hA 4 76 rfl hd4).trans (h.f4 hd4)
            clear hA hB hp hu hdf
            go_simp
            exact ⟨_, rfl, { h with f5 := (fun _ => rfl) }⟩
          · intro done v W A h hd hp hu hA hB hdf
            have hd5 : done 5 = true := hp 5 rfl
            have e0 := (hA 5 77 rfl hd5).trans (h.f5 hd5)
            clear hA hB hp hu hdf
            go_simp
            exact ⟨_, rfl, { h with f6 := (fun _ => rfl) }⟩
          · intro done v W A h hd hp hu hA hB hdf
            have hd6 : done 6 = true := hp 6 rfl
            have e1 := (hA 6 78 rfl hd6).trans (h.f6 hd6)
            clear hA hB hp hu hdf
            go_simp
            exact ⟨_, rfl, { h with f7 := (fun _ => rfl) }⟩
          · intro done v W A h hd hp hu hA hB hdf
            have e0 : A.tmps[19]?.getD undef = .int .i64 key := hB 19 rfl
            clear hA hB hp hu hdf
            go_simp
            exact ⟨_, rfl, { h with f8 := (fun _ => rfl) }⟩
          · intro done v W A h hd hp hu hA hB hdf
            have e0 : A.tmps[2]?.getD undef = .int .i64 dealer := hB 2 rfl
            clear hA hB hp hu hdf
            go_simp
            exact ⟨_, rfl, { h with f9 := (fun _ => rfl) }⟩
          · intro done v W A h hd hp hu hA hB hdf
            have e0 : A.tmps[17]?.getD undef = .int .i64 (k : Int) := hB 17 rfl
            clear hA hB hp hu hdf
            go_simp
            exact ⟨_, rfl, { h with f10 := (fun _ => rfl) }⟩
          · intro done v W A h hd hp hu hA hB hdf
            have e0 : A.tmps[18]?.getD undef = .pointer (some ⟨bB, 0, none⟩) := hB 18 rfl
            clear hA hB hp hu hdf
            go_simp
            exact ⟨_, rfl, { h with f11 := (fun _ => rfl) }⟩
          · intro done v W A h hd hp hu hA hB hdf
            have hd11 : done 11 = true := hp 11 rfl
            have e0 := (hA 11 83 rfl hd11).trans (h.f11 hd11)
            have y0_ := below_cell h.b qB1
            clear hA hB hp hu hdf
            go_simp
            exact ⟨_, rfl, { h with f12 := (fun _ => rfl) }⟩
          · intro done v W A h hd hp hu hA hB hdf
            have hd7 : done 7 = true := hp 7 rfl
            have hd8 : done 8 = true := hp 8 rfl
            have hd9 : done 9 = true := hp 9 rfl
            have hd10 : done 10 = true := hp 10 rfl
            have hd12 : done 12 = true := hp 12 rfl
            have e0 := (hA 7 79 rfl hd7).trans (h.f7 hd7)
            have e1 := (hA 8 80 rfl hd8).trans (h.f8 hd8)
            have e2 := (hA 9 81 rfl hd9).trans (h.f9 hd9)
            have e3 := (hA 10 82 rfl hd10).trans (h.f10 hd10)
            have e4 := (hA 12 84 rfl hd12).trans (h.f12 hd12)
            clear hA hB hp hu hdf
            go_simp
            with_reducible refine (HSL.out W h.b).mono ?_
            rintro e wq ⟨rfl, hb⟩
            exact ⟨_, rfl, { h with b := h.b.trans (hb.mono h.b.size), f13 := (fun _ => rfl), bx := (h.bx.below hb) }⟩
          · intro done v W A h hd hp hu hA hB hdf
            have hd13 : done 13 = true := hp 13 rfl
            have e0 := (hA 13 85 rfl hd13).trans (h.f13 hd13)
            clear hA hB hp hu hdf
            go_simp
            exact ⟨_, rfl, { h with f14 := (fun _ => rfl) }⟩
          · intro done v W A h hd hp hu hA hB hdf
            have hd14 : done 14 = true := hp 14 rfl
            have e0 := (hA 14 71 rfl hd14).trans (h.f14 hd14)
            clear hA hB hp hu hdf
            go_simp
            exact ⟨_, rfl, { h with f15 := (fun _ => rfl) }⟩
          · intro done v W A h hd hp hu hA hB hdf
            have hd14 : done 14 = true := hp 14 rfl
            have e0 := (hA 14 71 rfl hd14).trans (h.f14 hd14)
            clear hA hB hp hu hdf
            go_simp
            exact ⟨_, rfl, { h with f16 := (fun _ => rfl) }⟩
          · intro done v W A h hd hp hu hA hB hdf
            have n18_17 : done 18 = false := flow_not (fun hj => hu 18 17 rfl (hj)) hd
            have hb := below_new W zero3 49
            have hn := h.b.size
            clear hA hB hp hu hdf
            go_simp
            exact ⟨_, rfl, { h with b := h.b.trans (hb.mono h.b.size), bx := (h.bx.alloc n18_17 hn) }⟩
          · intro done v W A h hd hp hu hA hB hdf
            have hd15 : done 15 = true := hp 15 rfl
            have hd17 : done 17 = true := hp 17 rfl
            obtain ⟨B, eB, hn0, -, hS⟩ := h.bx hd17
            simp only [hd, Bool.false_eq_true, if_false] at hS
            have e1 := (hA 17 21 rfl hd17).trans eB
            have e2 := (hA 15 86 rfl hd15).trans (h.f15 hd15)
            have u0 := row_cell hS (k := 0) (v := .int .i64 0) rfl
            have u1 := row_cell hS (k := 1) (v := .int .i64 0) rfl
            have u2 := row_cell hS (k := 2) (v := .int .i64 0) rfl
            have g0 := row_free hS 0
            have g1 := row_free hS 1
            have g2 := row_free hS 2
            clear hA hB hp hu hdf
            go_simp
            exact ⟨undef, { h with b := put3_below _ _ _ h.b hn0, bx := (h.bx.store eB hd17 hS) }⟩
          · intro done v W A h hd hp hu hA hB hdf
            have hd16 : done 16 = true := hp 16 rfl
            have e0 := (hA 16 87 rfl hd16).trans (h.f16 hd16)
            clear hA hB hp hu hdf
            go_simp
            exact ⟨_, rfl, { h with f19 := (fun _ => rfl) }⟩
        simp only [putL, Act.put, Nat.reduceAdd, List.setIfInBounds_toArray, List.set_cons_zero, List.set_cons_succ]
        rw [h.f19 rfl]
        have hbr := h.b
        obtain ⟨bP, eX, -, -, hX⟩ := h.bx rfl
        have QP := Lib.hid (show W.heap[bP]? = some (.cells #[.int .i64 (k : Int), .int .i64 pt, .int .i64 ci] 49 (0, 0)) from hX)
        rw [eX]
        clear eX hX qB1 QS
        replace HBW := Lib.hid (HBW.out.trans (hbr.mono HBW.out.size))
        clear h hbr HSL
        replace Q1 := Lib.hid ((HBW.out.block _ (row_lt Q1.out)).trans Q1.out)
        have z0 := row_cell QP.out (k := 0) (v := .int .i64 (k : Int)) rfl
        have z1 := row_cell QP.out (k := 1) (v := .int .i64 pt) rfl
        have z2 := row_cell QP.out (k := 2) (v := .int .i64 ci) rfl
        have b2 := row_cell Q1.out (k := 2) (v := .slice a9 n9 k9) rfl
        have hr5 := World.alloc_heap_new W (.cells #[.int .i64 (k : Int), .int .i64 pt, .int .i64 ci] 49)
        have hb5 := below_new W #[.int .i64 (k : Int), .int .i64 pt, .int .i64 ci] 49
        have y0 := Lib.hid (row_cell hr5 (k := 0) (v := .int .i64 (k : Int)) rfl)
        have y1 := Lib.hid (row_cell hr5 (k := 1) (v := .int .i64 pt) rfl)
        have y2 := Lib.hid (row_cell hr5 (k := 2) (v := .int .i64 ci) rfl)
        have HOX := Lib.hid (own_keep (own_keep HO.out HBW.out) hb5)
        have HB6 := Lib.hid (HBW.out.trans (hb5.mono HBW.out.size))
        have HBS : W5.heap.size ≤ (W.alloc (.cells #[.int .i64 (k : Int), .int .i64 pt, .int .i64 ci] 49)).heap.size := Nat.le_trans HSZ.out HB6.out.size
        have HQ6 := Lib.hid ((hb5.block _ (row_lt Q1.out)).trans Q1.out)
        clear hr5 hb5
        go_wp2_with (refine app_parcel rfl _ _ rfl W5.heap.size (.slice a9 n9 k9) _ k rfl HOX.out W.heap.size 0 1 ((k : Int), pt, ci) rfl y0.out y1.out y2.out (by omega) HBS ?_; intro g9 c9 w9 h9 o9; have hb9 := own_below HOX.out o9.1 HBS; have x1 : w9.heap[w.heap.size + 1]? = some (.cells #[.int .i64 dealer, .slice (some ⟨gc, oc, none⟩) s.length cc, .slice a9 n9 k9] 28 (0, 0)) := (hb9.block _ (by have := HGL.out; omega)).trans HQ6.out; have x2 := row_cell x1 (k := 2) (v := .slice a9 n9 k9) rfl; have x3 := row_free x1 2; have H9 := Lib.hid h9; have X1 := Lib.hid x1; have B9 := Lib.hid hb9; clear h9 o9 x1 hb9)
        go_roundw
        case rel =>
          have hgl := HGL.out
          have hbw := (HB.out.trans (HB6.out.mono HB.out.size)).trans (B9.out.mono (show w.heap.size ≤ W5.heap.size by omega))
          refine ⟨k + 1, by omega, by go_num, hbw.setCell (by show w.heap.size ≤ w.heap.size + 1; omega) _, ?_, ?_, .slice (some ⟨g9, 0, none⟩) (k + 1) c9, ?_, ?_, ?_⟩
          · refine shares_set ?_ (by omega) _
            exact shares_keep (HL.out.below HB6.out) B9.out (by omega)
          · refine ints_set ?_ (by omega) _
            exact ints_keep (HC.out.below HB6.out) B9.out (by omega)
          · exact row_set X1.out 2 _
          · rw [HT.out]; exact own_keep_set H9.out (by omega) _
          · have := B9.out.size; simp [World.setCell]; omega
        case measure => simp [intOf]; omega
    · obtain rfl : k = rows.length := by omega
      rw [List.take_of_length_le (by rw [dF_len]; exact Nat.le_refl _)] at ho
      have HPS : Hid (Parcels wr (.slice a9 n9 k9) (dF rows s dealer ss row by').ps) := Lib.hid (Parcels.own ho (by
        intro p hp
        obtain ⟨i, hi, rfl⟩ := List.getElem_of_mem hp
        rw [dF_at]
        have hi2 : i < 6 := by rw [dF_len] at hi; omega
        refine ⟨R64.mk (by show (-4611686018427387904 : Int) ≤ (i : Int); omega) (by show (i : Int) ≤ 4611686018427387904; omega), (el_powE el_four _).r64, num_r64 (cipV_num _ _ _ _ _)⟩) (by rw [dF_len]; omega))
      have hpl : (dF rows s dealer ss row by').ps.length = rows.length := dF_len _ _ _ _ _ _
      obtain ⟨gp, op, rfl, qp, -⟩ := HPS.out.at (k := 0) (by rw [hpl]; exact HSM.out.r1)
      have hgp : op = 0 ∧ W5.heap.size ≤ gp ∧ n9 = rows.length := by
        rcases ho.2 with ⟨h0, -⟩ | ⟨g', cap', cur, e1, hg, -⟩
        · cases h0
        · simp only [Value.slice.injEq, Option.some.injEq, Addr.mk.injEq] at e1
          obtain ⟨⟨rfl, rfl, -⟩, rfl, -⟩ := e1
          exact ⟨rfl, hg, rfl⟩
      obtain ⟨rfl, hg1, rfl⟩ := hgp
      have HGP := Lib.hid hg1
      have d9 : decide ((rows.length : Int) < (rows.length : Int)) = false := decide_eq_false (by omega)
      have d8 : decide (rows.length < rows.length) = false := decide_eq_false (by omega)
      clear hpl qp hg1 hb q1 hl hc ho hsz hkl hlt
      have b0 := row_cell Q1.out (k := 0) (v := .int .i64 dealer) rfl
      have b1 := row_cell Q1.out (k := 1) (v := .slice (some ⟨gc, oc, none⟩) s.length cc) rfl
      have b2 := row_cell Q1.out (k := 2) (v := .slice (some ⟨gp, 0, none⟩) rows.length k9) rfl
      have f0 := row_free Q1.out 0
      have f1 := row_free Q1.out 1
      have f2 := row_free Q1.out 2
      obtain ⟨W9, hW9⟩ : ∃ W9, W9 = put3 wr (w.heap.size + 1) (.int .i64 dealer) (.slice (some ⟨gc, oc, none⟩) s.length cc) (.slice (some ⟨gp, 0, none⟩) rows.length k9) := ⟨_, rfl⟩
      have HB9 := Lib.hid (hW9 ▸ put3_below _ _ _ HB.out (Nat.le_succ _))
      have HC9 := Lib.hid (hW9 ▸ ints_put3 HC.out (by have := HGL.out; omega) _ _ _)
      have HP9 := Lib.hid (hW9 ▸ parcels_put3 HPS.out (B := w.heap.size + 1) (fun b o2 e => by have := HGL.out; have := HGP.out; simp only [Option.some.injEq, Addr.mk.injEq] at e; omega) _ _ _)
      have q9 := hW9 ▸ put3_row _ _ _ _ Q1.out
      have y0 := row_cell q9 (k := 0) (v := .int .i64 dealer) rfl
      have y1 := row_cell q9 (k := 1) (v := .slice (some ⟨gc, oc, none⟩) s.length cc) rfl
      have y2 := row_cell q9 (k := 2) (v := .slice (some ⟨gp, 0, none⟩) rows.length k9) rfl
      unfold put3 at hW9
      have HW9 := Lib.hid hW9
      clear hW9 q9
      go_wp2_with (rw [← HW9.out])
      refine bodyPost_ret (v := .tuple #[.agg #[.int .i64 dealer, .slice (some ⟨gc, oc, none⟩) s.length cc, .slice (some ⟨gp, 0, none⟩) rows.length k9], .bool true]) ?_ rfl ?_
      · simp [results, Tryz.results20, go_sem, y0, y1, y2]
      · exact ⟨_, rfl, ⟨gc, oc, cc, gp, k9, rfl, HC9.out, HP9.out, by have := HGL.out; omega, by have := HGL.out; have := HGP.out; omega⟩, HB9.out⟩

end Go.Proofs.YtggnipkfliompaaGreatDoor
