/- The laws of moving: the examples hold (sane). -/
import Derived.Test.YtjjoadmkpbmhpaaMReP
import Derived.Test.YtjjoadmkpbmhpaaMRegF
import Derived.Test.YtjjoadmkpbmhpaaMProF
namespace Go.Proofs.Ytjjoadmkpbmhpaa
open Go.RowKit FP

theorem KeyBox.two {n0 : Nat} {ty : TypeId} {w : World} {d s : Bool} {v c : Value} (h : KeyBox n0 ty w d s v c) : Boxes n0 ty w d false s false v v c c := ⟨h, (fun h => by cases h), (fun _ h => by cases h)⟩
theorem KeyBox.nil (n0 : Nat) (ty : TypeId) (w : World) (v c : Value) : KeyBox n0 ty w false false v c := fun h => by cases h
theorem KeyBox.other {n0 : Nat} {ty : TypeId} {w : World} {d s : Bool} {v c c' : Value} (h : KeyBox n0 ty w d s v c) (hs : s = false) : KeyBox n0 ty w d s v c' := (h.two.other (cB' := c) hs rfl).a0
theorem KeyBox.alloc {n0 : Nat} {ty : TypeId} {w : World} {d s : Bool} {v c : Value} (h : KeyBox n0 ty w d s v c) (hs : s = false) (hn : n0 ≤ w.heap.size) : KeyBox n0 ty (w.alloc (.cells zeroK ty)) true s (.pointer (some ⟨w.heap.size, 0, none⟩)) c := (h.two.allocA hs hn).a0
theorem KeyBox.store {n0 : Nat} {ty : TypeId} {w : World} {d s : Bool} {v c : Value} {B : Nat} (h : KeyBox n0 ty w d s v c) (hv : v = .pointer (some ⟨B, 0, none⟩)) (hd : d = true) {e a b z : Value} (hc : c = .agg #[e, a, b, z]) (hS : w.heap[B]? = some (.cells zeroK ty (0, 0))) : KeyBox n0 ty (putKey w B e a b z) d true v c := (h.two.storeA hv hd hc hS).a0

theorem lit1 (w : World) (t : TypeId) (z : Int) (hz : R64 z) : Ints (w.alloc (.cells #[.int .i64 z] t)) (.slice (some ⟨w.heap.size, 0, none⟩) 1 1) [z] :=
  ints_lit w [z] _ t rfl (fun y hy => by rw [List.mem_singleton.1 hy]; exact hz) (by simp)
/-- The program of the board. -/
def BrdV (v : Value) (w : World) : Prop := ∃ a c b d, v = .agg #[.slice a 3 c, .slice b 3 d] ∧ Rows2 w (.slice a 3 c) R3 ∧ Ints w (.slice b 3 d) B3
theorem BrdV.below {v : Value} {w w' : World} (h : BrdV v w) (hb : Below w.heap.size w w') : BrdV v w' := by
  obtain ⟨a, c, b, d, e, h1, h2⟩ := h; exact ⟨a, c, b, d, e, h1.below hb, h2.below hb⟩
set_option maxRecDepth 100000 in
theorem board39_v (w : World) : Calls Try.prog 19 #[] w fun r w' => ∃ v, r = .returned v ∧ BrdV v w' ∧ Below w.heap.size w w' :=
  (board39_any w).mono fun _ _ ⟨a, c, b, d, e, h1, h2, h3⟩ => ⟨_, e, ⟨a, c, b, d, rfl, h1, h2⟩, h3⟩
def DlV (v : Value) (w : World) : Prop := ∃ al cl ac cc, v = .tuple #[.slice al 3 cl, .slice ac 2 cc, .int .i64 0] ∧ Shares w (.slice al 3 cl) SB ∧ Ints w (.slice ac 2 cc) CB
theorem DlV.below {v : Value} {w w' : World} (h : DlV v w) (hb : Below w.heap.size w w') : DlV v w' := by
  obtain ⟨a, c, b, d, e, h1, h2⟩ := h; exact ⟨a, c, b, d, e, h1.below hb, h2.below hb⟩
def MvV (v : Value) (w : World) : Prop := ∃ ra rc oa oc ka kn kc lv, v = .tuple #[.agg #[.int .i64 4, .slice ra 3 rc, .slice oa 3 oc, .slice ka kn kc], lv, .int .i64 0] ∧ Rows2 w (.slice ra 3 rc) R3 ∧ Ints w (.slice oa 3 oc) B3 ∧ Ints w (.slice ka kn kc) CB ∧ Shares w lv SB
theorem MvV.below {v : Value} {w w' : World} (h : MvV v w) (hb : Below w.heap.size w w') : MvV v w' := by
  obtain ⟨a, c, b, d, k, k2, k3, l, e, h1, h2, h3, h4⟩ := h; exact ⟨a, c, b, d, k, k2, k3, l, e, h1.below hb, h2.below hb, h3.below hb, h4.below hb⟩
theorem Rows2.keyW0 {W : World} {v : Value} {rows : List (List Int)} {B : Nat} {t : TypeId} (h : Rows2 W v rows) (hS : W.heap[B]? = some (.cells #[.int .i64 0, .slice none 0 0, .slice none 0 0, .slice none 0 0] t (0, 0))) (h0 : ∀ r ∈ rows, r ≠ [] ∧ ∀ z ∈ r, z ≠ 0) (e a b c : Value) : Rows2 (putKey W B e a b c) v rows := by
  obtain ⟨a', cap, h1, h2, h3, h4⟩ := h
  refine ⟨a', cap, h1, h2, h3, fun k hk => ?_⟩
  obtain ⟨b', off, r, h5, h6, h7⟩ := h4 k hk
  have hz := h0 _ (List.getElem_mem hk)
  refine ⟨b', off, r, h5, ?_, h7.keyW0 hS hz.2 _ _ _ _⟩
  by_cases hb : b' = B
  · subst hb
    obtain ⟨a2, c2, rfl, -, -, -, h8⟩ := h7
    obtain ⟨b3, o3, rfl, -⟩ := h8 0 (List.length_pos_iff.2 hz.1)
    simp only [World.cell?, hS] at h6
    exfalso
    generalize off + k = j at h6
    match j with
    | 0 => simp at h6
    | 1 => simp at h6
    | 2 => simp at h6
    | 3 => simp at h6
    | n + 4 => simp at h6
  · rw [keyW_cell W hb]; exact h6
theorem MvV.put {v : Value} {w : World} {B : Nat} {t : TypeId} (h : MvV v w) (hS : w.heap[B]? = some (.cells zeroK t (0, 0))) (e a b c : Value) : MvV v (putKey w B e a b c) := by
  obtain ⟨x1, x2, x3, x4, k, k2, k3, l, e1, h1, h2, h3, h4⟩ := h
  exact ⟨x1, x2, x3, x4, k, k2, k3, l, e1, h1.keyW0 hS (by decide) _ _ _ _, h2.keyW0 hS (by decide) _ _ _ _, h3.keyW0 hS (dealC_pos _) _ _ _ _, h4.keyW0 hS _ _ _ _⟩
structure FSa5 (w0 : World) (kv : Value) (sv : Value) (bK : Nat) (bS : Nat) (oS : Nat) (done : Nat → Bool) (v : Nat → Value) (w : World) : Prop where
  b : Below w0.heap.size w0 w
  f0 : done 0 = true → v 0 = kv
  f1 : done 1 = true → done 6 = false → BrdV (v 1) w
  f2 : done 2 = true → v 2 = sv
  f3 : done 3 = true → v 3 = .pointer (some ⟨bS, oS, none⟩)
  f4 : done 4 = true → v 4 = .agg #[.int .i64 0, .int .i64 1000]
  f5 : done 5 = true → done 6 = false → Ints w (v 5) [7]
  f6 : done 6 = true → DlV (v 6) w
  f7 : done 7 = true → v 7 = v 6
  f8 : done 8 = true → v 8 = projV 0 (v 6)
  f9 : done 9 = true → v 9 = projV 1 (v 6)
  f10 : done 10 = true → v 10 = projV 2 (v 6)
  f11 : done 11 = true → v 11 = projV 0 (v 6)
  f12 : done 12 = true → v 12 = projV 1 (v 6)
  f13 : done 13 = true → v 13 = projV 2 (v 6)

structure FSa8 (w0 : World) (kv : Value) (bK : Nat) (cv : Value) (done : Nat → Bool) (v : Nat → Value) (w : World) : Prop where
  b : Below w0.heap.size w0 w
  f0 : done 0 = true → v 0 = kv
  f1 : done 1 = true → done 3 = false → BrdV (v 1) w
  f2 : done 2 = true → v 2 = cv
  f3 : done 3 = true → v 3 = .tuple #[.bool true, .int .i64 0]
  f4 : done 4 = true → v 4 = .tuple #[.bool true, .int .i64 0]
  f5 : done 5 = true → v 5 = .bool true
  f6 : done 6 = true → v 6 = .int .i64 0
  f7 : done 7 = true → v 7 = .bool true
  f8 : done 8 = true → v 8 = .int .i64 0

structure FSa9 (w0 : World) (kv : Value) (bK : Nat) (done : Nat → Bool) (v : Nat → Value) (w : World) : Prop where
  b : Below w0.heap.size w0 w
  f0 : done 0 = true → v 0 = kv
  f1 : done 1 = true → done 2 = false → BrdV (v 1) w
  f2 : done 2 = true → v 2 = .tuple #[.bool false, .int .i64 1]
  f3 : done 3 = true → v 3 = .tuple #[.bool false, .int .i64 1]
  f4 : done 4 = true → v 4 = .bool false
  f5 : done 5 = true → v 5 = .int .i64 1
  f6 : done 6 = true → v 6 = .bool false
  f7 : done 7 = true → v 7 = .int .i64 1

structure FSa10 (w0 : World) (kv : Value) (bK : Nat) (done : Nat → Bool) (v : Nat → Value) (w : World) : Prop where
  b : Below w0.heap.size w0 w
  f0 : done 0 = true → v 0 = kv
  f1 : done 1 = true → done 2 = false → BrdV (v 1) w
  f2 : done 2 = true → v 2 = .tuple #[.bool false, .int .i64 340]
  f3 : done 3 = true → v 3 = .tuple #[.bool false, .int .i64 340]
  f4 : done 4 = true → v 4 = .bool false
  f5 : done 5 = true → v 5 = .int .i64 340
  f6 : done 6 = true → v 6 = .bool false
  f7 : done 7 = true → v 7 = .int .i64 340

structure FSa11 (w0 : World) (kv : Value) (bK : Nat) (cv : Value) (sv : Value) (done : Nat → Bool) (v : Nat → Value) (w : World) : Prop where
  b : Below w0.heap.size w0 w
  f0 : done 0 = true → v 0 = kv
  f1 : done 1 = true → done 8 = false → BrdV (v 1) w
  f2 : done 2 = true → done 8 = false → Ints w (v 2) [5]
  f3 : done 3 = true → done 8 = false → Ints w (v 3) [0]
  f4 : done 4 = true → v 4 = cv
  f5 : done 5 = true → done 8 = false → Rows2 w (v 5) [CB]
  f6 : done 6 = true → v 6 = sv
  f7 : done 7 = true → done 8 = false → SRows w (v 7) [SB]
  f8 : done 8 = true → MvV (v 8) w
  f9 : done 9 = true → v 9 = v 8
  f10 : done 10 = true → v 10 = projV 0 (v 8)
  f11 : done 11 = true → v 11 = projV 1 (v 8)
  f12 : done 12 = true → v 12 = projV 2 (v 8)
  f15 : done 15 = true → v 15 = projV 1 (v 8)
  f16 : done 16 = true → v 16 = projV 2 (v 8)
  bx : KeyBox w0.heap.size 30 w (done 13) (done 14) (v 13) (projV 0 (v 8))

structure FSa12 (w0 : World) (kv : Value) (bK : Nat) (done : Nat → Bool) (v : Nat → Value) (w : World) : Prop where
  b : Below w0.heap.size w0 w
  f0 : done 0 = true → v 0 = kv
  f1 : done 1 = true → done 2 = false → BrdV (v 1) w
  f2 : done 2 = true → v 2 = .tuple #[.agg #[.int .i64 0, .slice none 0 0, .slice none 0 0, .slice none 0 0], .slice none 0 0, .int .i64 340]
  f3 : done 3 = true → v 3 = .tuple #[.agg #[.int .i64 0, .slice none 0 0, .slice none 0 0, .slice none 0 0], .slice none 0 0, .int .i64 340]
  f4 : done 4 = true → v 4 = .agg #[.int .i64 0, .slice none 0 0, .slice none 0 0, .slice none 0 0]
  f5 : done 5 = true → v 5 = .slice none 0 0
  f6 : done 6 = true → v 6 = .int .i64 340
  f9 : done 9 = true → v 9 = .slice none 0 0
  f10 : done 10 = true → v 10 = .int .i64 340
  bx : KeyBox w0.heap.size 30 w (done 7) (done 8) (v 7) (.agg #[.int .i64 0, .slice none 0 0, .slice none 0 0, .slice none 0 0])

structure FSa15 (w0 : World) (kv : Value) (bK : Nat) (done : Nat → Bool) (v : Nat → Value) (w : World) : Prop where
  b : Below w0.heap.size w0 w
  f0 : done 0 = true → v 0 = kv
  f1 : done 1 = true → done 2 = false → BrdV (v 1) w
  f2 : done 2 = true → v 2 = .tuple #[.agg #[.int .i64 0, .slice none 0 0, .slice none 0 0, .slice none 0 0], .slice none 0 0, .int .i64 2]
  f3 : done 3 = true → v 3 = .tuple #[.agg #[.int .i64 0, .slice none 0 0, .slice none 0 0, .slice none 0 0], .slice none 0 0, .int .i64 2]
  f4 : done 4 = true → v 4 = .agg #[.int .i64 0, .slice none 0 0, .slice none 0 0, .slice none 0 0]
  f5 : done 5 = true → v 5 = .slice none 0 0
  f6 : done 6 = true → v 6 = .int .i64 2
  f9 : done 9 = true → v 9 = .slice none 0 0
  f10 : done 10 = true → v 10 = .int .i64 2
  bx : KeyBox w0.heap.size 30 w (done 7) (done 8) (v 7) (.agg #[.int .i64 0, .slice none 0 0, .slice none 0 0, .slice none 0 0])

structure FSa18 (w0 : World) (qv : Value) (kv : Value) (lv : Value) (cv : Value) (sv : Value) (bX : Nat) (done : Nat → Bool) (v : Nat → Value) (w : World) : Prop where
  b : Below w0.heap.size w0 w
  f0 : done 0 = true → v 0 = .pointer (some ⟨bX, 0, none⟩)
  f1 : done 1 = true → v 1 = .int .i64 4
  f2 : done 2 = true → v 2 = .bool true
  f3 : done 3 = true → v 3 = .bool true
  f4 : done 4 = true → v 4 = .pointer (some ⟨bX, 1, none⟩)
  f5 : done 5 = true → v 5 = qv
  f6 : done 6 = true → done 7 = false → BrdV (v 6) w
  f7 : done 7 = true → v 7 = .bool true
  f8 : done 8 = true → v 8 = .bool true
  f9 : done 9 = true → v 9 = .bool true
  f10 : done 10 = true → v 10 = .pointer (some ⟨bX, 3, none⟩)
  f11 : done 11 = true → v 11 = kv
  f12 : done 12 = true → v 12 = cv
  f13 : done 13 = true → v 13 = .bool true
  f14 : done 14 = true → v 14 = .bool true
  f15 : done 15 = true → v 15 = .bool true
  f16 : done 16 = true → v 16 = lv
  f17 : done 17 = true → v 17 = sv
  f18 : done 18 = true → v 18 = .bool true
  f19 : done 19 = true → v 19 = .bool true
  f20 : done 20 = true → v 20 = .bool true
  f21 : done 21 = true → v 21 = lv
  f22 : done 22 = true → v 22 = .agg #[.int .i64 0, .int .i64 1007]
  f23 : done 23 = true → v 23 = .agg #[.int .i64 1, .int .i64 1014]
  f24 : done 24 = true → v 24 = .agg #[.int .i64 2, .int .i64 1021]
  f25 : done 25 = true → done 26 = false → Shares w (v 25) [(0, 1007), (1, 1014), (2, 1021)]
  f26 : done 26 = true → v 26 = .bool true
  f27 : done 27 = true → v 27 = .bool true
  f28 : done 28 = true → v 28 = .bool true

set_option maxRecDepth 100000 in
set_option maxHeartbeats 16000000 in
theorem sane39_any (w : World) :
    Calls Try.prog 5 #[] w fun r w' => r = .returned (.bool true) ∧ Below w.heap.size w w' := by
  have HB := Lib.hid (Below.refl w.heap.size w)
  have HBD := Lib.hid board39_v
  have H64 := Lib.hid (fun (z : Int) (h : -2000 ≤ z ∧ z ≤ 2000) => (by unfold R64; omega : R64 z))
  go_enter Try.func5, Try.ntmps5
  go_wp2_with fail
  with_reducible refine (one39_any 5 _ (H64.out _ (by omega))).mono ?_
  rintro e w1 ⟨a1, k1, b1, d1, rfl, hr, ho, hb1⟩
  replace HB := Lib.hid (HB.out.trans (hb1.mono HB.out.size))
  clear hb1
  have HR := Lib.hid hr
  have HO := Lib.hid ho
  clear hr ho
  go_wp2_with fail
  with_reducible refine (deal_ok _ _ _ X1 [5] 1000 [] _ HR.out HO.out (Ints.nil _ _ _) exo_ok exo_p).mono ?_
  rintro e w2 ⟨al, cl, ac, cc, rfl, hl, hc, hb2⟩
  rw [show colsQ X1 = 1 by decide] at hc ⊢
  rw [show X1.length = 1 by decide] at hl ⊢
  rw [show dealL X1 [1000] = [(0, 1000)] by decide] at hl
  replace HB := Lib.hid (HB.out.trans (hb2.mono HB.out.size))
  clear hb2
  have HS := Lib.hid hl
  have HC := Lib.hid hc
  clear hl hc HR HO
  go_wp2_with fail
  with_reducible refine (one39_any 5 _ (H64.out _ (by omega))).mono ?_
  rintro e w4 ⟨a1, k1, b1, d1, rfl, hr, ho, hb4⟩
  replace HS := Lib.hid (HS.out.below hb4)
  replace HC := Lib.hid (HC.out.below hb4)
  replace HB := Lib.hid (HB.out.trans (hb4.mono HB.out.size))
  clear hb4
  have HR := Lib.hid hr
  have HO := Lib.hid ho
  clear hr ho
  obtain ⟨W4, hW4, hb5, hr5, hs5⟩ := box_key w4 (.int .i64 3) (.slice a1 1 k1) (.slice b1 1 d1) (.slice ac 1 cc) 30
  replace HS := Lib.hid (HS.out.below hb5)
  replace HC := Lib.hid (HC.out.below hb5)
  replace HR := Lib.hid (HR.out.below hb5)
  replace HO := Lib.hid (HO.out.below hb5)
  replace HB := Lib.hid (HB.out.trans (hb5.mono HB.out.size))
  clear hb5
  have Q := Lib.hid hr5
  have HW4 := Lib.hid hW4
  clear hW4 hr5 hs5
  go_wp2_with (rw [← HW4.out])
  clear HW4
  have q0 := row_cell Q.out (k := 0) rfl
  have q1 := row_cell Q.out (k := 1) rfl
  have q2 := row_cell Q.out (k := 2) rfl
  have q3 := row_cell Q.out (k := 3) rfl
  obtain ⟨aS, cS, eS, -, -, -, hk1⟩ := id HS.out
  obtain ⟨bS, oS, ea, s0, s1⟩ := hk1 0 (by decide)
  simp only [Value.slice.injEq] at eS
  obtain ⟨rfl, -, -⟩ := eS
  subst ea
  clear hk1
  simp only [Nat.zero_mul, Nat.add_zero, List.getElem_cons_zero] at s0 s1
  have HDL := Lib.hid (fun (W1 : World) (h1 : Below W4.heap.size W4 W1) (v1 v5 : Value) (m1 : BrdV v1 W1) (m5 : Ints W1 v5 [7]) => show Calls Try.prog 16 #[.agg #[.int .i64 3, .slice a1 1 k1, .slice b1 1 d1, .slice ac 1 cc], v1, .agg #[.int .i64 0, .int .i64 1000], v5] W1 (fun e w' => ∃ u, e = .returned u ∧ DlV u w' ∧ Below W1.heap.size W1 w') from by
    obtain ⟨ra, rc, oa, oc, rfl, hr, ho⟩ := m1
    exact (md_val 3 (.slice a1 1 k1) (.slice b1 1 d1) (.slice ac 1 cc) _ _ v5 0 1000 X1 [5] CX R3 B3 [7] W1 (HR.out.below h1) (HO.out.below h1) (HC.out.below h1) hr ho m5 (H64.out _ (by omega)) (H64.out _ (by omega)) exo_d).mono fun e w' ⟨al, cl, ac, cc, e1, h2, h3, _, h4⟩ => ⟨_, e1, ⟨al, cl, ac, cc, rfl, h2.1, h3.1⟩, h4⟩)
  refine wp_region_flowsG (by kernel_rfl) (by kernel_rfl) (by kernel_rfl) (by kernel_rfl) (fun done v W => FSa5 W4 (.agg #[.int .i64 3, .slice a1 1 k1, .slice b1 1 d1, .slice ac 1 cc]) (.slice (some ⟨bS, oS, none⟩) 1 cl) (w4.heap.size) (bS) (oS) done v W) (fun v => ?_) ?_ (fun v W h => ?_)
  · exact ⟨(Below.refl _ _).drew, (fun h => by cases h), (fun h => by cases h), (fun h => by cases h), (fun h => by cases h), (fun h => by cases h), (fun h => by cases h), (fun h => by cases h), (fun h => by cases h), (fun h => by cases h), (fun h => by cases h), (fun h => by cases h), (fun h => by cases h), (fun h => by cases h), (fun h => by cases h)⟩
  · refine ⟨?_, ?_, ?_, ?_, ?_, ?_, ?_, ?_, ?_, ?_, ?_, ?_, ?_, ?_, trivial⟩
    · intro done v W A h hd hp hu hA hB hdf
      have e0 : A.tmps[4]?.getD undef = .pointer (some ⟨w4.heap.size, 0, none⟩) := hB 4 rfl
      have y0_ := below_cell h.b q0
      have y1_ := below_cell h.b q1
      have y2_ := below_cell h.b q2
      have y3_ := below_cell h.b q3
      clear hA hB hp hu hdf
      go_simp
      exact ⟨_, rfl, { h with f0 := (fun _ => rfl) }⟩
    · intro done v W A h hd hp hu hA hB hdf
      clear hA hB hp hu hdf
      go_simp
      with_reducible refine (HBD.out W).mono ?_
      rintro e wq ⟨u, rfl, hn, hb⟩
      exact ⟨_, rfl, { h with b := h.b.trans (hb.mono h.b.size), f1 := (fun _ _ => hn), f5 := (fun h1 h2 => (h.f5 h1 h2).below hb), f6 := (fun h1 => (h.f6 h1).below hb) }⟩
    · intro done v W A h hd hp hu hA hB hdf
      have e0 : A.tmps[1]?.getD undef = .slice (some ⟨bS, oS, none⟩) 1 cl := hB 1 rfl
      clear hA hB hp hu hdf
      go_simp
      exact ⟨_, rfl, { h with f2 := (fun _ => rfl) }⟩
    · intro done v W A h hd hp hu hA hB hdf
      have hd2 : done 2 = true := hp 2 rfl
      have e0 := (hA 2 48 rfl hd2).trans (h.f2 hd2)
      clear hA hB hp hu hdf
      go_simp
      exact ⟨_, rfl, { h with f3 := (fun _ => rfl) }⟩
    · intro done v W A h hd hp hu hA hB hdf
      have hd3 : done 3 = true := hp 3 rfl
      have e0 := (hA 3 49 rfl hd3).trans (h.f3 hd3)
      have y0_ := below_cell h.b s0
      have y1_ := below_cell h.b s1
      clear hA hB hp hu hdf
      go_simp
      exact ⟨_, rfl, { h with f4 := (fun _ => rfl) }⟩
    · intro done v W A h hd hp hu hA hB hdf
      have hb := below_new W #[.int .i64 7] 3
      clear hA hB hp hu hdf
      go_simp
      exact ⟨_, rfl, { h with b := h.b.trans (hb.mono h.b.size), f1 := (fun h1 h2 => (h.f1 h1 h2).below hb), f5 := (fun _ _ => lit1 W _ 7 (by unfold R64; omega)), f6 := (fun h1 => (h.f6 h1).below hb) }⟩
    · intro done v W A h hd hp hu hA hB hdf
      have n7_6 : done 7 = false := flow_not (fun hj => hu 7 6 rfl (hj)) hd
      have n8_6 : done 8 = false := flow_not (fun hj => hu 7 6 rfl (hu 8 7 rfl (hj))) hd
      have n9_6 : done 9 = false := flow_not (fun hj => hu 7 6 rfl (hu 9 7 rfl (hj))) hd
      have n10_6 : done 10 = false := flow_not (fun hj => hu 7 6 rfl (hu 10 7 rfl (hj))) hd
      have n11_6 : done 11 = false := flow_not (fun hj => hu 11 6 rfl (hj)) hd
      have n12_6 : done 12 = false := flow_not (fun hj => hu 12 6 rfl (hj)) hd
      have n13_6 : done 13 = false := flow_not (fun hj => hu 13 6 rfl (hj)) hd
      have hd0 : done 0 = true := hp 0 rfl
      have hd1 : done 1 = true := hp 1 rfl
      have hd4 : done 4 = true := hp 4 rfl
      have hd5 : done 5 = true := hp 5 rfl
      have e0 := (hA 0 46 rfl hd0).trans (h.f0 hd0)
      have e1 := hA 1 47 rfl hd1
      have m1 := h.f1 hd1 hd
      have e2 := (hA 4 50 rfl hd4).trans (h.f4 hd4)
      have e3 := hA 5 51 rfl hd5
      have m3 := h.f5 hd5 hd
      clear hA hB hp hu hdf
      go_simp
      with_reducible refine (HDL.out W h.b _ _ m1 m3).mono ?_
      rintro e wq ⟨u, rfl, hn, hb⟩
      exact ⟨_, rfl, { h with b := h.b.trans (hb.mono h.b.size), f1 := (fun _ h2 => absurd (show true = false from h2) (by decide)), f5 := (fun _ h2 => absurd (show true = false from h2) (by decide)), f6 := (fun _ => hn), f7 := (fun hj => absurd (hj.symm.trans n7_6) (by decide)), f8 := (fun hj => absurd (hj.symm.trans n8_6) (by decide)), f9 := (fun hj => absurd (hj.symm.trans n9_6) (by decide)), f10 := (fun hj => absurd (hj.symm.trans n10_6) (by decide)), f11 := (fun hj => absurd (hj.symm.trans n11_6) (by decide)), f12 := (fun hj => absurd (hj.symm.trans n12_6) (by decide)), f13 := (fun hj => absurd (hj.symm.trans n13_6) (by decide)) }⟩
    · intro done v W A h hd hp hu hA hB hdf
      have hd6 : done 6 = true := hp 6 rfl
      have e0 := hA 6 52 rfl hd6
      clear hA hB hp hu hdf
      go_simp
      exact ⟨_, rfl, { h with f7 := (fun _ => rfl) }⟩
    · intro done v W A h hd hp hu hA hB hdf
      have hd6 : done 6 = true := hu 7 6 rfl (hp 7 rfl)
      have hd7 : done 7 = true := hp 7 rfl
      obtain ⟨al2, cl2, ac2, cc2, eD, hsD, hcD⟩ := h.f6 hd6
      have e0 := (hA 7 45 rfl hd7).trans ((h.f7 hd7).trans eD)
      clear hA hB hp hu hdf
      go_simp
      exact ⟨_, rfl, { h with f8 := (fun _ => (by show _ = projV 0 (v 6); rw [eD]; rfl)) }⟩
    · intro done v W A h hd hp hu hA hB hdf
      have hd6 : done 6 = true := hu 7 6 rfl (hp 7 rfl)
      have hd7 : done 7 = true := hp 7 rfl
      obtain ⟨al2, cl2, ac2, cc2, eD, hsD, hcD⟩ := h.f6 hd6
      have e0 := (hA 7 45 rfl hd7).trans ((h.f7 hd7).trans eD)
      clear hA hB hp hu hdf
      go_simp
      exact ⟨_, rfl, { h with f9 := (fun _ => (by show _ = projV 1 (v 6); rw [eD]; rfl)) }⟩
    · intro done v W A h hd hp hu hA hB hdf
      have hd6 : done 6 = true := hu 7 6 rfl (hp 7 rfl)
      have hd7 : done 7 = true := hp 7 rfl
      obtain ⟨al2, cl2, ac2, cc2, eD, hsD, hcD⟩ := h.f6 hd6
      have e0 := (hA 7 45 rfl hd7).trans ((h.f7 hd7).trans eD)
      clear hA hB hp hu hdf
      go_simp
      exact ⟨_, rfl, { h with f10 := (fun _ => (by show _ = projV 2 (v 6); rw [eD]; rfl)) }⟩
    · intro done v W A h hd hp hu hA hB hdf
      have hd8 : done 8 = true := hp 8 rfl
      have e0 := hA 8 53 rfl hd8
      clear hA hB hp hu hdf
      go_simp
      exact ⟨_, rfl, { h with f11 := (fun _ => (h.f8 hd8)) }⟩
    · intro done v W A h hd hp hu hA hB hdf
      have hd9 : done 9 = true := hp 9 rfl
      have e0 := hA 9 54 rfl hd9
      clear hA hB hp hu hdf
      go_simp
      exact ⟨_, rfl, { h with f12 := (fun _ => (h.f9 hd9)) }⟩
    · intro done v W A h hd hp hu hA hB hdf
      have hd10 : done 10 = true := hp 10 rfl
      have e0 := hA 10 55 rfl hd10
      clear hA hB hp hu hdf
      go_simp
      exact ⟨_, rfl, { h with f13 := (fun _ => (h.f10 hd10)) }⟩
  simp only [putL, Act.put, Nat.reduceAdd, List.setIfInBounds_toArray, List.set_cons_zero, List.set_cons_succ]
  obtain ⟨al2, cl2, ac2, cc2, eD, hsD, hcD⟩ := h.f6 rfl
  rw [show v 11 = .slice al2 3 cl2 from (h.f11 rfl).trans (by rw [eD]; rfl)]
  rw [show v 12 = .slice ac2 2 cc2 from (h.f12 rfl).trans (by rw [eD]; rfl)]
  rw [show v 13 = .int .i64 0 from (h.f13 rfl).trans (by rw [eD]; rfl)]
  have hbr := h.b
  replace q0 := below_cell hbr q0
  replace q1 := below_cell hbr q1
  replace q2 := below_cell hbr q2
  replace q3 := below_cell hbr q3
  replace HS := Lib.hid (HS.out.below hbr)
  replace HC := Lib.hid (HC.out.below hbr)
  replace HR := Lib.hid (HR.out.below hbr)
  replace HO := Lib.hid (HO.out.below hbr)
  replace Q := Lib.hid ((hbr.block _ (row_lt Q.out)).trans Q.out)
  replace HB := Lib.hid (HB.out.trans (hbr.mono HB.out.size))
  have HSB := Lib.hid hsD
  have HCB := Lib.hid hcD
  clear h hsD hcD eD hbr s0 s1 HDL HS
  go_wp2_with fail
  obtain ⟨wr, hwr⟩ : ∃ x, x = W := ⟨_, rfl⟩
  subst hwr
  have HF1 := Lib.hid (fun (W1 : World) (h1 : Below wr.heap.size wr W1) (v1 : Value) (m1 : BrdV v1 W1) => show Calls Try.prog 11 #[.agg #[.int .i64 3, .slice a1 1 k1, .slice b1 1 d1, .slice ac 1 cc], v1, .int .i64 0, (.slice ac2 2 cc2)] W1 (fun e w' => e = .returned (.tuple #[.bool true, .int .i64 0]) ∧ Below W1.heap.size W1 w') from by
    obtain ⟨ra, rc, oa, oc, rfl, hr, ho⟩ := m1
    exact mf_val 3 (.slice a1 1 k1) (.slice b1 1 d1) (.slice ac 1 cc) _ _ (.slice ac2 2 cc2) 0 X1 [5] CX R3 B3 CB _ _ W1 (HR.out.below h1) (HO.out.below h1) (HC.out.below h1) hr ho (HCB.out.below h1) (H64.out _ (by omega)) exo_f1)
  refine wp_region_flowsG (by kernel_rfl) (by kernel_rfl) (by kernel_rfl) (by kernel_rfl) (fun done v W => FSa8 wr (.agg #[.int .i64 3, .slice a1 1 k1, .slice b1 1 d1, .slice ac 1 cc]) (w4.heap.size) (.slice ac2 2 cc2) done v W) (fun v => ?_) ?_ (fun v W h => ?_)
  · exact ⟨(Below.refl _ _).drew, (fun h => by cases h), (fun h => by cases h), (fun h => by cases h), (fun h => by cases h), (fun h => by cases h), (fun h => by cases h), (fun h => by cases h), (fun h => by cases h), (fun h => by cases h)⟩
  · refine ⟨?_, ?_, ?_, ?_, ?_, ?_, ?_, ?_, ?_, trivial⟩
    · intro done v W A h hd hp hu hA hB hdf
      have e0 : A.tmps[4]?.getD undef = .pointer (some ⟨w4.heap.size, 0, none⟩) := hB 4 rfl
      have y0_ := below_cell h.b q0
      have y1_ := below_cell h.b q1
      have y2_ := below_cell h.b q2
      have y3_ := below_cell h.b q3
      clear hA hB hp hu hdf
      go_simp
      exact ⟨_, rfl, { h with f0 := (fun _ => rfl) }⟩
    · intro done v W A h hd hp hu hA hB hdf
      clear hA hB hp hu hdf
      go_simp
      with_reducible refine (HBD.out W).mono ?_
      rintro e wq ⟨u, rfl, hn, hb⟩
      exact ⟨_, rfl, { h with b := h.b.trans (hb.mono h.b.size), f1 := (fun _ _ => hn) }⟩
    · intro done v W A h hd hp hu hA hB hdf
      have e0 : A.tmps[6]?.getD undef = .slice ac2 2 cc2 := hB 6 rfl
      clear hA hB hp hu hdf
      go_simp
      exact ⟨_, rfl, { h with f2 := (fun _ => rfl) }⟩
    · intro done v W A h hd hp hu hA hB hdf
      have hd0 : done 0 = true := hp 0 rfl
      have hd1 : done 1 = true := hp 1 rfl
      have hd2 : done 2 = true := hp 2 rfl
      have e0 := (hA 0 69 rfl hd0).trans (h.f0 hd0)
      have e1 := hA 1 70 rfl hd1
      have m1 := h.f1 hd1 hd
      have e3 := (hA 2 71 rfl hd2).trans (h.f2 hd2)
      clear hA hB hp hu hdf
      go_simp
      with_reducible refine (HF1.out W h.b _ m1).mono ?_
      rintro e wq ⟨rfl, hb⟩
      exact ⟨_, rfl, { h with b := h.b.trans (hb.mono h.b.size), f1 := (fun _ h2 => absurd (show true = false from h2) (by decide)), f3 := (fun _ => rfl) }⟩
    · intro done v W A h hd hp hu hA hB hdf
      have hd3 : done 3 = true := hp 3 rfl
      have e0 := (hA 3 72 rfl hd3).trans (h.f3 hd3)
      clear hA hB hp hu hdf
      go_simp
      exact ⟨_, rfl, { h with f4 := (fun _ => rfl) }⟩
    · intro done v W A h hd hp hu hA hB hdf
      have hd4 : done 4 = true := hp 4 rfl
      have e0 := (hA 4 68 rfl hd4).trans (h.f4 hd4)
      clear hA hB hp hu hdf
      go_simp
      exact ⟨_, rfl, { h with f5 := (fun _ => rfl) }⟩
    · intro done v W A h hd hp hu hA hB hdf
      have hd4 : done 4 = true := hp 4 rfl
      have e0 := (hA 4 68 rfl hd4).trans (h.f4 hd4)
      clear hA hB hp hu hdf
      go_simp
      exact ⟨_, rfl, { h with f6 := (fun _ => rfl) }⟩
    · intro done v W A h hd hp hu hA hB hdf
      have hd5 : done 5 = true := hp 5 rfl
      have e0 := (hA 5 73 rfl hd5).trans (h.f5 hd5)
      clear hA hB hp hu hdf
      go_simp
      exact ⟨_, rfl, { h with f7 := (fun _ => rfl) }⟩
    · intro done v W A h hd hp hu hA hB hdf
      have hd6 : done 6 = true := hp 6 rfl
      have e0 := (hA 6 74 rfl hd6).trans (h.f6 hd6)
      clear hA hB hp hu hdf
      go_simp
      exact ⟨_, rfl, { h with f8 := (fun _ => rfl) }⟩
  simp only [putL, Act.put, Nat.reduceAdd, List.setIfInBounds_toArray, List.set_cons_zero, List.set_cons_succ]
  rw [h.f7 rfl]
  rw [h.f8 rfl]
  have hbr := h.b
  replace q0 := below_cell hbr q0
  replace q1 := below_cell hbr q1
  replace q2 := below_cell hbr q2
  replace q3 := below_cell hbr q3
  replace HC := Lib.hid (HC.out.below hbr)
  replace HR := Lib.hid (HR.out.below hbr)
  replace HO := Lib.hid (HO.out.below hbr)
  replace HSB := Lib.hid (HSB.out.below hbr)
  replace HCB := Lib.hid (HCB.out.below hbr)
  replace Q := Lib.hid ((hbr.block _ (row_lt Q.out)).trans Q.out)
  replace HB := Lib.hid (HB.out.trans (hbr.mono HB.out.size))
  clear h hbr HF1
  go_wp2_with fail
  obtain ⟨wr, hwr⟩ : ∃ x, x = W := ⟨_, rfl⟩
  subst hwr
  have HF2 := Lib.hid (fun (W1 : World) (h1 : Below wr.heap.size wr W1) (v1 : Value) (m1 : BrdV v1 W1) => show Calls Try.prog 11 #[.agg #[.int .i64 3, .slice a1 1 k1, .slice b1 1 d1, .slice ac 1 cc], v1, .int .i64 (-1), (.slice none 0 0)] W1 (fun e w' => e = .returned (.tuple #[.bool false, .int .i64 1]) ∧ Below W1.heap.size W1 w') from by
    obtain ⟨ra, rc, oa, oc, rfl, hr, ho⟩ := m1
    exact mf_val 3 (.slice a1 1 k1) (.slice b1 1 d1) (.slice ac 1 cc) _ _ (.slice none 0 0) (-1) X1 [5] CX R3 B3 [] _ _ W1 (HR.out.below h1) (HO.out.below h1) (HC.out.below h1) hr ho (Ints.nil _ _ _) (H64.out _ (by omega)) exo_f2)
  refine wp_region_flowsG (by kernel_rfl) (by kernel_rfl) (by kernel_rfl) (by kernel_rfl) (fun done v W => FSa9 wr (.agg #[.int .i64 3, .slice a1 1 k1, .slice b1 1 d1, .slice ac 1 cc]) (w4.heap.size) done v W) (fun v => ?_) ?_ (fun v W h => ?_)
  · exact ⟨(Below.refl _ _).drew, (fun h => by cases h), (fun h => by cases h), (fun h => by cases h), (fun h => by cases h), (fun h => by cases h), (fun h => by cases h), (fun h => by cases h), (fun h => by cases h)⟩
  · refine ⟨?_, ?_, ?_, ?_, ?_, ?_, ?_, ?_, trivial⟩
    · intro done v W A h hd hp hu hA hB hdf
      have e0 : A.tmps[4]?.getD undef = .pointer (some ⟨w4.heap.size, 0, none⟩) := hB 4 rfl
      have y0_ := below_cell h.b q0
      have y1_ := below_cell h.b q1
      have y2_ := below_cell h.b q2
      have y3_ := below_cell h.b q3
      clear hA hB hp hu hdf
      go_simp
      exact ⟨_, rfl, { h with f0 := (fun _ => rfl) }⟩
    · intro done v W A h hd hp hu hA hB hdf
      clear hA hB hp hu hdf
      go_simp
      with_reducible refine (HBD.out W).mono ?_
      rintro e wq ⟨u, rfl, hn, hb⟩
      exact ⟨_, rfl, { h with b := h.b.trans (hb.mono h.b.size), f1 := (fun _ _ => hn) }⟩
    · intro done v W A h hd hp hu hA hB hdf
      have hd0 : done 0 = true := hp 0 rfl
      have hd1 : done 1 = true := hp 1 rfl
      have e0 := (hA 0 76 rfl hd0).trans (h.f0 hd0)
      have e1 := hA 1 77 rfl hd1
      have m1 := h.f1 hd1 hd
      clear hA hB hp hu hdf
      go_simp
      with_reducible refine (HF2.out W h.b _ m1).mono ?_
      rintro e wq ⟨rfl, hb⟩
      exact ⟨_, rfl, { h with b := h.b.trans (hb.mono h.b.size), f1 := (fun _ h2 => absurd (show true = false from h2) (by decide)), f2 := (fun _ => rfl) }⟩
    · intro done v W A h hd hp hu hA hB hdf
      have hd2 : done 2 = true := hp 2 rfl
      have e0 := (hA 2 78 rfl hd2).trans (h.f2 hd2)
      clear hA hB hp hu hdf
      go_simp
      exact ⟨_, rfl, { h with f3 := (fun _ => rfl) }⟩
    · intro done v W A h hd hp hu hA hB hdf
      have hd3 : done 3 = true := hp 3 rfl
      have e0 := (hA 3 75 rfl hd3).trans (h.f3 hd3)
      clear hA hB hp hu hdf
      go_simp
      exact ⟨_, rfl, { h with f4 := (fun _ => rfl) }⟩
    · intro done v W A h hd hp hu hA hB hdf
      have hd3 : done 3 = true := hp 3 rfl
      have e0 := (hA 3 75 rfl hd3).trans (h.f3 hd3)
      clear hA hB hp hu hdf
      go_simp
      exact ⟨_, rfl, { h with f5 := (fun _ => rfl) }⟩
    · intro done v W A h hd hp hu hA hB hdf
      have hd4 : done 4 = true := hp 4 rfl
      have e0 := (hA 4 79 rfl hd4).trans (h.f4 hd4)
      clear hA hB hp hu hdf
      go_simp
      exact ⟨_, rfl, { h with f6 := (fun _ => rfl) }⟩
    · intro done v W A h hd hp hu hA hB hdf
      have hd5 : done 5 = true := hp 5 rfl
      have e0 := (hA 5 80 rfl hd5).trans (h.f5 hd5)
      clear hA hB hp hu hdf
      go_simp
      exact ⟨_, rfl, { h with f7 := (fun _ => rfl) }⟩
  simp only [putL, Act.put, Nat.reduceAdd, List.setIfInBounds_toArray, List.set_cons_zero, List.set_cons_succ]
  rw [h.f6 rfl]
  rw [h.f7 rfl]
  have hbr := h.b
  replace q0 := below_cell hbr q0
  replace q1 := below_cell hbr q1
  replace q2 := below_cell hbr q2
  replace q3 := below_cell hbr q3
  replace HC := Lib.hid (HC.out.below hbr)
  replace HR := Lib.hid (HR.out.below hbr)
  replace HO := Lib.hid (HO.out.below hbr)
  replace HSB := Lib.hid (HSB.out.below hbr)
  replace HCB := Lib.hid (HCB.out.below hbr)
  replace Q := Lib.hid ((hbr.block _ (row_lt Q.out)).trans Q.out)
  replace HB := Lib.hid (HB.out.trans (hbr.mono HB.out.size))
  clear h hbr HF2
  go_wp2_with fail
  obtain ⟨wr, hwr⟩ : ∃ x, x = W := ⟨_, rfl⟩
  subst hwr
  have HF3 := Lib.hid (fun (W1 : World) (h1 : Below wr.heap.size wr W1) (v1 : Value) (m1 : BrdV v1 W1) => show Calls Try.prog 11 #[.agg #[.int .i64 3, .slice a1 1 k1, .slice b1 1 d1, .slice ac 1 cc], v1, .int .i64 0, (.slice none 0 0)] W1 (fun e w' => e = .returned (.tuple #[.bool false, .int .i64 340]) ∧ Below W1.heap.size W1 w') from by
    obtain ⟨ra, rc, oa, oc, rfl, hr, ho⟩ := m1
    exact mf_val 3 (.slice a1 1 k1) (.slice b1 1 d1) (.slice ac 1 cc) _ _ (.slice none 0 0) 0 X1 [5] CX R3 B3 [] _ _ W1 (HR.out.below h1) (HO.out.below h1) (HC.out.below h1) hr ho (Ints.nil _ _ _) (H64.out _ (by omega)) exo_f3)
  refine wp_region_flowsG (by kernel_rfl) (by kernel_rfl) (by kernel_rfl) (by kernel_rfl) (fun done v W => FSa10 wr (.agg #[.int .i64 3, .slice a1 1 k1, .slice b1 1 d1, .slice ac 1 cc]) (w4.heap.size) done v W) (fun v => ?_) ?_ (fun v W h => ?_)
  · exact ⟨(Below.refl _ _).drew, (fun h => by cases h), (fun h => by cases h), (fun h => by cases h), (fun h => by cases h), (fun h => by cases h), (fun h => by cases h), (fun h => by cases h), (fun h => by cases h)⟩
  · refine ⟨?_, ?_, ?_, ?_, ?_, ?_, ?_, ?_, trivial⟩
    · intro done v W A h hd hp hu hA hB hdf
      have e0 : A.tmps[4]?.getD undef = .pointer (some ⟨w4.heap.size, 0, none⟩) := hB 4 rfl
      have y0_ := below_cell h.b q0
      have y1_ := below_cell h.b q1
      have y2_ := below_cell h.b q2
      have y3_ := below_cell h.b q3
      clear hA hB hp hu hdf
      go_simp
      exact ⟨_, rfl, { h with f0 := (fun _ => rfl) }⟩
    · intro done v W A h hd hp hu hA hB hdf
      clear hA hB hp hu hdf
      go_simp
      with_reducible refine (HBD.out W).mono ?_
      rintro e wq ⟨u, rfl, hn, hb⟩
      exact ⟨_, rfl, { h with b := h.b.trans (hb.mono h.b.size), f1 := (fun _ _ => hn) }⟩
    · intro done v W A h hd hp hu hA hB hdf
      have hd0 : done 0 = true := hp 0 rfl
      have hd1 : done 1 = true := hp 1 rfl
      have e0 := (hA 0 82 rfl hd0).trans (h.f0 hd0)
      have e1 := hA 1 83 rfl hd1
      have m1 := h.f1 hd1 hd
      clear hA hB hp hu hdf
      go_simp
      with_reducible refine (HF3.out W h.b _ m1).mono ?_
      rintro e wq ⟨rfl, hb⟩
      exact ⟨_, rfl, { h with b := h.b.trans (hb.mono h.b.size), f1 := (fun _ h2 => absurd (show true = false from h2) (by decide)), f2 := (fun _ => rfl) }⟩
    · intro done v W A h hd hp hu hA hB hdf
      have hd2 : done 2 = true := hp 2 rfl
      have e0 := (hA 2 84 rfl hd2).trans (h.f2 hd2)
      clear hA hB hp hu hdf
      go_simp
      exact ⟨_, rfl, { h with f3 := (fun _ => rfl) }⟩
    · intro done v W A h hd hp hu hA hB hdf
      have hd3 : done 3 = true := hp 3 rfl
      have e0 := (hA 3 81 rfl hd3).trans (h.f3 hd3)
      clear hA hB hp hu hdf
      go_simp
      exact ⟨_, rfl, { h with f4 := (fun _ => rfl) }⟩
    · intro done v W A h hd hp hu hA hB hdf
      have hd3 : done 3 = true := hp 3 rfl
      have e0 := (hA 3 81 rfl hd3).trans (h.f3 hd3)
      clear hA hB hp hu hdf
      go_simp
      exact ⟨_, rfl, { h with f5 := (fun _ => rfl) }⟩
    · intro done v W A h hd hp hu hA hB hdf
      have hd4 : done 4 = true := hp 4 rfl
      have e0 := (hA 4 85 rfl hd4).trans (h.f4 hd4)
      clear hA hB hp hu hdf
      go_simp
      exact ⟨_, rfl, { h with f6 := (fun _ => rfl) }⟩
    · intro done v W A h hd hp hu hA hB hdf
      have hd5 : done 5 = true := hp 5 rfl
      have e0 := (hA 5 86 rfl hd5).trans (h.f5 hd5)
      clear hA hB hp hu hdf
      go_simp
      exact ⟨_, rfl, { h with f7 := (fun _ => rfl) }⟩
  simp only [putL, Act.put, Nat.reduceAdd, List.setIfInBounds_toArray, List.set_cons_zero, List.set_cons_succ]
  rw [h.f6 rfl]
  rw [h.f7 rfl]
  have hbr := h.b
  replace q0 := below_cell hbr q0
  replace q1 := below_cell hbr q1
  replace q2 := below_cell hbr q2
  replace q3 := below_cell hbr q3
  replace HC := Lib.hid (HC.out.below hbr)
  replace HR := Lib.hid (HR.out.below hbr)
  replace HO := Lib.hid (HO.out.below hbr)
  replace HSB := Lib.hid (HSB.out.below hbr)
  replace HCB := Lib.hid (HCB.out.below hbr)
  replace Q := Lib.hid ((hbr.block _ (row_lt Q.out)).trans Q.out)
  replace HB := Lib.hid (HB.out.trans (hbr.mono HB.out.size))
  clear h hbr HF3
  go_wp2_with fail
  obtain ⟨wr, hwr⟩ : ∃ x, x = W := ⟨_, rfl⟩
  subst hwr
  have HMV := Lib.hid (fun (W1 : World) (h1 : Below wr.heap.size wr W1) (v1 v2 v3 v4 v5 : Value) (m1 : BrdV v1 W1) (m2 : Ints W1 v2 [5]) (m3 : Ints W1 v3 [0]) (m4 : Rows2 W1 v4 [CB]) (m5 : SRows W1 v5 [SB]) => show Calls Try.prog 12 #[.agg #[.int .i64 3, .slice a1 1 k1, .slice b1 1 d1, .slice ac 1 cc], v1, v2, v3, v4, v5] W1 (fun e w' => ∃ u, e = .returned u ∧ MvV u w' ∧ Below W1.heap.size W1 w') from by
    obtain ⟨ra, rc, oa, oc, rfl, hr, ho⟩ := m1
    exact (mv_val 3 (.slice a1 1 k1) (.slice b1 1 d1) (.slice ac 1 cc) _ _ v4 v5 v2 v3 X1 [5] CX R3 B3 [5] [0] [CB] [SB] CB SB W1 (HR.out.below h1) (HO.out.below h1) (HC.out.below h1) hr ho m4 m5 m2 m3 exo_v1).mono fun e w' ⟨kv, lv, e1, h2, h3, h4⟩ => by obtain ⟨ka, kc, rfl, -⟩ := id h2.1; exact ⟨_, e1, ⟨ra, rc, oa, oc, ka, _, kc, lv, rfl, hr.below h4, ho.below h4, h2.1, h3.1⟩, h4⟩)
  refine wp_region_flowsG (by kernel_rfl) (by kernel_rfl) (by kernel_rfl) (by kernel_rfl) (fun done v W => FSa11 wr (.agg #[.int .i64 3, .slice a1 1 k1, .slice b1 1 d1, .slice ac 1 cc]) (w4.heap.size) (.slice ac2 2 cc2) (.slice al2 3 cl2) done v W) (fun v => ?_) ?_ (fun v W h => ?_)
  · exact ⟨(Below.refl _ _).drew, (fun h => by cases h), (fun h => by cases h), (fun h => by cases h), (fun h => by cases h), (fun h => by cases h), (fun h => by cases h), (fun h => by cases h), (fun h => by cases h), (fun h => by cases h), (fun h => by cases h), (fun h => by cases h), (fun h => by cases h), (fun h => by cases h), (fun h => by cases h), (fun h => by cases h), KeyBox.nil _ _ _ _ _⟩
  · refine ⟨?_, ?_, ?_, ?_, ?_, ?_, ?_, ?_, ?_, ?_, ?_, ?_, ?_, ?_, ?_, ?_, ?_, trivial⟩
    · intro done v W A h hd hp hu hA hB hdf
      have e0 : A.tmps[4]?.getD undef = .pointer (some ⟨w4.heap.size, 0, none⟩) := hB 4 rfl
      have y0_ := below_cell h.b q0
      have y1_ := below_cell h.b q1
      have y2_ := below_cell h.b q2
      have y3_ := below_cell h.b q3
      clear hA hB hp hu hdf
      go_simp
      exact ⟨_, rfl, { h with f0 := (fun _ => rfl) }⟩
    · intro done v W A h hd hp hu hA hB hdf
      clear hA hB hp hu hdf
      go_simp
      with_reducible refine (HBD.out W).mono ?_
      rintro e wq ⟨u, rfl, hn, hb⟩
      exact ⟨_, rfl, { h with b := h.b.trans (hb.mono h.b.size), f1 := (fun _ _ => hn), f2 := (fun h1 h2 => (h.f2 h1 h2).below hb), f3 := (fun h1 h2 => (h.f3 h1 h2).below hb), f5 := (fun h1 h2 => (h.f5 h1 h2).below hb), f7 := (fun h1 h2 => (h.f7 h1 h2).below hb), f8 := (fun h1 => (h.f8 h1).below hb), bx := (h.bx.below hb) }⟩
    · intro done v W A h hd hp hu hA hB hdf
      have hb := below_new W #[.int .i64 5] 3
      clear hA hB hp hu hdf
      go_simp
      exact ⟨_, rfl, { h with b := h.b.trans (hb.mono h.b.size), f1 := (fun h1 h2 => (h.f1 h1 h2).below hb), f2 := (fun _ _ => lit1 W _ 5 (by unfold R64; omega)), f3 := (fun h1 h2 => (h.f3 h1 h2).below hb), f5 := (fun h1 h2 => (h.f5 h1 h2).below hb), f7 := (fun h1 h2 => (h.f7 h1 h2).below hb), f8 := (fun h1 => (h.f8 h1).below hb), bx := (h.bx.below hb) }⟩
    · intro done v W A h hd hp hu hA hB hdf
      have hb := below_new W #[.int .i64 0] 3
      clear hA hB hp hu hdf
      go_simp
      exact ⟨_, rfl, { h with b := h.b.trans (hb.mono h.b.size), f1 := (fun h1 h2 => (h.f1 h1 h2).below hb), f2 := (fun h1 h2 => (h.f2 h1 h2).below hb), f3 := (fun _ _ => lit1 W _ 0 (by unfold R64; omega)), f5 := (fun h1 h2 => (h.f5 h1 h2).below hb), f7 := (fun h1 h2 => (h.f7 h1 h2).below hb), f8 := (fun h1 => (h.f8 h1).below hb), bx := (h.bx.below hb) }⟩
    · intro done v W A h hd hp hu hA hB hdf
      have e0 : A.tmps[6]?.getD undef = .slice ac2 2 cc2 := hB 6 rfl
      clear hA hB hp hu hdf
      go_simp
      exact ⟨_, rfl, { h with f4 := (fun _ => rfl) }⟩
    · intro done v W A h hd hp hu hA hB hdf
      have hd4 : done 4 = true := hp 4 rfl
      have e0 := (hA 4 92 rfl hd4).trans (h.f4 hd4)
      have hb := below_new W #[.slice ac2 2 cc2] 23
      clear hA hB hp hu hdf
      go_simp
      exact ⟨_, rfl, { h with b := h.b.trans (hb.mono h.b.size), f1 := (fun h1 h2 => (h.f1 h1 h2).below hb), f2 := (fun h1 h2 => (h.f2 h1 h2).below hb), f3 := (fun h1 h2 => (h.f3 h1 h2).below hb), f5 := (fun _ _ => Rows2.one (HCB.out.below h.b) _), f7 := (fun h1 h2 => (h.f7 h1 h2).below hb), f8 := (fun h1 => (h.f8 h1).below hb), bx := (h.bx.below hb) }⟩
    · intro done v W A h hd hp hu hA hB hdf
      have e0 : A.tmps[5]?.getD undef = .slice al2 3 cl2 := hB 5 rfl
      clear hA hB hp hu hdf
      go_simp
      exact ⟨_, rfl, { h with f6 := (fun _ => rfl) }⟩
    · intro done v W A h hd hp hu hA hB hdf
      have hd6 : done 6 = true := hp 6 rfl
      have e0 := (hA 6 94 rfl hd6).trans (h.f6 hd6)
      have hb := below_new W #[.slice al2 3 cl2] 31
      clear hA hB hp hu hdf
      go_simp
      exact ⟨_, rfl, { h with b := h.b.trans (hb.mono h.b.size), f1 := (fun h1 h2 => (h.f1 h1 h2).below hb), f2 := (fun h1 h2 => (h.f2 h1 h2).below hb), f3 := (fun h1 h2 => (h.f3 h1 h2).below hb), f5 := (fun h1 h2 => (h.f5 h1 h2).below hb), f7 := (fun _ _ => SRows.one (HSB.out.below h.b) _), f8 := (fun h1 => (h.f8 h1).below hb), bx := (h.bx.below hb) }⟩
    · intro done v W A h hd hp hu hA hB hdf
      have n9_8 : done 9 = false := flow_not (fun hj => hu 9 8 rfl (hj)) hd
      have n10_8 : done 10 = false := flow_not (fun hj => hu 9 8 rfl (hu 10 9 rfl (hj))) hd
      have n11_8 : done 11 = false := flow_not (fun hj => hu 9 8 rfl (hu 11 9 rfl (hj))) hd
      have n12_8 : done 12 = false := flow_not (fun hj => hu 9 8 rfl (hu 12 9 rfl (hj))) hd
      have n15_8 : done 15 = false := flow_not (fun hj => hu 15 8 rfl (hj)) hd
      have n16_8 : done 16 = false := flow_not (fun hj => hu 16 8 rfl (hj)) hd
      have n14_8 : done 14 = false := flow_not (fun hj => hu 14 8 rfl (hj)) hd
      have hd0 : done 0 = true := hp 0 rfl
      have hd1 : done 1 = true := hp 1 rfl
      have hd2 : done 2 = true := hp 2 rfl
      have hd3 : done 3 = true := hp 3 rfl
      have hd5 : done 5 = true := hp 5 rfl
      have hd7 : done 7 = true := hp 7 rfl
      have e0 := (hA 0 88 rfl hd0).trans (h.f0 hd0)
      have e1 := hA 1 89 rfl hd1
      have m1 := h.f1 hd1 hd
      have e2 := hA 2 90 rfl hd2
      have m2 := h.f2 hd2 hd
      have e3 := hA 3 91 rfl hd3
      have m3 := h.f3 hd3 hd
      have e4 := hA 5 93 rfl hd5
      have m4 := h.f5 hd5 hd
      have e5 := hA 7 95 rfl hd7
      have m5 := h.f7 hd7 hd
      clear hA hB hp hu hdf
      go_simp
      with_reducible refine (HMV.out W h.b _ _ _ _ _ m1 m2 m3 m4 m5).mono ?_
      rintro e wq ⟨u, rfl, hn, hb⟩
      exact ⟨_, rfl, { h with b := h.b.trans (hb.mono h.b.size), f1 := (fun _ h2 => absurd (show true = false from h2) (by decide)), f2 := (fun _ h2 => absurd (show true = false from h2) (by decide)), f3 := (fun _ h2 => absurd (show true = false from h2) (by decide)), f5 := (fun _ h2 => absurd (show true = false from h2) (by decide)), f7 := (fun _ h2 => absurd (show true = false from h2) (by decide)), f8 := (fun _ => hn), f9 := (fun hj => absurd (hj.symm.trans n9_8) (by decide)), f10 := (fun hj => absurd (hj.symm.trans n10_8) (by decide)), f11 := (fun hj => absurd (hj.symm.trans n11_8) (by decide)), f12 := (fun hj => absurd (hj.symm.trans n12_8) (by decide)), f15 := (fun hj => absurd (hj.symm.trans n15_8) (by decide)), f16 := (fun hj => absurd (hj.symm.trans n16_8) (by decide)), bx := ((h.bx.other n14_8).below hb) }⟩
    · intro done v W A h hd hp hu hA hB hdf
      have hd8 : done 8 = true := hp 8 rfl
      have e0 := hA 8 96 rfl hd8
      clear hA hB hp hu hdf
      go_simp
      exact ⟨_, rfl, { h with f9 := (fun _ => rfl) }⟩
    · intro done v W A h hd hp hu hA hB hdf
      have hd8 : done 8 = true := hu 9 8 rfl (hp 9 rfl)
      have hd9 : done 9 = true := hp 9 rfl
      obtain ⟨ra, rc, oa, oc, ka, kn, kc, lv2, e8, hr8, ho8, hk8, hl8⟩ := h.f8 hd8
      have e0 := (hA 9 87 rfl hd9).trans ((h.f9 hd9).trans e8)
      clear hA hB hp hu hdf
      go_simp
      exact ⟨_, rfl, { h with f10 := (fun _ => (by show _ = projV 0 (v 8); rw [e8]; rfl)) }⟩
    · intro done v W A h hd hp hu hA hB hdf
      have hd8 : done 8 = true := hu 9 8 rfl (hp 9 rfl)
      have hd9 : done 9 = true := hp 9 rfl
      obtain ⟨ra, rc, oa, oc, ka, kn, kc, lv2, e8, hr8, ho8, hk8, hl8⟩ := h.f8 hd8
      have e0 := (hA 9 87 rfl hd9).trans ((h.f9 hd9).trans e8)
      clear hA hB hp hu hdf
      go_simp
      exact ⟨_, rfl, { h with f11 := (fun _ => (by show _ = projV 1 (v 8); rw [e8]; rfl)) }⟩
    · intro done v W A h hd hp hu hA hB hdf
      have hd8 : done 8 = true := hu 9 8 rfl (hp 9 rfl)
      have hd9 : done 9 = true := hp 9 rfl
      obtain ⟨ra, rc, oa, oc, ka, kn, kc, lv2, e8, hr8, ho8, hk8, hl8⟩ := h.f8 hd8
      have e0 := (hA 9 87 rfl hd9).trans ((h.f9 hd9).trans e8)
      clear hA hB hp hu hdf
      go_simp
      exact ⟨_, rfl, { h with f12 := (fun _ => (by show _ = projV 2 (v 8); rw [e8]; rfl)) }⟩
    · intro done v W A h hd hp hu hA hB hdf
      have n14_13 : done 14 = false := flow_not (fun hj => hu 14 13 rfl (hj)) hd
      have hb := below_new W zeroK 30
      have hn := h.b.size
      clear hA hB hp hu hdf
      go_simp
      exact ⟨_, rfl, { h with b := h.b.trans (hb.mono h.b.size), f1 := (fun h1 h2 => (h.f1 h1 h2).below hb), f2 := (fun h1 h2 => (h.f2 h1 h2).below hb), f3 := (fun h1 h2 => (h.f3 h1 h2).below hb), f5 := (fun h1 h2 => (h.f5 h1 h2).below hb), f7 := (fun h1 h2 => (h.f7 h1 h2).below hb), f8 := (fun h1 => (h.f8 h1).below hb), bx := (h.bx.alloc n14_13 hn) }⟩
    · intro done v W A h hd hp hu hA hB hdf
      have hd8 : done 8 = true := hp 8 rfl
      have hd10 : done 10 = true := hp 10 rfl
      have hd13 : done 13 = true := hp 13 rfl
      obtain ⟨B, eB, hn0, -, hS⟩ := h.bx hd13
      simp only [hd, Bool.false_eq_true, if_false] at hS
      have e1 := (hA 13 14 rfl hd13).trans eB
      obtain ⟨ra, rc, oa, oc, ka, kn, kc, lv2, e8, hr8, ho8, hk8, hl8⟩ := h.f8 hd8
      have e2 := (hA 10 97 rfl hd10).trans ((h.f10 hd10).trans (congrArg (projV 0) e8))
      simp only [projV, Array.getD_eq_getD_getElem?, List.getElem?_toArray, List.getElem?_cons_zero, Option.getD_some] at e2
      have u0 := row_cell hS (k := 0) rfl
      have u1 := row_cell hS (k := 1) rfl
      have u2 := row_cell hS (k := 2) rfl
      have u3 := row_cell hS (k := 3) rfl
      have g0 := row_free hS 0
      have g1 := row_free hS 1
      have g2 := row_free hS 2
      have g3 := row_free hS 3
      clear hA hB hp hu hdf
      go_simp
      exact ⟨undef, { h with b := keyW_below h.b hn0 _ _ _ _, f1 := (fun _ h2 => absurd (hd8.symm.trans h2) (by decide)), f2 := (fun _ h2 => absurd (hd8.symm.trans h2) (by decide)), f3 := (fun _ h2 => absurd (hd8.symm.trans h2) (by decide)), f5 := (fun _ h2 => absurd (hd8.symm.trans h2) (by decide)), f7 := (fun _ h2 => absurd (hd8.symm.trans h2) (by decide)), f8 := (fun h1 => (h.f8 h1).put hS _ _ _ _), bx := (h.bx.store eB hd13 (congrArg (projV 0) e8) hS) }⟩
    · intro done v W A h hd hp hu hA hB hdf
      have hd11 : done 11 = true := hp 11 rfl
      have e0 := hA 11 98 rfl hd11
      clear hA hB hp hu hdf
      go_simp
      exact ⟨_, rfl, { h with f15 := (fun _ => (h.f11 hd11)) }⟩
    · intro done v W A h hd hp hu hA hB hdf
      have hd12 : done 12 = true := hp 12 rfl
      have e0 := hA 12 99 rfl hd12
      clear hA hB hp hu hdf
      go_simp
      exact ⟨_, rfl, { h with f16 := (fun _ => (h.f12 hd12)) }⟩
  simp only [putL, Act.put, Nat.reduceAdd, List.setIfInBounds_toArray, List.set_cons_zero, List.set_cons_succ]
  obtain ⟨ra, rc, oa, oc, ka, kn, kc, lv2, e8, hr8, ho8, hk8, hl8⟩ := h.f8 rfl
  rw [show v 15 = lv2 from (h.f15 rfl).trans (by rw [e8]; rfl)]
  rw [show v 16 = .int .i64 0 from (h.f16 rfl).trans (by rw [e8]; rfl)]
  have hbr := h.b
  replace q0 := below_cell hbr q0
  replace q1 := below_cell hbr q1
  replace q2 := below_cell hbr q2
  replace q3 := below_cell hbr q3
  replace HC := Lib.hid (HC.out.below hbr)
  replace HR := Lib.hid (HR.out.below hbr)
  replace HO := Lib.hid (HO.out.below hbr)
  replace HSB := Lib.hid (HSB.out.below hbr)
  replace HCB := Lib.hid (HCB.out.below hbr)
  replace Q := Lib.hid ((hbr.block _ (row_lt Q.out)).trans Q.out)
  replace HB := Lib.hid (HB.out.trans (hbr.mono HB.out.size))
  obtain ⟨bX, eX, -, -, hX⟩ := h.bx rfl
  rw [e8] at hX
  rw [eX]
  have HR8 := Lib.hid hr8
  have HO8 := Lib.hid ho8
  have HK8 := Lib.hid hk8
  have HL8 := Lib.hid hl8
  have QX := Lib.hid (show W.heap[bX]? = some (.cells #[.int .i64 4, .slice ra 3 rc, .slice oa 3 oc, .slice ka kn kc] 30 (0, 0)) from hX)
  clear h hbr HMV e8 eX hX hr8 ho8 hk8 hl8
  go_wp2_with fail
  obtain ⟨wr, hwr⟩ : ∃ x, x = W := ⟨_, rfl⟩
  subst hwr
  have HE1 := Lib.hid (fun (W1 : World) (h1 : Below wr.heap.size wr W1) (v1 : Value) (m1 : BrdV v1 W1) => show Calls Try.prog 12 #[.agg #[.int .i64 3, .slice a1 1 k1, .slice b1 1 d1, .slice ac 1 cc], v1, .slice none 0 0, .slice none 0 0, .slice none 0 0, .slice none 0 0] W1 (fun e w' => e = .returned (.tuple #[.agg #[.int .i64 0, .slice none 0 0, .slice none 0 0, .slice none 0 0], .slice none 0 0, .int .i64 340]) ∧ Below W1.heap.size W1 w') from by
    obtain ⟨ra, rc, oa, oc, rfl, hr, ho⟩ := m1
    exact mv_err 3 (.slice a1 1 k1) (.slice b1 1 d1) (.slice ac 1 cc) _ _ _ _ _ _ X1 [5] CX R3 B3 [] [] [] [] 340 W1 (HR.out.below h1) (HO.out.below h1) (HC.out.below h1) hr ho (Rows2.nil _ _ _) (SRows.nil _ _ _) (Ints.nil _ _ _) (Ints.nil _ _ _) exo_v2 (by decide))
  refine wp_region_flowsG (by kernel_rfl) (by kernel_rfl) (by kernel_rfl) (by kernel_rfl) (fun done v W => FSa12 wr (.agg #[.int .i64 3, .slice a1 1 k1, .slice b1 1 d1, .slice ac 1 cc]) (w4.heap.size) done v W) (fun v => ?_) ?_ (fun v W h => ?_)
  · exact ⟨(Below.refl _ _).drew, (fun h => by cases h), (fun h => by cases h), (fun h => by cases h), (fun h => by cases h), (fun h => by cases h), (fun h => by cases h), (fun h => by cases h), (fun h => by cases h), (fun h => by cases h), KeyBox.nil _ _ _ _ _⟩
  · refine ⟨?_, ?_, ?_, ?_, ?_, ?_, ?_, ?_, ?_, ?_, ?_, trivial⟩
    · intro done v W A h hd hp hu hA hB hdf
      have e0 : A.tmps[4]?.getD undef = .pointer (some ⟨w4.heap.size, 0, none⟩) := hB 4 rfl
      have y0_ := below_cell h.b q0
      have y1_ := below_cell h.b q1
      have y2_ := below_cell h.b q2
      have y3_ := below_cell h.b q3
      clear hA hB hp hu hdf
      go_simp
      exact ⟨_, rfl, { h with f0 := (fun _ => rfl) }⟩
    · intro done v W A h hd hp hu hA hB hdf
      clear hA hB hp hu hdf
      go_simp
      with_reducible refine (HBD.out W).mono ?_
      rintro e wq ⟨u, rfl, hn, hb⟩
      exact ⟨_, rfl, { h with b := h.b.trans (hb.mono h.b.size), f1 := (fun _ _ => hn), bx := (h.bx.below hb) }⟩
    · intro done v W A h hd hp hu hA hB hdf
      have hd0 : done 0 = true := hp 0 rfl
      have hd1 : done 1 = true := hp 1 rfl
      have e0 := (hA 0 101 rfl hd0).trans (h.f0 hd0)
      have e1 := hA 1 102 rfl hd1
      have m1 := h.f1 hd1 hd
      clear hA hB hp hu hdf
      go_simp
      with_reducible refine (HE1.out W h.b _ m1).mono ?_
      rintro e wq ⟨rfl, hb⟩
      exact ⟨_, rfl, { h with b := h.b.trans (hb.mono h.b.size), f1 := (fun _ h2 => absurd (show true = false from h2) (by decide)), f2 := (fun _ => rfl), bx := (h.bx.below hb) }⟩
    · intro done v W A h hd hp hu hA hB hdf
      have hd2 : done 2 = true := hp 2 rfl
      have e0 := (hA 2 103 rfl hd2).trans (h.f2 hd2)
      clear hA hB hp hu hdf
      go_simp
      exact ⟨_, rfl, { h with f3 := (fun _ => rfl) }⟩
    · intro done v W A h hd hp hu hA hB hdf
      have hd3 : done 3 = true := hp 3 rfl
      have e0 := (hA 3 100 rfl hd3).trans (h.f3 hd3)
      clear hA hB hp hu hdf
      go_simp
      exact ⟨_, rfl, { h with f4 := (fun _ => rfl) }⟩
    · intro done v W A h hd hp hu hA hB hdf
      have hd3 : done 3 = true := hp 3 rfl
      have e0 := (hA 3 100 rfl hd3).trans (h.f3 hd3)
      clear hA hB hp hu hdf
      go_simp
      exact ⟨_, rfl, { h with f5 := (fun _ => rfl) }⟩
    · intro done v W A h hd hp hu hA hB hdf
      have hd3 : done 3 = true := hp 3 rfl
      have e0 := (hA 3 100 rfl hd3).trans (h.f3 hd3)
      clear hA hB hp hu hdf
      go_simp
      exact ⟨_, rfl, { h with f6 := (fun _ => rfl) }⟩
    · intro done v W A h hd hp hu hA hB hdf
      have n8_7 : done 8 = false := flow_not (fun hj => hu 8 7 rfl (hj)) hd
      have hb := below_new W zeroK 30
      have hn := h.b.size
      clear hA hB hp hu hdf
      go_simp
      exact ⟨_, rfl, { h with b := h.b.trans (hb.mono h.b.size), f1 := (fun h1 h2 => (h.f1 h1 h2).below hb), bx := (h.bx.alloc n8_7 hn) }⟩
    · intro done v W A h hd hp hu hA hB hdf
      have hd2 : done 2 = true := hp 2 rfl
      have hd4 : done 4 = true := hp 4 rfl
      have hd7 : done 7 = true := hp 7 rfl
      obtain ⟨B, eB, hn0, -, hS⟩ := h.bx hd7
      simp only [hd, Bool.false_eq_true, if_false] at hS
      have e1 := (hA 7 17 rfl hd7).trans eB
      have e2 := (hA 4 104 rfl hd4).trans (h.f4 hd4)
      have u0 := row_cell hS (k := 0) rfl
      have u1 := row_cell hS (k := 1) rfl
      have u2 := row_cell hS (k := 2) rfl
      have u3 := row_cell hS (k := 3) rfl
      have g0 := row_free hS 0
      have g1 := row_free hS 1
      have g2 := row_free hS 2
      have g3 := row_free hS 3
      clear hA hB hp hu hdf
      go_simp
      exact ⟨undef, { h with b := keyW_below h.b hn0 _ _ _ _, f1 := (fun _ h2 => absurd (hd2.symm.trans h2) (by decide)), bx := (h.bx.store eB hd7 rfl hS) }⟩
    · intro done v W A h hd hp hu hA hB hdf
      have hd5 : done 5 = true := hp 5 rfl
      have e0 := (hA 5 105 rfl hd5).trans (h.f5 hd5)
      clear hA hB hp hu hdf
      go_simp
      exact ⟨_, rfl, { h with f9 := (fun _ => rfl) }⟩
    · intro done v W A h hd hp hu hA hB hdf
      have hd6 : done 6 = true := hp 6 rfl
      have e0 := (hA 6 106 rfl hd6).trans (h.f6 hd6)
      clear hA hB hp hu hdf
      go_simp
      exact ⟨_, rfl, { h with f10 := (fun _ => rfl) }⟩
  simp only [putL, Act.put, Nat.reduceAdd, List.setIfInBounds_toArray, List.set_cons_zero, List.set_cons_succ]
  rw [h.f9 rfl]
  rw [h.f10 rfl]
  have hbr := h.b
  replace q0 := below_cell hbr q0
  replace q1 := below_cell hbr q1
  replace q2 := below_cell hbr q2
  replace q3 := below_cell hbr q3
  replace HC := Lib.hid (HC.out.below hbr)
  replace HR := Lib.hid (HR.out.below hbr)
  replace HO := Lib.hid (HO.out.below hbr)
  replace HSB := Lib.hid (HSB.out.below hbr)
  replace HCB := Lib.hid (HCB.out.below hbr)
  replace HR8 := Lib.hid (HR8.out.below hbr)
  replace HO8 := Lib.hid (HO8.out.below hbr)
  replace HK8 := Lib.hid (HK8.out.below hbr)
  replace HL8 := Lib.hid (HL8.out.below hbr)
  replace Q := Lib.hid ((hbr.block _ (row_lt Q.out)).trans Q.out)
  replace QX := Lib.hid ((hbr.block _ (row_lt QX.out)).trans QX.out)
  replace HB := Lib.hid (HB.out.trans (hbr.mono HB.out.size))
  clear h hbr HE1
  obtain ⟨W20, hW20, hb20, hr20, hs20⟩ := box_key W (.int .i64 3) (.slice a1 1 k1) (.slice b1 1 d1) (.slice ac 1 cc) 30
  have z0 := row_cell hr20 (k := 0) rfl
  have zf := row_free hr20 0
  obtain ⟨W21, hW21⟩ : ∃ x, x = W20.setCell ⟨W.heap.size, 0, none⟩ (.int .i64 64) := ⟨_, rfl⟩
  have hr21 : W21.heap[W.heap.size]? = some (.cells #[.int .i64 64, .slice a1 1 k1, .slice b1 1 d1, .slice ac 1 cc] 30 (0, 0)) := by rw [hW21]; exact row_set hr20 0 _
  have hb21 : Below W.heap.size W W21 := by rw [hW21]; exact hb20.setCell (Nat.le_refl _) _
  have HW20 := Lib.hid hW20
  have HW21 := Lib.hid hW21
  clear hW20 hW21 hb20 hr20 hs20
  have t0 := q0
  have t1 := q1
  have t2 := q2
  have t3 := q3
  replace q0 := below_cell hb21 q0
  replace q1 := below_cell hb21 q1
  replace q2 := below_cell hb21 q2
  replace q3 := below_cell hb21 q3
  replace HC := Lib.hid (HC.out.below hb21)
  replace HR := Lib.hid (HR.out.below hb21)
  replace HO := Lib.hid (HO.out.below hb21)
  replace HSB := Lib.hid (HSB.out.below hb21)
  replace HCB := Lib.hid (HCB.out.below hb21)
  replace HR8 := Lib.hid (HR8.out.below hb21)
  replace HO8 := Lib.hid (HO8.out.below hb21)
  replace HK8 := Lib.hid (HK8.out.below hb21)
  replace HL8 := Lib.hid (HL8.out.below hb21)
  replace Q := Lib.hid ((hb21.block _ (row_lt Q.out)).trans Q.out)
  replace QX := Lib.hid ((hb21.block _ (row_lt QX.out)).trans QX.out)
  replace HB := Lib.hid (HB.out.trans (hb21.mono HB.out.size))
  clear hb21
  have QL := Lib.hid hr21
  clear hr21
  go_wp2_with (first | rw [← HW20.out] | rw [← HW21.out])
  clear t0 t1 t2 t3 z0 zf
  obtain ⟨bL, hbL⟩ : ∃ x, x = W.heap.size := ⟨_, rfl⟩
  rw [← hbL] at QL ⊢
  clear hbL HW20 HW21
  have l0 := row_cell QL.out (k := 0) rfl
  have l1 := row_cell QL.out (k := 1) rfl
  have l2 := row_cell QL.out (k := 2) rfl
  have l3 := row_cell QL.out (k := 3) rfl
  clear q0 q1 q2 q3
  obtain ⟨W, hw⟩ : ∃ x, x = W21 := ⟨_, rfl⟩
  subst hw
  obtain ⟨wr, hwr⟩ : ∃ x, x = W := ⟨_, rfl⟩
  subst hwr
  have HE2 := Lib.hid (fun (W1 : World) (h1 : Below wr.heap.size wr W1) (v1 : Value) (m1 : BrdV v1 W1) => show Calls Try.prog 12 #[.agg #[.int .i64 64, .slice a1 1 k1, .slice b1 1 d1, .slice ac 1 cc], v1, .slice none 0 0, .slice none 0 0, .slice none 0 0, .slice none 0 0] W1 (fun e w' => e = .returned (.tuple #[.agg #[.int .i64 0, .slice none 0 0, .slice none 0 0, .slice none 0 0], .slice none 0 0, .int .i64 2]) ∧ Below W1.heap.size W1 w') from by
    obtain ⟨ra, rc, oa, oc, rfl, hr, ho⟩ := m1
    exact mv_err 64 (.slice a1 1 k1) (.slice b1 1 d1) (.slice ac 1 cc) _ _ _ _ _ _ X1 [5] CX R3 B3 [] [] [] [] 2 W1 (HR.out.below h1) (HO.out.below h1) (HC.out.below h1) hr ho (Rows2.nil _ _ _) (SRows.nil _ _ _) (Ints.nil _ _ _) (Ints.nil _ _ _) exo_v3 (by decide))
  refine wp_region_flowsG (by kernel_rfl) (by kernel_rfl) (by kernel_rfl) (by kernel_rfl) (fun done v W => FSa15 wr (.agg #[.int .i64 64, .slice a1 1 k1, .slice b1 1 d1, .slice ac 1 cc]) (bL) done v W) (fun v => ?_) ?_ (fun v W h => ?_)
  · exact ⟨(Below.refl _ _).drew, (fun h => by cases h), (fun h => by cases h), (fun h => by cases h), (fun h => by cases h), (fun h => by cases h), (fun h => by cases h), (fun h => by cases h), (fun h => by cases h), (fun h => by cases h), KeyBox.nil _ _ _ _ _⟩
  · refine ⟨?_, ?_, ?_, ?_, ?_, ?_, ?_, ?_, ?_, ?_, ?_, trivial⟩
    · intro done v W A h hd hp hu hA hB hdf
      have e0 : A.tmps[20]?.getD undef = .pointer (some ⟨bL, 0, none⟩) := hB 20 rfl
      have y0_ := below_cell h.b l0
      have y1_ := below_cell h.b l1
      have y2_ := below_cell h.b l2
      have y3_ := below_cell h.b l3
      clear hA hB hp hu hdf
      go_simp
      exact ⟨_, rfl, { h with f0 := (fun _ => rfl) }⟩
    · intro done v W A h hd hp hu hA hB hdf
      clear hA hB hp hu hdf
      go_simp
      with_reducible refine (HBD.out W).mono ?_
      rintro e wq ⟨u, rfl, hn, hb⟩
      exact ⟨_, rfl, { h with b := h.b.trans (hb.mono h.b.size), f1 := (fun _ _ => hn), bx := (h.bx.below hb) }⟩
    · intro done v W A h hd hp hu hA hB hdf
      have hd0 : done 0 = true := hp 0 rfl
      have hd1 : done 1 = true := hp 1 rfl
      have e0 := (hA 0 110 rfl hd0).trans (h.f0 hd0)
      have e1 := hA 1 111 rfl hd1
      have m1 := h.f1 hd1 hd
      clear hA hB hp hu hdf
      go_simp
      with_reducible refine (HE2.out W h.b _ m1).mono ?_
      rintro e wq ⟨rfl, hb⟩
      exact ⟨_, rfl, { h with b := h.b.trans (hb.mono h.b.size), f1 := (fun _ h2 => absurd (show true = false from h2) (by decide)), f2 := (fun _ => rfl), bx := (h.bx.below hb) }⟩
    · intro done v W A h hd hp hu hA hB hdf
      have hd2 : done 2 = true := hp 2 rfl
      have e0 := (hA 2 112 rfl hd2).trans (h.f2 hd2)
      clear hA hB hp hu hdf
      go_simp
      exact ⟨_, rfl, { h with f3 := (fun _ => rfl) }⟩
    · intro done v W A h hd hp hu hA hB hdf
      have hd3 : done 3 = true := hp 3 rfl
      have e0 := (hA 3 109 rfl hd3).trans (h.f3 hd3)
      clear hA hB hp hu hdf
      go_simp
      exact ⟨_, rfl, { h with f4 := (fun _ => rfl) }⟩
    · intro done v W A h hd hp hu hA hB hdf
      have hd3 : done 3 = true := hp 3 rfl
      have e0 := (hA 3 109 rfl hd3).trans (h.f3 hd3)
      clear hA hB hp hu hdf
      go_simp
      exact ⟨_, rfl, { h with f5 := (fun _ => rfl) }⟩
    · intro done v W A h hd hp hu hA hB hdf
      have hd3 : done 3 = true := hp 3 rfl
      have e0 := (hA 3 109 rfl hd3).trans (h.f3 hd3)
      clear hA hB hp hu hdf
      go_simp
      exact ⟨_, rfl, { h with f6 := (fun _ => rfl) }⟩
    · intro done v W A h hd hp hu hA hB hdf
      have n8_7 : done 8 = false := flow_not (fun hj => hu 8 7 rfl (hj)) hd
      have hb := below_new W zeroK 30
      have hn := h.b.size
      clear hA hB hp hu hdf
      go_simp
      exact ⟨_, rfl, { h with b := h.b.trans (hb.mono h.b.size), f1 := (fun h1 h2 => (h.f1 h1 h2).below hb), bx := (h.bx.alloc n8_7 hn) }⟩
    · intro done v W A h hd hp hu hA hB hdf
      have hd2 : done 2 = true := hp 2 rfl
      have hd4 : done 4 = true := hp 4 rfl
      have hd7 : done 7 = true := hp 7 rfl
      obtain ⟨B, eB, hn0, -, hS⟩ := h.bx hd7
      simp only [hd, Bool.false_eq_true, if_false] at hS
      have e1 := (hA 7 21 rfl hd7).trans eB
      have e2 := (hA 4 113 rfl hd4).trans (h.f4 hd4)
      have u0 := row_cell hS (k := 0) rfl
      have u1 := row_cell hS (k := 1) rfl
      have u2 := row_cell hS (k := 2) rfl
      have u3 := row_cell hS (k := 3) rfl
      have g0 := row_free hS 0
      have g1 := row_free hS 1
      have g2 := row_free hS 2
      have g3 := row_free hS 3
      clear hA hB hp hu hdf
      go_simp
      exact ⟨undef, { h with b := keyW_below h.b hn0 _ _ _ _, f1 := (fun _ h2 => absurd (hd2.symm.trans h2) (by decide)), bx := (h.bx.store eB hd7 rfl hS) }⟩
    · intro done v W A h hd hp hu hA hB hdf
      have hd5 : done 5 = true := hp 5 rfl
      have e0 := (hA 5 114 rfl hd5).trans (h.f5 hd5)
      clear hA hB hp hu hdf
      go_simp
      exact ⟨_, rfl, { h with f9 := (fun _ => rfl) }⟩
    · intro done v W A h hd hp hu hA hB hdf
      have hd6 : done 6 = true := hp 6 rfl
      have e0 := (hA 6 115 rfl hd6).trans (h.f6 hd6)
      clear hA hB hp hu hdf
      go_simp
      exact ⟨_, rfl, { h with f10 := (fun _ => rfl) }⟩
  simp only [putL, Act.put, Nat.reduceAdd, List.setIfInBounds_toArray, List.set_cons_zero, List.set_cons_succ]
  rw [h.f9 rfl]
  rw [h.f10 rfl]
  have hbr := h.b
  replace l0 := below_cell hbr l0
  replace l1 := below_cell hbr l1
  replace l2 := below_cell hbr l2
  replace l3 := below_cell hbr l3
  replace HC := Lib.hid (HC.out.below hbr)
  replace HR := Lib.hid (HR.out.below hbr)
  replace HO := Lib.hid (HO.out.below hbr)
  replace HSB := Lib.hid (HSB.out.below hbr)
  replace HCB := Lib.hid (HCB.out.below hbr)
  replace HR8 := Lib.hid (HR8.out.below hbr)
  replace HO8 := Lib.hid (HO8.out.below hbr)
  replace HK8 := Lib.hid (HK8.out.below hbr)
  replace HL8 := Lib.hid (HL8.out.below hbr)
  replace Q := Lib.hid ((hbr.block _ (row_lt Q.out)).trans Q.out)
  replace QX := Lib.hid ((hbr.block _ (row_lt QX.out)).trans QX.out)
  replace QL := Lib.hid ((hbr.block _ (row_lt QL.out)).trans QL.out)
  replace HB := Lib.hid (HB.out.trans (hbr.mono HB.out.size))
  clear h hbr HE2
  clear l0 l1 l2 l3
  go_wp2_with fail
  have x0 := row_cell QX.out (k := 0) rfl
  have x1 := row_cell QX.out (k := 1) rfl
  have x2 := row_cell QX.out (k := 2) rfl
  have x3 := row_cell QX.out (k := 3) rfl
  obtain ⟨wr, hwr⟩ : ∃ x, x = W := ⟨_, rfl⟩
  subst hwr
  have HS1 := Lib.hid (fun (W1 : World) (h1 : Below wr.heap.size wr W1) (v1 : Value) (m1 : BrdV v1 W1) => show Calls Try.prog 20 #[.agg #[.slice ra 3 rc, .slice oa 3 oc], v1] W1 (fun e w' => e = .returned (.bool true) ∧ Below W1.heap.size W1 w') from by
    obtain ⟨ra, rc, oa, oc, rfl, hr, ho⟩ := m1
    exact (rSameP_any _ _ _ _ R3 R3 B3 B3 W1 (HR8.out.below h1) (HO8.out.below h1) hr ho).mono fun e w' ⟨e1, h2⟩ => ⟨e1.trans (by rw [show sameP R3 R3 B3 B3 = true by decide]), h2⟩)
  have HS2 := Lib.hid (fun (W1 : World) (h1 : Below wr.heap.size wr W1) => rSame23_is (.slice ka kn kc) (.slice ac2 2 cc2) CB CB true W1 (HK8.out.below h1) (HCB.out.below h1) (decide_eq_true rfl))
  have HS3 := Lib.hid (fun (W1 : World) (h1 : Below wr.heap.size wr W1) => show Calls Try.prog 17 #[lv2, .slice al2 3 cl2] W1 (fun e w' => e = .returned (.bool true) ∧ Below W1.heap.size W1 w') from (rsame_any lv2 (.slice al2 3 cl2) SB SB W1 (HL8.out.below h1) (HSB.out.below h1)).mono fun e w' ⟨e1, h2⟩ => ⟨e1.trans (by rw [show sameS SB SB = true from decide_eq_true rfl]), h2⟩)
  have HS4 := Lib.hid (fun (W1 : World) (h1 : Below wr.heap.size wr W1) (v1 : Value) (m1 : Shares W1 v1 [(0, 1007), (1, 1014), (2, 1021)]) => show Calls Try.prog 17 #[lv2, v1] W1 (fun e w' => e = .returned (.bool true) ∧ Below W1.heap.size W1 w') from (rsame_any lv2 v1 SB [(0, 1007), (1, 1014), (2, 1021)] W1 (HL8.out.below h1) m1).mono fun e w' ⟨e1, h2⟩ => ⟨e1.trans (by rw [show sameS SB [(0, 1007), (1, 1014), (2, 1021)] = true from decide_eq_true exo_l]), h2⟩)
  refine wp_region_flowsG (by kernel_rfl) (by kernel_rfl) (by kernel_rfl) (by kernel_rfl) (fun done v W => FSa18 wr (.agg #[.slice ra 3 rc, .slice oa 3 oc]) (.slice ka kn kc) (lv2) (.slice ac2 2 cc2) (.slice al2 3 cl2) (bX) done v W) (fun v => ?_) ?_ (fun v W h => ?_)
  · exact ⟨(Below.refl _ _).drew, (fun h => by cases h), (fun h => by cases h), (fun h => by cases h), (fun h => by cases h), (fun h => by cases h), (fun h => by cases h), (fun h => by cases h), (fun h => by cases h), (fun h => by cases h), (fun h => by cases h), (fun h => by cases h), (fun h => by cases h), (fun h => by cases h), (fun h => by cases h), (fun h => by cases h), (fun h => by cases h), (fun h => by cases h), (fun h => by cases h), (fun h => by cases h), (fun h => by cases h), (fun h => by cases h), (fun h => by cases h), (fun h => by cases h), (fun h => by cases h), (fun h => by cases h), (fun h => by cases h), (fun h => by cases h), (fun h => by cases h), (fun h => by cases h)⟩
  · refine ⟨?_, ?_, ?_, ?_, ?_, ?_, ?_, ?_, ?_, ?_, ?_, ?_, ?_, ?_, ?_, ?_, ?_, ?_, ?_, ?_, ?_, ?_, ?_, ?_, ?_, ?_, ?_, ?_, ?_, trivial⟩
    · intro done v W A h hd hp hu hA hB hdf
      have e0 : A.tmps[14]?.getD undef = .pointer (some ⟨bX, 0, none⟩) := hB 14 rfl
      clear hA hB hp hu hdf
      go_simp
      exact ⟨_, rfl, { h with f0 := (fun _ => rfl) }⟩
    · intro done v W A h hd hp hu hA hB hdf
      have hd0 : done 0 = true := hp 0 rfl
      have e0 := (hA 0 142 rfl hd0).trans (h.f0 hd0)
      have y0_ := below_cell h.b x0
      clear hA hB hp hu hdf
      go_simp
      exact ⟨_, rfl, { h with f1 := (fun _ => rfl) }⟩
    · intro done v W A h hd hp hu hA hB hdf
      have hd1 : done 1 = true := hp 1 rfl
      have e0 := (hA 1 143 rfl hd1).trans (h.f1 hd1)
      clear hA hB hp hu hdf
      go_simp
      exact ⟨_, rfl, { h with f2 := (fun _ => rfl) }⟩
    · intro done v W A h hd hp hu hA hB hdf
      have hd2 : done 2 = true := hp 2 rfl
      have e0 := (hA 2 144 rfl hd2).trans (h.f2 hd2)
      clear hA hB hp hu hdf
      go_simp
      exact ⟨_, rfl, { h with f3 := (fun _ => rfl) }⟩
    · intro done v W A h hd hp hu hA hB hdf
      have hd3 : done 3 = true := hp 3 rfl
      refine ⟨_, h.f3 hd3, fun _ => ?_, fun hne => absurd rfl hne⟩
      have e0 : A.tmps[14]?.getD undef = .pointer (some ⟨bX, 0, none⟩) := hB 14 rfl
      clear hA hB hp hu hdf
      go_simp
      exact ⟨_, rfl, { h with f4 := (fun _ => rfl) }⟩
    · intro done v W A h hd hp hu hA hB hdf
      have hd3 : done 3 = true := hp 3 rfl
      have hd4 : done 4 = true := hp 4 rfl
      refine ⟨_, h.f3 hd3, fun _ => ?_, fun hne => absurd rfl hne⟩
      have e0 := (hA 4 146 rfl hd4).trans (h.f4 hd4)
      have y0_ := below_cell h.b x1
      have y1_ := below_cell h.b x2
      clear hA hB hp hu hdf
      go_simp
      exact ⟨_, rfl, { h with f5 := (fun _ => rfl) }⟩
    · intro done v W A h hd hp hu hA hB hdf
      have hd3 : done 3 = true := hp 3 rfl
      refine ⟨_, h.f3 hd3, fun _ => ?_, fun hne => absurd rfl hne⟩
      clear hA hB hp hu hdf
      go_simp
      with_reducible refine (HBD.out W).mono ?_
      rintro e wq ⟨u, rfl, hn, hb⟩
      exact ⟨_, rfl, { h with b := h.b.trans (hb.mono h.b.size), f6 := (fun _ _ => hn), f25 := (fun h1 h2 => (h.f25 h1 h2).below hb) }⟩
    · intro done v W A h hd hp hu hA hB hdf
      have hd3 : done 3 = true := hp 3 rfl
      have hd5 : done 5 = true := hp 5 rfl
      have hd6 : done 6 = true := hp 6 rfl
      refine ⟨_, h.f3 hd3, fun _ => ?_, fun hne => absurd rfl hne⟩
      have e0 := (hA 5 147 rfl hd5).trans (h.f5 hd5)
      have e1 := hA 6 148 rfl hd6
      have m1 := h.f6 hd6 hd
      clear hA hB hp hu hdf
      go_simp
      with_reducible refine (HS1.out W h.b _ m1).mono ?_
      rintro e wq ⟨rfl, hb⟩
      exact ⟨_, rfl, { h with b := h.b.trans (hb.mono h.b.size), f6 := (fun _ h2 => absurd (show true = false from h2) (by decide)), f7 := (fun _ => rfl), f25 := (fun h1 h2 => (h.f25 h1 h2).below hb) }⟩
    · intro done v W A h hd hp hu hA hB hdf
      have hd3 : done 3 = true := hp 3 rfl
      have hd7 : done 7 = true := hp 7 rfl
      have e0 := (hA 3 145 rfl hd3).trans (h.f3 hd3)
      have e1 := (hA 7 149 rfl hd7).trans (h.f7 hd7)
      clear hA hB hp hu hdf
      go_simp
      exact ⟨_, rfl, { h with f8 := (fun _ => rfl) }⟩
    · intro done v W A h hd hp hu hA hB hdf
      have hd8 : done 8 = true := hp 8 rfl
      have e0 := (hA 8 150 rfl hd8).trans (h.f8 hd8)
      clear hA hB hp hu hdf
      go_simp
      exact ⟨_, rfl, { h with f9 := (fun _ => rfl) }⟩
    · intro done v W A h hd hp hu hA hB hdf
      have hd9 : done 9 = true := hp 9 rfl
      refine ⟨_, h.f9 hd9, fun _ => ?_, fun hne => absurd rfl hne⟩
      have e0 : A.tmps[14]?.getD undef = .pointer (some ⟨bX, 0, none⟩) := hB 14 rfl
      clear hA hB hp hu hdf
      go_simp
      exact ⟨_, rfl, { h with f10 := (fun _ => rfl) }⟩
    · intro done v W A h hd hp hu hA hB hdf
      have hd9 : done 9 = true := hp 9 rfl
      have hd10 : done 10 = true := hp 10 rfl
      refine ⟨_, h.f9 hd9, fun _ => ?_, fun hne => absurd rfl hne⟩
      have e0 := (hA 10 152 rfl hd10).trans (h.f10 hd10)
      have y0_ := below_cell h.b x3
      clear hA hB hp hu hdf
      go_simp
      exact ⟨_, rfl, { h with f11 := (fun _ => rfl) }⟩
    · intro done v W A h hd hp hu hA hB hdf
      have hd9 : done 9 = true := hp 9 rfl
      refine ⟨_, h.f9 hd9, fun _ => ?_, fun hne => absurd rfl hne⟩
      have e0 : A.tmps[6]?.getD undef = .slice ac2 2 cc2 := hB 6 rfl
      clear hA hB hp hu hdf
      go_simp
      exact ⟨_, rfl, { h with f12 := (fun _ => rfl) }⟩
    · intro done v W A h hd hp hu hA hB hdf
      have hd9 : done 9 = true := hp 9 rfl
      have hd11 : done 11 = true := hp 11 rfl
      have hd12 : done 12 = true := hp 12 rfl
      refine ⟨_, h.f9 hd9, fun _ => ?_, fun hne => absurd rfl hne⟩
      have e0 := (hA 11 153 rfl hd11).trans (h.f11 hd11)
      have e1 := (hA 12 154 rfl hd12).trans (h.f12 hd12)
      clear hA hB hp hu hdf
      go_simp
      with_reducible refine (HS2.out W h.b).mono ?_
      rintro e wq ⟨rfl, hb⟩
      exact ⟨_, rfl, { h with b := h.b.trans (hb.mono h.b.size), f6 := (fun h1 h2 => (h.f6 h1 h2).below hb), f13 := (fun _ => rfl), f25 := (fun h1 h2 => (h.f25 h1 h2).below hb) }⟩
    · intro done v W A h hd hp hu hA hB hdf
      have hd9 : done 9 = true := hp 9 rfl
      have hd13 : done 13 = true := hp 13 rfl
      have e0 := (hA 9 151 rfl hd9).trans (h.f9 hd9)
      have e1 := (hA 13 155 rfl hd13).trans (h.f13 hd13)
      clear hA hB hp hu hdf
      go_simp
      exact ⟨_, rfl, { h with f14 := (fun _ => rfl) }⟩
    · intro done v W A h hd hp hu hA hB hdf
      have hd14 : done 14 = true := hp 14 rfl
      have e0 := (hA 14 156 rfl hd14).trans (h.f14 hd14)
      clear hA hB hp hu hdf
      go_simp
      exact ⟨_, rfl, { h with f15 := (fun _ => rfl) }⟩
    · intro done v W A h hd hp hu hA hB hdf
      have hd15 : done 15 = true := hp 15 rfl
      refine ⟨_, h.f15 hd15, fun _ => ?_, fun hne => absurd rfl hne⟩
      have e0 : A.tmps[15]?.getD undef = lv2 := hB 15 rfl
      clear hA hB hp hu hdf
      go_simp
      exact ⟨_, rfl, { h with f16 := (fun _ => rfl) }⟩
    · intro done v W A h hd hp hu hA hB hdf
      have hd15 : done 15 = true := hp 15 rfl
      refine ⟨_, h.f15 hd15, fun _ => ?_, fun hne => absurd rfl hne⟩
      have e0 : A.tmps[5]?.getD undef = .slice al2 3 cl2 := hB 5 rfl
      clear hA hB hp hu hdf
      go_simp
      exact ⟨_, rfl, { h with f17 := (fun _ => rfl) }⟩
    · intro done v W A h hd hp hu hA hB hdf
      have hd15 : done 15 = true := hp 15 rfl
      have hd16 : done 16 = true := hp 16 rfl
      have hd17 : done 17 = true := hp 17 rfl
      refine ⟨_, h.f15 hd15, fun _ => ?_, fun hne => absurd rfl hne⟩
      have e0 := (hA 16 158 rfl hd16).trans (h.f16 hd16)
      have e1 := (hA 17 159 rfl hd17).trans (h.f17 hd17)
      clear hA hB hp hu hdf
      go_simp
      with_reducible refine (HS3.out W h.b).mono ?_
      rintro e wq ⟨rfl, hb⟩
      exact ⟨_, rfl, { h with b := h.b.trans (hb.mono h.b.size), f6 := (fun h1 h2 => (h.f6 h1 h2).below hb), f18 := (fun _ => rfl), f25 := (fun h1 h2 => (h.f25 h1 h2).below hb) }⟩
    · intro done v W A h hd hp hu hA hB hdf
      have hd15 : done 15 = true := hp 15 rfl
      have hd18 : done 18 = true := hp 18 rfl
      have e0 := (hA 15 157 rfl hd15).trans (h.f15 hd15)
      have e1 := (hA 18 160 rfl hd18).trans (h.f18 hd18)
      clear hA hB hp hu hdf
      go_simp
      exact ⟨_, rfl, { h with f19 := (fun _ => rfl) }⟩
    · intro done v W A h hd hp hu hA hB hdf
      have hd19 : done 19 = true := hp 19 rfl
      have e0 := (hA 19 161 rfl hd19).trans (h.f19 hd19)
      clear hA hB hp hu hdf
      go_simp
      exact ⟨_, rfl, { h with f20 := (fun _ => rfl) }⟩
    · intro done v W A h hd hp hu hA hB hdf
      have hd20 : done 20 = true := hp 20 rfl
      refine ⟨_, h.f20 hd20, fun _ => ?_, fun hne => absurd rfl hne⟩
      have e0 : A.tmps[15]?.getD undef = lv2 := hB 15 rfl
      clear hA hB hp hu hdf
      go_simp
      exact ⟨_, rfl, { h with f21 := (fun _ => rfl) }⟩
    · intro done v W A h hd hp hu hA hB hdf
      have hd20 : done 20 = true := hp 20 rfl
      refine ⟨_, h.f20 hd20, fun _ => ?_, fun hne => absurd rfl hne⟩
      clear hA hB hp hu hdf
      go_simp
      exact ⟨_, rfl, { h with f22 := (fun _ => rfl) }⟩
    · intro done v W A h hd hp hu hA hB hdf
      have hd20 : done 20 = true := hp 20 rfl
      refine ⟨_, h.f20 hd20, fun _ => ?_, fun hne => absurd rfl hne⟩
      clear hA hB hp hu hdf
      go_simp
      exact ⟨_, rfl, { h with f23 := (fun _ => rfl) }⟩
    · intro done v W A h hd hp hu hA hB hdf
      have hd20 : done 20 = true := hp 20 rfl
      refine ⟨_, h.f20 hd20, fun _ => ?_, fun hne => absurd rfl hne⟩
      clear hA hB hp hu hdf
      go_simp
      exact ⟨_, rfl, { h with f24 := (fun _ => rfl) }⟩
    · intro done v W A h hd hp hu hA hB hdf
      have hd20 : done 20 = true := hp 20 rfl
      have hd22 : done 22 = true := hp 22 rfl
      have hd23 : done 23 = true := hp 23 rfl
      have hd24 : done 24 = true := hp 24 rfl
      refine ⟨_, h.f20 hd20, fun _ => ?_, fun hne => absurd rfl hne⟩
      have e0 := (hA 22 164 rfl hd22).trans (h.f22 hd22)
      have e1 := (hA 23 165 rfl hd23).trans (h.f23 hd23)
      have e2 := (hA 24 166 rfl hd24).trans (h.f24 hd24)
      have hb := below_new W #[.int .i64 0, .int .i64 1007, .int .i64 1, .int .i64 1014, .int .i64 2, .int .i64 1021] 35
      clear hA hB hp hu hdf
      go_simp
      exact ⟨_, rfl, { h with b := h.b.trans (hb.mono h.b.size), f6 := (fun h1 h2 => (h.f6 h1 h2).below hb), f25 := (fun _ _ => sh_lit3 W _ rfl 0 1007 1 1014 2 1021 _ (by unfold R64; omega) (by unfold R64; omega) (by unfold R64; omega) (by unfold R64; omega) (by unfold R64; omega) (by unfold R64; omega)) }⟩
    · intro done v W A h hd hp hu hA hB hdf
      have hd20 : done 20 = true := hp 20 rfl
      have hd21 : done 21 = true := hp 21 rfl
      have hd25 : done 25 = true := hp 25 rfl
      refine ⟨_, h.f20 hd20, fun _ => ?_, fun hne => absurd rfl hne⟩
      have e0 := (hA 21 163 rfl hd21).trans (h.f21 hd21)
      have e1 := hA 25 167 rfl hd25
      have m1 := h.f25 hd25 hd
      clear hA hB hp hu hdf
      go_simp
      with_reducible refine (HS4.out W h.b _ m1).mono ?_
      rintro e wq ⟨rfl, hb⟩
      exact ⟨_, rfl, { h with b := h.b.trans (hb.mono h.b.size), f6 := (fun h1 h2 => (h.f6 h1 h2).below hb), f25 := (fun _ h2 => absurd (show true = false from h2) (by decide)), f26 := (fun _ => rfl) }⟩
    · intro done v W A h hd hp hu hA hB hdf
      have hd20 : done 20 = true := hp 20 rfl
      have hd26 : done 26 = true := hp 26 rfl
      have e0 := (hA 20 162 rfl hd20).trans (h.f20 hd20)
      have e1 := (hA 26 168 rfl hd26).trans (h.f26 hd26)
      clear hA hB hp hu hdf
      go_simp
      exact ⟨_, rfl, { h with f27 := (fun _ => rfl) }⟩
    · intro done v W A h hd hp hu hA hB hdf
      have hd27 : done 27 = true := hp 27 rfl
      have e0 := (hA 27 169 rfl hd27).trans (h.f27 hd27)
      clear hA hB hp hu hdf
      go_simp
      exact ⟨_, rfl, { h with f28 := (fun _ => rfl) }⟩
  simp only [putL, Act.put, Nat.reduceAdd, List.setIfInBounds_toArray, List.set_cons_zero, List.set_cons_succ]
  rw [h.f28 rfl]
  have hbr := h.b
  replace HB := Lib.hid (HB.out.trans (hbr.mono HB.out.size))
  clear h hbr
  go_wp2_with fail
  go_ret
  exact ⟨rfl, HB.out⟩

end Go.Proofs.Ytjjoadmkpbmhpaa
