/- The laws of moving: moved. -/
import Derived.Test.YtjjoadmkpbmhpaaMMvO
import Derived.Test.YtjjoadmkpbmhpaaMRegL
namespace Go.Proofs.Ytjjoadmkpbmhpaa
open Go.RowKit FP

theorem RI.apart {W W' : World} {v : Value} {zs : List Int} {r : Option Nat} (h : RI W v zs) (hg : W.grownBy W' r) (hne : ∀ b, v.ownBlock = some b → r ≠ some b) : RI W' v zs := by
  obtain ⟨⟨a, cap, rfl, h2, h3, h4, h5⟩, hT⟩ := h
  refine ⟨⟨a, cap, rfl, h2, h3, h4, fun k hk => ?_⟩, fun b e => ?_⟩
  · obtain ⟨b, off, rfl, h7⟩ := h5 k hk
    exact ⟨b, off, rfl, hg.cell h7 (fun e2 => hne b rfl e2.symm)⟩
  · obtain ⟨cs, fz, h6⟩ := hT b e
    exact ⟨cs, fz, (hg.block b (row_lt h6) (fun e2 => hne b e e2.symm)).trans h6⟩
theorem RI.lt {W : World} {v : Value} {zs : List Int} (h : RI W v zs) : ∀ b, v.ownBlock = some b → b < W.heap.size := fun b e => by
  obtain ⟨cs, fz, h6⟩ := h.2 b e; exact row_lt h6
/-- Three rows that grow: integers, lists of integers, lists of shares; the integers lie apart from the lists. -/
structure Acc3 (B : Nat) (W : World) (m n1 n2 : Nat) (I L1 L2 : Value) (zs : List Int) (xs ys : List Value) (f : Nat → List Int) (g : Nat → List (Int × Int)) : Prop where
  a : Acc2 B W n1 n2 L1 L2 xs ys f g
  o : W.ownsRow B 3 1 I m (zs.map (Value.int .i64))
  ap : ∀ k (h : k < xs.length) b, xs[k].ownBlock = some b → I.ownBlock ≠ some b
theorem Acc3.keep {B : Nat} {W W' : World} {m n1 n2 : Nat} {I L1 L2 : Value} {zs : List Int} {xs ys : List Value} {f : Nat → List Int} {g : Nat → List (Int × Int)} (h : Acc3 B W m n1 n2 I L1 L2 zs xs ys f g) (hb : Below W.heap.size W W') : Acc3 B W' m n1 n2 I L1 L2 zs xs ys f g :=
  ⟨h.a.keep hb, own_keep h.o hb, h.ap⟩
/-- A row of integers that is appended next, apart from the integers. -/
structure NextC (W : World) (I c : Value) (s : List Int) : Prop where
  r : RI W c s
  ap : ∀ b, c.ownBlock = some b → I.ownBlock ≠ some b
theorem NextC.keep {W W' : World} {I c : Value} {s : List Int} (h : NextC W I c s) (hb : Below W.heap.size W W') : NextC W' I c s := ⟨h.r.below hb, h.ap⟩
theorem Acc3.int {B : Nat} {W W' : World} {m n1 n2 g0 cap : Nat} {I L1 L2 c : Value} {zs s : List Int} {xs ys : List Value} {f : Nat → List Int} {g : Nat → List (Int × Int)} {z : Int} (h : Acc3 B W m n1 n2 I L1 L2 zs xs ys f g) (hc : NextC W I c s)
    (ho : W'.ownsRow B 3 1 (.slice (some ⟨g0, 0, none⟩) (m + 1) cap) (m + 1) (zs.map (Value.int .i64) ++ [.int .i64 z])) (hg : W.grownBy W' I.ownBlock) (hl : I.ownBlock = some g0 ∨ g0 = W.heap.size) :
    Acc3 B W' (m + 1) n1 n2 (.slice (some ⟨g0, 0, none⟩) (m + 1) cap) L1 L2 (zs ++ [z]) xs ys f g ∧ NextC W' (.slice (some ⟨g0, 0, none⟩) (m + 1) cap) c s := by
  have ap : ∀ (v : Value) (s : List Int), RI W v s → (∀ b, v.ownBlock = some b → I.ownBlock ≠ some b) → ∀ b, v.ownBlock = some b → (Value.slice (some ⟨g0, 0, none⟩) (m + 1) cap).ownBlock ≠ some b := fun v s hv hn b hb e => by
    have e2 : g0 = b := by injection e
    rcases hl with hl | hl
    · exact hn b hb (by rw [hl, e2])
    · have := hv.lt b hb; omega
  refine ⟨⟨⟨own_types h.a.o1 h.o (by decide) hg, own_types h.a.o2 h.o (by decide) hg, fun k hk => (h.a.r1 k hk).apart hg (h.ap k hk), fun k hk => (h.a.r2 k hk).grown h.o (by decide) hg⟩, by rw [List.map_append]; exact ho, fun k hk => ap _ _ (h.a.r1 k hk) (h.ap k hk)⟩, hc.r.apart hg hc.ap, ap c s hc.r hc.ap⟩
theorem Acc3.one {B : Nat} {W W' : World} {m n1 n2 : Nat} {I L1 L1' L2 c : Value} {zs : List Int} {xs ys : List Value} {f : Nat → List Int} {g : Nat → List (Int × Int)} (h : Acc3 B W m n1 n2 I L1 L2 zs xs ys f g) (hc : NextC W I c (f n1))
    (ho : W'.ownsRow B 23 1 L1' (n1 + 1) (xs ++ [c])) (hg : W.grownBy W' L1.ownBlock) : Acc3 B W' m (n1 + 1) n2 I L1' L2 zs (xs ++ [c]) ys f g := by
  refine ⟨h.a.one hc.r ho hg, own_types h.o h.a.o1 (by decide) hg, fun k hk b hb => ?_⟩
  by_cases e : k < xs.length
  · rw [List.getElem_append_left e] at hb; exact h.ap k e b hb
  · have e2 : k = xs.length := by simp at hk; omega
    subst e2
    rw [List.getElem_append_right (Nat.le_refl _)] at hb
    simp only [Nat.sub_self, List.getElem_cons_zero] at hb
    exact hc.ap b hb
theorem Acc3.two {B : Nat} {W W' : World} {m n1 n2 : Nat} {I L1 L2 L2' y : Value} {zs : List Int} {xs ys : List Value} {f : Nat → List Int} {g : Nat → List (Int × Int)} (h : Acc3 B W m n1 n2 I L1 L2 zs xs ys f g) (hy : RS W y (g n2))
    (ho : W'.ownsRow B 31 1 L2' (n2 + 1) (ys ++ [y])) (hg : W.grownBy W' L2.ownBlock) : Acc3 B W' m n1 (n2 + 1) I L1 L2' zs xs (ys ++ [y]) f g :=
  ⟨h.a.two hy ho hg, own_types h.o h.a.o2 (by decide) hg, h.ap⟩

def DlK (rows2 : List (List Int)) (s : List Int) (B : Nat) (v : Value) (w : World) : Prop := ∃ al cl ac cc, v = .tuple #[.slice al (dealL rows2 s).length cl, .slice ac (dealC s).length cc, .int .i64 0] ∧ RS w (.slice al (dealL rows2 s).length cl) (dealL rows2 s) ∧ RI w (.slice ac (dealC s).length cc) (dealC s) ∧ ∀ b, (Value.slice ac (dealC s).length cc).ownBlock = some b → B ≤ b
theorem DlK.below {rows2 : List (List Int)} {s : List Int} {B : Nat} {v : Value} {w w' : World} (h : DlK rows2 s B v w) (hb : Below w.heap.size w w') : DlK rows2 s B v w' := by
  obtain ⟨a, c, b, d, e, h1, h2, h3⟩ := h; exact ⟨a, c, b, d, e, h1.below hb, h2.below hb, h3⟩

/-! What moved computes. -/
def dlV (rows : List (List Int)) (owners : List Int) (x : Int) (u : List Int) (rows2 : List (List Int)) (who l : List Int) (i : Nat) : List Int :=
  prodQ (rows.getD (nth (ownN owners who owners.length) i).toNat []) (x :: u) :: numL l (i * colsQ rows2) (colsQ rows2 - 1)
def movU (rows : List (List Int)) (owners : List Int) (x : Int) (u : List Int) (rows2 : List (List Int)) (who l : List Int) : List Int :=
  (linL (colsQ rows2) (accY rows owners who) (ownN owners who owners.length) (dlV rows owners x u rows2 who l) (ownN owners who owners.length).length).tail
def mvCss (rows : List (List Int)) (owners : List Int) (x : Int) (u : List Int) (rows2 : List (List Int)) (who l : List Int) (n : Nat) : List (List Int) := (List.range n).map fun i => dealC (dlV rows owners x u rows2 who l i)
def mvLs (rows : List (List Int)) (owners : List Int) (x : Int) (u : List Int) (rows2 : List (List Int)) (who l : List Int) (n : Nat) : List (List (Int × Int)) := (List.range n).map fun i => dealL rows2 (dlV rows owners x u rows2 who l i)
theorem getD_map {α : Type} {f : Nat → α} {n i : Nat} {d : α} (h : i < n) : ((List.range n).map f).getD i d = f i := by
  rw [List.getD_eq_getElem?_getD, List.getElem?_eq_getElem (by simpa using h)]; simp
theorem dlV_ok {rows : List (List Int)} {owners : List Int} {x : Int} {u : List Int} {rows2 : List (List Int)} {owners2 who l : List Int} {i : Nat} (hp2 : progE rows2 owners2 = 0) : DealOK rows2 owners2 (prodQ (rows.getD (nth (ownN owners who owners.length) i).toNat []) (x :: u)) (numL l (i * colsQ rows2) (colsQ rows2 - 1)) :=
  ⟨progE_ok hp2, prodQ_num _ _, numL_num _ _ _, by have := (progE_ok hp2).cols; rw [numL_len]; omega⟩
theorem mov_onD {rows : List (List Int)} {owners : List Int} {x : Int} {u : List Int} {rows2 : List (List Int)} {owners2 who l : List Int} (h : DealOK rows owners x u) (hp : progE rows owners = 0) (hp2 : progE rows2 owners2 = 0) :
    OnD rows owners x u rows2 owners2 (ownN owners who owners.length) (dlV rows owners x u rows2 who l) (List.range rows2.length) (mvCss rows owners x u rows2 who l (ownN owners who owners.length).length) (mvLs rows owners x u rows2 who l (ownN owners who owners.length).length) :=
  ⟨h, hp, hp2, by simp [mvCss], by simp [mvLs], List.Sublist.refl _, fun i hi => ⟨by unfold mvCss; rw [getD_map hi], by unfold mvLs; rw [getD_map hi]; exact (selL_all _ _).symm, _, rfl, dlV_ok hp2⟩⟩
theorem mov_val {rows : List (List Int)} {owners : List Int} {x ep : Int} {u : List Int} {rows2 : List (List Int)} {owners2 who l : List Int} (h : DealOK rows owners x u) (hp : progE rows owners = 0) (hp2 : progE rows2 owners2 = 0) (h0 : 0 ≤ ep) (h1 : ep < 64) (hw : peopleB (-1) who = true) (ha : accOk rows owners who = true) :
    DealOK rows2 owners2 x (movU rows owners x u rows2 who l) ∧ mvE rows owners ep (dealC (x :: u)) rows2 owners2 who (ownN owners who owners.length) (mvCss rows owners x u rows2 who l (ownN owners who owners.length).length) (mvLs rows owners x u rows2 who l (ownN owners who owners.length).length) = 0 ∧
      mvC (mvCss rows owners x u rows2 who l (ownN owners who owners.length).length) (ownN owners who owners.length) (accY rows owners who) (colsQ rows2) = dealC (x :: movU rows owners x u rows2 who l) ∧ mvL (mvLs rows owners x u rows2 who l (ownN owners who owners.length).length) (ownN owners who owners.length) (accY rows owners who) = dealL rows2 (x :: movU rows owners x u rows2 who l) := by
  obtain ⟨u', rfl, h2, h3, h4, h5⟩ := mov_deal (mov_onD (who := who) (l := l) h hp hp2) h0 h1 hw ha
  exact ⟨h2, h3, h4, h5⟩
theorem ownN_at {owners who : List Int} {k : Nat} (hk : k < owners.length) (h : nth owners k ∈ who) : nth (ownN owners who owners.length) (ownL owners who k).length = (k : Int) := by
  have hp : ∀ d, ∃ t, ownL owners who (k + 1 + d) = ownL owners who k ++ k :: t := by
    intro d
    induction d with
    | zero => exact ⟨[], ownL_yes h⟩
    | succ d ih =>
      obtain ⟨t, ht⟩ := ih
      by_cases h2 : nth owners (k + 1 + d) ∈ who
      · exact ⟨t ++ [k + 1 + d], by rw [show k + 1 + (d + 1) = (k + 1 + d) + 1 by omega, ownL_yes h2, ht]; simp⟩
      · exact ⟨t, by rw [show k + 1 + (d + 1) = (k + 1 + d) + 1 by omega, ownL_no h2, ht]⟩
  obtain ⟨t, ht⟩ := hp (owners.length - (k + 1))
  rw [show k + 1 + (owners.length - (k + 1)) = owners.length by omega] at ht
  unfold ownN
  rw [ht]
  unfold nth
  simp
structure FMo11 (w0 : World) (kv : Value) (qv : Value) (lv : Value) (sv : Value) (B : Nat) (bS : Nat) (fr : Nat) (nc : Nat) (m : Nat) (rows2 : List (List Int)) (s : List Int) (ms : List Int) (done : Nat → Bool) (v : Nat → Value) (w : World) : Prop where
  b : Below w0.heap.size w0 w
  f0 : done 0 = true → v 0 = kv
  f1 : done 1 = true → v 1 = qv
  f2 : done 2 = true → v 2 = sv
  f3 : done 3 = true → v 3 = lv
  f4 : done 4 = true → v 4 = .int .i64 (fr : Int)
  f5 : done 5 = true → v 5 = qv
  f6 : done 6 = true → v 6 = .int .i64 (nc : Int)
  f7 : done 7 = true → v 7 = .int .i64 (m : Int)
  f8 : done 8 = true → done 9 = false → Ints w (v 8) ms
  f9 : done 9 = true → DlK rows2 s w0.heap.size (v 9) w
  f10 : done 10 = true → v 10 = v 9
  f11 : done 11 = true → v 11 = projV 0 (v 9)
  f12 : done 12 = true → v 12 = projV 1 (v 9)
  f13 : done 13 = true → v 13 = projV 2 (v 9)
  f14 : done 14 = true → v 14 = projV 0 (v 9)
  f15 : done 15 = true → v 15 = projV 1 (v 9)
  f16 : done 16 = true → v 16 = projV 2 (v 9)

set_option maxRecDepth 100000 in
set_option maxHeartbeats 16000000 in
theorem moved39_any (ep : Int) (rv ov cv sv rv2 ov2 wv lv : Value) (rows : List (List Int)) (owners : List Int) (x : Int) (u : List Int) (rows2 : List (List Int)) (owners2 who l : List Int) (w : World) (hR : Rows2 w rv rows) (hO : Ints w ov owners) (hC : Ints w cv (dealC (x :: u))) (hS : Shares w sv (dealL rows (x :: u))) (hR2 : Rows2 w rv2 rows2) (hO2 : Ints w ov2 owners2) (hW : Ints w wv who) (hL : Words w lv l)
    (h : DealOK rows owners x u) (hp : progE rows owners = 0) (hp2 : progE rows2 owners2 = 0) (h0 : 0 ≤ ep) (h1 : ep < 64) (hw : peopleB (-1) who = true) (ha : accOk rows owners who = true) :
    Calls Try.prog 14 #[.agg #[.int .i64 ep, rv, ov, cv], sv, .agg #[rv2, ov2], wv, lv] w fun e w' => ∃ ac nc cc al nl cl, e = .returned (.tuple #[.agg #[.int .i64 (ep + 1), rv2, ov2, .slice ac nc cc], .slice al nl cl, .bool true]) ∧ Ints w' (.slice ac nc cc) (dealC (x :: movU rows owners x u rows2 who l)) ∧ Shares w' (.slice al nl cl) (dealL rows2 (x :: movU rows owners x u rows2 who l)) ∧ Below w.heap.size w w' := by
  obtain ⟨W0, hW0, hb0, hr0, hs0⟩ := box_key w (.int .i64 ep) rv ov cv 30
  obtain ⟨W1, hW1, hb1, hr1, hz1⟩ := box_prog W0 rv2 ov2 25
  have hs1 : W1.heap.size = W0.heap.size + 1 := by rw [hW1]; simp
  obtain ⟨W2, hW2, hb2, hr2, hs2⟩ := box_key W1 (.int .i64 0) (.slice none 0 0) (.slice none 0 0) (.slice none 0 0) 30
  have hb01 := hb0.trans (hb1.mono hb0.size)
  have hb : Below w.heap.size w W2 := hb01.trans (hb2.mono hb01.size)
  have HR := Lib.hid (hR.below hb)
  have HO := Lib.hid (hO.below hb)
  have HC := Lib.hid (hC.below hb)
  have HS := Lib.hid (hS.below hb)
  have HR2 := Lib.hid (hR2.below hb)
  have HO2 := Lib.hid (hO2.below hb)
  have HWH := Lib.hid (hW.below hb)
  have HL := Lib.hid (hL.below hb)
  obtain ⟨a1, k1, rfl, -, hl1, -⟩ := id hR
  obtain ⟨a2, k2, rfl, -, hl2, -⟩ := id hO
  obtain ⟨a3, k3, rfl, -, hl3, -⟩ := id hC
  obtain ⟨a6, k6, rfl, -, hl6, -⟩ := id hS
  obtain ⟨a4, k4, rfl, -, hl4, -⟩ := id hR2
  obtain ⟨a5, k5, rfl, -, hl5, -⟩ := id hO2
  obtain ⟨a7, k7, rfl, -, hl7, -⟩ := id hW
  obtain ⟨a8, k8, rfl, -, hl8, -⟩ := id hL
  have Q1 := Lib.hid ((hb2.block _ (row_lt ((hb1.block _ (row_lt hr0)).trans hr0))).trans ((hb1.block _ (row_lt hr0)).trans hr0))
  rw [hs0] at hr1 hs1
  rw [hs1] at hr2
  have Q2 := Lib.hid ((hb2.block _ (row_lt hr1)).trans hr1)
  have Q3 := Lib.hid hr2
  rw [hW1, hW0] at hW2
  have HW2 := Lib.hid hW2
  have HB := Lib.hid hb
  have HD := Lib.hid h
  have HP := Lib.hid hp
  have HP2 := Lib.hid hp2
  have HA := Lib.hid ha
  have HV := Lib.hid (mov_val (l := l) h hp hp2 h0 h1 hw ha)
  have HEP := Lib.hid (And.intro h0 h1)
  have hcu := (progE_ok hp2).cols_le
  have hci := (progE_ok hp2).cols
  have hol : owners.length ≤ 64 := by have h1 := h.prog.few; have h2 := h.prog.len; omega
  have HLR := Lib.hid h.prog.len
  rw [dealL_len] at hl6 ⊢
  clear hR hO hC hS hR2 hO2 hW hL hb hb0 hb1 hb2 hb01 hr0 hr1 hr2 hW0 hW1 hW2 hs0 hs1 hs2 hz1 h hp hp2 h0 h1 hw ha
  obtain ⟨s0l, hs0l⟩ : ∃ s, s = x :: u := ⟨_, rfl⟩
  have c0 := row_cell Q1.out (k := 0) rfl
  have c1 := row_cell Q1.out (k := 1) rfl
  have c2 := row_cell Q1.out (k := 2) rfl
  have c3 := row_cell Q1.out (k := 3) rfl
  have d0 := row_cell Q2.out (k := 0) rfl
  have d1 := row_cell Q2.out (k := 1) rfl
  go_enter Try.func14, Try.ntmps14
  go_wp2_with (rw [← HW2.out])
  go_loopw [13, 14, 15, 16, 27] (fun I L1 L2 us i W => ∃ (k : Nat) (xs ys : List Value), k ≤ rows.length ∧ us = .int .i64 (((ownL owners who k).length : Int) * (colsQ rows2 : Int)) ∧ i = .int .i64 k ∧ Hid (Acc3 W2.heap.size W (ownL owners who k).length (ownL owners who k).length (ownL owners who k).length I L1 L2 (ownN owners who k) xs ys (fun i => dealC (dlV rows owners x u rows2 who l i)) (fun i => dealL rows2 (dlV rows owners x u rows2 who l i))) ∧ Hid (Below W2.heap.size W2 W)) (fun _ _ _ _ i _ => rows.length - (intOf i).toNat)
  case atStart => exact ⟨0, [], [], Nat.zero_le _, by simp [ownL], rfl, Lib.hid ⟨Acc2.nil _ _ _ _, World.ownsRow_nil _ _ _ _, fun k h => absurd h (Nat.not_lt_zero _)⟩, Lib.hid (Below.refl _ _)⟩
  case round =>
    obtain ⟨k, xs, ys, hkl, rfl, rfl, HACC, HBW⟩ := hrel
    replace c0 := below_cell HBW.out c0
    replace c1 := below_cell HBW.out c1
    replace c2 := below_cell HBW.out c2
    replace c3 := below_cell HBW.out c3
    replace d0 := below_cell HBW.out d0
    replace d1 := below_cell HBW.out d1
    replace HR := Lib.hid (HR.out.below HBW.out)
    replace HO := Lib.hid (HO.out.below HBW.out)
    replace HC := Lib.hid (HC.out.below HBW.out)
    replace HR2 := Lib.hid (HR2.out.below HBW.out)
    replace HO2 := Lib.hid (HO2.out.below HBW.out)
    replace HWH := Lib.hid (HWH.out.below HBW.out)
    replace HL := Lib.hid (HL.out.below HBW.out)
    replace Q1 := Lib.hid ((HBW.out.block _ (row_lt Q1.out)).trans Q1.out)
    replace Q2 := Lib.hid ((HBW.out.block _ (row_lt Q2.out)).trans Q2.out)
    replace Q3 := Lib.hid ((HBW.out.block _ (row_lt Q3.out)).trans Q3.out)
    replace HB := Lib.hid (HB.out.trans (HBW.out.mono HB.out.size))
    have hlr2 := HLR.out
    by_cases hlt : k < rows.length
    · obtain ⟨aS, cS, eS, -, -, -, hk1⟩ := HS.out
      obtain ⟨b1, o1, ea, qa, qb⟩ := hk1 k (by rw [dealL_len]; exact hlt)
      simp only [Value.slice.injEq] at eS
      obtain ⟨rfl, -, -⟩ := eS
      subst ea
      rw [dealL_at] at qa qb
      simp only at qa qb
      have y1 := below_cell HBW.out qa
      have y2 := below_cell HBW.out qb
      obtain ⟨val, hval⟩ : ∃ v, v = prodQ (rows.getD k []) (x :: u) := ⟨_, rfl⟩
      rw [← hval] at y2
      have HVAL := Lib.hid hval
      obtain ⟨W5, hW5, hb5, hr5, -⟩ := box_prog wr (.int .i64 (k : Int)) (.int .i64 val) 35
      have s0 := row_cell hr5 (k := 0) (v := .int .i64 (k : Int)) rfl
      have s1 := row_cell hr5 (k := 1) (v := .int .i64 val) rfl
      obtain ⟨hrk, bO, oO, nO, cO, eO, qO⟩ := HO.out.get (k := k) (by omega)
      simp only [Value.slice.injEq] at eO
      obtain ⟨rfl, -, -⟩ := eO
      have QS := Lib.hid hr5
      have HW5 := Lib.hid hW5
      have i0 : (0 : Int) ≤ (k : Int) := by omega
      have i1 : (k : Int) < (owners.length : Int) := by omega
      have i2 : (k : Int) < (rows.length : Int) := by omega
      have n0 : decide ((k : Int) < 0) = false := decide_eq_false (by omega)
      have n1 : decide ((owners.length : Int) ≤ (k : Int)) = false := decide_eq_false (by omega)
      have n2 : decide (owners.length ≤ k) = false := decide_eq_false (by omega)
      have HLT := Lib.hid hlt
      clear hk1 qa qb hval hr5 hW5 hrk hlr2
      have pc0 := c0
      have pc1 := c1
      have pc2 := c2
      have pc3 := c3
      have pd0 := d0
      have pd1 := d1
      have pqO := qO
      replace c0 := below_cell hb5 c0
      replace c1 := below_cell hb5 c1
      replace c2 := below_cell hb5 c2
      replace c3 := below_cell hb5 c3
      replace d0 := below_cell hb5 d0
      replace d1 := below_cell hb5 d1
      replace qO := below_cell hb5 qO
      replace HR := Lib.hid (HR.out.below hb5)
      replace HO := Lib.hid (HO.out.below hb5)
      replace HC := Lib.hid (HC.out.below hb5)
      replace HR2 := Lib.hid (HR2.out.below hb5)
      replace HO2 := Lib.hid (HO2.out.below hb5)
      replace HWH := Lib.hid (HWH.out.below hb5)
      replace HL := Lib.hid (HL.out.below hb5)
      replace Q1 := Lib.hid ((hb5.block _ (row_lt Q1.out)).trans Q1.out)
      replace Q2 := Lib.hid ((hb5.block _ (row_lt Q2.out)).trans Q2.out)
      replace Q3 := Lib.hid ((hb5.block _ (row_lt Q3.out)).trans Q3.out)
      replace HB := Lib.hid (HB.out.trans (hb5.mono HB.out.size))
      replace HBW := Lib.hid (HBW.out.trans (hb5.mono HBW.out.size))
      replace HACC := Lib.hid (HACC.out.keep hb5)
      clear hb5
      go_wp2_with (rw [← HW5.out])
      clear pc0 pc1 pc2 pc3 pd0 pd1 pqO y1 y2 HW5
      with_reducible refine (rHas_any _ who (nth owners k) _ HWH.out).mono ?_
      rintro e wq ⟨rfl, rfl⟩
      by_cases hin : nth owners k ∈ who
      rotate_left
      · have HT1 : Hid (ownL owners who (k + 1) = ownL owners who k) := Lib.hid (ownL_no hin)
        have HT2 : Hid (ownN owners who (k + 1) = ownN owners who k) := Lib.hid (by unfold ownN; rw [ownL_no hin])
        rw [decide_eq_false hin]
        clear hin
        go_wp2_with fail
        go_roundw
        case rel => exact ⟨k + 1, xs, ys, by omega, by rw [HT1.out], by go_num, by rw [HT1.out, HT2.out]; exact HACC, HBW⟩
        case measure => simp [intOf]; omega
      rw [decide_eq_true hin]
      have HT1 : Hid ((ownL owners who (k + 1)).length = (ownL owners who k).length + 1) := Lib.hid (by rw [ownL_yes hin, List.length_append]; rfl)
      have HT2 : Hid (ownN owners who (k + 1) = ownN owners who k ++ [(k : Int)]) := Lib.hid (by unfold ownN; rw [ownL_yes hin, List.map_append]; rfl)
      have hnl := ownL_len owners who k
      have hat := ownN_at (who := who) (show k < owners.length by have := HLR.out; omega) hin
      obtain ⟨nk, hnk⟩ : ∃ n, n = (ownL owners who k).length := ⟨_, rfl⟩
      rw [← hnk] at HT1 HACC hnl hat ⊢
      obtain ⟨us, hus⟩ : ∃ n, n = nk * colsQ rows2 := ⟨_, rfl⟩
      have hus2 : us ≤ 4096 := by rw [hus]; exact Nat.le_trans (Nat.mul_le_mul (show nk ≤ 64 by omega) hcu) (by decide)
      have hus3 : (nk + 1) * colsQ rows2 = us + colsQ rows2 := by rw [hus, Nat.succ_mul]
      have hus4 : (nk : Int) * (colsQ rows2 : Int) = (us : Int) := by rw [hus]; exact (Int.natCast_mul _ _).symm
      have HUS3 : Hid (((nk + 1 : Nat) : Int) * (colsQ rows2 : Int) = (us : Int) + (colsQ rows2 : Int)) := Lib.hid (by rw [← Int.natCast_mul, hus3, Int.natCast_add])
      obtain ⟨s, hs⟩ : ∃ s, s = dlV rows owners x u rows2 who l nk := ⟨_, rfl⟩
      have hsv : s = val :: numL l us (colsQ rows2 - 1) := by rw [hs]; unfold dlV; rw [hat, HVAL.out, hus, Int.toNat_natCast]
      have HSD : Hid (DealOK rows2 owners2 val (numL l us (colsQ rows2 - 1))) := Lib.hid ⟨progE_ok HP2.out, by rw [HVAL.out]; exact prodQ_num _ _, numL_num _ _ _, by rw [numL_len]; omega⟩
      rw [hus4]
      have HSS := Lib.hid hs
      have HSV := Lib.hid hsv
      have HNK := Lib.hid hnk
      clear hs hsv hus hat hnk hus3 hus4 hin
      have hwc : IntKind.i64.wrap ((colsQ rows2 : Int) - 1) = ((colsQ rows2 - 1 : Nat) : Int) := by rw [IntKind.wrap_i64]; omega
      have HR64k : Hid (R64 (k : Int)) := Lib.hid (R64.mk (by omega) (by omega))
      have HR64v : Hid (R64 val) := Lib.hid (by rw [HVAL.out]; exact num_r64 (prodQ_num _ _))
      have HFT := Lib.hid (fit_deal HD.out HP.out HLT.out (v := val) (by rw [HVAL.out]; exact prodQ_num _ _)).2
      have HMD : Hid (mdE rows owners ep (dealC (x :: u)) rows2 owners2 (k : Int) val (numL l us (colsQ rows2 - 1)) = 0) := Lib.hid (by
        have hc : chkE rows owners ep (dealC (x :: u)) rows2 owners2 = 0 := by unfold chkE; rw [if_neg (by simp [HP.out]), key_deal HD.out HP.out HEP.out.1 (by have := HEP.out.2; omega), if_neg (by simp), HP2.out]
        unfold mdE; rw [hc, if_neg (by decide), HFT.out, decide_eq_true HVAL.out, if_neg (by decide)]; exact dealE_of HSD.out HP2.out)
      have HMF : Hid (mfE rows owners ep (dealC (x :: u)) rows2 owners2 (k : Int) (dealC s) = 0 ∧ mfB rows owners ep (dealC (x :: u)) rows2 owners2 (k : Int) (dealC s) = true) := Lib.hid (by
        have hc : chkE rows owners ep (dealC (x :: u)) rows2 owners2 = 0 := by unfold chkE; rw [if_neg (by simp [HP.out]), key_deal HD.out HP.out HEP.out.1 (by have := HEP.out.2; omega), if_neg (by simp), HP2.out]
        have hE : mfE rows owners ep (dealC (x :: u)) rows2 owners2 (k : Int) (dealC s) = 0 := by unfold mfE; rw [hc, if_neg (by decide), if_neg (by have := HLT.out; omega), HSV.out, (com_deal_B HSD.out HP2.out).1]; rfl
        refine ⟨hE, ?_⟩
        unfold mfB; rw [hE, HSV.out, fitM_deal HD.out HP.out ⟨by omega, by have := HLT.out; omega⟩ HSD.out HP2.out, Int.toNat_natCast, decide_eq_true rfl, decide_eq_true HVAL.out]; rfl)
      go_wp2_with fail
      have HCO := Lib.hid (fun (W1 : World) (h1 : Below W5.heap.size W5 W1) => rCols_any (.slice a4 rows2.length k4) (.slice a5 owners2.length k5) rows2 W1 (HR2.out.below h1) ⟨_, _, _, rfl⟩)
      obtain ⟨ms, hms⟩ : ∃ m, m = numL l us (colsQ rows2 - 1) := ⟨_, rfl⟩
      have HMS := Lib.hid hms
      have HNU := Lib.hid (fun (W1 : World) (h1 : Below W5.heap.size W5 W1) => show Calls Try.prog 9 #[(.slice a8 l.length k8), .int .i64 (us : Int), .int .i64 ((colsQ rows2 - 1 : Nat) : Int)] W1 (fun e w' => ∃ v, e = .returned v ∧ Ints w' v ms ∧ Below W1.heap.size W1 w') from by rw [hms]; exact numbers39_any (.slice a8 l.length k8) l us (colsQ rows2 - 1) W1 (HL.out.below h1) (by omega) (by omega))
      have HDL := Lib.hid (fun (W1 : World) (h1 : Below W5.heap.size W5 W1) (v1 : Value) (m1 : Ints W1 v1 ms) => show Calls Try.prog 16 #[.agg #[.int .i64 ep, .slice a1 rows.length k1, .slice (some ⟨bO, oO, none⟩) owners.length k2, .slice a3 (dealC (x :: u)).length k3], .agg #[(.slice a4 rows2.length k4), (.slice a5 owners2.length k5)], .agg #[.int .i64 (k : Int), .int .i64 val], v1] W1 (fun e w' => ∃ z, e = .returned z ∧ DlK rows2 s W5.heap.size z w' ∧ Below W1.heap.size W1 w') from by
        rw [HSV.out, ← hms]
        exact (md_val ep (.slice a1 rows.length k1) (.slice (some ⟨bO, oO, none⟩) owners.length k2) (.slice a3 (dealC (x :: u)).length k3) (.slice a4 rows2.length k4) (.slice a5 owners2.length k5) v1 (k : Int) val rows owners (dealC (x :: u)) rows2 owners2 ms W1 (HR.out.below h1) (HO.out.below h1) (HC.out.below h1) (HR2.out.below h1) (HO2.out.below h1) m1 HR64k.out HR64v.out (by rw [hms]; exact HMD.out)).mono fun e w' ⟨al, cl, ac, cc, e1, h2, h3, h4, h5⟩ => ⟨_, e1, ⟨al, cl, ac, cc, rfl, h2, h3, fun b hb => Nat.le_trans h1.size (h4 b hb)⟩, h5⟩)
      clear hms
      refine wp_region_flowsG (by kernel_rfl) (by kernel_rfl) (by kernel_rfl) (by kernel_rfl) (fun done v W => FMo11 W5 (.agg #[.int .i64 ep, .slice a1 rows.length k1, .slice (some ⟨bO, oO, none⟩) owners.length k2, .slice a3 (dealC (x :: u)).length k3]) (.agg #[.slice a4 rows2.length k4, .slice a5 owners2.length k5]) (.slice a8 l.length k8) (.agg #[.int .i64 (k : Int), .int .i64 val]) (w.heap.size) (wr.heap.size) (us) ((colsQ rows2)) ((colsQ rows2 - 1)) (rows2) (s) (ms) done v W) (fun v => ?_) ?_ (fun v W h => ?_)
      · exact ⟨(Below.refl _ _).drew, (fun h => by cases h), (fun h => by cases h), (fun h => by cases h), (fun h => by cases h), (fun h => by cases h), (fun h => by cases h), (fun h => by cases h), (fun h => by cases h), (fun h => by cases h), (fun h => by cases h), (fun h => by cases h), (fun h => by cases h), (fun h => by cases h), (fun h => by cases h), (fun h => by cases h), (fun h => by cases h), (fun h => by cases h)⟩
      · refine ⟨?_, ?_, ?_, ?_, ?_, ?_, ?_, ?_, ?_, ?_, ?_, ?_, ?_, ?_, ?_, ?_, ?_, trivial⟩
        · intro done v W A h hd hp hu hA hB hdf
          have e0 : A.tmps[5]?.getD undef = .pointer (some ⟨w.heap.size, 0, none⟩) := hB 5 rfl
          have y0_ := below_cell h.b c0
          have y1_ := below_cell h.b c1
          have y2_ := below_cell h.b c2
          have y3_ := below_cell h.b c3
          clear hA hB hp hu hdf
          go_simp
          exact ⟨_, rfl, { h with f0 := (fun _ => rfl) }⟩
        · intro done v W A h hd hp hu hA hB hdf
          have e0 : A.tmps[7]?.getD undef = .pointer (some ⟨w.heap.size + 1, 0, none⟩) := hB 7 rfl
          have y0_ := below_cell h.b d0
          have y1_ := below_cell h.b d1
          clear hA hB hp hu hdf
          go_simp
          exact ⟨_, rfl, { h with f1 := (fun _ => rfl) }⟩
        · intro done v W A h hd hp hu hA hB hdf
          have e0 : A.tmps[18]?.getD undef = .pointer (some ⟨wr.heap.size, 0, none⟩) := hB 18 rfl
          have y0_ := below_cell h.b s0
          have y1_ := below_cell h.b s1
          clear hA hB hp hu hdf
          go_simp
          exact ⟨_, rfl, { h with f2 := (fun _ => rfl) }⟩
        · intro done v W A h hd hp hu hA hB hdf
          have e0 : A.tmps[4]?.getD undef = .slice a8 l.length k8 := hB 4 rfl
          clear hA hB hp hu hdf
          go_simp
          exact ⟨_, rfl, { h with f3 := (fun _ => rfl) }⟩
        · intro done v W A h hd hp hu hA hB hdf
          have e0 : A.tmps[16]?.getD undef = .int .i64 (us : Int) := hB 16 rfl
          clear hA hB hp hu hdf
          go_simp
          exact ⟨_, rfl, { h with f4 := (fun _ => rfl) }⟩
        · intro done v W A h hd hp hu hA hB hdf
          have e0 : A.tmps[7]?.getD undef = .pointer (some ⟨w.heap.size + 1, 0, none⟩) := hB 7 rfl
          have y0_ := below_cell h.b d0
          have y1_ := below_cell h.b d1
          clear hA hB hp hu hdf
          go_simp
          exact ⟨_, rfl, { h with f5 := (fun _ => rfl) }⟩
        · intro done v W A h hd hp hu hA hB hdf
          have hd5 : done 5 = true := hp 5 rfl
          have e0 := (hA 5 60 rfl hd5).trans (h.f5 hd5)
          clear hA hB hp hu hdf
          go_simp
          with_reducible refine (HCO.out W h.b).mono ?_
          rintro e wq ⟨rfl, hb⟩
          exact ⟨_, rfl, { h with b := h.b.trans (hb.mono h.b.size), f6 := (fun _ => rfl), f8 := (fun h1 h2 => (h.f8 h1 h2).below hb), f9 := (fun h1 => (h.f9 h1).below hb) }⟩
        · intro done v W A h hd hp hu hA hB hdf
          have hd6 : done 6 = true := hp 6 rfl
          have e0 := (hA 6 61 rfl hd6).trans (h.f6 hd6)
          clear hA hB hp hu hdf
          go_simp
          exact ⟨_, rfl, { h with f7 := (fun _ => rfl) }⟩
        · intro done v W A h hd hp hu hA hB hdf
          have hd3 : done 3 = true := hp 3 rfl
          have hd4 : done 4 = true := hp 4 rfl
          have hd7 : done 7 = true := hp 7 rfl
          have e0 := (hA 3 58 rfl hd3).trans (h.f3 hd3)
          have e1 := (hA 4 59 rfl hd4).trans (h.f4 hd4)
          have e2 := (hA 7 62 rfl hd7).trans (h.f7 hd7)
          clear hA hB hp hu hdf
          go_simp
          with_reducible refine (HNU.out W h.b).mono ?_
          rintro e wq ⟨u, rfl, hn, hb⟩
          exact ⟨_, rfl, { h with b := h.b.trans (hb.mono h.b.size), f8 := (fun _ _ => hn), f9 := (fun h1 => (h.f9 h1).below hb) }⟩
        · intro done v W A h hd hp hu hA hB hdf
          have n10_9 : done 10 = false := flow_not (fun hj => hu 10 9 rfl (hj)) hd
          have n11_9 : done 11 = false := flow_not (fun hj => hu 10 9 rfl (hu 11 10 rfl (hj))) hd
          have n12_9 : done 12 = false := flow_not (fun hj => hu 10 9 rfl (hu 12 10 rfl (hj))) hd
          have n13_9 : done 13 = false := flow_not (fun hj => hu 10 9 rfl (hu 13 10 rfl (hj))) hd
          have n14_9 : done 14 = false := flow_not (fun hj => hu 14 9 rfl (hj)) hd
          have n15_9 : done 15 = false := flow_not (fun hj => hu 15 9 rfl (hj)) hd
          have n16_9 : done 16 = false := flow_not (fun hj => hu 16 9 rfl (hj)) hd
          have hd0 : done 0 = true := hp 0 rfl
          have hd1 : done 1 = true := hp 1 rfl
          have hd2 : done 2 = true := hp 2 rfl
          have hd8 : done 8 = true := hp 8 rfl
          have e0 := (hA 0 55 rfl hd0).trans (h.f0 hd0)
          have e1 := (hA 1 56 rfl hd1).trans (h.f1 hd1)
          have e2 := (hA 2 57 rfl hd2).trans (h.f2 hd2)
          have e3 := hA 8 63 rfl hd8
          have m3 := h.f8 hd8 hd
          clear hA hB hp hu hdf
          go_simp
          with_reducible refine (HDL.out W h.b _ m3).mono ?_
          rintro e wq ⟨u, rfl, hn, hb⟩
          exact ⟨_, rfl, { h with b := h.b.trans (hb.mono h.b.size), f8 := (fun _ h2 => absurd (show true = false from h2) (by decide)), f9 := (fun _ => hn), f10 := (fun hj => absurd (hj.symm.trans n10_9) (by decide)), f11 := (fun hj => absurd (hj.symm.trans n11_9) (by decide)), f12 := (fun hj => absurd (hj.symm.trans n12_9) (by decide)), f13 := (fun hj => absurd (hj.symm.trans n13_9) (by decide)), f14 := (fun hj => absurd (hj.symm.trans n14_9) (by decide)), f15 := (fun hj => absurd (hj.symm.trans n15_9) (by decide)), f16 := (fun hj => absurd (hj.symm.trans n16_9) (by decide)) }⟩
        · intro done v W A h hd hp hu hA hB hdf
          have hd9 : done 9 = true := hp 9 rfl
          have e0 := hA 9 64 rfl hd9
          clear hA hB hp hu hdf
          go_simp
          exact ⟨_, rfl, { h with f10 := (fun _ => rfl) }⟩
        · intro done v W A h hd hp hu hA hB hdf
          have hd9 : done 9 = true := hu 10 9 rfl (hp 10 rfl)
          have hd10 : done 10 = true := hp 10 rfl
          obtain ⟨al, cl, ac, cc, eD, hsD, hcD, hfD⟩ := h.f9 hd9
          have e0 := (hA 10 54 rfl hd10).trans ((h.f10 hd10).trans eD)
          clear hA hB hp hu hdf
          go_simp
          exact ⟨_, rfl, { h with f11 := (fun _ => (by show _ = projV 0 (v 9); rw [eD]; rfl)) }⟩
        · intro done v W A h hd hp hu hA hB hdf
          have hd9 : done 9 = true := hu 10 9 rfl (hp 10 rfl)
          have hd10 : done 10 = true := hp 10 rfl
          obtain ⟨al, cl, ac, cc, eD, hsD, hcD, hfD⟩ := h.f9 hd9
          have e0 := (hA 10 54 rfl hd10).trans ((h.f10 hd10).trans eD)
          clear hA hB hp hu hdf
          go_simp
          exact ⟨_, rfl, { h with f12 := (fun _ => (by show _ = projV 1 (v 9); rw [eD]; rfl)) }⟩
        · intro done v W A h hd hp hu hA hB hdf
          have hd9 : done 9 = true := hu 10 9 rfl (hp 10 rfl)
          have hd10 : done 10 = true := hp 10 rfl
          obtain ⟨al, cl, ac, cc, eD, hsD, hcD, hfD⟩ := h.f9 hd9
          have e0 := (hA 10 54 rfl hd10).trans ((h.f10 hd10).trans eD)
          clear hA hB hp hu hdf
          go_simp
          exact ⟨_, rfl, { h with f13 := (fun _ => (by show _ = projV 2 (v 9); rw [eD]; rfl)) }⟩
        · intro done v W A h hd hp hu hA hB hdf
          have hd11 : done 11 = true := hp 11 rfl
          have e0 := hA 11 65 rfl hd11
          clear hA hB hp hu hdf
          go_simp
          exact ⟨_, rfl, { h with f14 := (fun _ => (h.f11 hd11)) }⟩
        · intro done v W A h hd hp hu hA hB hdf
          have hd12 : done 12 = true := hp 12 rfl
          have e0 := hA 12 66 rfl hd12
          clear hA hB hp hu hdf
          go_simp
          exact ⟨_, rfl, { h with f15 := (fun _ => (h.f12 hd12)) }⟩
        · intro done v W A h hd hp hu hA hB hdf
          have hd13 : done 13 = true := hp 13 rfl
          have e0 := hA 13 67 rfl hd13
          clear hA hB hp hu hdf
          go_simp
          exact ⟨_, rfl, { h with f16 := (fun _ => (h.f13 hd13)) }⟩
      simp only [putL, Act.put, Nat.reduceAdd, List.setIfInBounds_toArray, List.set_cons_zero, List.set_cons_succ]
      obtain ⟨al, cl, ac, cc, eD, hsD, hcD, hfD⟩ := h.f9 rfl
      rw [show v 14 = .slice al (dealL rows2 s).length cl from (h.f14 rfl).trans (by rw [eD]; rfl)]
      rw [show v 15 = .slice ac (dealC s).length cc from (h.f15 rfl).trans (by rw [eD]; rfl)]
      rw [show v 16 = .int .i64 0 from (h.f16 rfl).trans (by rw [eD]; rfl)]
      have hbr := h.b
      have HAP : Hid (∀ b, (Value.slice ac (dealC s).length cc).ownBlock = some b → u13.ownBlock ≠ some b) := Lib.hid (fun b hb e2 => by have h1 := hfD b hb; have h2 := (own_lt HACC.out.o b e2).2; omega)
      have HNC : Hid (NextC W u13 (.slice ac (dealC s).length cc) (dealC s)) := Lib.hid ⟨hcD, HAP.out⟩
      have HND := Lib.hid hsD
      replace c0 := below_cell hbr c0
      replace c1 := below_cell hbr c1
      replace c2 := below_cell hbr c2
      replace c3 := below_cell hbr c3
      replace d0 := below_cell hbr d0
      replace d1 := below_cell hbr d1
      replace qO := below_cell hbr qO
      replace s0 := below_cell hbr s0
      replace s1 := below_cell hbr s1
      replace HR := Lib.hid (HR.out.below hbr)
      replace HO := Lib.hid (HO.out.below hbr)
      replace HC := Lib.hid (HC.out.below hbr)
      replace HR2 := Lib.hid (HR2.out.below hbr)
      replace HO2 := Lib.hid (HO2.out.below hbr)
      replace HWH := Lib.hid (HWH.out.below hbr)
      replace HL := Lib.hid (HL.out.below hbr)
      replace Q1 := Lib.hid ((hbr.block _ (row_lt Q1.out)).trans Q1.out)
      replace Q2 := Lib.hid ((hbr.block _ (row_lt Q2.out)).trans Q2.out)
      replace Q3 := Lib.hid ((hbr.block _ (row_lt Q3.out)).trans Q3.out)
      replace HB := Lib.hid (HB.out.trans (hbr.mono HB.out.size))
      replace HBW := Lib.hid (HBW.out.trans (hbr.mono HBW.out.size))
      replace HACC := Lib.hid (HACC.out.keep hbr)
      clear h hbr hsD hcD hfD eD HAP HCO HNU HDL HMS QS
      go_wp2_with fail
      with_reducible refine (mf_val ep (.slice a1 rows.length k1) (.slice (some ⟨bO, oO, none⟩) owners.length k2) (.slice a3 (dealC (x :: u)).length k3) (.slice a4 rows2.length k4) (.slice a5 owners2.length k5) _ (k : Int) rows owners (dealC (x :: u)) rows2 owners2 (dealC s) _ _ _ HR.out HO.out HC.out HR2.out HO2.out HNC.out.r.ints HR64k.out HMF.out).mono ?_
      rintro e w12 ⟨rfl, hb12⟩
      replace c0 := below_cell hb12 c0
      replace c1 := below_cell hb12 c1
      replace c2 := below_cell hb12 c2
      replace c3 := below_cell hb12 c3
      replace d0 := below_cell hb12 d0
      replace d1 := below_cell hb12 d1
      replace qO := below_cell hb12 qO
      replace s0 := below_cell hb12 s0
      replace s1 := below_cell hb12 s1
      replace HR := Lib.hid (HR.out.below hb12)
      replace HO := Lib.hid (HO.out.below hb12)
      replace HC := Lib.hid (HC.out.below hb12)
      replace HR2 := Lib.hid (HR2.out.below hb12)
      replace HO2 := Lib.hid (HO2.out.below hb12)
      replace HWH := Lib.hid (HWH.out.below hb12)
      replace HL := Lib.hid (HL.out.below hb12)
      replace HND := Lib.hid (HND.out.below hb12)
      replace Q1 := Lib.hid ((hb12.block _ (row_lt Q1.out)).trans Q1.out)
      replace Q2 := Lib.hid ((hb12.block _ (row_lt Q2.out)).trans Q2.out)
      replace Q3 := Lib.hid ((hb12.block _ (row_lt Q3.out)).trans Q3.out)
      replace HB := Lib.hid (HB.out.trans (hb12.mono HB.out.size))
      replace HBW := Lib.hid (HBW.out.trans (hb12.mono HBW.out.size))
      replace HACC := Lib.hid (HACC.out.keep hb12)
      replace HNC := Lib.hid (HNC.out.keep hb12)
      clear hb12
      have hwu : IntKind.i64.wrap ((us : Int) + (colsQ rows2 : Int)) = (us : Int) + (colsQ rows2 : Int) := by rw [IntKind.wrap_i64]; omega
      go_wp2_with fail
      with_reducible refine (rCols_any _ _ rows2 _ HR2.out ⟨_, _, _, rfl⟩).mono ?_
      rintro e w15 ⟨rfl, hb15⟩
      replace c0 := below_cell hb15 c0
      replace c1 := below_cell hb15 c1
      replace c2 := below_cell hb15 c2
      replace c3 := below_cell hb15 c3
      replace d0 := below_cell hb15 d0
      replace d1 := below_cell hb15 d1
      replace qO := below_cell hb15 qO
      replace s0 := below_cell hb15 s0
      replace s1 := below_cell hb15 s1
      replace HR := Lib.hid (HR.out.below hb15)
      replace HO := Lib.hid (HO.out.below hb15)
      replace HC := Lib.hid (HC.out.below hb15)
      replace HR2 := Lib.hid (HR2.out.below hb15)
      replace HO2 := Lib.hid (HO2.out.below hb15)
      replace HWH := Lib.hid (HWH.out.below hb15)
      replace HL := Lib.hid (HL.out.below hb15)
      replace HND := Lib.hid (HND.out.below hb15)
      replace Q1 := Lib.hid ((hb15.block _ (row_lt Q1.out)).trans Q1.out)
      replace Q2 := Lib.hid ((hb15.block _ (row_lt Q2.out)).trans Q2.out)
      replace Q3 := Lib.hid ((hb15.block _ (row_lt Q3.out)).trans Q3.out)
      replace HB := Lib.hid (HB.out.trans (hb15.mono HB.out.size))
      replace HBW := Lib.hid (HBW.out.trans (hb15.mono HBW.out.size))
      replace HACC := Lib.hid (HACC.out.keep hb15)
      replace HNC := Lib.hid (HNC.out.keep hb15)
      clear hb15
      have hn1 := below_new w15 #[.int .i64 (k : Int)] 3
      have HA1 := Lib.hid (HACC.out.keep hn1)
      have HN1 := Lib.hid (HNC.out.keep hn1)
      have HD1 := Lib.hid (HND.out.below hn1)
      have HB1 := Lib.hid (HBW.out.trans (hn1.mono HBW.out.size))
      have HS1 := Lib.hid HB1.out.size
      have hk6 : nk ≤ 1000000 := by omega
      clear hn1 HACC HNC HND HBW
      go_wp2_with (first
        | (refine app_int_lies rfl _ _ rfl W2.heap.size nk _ _ rfl HA1.out.o w15.heap.size 1 (k : Int) rfl (row_cell (World.alloc_heap_new _ _) rfl) hk6 HS1.out ?_; intro g9 cap9 w9 h9 o9 l9; have HA2 := Lib.hid (HA1.out.int HN1.out h9 o9 l9); have HB2 := Lib.hid (HB1.out.trans (own_below HA1.out.o o9 HS1.out)); have HD2 := Lib.hid (HD1.out.grown HA1.out.o (by decide) o9); clear h9 o9 l9 HA1 HN1 HB1 HD1 HS1; have hn2 := below_new w9 #[.slice ac (dealC s).length cc] 23; have HA3 := Lib.hid (HA2.out.1.keep hn2); have HN3 := Lib.hid (HA2.out.2.keep hn2); have HD3 := Lib.hid (HD2.out.below hn2); have HB3 := Lib.hid (HB2.out.trans (hn2.mono HB2.out.size)); have HS3 := Lib.hid HB3.out.size; clear hn2 HA2 HD2 HB2)
        | (refine app_rowT rfl _ _ rfl W2.heap.size nk _ xs rfl HA3.out.a.o1 w9.heap.size 1 (.slice ac (dealC s).length cc) rfl (row_cell (World.alloc_heap_new _ _) rfl) rfl hk6 HS3.out ?_; intro v10 w10 h10 o10; have HA4 := Lib.hid (HA3.out.one (by rw [← HSS.out]; exact HN3.out) h10 o10); have HB4 := Lib.hid (HB3.out.trans (own_below HA3.out.a.o1 o10 HS3.out)); have HD4 := Lib.hid (HD3.out.grown HA3.out.a.o1 (by decide) o10); clear h10 o10 HA3 HN3 HB3 HD3 HS3; have hn3 := below_new w10 #[.slice al (dealL rows2 s).length cl] 31; have HA5 := Lib.hid (HA4.out.keep hn3); have HD5 := Lib.hid (HD4.out.below hn3); have HB5 := Lib.hid (HB4.out.trans (hn3.mono HB4.out.size)); have HS5 := Lib.hid HB5.out.size; clear hn3 HA4 HD4 HB4)
        | (refine app_rowS rfl _ _ rfl W2.heap.size nk _ ys rfl HA5.out.a.o2 w10.heap.size 1 (.slice al (dealL rows2 s).length cl) rfl (row_cell (World.alloc_heap_new _ _) rfl) rfl hk6 HS5.out ?_; intro v11 w11 h11 o11; have HA6 := Lib.hid (HA5.out.two (by rw [← HSS.out]; exact HD5.out) h11 o11); have HB6 := Lib.hid (HB5.out.trans (own_below HA5.out.a.o2 o11 HS5.out)); clear h11 o11))
      go_roundw
      case rel => exact ⟨k + 1, _, _, by omega, by rw [HT1.out, HUS3.out], by go_num, by rw [HT1.out, HT2.out]; exact HA6, HB6⟩
      case measure => simp [intOf]; omega
    · obtain rfl : k = rows.length := by omega
      rw [HLR.out] at HACC
      have hnl : (ownL owners who owners.length).length = (ownN owners who owners.length).length := by unfold ownN; rw [List.length_map]
      have hn64 := ownN_len owners who owners.length
      have HCSS : Hid (Rows2 wr u14 (mvCss rows owners x u rows2 who l (ownN owners who owners.length).length)) := Lib.hid (HACC.out.a.rows (css := (mvCss rows owners x u rows2 who l (ownN owners who owners.length).length)) (by rw [hnl]; simp [mvCss]) (by omega) (fun k h => by unfold mvCss at h ⊢; rw [List.getElem_map, List.getElem_range]))
      have HLSS : Hid (SRows wr u15 (mvLs rows owners x u rows2 who l (ownN owners who owners.length).length)) := Lib.hid (HACC.out.a.lists (ls := (mvLs rows owners x u rows2 who l (ownN owners who owners.length).length)) (by rw [hnl]; simp [mvLs]) (by omega) (fun k h => by unfold mvLs at h ⊢; rw [List.getElem_map, List.getElem_range]))
      have HRW : Hid (Ints wr u13 (ownN owners who owners.length)) := Lib.hid (Ints.own HACC.out.o (fun z hz => by obtain ⟨i, hi, rfl⟩ := List.mem_map.1 hz; have := (ownL_lt hi).1; exact R64.mk (by omega) (by omega)) (by omega))
      obtain ⟨ca, ck, rfl, -⟩ := id HCSS.out
      obtain ⟨la, lk, rfl, -⟩ := id HLSS.out
      obtain ⟨ra, rk, rfl, -⟩ := id HRW.out
      have hdk : decide (rows.length < rows.length) = false := decide_eq_false (by omega)
      clear HACC hnl hn64 hlr2
      go_wp2_with fail
      with_reducible refine (mv_val ep (.slice a1 rows.length k1) (.slice a2 owners.length k2) (.slice a3 (dealC (x :: u)).length k3) (.slice a4 rows2.length k4) (.slice a5 owners2.length k5) _ _ _ _ rows owners (dealC (x :: u)) rows2 owners2 who (ownN owners who owners.length) (mvCss rows owners x u rows2 who l (ownN owners who owners.length).length) (mvLs rows owners x u rows2 who l (ownN owners who owners.length).length) _ _ _ HR.out HO.out HC.out HR2.out HO2.out HCSS.out HLSS.out HWH.out HRW.out HV.out.2).mono ?_
      rintro e w18 ⟨kv, lv2, rfl, hki, hli, hb18⟩
      obtain ⟨ak, ck2, rfl, -⟩ := id hki.1
      obtain ⟨alx, clx, rfl, -⟩ := id hli.1
      have HKI := Lib.hid hki
      have HLI := Lib.hid hli
      replace Q3 := Lib.hid ((hb18.block _ (row_lt Q3.out)).trans Q3.out)
      replace HB := Lib.hid (HB.out.trans (hb18.mono HB.out.size))
      clear hki hli hb18 hdk
      have u0 := row_cell Q3.out (k := 0) rfl
      have u1 := row_cell Q3.out (k := 1) rfl
      have u2 := row_cell Q3.out (k := 2) rfl
      have u3 := row_cell Q3.out (k := 3) rfl
      have f0 := row_free Q3.out 0
      have f1 := row_free Q3.out 1
      have f2 := row_free Q3.out 2
      have f3 := row_free Q3.out 3
      obtain ⟨W14, hW14⟩ : ∃ W, W = putKey w18 (w.heap.size + 1 + 1) (.int .i64 (ep + 1)) (.slice a4 rows2.length k4) (.slice a5 owners2.length k5) (.slice ak (dealC (x :: movU rows owners x u rows2 who l)).length ck2) := ⟨_, rfl⟩
      have HK14 := Lib.hid (hW14 ▸ HKI.out.keyW Q3.out (by decide) _ _ _ _)
      have HL14 := Lib.hid (hW14 ▸ HLI.out.keyW Q3.out (by decide) _ _ _ _)
      have HB14 := Lib.hid (hW14 ▸ keyW_below HB.out (show w.heap.size ≤ w.heap.size + 1 + 1 by omega) _ _ _ _)
      have hk14 := hW14 ▸ keyW_heap Q3.out (.int .i64 (ep + 1)) (.slice a4 rows2.length k4) (.slice a5 owners2.length k5) (.slice ak (dealC (x :: movU rows owners x u rows2 who l)).length ck2)
      have g0 := row_cell hk14 (k := 0) rfl
      have g1 := row_cell hk14 (k := 1) rfl
      have g2 := row_cell hk14 (k := 2) rfl
      have g3 := row_cell hk14 (k := 3) rfl
      have r0 := row_free hk14 0
      have r1 := row_free hk14 1
      have r2 := row_free hk14 2
      have r3 := row_free hk14 3
      have HG0 := Lib.hid (show W14.setCell ⟨w.heap.size + 1 + 1, 0, none⟩ (.int .i64 (ep + 1)) = W14 from set_same g0)
      have HG1 := Lib.hid (show W14.setCell ⟨w.heap.size + 1 + 1, 1, none⟩ (.slice a4 rows2.length k4) = W14 from set_same g1)
      have HG2 := Lib.hid (show W14.setCell ⟨w.heap.size + 1 + 1, 2, none⟩ (.slice a5 owners2.length k5) = W14 from set_same g2)
      have HG3 := Lib.hid (show W14.setCell ⟨w.heap.size + 1 + 1, 3, none⟩ (.slice ak (dealC (x :: movU rows owners x u rows2 who l)).length ck2) = W14 from set_same g3)
      unfold putKey at hW14
      have HW14 := Lib.hid hW14
      clear hW14 hk14 HKI HLI
      go_wp2_with (first | rw [← HW14.out] | rw [HG0.out] | rw [HG1.out] | rw [HG2.out] | rw [HG3.out])
      try simp only [Exit.inBlock, Exit.then]
      refine bodyPost_ret (v := .tuple #[.agg #[.int .i64 (ep + 1), .slice a4 rows2.length k4, .slice a5 owners2.length k5, .slice ak (dealC (x :: movU rows owners x u rows2 who l)).length ck2], .slice alx (dealL rows2 (x :: movU rows owners x u rows2 who l)).length clx, .bool true]) ?_ rfl ?_
      · rw [results_cell_tmp2 rfl]
        go_simp
      · exact ⟨_, _, _, _, _, _, rfl, HK14.out.1, HL14.out.1, HB14.out⟩

end Go.Proofs.Ytjjoadmkpbmhpaa
