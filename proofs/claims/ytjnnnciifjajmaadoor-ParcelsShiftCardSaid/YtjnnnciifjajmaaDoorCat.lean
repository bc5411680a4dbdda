/- slices.Grow and slices.Concat, at bytes. -/
import Derived.Test.YtjnnnciifjajmaaDoorDigD
import Derived.Lib.AppendZeros
namespace Go.Proofs.YtjnnnciifjajmaaDoor
open Go.RowKit

set_option maxRecDepth 100000 in
theorem grow_made (n : Nat) (h0 : 0 < n) (hn : n ≤ 35184372088832) (w : World) : ∃ c w', (Builtin.append_ #[45, 3] 45 #[.slice none 0 0, .int .i64 n]).run Tryd.prog w = .ok (.slice (some ⟨w.heap.size, 0, none⟩) n c) w' ∧ n ≤ c ∧
    w'.ownsRow w.heap.size 5 1 (.slice (some ⟨w.heap.size, 0, none⟩) 0 c) 0 [] ∧ Below w.heap.size w w' ∧ w.heap.size < w'.heap.size := by
  obtain ⟨i, hi, hzz⟩ := Option.map_eq_some_iff.1 infoB
  simp only [Prod.mk.injEq] at hzz
  obtain ⟨hz, hs, hb⟩ := hzz
  have h := Lib.run_append_nil_zeros (P := Tryd.prog) w 45 3 45 5 i (.int .u8 0) .i64 .i64 Tryd.underlying45 Tryd.underlying3 hi hz n h0 (by omega) (by omega) (by rw [hb]; omega)
  have hc := grownCap_ge w n 0 5
  have hc2 := grownCap_le_maxLen w n 0 5 (by unfold maxLen; omega)
  refine ⟨_, _, h, hc, ⟨rfl, .inr ⟨_, _, _, rfl, Nat.le_refl _, World.alloc_heap_new w.drew _, Nat.zero_le _, hc2, ?_, by simp⟩⟩, ((Below.refl _ _).drew).alloc (Nat.le_refl _) _, by simp⟩
  rw [Array.size_append, size_zeroCells, size_zeroCells]
  show n * 1 + (grownCap w n 0 5 - n) * 1 = _
  omega

/-- What Grow leaves. -/
def Grown0 (n : Nat) (w : World) (e : Ending) (w' : World) : Prop := ∃ c, e = .returned (.slice (some ⟨w.heap.size, 0, none⟩) 0 c) ∧ n ≤ c ∧ w'.ownsRow w.heap.size 5 1 (.slice (some ⟨w.heap.size, 0, none⟩) 0 c) 0 [] ∧ Below w.heap.size w w' ∧ w.heap.size < w'.heap.size
set_option maxRecDepth 100000 in
set_option maxHeartbeats 400000 in
theorem grow_nil (n : Nat) (h0 : 0 < n) (hn : n ≤ 35184372088832) (w : World) :
    Calls Tryd.prog 83 #[.slice none 0 0, .int .i64 n] w (Grown0 n w) := by
  obtain ⟨c, w', hr, hc, ho, hb, hz⟩ := grow_made n h0 hn w
  have h1 : ¬ ((n : Int) < 0) := by omega
  have h2 : decide ((n : Int) > 0) = true := decide_eq_true (by omega)
  have HP : Hid (Grown0 n w (.returned (.slice (some ⟨w.heap.size, 0, none⟩) 0 c)) w') := Lib.hid ⟨c, rfl, hc, ho, hb, hz⟩
  have HR := Lib.hid hr
  clear hr ho
  go_enter Tryd.func83, Tryd.ntmps83
  go_wp2_with (at_builtin; refine Lib.wpList_append_run _ rfl _ _ _ _ rfl _ _ rfl rfl _ _ HR.out ?_)
  go_ret
  exact HP.out

set_option maxRecDepth 100000 in
theorem grow_int (n : Nat) (m : Int) (hm : (n : Int) = m) (h0 : 0 < n) (hn : n ≤ 35184372088832) (w : World) :
    Calls Tryd.prog 83 #[.slice none 0 0, .int .i64 m] w (Grown0 n w) := by
  subst hm; exact grow_nil n h0 hn w
set_option maxRecDepth 100000 in
/-- The bytes v' of the call's own, for an append. -/
theorem app_bytes {ops : Array Oper} {rest : List Oper} {o : Oper} {a : Act} {Q : Exit → Act → World → Prop} {W : World} (hgd : o.guard = none) (s x : Operand) (ho : o.op = .call { callee := .builtin .append, args := #[s, x], argTypes := #[45, 45] })
    (base n : Nat) (v u : Value) (xs : List Value) (hs : a.eval s = v) (hown : W.ownsRow base 5 1 v n xs) (ys : List Nat) (hx : a.eval x = u) (hy : Byts W u ys) (h0 : 0 < ys.length) (hn : n + ys.length ≤ 70368744177664) (hbase : base ≤ W.heap.size)
    (h : ∀ v' w', w'.ownsRow base 5 1 v' (n + ys.length) (xs ++ ys.map byteV) → W.grownBy w' v.ownBlock → wpList Tryd.prog ops Q rest (a.put o.dst v') w') : wpList Tryd.prog ops Q (o :: rest) a W := by
  obtain ⟨i, hi, hzz⟩ := Option.map_eq_some_iff.1 infoB
  simp only [Prod.mk.injEq] at hzz
  obtain ⟨hz, hs1, hb⟩ := hzz
  obtain ⟨ao, cap, rfl, hcap, hlen, hall, hk⟩ := hy
  obtain ⟨b, off, rfl, -⟩ := hk 0 h0
  refine wpList_append_own _ hgd s x 45 ho base 5 i (.int .u8 0) 1 1 Tryd.underlying45 hi hz hs1 hb rfl (by decide) v n xs hs hown ⟨b, off, none⟩ ys.length cap (ys.map byteV) hx (by simp) ?_ ?_ ?_ ?_ hbase ?_
  · intro j t ht
    rw [List.getElem?_map] at ht
    by_cases hj : j < ys.length
    · obtain ⟨b', off', he, hc⟩ := hk j hj
      cases he
      rw [List.getElem?_eq_getElem hj] at ht; simp at ht; rw [← ht, add_off]; exact hc
    · rw [List.getElem?_eq_none (by omega)] at ht; cases ht
  · intro t ht
    obtain ⟨z, _, rfl⟩ := List.mem_map.1 ht
    rfl
  · unfold maxLen; omega
  · omega
  · intro v' w' h1 h2 _; exact h v' w' h1 h2

/-- A row of the call's own reads as bytes. -/
theorem Byts.own {w : World} {base n : Nat} {v : Value} {bs : List Nat} (h : w.ownsRow base 5 1 v n (bs.map byteV)) (hb : ∀ x ∈ bs, x < 256) (hl : bs.length ≤ 17592186044416) : Byts w v bs := by
  obtain ⟨hn, h⟩ := h
  rw [List.length_map, Nat.mul_one] at hn
  rcases h with ⟨rfl, rfl⟩ | ⟨g, cap, cur, rfl, -, hg, hnc, -, hcs, hcur⟩
  · exact ⟨none, 0, by rw [hn], by omega, hl, hb, fun k hk => absurd hk (by omega)⟩
  · subst hn
    refine ⟨some ⟨g, 0, none⟩, cap, rfl, hnc, hl, hb, fun k hk => ⟨g, 0, rfl, ?_⟩⟩
    rw [Nat.zero_add]
    have e : cur.toList[k]? = some (byteV bs[k]) := by
      have e2 : (cur.toList.take (bs.length * 1))[k]? = some (byteV bs[k]) := by rw [hcur, List.getElem?_map, List.getElem?_eq_getElem hk]; rfl
      rwa [List.getElem?_take, if_pos (by omega)] at e2
    exact row_cell hg (by rw [← Array.getElem?_toList]; exact e)

theorem own_below {W W' : World} {base size n : Nat} {e : TypeId} {v : Value} {xs : List Value} (h : W.ownsRow base e size v n xs) (hg : W.grownBy W' v.ownBlock) (hb : base ≤ W.heap.size) : Below base W W' :=
  ⟨hg.os, hg.tape, hg.output, hg.size, fun k hk => hg.block k (by omega) (by
    rcases h.2 with ⟨rfl, -⟩ | ⟨g, cap, cur, rfl, hg2, -⟩
    · intro e; cases e
    · intro e; have e2 : k = g := by injection e
      omega)⟩
set_option maxRecDepth 100000 in
set_option maxHeartbeats 2000000 in
theorem concat_two (sb : Nat) (v1 v2 : Value) (xs ys : List Nat) (w : World) (hx : Byts w v1 xs) (hy : Byts w v2 ys) (h1 : 0 < xs.length) (h2 : 0 < ys.length) (hl : xs.length + ys.length ≤ 17592186044416)
    (c0 : w.cell? ⟨sb, 0, none⟩ = some v1) (c1 : w.cell? ⟨sb, 1, none⟩ = some v2) :
    Calls Tryd.prog 75 #[.slice (some ⟨sb, 0, none⟩) 2 2] w fun e w' => ∃ v', e = .returned v' ∧ Byts w' v' (xs ++ ys) ∧ Below w.heap.size w w' := by
  obtain ⟨a1, k1, e1, hx1⟩ := id hx
  obtain ⟨a2, k2, e2, hy1⟩ := id hy
  subst e1
  subst e2
  have p1 : 0 ≤ (xs.length : Int) + ys.length := by omega
  clear hx1 hy1
  have HX := Lib.hid hx
  have HY := Lib.hid hy
  clear hx hy
  go_enter Tryd.func75, Tryd.ntmps75
  go_wp2_with fail
  go_loop [3, 11] (fun s i => (i = .int .i64 0 ∧ s = .int .i64 0) ∨ (i = .int .i64 1 ∧ s = .int .i64 xs.length) ∨ (i = .int .i64 2 ∧ s = .int .i64 (xs.length + ys.length : Nat))) (fun _ i => 2 - (intOf i).toNat)
  case atStart => exact .inl ⟨rfl, rfl⟩
  case round =>
    rcases hrel with ⟨rfl, rfl⟩ | ⟨rfl, rfl⟩ | ⟨rfl, rfl⟩
    · go_wp2_with fail
      go_round
      case rel => exact .inr (.inl ⟨rfl, by go_num⟩)
      case measure => simp [intOf]
    · go_wp2_with fail
      go_round
      case rel => exact .inr (.inr ⟨rfl, by go_num⟩)
      case measure => simp [intOf]
    · go_wp2_with fail
      with_reducible refine (grow_int (xs.length + ys.length) ((xs.length : Int) + ys.length) (by omega) (by omega) (by omega) _).mono ?_
      rintro e w1 ⟨c, rfl, -, ho, hb, hz⟩
      have c0' := below_cell hb c0
      have c1' := below_cell hb c1
      have HO := Lib.hid ho
      have C0 := Lib.hid c0
      have C1 := Lib.hid c1
      clear ho c0 c1
      go_wp2_with fail
      go_loopw [6, 27] (fun v i W => Below w.heap.size w W ∧ w.heap.size < W.heap.size ∧ ((i = .int .i64 0 ∧ W.ownsRow w.heap.size 5 1 v 0 []) ∨ (i = .int .i64 1 ∧ W.ownsRow w.heap.size 5 1 v xs.length (xs.map byteV)) ∨ (i = .int .i64 2 ∧ W.ownsRow w.heap.size 5 1 v (xs.length + ys.length) (xs.map byteV ++ ys.map byteV)))) (fun _ i _ => 2 - (intOf i).toNat)
      case atStart => exact ⟨hb, hz, .inl ⟨rfl, HO.out⟩⟩
      case round =>
        clear c0' c1' hb hz
        obtain ⟨hb, hz, hr⟩ := hrel
        rcases hr with ⟨rfl, hr⟩ | ⟨rfl, hr⟩ | ⟨rfl, hr⟩
        · have q := below_cell hb C0.out
          have hB := HX.out.below hb
          have HB := Lib.hid hB
          have HR := Lib.hid hr
          clear hB hr
          go_wp2_with (refine app_bytes rfl _ _ rfl w.heap.size 0 _ _ [] rfl HR.out xs rfl HB.out h1 (by omega) (by omega) ?_; intro v8 w8 hown8 hgr8; have HOW := Lib.hid hown8; have HG := Lib.hid hgr8; clear hown8 hgr8)
          go_roundw
          case rel => exact ⟨hb.trans (own_below HR.out HG.out (by omega)), Nat.lt_of_lt_of_le hz HG.out.size, .inr (.inl ⟨rfl, by have := HOW.out; rwa [Nat.zero_add, List.nil_append] at this⟩)⟩
          case measure => simp [intOf]
        · have q := below_cell hb C1.out
          have hB := HY.out.below hb
          have HB := Lib.hid hB
          have HR := Lib.hid hr
          clear hB hr
          go_wp2_with (refine app_bytes rfl _ _ rfl w.heap.size xs.length _ _ (xs.map byteV) rfl HR.out ys rfl HB.out h2 (by omega) (by omega) ?_; intro v8 w8 hown8 hgr8; have HOW := Lib.hid hown8; have HG := Lib.hid hgr8; clear hown8 hgr8)
          go_roundw
          case rel => exact ⟨hb.trans (own_below HR.out HG.out (by omega)), Nat.lt_of_lt_of_le hz HG.out.size, .inr (.inr ⟨rfl, HOW.out⟩)⟩
          case measure => simp [intOf]
        · have HP := Lib.hid (Byts.own (bs := xs ++ ys) (v := u6) (by rw [List.map_append]; exact hr) (fun x hx => by
            rcases List.mem_append.1 hx with hx | hx
            · obtain ⟨_, _, _, _, _, h, _⟩ := HX.out; exact h x hx
            · obtain ⟨_, _, _, _, _, h, _⟩ := HY.out; exact h x hx) (by rw [List.length_append]; exact hl))
          clear hr
          go_wp2_with fail
          go_ret
          exact ⟨_, rfl, HP.out, hb⟩
end Go.Proofs.YtjnnnciifjajmaaDoor
