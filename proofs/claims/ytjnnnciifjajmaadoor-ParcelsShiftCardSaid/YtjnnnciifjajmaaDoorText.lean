/- Package equal: the text of some numbers. -/
import Derived.Test.YtjnnnciifjajmaaDoorCodE
namespace Go.Proofs.YtjnnnciifjajmaaDoor
open Go.RowKit

/-- The cells of an integer's value. -/
def valC (z : Int) : List Value := [.int .i64 1, .int .i64 z, .string ⟨#[]⟩, .slice none 0 0]
theorem flat_at : ∀ (zs : List Int) (k j : Nat) (hk : k < zs.length), j < 4 → (zs.flatMap valC)[k * 4 + j]? = (valC zs[k])[j]?
  | [], k, _, hk, _ => absurd hk (Nat.not_lt_zero k)
  | z :: zs, 0, j, _, hj => by
    rw [List.flatMap_cons, Nat.zero_mul, Nat.zero_add, List.getElem?_append_left (by show j < 4; exact hj)]; rfl
  | z :: zs, k + 1, j, hk, hj => by
    rw [List.flatMap_cons, List.getElem?_append_right (by show 4 ≤ _; omega)]
    have e : (k + 1) * 4 + j - (valC z).length = k * 4 + j := by show (k + 1) * 4 + j - 4 = _; omega
    rw [e, flat_at zs k j (by simpa using hk) hj]; rfl
theorem flat_size (zs : List Int) : (zs.flatMap valC).length = zs.length * 4 := by
  induction zs with
  | nil => rfl
  | cons z zs ih => rw [List.flatMap_cons, List.length_append, ih, List.length_cons]; show 4 + _ = _; omega
theorem flat_snoc (zs : List Int) (z : Int) : (zs ++ [z]).flatMap valC = zs.flatMap valC ++ valC z := by rw [List.flatMap_append]; simp
/-- Rows of the call's own read as values. -/
theorem Vals.own {w : World} {base n : Nat} {v : Value} {zs : List Int} (h : w.ownsRow base 72 4 v n (zs.flatMap valC)) (hr : ∀ z ∈ zs, R64 z) (hl : zs.length ≤ 1000000) : Vals w v zs := by
  obtain ⟨hn, h⟩ := h
  rw [flat_size] at hn
  obtain rfl : n = zs.length := by omega
  rcases h with ⟨rfl, h0⟩ | ⟨g, cap, cur, rfl, -, hg, hnc, -, hcs, hcur⟩
  · exact ⟨none, 0, by rw [h0], by omega, hl, hr, fun k hk => absurd hk (by omega)⟩
  · refine ⟨some ⟨g, 0, none⟩, cap, rfl, hnc, hl, hr, fun k hk => ⟨g, 0, rfl, ?_⟩⟩
    have e : ∀ j, j < 4 → cur[k * 4 + j]? = (valC zs[k])[j]? := fun j hj => by
      have e2 : (cur.toList.take (zs.length * 4))[k * 4 + j]? = (valC zs[k])[j]? := by rw [hcur, flat_at zs k j hk hj]
      rw [List.getElem?_take, if_pos (by omega)] at e2
      rw [← Array.getElem?_toList]; exact e2
    rw [Nat.zero_add]
    exact ⟨row_cell hg (e 0 (by omega)), row_cell hg (e 1 (by omega)), row_cell hg (e 2 (by omega)), row_cell hg (e 3 (by omega))⟩

set_option maxRecDepth 100000 in
theorem infoV : (Tryd.prog.info? 72).map (fun i => (i.zero.map (·.cells.size), i.size, i.bytes)) = some (some 4, 4, 56) := by kernel_rfl

set_option maxRecDepth 100000 in
/-- One value is appended. -/
theorem app_val {ops : Array Oper} {rest : List Oper} {o : Oper} {a : Act} {Q : Exit → Act → World → Prop} {W : World} (hgd : o.guard = none) (s x : Operand) (ho : o.op = .call { callee := .builtin .append, args := #[s, x], argTypes := #[70, 70] })
    (base : Nat) (v : Value) (zs : List Int) (n : Nat) (hs : a.eval s = v) (hown : W.ownsRow base 72 4 v n (zs.flatMap valC)) (b c : Nat) (z : Int) (hx : a.eval x = .slice (some ⟨b, 0, none⟩) 1 c) (hcell : ∀ j u, (valC z)[j]? = some u → W.cell? ⟨b, j, none⟩ = some u) (hn : n ≤ 1000000) (hbase : base ≤ W.heap.size)
    (h : ∀ g cap w', w'.ownsRow base 72 4 (.slice (some ⟨g, 0, none⟩) (n + 1) cap) (n + 1) ((zs ++ [z]).flatMap valC) → Onto W v w' (.slice (some ⟨g, 0, none⟩) (n + 1) cap) → wpList Tryd.prog ops Q rest (a.put o.dst (.slice (some ⟨g, 0, none⟩) (n + 1) cap)) w') : wpList Tryd.prog ops Q (o :: rest) a W := by
  obtain ⟨i, hi, hzz⟩ := Option.map_eq_some_iff.1 infoV
  simp only [Prod.mk.injEq] at hzz
  obtain ⟨hz, hs1, hb⟩ := hzz
  obtain ⟨zv, hzv, hzs⟩ := Option.map_eq_some_iff.1 hz
  refine wpList_append_lies _ hgd s x 70 ho base 72 i zv 4 56 Tryd.underlying70 hi hzv hs1 hb hzs (by decide) v n (zs.flatMap valC) hs hown ⟨b, 0, none⟩ 1 c (valC z) hx rfl ?_ ?_ (by decide) ?_ ?_ hbase W.heap.size rfl ?_
  · intro j u hu
    rw [add_row]; exact hcell j u hu
  · intro u hu
    simp only [valC, List.mem_cons, List.not_mem_nil, or_false] at hu
    rcases hu with rfl | rfl | rfl | rfl <;> rfl
  · unfold maxLen; omega
  · omega
  · intro g cap w' h1 h2 h3 _
    refine h g cap w' (by rw [flat_snoc]; exact h1) ⟨h2, ?_⟩
    rcases h3 with h3 | h3
    · exact .inl (h3 ▸ rfl)
    · exact .inr ⟨g, rfl, by omega⟩

theorem own_keep_set {W : World} {base size n b o : Nat} {e : TypeId} {v : Value} {xs : List Value} (h : W.ownsRow base e size v n xs) (hb : b < base) (u : Value) : (W.setCell ⟨b, o, none⟩ u).ownsRow base e size v n xs := by
  obtain ⟨h1, h2⟩ := h
  refine ⟨h1, ?_⟩
  rcases h2 with h2 | ⟨g, cap, cur, a, c, d, r⟩
  · exact .inl h2
  · exact .inr ⟨g, cap, cur, a, c, (Below.heap_setCell _ _ _ _ (by show g ≠ b; omega)).trans d, r⟩
/-- Behind k numbers. -/
def TextI (w : World) (zs : List Int) (k : Nat) (W : World) : Prop := ∃ L, W.heap[w.heap.size]? = some (.cells #[.int .i64 3, .int .i64 0, .string ⟨#[]⟩, L] 72 (0, 0)) ∧
  W.ownsRow (w.heap.size + 1) 72 4 L k ((zs.take k).flatMap valC) ∧ Below w.heap.size w W
set_option maxRecDepth 100000 in
set_option maxHeartbeats 2000000 in
theorem text_any (v : Value) (zs : List Int) (w : World) (hI : Ints w v zs) (hl : zs.length ≤ 1000) :
    Calls Tryd.prog 30 #[v] w fun e w' => ∃ v', e = .returned v' ∧ Byts w' v' (encL zs) ∧ Below w.heap.size w w' := by
  obtain ⟨a, cap, rfl, hcap, hlen, hr, hk⟩ := hI
  have HR := Lib.hid hr
  have HK := Lib.hid hk
  clear hr hk
  go_enter Tryd.func30, Tryd.ntmps30
  go_wp2_with fail
  have h00 : TextI w zs 0 (w.alloc (.cells #[.int .i64 3, .int .i64 0, .string ⟨#[]⟩, .slice none 0 0] 72)) := ⟨_, World.alloc_heap_new _ _, World.ownsRow_nil _ _ _ _, (Below.refl _ _).alloc (Nat.le_refl _) _⟩
  go_loopw [11] (fun i W => ∃ k : Nat, k ≤ zs.length ∧ i = .int .i64 k ∧ TextI w zs k W) (fun i _ => zs.length - (intOf i).toNat)
  case atStart => exact ⟨0, Nat.zero_le _, rfl, h00⟩
  case round =>
    clear h00
    obtain ⟨k, hkl, rfl, L, hrow, hown, hbe⟩ := hrel
    have hbx := row_lt hrow
    by_cases hlt : k < zs.length
    · obtain ⟨b, off, rfl, q1⟩ := HK.out k hlt
      have hz := HR.out _ (List.getElem_mem hlt)
      have c1 := below_cell hbe q1
      have HT := Lib.hid (show zs.take k ++ [zs[k]] = zs.take (k + 1) from (List.take_succ_eq_append_getElem hlt).symm)
      generalize zs[k] = z at *
      have x3 : wr.cell? ⟨w.heap.size, 3, none⟩ = some L := row_cell hrow rfl
      have x0 : wr.cell? ⟨w.heap.size, 0, none⟩ = some (.int .i64 3) := row_cell hrow rfl
      obtain ⟨W1, hW1, hb1, hr1⟩ := boxed4 wr (.int .i64 1) (.int .i64 z) (.string ⟨#[]⟩) (.slice none 0 0) 72
      have HOW := Lib.hid (own_keep hown hb1)
      have HCE : Hid (∀ j u, (valC z)[j]? = some u → W1.cell? ⟨wr.heap.size, j, none⟩ = some u) := Lib.hid (fun j u hj => row_cell hr1 (by
        match j with
        | 0 | 1 | 2 | 3 => exact hj
        | n + 4 => simp [valC] at hj))
      have HNE := Lib.hid (own_ne hown (b := w.heap.size) (.inr (by omega)))
      have HRW := Lib.hid ((hb1.block _ hbx).trans hrow)
      have HBX : Hid (w.heap.size < W1.heap.size) := Lib.hid (Nat.lt_of_lt_of_le hbx hb1.size)
      have HB1 := Lib.hid hb1
      have HW1 := Lib.hid hW1
      have hk1 : k ≤ 1000 := by omega
      have hbs : w.heap.size + 1 ≤ W1.heap.size := Nat.lt_of_lt_of_le hbx hb1.size
      have HBS := Lib.hid hbs
      clear q1 hown hrow hr1 hb1 hW1 hbs
      go_wp2_with (refine app_val rfl _ _ rfl (w.heap.size + 1) _ (zs.take k) _ rfl (HW1.out ▸ HOW.out) wr.heap.size 1 z rfl (HW1.out ▸ HCE.out) (by omega) (HW1.out ▸ HBS.out) ?_; rw [← HW1.out]; intro g8 cap8 w8 h8 o8; have hr8 := (o8.1.block _ HBX.out (fun e => HNE.out e.symm)).trans HRW.out; have y3 : w8.cell? ⟨w.heap.size, 3, none⟩ = some L := row_cell hr8 rfl; have f3 := row_free hr8 3; have HR8 := Lib.hid hr8; have H8 := Lib.hid h8; have O8 := Lib.hid o8; clear hr8 h8 o8)
      go_roundw
      case rel => exact ⟨k + 1, by omega, by go_num, _, row_set HR8.out 3 _, by
        have hb8 := own_below HOW.out O8.out.1 HBS.out
        refine own_keep_set ?_ (Nat.lt_succ_self _) _
        rw [← HT.out]; exact H8.out, ((hbe.trans (HB1.out.mono hbe.size)).trans (own_below HOW.out O8.out.1 HBS.out |>.mono (Nat.le_succ _))).setCell (Nat.le_refl _) _⟩
      case measure => simp [intOf]; omega
    · have hk2 : k = zs.length := by omega
      rw [hk2, List.take_length] at hown
      have hVl := Lib.hid (Vals.own hown HR.out (by omega))
      have x0 : wr.cell? ⟨w.heap.size, 0, none⟩ = some (.int .i64 3) := row_cell hrow rfl
      have x1 : wr.cell? ⟨w.heap.size, 1, none⟩ = some (.int .i64 0) := row_cell hrow rfl
      have x2 : wr.cell? ⟨w.heap.size, 2, none⟩ = some (.string ⟨#[]⟩) := row_cell hrow rfl
      have x3 : wr.cell? ⟨w.heap.size, 3, none⟩ = some L := row_cell hrow rfl
      have hdt : decide (k < zs.length) = false := decide_eq_false hlt
      obtain ⟨aL, cL, hLe, -⟩ := id hVl.out
      subst hLe
      clear hown hrow hk2
      go_wp2_with fail
      refine (encode_any _ zs _ hVl.out).mono ?_
      rintro e w9 ⟨v9, rfl, hv9, hb9⟩
      have HV9 := Lib.hid hv9
      clear hv9
      go_wp2_with fail
      go_ret
      exact ⟨_, rfl, HV9.out, hbe.trans (hb9.mono hbe.size)⟩

end Go.Proofs.YtjnnnciifjajmaaDoor
