/- Package keygen: slices of dealings and of complaints that grow. Package keygen: what Qualified gives, inside a drawn region: its result, the key's box. -/
import Derived.Test.YtggnipkfliompaaGreatDoorMKgI
import Derived.Test.YtggnipkfliompaaGreatDoorMKgJ
import Derived.Test.YtggnipkfliompaaGreatDoorMKgL
namespace Go.Proofs.YtggnipkfliompaaGreatDoor
open Go.RowKit FP

/-- A dealing, with the values of its slices. -/
abbrev DV := Dlg × (Value × Value)
def dvC (z : DV) : List Value := [.int .i64 z.1.dealer, z.2.1, z.2.2]
structure DvOK (w : World) (z : DV) : Prop where
  r : R64 z.1.dealer
  cs : Ints w z.2.1 z.1.cs
  ps : Parcels w z.2.2 z.1.ps
def noV : DV := (⟨0, [], []⟩, (.slice none 0 0, .slice none 0 0))
def dvV (zs : List DV) (k : Nat) : Value × Value := (zs.getD k noV).2
theorem dvflat_at : ∀ (l : List DV) (k j : Nat) (hk : k < l.length), j < 3 → (l.flatMap dvC)[k * 3 + j]? = (dvC l[k])[j]?
  | [], k, _, hk, _ => absurd hk (Nat.not_lt_zero k)
  | z :: l, 0, j, _, hj => by
    rw [List.flatMap_cons, Nat.zero_mul, Nat.zero_add, List.getElem?_append_left (by show j < 3; exact hj)]; rfl
  | z :: l, k + 1, j, hk, hj => by
    rw [List.flatMap_cons, List.getElem?_append_right (by show 3 ≤ _; omega)]
    have e : (k + 1) * 3 + j - (dvC z).length = k * 3 + j := by show (k + 1) * 3 + j - 3 = _; omega
    rw [e, dvflat_at l k j (by simpa using hk) hj]; rfl
theorem dvflat_size (l : List DV) : (l.flatMap dvC).length = l.length * 3 := by
  induction l with
  | nil => rfl
  | cons z l ih => rw [List.flatMap_cons, List.length_append, ih, List.length_cons]; show 3 + _ = _; omega
theorem dvflat_snoc (l : List DV) (z : DV) : (l ++ [z]).flatMap dvC = l.flatMap dvC ++ dvC z := by rw [List.flatMap_append]; simp
/-- A row of the call's own reads as dealings. -/
theorem Dlgs.own {w : World} {base n : Nat} {v : Value} {zs : List DV} (h : w.ownsRow base 28 3 v n (zs.flatMap dvC)) (hz : ∀ z ∈ zs, DvOK w z) (hl : zs.length ≤ 1000000) : Dlgs w v (zs.map (·.1)) (dvV zs) := by
  obtain ⟨hn, h⟩ := h
  rw [dvflat_size] at hn
  obtain rfl : n = zs.length := by omega
  rcases h with ⟨rfl, h0⟩ | ⟨g, cap, cur, rfl, -, hg, hnc, -, hcs, hcur⟩
  · exact ⟨none, 0, by rw [List.length_map, h0], by rw [List.length_map]; omega, by rw [List.length_map]; omega, fun k hk => absurd hk (by rw [List.length_map]; omega)⟩
  · refine ⟨some ⟨g, 0, none⟩, cap, by rw [List.length_map], by rw [List.length_map]; exact hnc, by rw [List.length_map]; omega, fun k hk => ⟨g, 0, rfl, ?_⟩⟩
    have hk2 : k < zs.length := by rw [List.length_map] at hk; exact hk
    have hok := hz _ (List.getElem_mem hk2)
    have hv : dvV zs k = zs[k].2 := by unfold dvV; rw [getD_at hk2]
    have hd : (zs.map (·.1))[k] = zs[k].1 := by simp
    have hcell : ∀ j u, j < 3 → (dvC zs[k])[j]? = some u → w.cell? ⟨g, 0 + k * 3 + j, none⟩ = some u := fun j u hj hu => by
      have e2 : (cur.toList.take (zs.length * 3))[k * 3 + j]? = (dvC zs[k])[j]? := by rw [hcur, dvflat_at zs k j hk2 hj]
      rw [List.getElem?_take, if_pos (by omega)] at e2
      rw [Nat.zero_add]
      exact row_cell hg (by rw [← Array.getElem?_toList, e2]; exact hu)
    rw [hv, hd]
    exact ⟨hcell 0 _ (by omega) rfl, hcell 1 _ (by omega) rfl, hcell 2 _ (by omega) rfl, hok.r, hok.cs, hok.ps⟩
theorem Dlgs.take1 {w : World} {a : Option Addr} {n c : Nat} {l : List Dlg} {vs : DVals} (h : Dlgs w (.slice a n c) l vs) (h1 : 1 ≤ l.length) (c' : Nat) (hc : 1 ≤ c') : Dlgs w (.slice a 1 c') (l.take 1) vs := by
  obtain ⟨a', cap, e, -, h3, h4⟩ := h
  cases e
  have hl : (l.take 1).length = 1 := by rw [List.length_take]; omega
  refine ⟨a, c', by rw [hl], by rw [hl]; exact hc, by rw [hl]; omega, fun k hk => ?_⟩
  obtain ⟨b, off, e, hd⟩ := h4 k (by omega)
  exact ⟨b, off, e, by rw [List.getElem_take]; exact hd⟩
theorem Dlgs.drop1 {w : World} {b off n c : Nat} {l : List Dlg} {vs : DVals} (h : Dlgs w (.slice (some ⟨b, off, none⟩) n c) l vs) (h1 : 1 ≤ l.length) (c' : Nat) (hc : l.length ≤ c' + 1) : Dlgs w (.slice (some ⟨b, off + 3, none⟩) (l.length - 1) c') (l.drop 1) (fun k => vs (k + 1)) := by
  obtain ⟨a', cap, e, -, h3, h4⟩ := h
  cases e
  have hl : (l.drop 1).length = l.length - 1 := by rw [List.length_drop]
  refine ⟨_, c', by rw [hl], by rw [hl]; omega, by rw [hl]; omega, fun k hk => ?_⟩
  obtain ⟨b', off', e, hd⟩ := h4 (k + 1) (by omega)
  simp only [Option.some.injEq, Addr.mk.injEq] at e
  obtain ⟨rfl, rfl, -⟩ := e
  refine ⟨b, off + 3, rfl, ?_⟩
  rw [List.getElem_drop]
  have e2 : off + 3 + k * 3 = off + (k + 1) * 3 := by omega
  rw [e2]
  have e3 : 1 + k = k + 1 := by omega
  simp only [e3]
  exact hd

set_option maxRecDepth 100000 in
theorem infoDlg : (Tryz.prog.info? 28).map (fun i => (i.zero.map (·.cells.size), i.size, i.bytes)) = some (some 3, 3, 56) := by kernel_rfl
set_option maxRecDepth 100000 in
/-- One dealing is appended. -/
theorem app_dlg {ops : Array Oper} {rest : List Oper} {o : Oper} {a : Act} {Q : Exit → Act → World → Prop} {W : World} (hgd : o.guard = none) (s x : Operand) (ho : o.op = .call { callee := .builtin .append, args := #[s, x], argTypes := #[55, 55] })
    (base : Nat) (v : Value) (l : List DV) (n : Nat) (hs : a.eval s = v) (hown : W.ownsRow base 28 3 v n (l.flatMap dvC)) (b c : Nat) (z : DV) (hx : a.eval x = .slice (some ⟨b, 0, none⟩) 1 c) (hsl : (∃ a n c, z.2.1 = .slice a n c) ∧ ∃ a n c, z.2.2 = .slice a n c) (hcell : ∀ j u, (dvC z)[j]? = some u → W.cell? ⟨b, j, none⟩ = some u) (hn : n ≤ 1000000) (hbase : base ≤ W.heap.size)
    (h : ∀ g cap w', w'.ownsRow base 28 3 (.slice (some ⟨g, 0, none⟩) (n + 1) cap) (n + 1) ((l ++ [z]).flatMap dvC) → Onto W v w' (.slice (some ⟨g, 0, none⟩) (n + 1) cap) → wpList Tryz.prog ops Q rest (a.put o.dst (.slice (some ⟨g, 0, none⟩) (n + 1) cap)) w') : wpList Tryz.prog ops Q (o :: rest) a W := by
  obtain ⟨i, hi, hzz⟩ := Option.map_eq_some_iff.1 infoDlg
  simp only [Prod.mk.injEq] at hzz
  obtain ⟨hz, hs1, hb⟩ := hzz
  obtain ⟨zv, hzv, hzs⟩ := Option.map_eq_some_iff.1 hz
  refine wpList_append_lies _ hgd s x 55 ho base 28 i zv 3 56 Tryz.underlying55 hi hzv hs1 hb hzs (by decide) v n (l.flatMap dvC) hs hown ⟨b, 0, none⟩ 1 c (dvC z) hx rfl ?_ ?_ (by decide) ?_ ?_ hbase W.heap.size rfl ?_
  · intro j u hu
    rw [add_row]; exact hcell j u hu
  · intro u hu
    simp only [dvC, List.mem_cons, List.not_mem_nil, or_false] at hu
    obtain ⟨⟨a1, n1, c1, e1⟩, ⟨a2, n2, c2, e2⟩⟩ := hsl
    rcases hu with rfl | rfl | rfl
    · rfl
    · rw [e1]; rfl
    · rw [e2]; rfl
  · unfold maxLen; omega
  · omega
  · intro g cap w' h1 h2 h3 _
    refine h g cap w' (by rw [dvflat_snoc]; exact h1) ⟨h2, ?_⟩
    rcases h3 with h3 | h3
    · exact .inl (h3 ▸ rfl)
    · exact .inr ⟨g, rfl, by omega⟩
end Go.Proofs.YtggnipkfliompaaGreatDoor

namespace Go.Proofs.YtggnipkfliompaaGreatDoor
open Go.RowKit FP

/-- A right result of Qualified. -/
def QuK (rv ov : Value) (n : Nat) (cs : List Int) (v : Value) (w : World) : Prop := ∃ va vc za zc, v = .tuple #[.slice va n vc, .agg #[.int .i64 0, rv, ov, .slice za cs.length zc], .int .i64 0] ∧ Ints w (.slice za cs.length zc) cs
theorem QuK.below {rv ov : Value} {n : Nat} {cs : List Int} {v : Value} {w w' : World} (h : QuK rv ov n cs v w) (hb : Below w.heap.size w w') : QuK rv ov n cs v w' := by
  obtain ⟨va, vc, za, zc, e, h1⟩ := h
  exact ⟨va, vc, za, zc, e, h1.below hb⟩
set_option maxRecDepth 100000 in
/-- Qualified, where all is right. -/
theorem qualified_ok (rv ov kv dv cv : Value) (rows : List (List Int)) (owners keys : List Int) (l : List Dlg) (vs : DVals) (cl : List Cmp) (w : World) (hG : Glob w) (hR : Rows2 w rv rows) (hO : Ints w ov owners) (hK : Ints w kv keys) (hD : Dlgs w dv l vs) (hC : Cmps w cv cl) (hE : quE rows owners keys l cl = 0) (hQ : qualL rows owners keys cl l = l) :
    Calls Tryz.prog 31 #[.agg #[rv, ov], kv, dv, cv] w fun r w' => ∃ u, r = .returned u ∧ QuK rv ov l.length (comL l) u w' ∧ Below w.heap.size w w' := by
  refine (kQualified_any rv ov kv dv cv rows owners keys l vs cl w hG hR hO hK hD hC).mono ?_
  rintro e w' ⟨v, kv', rfl, hb, -, hon⟩
  rw [hE, hQ] at hon
  obtain ⟨hv, cv', rfl, hc⟩ := hon rfl
  obtain ⟨va, vc, rfl, -⟩ := id hv
  obtain ⟨za, zc, rfl, -⟩ := id hc
  rw [dlrL_len]
  exact ⟨_, rfl, ⟨_, _, _, _, by rw [hE], hc⟩, hb⟩
/-- A box that a drawn region makes for a key. -/
def KBx (n0 : Nat) (w : World) (d s : Bool) (v : Value) (rv ov : Value) (cs : List Int) : Prop := d = true → ∃ B, v = .pointer (some ⟨B, 0, none⟩) ∧ n0 ≤ B ∧ B < w.heap.size ∧
  (s = false → w.heap[B]? = some (.cells #[.int .i64 0, .slice none 0 0, .slice none 0 0, .slice none 0 0] 64 (0, 0))) ∧
  (s = true → ∃ za zc, w.heap[B]? = some (.cells #[.int .i64 0, rv, ov, .slice za cs.length zc] 64 (0, 0)) ∧ Ints w (.slice za cs.length zc) cs)
section
variable {n0 : Nat} {w w' : World} {d s : Bool} {v rv ov : Value} {cs : List Int}
theorem KBx.nil (n0 : Nat) (w : World) (v rv ov : Value) (cs : List Int) : KBx n0 w false false v rv ov cs := fun h => by cases h
theorem KBx.below (h : KBx n0 w d s v rv ov cs) (hb : Below w.heap.size w w') : KBx n0 w' d s v rv ov cs := fun hd => by
  obtain ⟨B, e, h1, h2, h3, h4⟩ := h hd
  exact ⟨B, e, h1, Nat.lt_of_lt_of_le h2 hb.size, fun hs => (hb.block _ h2).trans (h3 hs), fun hs => by
    obtain ⟨za, zc, h5, h6⟩ := h4 hs
    exact ⟨za, zc, (hb.block _ h2).trans h5, h6.below hb⟩⟩
theorem KBx.alloc (_h : KBx n0 w d s v rv ov cs) (hs : s = false) (hn : n0 ≤ w.heap.size) : KBx n0 (w.alloc (.cells #[.int .i64 0, .slice none 0 0, .slice none 0 0, .slice none 0 0] 64)) true s (.pointer (some ⟨w.heap.size, 0, none⟩)) rv ov cs := fun _ =>
  ⟨w.heap.size, rfl, hn, by simp, fun _ => World.alloc_heap_new _ _, fun h => by rw [hs] at h; cases h⟩
end
theorem key_zero (o : Nat) (z : Int) (h : (#[.int .i64 0, .slice none 0 0, .slice none 0 0, .slice none 0 0] : Array Value)[o]? = some (.int .i64 z)) : z = 0 := by
  match o with
  | 0 => simp at h; omega
  | 1 => simp at h
  | 2 => simp at h
  | 3 => simp at h
  | n + 4 => simp at h
theorem ints_put4 {W : World} {a : Option Addr} {n c : Nat} {l : List Int} (h : Ints W (.slice a n c) l) (hl : ∀ z ∈ l, z ≠ 0) {E : Nat} {T : TypeId} (q : W.heap[E]? = some (.cells #[.int .i64 0, .slice none 0 0, .slice none 0 0, .slice none 0 0] T (0, 0))) (x0 x1 x2 x3 : Value) :
    Ints ((((W.setCell ⟨E, 0, none⟩ x0).setCell ⟨E, 1, none⟩ x1).setCell ⟨E, 2, none⟩ x2).setCell ⟨E, 3, none⟩ x3) (.slice a n c) l := by
  have h0 := h
  obtain ⟨a', c', e1, h1, h2, h3, h4⟩ := h
  refine ⟨a', c', e1, h1, h2, h3, fun j hj => ?_⟩
  obtain ⟨b, off, e2, hcell⟩ := h4 j hj
  refine ⟨b, off, e2, ?_⟩
  have n1 := ints_not h0 hl q key_zero e1 hj e2
  refine cell_kept hcell ?_
  rw [Below.heap_setCell _ _ _ _ n1, Below.heap_setCell _ _ _ _ n1, Below.heap_setCell _ _ _ _ n1, Below.heap_setCell _ _ _ _ n1]
theorem KBx.store {n0 : Nat} {w : World} {d : Bool} {v rv ov : Value} {cs : List Int} {B : Nat} (h : KBx n0 w d false v rv ov cs) (hv : v = .pointer (some ⟨B, 0, none⟩)) (hd : d = true) {za : Option Addr} {zc : Nat} (hI : Ints w (.slice za cs.length zc) cs) (hl : ∀ z ∈ cs, z ≠ 0) :
    KBx n0 ((((w.setCell ⟨B, 0, none⟩ (.int .i64 0)).setCell ⟨B, 1, none⟩ rv).setCell ⟨B, 2, none⟩ ov).setCell ⟨B, 3, none⟩ (.slice za cs.length zc)) d true v rv ov cs := fun _ => by
  obtain ⟨B', e, h1, h2, h3, -⟩ := h hd
  rw [hv] at e
  simp only [Value.pointer.injEq, Option.some.injEq, Addr.mk.injEq] at e
  obtain ⟨rfl, -, -⟩ := e
  have q := h3 rfl
  exact ⟨B, hv, h1, by simpa using h2, (fun h => by cases h), fun _ => ⟨za, zc, row_set (row_set (row_set (row_set q 0 _) 1 _) 2 _) 3 _, ints_put4 hI hl q _ _ _ _⟩⟩

theorem QuK.put4 {rv ov : Value} {n : Nat} {cs : List Int} {v : Value} {W : World} (h : QuK rv ov n cs v W) (hl : ∀ z ∈ cs, z ≠ 0) {E : Nat} {T : TypeId} (q : W.heap[E]? = some (.cells #[.int .i64 0, .slice none 0 0, .slice none 0 0, .slice none 0 0] T (0, 0))) (x0 x1 x2 x3 : Value) :
    QuK rv ov n cs v ((((W.setCell ⟨E, 0, none⟩ x0).setCell ⟨E, 1, none⟩ x1).setCell ⟨E, 2, none⟩ x2).setCell ⟨E, 3, none⟩ x3) := by
  obtain ⟨va, vc, za, zc, e, h1⟩ := h
  exact ⟨va, vc, za, zc, e, ints_put4 h1 hl q _ _ _ _⟩

theorem split_all {rows : List (List Int)} {q : List Dlg} (h2 : 2 ≤ q.length) (hf : ∀ x ∈ q, FineD rows x) {j : Nat} (hj : j < colsQ rows) : nth (comL q) j = nth (comL (q.take 1)) j * nth (comL (q.drop 1)) j % 2147483579 := by
  match q, h2 with
  | d :: e :: t, _ => exact comL_split hf hj

end Go.Proofs.YtggnipkfliompaaGreatDoor
