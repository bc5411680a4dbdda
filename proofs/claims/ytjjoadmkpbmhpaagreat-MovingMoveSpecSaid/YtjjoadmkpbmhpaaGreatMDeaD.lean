/- Package dealing: numbers, columns, products of lists. Package dealing: shares as lists; appends; slices.Concat of a number and a list. slices.Concat of a number and a list; what a right program is; what is dealt, in plain Lean. -/
import Derived.Test.YtjjoadmkpbmhpaaGreatMDeaC
import Derived.Test.YtjjoadmkpbmhpaaGreatMLinP
import Derived.Deep.AppendSrc
import Derived.Deep.AppendLies
import Derived.Lib.AppendZeros
namespace Go.Proofs.YtjjoadmkpbmhpaaGreat
open Go.RowKit

set_option maxRecDepth 100000 in
theorem dodd_any (z : Int) (w : World) : Calls Tryz.prog 117 #[.int .i64 z] w fun r w' => r = .returned (.bool (oddQ z)) ∧ w = w' := by
  by_cases h1 : z < 0
  · have H := Lib.hid (show oddQ z = true by simp [oddQ, h1])
    go_enter Tryz.func117, Tryz.ntmps117
    go_wp2_with fail
    go_ret
    exact ⟨ret_bool H.out.symm, rfl⟩
  · have h2 : 0 ≤ z := by omega
    have H := Lib.hid (show oddQ z = decide (1073741789 ≤ z) by unfold oddQ; rw [decide_eq_false h1, Bool.false_or])
    go_enter Tryz.func117, Tryz.ntmps117
    go_wp2_with fail
    go_ret
    exact ⟨ret_bool H.out.symm, rfl⟩
theorem dodd_tests (w : World) (zs : List Int) : Tests 117 #[] w oddQ zs :=
  fun z _ w' _ => (dodd_any z w').mono fun _ _ ⟨h, e⟩ => ⟨h, e ▸ Below.refl _ _⟩
set_option maxRecDepth 100000 in
theorem dodd_goes : Goes Tryz.prog 117 := goes_of Tryz.func117 (by kernel_rfl) rfl
set_option maxRecDepth 100000 in
theorem numbers_any (v : Value) (zs : List Int) (w : World) (hI : Ints w v zs) : Calls Tryz.prog 73 #[v] w fun r w' => r = .returned (.bool (!zs.any oddQ)) ∧ Below w.heap.size w w' := by
  have HC := Lib.hid (containsFunc_any 117 #[] oddQ v zs w hI dodd_goes (dodd_tests _ _))
  clear hI
  go_enter Tryz.func73, Tryz.ntmps73
  go_wp2_with fail
  refine HC.out.mono ?_
  rintro e w3 ⟨rfl, hb3⟩
  go_wp2_with fail
  go_ret
  exact ⟨rfl, hb3⟩

/-- How many columns a program has. -/
def colsQ (rows : List (List Int)) : Nat := if rows.length = 0 then 1 else wide rows
set_option maxRecDepth 100000 in
set_option maxHeartbeats 1000000 in
theorem columns_any (rv ov : Value) (rows : List (List Int)) (owners : List Int) (w : World) (hR : Rows2 w rv rows) (hO : Ints w ov owners) :
    Calls Tryz.prog 74 #[.agg #[rv, ov]] w fun e w' => e = .returned (.int .i64 (colsQ rows)) ∧ Below w.heap.size w w' := by
  obtain ⟨W1, hW1, hb1, hr1, hz⟩ := box_prog w rv ov 25
  have HR1 := Lib.hid (hR.below hb1)
  obtain ⟨a, cap, rfl, -, hlen, -⟩ := id hR
  obtain ⟨a2, cap2, rfl, -, hlen2, -⟩ := id hO
  have c0 : W1.cell? ⟨w.heap.size, 0, none⟩ = some (.slice a rows.length cap) := rowp_cell hr1 rfl
  have HW1 := Lib.hid hW1
  have HB1 := Lib.hid hb1
  clear hR hO hr1 hW1 hb1
  by_cases h0 : rows.length = 0
  · have HV := Lib.hid (show colsQ rows = 1 by unfold colsQ; rw [if_pos h0])
    have z0 : ((rows.length : Int) == 0) = true := by rw [h0]; rfl
    clear h0
    go_enter Tryz.func74, Tryz.ntmps74
    go_wp2_with fail
    go_ret
    exact ⟨ret_int (by rw [HV.out]; rfl), HW1.out ▸ HB1.out⟩
  · have HV := Lib.hid (show colsQ rows = wide rows by unfold colsQ; rw [if_neg h0])
    have z0 : ((rows.length : Int) == 0) = false := beq_eq_false_iff_ne.2 (by omega)
    obtain ⟨aa, cc, e1, -, -, hk⟩ := HR1.out
    obtain ⟨b, off, r, ha, q1, hI⟩ := hk 0 (by omega)
    simp only [Value.slice.injEq] at e1
    obtain ⟨rfl, -, rfl⟩ := e1
    subst ha
    rw [Nat.add_zero] at q1
    obtain ⟨ra, rc, rfl, -⟩ := id hI
    rw [wide_at rows (by omega)] at q1
    have i3 : (0 : Int) < (rows.length : Int) := by omega
    clear hk hI h0
    generalize wide rows = m at *
    go_enter Tryz.func74, Tryz.ntmps74
    go_wp2_with (rw [← HW1.out])
    go_ret
    exact ⟨ret_int (by rw [HV.out]), HB1.out⟩

set_option maxRecDepth 100000 in
set_option maxHeartbeats 1000000 in
theorem times1_any (i : Nat) (n : Int) (bb : Nat) (u : Value) (b : List Int) (w : World) (hc : w.cell? ⟨bb, 0, none⟩ = some u) (hJ : Ints w u b) (hi : i < b.length) (hn : R64 n) :
    Calls Tryz.prog 120 #[.int .i64 i, .int .i64 n, .pointer (some ⟨bb, 0, none⟩)] w fun e w' => e = .returned (.int .i64 (n * nth b i % 1073741789)) ∧ w = w' := by
  obtain ⟨hr, b0, off, nn, c, rfl, hcell⟩ := hJ.get hi
  obtain ⟨a', c', e', -, hlen, -⟩ := id hJ
  simp only [Value.slice.injEq] at e'
  obtain ⟨-, rfl, rfl⟩ := e'
  have i0 : 0 ≤ (i : Int) := by omega
  have i1 : (i : Int) < (b.length : Int) := by omega
  clear hJ
  generalize nth b i = z at *
  go_enter Tryz.func120, Tryz.ntmps120
  go_wp2_with fail
  with_reducible refine (mul_any n z _ hn hr).mono ?_
  rintro e w3 ⟨rfl, rfl⟩
  go_wp2_with fail
  go_ret
  exact ⟨rfl, rfl⟩
set_option maxRecDepth 100000 in
theorem times1_goes : Goes Tryz.prog 120 := goes_of Tryz.func120 (by kernel_rfl) rfl

set_option maxRecDepth 100000 in
set_option maxHeartbeats 2000000 in
theorem dsum_any (v u : Value) (a b : List Int) (bb : Nat) (w : World) (hI : Ints w v a) (hJ : Ints w u b) (hl : a.length ≤ b.length) (hc : w.cell? ⟨bb, 0, none⟩ = some u) :
    Calls Tryz.prog 119 #[v, .func (.func 120) #[] #[.pointer (some ⟨bb, 0, none⟩)]] w fun e w' => e = .returned (.int .i64 (prodQ a b)) ∧ Below w.heap.size w w' := by
  have HA := Lib.hid (fun k (hk : k < a.length) => hI.get hk)
  obtain ⟨aa, ca, rfl, hcap, hlen, -⟩ := id hI
  have HT := Lib.hid (fun k (hk : k < a.length) (n : Int) (hn : R64 n) W (hb : Below w.heap.size w W) => times1_any k n bb u b W (below_cell hb hc) (hJ.below hb) (by omega) hn)
  have hE' : ∀ (args : Array Value) (w : World), (callFunc 120 args).run Tryz.prog w = .ok (.enter 120 args) w := times1_goes
  clear hI hJ hc
  go_enter Tryz.func119, Tryz.ntmps119
  go_wp2_with fail
  go_loopw [4, 9] (fun s i W => ∃ k : Nat, k ≤ a.length ∧ i = .int .i64 k ∧ s = .int .i64 (prodF a b k) ∧ Below w.heap.size w W) (fun _ i _ => a.length - (intOf i).toNat)
  case atStart => exact ⟨0, Nat.zero_le _, rfl, rfl, Below.refl _ _⟩
  case round =>
    obtain ⟨k, hkl, rfl, rfl, hb⟩ := hrel
    have HP := Lib.hid (prodF_num a b k)
    by_cases hlt : k < a.length
    · obtain ⟨hr, b0, off, nn, c, e1, hcell⟩ := HA.out k hlt
      simp only [Value.slice.injEq] at e1
      obtain ⟨rfl, -, -⟩ := e1
      have y1 := below_cell hb hcell
      have HT2 := Lib.hid (HT.out k hlt (nth a k) hr wr hb)
      have HS := Lib.hid (show prodF a b (k + 1) = (prodF a b k + nth a k * nth b k % 1073741789) % 1073741789 from rfl)
      have hp64 : R64 (prodF a b k) := num_r64 HP.out
      have hm64 := mod_r64 (nth a k * nth b k)
      generalize nth a k * nth b k % 1073741789 = z at *
      generalize nth a k = x at *
      clear hcell
      go_wp2_with fail
      refine HT2.out.mono ?_
      rintro e w3 ⟨rfl, rfl⟩
      go_wp2_with fail
      with_reducible refine (add_any _ z _ hp64 hm64).mono ?_
      rintro e w3 ⟨rfl, hb3⟩
      go_wp2_with fail
      go_roundw
      case rel => exact ⟨k + 1, by omega, by go_num, by rw [HS.out], hb.trans (hb3.mono hb.size)⟩
      case measure => simp [intOf]; omega
    · have HV := Lib.hid (show prodF a b k = prodQ a b by unfold prodQ; rw [show k = a.length by omega])
      go_wp2_with fail
      go_ret
      exact ⟨ret_int HV.out, hb⟩

set_option maxRecDepth 100000 in
set_option maxHeartbeats 1000000 in
theorem dtimes_any (v u : Value) (a b : List Int) (w : World) (hI : Ints w v a) (hJ : Ints w u b) (hl : a.length ≤ b.length) :
    Calls Tryz.prog 76 #[v, u] w fun e w' => e = .returned (.int .i64 (prodQ a b)) ∧ Below w.heap.size w w' := by
  have hmf : ∀ (fn : Fn) (first cap : Array Value) (w : World), (Instr.makeFunc fn first cap).run Tryz.prog w = .ok (.func fn first cap) w := fun _ _ _ _ => rfl
  have HB := Lib.hid ((Below.refl w.heap.size w).alloc (Nat.le_refl _) (.cells #[u] 23))
  have HD := Lib.hid (dsum_any v u a b w.heap.size _ (hI.below HB.out) (hJ.below HB.out) hl (rowp_cell (World.alloc_heap_new w (.cells #[u] 23)) rfl))
  obtain ⟨aa, ca, rfl, -⟩ := id hI
  obtain ⟨ab, cb, rfl, -⟩ := id hJ
  clear hI hJ
  go_enter Tryz.func76, Tryz.ntmps76
  go_wp2_with fail
  refine HD.out.mono ?_
  rintro e w3 ⟨rfl, hb3⟩
  go_wp2_with fail
  go_ret
  exact ⟨rfl, HB.out.trans (hb3.mono HB.out.size)⟩

end Go.Proofs.YtjjoadmkpbmhpaaGreat

namespace Go.Proofs.YtjjoadmkpbmhpaaGreat
open Go.RowKit

/-- The cells of a share. -/
def shaC (p : Int × Int) : List Value := [.int .i64 p.1, .int .i64 p.2]
/-- The slice v reads as shares. -/
def Shares (w : World) (v : Value) (l : List (Int × Int)) : Prop :=
  ∃ a cap, v = .slice a l.length cap ∧ l.length ≤ cap ∧ l.length ≤ 17592186044416 ∧ (∀ p ∈ l, R64 p.1 ∧ R64 p.2) ∧
    ∀ k (h : k < l.length), ∃ b off, a = some ⟨b, off, none⟩ ∧ w.cell? ⟨b, off + k * 2, none⟩ = some (.int .i64 l[k].1) ∧ w.cell? ⟨b, off + k * 2 + 1, none⟩ = some (.int .i64 l[k].2)
theorem Shares.below {w w' : World} {v : Value} {l : List (Int × Int)} (h : Shares w v l) (hb : Below w.heap.size w w') : Shares w' v l := by
  obtain ⟨a, cap, rfl, hc, hl, hr, hk⟩ := h
  refine ⟨a, cap, rfl, hc, hl, hr, fun k hlt => ?_⟩
  obtain ⟨b, off, ha, h1, h2⟩ := hk k hlt
  exact ⟨b, off, ha, below_cell hb h1, below_cell hb h2⟩
theorem Shares.nil (w : World) (a : Option Addr) (cap : Nat) : Shares w (.slice a 0 cap) [] :=
  ⟨a, cap, rfl, Nat.zero_le _, by simp, by simp, fun k h => absurd h (Nat.not_lt_zero _)⟩
theorem sflat_at : ∀ (l : List (Int × Int)) (k j : Nat) (hk : k < l.length), j < 2 → (l.flatMap shaC)[k * 2 + j]? = (shaC l[k])[j]?
  | [], k, _, hk, _ => absurd hk (Nat.not_lt_zero k)
  | z :: l, 0, j, _, hj => by
    rw [List.flatMap_cons, Nat.zero_mul, Nat.zero_add, List.getElem?_append_left (by show j < 2; exact hj)]; rfl
  | z :: l, k + 1, j, hk, hj => by
    rw [List.flatMap_cons, List.getElem?_append_right (by show 2 ≤ _; omega)]
    have e : (k + 1) * 2 + j - (shaC z).length = k * 2 + j := by show (k + 1) * 2 + j - 2 = _; omega
    rw [e, sflat_at l k j (by simpa using hk) hj]; rfl
theorem sflat_size (l : List (Int × Int)) : (l.flatMap shaC).length = l.length * 2 := by
  induction l with
  | nil => rfl
  | cons z l ih => rw [List.flatMap_cons, List.length_append, ih, List.length_cons]; show 2 + _ = _; omega
theorem sflat_snoc (l : List (Int × Int)) (z : Int × Int) : (l ++ [z]).flatMap shaC = l.flatMap shaC ++ shaC z := by rw [List.flatMap_append]; simp
theorem Shares.own {w : World} {base n : Nat} {v : Value} {l : List (Int × Int)} (h : w.ownsRow base 29 2 v n (l.flatMap shaC)) (hr : ∀ p ∈ l, R64 p.1 ∧ R64 p.2) (hl : l.length ≤ 1000000) : Shares w v l := by
  obtain ⟨hn, h⟩ := h
  rw [sflat_size] at hn
  obtain rfl : n = l.length := by omega
  rcases h with ⟨rfl, h0⟩ | ⟨g, cap, cur, rfl, -, hg, hnc, -, hcs, hcur⟩
  · exact ⟨none, 0, by rw [h0], by omega, by omega, hr, fun k hk => absurd hk (by omega)⟩
  · refine ⟨some ⟨g, 0, none⟩, cap, rfl, hnc, by omega, hr, fun k hk => ⟨g, 0, rfl, ?_⟩⟩
    have e : ∀ j, j < 2 → cur[k * 2 + j]? = (shaC l[k])[j]? := fun j hj => by
      have e2 : (cur.toList.take (l.length * 2))[k * 2 + j]? = (shaC l[k])[j]? := by rw [hcur, sflat_at l k j hk hj]
      rw [List.getElem?_take, if_pos (by omega)] at e2
      rw [← Array.getElem?_toList]; exact e2
    rw [Nat.zero_add]
    exact ⟨row_cell hg (e 0 (by omega)), row_cell hg (e 1 (by omega))⟩

set_option maxRecDepth 100000 in
theorem infoS : (Tryz.prog.info? 29).map (fun i => (i.zero.map (·.cells.size), i.size, i.bytes)) = some (some 2, 2, 16) := by kernel_rfl
set_option maxRecDepth 100000 in
/-- One share is appended. -/
theorem app_share {ops : Array Oper} {rest : List Oper} {o : Oper} {a : Act} {Q : Exit → Act → World → Prop} {W : World} (hgd : o.guard = none) (s x : Operand) (ho : o.op = .call { callee := .builtin .append, args := #[s, x], argTypes := #[32, 32] })
    (base : Nat) (v : Value) (l : List (Int × Int)) (n : Nat) (hs : a.eval s = v) (hown : W.ownsRow base 29 2 v n (l.flatMap shaC)) (b off c : Nat) (z : Int × Int) (hx : a.eval x = .slice (some ⟨b, off, none⟩) 1 c) (h0 : W.cell? ⟨b, off, none⟩ = some (.int .i64 z.1)) (h1 : W.cell? ⟨b, off + 1, none⟩ = some (.int .i64 z.2)) (hn : n ≤ 1000000) (hbase : base ≤ W.heap.size)
    (h : ∀ g cap w', w'.ownsRow base 29 2 (.slice (some ⟨g, 0, none⟩) (n + 1) cap) (n + 1) ((l ++ [z]).flatMap shaC) → Onto W v w' (.slice (some ⟨g, 0, none⟩) (n + 1) cap) → wpList Tryz.prog ops Q rest (a.put o.dst (.slice (some ⟨g, 0, none⟩) (n + 1) cap)) w') : wpList Tryz.prog ops Q (o :: rest) a W := by
  obtain ⟨i, hi, hzz⟩ := Option.map_eq_some_iff.1 infoS
  simp only [Prod.mk.injEq] at hzz
  obtain ⟨hz, hs1, hb⟩ := hzz
  obtain ⟨zv, hzv, hzs⟩ := Option.map_eq_some_iff.1 hz
  refine wpList_append_lies _ hgd s x 32 ho base 29 i zv 2 16 Tryz.underlying32 hi hzv hs1 hb hzs (by decide) v n (l.flatMap shaC) hs hown ⟨b, off, none⟩ 1 c (shaC z) hx rfl ?_ ?_ (by decide) ?_ ?_ hbase W.heap.size rfl ?_
  · intro j u hu
    rw [add_off]
    match j with
    | 0 => simp [shaC] at hu; rw [← hu]; exact h0
    | 1 => simp [shaC] at hu; rw [← hu]; exact h1
    | n + 2 => simp [shaC] at hu
  · intro u hu
    simp only [shaC, List.mem_cons, List.not_mem_nil, or_false] at hu
    rcases hu with rfl | rfl <;> rfl
  · unfold maxLen; omega
  · omega
  · intro g cap w' h1 h2 h3 _
    refine h g cap w' (by rw [sflat_snoc]; exact h1) ⟨h2, ?_⟩
    rcases h3 with h3 | h3
    · exact .inl (h3 ▸ rfl)
    · exact .inr ⟨g, rfl, by omega⟩

set_option maxRecDepth 100000 in
/-- Any integers are appended to a row of the call's own that is not nil. -/
theorem app_ints_any {ops : Array Oper} {rest : List Oper} {o : Oper} {a : Act} {Q : Exit → Act → World → Prop} {W : World} (hgd : o.guard = none) (s x : Operand) (ho : o.op = .call { callee := .builtin .append, args := #[s, x], argTypes := #[23, 23] })
    (base g n cap : Nat) (xs : List Value) (hs : a.eval s = .slice (some ⟨g, 0, none⟩) n cap) (hown : W.ownsRow base 3 1 (.slice (some ⟨g, 0, none⟩) n cap) n xs) (u : Value) (zs : List Int) (hx : a.eval x = u) (hI : Ints W u zs) (hn : n + zs.length ≤ 17592186044416) (hcap : n ≤ cap) (hbase : base ≤ W.heap.size)
    (h : ∀ v' w', w'.ownsRow base 3 1 v' (n + zs.length) (xs ++ zs.map (Value.int .i64)) → Below base W w' → wpList Tryz.prog ops Q rest (a.put o.dst v') w') : wpList Tryz.prog ops Q (o :: rest) a W := by
  obtain ⟨ad, c, rfl, hc, hl, hr, hk⟩ := hI
  cases ad with
  | none =>
    have h0 : zs = [] := by
      cases zs with
      | nil => rfl
      | cons z l => obtain ⟨b, off, e, -⟩ := hk 0 (by simp); cases e
    subst h0
    obtain ⟨i0, hi0, hz0, hz1, hz2⟩ := info_parts infoInt
    have hsrc : Src Tryz.prog i0.size 23 (.slice none 0 c) 0 [] W := Src.ofNil W Tryz.underlying23 c
    have hrun := run_append_room_src (P := Tryz.prog) W 23 23 o.type 3 i0 Tryz.underlying23 hi0 g 0 n cap (.slice none 0 c) 0 [] hsrc (by omega) (fun j hj => absurd hj (Nat.not_lt_zero _)) (fun j hj => absurd hj (Nat.not_lt_zero _))
    refine wpList_app_run hgd s x 23 ho _ _ _ hs hx hrun ?_
    refine h _ _ ?_ ?_
    · simpa [World.setCells] using hown
    · simpa [World.setCells] using Below.refl base W
  | some ad =>
    refine app_ints hgd s x ho base n _ xs hs hown ad c zs hx ?_ hn hbase ?_
    · intro j hj
      obtain ⟨b, off, e, hcell⟩ := hk j hj
      injection e with e
      subst e
      rw [add_off]; exact hcell
    · intro v' w' h1 h2
      exact h v' w' h1 (own_below hown h2 hbase)

/-- A row of the call's own reads as integers. -/
theorem Ints.own {w : World} {base n : Nat} {v : Value} {zs : List Int} (h : w.ownsRow base 3 1 v n (zs.map (Value.int .i64))) (hr : ∀ z ∈ zs, R64 z) (hl : zs.length ≤ 17592186044416) : Ints w v zs := by
  obtain ⟨hn, h⟩ := h
  rw [List.length_map, Nat.mul_one] at hn
  rcases h with ⟨rfl, rfl⟩ | ⟨g, cap, cur, rfl, -, hg, hnc, -, hcs, hcur⟩
  · exact ⟨none, 0, by rw [hn], by omega, hl, hr, fun k hk => absurd hk (by omega)⟩
  · subst hn
    refine ⟨some ⟨g, 0, none⟩, cap, rfl, hnc, hl, hr, fun k hk => ⟨g, 0, rfl, ?_⟩⟩
    rw [Nat.zero_add]
    have e : cur.toList[k]? = some (Value.int .i64 zs[k]) := by
      have e2 : (cur.toList.take (zs.length * 1))[k]? = some (Value.int .i64 zs[k]) := by rw [hcur, List.getElem?_map, List.getElem?_eq_getElem hk]; rfl
      rwa [List.getElem?_take, if_pos (by omega)] at e2
    exact row_cell hg (by rw [← Array.getElem?_toList]; exact e)

end Go.Proofs.YtjjoadmkpbmhpaaGreat

namespace Go.Proofs.YtjjoadmkpbmhpaaGreat
open Go.RowKit

set_option maxRecDepth 100000 in
theorem igrow_made (n : Nat) (h0 : 0 < n) (hn : n ≤ 35184372088832) (w : World) : ∃ c w', (Builtin.append_ #[23, 3] 23 #[.slice none 0 0, .int .i64 n]).run Tryz.prog w = .ok (.slice (some ⟨w.heap.size, 0, none⟩) n c) w' ∧ n ≤ c ∧
    w'.ownsRow w.heap.size 3 1 (.slice (some ⟨w.heap.size, 0, none⟩) 0 c) 0 [] ∧ Below w.heap.size w w' ∧ w.heap.size < w'.heap.size := by
  obtain ⟨i, hi, hz, hs, hb⟩ := info_parts infoInt
  have h := Lib.run_append_nil_zeros (P := Tryz.prog) w 23 3 23 3 i (.int .i64 0) .i64 .i64 Tryz.underlying23 Tryz.underlying3 hi hz n h0 (by omega) (by omega) (by rw [hb]; omega)
  have hc := grownCap_ge w n 0 3
  have hc2 := grownCap_le_maxLen w n 0 3 (by unfold maxLen; omega)
  refine ⟨_, _, h, hc, ⟨rfl, .inr ⟨_, _, _, rfl, Nat.le_refl _, World.alloc_heap_new w.drew _, Nat.zero_le _, hc2, ?_, by simp⟩⟩, ((Below.refl _ _).drew).alloc (Nat.le_refl _) _, by simp⟩
  rw [Array.size_append, size_zeroCells, size_zeroCells]
  show n * 1 + (grownCap w n 0 3 - n) * 1 = _
  omega
def IGrown (n : Nat) (w : World) (e : Ending) (w' : World) : Prop := ∃ c, e = .returned (.slice (some ⟨w.heap.size, 0, none⟩) 0 c) ∧ n ≤ c ∧ w'.ownsRow w.heap.size 3 1 (.slice (some ⟨w.heap.size, 0, none⟩) 0 c) 0 [] ∧ Below w.heap.size w w' ∧ w.heap.size < w'.heap.size
set_option maxRecDepth 100000 in
set_option maxHeartbeats 400000 in
theorem igrow_int (n : Nat) (m : Int) (hm : (n : Int) = m) (h0 : 0 < n) (hn : n ≤ 35184372088832) (w : World) :
    Calls Tryz.prog 118 #[.slice none 0 0, .int .i64 m] w (IGrown n w) := by
  subst hm
  obtain ⟨c, w', hr, hc, ho, hb, hz⟩ := igrow_made n h0 hn w
  have h1 : ¬ ((n : Int) < 0) := by omega
  have h2 : decide ((n : Int) > 0) = true := decide_eq_true (by omega)
  have HP : Hid (IGrown n w (.returned (.slice (some ⟨w.heap.size, 0, none⟩) 0 c)) w') := Lib.hid ⟨c, rfl, hc, ho, hb, hz⟩
  have HR := Lib.hid hr
  clear hr ho
  go_enter Tryz.func118, Tryz.ntmps118
  go_wp2_with (at_builtin; refine Lib.wpList_append_run _ rfl _ _ _ _ rfl _ _ rfl rfl _ _ HR.out ?_)
  go_ret
  exact HP.out

theorem own_some {W : World} {base n : Nat} {e : TypeId} {v : Value} {x : Value} {xs : List Value} (h : W.ownsRow base e 1 v n (x :: xs)) : ∃ g cap, v = .slice (some ⟨g, 0, none⟩) n cap ∧ n ≤ cap := by
  rcases h.2 with ⟨-, h0⟩ | ⟨g, cap, cur, rfl, -, -, hn, -⟩
  · have := h.1; rw [h0] at this; simp at this
  · exact ⟨g, cap, rfl, hn⟩

set_option maxRecDepth 100000 in
set_option maxHeartbeats 2000000 in
theorem iconcat_any (sb : Nat) (v1 v2 : Value) (x : Int) (l : List Int) (w : World) (h1 : Ints w v1 [x]) (h2 : Ints w v2 l) (hl : l.length ≤ 1000000) (c0 : w.cell? ⟨sb, 0, none⟩ = some v1) (c1 : w.cell? ⟨sb, 1, none⟩ = some v2) :
    Calls Tryz.prog 75 #[.slice (some ⟨sb, 0, none⟩) 2 2] w fun e w' => ∃ v', e = .returned v' ∧ Ints w' v' (x :: l) ∧ Below w.heap.size w w' := by
  obtain ⟨a1, k1, e1, -⟩ := id h1
  obtain ⟨a2, k2, e2, -⟩ := id h2
  subst e1
  subst e2
  have H1 := Lib.hid h1
  have H2 := Lib.hid h2
  have HX : Hid (∀ z ∈ x :: l, R64 z) := Lib.hid (by
    obtain ⟨_, _, _, _, _, r1, _⟩ := h1
    obtain ⟨_, _, _, _, _, r2, _⟩ := h2
    intro z hz
    rcases List.mem_cons.1 hz with rfl | hz
    · exact r1 z (by simp)
    · exact r2 z hz)
  clear h1 h2
  have p1 : 0 ≤ (1 : Int) + (l.length : Int) := by omega
  have p2 : ¬ ((1 : Int) + (l.length : Int) < 0) := by omega
  go_enter Tryz.func75, Tryz.ntmps75
  go_wp2_with fail
  go_loop [3, 11] (fun s i => (i = .int .i64 0 ∧ s = .int .i64 0) ∨ (i = .int .i64 1 ∧ s = .int .i64 1) ∨ (i = .int .i64 2 ∧ s = .int .i64 (1 + l.length : Nat))) (fun _ i => 2 - (intOf i).toNat)
  case atStart => exact .inl ⟨rfl, rfl⟩
  case round =>
    rcases hrel with ⟨rfl, rfl⟩ | ⟨rfl, rfl⟩ | ⟨rfl, rfl⟩
    · go_wp2_with fail
      go_round
      case rel => exact .inr (.inl ⟨rfl, by go_num⟩)
      case measure => simp [intOf]
    · go_wp2_with fail
      go_round
      case rel => exact .inr (.inr ⟨rfl, by go_num⟩)
      case measure => simp [intOf]
    · go_wp2_with fail
      with_reducible refine (igrow_int (1 + l.length) (1 + (l.length : Int)) (by omega) (by omega) (by omega) _).mono ?_
      rintro e w1 ⟨c, rfl, hcc, ho, hb, hz⟩
      have c0' := below_cell hb c0
      have c1' := below_cell hb c1
      have HO := Lib.hid ho
      have C0 := Lib.hid c0
      have C1 := Lib.hid c1
      clear ho c0 c1
      go_wp2_with fail
      go_loopw [6, 27] (fun v i W => Below w.heap.size w W ∧ w.heap.size < W.heap.size ∧ ((i = .int .i64 0 ∧ v = .slice (some ⟨w.heap.size, 0, none⟩) 0 c ∧ W.ownsRow w.heap.size 3 1 (.slice (some ⟨w.heap.size, 0, none⟩) 0 c) 0 []) ∨ (i = .int .i64 1 ∧ ∃ g cap, v = .slice (some ⟨g, 0, none⟩) 1 cap ∧ 1 ≤ cap ∧ W.ownsRow w.heap.size 3 1 (.slice (some ⟨g, 0, none⟩) 1 cap) 1 [.int .i64 x]) ∨ (i = .int .i64 2 ∧ W.ownsRow w.heap.size 3 1 v (1 + l.length) ((x :: l).map (Value.int .i64))))) (fun _ i _ => 2 - (intOf i).toNat)
      case atStart => exact ⟨hb, hz, .inl ⟨rfl, rfl, HO.out⟩⟩
      case round =>
        clear c0' c1' hb hz
        obtain ⟨hb, hz, hr⟩ := hrel
        rcases hr with ⟨rfl, rfl, hr⟩ | ⟨rfl, g, cap, rfl, hcap, hr⟩ | ⟨rfl, hr⟩
        · have q := below_cell hb C0.out
          have HB := Lib.hid (H1.out.below hb)
          have HR := Lib.hid hr
          clear hr
          go_wp2_with (refine app_ints_any rfl _ _ rfl w.heap.size w.heap.size 0 c [] rfl HR.out _ [x] rfl HB.out (by simp) (Nat.zero_le _) (by omega) ?_; intro v8 w8 hown8 hbl8; have HOW := Lib.hid hown8; have HG := Lib.hid hbl8; clear hown8 hbl8)
          obtain ⟨g8, cap8, rfl, hc8⟩ := own_some (x := .int .i64 x) (xs := []) HOW.out
          go_roundw
          case rel => exact ⟨hb.trans HG.out, Nat.lt_of_lt_of_le hz HG.out.size, .inr (.inl ⟨rfl, _, _, rfl, hc8, HOW.out⟩)⟩
          case measure => simp [intOf]
        · have q := below_cell hb C1.out
          have HB := Lib.hid (H2.out.below hb)
          have HR := Lib.hid hr
          clear hr
          go_wp2_with (refine app_ints_any rfl _ _ rfl w.heap.size g 1 cap _ rfl HR.out _ l rfl HB.out (by omega) hcap (by omega) ?_; intro v8 w8 hown8 hbl8; have HOW := Lib.hid hown8; have HG := Lib.hid hbl8; clear hown8 hbl8)
          go_roundw
          case rel => exact ⟨hb.trans HG.out, Nat.lt_of_lt_of_le hz HG.out.size, .inr (.inr ⟨rfl, HOW.out⟩)⟩
          case measure => simp [intOf]
        · have HP := Lib.hid (Ints.own (zs := x :: l) hr HX.out (by simp; omega))
          clear hr
          go_wp2_with fail
          go_ret
          exact ⟨_, rfl, HP.out, hb⟩

/-- What a right program is. -/
structure ProgOK (rows : List (List Int)) (owners : List Int) : Prop where
  few : rows.length ≤ 64
  len : rows.length = owners.length
  right : Right rows (wide rows)
  pos : rows ≠ [] → 1 ≤ wide rows
  own : ∀ o ∈ owners, 0 ≤ o ∧ o ≤ 63
theorem rowBad_false {m : Nat} {r : List Int} {o : Int} (h : rowBad m r o = false) : r.length ≠ 0 ∧ r.length = m ∧ (0 ≤ o ∧ o ≤ 63) ∧ ∀ z ∈ r, 0 ≤ z ∧ z < 1073741789 := by
  unfold rowBad at h
  simp only [Bool.or_eq_false_iff, decide_eq_false_iff_not, Bool.not_eq_false'] at h
  obtain ⟨h0, h1, h2, h3⟩ := h
  refine ⟨h0, by simpa using h1, inB_iff.1 h2, fun z hz => oddQ_num ?_⟩
  cases e : oddQ z with
  | false => rfl
  | true => rw [any_of_mem hz e] at h3; cases h3
where any_of_mem {l : List Int} {z : Int} (hz : z ∈ l) (e : oddQ z = true) : l.any oddQ = true := List.any_eq_true.2 ⟨z, hz, e⟩
theorem progE_ok {rows : List (List Int)} {owners : List Int} (h : progE rows owners = 0) : ProgOK rows owners := by
  unfold progE at h
  split at h
  · cases h
  · rename_i h1
    split at h
    · cases h
    · rename_i h2
      split at h
      · cases h
      · rename_i h3
        have hlen : rows.length = owners.length := by omega
        have hfew : rows.length ≤ 64 := by
          by_cases hh : 64 < rows.length
          · exact absurd (.inl hh) h1
          · omega
        have hk : ∀ k (hk : k < rows.length), rowBad (wide rows) rows[k] (owners[k]'(by omega)) = false := fun k hk => by
          cases e : rowBad (wide rows) rows[k] (owners[k]'(by omega)) with
          | false => rfl
          | true =>
            have hz : k < (rows.zip owners).length := by simp; omega
            exact absurd (List.any_eq_true.2 ⟨(rows.zip owners)[k], List.getElem_mem hz, by rw [zip_at hlen hk]; exact e⟩) h3
        have hs : ∀ r ∈ rows, r.length ≤ 64 := fun r hr => by
          by_cases hl : 64 < r.length
          · exact absurd (.inr (List.any_eq_true.2 ⟨r, hr, by simpa [longR] using hl⟩)) h1
          · omega
        refine ⟨hfew, hlen, ⟨hfew, ?_, ?_, ?_⟩, ?_, ?_⟩
        · cases rows with
          | nil => exact .inr rfl
          | cons r l => exact .inl (hs r (by simp))
        · intro r hr
          obtain ⟨k, hk1, rfl⟩ := List.mem_iff_getElem.1 hr
          exact (rowBad_false (hk k hk1)).2.1
        · intro r hr
          obtain ⟨k, hk1, rfl⟩ := List.mem_iff_getElem.1 hr
          exact (rowBad_false (hk k hk1)).2.2.2
        · intro hne
          have hk1 : 0 < rows.length := List.length_pos_iff.2 hne
          have := rowBad_false (hk 0 hk1)
          omega
        · intro o ho
          obtain ⟨k, hk1, rfl⟩ := List.mem_iff_getElem.1 ho
          exact (rowBad_false (hk k (by omega))).2.2.1
theorem ProgOK.cols {rows : List (List Int)} {owners : List Int} (h : ProgOK rows owners) : 1 ≤ colsQ rows := by
  unfold colsQ; split
  · omega
  · rename_i h0; exact h.pos (fun e => h0 (by rw [e]; rfl))
theorem ProgOK.row {rows : List (List Int)} {owners : List Int} (h : ProgOK rows owners) {k : Nat} (hk : k < rows.length) : rows[k].length = colsQ rows := by
  unfold colsQ; rw [if_neg (by omega)]; exact h.right.len _ (List.getElem_mem hk)

end Go.Proofs.YtjjoadmkpbmhpaaGreat
