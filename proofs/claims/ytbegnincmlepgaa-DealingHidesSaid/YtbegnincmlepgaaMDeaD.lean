/- Package dealing: numbers, columns, products of lists. Package dealing: shares as lists; appends; slices.Concat of a number and a list. -/
import Derived.Test.YtbegnincmlepgaaMDeaC
import Derived.Test.YtbegnincmlepgaaMLinO
import Derived.Test.YtbegnincmlepgaaMLinQ
import Derived.Deep.AppendSrc
import Derived.Deep.AppendLies
import Derived.Lib.AppendZeros
namespace Go.Proofs.Ytbegnincmlepgaa
open Go.RowKit

set_option maxRecDepth 100000 in
theorem dodd_any (z : Int) (w : World) : Calls Try.prog 91 #[.int .i64 z] w fun r w' => r = .returned (.bool (oddQ z)) ∧ w = w' := by
  by_cases h1 : z < 0
  · have H := Lib.hid (show oddQ z = true by simp [oddQ, h1])
    go_enter Try.func91, Try.ntmps91
    go_wp2_with fail
    go_ret
    exact ⟨ret_bool H.out.symm, rfl⟩
  · have h2 : 0 ≤ z := by omega
    have H := Lib.hid (show oddQ z = decide (1073741789 ≤ z) by unfold oddQ; rw [decide_eq_false h1, Bool.false_or])
    go_enter Try.func91, Try.ntmps91
    go_wp2_with fail
    go_ret
    exact ⟨ret_bool H.out.symm, rfl⟩
theorem dodd_tests (w : World) (zs : List Int) : Tests 91 #[] w oddQ zs :=
  fun z _ w' _ => (dodd_any z w').mono fun _ _ ⟨h, e⟩ => ⟨h, e ▸ Below.refl _ _⟩
set_option maxRecDepth 100000 in
theorem dodd_goes : Goes Try.prog 91 := goes_of Try.func91 (by kernel_rfl) rfl
set_option maxRecDepth 100000 in
theorem numbers_any (v : Value) (zs : List Int) (w : World) (hI : Ints w v zs) : Calls Try.prog 50 #[v] w fun r w' => r = .returned (.bool (!zs.any oddQ)) ∧ Below w.heap.size w w' := by
  have HC := Lib.hid (containsFunc_any 91 #[] oddQ v zs w hI dodd_goes (dodd_tests _ _))
  clear hI
  go_enter Try.func50, Try.ntmps50
  go_wp2_with fail
  refine HC.out.mono ?_
  rintro e w3 ⟨rfl, hb3⟩
  go_wp2_with fail
  go_ret
  exact ⟨rfl, hb3⟩

/-- How many columns a program has. -/
def colsQ (rows : List (List Int)) : Nat := if rows.length = 0 then 1 else wide rows
set_option maxRecDepth 100000 in
set_option maxHeartbeats 1000000 in
theorem columns_any (rv ov : Value) (rows : List (List Int)) (owners : List Int) (w : World) (hR : Rows2 w rv rows) (hO : Ints w ov owners) :
    Calls Try.prog 51 #[.agg #[rv, ov]] w fun e w' => e = .returned (.int .i64 (colsQ rows)) ∧ Below w.heap.size w w' := by
  obtain ⟨W1, hW1, hb1, hr1, hz⟩ := box_prog w rv ov 25
  have HR1 := Lib.hid (hR.below hb1)
  obtain ⟨a, cap, rfl, -, hlen, -⟩ := id hR
  obtain ⟨a2, cap2, rfl, -, hlen2, -⟩ := id hO
  have c0 : W1.cell? ⟨w.heap.size, 0, none⟩ = some (.slice a rows.length cap) := rowp_cell hr1 rfl
  have HW1 := Lib.hid hW1
  have HB1 := Lib.hid hb1
  clear hR hO hr1 hW1 hb1
  by_cases h0 : rows.length = 0
  · have HV := Lib.hid (show colsQ rows = 1 by unfold colsQ; rw [if_pos h0])
    have z0 : ((rows.length : Int) == 0) = true := by rw [h0]; rfl
    clear h0
    go_enter Try.func51, Try.ntmps51
    go_wp2_with fail
    go_ret
    exact ⟨ret_int (by rw [HV.out]; rfl), HW1.out ▸ HB1.out⟩
  · have HV := Lib.hid (show colsQ rows = wide rows by unfold colsQ; rw [if_neg h0])
    have z0 : ((rows.length : Int) == 0) = false := beq_eq_false_iff_ne.2 (by omega)
    obtain ⟨aa, cc, e1, -, -, hk⟩ := HR1.out
    obtain ⟨b, off, r, ha, q1, hI⟩ := hk 0 (by omega)
    simp only [Value.slice.injEq] at e1
    obtain ⟨rfl, -, rfl⟩ := e1
    subst ha
    rw [Nat.add_zero] at q1
    obtain ⟨ra, rc, rfl, -⟩ := id hI
    rw [wide_at rows (by omega)] at q1
    have i3 : (0 : Int) < (rows.length : Int) := by omega
    clear hk hI h0
    generalize wide rows = m at *
    go_enter Try.func51, Try.ntmps51
    go_wp2_with (rw [← HW1.out])
    go_ret
    exact ⟨ret_int (by rw [HV.out]), HB1.out⟩

set_option maxRecDepth 100000 in
set_option maxHeartbeats 1000000 in
theorem times1_any (i : Nat) (n : Int) (bb : Nat) (u : Value) (b : List Int) (w : World) (hc : w.cell? ⟨bb, 0, none⟩ = some u) (hJ : Ints w u b) (hi : i < b.length) (hn : R64 n) :
    Calls Try.prog 94 #[.int .i64 i, .int .i64 n, .pointer (some ⟨bb, 0, none⟩)] w fun e w' => e = .returned (.int .i64 (n * nth b i % 1073741789)) ∧ w = w' := by
  obtain ⟨hr, b0, off, nn, c, rfl, hcell⟩ := hJ.get hi
  obtain ⟨a', c', e', -, hlen, -⟩ := id hJ
  simp only [Value.slice.injEq] at e'
  obtain ⟨-, rfl, rfl⟩ := e'
  have i0 : 0 ≤ (i : Int) := by omega
  have i1 : (i : Int) < (b.length : Int) := by omega
  clear hJ
  generalize nth b i = z at *
  go_enter Try.func94, Try.ntmps94
  go_wp2_with fail
  with_reducible refine (mul_any n z _ hn hr).mono ?_
  rintro e w3 ⟨rfl, rfl⟩
  go_wp2_with fail
  go_ret
  exact ⟨rfl, rfl⟩
set_option maxRecDepth 100000 in
theorem times1_goes : Goes Try.prog 94 := goes_of Try.func94 (by kernel_rfl) rfl

set_option maxRecDepth 100000 in
set_option maxHeartbeats 2000000 in
theorem dsum_any (v u : Value) (a b : List Int) (bb : Nat) (w : World) (hI : Ints w v a) (hJ : Ints w u b) (hl : a.length ≤ b.length) (hc : w.cell? ⟨bb, 0, none⟩ = some u) :
    Calls Try.prog 93 #[v, .func (.func 94) #[] #[.pointer (some ⟨bb, 0, none⟩)]] w fun e w' => e = .returned (.int .i64 (prodQ a b)) ∧ Below w.heap.size w w' := by
  have HA := Lib.hid (fun k (hk : k < a.length) => hI.get hk)
  obtain ⟨aa, ca, rfl, hcap, hlen, -⟩ := id hI
  have HT := Lib.hid (fun k (hk : k < a.length) (n : Int) (hn : R64 n) W (hb : Below w.heap.size w W) => times1_any k n bb u b W (below_cell hb hc) (hJ.below hb) (by omega) hn)
  have hE' : ∀ (args : Array Value) (w : World), (callFunc 94 args).run Try.prog w = .ok (.enter 94 args) w := times1_goes
  clear hI hJ hc
  go_enter Try.func93, Try.ntmps93
  go_wp2_with fail
  go_loopw [4, 9] (fun s i W => ∃ k : Nat, k ≤ a.length ∧ i = .int .i64 k ∧ s = .int .i64 (prodF a b k) ∧ Below w.heap.size w W) (fun _ i _ => a.length - (intOf i).toNat)
  case atStart => exact ⟨0, Nat.zero_le _, rfl, rfl, Below.refl _ _⟩
  case round =>
    obtain ⟨k, hkl, rfl, rfl, hb⟩ := hrel
    have HP := Lib.hid (prodF_num a b k)
    by_cases hlt : k < a.length
    · obtain ⟨hr, b0, off, nn, c, e1, hcell⟩ := HA.out k hlt
      simp only [Value.slice.injEq] at e1
      obtain ⟨rfl, -, -⟩ := e1
      have y1 := below_cell hb hcell
      have HT2 := Lib.hid (HT.out k hlt (nth a k) hr wr hb)
      have HS := Lib.hid (show prodF a b (k + 1) = (prodF a b k + nth a k * nth b k % 1073741789) % 1073741789 from rfl)
      have hp64 : R64 (prodF a b k) := num_r64 HP.out
      have hm64 := mod_r64 (nth a k * nth b k)
      generalize nth a k * nth b k % 1073741789 = z at *
      generalize nth a k = x at *
      clear hcell
      go_wp2_with fail
      refine HT2.out.mono ?_
      rintro e w3 ⟨rfl, rfl⟩
      go_wp2_with fail
      with_reducible refine (add_any _ z _ hp64 hm64).mono ?_
      rintro e w3 ⟨rfl, hb3⟩
      go_wp2_with fail
      go_roundw
      case rel => exact ⟨k + 1, by omega, by go_num, by rw [HS.out], hb.trans (hb3.mono hb.size)⟩
      case measure => simp [intOf]; omega
    · have HV := Lib.hid (show prodF a b k = prodQ a b by unfold prodQ; rw [show k = a.length by omega])
      go_wp2_with fail
      go_ret
      exact ⟨ret_int HV.out, hb⟩

set_option maxRecDepth 100000 in
set_option maxHeartbeats 1000000 in
theorem dtimes_any (v u : Value) (a b : List Int) (w : World) (hI : Ints w v a) (hJ : Ints w u b) (hl : a.length ≤ b.length) :
    Calls Try.prog 53 #[v, u] w fun e w' => e = .returned (.int .i64 (prodQ a b)) ∧ Below w.heap.size w w' := by
  have hmf : ∀ (fn : Fn) (first cap : Array Value) (w : World), (Instr.makeFunc fn first cap).run Try.prog w = .ok (.func fn first cap) w := fun _ _ _ _ => rfl
  have HB := Lib.hid ((Below.refl w.heap.size w).alloc (Nat.le_refl _) (.cells #[u] 23))
  have HD := Lib.hid (dsum_any v u a b w.heap.size _ (hI.below HB.out) (hJ.below HB.out) hl (rowp_cell (World.alloc_heap_new w (.cells #[u] 23)) rfl))
  obtain ⟨aa, ca, rfl, -⟩ := id hI
  obtain ⟨ab, cb, rfl, -⟩ := id hJ
  clear hI hJ
  go_enter Try.func53, Try.ntmps53
  go_wp2_with fail
  refine HD.out.mono ?_
  rintro e w3 ⟨rfl, hb3⟩
  go_wp2_with fail
  go_ret
  exact ⟨rfl, HB.out.trans (hb3.mono HB.out.size)⟩

end Go.Proofs.Ytbegnincmlepgaa

namespace Go.Proofs.Ytbegnincmlepgaa
open Go.RowKit

/-- The cells of a share. -/
def shaC (p : Int × Int) : List Value := [.int .i64 p.1, .int .i64 p.2]
/-- The slice v reads as shares. -/
def Shares (w : World) (v : Value) (l : List (Int × Int)) : Prop :=
  ∃ a cap, v = .slice a l.length cap ∧ l.length ≤ cap ∧ l.length ≤ 17592186044416 ∧ (∀ p ∈ l, R64 p.1 ∧ R64 p.2) ∧
    ∀ k (h : k < l.length), ∃ b off, a = some ⟨b, off, none⟩ ∧ w.cell? ⟨b, off + k * 2, none⟩ = some (.int .i64 l[k].1) ∧ w.cell? ⟨b, off + k * 2 + 1, none⟩ = some (.int .i64 l[k].2)
theorem Shares.below {w w' : World} {v : Value} {l : List (Int × Int)} (h : Shares w v l) (hb : Below w.heap.size w w') : Shares w' v l := by
  obtain ⟨a, cap, rfl, hc, hl, hr, hk⟩ := h
  refine ⟨a, cap, rfl, hc, hl, hr, fun k hlt => ?_⟩
  obtain ⟨b, off, ha, h1, h2⟩ := hk k hlt
  exact ⟨b, off, ha, below_cell hb h1, below_cell hb h2⟩
theorem Shares.nil (w : World) (a : Option Addr) (cap : Nat) : Shares w (.slice a 0 cap) [] :=
  ⟨a, cap, rfl, Nat.zero_le _, by simp, by simp, fun k h => absurd h (Nat.not_lt_zero _)⟩
theorem sflat_at : ∀ (l : List (Int × Int)) (k j : Nat) (hk : k < l.length), j < 2 → (l.flatMap shaC)[k * 2 + j]? = (shaC l[k])[j]?
  | [], k, _, hk, _ => absurd hk (Nat.not_lt_zero k)
  | z :: l, 0, j, _, hj => by
    rw [List.flatMap_cons, Nat.zero_mul, Nat.zero_add, List.getElem?_append_left (by show j < 2; exact hj)]; rfl
  | z :: l, k + 1, j, hk, hj => by
    rw [List.flatMap_cons, List.getElem?_append_right (by show 2 ≤ _; omega)]
    have e : (k + 1) * 2 + j - (shaC z).length = k * 2 + j := by show (k + 1) * 2 + j - 2 = _; omega
    rw [e, sflat_at l k j (by simpa using hk) hj]; rfl
theorem sflat_size (l : List (Int × Int)) : (l.flatMap shaC).length = l.length * 2 := by
  induction l with
  | nil => rfl
  | cons z l ih => rw [List.flatMap_cons, List.length_append, ih, List.length_cons]; show 2 + _ = _; omega
theorem sflat_snoc (l : List (Int × Int)) (z : Int × Int) : (l ++ [z]).flatMap shaC = l.flatMap shaC ++ shaC z := by rw [List.flatMap_append]; simp
theorem Shares.own {w : World} {base n : Nat} {v : Value} {l : List (Int × Int)} (h : w.ownsRow base 37 2 v n (l.flatMap shaC)) (hr : ∀ p ∈ l, R64 p.1 ∧ R64 p.2) (hl : l.length ≤ 1000000) : Shares w v l := by
  obtain ⟨hn, h⟩ := h
  rw [sflat_size] at hn
  obtain rfl : n = l.length := by omega
  rcases h with ⟨rfl, h0⟩ | ⟨g, cap, cur, rfl, -, hg, hnc, -, hcs, hcur⟩
  · exact ⟨none, 0, by rw [h0], by omega, by omega, hr, fun k hk => absurd hk (by omega)⟩
  · refine ⟨some ⟨g, 0, none⟩, cap, rfl, hnc, by omega, hr, fun k hk => ⟨g, 0, rfl, ?_⟩⟩
    have e : ∀ j, j < 2 → cur[k * 2 + j]? = (shaC l[k])[j]? := fun j hj => by
      have e2 : (cur.toList.take (l.length * 2))[k * 2 + j]? = (shaC l[k])[j]? := by rw [hcur, sflat_at l k j hk hj]
      rw [List.getElem?_take, if_pos (by omega)] at e2
      rw [← Array.getElem?_toList]; exact e2
    rw [Nat.zero_add]
    exact ⟨row_cell hg (e 0 (by omega)), row_cell hg (e 1 (by omega))⟩

set_option maxRecDepth 100000 in
theorem infoS : (Try.prog.info? 37).map (fun i => (i.zero.map (·.cells.size), i.size, i.bytes)) = some (some 2, 2, 16) := by kernel_rfl
set_option maxRecDepth 100000 in
/-- One share is appended. -/
theorem app_share {ops : Array Oper} {rest : List Oper} {o : Oper} {a : Act} {Q : Exit → Act → World → Prop} {W : World} (hgd : o.guard = none) (s x : Operand) (ho : o.op = .call { callee := .builtin .append, args := #[s, x], argTypes := #[32, 32] })
    (base : Nat) (v : Value) (l : List (Int × Int)) (n : Nat) (hs : a.eval s = v) (hown : W.ownsRow base 37 2 v n (l.flatMap shaC)) (b off c : Nat) (z : Int × Int) (hx : a.eval x = .slice (some ⟨b, off, none⟩) 1 c) (h0 : W.cell? ⟨b, off, none⟩ = some (.int .i64 z.1)) (h1 : W.cell? ⟨b, off + 1, none⟩ = some (.int .i64 z.2)) (hn : n ≤ 1000000) (hbase : base ≤ W.heap.size)
    (h : ∀ g cap w', w'.ownsRow base 37 2 (.slice (some ⟨g, 0, none⟩) (n + 1) cap) (n + 1) ((l ++ [z]).flatMap shaC) → Onto W v w' (.slice (some ⟨g, 0, none⟩) (n + 1) cap) → wpList Try.prog ops Q rest (a.put o.dst (.slice (some ⟨g, 0, none⟩) (n + 1) cap)) w') : wpList Try.prog ops Q (o :: rest) a W := by
  obtain ⟨i, hi, hzz⟩ := Option.map_eq_some_iff.1 infoS
  simp only [Prod.mk.injEq] at hzz
  obtain ⟨hz, hs1, hb⟩ := hzz
  obtain ⟨zv, hzv, hzs⟩ := Option.map_eq_some_iff.1 hz
  refine wpList_append_lies _ hgd s x 32 ho base 37 i zv 2 16 Try.underlying32 hi hzv hs1 hb hzs (by decide) v n (l.flatMap shaC) hs hown ⟨b, off, none⟩ 1 c (shaC z) hx rfl ?_ ?_ (by decide) ?_ ?_ hbase W.heap.size rfl ?_
  · intro j u hu
    rw [add_off]
    match j with
    | 0 => simp [shaC] at hu; rw [← hu]; exact h0
    | 1 => simp [shaC] at hu; rw [← hu]; exact h1
    | n + 2 => simp [shaC] at hu
  · intro u hu
    simp only [shaC, List.mem_cons, List.not_mem_nil, or_false] at hu
    rcases hu with rfl | rfl <;> rfl
  · unfold maxLen; omega
  · omega
  · intro g cap w' h1 h2 h3 _
    refine h g cap w' (by rw [sflat_snoc]; exact h1) ⟨h2, ?_⟩
    rcases h3 with h3 | h3
    · exact .inl (h3 ▸ rfl)
    · exact .inr ⟨g, rfl, by omega⟩

set_option maxRecDepth 100000 in
/-- Any integers are appended to a row of the call's own that is not nil. -/
theorem app_ints_any {ops : Array Oper} {rest : List Oper} {o : Oper} {a : Act} {Q : Exit → Act → World → Prop} {W : World} (hgd : o.guard = none) (s x : Operand) (ho : o.op = .call { callee := .builtin .append, args := #[s, x], argTypes := #[23, 23] })
    (base g n cap : Nat) (xs : List Value) (hs : a.eval s = .slice (some ⟨g, 0, none⟩) n cap) (hown : W.ownsRow base 3 1 (.slice (some ⟨g, 0, none⟩) n cap) n xs) (u : Value) (zs : List Int) (hx : a.eval x = u) (hI : Ints W u zs) (hn : n + zs.length ≤ 17592186044416) (hcap : n ≤ cap) (hbase : base ≤ W.heap.size)
    (h : ∀ v' w', w'.ownsRow base 3 1 v' (n + zs.length) (xs ++ zs.map (Value.int .i64)) → Below base W w' → wpList Try.prog ops Q rest (a.put o.dst v') w') : wpList Try.prog ops Q (o :: rest) a W := by
  obtain ⟨ad, c, rfl, hc, hl, hr, hk⟩ := hI
  cases ad with
  | none =>
    have h0 : zs = [] := by
      cases zs with
      | nil => rfl
      | cons z l => obtain ⟨b, off, e, -⟩ := hk 0 (by simp); cases e
    subst h0
    obtain ⟨i0, hi0, hz0, hz1, hz2⟩ := info_parts infoInt
    have hsrc : Src Try.prog i0.size 23 (.slice none 0 c) 0 [] W := Src.ofNil W Try.underlying23 c
    have hrun := run_append_room_src (P := Try.prog) W 23 23 o.type 3 i0 Try.underlying23 hi0 g 0 n cap (.slice none 0 c) 0 [] hsrc (by omega) (fun j hj => absurd hj (Nat.not_lt_zero _)) (fun j hj => absurd hj (Nat.not_lt_zero _))
    refine wpList_app_run hgd s x 23 ho _ _ _ hs hx hrun ?_
    refine h _ _ ?_ ?_
    · simpa [World.setCells] using hown
    · simpa [World.setCells] using Below.refl base W
  | some ad =>
    refine app_ints hgd s x ho base n _ xs hs hown ad c zs hx ?_ hn hbase ?_
    · intro j hj
      obtain ⟨b, off, e, hcell⟩ := hk j hj
      injection e with e
      subst e
      rw [add_off]; exact hcell
    · intro v' w' h1 h2
      exact h v' w' h1 (own_below hown h2 hbase)

/-- A row of the call's own reads as integers. -/
theorem Ints.own {w : World} {base n : Nat} {v : Value} {zs : List Int} (h : w.ownsRow base 3 1 v n (zs.map (Value.int .i64))) (hr : ∀ z ∈ zs, R64 z) (hl : zs.length ≤ 17592186044416) : Ints w v zs := by
  obtain ⟨hn, h⟩ := h
  rw [List.length_map, Nat.mul_one] at hn
  rcases h with ⟨rfl, rfl⟩ | ⟨g, cap, cur, rfl, -, hg, hnc, -, hcs, hcur⟩
  · exact ⟨none, 0, by rw [hn], by omega, hl, hr, fun k hk => absurd hk (by omega)⟩
  · subst hn
    refine ⟨some ⟨g, 0, none⟩, cap, rfl, hnc, hl, hr, fun k hk => ⟨g, 0, rfl, ?_⟩⟩
    rw [Nat.zero_add]
    have e : cur.toList[k]? = some (Value.int .i64 zs[k]) := by
      have e2 : (cur.toList.take (zs.length * 1))[k]? = some (Value.int .i64 zs[k]) := by rw [hcur, List.getElem?_map, List.getElem?_eq_getElem hk]; rfl
      rwa [List.getElem?_take, if_pos (by omega)] at e2
    exact row_cell hg (by rw [← Array.getElem?_toList]; exact e)

end Go.Proofs.Ytbegnincmlepgaa
