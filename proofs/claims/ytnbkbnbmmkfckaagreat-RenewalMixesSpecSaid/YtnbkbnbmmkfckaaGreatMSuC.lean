/- The laws of dealing: DealingSum, the walk. Package renewal: lists that are put together. Package renewal: shares that are put together. Package renewal: lists that lie apart from some blocks; rows of shares. -/
import Derived.Test.YtnbkbnbmmkfckaaGreatMSuA
import Derived.Test.YtnbkbnbmmkfckaaGreatMReA
import Derived.Test.YtnbkbnbmmkfckaaGreatMRbM
import Derived.Deep.RegionHeld3
import Derived.Deep.RegionLaw
import Derived.Deep.AppendLies
namespace Go.Proofs.YtnbkbnbmmkfckaaGreat
open Go.RowKit FP

set_option maxRecDepth 100000 in
/-- One share is appended, as a step of a region that draws. -/
theorem step_app_share {ops : Array Oper} {o : Oper} {a : Act} {K : Act → World → Prop} {Q : Exit → Act → World → Prop} {E : Prop} {W : World} (hgd : o.guard = none) (s x : Operand) (ho : o.op = .call { callee := .builtin .append, args := #[s, x], argTypes := #[28, 28] })
    (base : Nat) (v : Value) (l : List (Int × Int)) (n : Nat) (hs : a.eval s = v) (hown : W.ownsRow base 47 2 v n (l.flatMap shaC)) (b c : Nat) (z : Int × Int) (hx : a.eval x = .slice (some ⟨b, 0, none⟩) 1 c) (h0 : W.cell? ⟨b, 0, none⟩ = some (.int .i64 z.1)) (h1 : W.cell? ⟨b, 1, none⟩ = some (.int .i64 z.2)) (hn : n ≤ 1000000) (hbase : base ≤ W.heap.size)
    (h : ∀ g cap w', w'.ownsRow base 47 2 (.slice (some ⟨g, 0, none⟩) (n + 1) cap) (n + 1) ((l ++ [z]).flatMap shaC) → Onto W v w' (.slice (some ⟨g, 0, none⟩) (n + 1) cap) → K (a.put o.dst (.slice (some ⟨g, 0, none⟩) (n + 1) cap)) w') :
    if Region.wanted o (yielded ops a.tmps) = true then Oper.wp Tryz.prog o a W K Q else E := by
  obtain ⟨i, hi, hzz⟩ := Option.map_eq_some_iff.1 infoS
  simp only [Prod.mk.injEq] at hzz
  obtain ⟨hz, hs1, hb⟩ := hzz
  obtain ⟨zv, hzv, hzs⟩ := Option.map_eq_some_iff.1 hz
  refine step_append_lies _ hgd s x 28 ho base 47 i zv 2 16 Tryz.underlying28 hi hzv hs1 hb hzs (by decide) v n (l.flatMap shaC) hs hown ⟨b, 0, none⟩ 1 c (shaC z) hx rfl ?_ ?_ (by decide) ?_ ?_ hbase W.heap.size rfl ?_
  · intro j u hu
    rw [add_off]
    match j with
    | 0 => simp [shaC] at hu; rw [← hu]; exact h0
    | 1 => simp [shaC] at hu; rw [← hu]; exact h1
    | n + 2 => simp [shaC] at hu
  · intro u hu
    simp only [shaC, List.mem_cons, List.not_mem_nil, or_false] at hu
    rcases hu with rfl | rfl <;> rfl
  · unfold maxLen; omega
  · omega
  · intro g cap w' h1 h2 h3 _
    refine h g cap w' (by rw [sflat_snoc]; exact h1) ⟨h2, ?_⟩
    rcases h3 with h3 | h3
    · exact .inl (h3 ▸ rfl)
    · exact .inr ⟨g, rfl, by omega⟩

structure Dealt (rows : List (List Int)) (n : Nat) (D : List (Int × Int)) (C : List Int) (P : Nat → Int) : Prop where
  len : D.length = rows.length
  at_ : ∀ k (h : k < D.length), D[k] = ((k : Int), P k)
  num : ∀ k, 0 ≤ P k ∧ P k < 1073741789
  clen : C.length = n
  el : ∀ k, k < n → El (nth C k)
theorem Dealt.r64 {rows : List (List Int)} {n : Nat} {D : List (Int × Int)} {C : List Int} {P : Nat → Int} (h : Dealt rows n D C P) (hr : rows.length ≤ 64) : ∀ p ∈ D, R64 p.1 ∧ R64 p.2 := by
  intro p hp
  obtain ⟨k, hk, rfl⟩ := List.mem_iff_getElem.1 hp
  have hl := h.len
  rw [h.at_ k hk]
  exact ⟨R64.mk (by show (-4611686018427387904 : Int) ≤ (k : Int); omega) (by show (k : Int) ≤ 4611686018427387904; omega), num_r64 (h.num k)⟩

end Go.Proofs.YtnbkbnbmmkfckaaGreat

namespace Go.Proofs.YtnbkbnbmmkfckaaGreat
open Go.RowKit FP

set_option maxRecDepth 100000 in
set_option maxHeartbeats 2000000 in
theorem rows1_any (r v r2 v2 : Int) (w : World) :
    Calls Tryz.prog 23 #[.agg #[.int .i64 r, .int .i64 v], .agg #[.int .i64 r2, .int .i64 v2]] w fun e w' => e = .returned (.bool (r == r2)) ∧ Below w.heap.size w w' := by
  obtain ⟨W1, hW1, hb1, hr1, -⟩ := box_prog w (.int .i64 r) (.int .i64 v) 47
  obtain ⟨W2, hW2, hb2, hr2, -⟩ := box_prog W1 (.int .i64 r2) (.int .i64 v2) 47
  have hs : W1.heap.size = w.heap.size + 1 := by rw [hW1]; simp
  have c0 : W2.cell? ⟨w.heap.size, 0, none⟩ = some (.int .i64 r) := below_cell hb2 (row_cell hr1 rfl)
  have c1 : W2.cell? ⟨w.heap.size + 1, 0, none⟩ = some (.int .i64 r2) := by rw [← hs]; exact row_cell hr2 rfl
  have HB := Lib.hid (hb1.trans (hb2.mono hb1.size))
  rw [hW1] at hW2
  have HW := Lib.hid hW2
  clear hW2 hW1 hr1 hr2 hb1 hb2 hs
  go_enter Tryz.func23, Tryz.ntmps23
  go_wp2_with (rw [← HW.out])
  go_ret
  exact ⟨rfl, HB.out⟩

theorem rowsS_at {a b : List (Int × Int)} {k : Nat} (h1 : k < a.length) (h2 : k < b.length) (h : a[k].1 ≠ b[k].1) : rowsS a ≠ rowsS b := fun e => h (by
  have h3 : (rowsS a)[k]? = (rowsS b)[k]? := by rw [e]
  unfold rowsS at h3
  rw [List.getElem?_map, List.getElem?_map, List.getElem?_eq_getElem h1, List.getElem?_eq_getElem h2] at h3
  simpa using h3)
theorem rowsS_all {a b : List (Int × Int)} (hl : a.length = b.length) (h : ∀ k (h1 : k < a.length) (h2 : k < b.length), a[k].1 = b[k].1) : rowsS a = rowsS b := by
  unfold rowsS
  refine List.ext_getElem (by simpa using hl) fun k h1 h2 => ?_
  rw [List.getElem_map, List.getElem_map]
  exact h k (by simpa using h1) (by simpa using h2)

set_option maxRecDepth 100000 in
set_option maxHeartbeats 8000000 in
theorem efRows_any (u v : Value) (a b : List (Int × Int)) (w : World) (hA : Shares w u a) (hB : Shares w v b) :
    Calls Tryz.prog 25 #[u, v, .func (.func 23) #[] #[]] w fun e w' => e = .returned (.bool (decide (rowsS a = rowsS b))) ∧ Below w.heap.size w w' := by
  obtain ⟨a1, k1, rfl, hc1, hl1, hr1, hk1⟩ := hA
  obtain ⟨a2, k2, rfl, hc2, hl2, hr2, hk2⟩ := hB
  by_cases hl : a.length = b.length
  rotate_left
  · have hl' : ((a.length : Int) != (b.length : Int)) = true := by rw [bne_iff_ne]; omega
    have HV : Hid (decide (rowsS a = rowsS b) = false) := Lib.hid (decide_eq_false (fun h => hl (rowsS_len h)))
    clear hl
    go_enter Tryz.func25, Tryz.ntmps25
    go_wp2_with fail
    go_ret
    exact ⟨ret_bool HV.out.symm, Below.refl _ _⟩
  have hl' : ((a.length : Int) != (b.length : Int)) = false := by rw [hl]; simp
  have HL := Lib.hid hl
  have HK2 : Hid (∀ k (h : k < a.length), ∃ x z, x = (b[k]'(by rw [← HL.out]; exact h)).1 ∧ ∃ q off, a2 = some ⟨q, off, none⟩ ∧ w.cell? ⟨q, off + k * 2, none⟩ = some (.int .i64 x) ∧ w.cell? ⟨q, off + k * 2 + 1, none⟩ = some (.int .i64 z)) := Lib.hid (fun k h => ⟨_, _, rfl, hk2 k (by omega)⟩)
  have HK1 := Lib.hid hk1
  rw [← hl] at hl' hl2 ⊢
  clear hl hk1 hk2
  go_enter Tryz.func25, Tryz.ntmps25
  go_wp2_with fail
  go_loopw [17] (fun i W => ∃ k : Nat, k ≤ a.length ∧ i = .int .i64 k ∧ Hid (∀ j (h1 : j < a.length) (h2 : j < b.length), j < k → a[j].1 = b[j].1) ∧ Below w.heap.size w W) (fun i _ => a.length - (intOf i).toNat)
  case atStart => exact ⟨0, Nat.zero_le _, rfl, Lib.hid fun j _ _ h => absurd h (Nat.not_lt_zero _), Below.refl _ _⟩
  case round =>
    obtain ⟨k, hkl, rfl, HP, hb⟩ := hrel
    by_cases hlt : k < a.length
    · obtain ⟨p, off, rfl, qa, qb⟩ := HK1.out k hlt
      obtain ⟨y, z, hy, p', off', rfl, qc, qd⟩ := HK2.out k hlt
      have y1 := below_cell hb qa
      have y2 := below_cell hb qb
      have y3 := below_cell hb qc
      have y4 := below_cell hb qd
      obtain ⟨x, hx⟩ : ∃ x, x = a[k].1 := ⟨_, rfl⟩
      obtain ⟨t, ht⟩ : ∃ t, t = a[k].2 := ⟨_, rfl⟩
      rw [← hx] at y1
      rw [← ht] at y2
      have i1 : (0 : Int) ≤ (k : Int) := by omega
      have i2 : (k : Int) < (a.length : Int) := by omega
      have HX := Lib.hid hx
      have HY := Lib.hid hy
      obtain ⟨W5, hW5, hb5, hr5, -⟩ := box_prog wr (.int .i64 x) (.int .i64 t) 47
      have s0 : W5.cell? ⟨wr.heap.size, 0, none⟩ = some (.int .i64 x) := row_cell hr5 rfl
      have s1 : W5.cell? ⟨wr.heap.size, 1, none⟩ = some (.int .i64 t) := row_cell hr5 rfl
      have z3 := below_cell hb5 y3
      have z4 := below_cell hb5 y4
      obtain ⟨W6, hW6, hb6, hr6, -⟩ := box_prog W5 (.int .i64 y) (.int .i64 z) 47
      have u0 := below_cell hb6 s0
      have u1 := below_cell hb6 s1
      have u2 : W6.cell? ⟨W5.heap.size, 0, none⟩ = some (.int .i64 y) := row_cell hr6 rfl
      have u3 : W6.cell? ⟨W5.heap.size, 1, none⟩ = some (.int .i64 z) := row_cell hr6 rfl
      have HW5 := Lib.hid hW5
      have HW6 := Lib.hid hW6
      have hbw := hb.trans (hb5.mono hb.size)
      have HBW := Lib.hid (hbw.trans (hb6.mono hbw.size))
      clear hx hy ht qa qb qc qd hb hr5 hr6 hW5 hW6 hb5 hb6 hbw
      by_cases he : x = y
      · have he' : (x == y) = true := by simpa using he
        have HN := Lib.hid (show ∀ j (h1 : j < a.length) (h2 : j < b.length), j < k + 1 → a[j].1 = b[j].1 from fun j h1 h2 h3 => by
          by_cases e : j = k
          · subst e; rw [← HX.out, ← HY.out, he]
          · exact HP.out j h1 h2 (by omega))
        clear he
        go_wp2_with (first | rw [← HW5.out] | rw [← HW6.out])
        refine (rows1_any x t y z _).mono ?_
        rintro e w7 ⟨rfl, hb7⟩
        rw [he']
        go_wp2_with fail
        go_roundw
        case rel => exact ⟨k + 1, by omega, by go_num, HN, HBW.out.trans (hb7.mono HBW.out.size)⟩
        case measure => simp [intOf]; omega
      · have he' : (x == y) = false := by simpa using he
        have HV : Hid (decide (rowsS a = rowsS b) = false) := Lib.hid (decide_eq_false (rowsS_at hlt (by rw [← HL.out]; exact hlt) (by rw [← HX.out, ← HY.out]; exact he)))
        clear he
        go_wp2_with (first | rw [← HW5.out] | rw [← HW6.out])
        refine (rows1_any x t y z _).mono ?_
        rintro e w7 ⟨rfl, hb7⟩
        rw [he']
        go_wp2_with fail
        go_ret
        exact ⟨ret_bool HV.out.symm, HBW.out.trans (hb7.mono HBW.out.size)⟩
    · have HV : Hid (decide (rowsS a = rowsS b) = true) := Lib.hid (decide_eq_true (rowsS_all HL.out fun j h1 h2 => HP.out j h1 h2 (by omega)))
      go_wp2_with fail
      go_ret
      exact ⟨ret_bool HV.out.symm, hb⟩

set_option maxRecDepth 100000 in
set_option maxHeartbeats 2000000 in
theorem mul1_any (x y : Int) (w : World) (hx : El x) (hy : El y) :
    Calls Tryz.prog 26 #[.int .i64 x, .int .i64 y] w fun e w' => e = .returned (.int .i64 (x * y % 2147483579)) ∧ w = w' := by
  have HM := Lib.hid (mul_yes x y w hx hy)
  generalize x * y % 2147483579 = z at *
  go_enter Tryz.func26, Tryz.ntmps26
  go_wp2_with fail
  refine (HM.out).mono ?_
  rintro e w2 ⟨rfl, rfl⟩
  go_wp2_with fail
  go_ret
  exact ⟨rfl, rfl⟩

set_option maxRecDepth 100000 in
set_option maxHeartbeats 8000000 in
theorem pairI_any (u v : Value) (a b : List Int) (w : World) (hA : Ints w u a) (hB : Ints w v b) (hl : a.length ≤ b.length) (h6 : a.length ≤ 1000000) (ha : ∀ c ∈ a, El c) (hb : ∀ c ∈ b, El c) :
    Calls Tryz.prog 30 #[u, v, .func (.func 26) #[] #[]] w fun e w' => ∃ x, e = .returned x ∧ w'.ownsRow w.heap.size 3 1 x a.length ((mulL a b).map (Value.int .i64)) ∧ Below w.heap.size w w' := by
  have HC1 := Lib.hid (fun k (hk : k < a.length) => hA.get hk)
  have HC2 := Lib.hid (fun k (hk : k < a.length) => hB.get (k := k) (by omega))
  have HE1 := Lib.hid (fun k (hk : k < a.length) => (show El (nth a k) from ha _ (by rw [nth_at hk]; exact List.getElem_mem hk)))
  have HE2 := Lib.hid (fun k (hk : k < a.length) => (show El (nth b k) from hb _ (by rw [nth_at (show k < b.length by omega)]; exact List.getElem_mem _)))
  have HLB := Lib.hid hl
  obtain ⟨a1, k1, rfl, -, hl1, -⟩ := hA
  obtain ⟨a2, k2, rfl, -, hl2, -⟩ := hB
  clear ha hb
  have h00 : w.ownsRow w.heap.size 3 1 (.slice none 0 0) 0 (((List.range 0).map fun i => nth a i * nth b i % 2147483579).map (Value.int .i64)) := World.ownsRow_nil _ _ _ _
  go_enter Tryz.func30, Tryz.ntmps30
  go_wp2_with fail
  go_loopw [6, 11] (fun L i W => ∃ k : Nat, k ≤ a.length ∧ i = .int .i64 k ∧ W.ownsRow w.heap.size 3 1 L k (((List.range k).map fun i => nth a i * nth b i % 2147483579).map (Value.int .i64)) ∧ Below w.heap.size w W) (fun _ i _ => a.length - (intOf i).toNat)
  case atStart => exact ⟨0, Nat.zero_le _, rfl, h00, Below.refl _ _⟩
  case round =>
    clear h00
    obtain ⟨k, hkl, rfl, hown, hb⟩ := hrel
    by_cases hlt : k < a.length
    · obtain ⟨-, b1, o1, n1, k9, e1, q1⟩ := HC1.out k hlt
      simp only [Value.slice.injEq] at e1
      obtain ⟨rfl, -, -⟩ := e1
      obtain ⟨-, b2, o2, n2, k8, e2, q2⟩ := HC2.out k hlt
      simp only [Value.slice.injEq] at e2
      obtain ⟨rfl, -, -⟩ := e2
      have y1 := below_cell hb q1
      have y2 := below_cell hb q2
      have hx := HE1.out k hlt
      have hy := HE2.out k hlt
      have HT : Hid (((List.range (k + 1)).map fun i => nth a i * nth b i % 2147483579).map (Value.int .i64) = ((List.range k).map fun i => nth a i * nth b i % 2147483579).map (Value.int .i64) ++ [.int .i64 (nth a k * nth b k % 2147483579)]) := Lib.hid (by rw [range_snoc, List.map_append]; rfl)
      have HM := Lib.hid (mul1_any _ _ wr hx hy)
      have i0 : (0 : Int) ≤ (k : Int) := by omega
      have i1 : (k : Int) < (a.length : Int) := by omega
      have i2 : (k : Int) < (b.length : Int) := by have := HLB.out; omega
      have hk6 : k ≤ 1000000 := by omega
      obtain ⟨p, hp⟩ : ∃ p, p = nth a k * nth b k % 2147483579 := ⟨_, rfl⟩
      rw [← hp] at HT HM
      have HN9 := Lib.hid (below_new wr #[.int .i64 p] 3)
      have HOX := Lib.hid (own_keep hown HN9.out)
      have HQ0 : Hid ((wr.alloc (.cells #[.int .i64 p] 3)).cell? ⟨wr.heap.size, 0, none⟩ = some (.int .i64 p)) := Lib.hid (row_cell (World.alloc_heap_new _ _) rfl)
      have HB9 := Lib.hid (hb.trans (HN9.out.mono hb.size))
      have HBS := Lib.hid HB9.out.size
      clear q1 q2 hown hb hx hy hp
      generalize nth a k = x at *
      generalize nth b k = y at *
      go_wp2_with fail
      refine (HM.out).mono ?_
      rintro e w5 ⟨rfl, rfl⟩
      go_wp2_with (refine app_int rfl _ _ rfl w.heap.size k _ _ rfl HOX.out wr.heap.size 1 p rfl HQ0.out hk6 HBS.out ?_; intro v9 w11 h9 o9; have H9 := Lib.hid h9; have O9 := Lib.hid o9; clear h9 o9)
      go_roundw
      case rel => exact ⟨k + 1, by omega, by go_num, by rw [HT.out]; exact H9.out, HB9.out.trans (own_below HOX.out O9.out HBS.out)⟩
      case measure => simp [intOf]; omega
    · obtain rfl : k = a.length := by omega
      have hdk : decide (a.length < a.length) = false := decide_eq_false (by omega)
      have HOW := Lib.hid hown
      have HBW := Lib.hid hb
      clear hown hb
      go_wp2_with fail
      go_ret
      exact ⟨_, rfl, HOW.out, HBW.out⟩

end Go.Proofs.YtnbkbnbmmkfckaaGreat

namespace Go.Proofs.YtnbkbnbmmkfckaaGreat
open Go.RowKit FP

theorem results_cellA {fn : Func} {p : Tmp} {ty : TypeId} (h : fn.results = #[.cell p ty]) (tmps : Array Value) (P : Program) (w : World) :
    (results fn tmps).run P w = ((asAddr (tmps.getD p undef)).run P w).andThen fun a w₁ => (loadVar ty a).run P w₁ := by
  simp only [results, h]
  simp [Sem.run_bind, Result.andThen]

set_option maxRecDepth 100000 in
set_option maxHeartbeats 4000000 in
theorem plus1_any (r v r2 v2 : Int) (w : World) (hv : R64 v) (hv2 : R64 v2) :
    Calls Tryz.prog 28 #[.agg #[.int .i64 r, .int .i64 v], .agg #[.int .i64 r2, .int .i64 v2]] w fun e w' => e = .returned (.agg #[.int .i64 r, .int .i64 ((v + v2) % 1073741789)]) ∧ Below w.heap.size w w' := by
  obtain ⟨W1, hW1, hb1, hr1, -⟩ := box_prog w (.int .i64 r) (.int .i64 v) 47
  obtain ⟨W2, hW2, hb2, hr2, -⟩ := box_prog W1 (.int .i64 r2) (.int .i64 v2) 47
  obtain ⟨W3, hW3, hb3, hr3, -⟩ := box_prog W2 (.int .i64 0) (.int .i64 0) 47
  have hs1 : W1.heap.size = w.heap.size + 1 := by rw [hW1]; simp
  have hs2 : W2.heap.size = w.heap.size + 1 + 1 := by rw [hW2]; simp [hs1]
  have c0 : W3.cell? ⟨w.heap.size, 0, none⟩ = some (.int .i64 r) := below_cell hb3 (below_cell hb2 (row_cell hr1 rfl))
  have c1 : W3.cell? ⟨w.heap.size, 1, none⟩ = some (.int .i64 v) := below_cell hb3 (below_cell hb2 (row_cell hr1 rfl))
  have c2 : W3.cell? ⟨w.heap.size + 1, 1, none⟩ = some (.int .i64 v2) := by rw [← hs1]; exact below_cell hb3 (row_cell hr2 rfl)
  rw [hs2] at hr3
  have Q := Lib.hid hr3
  have hb12 := hb1.trans (hb2.mono hb1.size)
  have HB := Lib.hid (hb12.trans (hb3.mono hb12.size))
  rw [hW1] at hW2
  rw [hW2] at hW3
  have HW := Lib.hid hW3
  have HAD := Lib.hid (fun ww => add_any v v2 ww hv hv2)
  clear hW3 hW2 hW1 hr1 hr2 hr3 hb1 hb2 hb3 hs1 hs2 hb12
  obtain ⟨z, hz⟩ : ∃ z, z = (v + v2) % 1073741789 := ⟨_, rfl⟩
  rw [← hz] at HAD ⊢
  clear hz
  have c0d : W3.drew.cell? ⟨w.heap.size, 0, none⟩ = some (.int .i64 r) := c0
  have c1d : W3.drew.cell? ⟨w.heap.size, 1, none⟩ = some (.int .i64 v) := c1
  have c2d : W3.drew.cell? ⟨w.heap.size + 1, 1, none⟩ = some (.int .i64 v2) := c2
  have HBD := Lib.hid HB.out.drew
  replace Q := Lib.hid (show W3.drew.heap[w.heap.size + 1 + 1]? = _ from Q.out)
  have HST : Hid (∀ (W : World) (b o : Nat) (x : Value), (b = w.heap.size ∨ b = w.heap.size + 1) → W.cell? ⟨b, o, none⟩ = some x → ((W.setCell ⟨w.heap.size + 1 + 1, 0, none⟩ (.int .i64 r)).setCell ⟨w.heap.size + 1 + 1, 1, none⟩ (.int .i64 z)).cell? ⟨b, o, none⟩ = some x) := Lib.hid (fun W b o x hb hx => by
    rw [setc_other (by omega), setc_other (by omega)]; exact hx)
  go_enter Tryz.func28, Tryz.ntmps28
  go_wp2_with (rw [← HW.out])
  clear c0 c1 c2
  go_region_held3 (fun w' => w'.cell? ⟨w.heap.size, 0, none⟩ = some (.int .i64 r) ∧ w'.cell? ⟨w.heap.size, 1, none⟩ = some (.int .i64 v) ∧ w'.cell? ⟨w.heap.size + 1, 1, none⟩ = some (.int .i64 v2)) (first | go_keep | exact ⟨c0d, c1d, c2d⟩ | exact ⟨z0, z1, z2⟩ | exact ⟨t0, t1, t2⟩)
    (first
      | (go_at_call 29; (with_reducible refine (HAD.out _).mono ?_); rintro e w6 ⟨rfl, hb6⟩; have z0 := below_cell hb6 c0d; have z1 := below_cell hb6 c1d; have z2 := below_cell hb6 c2d; have Q6 := Lib.hid ((hb6.block _ (row_lt Q.out)).trans Q.out); have HB6 := Lib.hid (HBD.out.trans (hb6.mono HBD.out.size)); clear hb6; have s0 := row_cell Q6.out (k := 0) rfl; have s1 := row_cell Q6.out (k := 1) rfl; have f0 := row_free Q6.out 0; have f1 := row_free Q6.out 1; have t0 := HST.out w6 _ 0 _ (.inl rfl) z0; have t1 := HST.out w6 _ 1 _ (.inl rfl) z1; have t2 := HST.out w6 _ 1 _ (.inr rfl) z2))
  all_goals
    obtain ⟨W7, hW7⟩ : ∃ W7, W7 = (w6.setCell ⟨w.heap.size + 1 + 1, 0, none⟩ (.int .i64 r)).setCell ⟨w.heap.size + 1 + 1, 1, none⟩ (.int .i64 z) := ⟨_, rfl⟩
    have hq : W7.heap[w.heap.size + 1 + 1]? = some (.cells #[.int .i64 r, .int .i64 z] 47 (0, 0)) := by
      rw [hW7]; exact row_set (row_set Q6.out 0 _) 1 _
    have hb7 : Below w.heap.size w W7 := by
      rw [hW7]
      exact (HB6.out.setCell (p := ⟨w.heap.size + 1 + 1, 0, none⟩) (by show w.heap.size ≤ w.heap.size + 1 + 1; omega) _).setCell (p := ⟨w.heap.size + 1 + 1, 1, none⟩) (by show w.heap.size ≤ w.heap.size + 1 + 1; omega) _
    have g0 := row_cell hq (k := 0) rfl
    have g1 := row_cell hq (k := 1) rfl
    rw [← hW7]
    clear hW7 hq z0 z1 z2 t0 t1 t2 s0 s1 f0 f1 c0d c1d c2d
    go_wp2_with fail
    try simp only [Exit.then]
    refine bodyPost_ret (v := .agg #[.int .i64 r, .int .i64 z]) ?_ rfl ⟨rfl, hb7⟩
    rw [results_cellA rfl]
    go_simp

set_option maxRecDepth 100000 in
set_option maxHeartbeats 8000000 in
theorem pairS_any (u v : Value) (a b : List (Int × Int)) (w : World) (hA : Shares w u a) (hB : Shares w v b) (hl : a.length ≤ b.length) (h6 : a.length ≤ 1000000) :
    Calls Tryz.prog 31 #[u, v, .func (.func 28) #[] #[]] w fun e w' => ∃ x, e = .returned x ∧ w'.ownsRow w.heap.size 47 2 x a.length ((addS a b).flatMap shaC) ∧ Below w.heap.size w w' := by
  obtain ⟨a1, k1, rfl, hc1, hl1, hr1, hk1⟩ := hA
  obtain ⟨a2, k2, rfl, hc2, hl2, hr2, hk2⟩ := hB
  have HK1 := Lib.hid hk1
  have HK2 := Lib.hid hk2
  have HR1 := Lib.hid hr1
  have HR2 := Lib.hid hr2
  have HLB := Lib.hid hl
  clear hk1 hk2 hr1 hr2
  have h00 : w.ownsRow w.heap.size 47 2 (.slice none 0 0) 0 (((List.range 0).map (addP a b)).flatMap shaC) := World.ownsRow_nil _ _ _ _
  go_enter Tryz.func31, Tryz.ntmps31
  go_wp2_with fail
  go_loopw [6, 11] (fun L i W => ∃ k : Nat, k ≤ a.length ∧ i = .int .i64 k ∧ W.ownsRow w.heap.size 47 2 L k (((List.range k).map (addP a b)).flatMap shaC) ∧ Below w.heap.size w W) (fun _ i _ => a.length - (intOf i).toNat)
  case atStart => exact ⟨0, Nat.zero_le _, rfl, h00, Below.refl _ _⟩
  case round =>
    clear h00
    obtain ⟨k, hkl, rfl, hown, hb⟩ := hrel
    by_cases hlt : k < a.length
    · have hlb : k < b.length := by have := HLB.out; omega
      obtain ⟨b1, o1, rfl, qa, qb⟩ := HK1.out k hlt
      obtain ⟨b2, o2, rfl, qc, qd⟩ := HK2.out k hlb
      have hv1 := (HR1.out _ (List.getElem_mem hlt)).2
      have hv2 := (HR2.out _ (List.getElem_mem hlb)).2
      have HT : Hid (((List.range (k + 1)).map (addP a b)) = ((List.range k).map (addP a b)) ++ [(a[k].1, (a[k].2 + b[k].2) % 1073741789)]) := Lib.hid (by
        rw [range_snoc]
        congr 1
        unfold addP
        rw [getD_at hlt, getD_at hlb])
      have y1 := below_cell hb qa
      have y2 := below_cell hb qb
      have y3 := below_cell hb qc
      have y4 := below_cell hb qd
      obtain ⟨r, hre⟩ : ∃ r, r = a[k].1 := ⟨_, rfl⟩
      obtain ⟨x, hxe⟩ : ∃ x, x = a[k].2 := ⟨_, rfl⟩
      obtain ⟨r2, hre2⟩ : ∃ r, r = b[k].1 := ⟨_, rfl⟩
      obtain ⟨y, hye⟩ : ∃ x, x = b[k].2 := ⟨_, rfl⟩
      rw [← hre] at y1
      rw [← hxe] at y2 hv1
      rw [← hre2] at y3
      rw [← hye] at y4 hv2
      rw [← hre, ← hxe, ← hye] at HT
      obtain ⟨W5, hW5, hb5, hr5, -⟩ := box_prog wr (.int .i64 r) (.int .i64 x) 47
      have s0 : W5.cell? ⟨wr.heap.size, 0, none⟩ = some (.int .i64 r) := row_cell hr5 rfl
      have s1 : W5.cell? ⟨wr.heap.size, 1, none⟩ = some (.int .i64 x) := row_cell hr5 rfl
      have s2 := below_cell hb5 y3
      have s3 := below_cell hb5 y4
      have s0d : W5.drew.cell? ⟨wr.heap.size, 0, none⟩ = some (.int .i64 r) := s0
      have s1d : W5.drew.cell? ⟨wr.heap.size, 1, none⟩ = some (.int .i64 x) := s1
      have s2d : W5.drew.cell? ⟨b2, o2 + k * 2, none⟩ = some (.int .i64 r2) := s2
      have s3d : W5.drew.cell? ⟨b2, o2 + k * 2 + 1, none⟩ = some (.int .i64 y) := s3
      have HW5 := Lib.hid hW5
      have HPL := Lib.hid (fun ww => plus1_any r x r2 y ww hv1 hv2)
      obtain ⟨z, hz⟩ : ∃ z, z = (x + y) % 1073741789 := ⟨_, rfl⟩
      rw [← hz] at HT HPL
      have HOW := Lib.hid (own_keep hown hb5)
      have HBW := Lib.hid (hb.trans (hb5.mono hb.size))
      have i0 : (0 : Int) ≤ (k : Int) := by omega
      have i1 : (k : Int) < (a.length : Int) := by omega
      have i2 : (k : Int) < (b.length : Int) := by omega
      have hk6 : k ≤ 1000000 := by omega
      have HNE : Hid (u6.ownBlock ≠ some wr.heap.size) := Lib.hid (fun h => Nat.lt_irrefl _ (own_lt hown _ h).2)
      have HL0 := Lib.hid (lt_of_cell s0)
      have HL2 := Lib.hid (lt_of_cell qc)
      clear qa qb qc qd hown hb hb5 hr5 hW5 hre hxe hre2 hye hz
      go_wp2_with (rw [← HW5.out])
      go_region_held3 (fun w' => w'.cell? ⟨wr.heap.size, 0, none⟩ = some (.int .i64 r) ∧ w'.cell? ⟨wr.heap.size, 1, none⟩ = some (.int .i64 x) ∧ w'.cell? ⟨b2, o2 + k * 2, none⟩ = some (.int .i64 r2) ∧ w'.cell? ⟨b2, o2 + k * 2 + 1, none⟩ = some (.int .i64 y)) (first | go_keep | exact ⟨s0d, s1d, s2d, s3d⟩ | exact ⟨z0, z1, z2, z3⟩ | exact ⟨t0, t1, t2, t3⟩)
        (first
          | (go_at_call 28; (with_reducible refine (HPL.out _).mono ?_); rintro e w6 ⟨rfl, hb6⟩; have z0 := below_cell hb6 s0d; have z1 := below_cell hb6 s1d; have z2 := below_cell hb6 s2d; have z3 := below_cell hb6 s3d; have HN6 := Lib.hid (((Below.refl W5.heap.size W5).drew).trans hb6); clear hb6; have HN7 := Lib.hid (HN6.out.alloc HN6.out.size (.cells #[.int .i64 r, .int .i64 z] 47)); have HOX := Lib.hid (own_keep HOW.out HN7.out); have HB9 := Lib.hid (HBW.out.trans (HN7.out.mono HBW.out.size)); have HBS := Lib.hid HB9.out.size; have HQ0 := Lib.hid (show (w6.alloc (.cells #[.int .i64 r, .int .i64 z] 47)).cell? ⟨w6.heap.size, 0, none⟩ = some (.int .i64 r) from row_cell (World.alloc_heap_new _ _) rfl); have HQ1 := Lib.hid (show (w6.alloc (.cells #[.int .i64 r, .int .i64 z] 47)).cell? ⟨w6.heap.size, 1, none⟩ = some (.int .i64 z) from row_cell (World.alloc_heap_new _ _) rfl))
          | (refine step_app_share (by rfl) _ _ (by rfl) w.heap.size _ ((List.range k).map (addP a b)) k (by rfl) HOX.out w6.heap.size 1 (r, z) (by rfl) HQ0.out HQ1.out hk6 HBS.out ?_; intro g9 cap9 w9 h9 o9; have hlw : wr.heap.size < (w6.alloc (.cells #[.int .i64 r, .int .i64 z] 47)).heap.size := Nat.lt_of_lt_of_le HL0.out HN7.out.size; have t0 := (onto_far o9 hlw HNE.out 0).trans (below_cell (below_new w6 _ _) z0); have t1 := (onto_far o9 hlw HNE.out 1).trans (below_cell (below_new w6 _ _) z1); have t2 := ((own_below HOX.out o9.1 HBS.out).cell (p := ⟨b2, o2 + k * 2, none⟩) HL2.out).trans (below_cell (below_new w6 _ _) z2); have t3 := ((own_below HOX.out o9.1 HBS.out).cell (p := ⟨b2, o2 + k * 2 + 1, none⟩) HL2.out).trans (below_cell (below_new w6 _ _) z3); clear hlw; have H9 := Lib.hid h9; have O9 := Lib.hid o9; clear h9 o9))
      all_goals
        go_wp2_with fail
        go_roundw
        case rel => exact ⟨k + 1, by omega, by go_num, by rw [HT.out]; exact H9.out, HB9.out.trans (own_below HOX.out O9.out.1 HBS.out)⟩
        case measure => simp [intOf]; omega
    · obtain rfl : k = a.length := by omega
      have hdk : decide (a.length < a.length) = false := decide_eq_false (by omega)
      have HOW := Lib.hid hown
      have HBW := Lib.hid hb
      clear hown hb
      go_wp2_with fail
      go_ret
      exact ⟨_, rfl, HOW.out, HBW.out⟩

end Go.Proofs.YtnbkbnbmmkfckaaGreat

namespace Go.Proofs.YtnbkbnbmmkfckaaGreat
open Go.RowKit FP

/-- Rows of shares. -/
def SRows (w : World) (v : Value) (ls : List (List (Int × Int))) : Prop :=
  ∃ a cap, v = .slice a ls.length cap ∧ ls.length ≤ cap ∧ ls.length ≤ 17592186044416 ∧
    ∀ k (h : k < ls.length), ∃ b off r, a = some ⟨b, off, none⟩ ∧ w.cell? ⟨b, off + k, none⟩ = some r ∧ Shares w r ls[k]
theorem SRows.below {w w' : World} {v : Value} {ls : List (List (Int × Int))} (h : SRows w v ls) (hb : Below w.heap.size w w') : SRows w' v ls := by
  obtain ⟨a, cap, h1, h2, h3, h4⟩ := h
  exact ⟨a, cap, h1, h2, h3, fun k hk => by obtain ⟨b, off, r, h5, h6, h7⟩ := h4 k hk; exact ⟨b, off, r, h5, below_cell hb h6, h7.below hb⟩⟩
theorem SRows.nil (w : World) (a : Option Addr) (cap : Nat) : SRows w (.slice a 0 cap) [] := ⟨a, cap, rfl, Nat.zero_le _, Nat.zero_le _, fun k h => absurd h (Nat.not_lt_zero k)⟩
theorem SRows.get {w : World} {v : Value} {ls : List (List (Int × Int))} (h : SRows w v ls) {k : Nat} (hk : k < ls.length) : ∃ b off n c r, v = .slice (some ⟨b, off, none⟩) n c ∧ w.cell? ⟨b, off + k, none⟩ = some r ∧ Shares w r (ls.getD k []) := by
  obtain ⟨a, cap, h1, h2, h3, h4⟩ := h
  obtain ⟨b, off, r, rfl, h6, h7⟩ := h4 k hk
  exact ⟨b, off, _, _, r, h1, h6, by rw [getD_at hk]; exact h7⟩
theorem Rows2.get {w : World} {v : Value} {ls : List (List Int)} (h : Rows2 w v ls) {k : Nat} (hk : k < ls.length) : ∃ b off n c r, v = .slice (some ⟨b, off, none⟩) n c ∧ w.cell? ⟨b, off + k, none⟩ = some r ∧ Ints w r (ls.getD k []) := by
  obtain ⟨a, cap, h1, h2, h3, h4⟩ := h
  obtain ⟨b, off, r, rfl, h6, h7⟩ := h4 k hk
  exact ⟨b, off, _, _, r, h1, h6, by rw [getD_at hk]; exact h7⟩

/-- A list whose cells lie outside the blocks from lo to hi. -/
def IntsX (lo hi : Nat) (w : World) (v : Value) (zs : List Int) : Prop :=
  ∃ a cap, v = .slice a zs.length cap ∧ zs.length ≤ cap ∧ zs.length ≤ 17592186044416 ∧ (∀ z ∈ zs, R64 z) ∧
    ∀ k (h : k < zs.length), ∃ b off, a = some ⟨b, off, none⟩ ∧ (b < lo ∨ hi ≤ b) ∧ w.cell? ⟨b, off + k, none⟩ = some (.int .i64 zs[k])
theorem IntsX.ints {lo hi : Nat} {w : World} {v : Value} {zs : List Int} (h : IntsX lo hi w v zs) : Ints w v zs := by
  obtain ⟨a, cap, h1, h2, h3, h4, h5⟩ := h
  exact ⟨a, cap, h1, h2, h3, h4, fun k hk => by obtain ⟨b, off, h6, -, h7⟩ := h5 k hk; exact ⟨b, off, h6, h7⟩⟩
theorem IntsX.below {lo hi : Nat} {w w' : World} {v : Value} {zs : List Int} (h : IntsX lo hi w v zs) (hb : Below w.heap.size w w') : IntsX lo hi w' v zs := by
  obtain ⟨a, cap, h1, h2, h3, h4, h5⟩ := h
  exact ⟨a, cap, h1, h2, h3, h4, fun k hk => by obtain ⟨b, off, h6, h7, h8⟩ := h5 k hk; exact ⟨b, off, h6, h7, below_cell hb h8⟩⟩
theorem IntsX.of {w w' : World} {v : Value} {zs : List Int} (h : Ints w v zs) (hb : Below w.heap.size w w') (hi : Nat) : IntsX w.heap.size hi w' v zs := by
  obtain ⟨a, cap, h1, h2, h3, h4, h5⟩ := h
  exact ⟨a, cap, h1, h2, h3, h4, fun k hk => by obtain ⟨b, off, h6, h7⟩ := h5 k hk; exact ⟨b, off, h6, .inl (lt_of_cell h7), below_cell hb h7⟩⟩
theorem IntsX.set {lo hi : Nat} {w : World} {v : Value} {zs : List Int} (h : IntsX lo hi w v zs) {b o : Nat} (h1 : lo ≤ b) (h2 : b < hi) (u : Value) : IntsX lo hi (w.setCell ⟨b, o, none⟩ u) v zs := by
  obtain ⟨a, cap, g1, g2, g3, g4, g5⟩ := h
  exact ⟨a, cap, g1, g2, g3, g4, fun k hk => by obtain ⟨b', off, h6, h7, h8⟩ := g5 k hk; exact ⟨b', off, h6, h7, by rw [setc_other (.inl (by omega))]; exact h8⟩⟩
theorem IntsX.own {lo hi base n : Nat} {w : World} {v : Value} {zs : List Int} (h : w.ownsRow base 3 1 v n (zs.map (Value.int .i64))) (hb : hi ≤ base) (hr : ∀ z ∈ zs, R64 z) (hl : zs.length ≤ 17592186044416) : IntsX lo hi w v zs := by
  obtain ⟨a, cap, g1, g2, g3, g4, g5⟩ := Ints.own h hr hl
  refine ⟨a, cap, g1, g2, g3, g4, fun k hk => ?_⟩
  obtain ⟨b, off, h6, h7⟩ := g5 k hk
  refine ⟨b, off, h6, .inr ?_, h7⟩
  have := (own_lt h b (by rw [g1, h6]; rfl)).1
  omega
/-- Shares whose cells lie outside the blocks from lo to hi. -/
def SharesX (lo hi : Nat) (w : World) (v : Value) (l : List (Int × Int)) : Prop :=
  ∃ a cap, v = .slice a l.length cap ∧ l.length ≤ cap ∧ l.length ≤ 17592186044416 ∧ (∀ p ∈ l, R64 p.1 ∧ R64 p.2) ∧
    ∀ k (h : k < l.length), ∃ b off, a = some ⟨b, off, none⟩ ∧ (b < lo ∨ hi ≤ b) ∧ w.cell? ⟨b, off + k * 2, none⟩ = some (.int .i64 l[k].1) ∧ w.cell? ⟨b, off + k * 2 + 1, none⟩ = some (.int .i64 l[k].2)
theorem SharesX.shares {lo hi : Nat} {w : World} {v : Value} {zs : List (Int × Int)} (h : SharesX lo hi w v zs) : Shares w v zs := by
  obtain ⟨a, cap, h1, h2, h3, h4, h5⟩ := h
  exact ⟨a, cap, h1, h2, h3, h4, fun k hk => by obtain ⟨b, off, h6, -, h7, h8⟩ := h5 k hk; exact ⟨b, off, h6, h7, h8⟩⟩
theorem SharesX.below {lo hi : Nat} {w w' : World} {v : Value} {zs : List (Int × Int)} (h : SharesX lo hi w v zs) (hb : Below w.heap.size w w') : SharesX lo hi w' v zs := by
  obtain ⟨a, cap, h1, h2, h3, h4, h5⟩ := h
  exact ⟨a, cap, h1, h2, h3, h4, fun k hk => by obtain ⟨b, off, h6, h7, h8, h9⟩ := h5 k hk; exact ⟨b, off, h6, h7, below_cell hb h8, below_cell hb h9⟩⟩
theorem SharesX.of {w w' : World} {v : Value} {zs : List (Int × Int)} (h : Shares w v zs) (hb : Below w.heap.size w w') (hi : Nat) : SharesX w.heap.size hi w' v zs := by
  obtain ⟨a, cap, h1, h2, h3, h4, h5⟩ := h
  exact ⟨a, cap, h1, h2, h3, h4, fun k hk => by obtain ⟨b, off, h6, h7, h8⟩ := h5 k hk; exact ⟨b, off, h6, .inl (lt_of_cell h7), below_cell hb h7, below_cell hb h8⟩⟩
theorem SharesX.set {lo hi : Nat} {w : World} {v : Value} {zs : List (Int × Int)} (h : SharesX lo hi w v zs) {b o : Nat} (h1 : lo ≤ b) (h2 : b < hi) (u : Value) : SharesX lo hi (w.setCell ⟨b, o, none⟩ u) v zs := by
  obtain ⟨a, cap, g1, g2, g3, g4, g5⟩ := h
  exact ⟨a, cap, g1, g2, g3, g4, fun k hk => by obtain ⟨b', off, h6, h7, h8, h9⟩ := g5 k hk; exact ⟨b', off, h6, h7, by rw [setc_other (.inl (by omega))]; exact h8, by rw [setc_other (.inl (by omega))]; exact h9⟩⟩
theorem SharesX.own {lo hi base n : Nat} {w : World} {v : Value} {l : List (Int × Int)} (h : w.ownsRow base 47 2 v n (l.flatMap shaC)) (hb : hi ≤ base) (hr : ∀ p ∈ l, R64 p.1 ∧ R64 p.2) (hl : l.length ≤ 1000000) : SharesX lo hi w v l := by
  obtain ⟨a, cap, g1, g2, g3, g4, g5⟩ := Shares.own h hr hl
  refine ⟨a, cap, g1, g2, g3, g4, fun k hk => ?_⟩
  obtain ⟨b, off, h6, h7, h8⟩ := g5 k hk
  refine ⟨b, off, h6, .inr ?_, h7, h8⟩
  have := (own_lt h b (by rw [g1, h6]; rfl)).1
  omega

/-- How Renew ends. -/
def RenPost (rows : List (List Int)) (owners : List Int) (ep : Int) (cs : List Int) (l : List (Int × Int)) (css : List (List Int)) (more : List (List (Int × Int))) (rv ov : Value) (w : World) (r : Ending) (w' : World) : Prop :=
  ∃ kv yv, r = .returned (.tuple #[kv, yv, .int .i64 (renE rows owners ep cs l css more)]) ∧
    (renE rows owners ep cs l css more = 0 → ∃ cv', kv = .agg #[.int .i64 (ep + 1), rv, ov, cv'] ∧ Ints w' cv' (renC cs css) ∧ Shares w' yv (renL l more)) ∧
    (renE rows owners ep cs l css more ≠ 0 → kv = .agg #[.int .i64 0, .slice none 0 0, .slice none 0 0, .slice none 0 0] ∧ yv = .slice none 0 0) ∧ Below w.heap.size w w'
theorem ren_off {rows : List (List Int)} {owners : List Int} {ep : Int} {cs : List Int} {l : List (Int × Int)} {css : List (List Int)} {more : List (List (Int × Int))} {rv ov : Value} {w w' : World} {e : Int} (h : renE rows owners ep cs l css more = e) (h0 : e ≠ 0) (hb : Below w.heap.size w w') :
    RenPost rows owners ep cs l css more rv ov w (.returned (.tuple #[.agg #[.int .i64 0, .slice none 0 0, .slice none 0 0, .slice none 0 0], .slice none 0 0, .int .i64 e])) w' :=
  ⟨_, _, by rw [h], fun h1 => absurd (h.symm.trans h1) h0, fun _ => ⟨rfl, rfl⟩, hb⟩

end Go.Proofs.YtnbkbnbmmkfckaaGreat
