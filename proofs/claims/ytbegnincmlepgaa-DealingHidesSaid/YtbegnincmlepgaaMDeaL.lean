/- Package dealing: the rows of shares, collected. Package dealing: the sum of shares. -/
import Derived.Test.YtbegnincmlepgaaMRange4
import Derived.Test.YtbegnincmlepgaaMSane
import Derived.Test.YtbegnincmlepgaaMLaI
import Derived.Deep.RegionHeld3
namespace Go.Proofs.Ytbegnincmlepgaa
open Go.RowKit FP

attribute [local go_sem] Oper.semAt_some

/-- The values of rows. -/
theorem rows_vals {w : World} {v : Value} {rows : List (List Int)} (h : Rows2 w v rows) : ∃ a cap, ∃ g : Nat → Value, v = .slice a rows.length cap ∧ (∀ j, ∃ x n c, g j = .slice x n c) ∧
    ∀ k (hk : k < rows.length), ∃ b off, a = some ⟨b, off, none⟩ ∧ w.cell? ⟨b, off + k, none⟩ = some (g k) ∧ Ints w (g k) rows[k] := by
  obtain ⟨a, cap, rfl, -, -, hk⟩ := h
  have hex : ∀ k : Nat, ∃ r : Value, (∃ x n c, r = .slice x n c) ∧ ∀ hk : k < rows.length, ∃ b off, a = some ⟨b, off, none⟩ ∧ w.cell? ⟨b, off + k, none⟩ = some r ∧ Ints w r rows[k] := fun k => by
    by_cases hlt : k < rows.length
    · obtain ⟨b, off, r, h1, h2, h3⟩ := hk k hlt
      obtain ⟨x, c, e, -⟩ := id h3
      exact ⟨r, ⟨x, _, c, e⟩, fun _ => ⟨b, off, h1, h2, h3⟩⟩
    · exact ⟨.slice none 0 0, ⟨_, _, _, rfl⟩, fun h => absurd h hlt⟩
  exact ⟨a, cap, fun k => Classical.choose (hex k), rfl, fun j => (Classical.choose_spec (hex j)).1, fun k hlt => (Classical.choose_spec (hex k)).2 hlt⟩

/-- Rows that lie in a row of the call's own. -/
theorem Rows2.own {w : World} {base n : Nat} {v : Value} {vals : List Value} {rows : List (List Int)} (h : w.ownsRow base 23 1 v n vals) (hl : vals.length = rows.length) (hm : rows.length ≤ 17592186044416) (hk : ∀ k (h1 : k < rows.length) (h2 : k < vals.length), Ints w vals[k] rows[k]) : Rows2 w v rows := by
  obtain ⟨hn, h⟩ := h
  rw [hl, Nat.mul_one] at hn
  rcases h with ⟨rfl, h0⟩ | ⟨g, cap, cur, rfl, -, hg, hnc, -, hcs, hcur⟩
  · have : rows = [] := List.length_eq_zero_iff.1 (by omega)
    subst this
    exact Rows2.nil _ _ _
  · subst hn
    refine ⟨some ⟨g, 0, none⟩, cap, rfl, hnc, hm, fun k hlt => ⟨g, 0, vals[k]'(by omega), rfl, ?_, hk k hlt (by omega)⟩⟩
    rw [Nat.zero_add]
    have e : cur.toList[k]? = some (vals[k]'(by omega)) := by
      have e2 : (cur.toList.take (rows.length * 1))[k]? = some (vals[k]'(by omega)) := by rw [hcur, List.getElem?_eq_getElem (by omega)]
      rwa [List.getElem?_take, if_pos (by omega)] at e2
    exact row_cell hg (by rw [← Array.getElem?_toList]; exact e)

/-- The rows of shares. -/
def rowsOf (rows : List (List Int)) (l : List (Int × Int)) : List (List Int) := l.map fun p => rows.getD p.1.toNat []

set_option maxRecDepth 100000 in
set_option maxHeartbeats 2000000 in
theorem rows1_iterates (lb pb : Nat) (lv rv : Value) (l : List (Int × Int)) (rows : List (List Int)) (w : World) (a : Option Addr) (cap : Nat) (g : Nat → Value) (hrv : rv = .slice a rows.length cap)
    (hg : ∀ k, k < rows.length → ∃ b off, a = some ⟨b, off, none⟩ ∧ w.cell? ⟨b, off + k, none⟩ = some (g k)) (hL : Shares w lv l) (hin : ∀ p ∈ l, 0 ≤ p.1 ∧ p.1 < (rows.length : Int))
    (hlb : w.cell? ⟨lb, 0, none⟩ = some lv) (hpb : w.cell? ⟨pb, 0, none⟩ = some rv) (I : Nat → World → Prop) (hI : ∀ j W, I j W → Below w.heap.size w W) :
    Iterates4 Try.prog 99 #[.pointer (some ⟨lb, 0, none⟩), .pointer (some ⟨pb, 0, none⟩)] l.length (fun j => #[g (l.getD j (0, 0)).1.toNat]) I := by
  subst hrv
  intro ll J Jx W hJ hA hY h0
  obtain ⟨al, cl, rfl, -, hll, hr64, hk⟩ := hL
  refine callsIn_of_wp Try.func99 rfl trivial ?_ rfl
  simp only [Try.ntmps99, List.size_toArray, List.length_cons, List.length_nil, Nat.reduceAdd, Nat.reduceSub, Array.replicate_succ, Array.replicate_zero, List.push_toArray, List.append_toArray, List.nil_append, List.cons_append]
  have hb0 := hI 0 W (hJ 0 W h0)
  have c0 := below_cell hb0 hlb
  gi_wp2
  gi_loopw [8] (fun i wr => ∃ j : Nat, j ≤ l.length ∧ i = .int .i64 j ∧ J j wr) (fun i _ => l.length - (intOf i).toNat)
  case atStart => exact ⟨0, Nat.zero_le _, rfl, h0⟩
  case round =>
    obtain ⟨j, hj, rfl, hJj⟩ := hrel
    have hb := hI j wr (hJ j wr hJj)
    by_cases hlt : j < l.length
    · obtain ⟨b, off, rfl, q0, q1⟩ := hk j hlt
      obtain ⟨i0, i1⟩ := hin _ (List.getElem_mem hlt)
      obtain ⟨n, hn⟩ : ∃ n : Nat, l[j].1 = n := ⟨l[j].1.toNat, by omega⟩
      have hnl : n < rows.length := by omega
      obtain ⟨b2, off2, rfl, q2⟩ := hg n hnl
      have hgn : g (l.getD j (0, 0)).1.toNat = g n := by rw [getD_at hlt, hn, Int.toNat_natCast]
      have y0 := below_cell hb q0
      have y1 := below_cell hb q1
      rw [hn] at y0
      have hbn := below_new wr #[.int .i64 n, .int .i64 l[j].2] 37
      have z2 := below_cell hbn (below_cell hb q2)
      have zp := below_cell hbn (below_cell hb hpb)
      have zs : (wr.alloc (.cells #[.int .i64 n, .int .i64 l[j].2] 37)).cell? ⟨wr.heap.size, 0, none⟩ = some (.int .i64 n) := row_cell (World.alloc_heap_new _ _) rfl
      have j0 : 0 ≤ (j : Int) := by omega
      have j1 : (j : Int) < (l.length : Int) := by omega
      have n0 : 0 ≤ (n : Int) := by omega
      have n1 : (n : Int) < (rows.length : Int) := by omega
      obtain ⟨fn, tmps, assign, body, hy, hR⟩ := hY j _ (hA j wr _ hJj (below_new wr #[.int .i64 n, .int .i64 l[j].2] 37)) hlt
      simp only [hgn] at hy
      clear hk hg hin q0 q1 q2 hn i0 i1 hbn hr64 hgn
      generalize l[j].2 = v2 at *
      generalize g n = gv at *
      gi_wp2
      refine ⟨rfl, hR.mono ?_⟩
      rintro e W3 (⟨rfl, hJ3⟩ | ⟨rfl, hJx3⟩)
      · gi_wp2
        go_roundw
        case rel => exact ⟨j + 1, by omega, by go_num, hJ3⟩
        case measure => simp [intOf]; omega
      · gi_wp2
        refine bodyPost_ret (results_none rfl _ _ _) rfl ?_
        exact ⟨⟨_, rfl⟩, .inr ⟨j + 1, by omega, hJx3⟩⟩
    · obtain rfl : j = l.length := by omega
      gi_wp2
      go_end0
      exact ⟨⟨_, rfl⟩, .inl hJj⟩

set_option maxRecDepth 100000 in
set_option maxHeartbeats 1000000 in
theorem drows_any (rv ov lv : Value) (w : World) (hr : ∃ a n c, rv = .slice a n c) (ho : ∃ a n c, ov = .slice a n c) (hl : ∃ a n c, lv = .slice a n c) :
    Calls Try.prog 58 #[.agg #[rv, ov], lv] w fun e w' =>
      e = .returned (.func (.func 99) #[] #[.pointer (some ⟨w.heap.size + 1, 0, none⟩), .pointer (some ⟨w.heap.size, 0, none⟩)]) ∧ w' = (w.alloc (.cells #[rv, ov] 25)).alloc (.cells #[lv] 32) := by
  obtain ⟨a, n, c, rfl⟩ := hr
  obtain ⟨a2, n2, c2, rfl⟩ := ho
  obtain ⟨a3, n3, c3, rfl⟩ := hl
  have hmf : ∀ (fn : Fn) (first cap : Array Value) (w : World), (Instr.makeFunc fn first cap).run Try.prog w = .ok (.func fn first cap) w := fun _ _ _ _ => rfl
  go_enter Try.func58, Try.ntmps58
  go_wp2_with fail
  go_ret
  exact ⟨rfl, rfl⟩

set_option maxRecDepth 100000 in
set_option maxHeartbeats 1000000 in
theorem collect_any (gf : FuncId) (lb : Array Value) (N : Nat) (g : Nat → Value) (w : World) (hgo : Goes Try.prog gf) (hg : ∀ j, ∃ a n c, g j = .slice a n c) (hN : N ≤ 1000000)
    (hseq : ∀ I : Nat → World → Prop, (∀ j W, I j W → Below w.heap.size w W) → Iterates4 Try.prog gf lb N (fun j => #[g j]) I) :
    Calls Try.prog 57 #[.func (.func gf) #[] lb] w fun e w' => ∃ v, e = .returned v ∧ w'.ownsRow w.heap.size 23 1 v N ((List.range N).map g) ∧ Below w.heap.size w w' := by
  have HC := Lib.hid (appendSeq_any gf lb N g w hgo hg hN hseq)
  clear hseq
  go_enter Try.func57, Try.ntmps57
  go_wp2_with fail
  refine HC.out.mono ?_
  rintro e w1 ⟨v, rfl, h1, h2⟩
  have H1 := Lib.hid h1
  clear h1
  go_wp2_with fail
  go_ret
  exact ⟨_, rfl, H1.out, h2⟩
set_option maxRecDepth 100000 in
theorem rows1_goes : Goes Try.prog 99 := goes_of Try.func99 (by kernel_rfl) rfl

set_option maxRecDepth 100000 in
/-- The rows of shares, collected: behind dealing.rows. -/
theorem crows_any (rv ov lv : Value) (rows : List (List Int)) (l : List (Int × Int)) (w W : World) (hW : W = (w.alloc (.cells #[rv, ov] 25)).alloc (.cells #[lv] 32)) (hR : Rows2 w rv rows) (hL : Shares w lv l) (hin : ∀ p ∈ l, 0 ≤ p.1 ∧ p.1 < (rows.length : Int)) (hl : l.length ≤ 1000000) :
    Calls Try.prog 57 #[.func (.func 99) #[] #[.pointer (some ⟨w.heap.size + 1, 0, none⟩), .pointer (some ⟨w.heap.size, 0, none⟩)]] W fun e w' => ∃ v, e = .returned v ∧ Rows2 w' v (rowsOf rows l) ∧ Below W.heap.size W w' := by
  have hb1 := below_new w #[rv, ov] 25
  have hb2 := below_new (w.alloc (.cells #[rv, ov] 25)) #[lv] 32
  have hsz : (w.alloc (.cells #[rv, ov] 25)).heap.size = w.heap.size + 1 := by simp
  have hb := hb1.trans (hb2.mono hb1.size)
  have hpb : W.cell? ⟨w.heap.size, 0, none⟩ = some rv := by rw [hW]; exact below_cell hb2 (row_cell (World.alloc_heap_new w _) rfl)
  have hlb : W.cell? ⟨w.heap.size + 1, 0, none⟩ = some lv := by
    have := World.alloc_heap_new (w.alloc (.cells #[rv, ov] 25)) (.cells #[lv] 32)
    rw [hsz] at this; rw [hW]; exact row_cell this rfl
  rw [← hW] at hb
  have hRW := hR.below hb
  have hLW := hL.below hb
  obtain ⟨a, cap, g, hrv, hgs, hgk⟩ := rows_vals hRW
  refine (collect_any 99 _ l.length (fun j => g (l.getD j (0, 0)).1.toNat) W rows1_goes (fun j => hgs _) hl
    (fun I hI => rows1_iterates (w.heap.size + 1) w.heap.size lv rv l rows W a cap g hrv (fun k hk => by obtain ⟨b, off, h1, h2, -⟩ := hgk k hk; exact ⟨b, off, h1, h2⟩) hLW hin hlb hpb I hI)).mono ?_
  rintro e w' ⟨v, rfl, ho, hb'⟩
  refine ⟨v, rfl, Rows2.own ho (by simp [rowsOf]) (by simp [rowsOf]; omega) ?_, hb'⟩
  intro k h1 h2
  have hk : k < l.length := by simpa [rowsOf] using h1
  obtain ⟨i0, i1⟩ := hin _ (List.getElem_mem hk)
  have hkr : l[k].1.toNat < rows.length := by omega
  obtain ⟨b, off, -, -, h3⟩ := hgk _ hkr
  have e1 : ((List.range l.length).map (fun j => g (l.getD j (0, 0)).1.toNat))[k] = g l[k].1.toNat := by
    rw [List.getElem_map, List.getElem_range, getD_at hk]
  have e2 : (rowsOf rows l)[k] = rows[l[k].1.toNat] := by
    simp only [rowsOf, List.getElem_map]; exact getD_at hkr []
  rw [e1, e2]
  exact h3.below hb'

end Go.Proofs.Ytbegnincmlepgaa

namespace Go.Proofs.Ytbegnincmlepgaa
open Go.RowKit FP

set_option maxRecDepth 100000 in
set_option maxHeartbeats 2000000 in
theorem rec1_any (i : Nat) (r v : Int) (yb : Nat) (u : Value) (y : List Int) (w : World) (hc : w.cell? ⟨yb, 0, none⟩ = some u) (hJ : Ints w u y) (hi : i < y.length) (hv : R64 v) :
    Calls Try.prog 60 #[.int .i64 i, .agg #[.int .i64 r, .int .i64 v], .pointer (some ⟨yb, 0, none⟩)] w fun e w' => e = .returned (.int .i64 (nth y i * v % 1073741789)) ∧ Below w.heap.size w w' := by
  have hb := below_new w #[.int .i64 r, .int .i64 v] 37
  have s1 : (w.alloc (.cells #[.int .i64 r, .int .i64 v] 37)).cell? ⟨w.heap.size, 1, none⟩ = some (.int .i64 v) := row_cell (World.alloc_heap_new _ _) rfl
  obtain ⟨hr, b0, off, nn, c, e1, hcell⟩ := (hJ.below hb).get hi
  obtain ⟨a', c', e', -, hlen, -⟩ := id hJ
  rw [e'] at e1 hc
  simp only [Value.slice.injEq] at e1
  obtain ⟨e1, -, -⟩ := e1
  subst e1
  have c0 := below_cell hb hc
  have i0 : 0 ≤ (i : Int) := by omega
  have i1 : (i : Int) < (y.length : Int) := by omega
  have HB := Lib.hid hb
  clear hJ hc e' hb
  generalize nth y i = z at *
  generalize y.length = n at *
  obtain ⟨W1, hW1⟩ : ∃ W1, W1 = w.alloc (.cells #[.int .i64 r, .int .i64 v] 37) := ⟨_, rfl⟩
  rw [← hW1] at HB s1 hcell c0
  have HW1 := Lib.hid hW1
  clear hW1
  go_enter Try.func60, Try.ntmps60
  go_wp2_with fail
  rw [← HW1.out]
  go_region_held3 (fun w' => w'.cell? ⟨yb, 0, none⟩ = some (.slice (some ⟨b0, off, none⟩) n c') ∧ w'.cell? ⟨b0, off + i, none⟩ = some (.int .i64 z) ∧ w'.cell? ⟨w.heap.size, 1, none⟩ = some (.int .i64 v)) (go_keep)
    (first
      | (go_at_call 43; (with_reducible refine (mul_any z v _ hr hv).mono ?_); rintro e w2 ⟨rfl, rfl⟩))
  go_wp2_with fail
  go_ret
  exact ⟨rfl, HB.out.drew⟩
set_option maxRecDepth 100000 in
theorem rec1_goes : Goes Try.prog 60 := goes_of Try.func60 (by kernel_rfl) rfl

/-- The numbers of shares. -/
def valsOf (l : List (Int × Int)) : List Int := l.map Prod.snd
theorem nth_vals {l : List (Int × Int)} {k : Nat} (hk : k < l.length) : nth (valsOf l) k = l[k].2 := by
  unfold nth valsOf; rw [List.getElem?_map, List.getElem?_eq_getElem hk]; rfl

set_option maxRecDepth 100000 in
set_option maxHeartbeats 4000000 in
theorem ssum_any (v u : Value) (l : List (Int × Int)) (y : List Int) (yb : Nat) (w : World) (hL : Shares w v l) (hJ : Ints w u y) (hl : y.length = l.length) (hc : w.cell? ⟨yb, 0, none⟩ = some u) :
    Calls Try.prog 59 #[v, .func (.func 60) #[] #[.pointer (some ⟨yb, 0, none⟩)]] w fun e w' => e = .returned (.int .i64 (prodQ y (valsOf l))) ∧ Below w.heap.size w w' := by
  obtain ⟨al, cl, rfl, -, hll, hr64, hk⟩ := hL
  have HK := Lib.hid hk
  have HR := Lib.hid hr64
  have HY := Lib.hid hl
  have HT := Lib.hid (fun k (hk : k < y.length) (r v : Int) (hv : R64 v) W (hb : Below w.heap.size w W) => rec1_any k r v yb u y W (below_cell hb hc) (hJ.below hb) hk hv)
  have hE' : ∀ (args : Array Value) (w : World), (callFunc 60 args).run Try.prog w = .ok (.enter 60 args) w := rec1_goes
  clear hJ hc hk hr64 hl
  go_enter Try.func59, Try.ntmps59
  go_wp2_with fail
  go_loopw [4, 9] (fun s i W => ∃ k : Nat, k ≤ l.length ∧ i = .int .i64 k ∧ s = .int .i64 (prodF y (valsOf l) k) ∧ Below w.heap.size w W) (fun _ i _ => l.length - (intOf i).toNat)
  case atStart => exact ⟨0, Nat.zero_le _, rfl, rfl, Below.refl _ _⟩
  case round =>
    obtain ⟨k, hkl, rfl, rfl, hb⟩ := hrel
    have HP := Lib.hid (prodF_num y (valsOf l) k)
    by_cases hlt : k < l.length
    · obtain ⟨b, off, e1, q0, q1⟩ := HK.out k hlt
      subst e1
      have y0 := below_cell hb q0
      have y1 := below_cell hb q1
      have hv64 := (HR.out _ (List.getElem_mem hlt)).2
      have hbn := hb.alloc hb.size (.cells #[.int .i64 l[k].1, .int .i64 l[k].2] 37)
      have HT2 := Lib.hid (HT.out k (by have := HY.out; omega) l[k].1 l[k].2 hv64 _ hbn)
      have HS := Lib.hid (show prodF y (valsOf l) (k + 1) = (prodF y (valsOf l) k + nth y k * l[k].2 % 1073741789) % 1073741789 by rw [← nth_vals hlt]; rfl)
      have z0 : (wr.alloc (.cells #[.int .i64 l[k].1, .int .i64 l[k].2] 37)).cell? ⟨wr.heap.size, 0, none⟩ = some (.int .i64 l[k].1) := row_cell (World.alloc_heap_new _ _) rfl
      have z1 : (wr.alloc (.cells #[.int .i64 l[k].1, .int .i64 l[k].2] 37)).cell? ⟨wr.heap.size, 1, none⟩ = some (.int .i64 l[k].2) := row_cell (World.alloc_heap_new _ _) rfl
      have HBN := Lib.hid hbn
      have hp64 : R64 (prodF y (valsOf l) k) := num_r64 HP.out
      have hm64 := mod_r64 (nth y k * l[k].2)
      clear q0 q1 hbn hb
      generalize nth y k * l[k].2 % 1073741789 = z at *
      generalize l[k].1 = r1 at *
      generalize l[k].2 = v1 at *
      go_wp2_with fail
      refine HT2.out.mono ?_
      rintro e w3 ⟨rfl, hb3⟩
      have hb4 := HBN.out.trans (hb3.mono HBN.out.size)
      go_wp2_with fail
      with_reducible refine (add_any _ z _ hp64 hm64).mono ?_
      rintro e w4 ⟨rfl, hb5⟩
      go_wp2_with fail
      go_roundw
      case rel => exact ⟨k + 1, by omega, by go_num, by rw [HS.out], hb4.trans (hb5.mono hb4.size)⟩
      case measure => simp [intOf]; omega
    · have HV := Lib.hid (show prodF y (valsOf l) k = prodQ y (valsOf l) by unfold prodQ; rw [HY.out, show k = l.length by omega])
      go_wp2_with fail
      go_ret
      exact ⟨ret_int HV.out, hb⟩

/-- Are shares right, and in order, behind a row? -/
def sharesB (rows : List (List Int)) (last : Int) : List (Int × Int) → Bool
  | [] => true
  | p :: l => rightS rows p.1 p.2 && (decide (last < p.1) && sharesB rows p.1 l)
/-- The last row. -/
def lastR (last : Int) (l : List (Int × Int)) : Int := (l.getLast?.map Prod.fst).getD last
theorem sharesB_snoc {rows : List (List Int)} {p : Int × Int} : ∀ {l : List (Int × Int)} {last : Int}, sharesB rows last (l ++ [p]) = (sharesB rows last l && (rightS rows p.1 p.2 && decide (lastR last l < p.1)))
  | [], last => by
    simp [sharesB, lastR]
    rfl
  | q :: l, last => by
    rw [List.cons_append, sharesB, sharesB_snoc, sharesB]
    have : lastR q.1 l = lastR last (q :: l) := by
      unfold lastR
      cases l with
      | nil => rfl
      | cons a t => rw [List.getLast?_cons_cons]; simp [List.getLast?_cons]
    rw [this]
    cases rightS rows q.1 q.2 <;> cases decide (last < q.1) <;> simp
theorem lastR_snoc (last : Int) (l : List (Int × Int)) (p : Int × Int) : lastR last (l ++ [p]) = p.1 := by unfold lastR; simp
theorem sharesB_take {rows : List (List Int)} {l : List (Int × Int)} {last : Int} {k : Nat} (hk : k < l.length) : sharesB rows last (l.take (k + 1)) = (sharesB rows last (l.take k) && (rightS rows l[k].1 l[k].2 && decide (lastR last (l.take k) < l[k].1))) := by
  rw [List.take_succ_eq_append_getElem hk, sharesB_snoc]
theorem lastR_take {l : List (Int × Int)} {last : Int} {k : Nat} (hk : k < l.length) : lastR last (l.take (k + 1)) = l[k].1 := by
  rw [List.take_succ_eq_append_getElem hk, lastR_snoc]
theorem sharesB_front {rows : List (List Int)} : ∀ {l : List (Int × Int)} {last : Int}, sharesB rows last l = true → ∀ k, sharesB rows last (l.take k) = true
  | [], _, _, k => by rw [List.take_nil]; rfl
  | p :: l, last, h, 0 => rfl
  | p :: l, last, h, k + 1 => by
    rw [List.take_succ_cons]
    unfold sharesB at h ⊢
    simp only [Bool.and_eq_true] at h ⊢
    exact ⟨h.1, h.2.1, sharesB_front h.2.2 k⟩
theorem sharesB_bad {rows : List (List Int)} {l : List (Int × Int)} {last : Int} {k : Nat} (h : sharesB rows last (l.take (k + 1)) = false) : sharesB rows last l = false := by
  cases e : sharesB rows last l with
  | false => rfl
  | true => rw [sharesB_front e] at h; cases h
theorem sharesB_all {rows : List (List Int)} : ∀ {l : List (Int × Int)} {last : Int}, sharesB rows last l = true → (∀ p ∈ l, rightS rows p.1 p.2 = true) ∧ (l ≠ [] → last + l.length < (rows.length : Int))
  | [], _, _ => ⟨by simp, fun h => absurd rfl h⟩
  | p :: l, last, h => by
    unfold sharesB at h
    simp only [Bool.and_eq_true, decide_eq_true_eq] at h
    obtain ⟨h1, h2, h3⟩ := h
    obtain ⟨i1, i2⟩ := sharesB_all h3
    refine ⟨fun q hq => ?_, fun _ => ?_⟩
    · rcases List.mem_cons.1 hq with rfl | hq
      · exact h1
      · exact i1 q hq
    · have h4 := (rightS_iff.1 h1).1
      by_cases hl : l = []
      · subst hl; simp; omega
      · have := i2 hl; rw [List.length_cons]; omega
theorem sharesB_len {rows : List (List Int)} {l : List (Int × Int)} (h : sharesB rows (-1) l = true) : l.length ≤ rows.length := by
  by_cases hl : l = []
  · subst hl; simp
  · have := (sharesB_all h).2 hl; omega

end Go.Proofs.Ytbegnincmlepgaa
