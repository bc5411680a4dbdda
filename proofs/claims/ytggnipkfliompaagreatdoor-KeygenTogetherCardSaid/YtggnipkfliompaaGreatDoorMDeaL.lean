/- Package dealing: the rows of shares, collected. Linear algebra over the field: kernels, spans, ranks. Ranks: how many columns do not lead a vector of a kernel. The reference of package linear: Turned. The reference of package linear: Rank and Separate. The reference of package linear: Separate. The reductions of the program and of the reference, in the field. The reference of package linear: Combine. The reference of package linear: Combine, where there are no columns. The program and the reference compute the same. -/
import Derived.Test.YtggnipkfliompaaGreatDoorMDeaJ
import Derived.Test.YtggnipkfliompaaGreatDoorMFq
import Derived.Test.YtggnipkfliompaaGreatDoorMLinP
import Derived.Deep.RegionLaw
import Derived.Deep.AppendLies
set_option maxHeartbeats 2000000
set_option maxRecDepth 100000
namespace Go.Proofs.YtggnipkfliompaaGreatDoor
open Go.RowKit FP
attribute [local go_sem] Oper.semAt_some
theorem rows_vals {w : World} {v : Value} {rows : List (List Int)} (h : Rows2 w v rows) : ∃ a cap, ∃ g : Nat → Value, v = .slice a rows.length cap ∧ (∀ j, ∃ x n c, g j = .slice x n c) ∧
  ∀ k (hk : k < rows.length), ∃ b off, a = some ⟨b, off, none⟩ ∧ w.cell? ⟨b, off + k, none⟩ = some (g k) ∧ Ints w (g k) rows[k] := by
 obtain ⟨a, cap, rfl, -, -, hk⟩ := h
 have hex : ∀ k : Nat, ∃ r : Value, (∃ x n c, r = .slice x n c) ∧ ∀ hk : k < rows.length, ∃ b off, a = some ⟨b, off, none⟩ ∧ w.cell? ⟨b, off + k, none⟩ = some r ∧ Ints w r rows[k] := fun k => by
  by_cases hlt : k < rows.length
  ·obtain ⟨b, off, r, h1, h2, h3⟩ := hk k hlt
   obtain ⟨x, c, e, -⟩ := id h3
   exact ⟨r, ⟨x, _, c, e⟩, fun _ => ⟨b, off, h1, h2, h3⟩⟩
  ·exact ⟨.slice none 0 0, ⟨_, _, _, rfl⟩, fun h => absurd h hlt⟩
 exact ⟨a, cap, fun k => Classical.choose (hex k), rfl, fun j => (Classical.choose_spec (hex j)).1, fun k hlt => (Classical.choose_spec (hex k)).2 hlt⟩
theorem Rows2.own {w : World} {base n : Nat} {v : Value} {vals : List Value} {rows : List (List Int)} (h : w.ownsRow base 23 1 v n vals) (hl : vals.length = rows.length) (hm : rows.length ≤ 17592186044416) (hk : ∀ k (h1 : k < rows.length) (h2 : k < vals.length), Ints w vals[k] rows[k]) : Rows2 w v rows := by
 obtain ⟨hn, h⟩ := h
 rw [hl, Nat.mul_one] at hn
 rcases h with ⟨rfl, h0⟩ | ⟨g, cap, cur, rfl, -, hg, hnc, -, hcs, hcur⟩
 ·have : rows = [] := List.length_eq_zero_iff.1 (by omega)
  subst this
  exact Rows2.nil _ _ _
 ·subst hn
  refine ⟨some ⟨g, 0, none⟩, cap, rfl, hnc, hm, fun k hlt => ⟨g, 0, vals[k]'(by omega), rfl, ?_, hk k hlt (by omega)⟩⟩
  rw [Nat.zero_add]
  have e : cur.toList[k]? = some (vals[k]'(by omega)) := by
   have e2 : (cur.toList.take (rows.length * 1))[k]? = some (vals[k]'(by omega)) := by rw [hcur, List.getElem?_eq_getElem (by omega)]
   rwa [List.getElem?_take, if_pos (by omega)] at e2
  exact row_cell hg (by rw [← Array.getElem?_toList]; exact e)
def rowsOf (rows : List (List Int)) (l : List (Int × Int)) : List (List Int) := l.map fun p => rows.getD p.1.toNat []
theorem rows1_iterates (lb pb : Nat) (lv rv : Value) (l : List (Int × Int)) (rows : List (List Int)) (w : World) (a : Option Addr) (cap : Nat) (g : Nat → Value) (hrv : rv = .slice a rows.length cap)
  (hg : ∀ k, k < rows.length → ∃ b off, a = some ⟨b, off, none⟩ ∧ w.cell? ⟨b, off + k, none⟩ = some (g k)) (hL : Shares w lv l) (hin : ∀ p ∈ l, 0 ≤ p.1 ∧ p.1 < (rows.length : Int))
  (hlb : w.cell? ⟨lb, 0, none⟩ = some lv) (hpb : w.cell? ⟨pb, 0, none⟩ = some rv) (I : Nat → World → Prop) (hI : ∀ j W, I j W → Below w.heap.size w W) :
  Iterates4 Tryz.prog 183 #[.pointer (some ⟨lb, 0, none⟩), .pointer (some ⟨pb, 0, none⟩)] l.length (fun j => #[g (l.getD j (0, 0)).1.toNat]) I := by
 subst hrv
 intro ll J Jx W hJ hA hY h0
 obtain ⟨al, cl, rfl, -, hll, hr64, hk⟩ := hL
 refine callsIn_of_wp Tryz.func183 rfl trivial ?_ rfl
 simp only [Tryz.ntmps183, List.size_toArray, List.length_cons, List.length_nil, Nat.reduceAdd, Nat.reduceSub, Array.replicate_succ, Array.replicate_zero, List.push_toArray, List.append_toArray, List.nil_append, List.cons_append]
 have hb0 := hI 0 W (hJ 0 W h0)
 have c0 := below_cell hb0 hlb
 gi_wp2
 gi_loopw [8] (fun i wr => ∃ j : Nat, j ≤ l.length ∧ i = .int .i64 j ∧ J j wr) (fun i _ => l.length - (intOf i).toNat)
 case atStart => exact ⟨0, Nat.zero_le _, rfl, h0⟩
 case round =>
  obtain ⟨j, hj, rfl, hJj⟩ := hrel
  have hb := hI j wr (hJ j wr hJj)
  by_cases hlt : j < l.length
  ·obtain ⟨b, off, rfl, q0, q1⟩ := hk j hlt
   obtain ⟨i0, i1⟩ := hin _ (List.getElem_mem hlt)
   obtain ⟨n, hn⟩ : ∃ n : Nat, l[j].1 = n := ⟨l[j].1.toNat, by omega⟩
   have hnl : n < rows.length := by omega
   obtain ⟨b2, off2, rfl, q2⟩ := hg n hnl
   have hgn : g (l.getD j (0, 0)).1.toNat = g n := by rw [getD_at hlt, hn, Int.toNat_natCast]
   have y0 := below_cell hb q0
   have y1 := below_cell hb q1
   rw [hn] at y0
   have hbn := below_new wr #[.int .i64 n, .int .i64 l[j].2] 68
   have z2 := below_cell hbn (below_cell hb q2)
   have zp := below_cell hbn (below_cell hb hpb)
   have zs : (wr.alloc (.cells #[.int .i64 n, .int .i64 l[j].2] 68)).cell? ⟨wr.heap.size, 0, none⟩ = some (.int .i64 n) := row_cell (World.alloc_heap_new _ _) rfl
   have j0 : 0 ≤ (j : Int) := by omega
   have j1 : (j : Int) < (l.length : Int) := by omega
   have n0 : 0 ≤ (n : Int) := by omega
   have n1 : (n : Int) < (rows.length : Int) := by omega
   obtain ⟨fn, tmps, assign, body, hy, hR⟩ := hY j _ (hA j wr _ hJj (below_new wr #[.int .i64 n, .int .i64 l[j].2] 68)) hlt
   simp only [hgn] at hy
   clear hk hg hin q0 q1 q2 hn i0 i1 hbn hr64 hgn
   generalize l[j].2 = v2 at *
   generalize g n = gv at *
   gi_wp2
   refine ⟨rfl, hR.mono ?_⟩
   rintro e W3 (⟨rfl, hJ3⟩ | ⟨rfl, hJx3⟩)
   ·gi_wp2
    go_roundw
    case rel => exact ⟨j + 1, by omega, by go_num, hJ3⟩
    case measure => simp [intOf]; omega
   ·gi_wp2
    refine bodyPost_ret (results_none rfl _ _ _) rfl ?_
    exact ⟨⟨_, rfl⟩, .inr ⟨j + 1, by omega, hJx3⟩⟩
  ·obtain rfl : j = l.length := by omega
   gi_wp2
   go_end0
   exact ⟨⟨_, rfl⟩, .inl hJj⟩
theorem drows_any (rv ov lv : Value) (w : World) (hr : ∃ a n c, rv = .slice a n c) (ho : ∃ a n c, ov = .slice a n c) (hl : ∃ a n c, lv = .slice a n c) :
  Calls Tryz.prog 120 #[.agg #[rv, ov], lv] w fun e w' =>
   e = .returned (.func (.func 183) #[] #[.pointer (some ⟨w.heap.size + 1, 0, none⟩), .pointer (some ⟨w.heap.size, 0, none⟩)]) ∧ w' = (w.alloc (.cells #[rv, ov] 25)).alloc (.cells #[lv] 87) := by
 obtain ⟨a, n, c, rfl⟩ := hr
 obtain ⟨a2, n2, c2, rfl⟩ := ho
 obtain ⟨a3, n3, c3, rfl⟩ := hl
 have hmf : ∀ (fn : Fn) (first cap : Array Value) (w : World), (Instr.makeFunc fn first cap).run Tryz.prog w = .ok (.func fn first cap) w := fun _ _ _ _ => rfl
 go_enter Tryz.func120, Tryz.ntmps120
 go_wp2_with fail
 go_ret
 exact ⟨rfl, rfl⟩
theorem collect_any (gf : FuncId) (lb : Array Value) (N : Nat) (g : Nat → Value) (w : World) (hgo : Goes Tryz.prog gf) (hg : ∀ j, ∃ a n c, g j = .slice a n c) (hN : N ≤ 1000000)
  (hseq : ∀ I : Nat → World → Prop, (∀ j W, I j W → Below w.heap.size w W) → Iterates4 Tryz.prog gf lb N (fun j => #[g j]) I) :
  Calls Tryz.prog 119 #[.func (.func gf) #[] lb] w fun e w' => ∃ v, e = .returned v ∧ w'.ownsRow w.heap.size 23 1 v N ((List.range N).map g) ∧ Below w.heap.size w w' := by
 have HC := Lib.hid (appendSeq_any gf lb N g w hgo hg hN hseq)
 clear hseq
 go_enter Tryz.func119, Tryz.ntmps119
 go_wp2_with fail
 refine HC.out.mono ?_
 rintro e w1 ⟨v, rfl, h1, h2⟩
 have H1 := Lib.hid h1
 clear h1
 go_wp2_with fail
 go_ret
 exact ⟨_, rfl, H1.out, h2⟩
theorem rows1_goes : Goes Tryz.prog 183 := goes_of Tryz.func183 (by kernel_rfl) rfl
theorem crows_any (rv ov lv : Value) (rows : List (List Int)) (l : List (Int × Int)) (w W : World) (hW : W = (w.alloc (.cells #[rv, ov] 25)).alloc (.cells #[lv] 87)) (hR : Rows2 w rv rows) (hL : Shares w lv l) (hin : ∀ p ∈ l, 0 ≤ p.1 ∧ p.1 < (rows.length : Int)) (hl : l.length ≤ 1000000) :
  Calls Tryz.prog 119 #[.func (.func 183) #[] #[.pointer (some ⟨w.heap.size + 1, 0, none⟩), .pointer (some ⟨w.heap.size, 0, none⟩)]] W fun e w' => ∃ v, e = .returned v ∧ Rows2 w' v (rowsOf rows l) ∧ Below W.heap.size W w' := by
 have hb1 := below_new w #[rv, ov] 25
 have hb2 := below_new (w.alloc (.cells #[rv, ov] 25)) #[lv] 87
 have hsz : (w.alloc (.cells #[rv, ov] 25)).heap.size = w.heap.size + 1 := by simp
 have hb := hb1.trans (hb2.mono hb1.size)
 have hpb : W.cell? ⟨w.heap.size, 0, none⟩ = some rv := by rw [hW]; exact below_cell hb2 (row_cell (World.alloc_heap_new w _) rfl)
 have hlb : W.cell? ⟨w.heap.size + 1, 0, none⟩ = some lv := by
  have := World.alloc_heap_new (w.alloc (.cells #[rv, ov] 25)) (.cells #[lv] 87)
  rw [hsz] at this; rw [hW]; exact row_cell this rfl
 rw [← hW] at hb
 have hRW := hR.below hb
 have hLW := hL.below hb
 obtain ⟨a, cap, g, hrv, hgs, hgk⟩ := rows_vals hRW
 refine (collect_any 183 _ l.length (fun j => g (l.getD j (0, 0)).1.toNat) W rows1_goes (fun j => hgs _) hl
  (fun I hI => rows1_iterates (w.heap.size + 1) w.heap.size lv rv l rows W a cap g hrv (fun k hk => by obtain ⟨b, off, h1, h2, -⟩ := hgk k hk; exact ⟨b, off, h1, h2⟩) hLW hin hlb hpb I hI)).mono ?_
 rintro e w' ⟨v, rfl, ho, hb'⟩
 refine ⟨v, rfl, Rows2.own ho (by simp [rowsOf]) (by simp [rowsOf]; omega) ?_, hb'⟩
 intro k h1 h2
 have hk : k < l.length := by simpa [rowsOf] using h1
 obtain ⟨i0, i1⟩ := hin _ (List.getElem_mem hk)
 have hkr : l[k].1.toNat < rows.length := by omega
 obtain ⟨b, off, -, -, h3⟩ := hgk _ hkr
 have e1 : ((List.range l.length).map (fun j => g (l.getD j (0, 0)).1.toNat))[k] = g l[k].1.toNat := by
  rw [List.getElem_map, List.getElem_range, getD_at hk]
 have e2 : (rowsOf rows l)[k] = rows[l[k].1.toNat] := by
  simp only [rowsOf, List.getElem_map]; exact getD_at hkr []
 rw [e1, e2]
 exact h3.below hb'
end Go.Proofs.YtggnipkfliompaaGreatDoor
namespace Go.Proofs.YtggnipkfliompaaGreatDoor
abbrev FMat := Nat → Nat → Fq
def dt (m : Nat) (u v : Nat → Fq) : Fq := sm m (fun j => u j * v j)
def Ker (n m : Nat) (X : FMat) (v : Nat → Fq) : Prop := ∀ i, i < n → dt m (X i) v = 0
def Span (n m : Nat) (X : FMat) (t : Nat → Fq) : Prop := ∃ y : Nat → Fq, ∀ j, j < m → t j = sm n (fun i => y i * X i j)
theorem dt_congr {m : Nat} {u u' v v' : Nat → Fq} (h : ∀ j, j < m → u j = u' j) (h' : ∀ j, j < m → v j = v' j) : dt m u v = dt m u' v' :=
 sm_congr fun j hj => by rw [h j hj, h' j hj]
theorem dt_add (m : Nat) (u a b : Nat → Fq) : dt m u (fun j => a j + b j) = dt m u a + dt m u b := by
 unfold dt; rw [← sm_add]; exact sm_congr fun j _ => by grind
theorem dt_mul (m : Nat) (u a : Nat → Fq) (s : Fq) : dt m u (fun j => s * a j) = s * dt m u a := by
 unfold dt; rw [← sm_mul]; exact sm_congr fun j _ => by grind
theorem dt_comm (m : Nat) (u v : Nat → Fq) : dt m u v = dt m v u := sm_congr fun _ _ => Fin.mul_comm _ _
theorem dt_add_l (m : Nat) (u a b : Nat → Fq) : dt m (fun j => a j + b j) u = dt m a u + dt m b u := by
 rw [dt_comm, dt_add, dt_comm m u a, dt_comm m u b]
theorem dt_mul_l (m : Nat) (u a : Nat → Fq) (s : Fq) : dt m (fun j => s * a j) u = s * dt m a u := by
 rw [dt_comm, dt_mul, dt_comm]
theorem dt_sm (n m : Nat) (y : Nat → Fq) (X : FMat) (v : Nat → Fq) : dt m (fun j => sm n (fun i => y i * X i j)) v = sm n (fun i => y i * dt m (X i) v) := by
 unfold dt
 rw [show (fun j => sm n (fun i => y i * X i j) * v j) = fun j => sm n (fun i => y i * X i j * v j) from funext fun _ => (sm_mul_r n _ _).symm, sm_swap]
 refine sm_congr fun i _ => ?_
 rw [← sm_mul]; exact sm_congr fun j _ => by grind
theorem span_congr {n m : Nat} {X : FMat} {t t' : Nat → Fq} (h : Span n m X t) (e : ∀ j, j < m → t' j = t j) : Span n m X t' :=
 let ⟨y, hy⟩ := h; ⟨y, fun j hj => by rw [e j hj, hy j hj]⟩
theorem span_add {n m : Nat} {X : FMat} {t u : Nat → Fq} (h : Span n m X t) (k : Span n m X u) : Span n m X (fun j => t j + u j) :=
 let ⟨y, hy⟩ := h; let ⟨z, hz⟩ := k
 ⟨fun i => y i + z i, fun j hj => by
  show t j + u j = _
  rw [hy j hj, hz j hj, ← sm_add]; exact sm_congr fun i _ => by grind⟩
theorem span_mul {n m : Nat} {X : FMat} {t : Nat → Fq} (s : Fq) (h : Span n m X t) : Span n m X (fun j => s * t j) :=
 let ⟨y, hy⟩ := h
 ⟨fun i => s * y i, fun j hj => by
  show s * t j = _
  rw [hy j hj, ← sm_mul]; exact sm_congr fun i _ => by grind⟩
theorem span_row {n m : Nat} {X : FMat} {i : Nat} (hi : i < n) : Span n m X (X i) :=
 ⟨fun k => if k = i then 1 else 0, fun j _ => by
  rw [sm_one hi (fun k _ e => by show (if k = i then (1 : Fq) else 0) * X k j = 0; rw [if_neg e]; grind)]
  show _ = (if i = i then (1 : Fq) else 0) * X i j
  rw [if_pos rfl]; grind⟩
structure Red (n m : Nat) (X0 X : FMat) (r : Nat) (p : Nat → Nat) (c : Nat) : Prop where
 rn : r ≤ n
 ker : ∀ v, Ker n m X v ↔ Ker n m X0 v
 span : ∀ i, i < n → Span n m X0 (X i)
 pc : ∀ k, k < r → p k < c
 mono : ∀ k l, k < l → l < r → p k < p l
 one : ∀ k, k < r → X k (p k) = 1
 zero : ∀ k i, k < r → i < n → i ≠ k → X i (p k) = 0
 low : ∀ i j, r ≤ i → i < n → j < c → X i j = 0
 left : ∀ k j, k < r → j < p k → X k j = 0
theorem red_start (n m : Nat) (X : FMat) (p : Nat → Nat) : Red n m X X 0 p 0 :=
 ⟨Nat.zero_le _, fun _ => Iff.rfl, fun _ hi => span_row hi, fun _ h => by omega, fun _ _ _ h => by omega, fun _ h => by omega, fun _ _ h => by omega, fun _ _ _ _ h => by omega, fun _ _ h => by omega⟩
theorem red_none {n m : Nat} {X0 X : FMat} {r : Nat} {p : Nat → Nat} {c : Nat} (h : Red n m X0 X r p c) (h0 : ∀ i, r ≤ i → i < n → X i c = 0) : Red n m X0 X r p (c + 1) :=
 { h with
  pc := fun k hk => Nat.lt_succ_of_lt (h.pc k hk)
  low := fun i j h1 h2 h3 => by
   by_cases e : j = c
   ·rw [e]; exact h0 i h1 h2
   ·exact h.low i j h1 h2 (by omega) }
def stepF (X : FMat) (r c k : Nat) (s : Fq) : FMat := fun i j =>
 let X' : FMat := fun i j => if i = r then X k j else if i = k then X r j else X i j
 if i = r then X k j * s else X' i j - X' i c * (X k j * s)
theorem stepF_r (X : FMat) (r c k : Nat) (s : Fq) (j : Nat) : stepF X r c k s r j = X k j * s := by unfold stepF; rw [if_pos rfl]
theorem stepF_k (X : FMat) (r c k : Nat) (s : Fq) (j : Nat) (h : k ≠ r) : stepF X r c k s k j = X r j - X r c * (X k j * s) := by
 unfold stepF; simp only [if_neg h, if_true]
theorem stepF_o (X : FMat) (r c k : Nat) (s : Fq) (i j : Nat) (h : i ≠ r) (h' : i ≠ k) : stepF X r c k s i j = X i j - X i c * (X k j * s) := by
 unfold stepF; simp only [if_neg h, if_neg h']
theorem red_step {n m : Nat} {X0 X : FMat} {r : Nat} {p : Nat → Nat} {c k : Nat} {s : Fq} (h : Red n m X0 X r p c) (hrk : r ≤ k) (hk : k < n) (hs : s * X k c = 1) (hp : p r = c) :
  Red n m X0 (stepF X r c k s) (r + 1) p (c + 1) := by
 have hrn : r < n := by omega
 have hkc : X k c * s = 1 := by rw [Fin.mul_comm]; exact hs
 refine ⟨by omega, fun v => Iff.trans ?_ (h.ker v), ?_, ?_, ?_, ?_, ?_, ?_, ?_⟩
 ·have row : dt m (stepF X r c k s r) v = s * dt m (X k) v := by
   rw [dt_congr (u' := fun j => s * X k j) (fun j _ => by rw [stepF_r]; exact Fin.mul_comm _ _) (fun _ _ => rfl), dt_mul_l]
  have rowk : k ≠ r → dt m (stepF X r c k s k) v = dt m (X r) v + (- X r c) * (s * dt m (X k) v) := fun hne => by
   rw [dt_congr (u' := fun j => X r j + (- X r c) * (s * X k j)) (fun j _ => by rw [stepF_k _ _ _ _ _ _ hne]; grind) (fun _ _ => rfl), dt_add_l, dt_mul_l, dt_mul_l]
  have rowo : ∀ i, i ≠ r → i ≠ k → dt m (stepF X r c k s i) v = dt m (X i) v + (- X i c) * (s * dt m (X k) v) := fun i h1 h2 => by
   rw [dt_congr (u' := fun j => X i j + (- X i c) * (s * X k j)) (fun j _ => by rw [stepF_o _ _ _ _ _ _ _ h1 h2]; grind) (fun _ _ => rfl), dt_add_l, dt_mul_l, dt_mul_l]
  constructor
  ·intro hv
   have h1 := hv r hrn
   rw [row] at h1
   have hk0 : dt m (X k) v = 0 := by
    have : X k c * (s * dt m (X k) v) = 0 := by rw [h1]; grind
    grind
   intro i hi
   by_cases e1 : i = k
   ·rw [e1]; exact hk0
   ·by_cases e2 : i = r
    ·rw [e2]
     have := hv k hk
     rw [rowk (fun e => e1 (by rw [e2, e])), hk0] at this; grind
    ·have := hv i hi
     rw [rowo i e2 e1, hk0] at this; grind
  ·intro hv i hi
   by_cases e2 : i = r
   ·rw [e2, row, hv k hk]; grind
   ·by_cases e1 : i = k
    ·rw [e1, rowk (fun e => e2 (by rw [e1, e])), hv k hk, hv r hrn]; grind
    ·rw [rowo i e2 e1, hv k hk, hv i hi]; grind
 ·intro i hi
  have hkS : Span n m X0 (fun j => s * X k j) := span_mul s (h.span k hk)
  by_cases e2 : i = r
  ·exact span_congr hkS fun j _ => by rw [e2, stepF_r]; exact Fin.mul_comm _ _
  ·by_cases e1 : i = k
   ·exact span_congr (span_add (h.span r hrn) (span_mul (- X r c) hkS)) fun j _ => by rw [e1, stepF_k _ _ _ _ _ _ (fun e => e2 (by rw [e1, e]))]; grind
   ·exact span_congr (span_add (h.span i hi) (span_mul (- X i c) hkS)) fun j _ => by rw [stepF_o _ _ _ _ _ _ _ e2 e1]; grind
 ·intro l hl
  by_cases e : l = r
  ·rw [e, hp]; omega
  ·have := h.pc l (by omega); omega
 ·intro l l' h1 h2
  by_cases e : l' = r
  ·rw [e, hp]; exact h.pc l (by omega)
  ·exact h.mono l l' h1 (by omega)
 ·intro l hl
  by_cases e : l = r
  ·rw [e, hp, stepF_r]; exact hkc
  ·have hpl := h.pc l (by omega)
   rw [stepF_o _ _ _ _ _ _ _ e (by omega), h.one l (by omega), h.low k _ hrk hk hpl]; grind
 ·intro l i hl hi hne
  by_cases e : l = r
  ·rw [e, hp]
   by_cases e1 : i = k
   ·rw [e1, stepF_k _ _ _ _ _ _ (fun e' => hne (by rw [e1, e', e])), hkc]; grind
   ·rw [stepF_o _ _ _ _ _ _ _ (fun e' => hne (by rw [e', e])) e1, hkc]; grind
  ·have hpl := h.pc l (by omega)
   by_cases e2 : i = r
   ·rw [e2, stepF_r, h.low k _ hrk hk hpl]; grind
   ·by_cases e1 : i = k
    ·rw [e1, stepF_k _ _ _ _ _ _ (fun e => e2 (by rw [e1, e])), h.low k _ hrk hk hpl, h.low r _ (Nat.le_refl _) hrn hpl]; grind
    ·rw [stepF_o _ _ _ _ _ _ _ e2 e1, h.low k _ hrk hk hpl, h.zero l i (by omega) hi hne]; grind
 ·intro i j h1 h2 h3
  have e2 : i ≠ r := by omega
  by_cases ej : j = c
  ·rw [ej]
   by_cases e1 : i = k
   ·rw [e1, stepF_k _ _ _ _ _ _ (by omega), hkc]; grind
   ·rw [stepF_o _ _ _ _ _ _ _ e2 e1, hkc]; grind
  ·have hj : j < c := by omega
   by_cases e1 : i = k
   ·rw [e1, stepF_k _ _ _ _ _ _ (by omega), h.low k _ hrk hk hj, h.low r _ (Nat.le_refl _) hrn hj]; grind
   ·rw [stepF_o _ _ _ _ _ _ _ e2 e1, h.low k _ hrk hk hj, h.low i _ (by omega) h2 hj]; grind
 ·intro l j hl hj
  by_cases e : l = r
  ·subst e
   rw [stepF_r, h.low k j hrk hk (by omega)]; grind
  ·have hpl := h.pc l (by omega)
   rw [stepF_o _ _ _ _ _ _ _ e (by omega), h.left l j (by omega) hj, h.low k j hrk hk (by omega)]; grind
theorem sm_pivots {m r : Nat} {p : Nat → Nat} {f : Nat → Fq} (hp : ∀ k, k < r → p k < m) (hmono : ∀ k l, k < l → l < r → p k < p l) (h0 : ∀ j, j < m → (∀ k, k < r → p k ≠ j) → f j = 0) :
  sm m f = sm r (fun k => f (p k)) := by
 induction r generalizing f with
 | zero => exact sm_zero fun j hj => h0 j hj (fun k hk => by omega)
 | succ r ih =>
  have hne : ∀ k, k < r → p k ≠ p r := fun k hk => Nat.ne_of_lt (hmono k r hk (by omega))
  have e1 : sm m f = sm m (fun j => if j = p r then 0 else f j) + sm m (fun j => if j = p r then f j else 0) := by
   rw [← sm_add]; refine sm_congr fun j _ => ?_
   by_cases e : j = p r
   ·rw [if_pos e, if_pos e]; grind
   ·rw [if_neg e, if_neg e]; grind
  rw [e1, ih (f := fun j => if j = p r then 0 else f j) (fun k hk => hp k (by omega)) (fun k l h1 h2 => hmono k l h1 (by omega)) (fun j hj hk => by
   by_cases e : j = p r
   ·show (if j = p r then 0 else f j) = 0
    rw [if_pos e]
   ·show (if j = p r then 0 else f j) = 0
    rw [if_neg e]
    exact h0 j hj (fun k hk' => by
     by_cases ek : k = r
     ·rw [ek]; exact fun e' => e e'.symm
     ·exact hk k (by omega))), sm_one (k := p r) (hp r (by omega)) (fun j _ e => by show (if j = p r then f j else 0) = 0; rw [if_neg e])]
  show _ = sm r _ + f (p r)
  congr 1
  ·exact sm_congr fun k hk => by show (if p k = p r then 0 else f (p k)) = f (p k); rw [if_neg (hne k hk)]
  ·show (if p r = p r then f (p r) else 0) = _
   rw [if_pos rfl]
end Go.Proofs.YtggnipkfliompaaGreatDoor
namespace Go.Proofs.YtggnipkfliompaaGreatDoor
end Go.Proofs.YtggnipkfliompaaGreatDoor
namespace Go.Proofs.YtggnipkfliompaaGreatDoor
open Go.RowKit
theorem owns_setCell_other {w : World} {base : Nat} {e : TypeId} {size : Nat} {v : Value} {n : Nat} {xs : List Value} (h : w.ownsRow base e size v n xs) {b o : Nat} (ha : ∀ g, v.ownBlock = some g → b ≠ g) (u : Value) : (w.setCell ⟨b, o, none⟩ u).ownsRow base e size v n xs := by
 obtain ⟨h1, h2 | ⟨g, cap, cur, rfl, hB, hh, hrest⟩⟩ := h
 ·exact ⟨h1, .inl h2⟩
 ·refine ⟨h1, .inr ⟨g, cap, cur, rfl, hB, ?_, hrest⟩⟩
  rw [Below.heap_setCell _ _ _ _ (fun e => ha g rfl e.symm)]; exact hh
def colOf (rows : List (List Int)) (k : Nat) : List Int := rows.map fun r => nth r k
end Go.Proofs.YtggnipkfliompaaGreatDoor
namespace Go.Proofs.YtggnipkfliompaaGreatDoor
open Go.RowKit
end Go.Proofs.YtggnipkfliompaaGreatDoor
namespace Go.Proofs.YtggnipkfliompaaGreatDoor
open Go.RowKit
def Sorted (l : List Nat) : Prop := ∀ i j (hi : i < l.length) (hj : j < l.length), i < j → l[i] < l[j]
theorem sorted_snoc {l : List Nat} {c : Nat} (h : Sorted l) (hc : ∀ p ∈ l, p < c) : Sorted (l ++ [c]) := by
 intro i j hi hj hij
 rw [List.length_append, List.length_singleton] at hi hj
 by_cases ej : j = l.length
 ·subst ej
  rw [List.getElem_append_left (by omega), List.getElem_append_right (Nat.le_refl _)]
  simpa using hc _ (List.getElem_mem (by omega : i < l.length))
 ·rw [List.getElem_append_left (by omega), List.getElem_append_left (by omega)]
  exact h i j (by omega) (by omega) hij
theorem stepR_lt {n c : Nat} {s : Mat × List Nat} (h : (∀ p ∈ s.2, p < c) ∧ Sorted s.2) : (∀ p ∈ (stepR n s c).2, p < c + 1) ∧ Sorted (stepR n s c).2 := by
 unfold stepR
 split
 ·refine ⟨fun p hp => ?_, sorted_snoc h.2 h.1⟩
  rcases List.mem_append.1 hp with h1 | h1
  ·exact Nat.lt_succ_of_lt (h.1 p h1)
  ·rw [List.mem_singleton.1 h1]; omega
 ·exact ⟨fun p hp => Nat.lt_succ_of_lt (h.1 p hp), h.2⟩
theorem redR_lt (n : Nat) (x : Mat) : ∀ c, (∀ p ∈ (redR n x c).2, p < c) ∧ Sorted (redR n x c).2
 | 0 => ⟨by simp [redR], fun i j hi => by simp [redR] at hi⟩
 | c + 1 => by rw [redR_succ]; exact stepR_lt (redR_lt n x c)
structure Next (piv : List Nat) (c k : Nat) : Prop where
 le : k ≤ piv.length
 lo : ∀ i (h : i < piv.length), i < k → piv[i] < c
 up : ∀ i (h : i < piv.length), k ≤ i → c ≤ piv[i]
end Go.Proofs.YtggnipkfliompaaGreatDoor
namespace Go.Proofs.YtggnipkfliompaaGreatDoor
def cm (X : Mat) : FMat := fun i j => cq (X i j)
def pf (l : List Nat) : Nat → Nat := fun k => l[k]?.getD 0
theorem Red.congr {n m : Nat} {X0 X Y : FMat} {r : Nat} {p q : Nat → Nat} {c : Nat} (h : Red n m X0 X r p c) (e : ∀ i, i < n → ∀ j, X i j = Y i j) (eq : ∀ k, k < r → p k = q k) : Red n m X0 Y r q c := by
 have er : ∀ i, i < n → X i = Y i := fun i hi => funext (e i hi)
 refine ⟨h.rn, fun v => Iff.trans ?_ (h.ker v), fun i hi => er i hi ▸ h.span i hi, fun k hk => eq k hk ▸ h.pc k hk, fun k l h1 h2 => eq k (by omega) ▸ eq l h2 ▸ h.mono k l h1 h2, fun k hk => ?_, fun k i hk hi hne => ?_, fun i j h1 h2 h3 => ?_, fun k j hk hj => ?_⟩
 ·exact ⟨fun hv i hi => by rw [er i hi]; exact hv i hi, fun hv i hi => by rw [← er i hi]; exact hv i hi⟩
 ·rw [← eq k hk, ← e k (Nat.lt_of_lt_of_le hk h.rn)]; exact h.one k hk
 ·rw [← eq k hk, ← e i hi]; exact h.zero k i hk hi hne
 ·rw [← e i h2]; exact h.low i j h1 h2 h3
 ·rw [← e k (Nat.lt_of_lt_of_le hk h.rn)]; exact h.left k j hk (by rw [eq k hk]; exact hj)
theorem findP_zero {x : Mat} {n c r : Nat} {i : Nat} (h1 : r ≤ i) (h2 : i < findP x n c r) : x i c = 0 := findF_zero x c (n - r) r i h1 h2
theorem findP_le (x : Mat) (n c r : Nat) (h : r ≤ n) : findP x n c r ≤ n := by have := (findF_lt x c (n - r) r).1; unfold findP; omega
theorem findP_ne {x : Mat} {n c r : Nat} (h : findP x n c r < n) (hr : r ≤ n) : x (findP x n c r) c ≠ 0 := findF_ne x c (n - r) r (by unfold findP at h; omega)
theorem cq_ne {z : Int} (h : 0 ≤ z ∧ z < 1073741789) (hz : z ≠ 0) : cq z ≠ 0 := fun e => by
 rw [cq_zero] at e; omega
theorem cq_inv {z : Int} (h : cq z ≠ 0) : cq (invQ z) * cq z = 1 := inv_z h
theorem putM_at (X : Mat) (k : Nat) (f : Nat → Int) (j : Nat) : putM X k f k j = f j := if_pos rfl
theorem putM_ne (X : Mat) (k : Nat) (f : Nat → Int) (i j : Nat) (h : i ≠ k) : putM X k f i j = X i j := if_neg h
theorem pivR_field {X : Mat} {n r c k : Nat} (hr : r < n) (i j : Nat) (hi : i < n) : cm (pivR X n r c k) i j = stepF (cm X) r c k (cq (invQ (X k c))) i j := by
 show cq (putM (lessA (putM X k (X r)) (ownR X c k) c n) r (ownR X c k) i j) = _
 by_cases e : i = r
 ·subst e
  rw [stepF_r]
  rw [putM_at]
  unfold ownR
  rw [cq_mod, cq_mul]
  show _ = cq (X k j) * _
  grind
 ·rw [putM_ne _ _ _ _ _ e]
  unfold lessA
  rw [if_pos hi, cq_mod, cq_add, cq_neg, cq_mod, cq_mul]
  unfold ownR
  rw [cq_mod, cq_mul]
  by_cases e1 : i = k
  ·subst e1
   rw [stepF_k _ _ _ _ _ _ e, putM_at, putM_at]
   show _ = cq (X r j) - cq (X r c) * (cq (X i j) * _)
   generalize cq (invQ (X i c)) = s at *
   grind
  ·rw [stepF_o _ _ _ _ _ _ _ e e1, putM_ne _ _ _ _ _ e1, putM_ne _ _ _ _ _ e1]
   show _ = cq (X i j) - cq (X i c) * (cq (X k j) * _)
   generalize cq (invQ (X k c)) = s at *
   grind
theorem pf_app (l : List Nat) (c : Nat) : (∀ k, k < l.length → pf l k = pf (l ++ [c]) k) ∧ pf (l ++ [c]) l.length = c := by
 refine ⟨fun k hk => ?_, ?_⟩
 ·unfold pf; rw [List.getElem?_append_left hk]
 ·unfold pf; rw [List.getElem?_append_right (Nat.le_refl _)]; simp
theorem redR_red {n m : Nat} {X : Mat} (hX : NumM n m X) : ∀ c, c ≤ m → Red n m (cm X) (cm (redR n X c).1) (redR n X c).2.length (pf (redR n X c).2) c
 | 0, _ => red_start n m (cm X) _
 | c + 1, hc => by
  have ih := redR_red hX c (by omega)
  have hn := redR_num hX c
  rw [redR_succ]
  generalize redR n X c = s at ih hn
  obtain ⟨y, piv⟩ := s
  simp only at ih hn
  have hle := findP_le y n c piv.length ih.rn
  by_cases hk : findP y n c piv.length < n
  ·rw [stepR_some rfl hk]
   show Red n m (cm X) (cm (pivR y n piv.length c (findP y n c piv.length))) (piv ++ [c]).length (pf (piv ++ [c])) (c + 1)
   have hge := findP_ge y n c piv.length
   have hne := cq_ne (hn _ c hk (by omega)) (findP_ne hk ih.rn)
   rw [List.length_append, List.length_singleton]
   have h1 := pf_app piv c
   have ih' := ih.congr (fun _ _ _ => rfl) h1.1
   have hst := red_step ih' hge hk (cq_inv hne) h1.2
   exact hst.congr (fun i hi j => (pivR_field (X := y) (n := n) (r := piv.length) (c := c) (k := findP y n c piv.length) (by omega) i j hi).symm) (fun _ _ => rfl)
  ·have hk' : findP y n c piv.length = n := by omega
   rw [stepR_none hk']
   refine red_none ih (fun i h1 h2 => ?_)
   show cq (y i c) = 0
   have h1' : piv.length ≤ i := h1
   rw [findP_zero (x := y) (n := n) (c := c) h1' (by omega)]; exact cq_0
theorem findF_congr {x y : Mat} {c n : Nat} (h : ∀ i, i < n → x i c = y i c) : ∀ f k, k + f ≤ n → findF x c f k = findF y c f k
 | 0, _, _ => rfl
 | f + 1, k, hk => by
  unfold findF
  rw [h k (by omega), findF_congr h f (k + 1) (by omega)]
theorem pivM_pivR {x X : Mat} {n m r c k : Nat} (hX : NumM n m X) (e : ∀ i j, i < n → j < m → x i j = X i j) (hr : r < n) (hk : k < n) (hc : c < m) (h0 : ∀ j, j < c → X k j = 0) (i j : Nat) (hi : i < n) (hj : j < m) :
  pivM x n r c k i j = pivR X n r c k i j := by
 have hown0 : j < c → ownR X c k j = 0 := fun h => by unfold ownR; rw [h0 j h, Int.mul_zero]; rfl
 have hvr : x k j * invQ (x k c) % 1073741789 = ownR X c k j := by
  unfold ownR; rw [e k j hk hj, e k c hk hc, Int.mul_comm]
 have hX1 : swapM x r k i j = if i = r then X k j else putM X k (X r) i j := by
  unfold swapM putM
  by_cases e1 : i = r
  ·rw [if_pos e1, if_pos e1, e k j hk hj]
  ·rw [if_neg e1, if_neg e1]
   by_cases e2 : i = k
   ·rw [if_pos e2, if_pos e2, e r j hr hj]
   ·rw [if_neg e2, if_neg e2, e i j hi hj]
 have hX1c : i ≠ r → swapM x r k i c = putM X k (X r) i c := fun e1 => by
  unfold swapM putM
  rw [if_neg e1]
  by_cases e2 : i = k
  ·rw [if_pos e2, if_pos e2, e r c hr hc]
  ·rw [if_neg e2, if_neg e2, e i c hi hc]
 show clearA (scaleM (swapM x r k) r c (invQ (x k c))) r c n i j = putM (lessA (putM X k (X r)) (ownR X c k) c n) r (ownR X c k) i j
 by_cases e1 : i = r
 ·subst e1
  unfold clearA
  rw [if_neg (by omega)]
  unfold putM
  rw [if_pos rfl]
  unfold scaleM
  by_cases hjc : c ≤ j
  ·rw [if_pos ⟨rfl, hjc⟩]
   have : swapM x i k i j = x k j := by unfold swapM; rw [if_pos rfl]
   rw [this]; exact hvr
  ·rw [if_neg (by omega), hX1, if_pos rfl, hown0 (by omega), h0 j (by omega)]
 ·have hP : putM (lessA (putM X k (X r)) (ownR X c k) c n) r (ownR X c k) i j = (putM X k (X r) i j + -(putM X k (X r) i c * ownR X c k j % 1073741789)) % 1073741789 := by
   show (if i = r then _ else lessA (putM X k (X r)) (ownR X c k) c n i j) = _
   rw [if_neg e1]
   unfold lessA; rw [if_pos hi]
  rw [hP]
  have hz : ∀ jj, scaleM (swapM x r k) r c (invQ (x k c)) i jj = swapM x r k i jj := fun jj => by unfold scaleM; rw [if_neg (by omega)]
  unfold clearA
  by_cases hjc : c ≤ j
  ·rw [if_pos ⟨e1, hi, hjc⟩, hz, hz, hX1, if_neg e1, hX1c e1]
   have : scaleM (swapM x r k) r c (invQ (x k c)) r j = ownR X c k j := by
    unfold scaleM
    rw [if_pos ⟨rfl, hjc⟩]
    have : swapM x r k r j = x k j := by unfold swapM; rw [if_pos rfl]
    rw [this]; exact hvr
   rw [this]
  ·rw [if_neg (by omega), hz, hX1, if_neg e1, hown0 (by omega), Int.mul_zero]
   have hnum : 0 ≤ putM X k (X r) i j ∧ putM X k (X r) i j < 1073741789 := (hX.put (i := k) (fun j hj => hX r j hr hj)) i j hi hj
   omega
theorem redM_redR {n m : Nat} {x X : Mat} (hX : NumM n m X) (e : ∀ i j, i < n → j < m → x i j = X i j) : ∀ c, c ≤ m → (redM n x c).2 = (redR n X c).2 ∧ ∀ i j, i < n → j < m → (redM n x c).1 i j = (redR n X c).1 i j
 | 0, _ => ⟨rfl, e⟩
 | c + 1, hc => by
  obtain ⟨ih1, ih2⟩ := redM_redR hX e c (by omega)
  have hn := redR_num hX c
  have hR := redR_red hX c (by omega)
  rw [redM_succ, redR_succ]
  generalize redM n x c = s at ih1 ih2
  generalize redR n X c = u at ih1 ih2 hn hR
  obtain ⟨y, piv⟩ := s
  obtain ⟨Y, piv'⟩ := u
  simp only at ih1 ih2 hn hR
  subst ih1
  have hfind : findP y n c piv.length = findP Y n c piv.length := findF_congr (fun i hi => ih2 i c hi (by omega)) _ _ (by have := hR.rn; omega)
  have hle := findP_le Y n c piv.length hR.rn
  by_cases hk : findP Y n c piv.length < n
  ·rw [stepM_some hfind hk, stepR_some rfl hk]
   refine ⟨rfl, fun i j hi hj => ?_⟩
   have hge := findP_ge Y n c piv.length
   refine pivM_pivR hn ih2 (by omega) hk (by omega) (fun jj hjj => ?_) i j hi hj
   have h1 := hR.low _ jj hge hk hjj
   have h2 := hn _ jj hk (by omega)
   rw [show cm Y (findP Y n c piv.length) jj = cq (Y (findP Y n c piv.length) jj) from rfl, cq_zero] at h1
   omega
  ·have hk' : findP Y n c piv.length = n := by omega
   rw [stepM_none (hfind.trans hk'), stepR_none hk']
   exact ⟨rfl, ih2⟩
end Go.Proofs.YtggnipkfliompaaGreatDoor
namespace Go.Proofs.YtggnipkfliompaaGreatDoor
open Go.RowKit
theorem step_app_int {ops : Array Oper} {o : Oper} {a : Act} {K : Act → World → Prop} {Q : Exit → Act → World → Prop} {E : Prop} {W : World} (hgd : o.guard = none) (s x : Operand) (ho : o.op = .call { callee := .builtin .append, args := #[s, x], argTypes := #[23, 23] })
  (base n : Nat) (v : Value) (xs : List Value) (hs : a.eval s = v) (hown : W.ownsRow base 3 1 v n xs) (b c : Nat) (z : Int) (hx : a.eval x = .slice (some ⟨b, 0, none⟩) 1 c) (hcell : W.cell? ⟨b, 0, none⟩ = some (.int .i64 z)) (hn : n ≤ 1000000) (hbase : base ≤ W.heap.size) (H : Nat) (hH : W.heap.size = H)
  (h : ∀ g cap w', w'.ownsRow base 3 1 (.slice (some ⟨g, 0, none⟩) (n + 1) cap) (n + 1) (xs ++ [.int .i64 z]) → W.grownBy w' v.ownBlock → (v.ownBlock = some g ∨ g = H) → g < w'.heap.size → K (a.put o.dst (.slice (some ⟨g, 0, none⟩) (n + 1) cap)) w') :
  if Region.wanted o (yielded ops a.tmps) = true then Oper.wp Tryz.prog o a W K Q else E := by
 obtain ⟨i0, hi0, hz0, hz1, hz2⟩ := info_parts infoInt
 refine step_append_lies _ hgd s x 23 ho base 3 i0 (.int .i64 0) 1 8 Tryz.underlying23 hi0 hz0 hz1 hz2 rfl (by decide) v n xs hs hown ⟨b, 0, none⟩ 1 c [.int .i64 z] hx rfl ?_ ?_ (by decide) ?_ ?_ hbase H hH h
 ·intro j u hu
  cases j with
  | zero => simp at hu; subst hu; simpa [Addr.add] using hcell
  | succ j => simp at hu
 ·simp [Value.oneCell']
 ·unfold maxLen; omega
 ·omega
def eqRows (rows : List (List Int)) (t : List Int) : List (List Int) := (List.range t.length).map fun i => colOf rows i ++ [nth t i]
def rcombM (rows : List (List Int)) (t : List Int) : Mat × List Nat := redR t.length (matOf (eqRows rows t)) rows.length
def okM (x : Mat) (r n m : Nat) : Bool := (List.range (m - r)).all fun j => x (r + j) n == 0
def rcombOk (rows : List (List Int)) (t : List Int) : Bool := okM (rcombM rows t).1 (rcombM rows t).2.length rows.length t.length
def rcombY (rows : List (List Int)) (t : List Int) : List Int := (List.range rows.length).map (combF (rcombM rows t).1 (rcombM rows t).2 rows.length (rcombM rows t).2.length)
theorem eqRows_len (rows : List (List Int)) (t : List Int) : (eqRows rows t).length = t.length := by simp [eqRows]
theorem eqRows_row {rows : List (List Int)} {t : List Int} : ∀ r ∈ eqRows rows t, r.length = rows.length + 1 := fun r hr => by
 obtain ⟨i, hi, rfl⟩ := List.mem_map.1 hr
 simp [colOf]
theorem eqRows_num {rows : List (List Int)} {t : List Int} (hl : ∀ r ∈ rows, r.length = t.length) (hn : ∀ r ∈ rows, ∀ z ∈ r, 0 ≤ z ∧ z < 1073741789) (ht : ∀ z ∈ t, 0 ≤ z ∧ z < 1073741789) : ∀ r ∈ eqRows rows t, ∀ z ∈ r, 0 ≤ z ∧ z < 1073741789 := fun r hr z hz => by
 obtain ⟨i, hi, rfl⟩ := List.mem_map.1 hr
 rw [List.mem_range] at hi
 rcases List.mem_append.1 hz with h | h
 ·obtain ⟨r', hr', rfl⟩ := List.mem_map.1 h
  rw [nth_at (by rw [hl r' hr']; exact hi)]
  exact hn r' hr' _ (List.getElem_mem _)
 ·rw [List.mem_singleton.1 h, nth_at hi]
  exact ht _ (List.getElem_mem _)
end Go.Proofs.YtggnipkfliompaaGreatDoor
namespace Go.Proofs.YtggnipkfliompaaGreatDoor
open Go.RowKit
end Go.Proofs.YtggnipkfliompaaGreatDoor
namespace Go.Proofs.YtggnipkfliompaaGreatDoor
theorem turn_eq {rows : List (List Int)} {t : List Int} {i : Nat} (hi : i < t.length) (j : Nat) : turnMat rows t i j = matOf (eqRows rows t) i j := by
 have : (eqRows rows t)[i]? = some (colOf rows i ++ [nth t i]) := by unfold eqRows; simp [hi]
 unfold matOf
 rw [this]; rfl
theorem eq_num {rows : List (List Int)} {t : List Int} (h : Right rows t.length) (ht : ∀ z ∈ t, 0 ≤ z ∧ z < 1073741789) : NumM t.length (rows.length + 1) (matOf (eqRows rows t)) := fun i j hi hj => by
 have hi' : i < (eqRows rows t).length := by rw [eqRows_len]; exact hi
 have hl := eqRows_row _ (List.getElem_mem hi')
 rw [matOf_at hi' (by omega)]; exact eqRows_num h.len h.num ht _ (List.getElem_mem hi') _ (List.getElem_mem _)
theorem comb_same {rows : List (List Int)} {t : List Int} (h : Right rows t.length) (ht : ∀ z ∈ t, 0 ≤ z ∧ z < 1073741789) : combOk rows t = rcombOk rows t ∧ combY rows t = rcombY rows t := by
 obtain ⟨h1, h2⟩ := redM_redR (x := turnMat rows t) (eq_num h ht) (fun i j hi hj => turn_eq hi j) rows.length (by omega)
 have h1' : (combM rows t).2 = (rcombM rows t).2 := h1
 have h2' : ∀ i j, i < t.length → j < rows.length + 1 → (combM rows t).1 i j = (rcombM rows t).1 i j := h2
 have hle : (rcombM rows t).2.length ≤ t.length := redR_len _ _ _
 constructor
 ·unfold combOk rcombOk okM
  rw [h1', Bool.eq_iff_iff, List.all_eq_true, List.all_eq_true]
  constructor
  ·intro h3 j hj
   rw [List.mem_range] at hj
   rw [← h2' _ _ (by omega) (by omega)]; exact h3 j (List.mem_range.2 hj)
  ·intro h3 j hj
   rw [List.mem_range] at hj
   rw [h2' _ _ (by omega) (by omega)]; exact h3 j (List.mem_range.2 hj)
 ·unfold combY rcombY
  rw [h1']
  refine List.map_congr_left fun i _ => ?_
  have : ∀ K, K ≤ (rcombM rows t).2.length → combF (combM rows t).1 (rcombM rows t).2 rows.length K i = combF (rcombM rows t).1 (rcombM rows t).2 rows.length K i := fun K => by
   induction K with
   | zero => intro _; rfl
   | succ K ih =>
    intro hK
    unfold combF
    rw [ih (by omega), h2' K rows.length (by omega) (by omega)]
  exact this _ (Nat.le_refl _)
def cv (l : List Int) : Nat → Fq := fun j => cq (nth l j)
theorem cq_prodF (a b : List Int) : ∀ K, cq (prodF a b K) = sm K (fun j => cv a j * cv b j)
 | 0 => cq_0
 | K + 1 => by
  show cq ((prodF a b K + nth a K * nth b K % 1073741789) % 1073741789) = sm K _ + cq (nth a K) * cq (nth b K)
  rw [cq_mod, cq_add, cq_mod, cq_mul, cq_prodF a b K]
theorem cq_prodQ (a b : List Int) : cq (prodQ a b) = dt a.length (cv a) (cv b) := cq_prodF a b a.length
end Go.Proofs.YtggnipkfliompaaGreatDoor
