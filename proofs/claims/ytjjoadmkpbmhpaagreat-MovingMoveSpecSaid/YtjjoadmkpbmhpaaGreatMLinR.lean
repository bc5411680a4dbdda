/- The reference of package linear: Turned. The reference of package linear: Rank and Separate. The reference of package linear: Separate. The reductions of the program and of the reference, in the field. -/
import Derived.Test.YtjjoadmkpbmhpaaGreatMLinP
import Derived.Test.YtjjoadmkpbmhpaaGreatMDeaJ
namespace Go.Proofs.YtjjoadmkpbmhpaaGreat
open Go.RowKit

theorem owns_other {W W' : World} {B e z : Nat} {v : Value} {k : Nat} {xs : List Value} {r : Option Nat} (h : W.ownsRow B e z v k xs) (hg : W.grownBy W' r) (hr : ∀ g, v.ownBlock = some g → r ≠ some g) : W'.ownsRow B e z v k xs := by
  obtain ⟨h1, h2 | ⟨g, cap, cur, rfl, hB, hh, hrest⟩⟩ := h
  · exact ⟨h1, .inl h2⟩
  · exact ⟨h1, .inr ⟨g, cap, cur, rfl, hB, (hg.block g (Array.getElem?_eq_some_iff.1 hh).1 (fun e => hr g rfl e.symm)).trans hh, hrest⟩⟩

/-- Two rows of different types lie in different blocks. -/
theorem owns_types {W : World} {B B' e e' z z' : Nat} {v v' : Value} {k k' : Nat} {xs xs' : List Value} (h : W.ownsRow B e z v k xs) (h' : W.ownsRow B' e' z' v' k' xs') (hne : e ≠ e') : ∀ g, v.ownBlock = some g → v'.ownBlock ≠ some g := by
  obtain ⟨-, ⟨rfl, -⟩ | ⟨g, cap, cur, rfl, hB, hh, hrest⟩⟩ := h
  · intro g e1; cases e1
  · obtain ⟨-, ⟨rfl, -⟩ | ⟨g', cap', cur', rfl, hB', hh', hrest'⟩⟩ := h'
    · intro g e1 e2; cases e2
    · intro q e1 e2
      have e1' : some g = some q := e1
      have e2' : some g' = some q := e2
      injection e1' with e3
      injection e2' with e4
      subst e3; subst e4
      rw [hh] at hh'
      injection hh' with e5
      injection e5 with e6 e7
      exact hne e7

theorem owns_setCell_other {w : World} {base : Nat} {e : TypeId} {size : Nat} {v : Value} {n : Nat} {xs : List Value} (h : w.ownsRow base e size v n xs) {b o : Nat} (ha : ∀ g, v.ownBlock = some g → b ≠ g) (u : Value) : (w.setCell ⟨b, o, none⟩ u).ownsRow base e size v n xs := by
  obtain ⟨h1, h2 | ⟨g, cap, cur, rfl, hB, hh, hrest⟩⟩ := h
  · exact ⟨h1, .inl h2⟩
  · refine ⟨h1, .inr ⟨g, cap, cur, rfl, hB, ?_, hrest⟩⟩
    rw [Below.heap_setCell _ _ _ _ (fun e => ha g rfl e.symm)]; exact hh

/-- Rows of the call's own, and the slice of their headers. -/
structure TurnS (S k : Nat) (hs : Nat → Value) (ls : Nat → List Int) (ov : Value) (w W : World) : Prop where
  out : W.ownsRow S 23 1 ov k ((List.range k).map hs)
  row : ∀ i, i < k → W.ownsRow S 3 1 (hs i) (ls i).length ((ls i).map (Value.int .i64))
  sep : ∀ i j, i < k → j < k → i ≠ j → ∀ g, (hs i).ownBlock = some g → (hs j).ownBlock ≠ some g
  low : Below S w W
  top : S ≤ W.heap.size

/-- The row of a column. -/
def colOf (rows : List (List Int)) (k : Nat) : List Int := rows.map fun r => nth r k

theorem TurnS.below {S k : Nat} {hs : Nat → Value} {ls : Nat → List Int} {ov : Value} {w W W' : World} (h : TurnS S k hs ls ov w W) (hb : Below W.heap.size W W') : TurnS S k hs ls ov w W' :=
  ⟨owns_below h.out hb, fun i hi => owns_below (h.row i hi) hb, h.sep, h.low.trans (hb.mono h.top), Nat.le_trans h.top hb.size⟩

/-- Another row, made later. -/
theorem TurnS.more {S k H : Nat} {hs : Nat → Value} {ls : Nat → List Int} {ov ov' c : Value} {l : List Int} {w W W' : World} (h : TurnS S k hs ls ov w W) (hc : W.ownsRow H 3 1 c l.length (l.map (Value.int .i64))) (hH : ∀ i, i < k → ∀ g, (hs i).ownBlock = some g → g < H) (hSH : S ≤ H)
    (ho : W'.ownsRow S 23 1 ov' (k + 1) ((List.range k).map hs ++ [c])) (hg : W.grownBy W' ov.ownBlock) : TurnS S (k + 1) (fun i => if i = k then c else hs i) (fun i => if i = k then l else ls i) ov' w W' := by
  have ne : ∀ {v : Value} {B n : Nat} {xs : List Value}, W.ownsRow B 3 1 v n xs → ∀ g, v.ownBlock = some g → ov.ownBlock ≠ some g := fun hv g e => owns_types hv h.out (by decide) g e
  refine ⟨?_, fun i hi => ?_, fun i j hi hj hne g e1 e2 => ?_, h.low.grown hg h.top (fun g e => (h.out.lt g e).1), Nat.le_trans h.top hg.size⟩
  · rw [List.range_succ, List.map_append, List.map_cons, List.map_nil]
    have e : (List.range k).map (fun i => if i = k then c else hs i) = (List.range k).map hs := List.map_congr_left fun i hi => by
      rw [if_neg]; have := List.mem_range.1 hi; omega
    rw [e, if_pos rfl]; exact ho
  · show W'.ownsRow S 3 1 (if i = k then c else hs i) (if i = k then l else ls i).length ((if i = k then l else ls i).map (Value.int .i64))
    by_cases e : i = k
    · rw [if_pos e, if_pos e]; exact owns_mono (owns_other hc hg (ne hc)) hSH
    · rw [if_neg e, if_neg e]; exact owns_other (h.row i (by omega)) hg (ne (h.row i (by omega)))
  · have e1' : (if i = k then c else hs i).ownBlock = some g := e1
    have e2' : (if j = k then c else hs j).ownBlock = some g := e2
    by_cases ei : i = k
    · rw [if_pos ei] at e1'
      rw [if_neg (by omega)] at e2'
      have := hH j (by omega) g e2'
      have := (hc.lt g e1').1
      omega
    · rw [if_neg ei] at e1'
      by_cases ej : j = k
      · rw [if_pos ej] at e2'
        have := hH i (by omega) g e1'
        have := (hc.lt g e2').1
        omega
      · rw [if_neg ej] at e2'
        exact h.sep i j (by omega) (by omega) hne g e1' e2'

set_option maxRecDepth 100000 in
theorem app_row_at {ops : Array Oper} {rest : List Oper} {o : Oper} {a : Act} {Q : Exit → Act → World → Prop} {W : World} (hgd : o.guard = none) (s x : Operand) (ho : o.op = .call { callee := .builtin .append, args := #[s, x], argTypes := #[22, 22] })
    (base n : Nat) (v : Value) (xs : List Value) (hs : a.eval s = v) (hown : W.ownsRow base 23 1 v n xs) (b c : Nat) (pa : Option Addr) (pn pc : Nat) (hx : a.eval x = .slice (some ⟨b, 0, none⟩) 1 c) (hcell : W.cell? ⟨b, 0, none⟩ = some (.slice pa pn pc)) (hn : n ≤ 1000000) (hbase : base ≤ W.heap.size)
    (h : ∀ v' w', w'.ownsRow base 23 1 v' (n + 1) (xs ++ [.slice pa pn pc]) → W.grownBy w' v.ownBlock → wpList Tryz.prog ops Q rest (a.put o.dst v') w') : wpList Tryz.prog ops Q (o :: rest) a W := by
  obtain ⟨i0, hi0, hz0, hz1, hz2⟩ := info_parts infoRw
  refine wpList_append_own_at _ hgd s x 22 ho base 23 i0 (.slice none 0 0) 1 24 Tryz.underlying22 hi0 hz0 hz1 hz2 rfl (by decide) v n xs hs hown ⟨b, 0, none⟩ 1 c [.slice pa pn pc] hx rfl ?_ ?_ ?_ ?_ hbase ?_
  · intro j u hu
    cases j with
    | zero => simp at hu; subst hu; simpa [Addr.add] using hcell
    | succ j => simp at hu
  · simp [Value.oneCell']
  · unfold maxLen; omega
  · omega
  · intro v' w' h1 h2 _ _; exact h v' w' h1 h2

set_option maxRecDepth 100000 in
set_option maxHeartbeats 8000000 in
theorem Turned_any (v : Value) (rows : List (List Int)) (many : Nat) (w : World) (hI : Rows2 w v rows) (hm : ∀ r ∈ rows, many ≤ r.length) (hn : rows.length ≤ 1000) (hm1 : many ≤ 1000) :
    Calls Tryz.prog 127 #[v, .int .i64 many] w fun e w' => ∃ ov hs, e = .returned ov ∧ TurnS w.heap.size many hs (colOf rows) ov w w' := by
  obtain ⟨a, cap, rfl, hcap, hlen, hk⟩ := hI
  have HM := Lib.hid hm
  clear hm
  go_enter Tryz.func127, Tryz.ntmps127
  go_wp2_with fail
  obtain ⟨W1, hW1⟩ : ∃ W1, w.alloc (.cells #[] 23) = W1 := ⟨_, rfl⟩
  have hT0 : TurnS w.heap.size 0 (fun _ => undef) (colOf rows) (.slice (some ⟨w.heap.size, 0, none⟩) 0 0) w W1 := by
    rw [← hW1]
    exact ⟨World.ownsRow_lit w #[] 0 (Nat.le_refl _) (by simp) rfl, fun i hi => absurd hi (Nat.not_lt_zero _), fun i j hi => absurd hi (Nat.not_lt_zero _), (Below.refl _ _).alloc (Nat.le_refl _) _, by simp⟩
  rw [hW1]
  clear hW1
  go_loopw [5, 6] (fun o i wr => ∃ (k : Nat) (hs : Nat → Value) (ov : Value), k ≤ many ∧ i = .int .i64 k ∧ o = ov ∧ TurnS w.heap.size k hs (colOf rows) ov w wr) (fun _ i _ => many - (intOf i).toNat)
  case atStart => exact ⟨0, _, _, Nat.zero_le _, rfl, rfl, hT0⟩
  case round =>
    obtain ⟨k, hs, ov, hkm, rfl, rfl, hT⟩ := hrel
    by_cases hlt : k < many
    · obtain ⟨Wk, hWk⟩ : ∃ Wk : World, Wk = wr := ⟨_, rfl⟩
      rw [← hWk] at hT ⊢
      clear hWk
      obtain ⟨pa, pc, rfl⟩ := owns_slice hT.out
      go_wp2_with fail
      have hT2 := hT.below ((Below.refl _ _).alloc (Nat.le_refl _) (.cells #[] 3))
      have hc0 : (Wk.alloc (.cells #[] 3)).ownsRow Wk.heap.size 3 1 (.slice (some ⟨Wk.heap.size, 0, none⟩) 0 0) 0 [] := World.ownsRow_lit Wk #[] 0 (Nat.le_refl _) (by simp) rfl
      have hlow : ∀ i, i < k → ∀ g, (hs i).ownBlock = some g → g < Wk.heap.size := fun i hi g e => ((hT.row i hi).lt g e).2
      have HLOW := Lib.hid hlow
      have hsz0 : Wk.heap.size ≤ (Wk.alloc (.cells #[] 3)).heap.size := by simp
      have htop := hT.top
      clear hlow
      go_loopw [7, 8] (fun c i wq => ∃ (j : Nat) (cv : Value), j ≤ rows.length ∧ i = .int .i64 j ∧ c = cv ∧ wq.ownsRow Wk.heap.size 3 1 cv j ((rows.take j).map fun r => Value.int .i64 (nth r k)) ∧ TurnS w.heap.size k hs (colOf rows) (.slice pa k pc) w wq ∧ Wk.heap.size ≤ wq.heap.size) (fun _ i _ => rows.length - (intOf i).toNat)
      case atStart => exact ⟨0, _, Nat.zero_le _, rfl, rfl, hc0, hT2, hsz0⟩
      case round =>
        obtain ⟨j, cv, hjn, rfl, rfl, hcv, hT3, hsz3⟩ := hrel
        obtain ⟨ca, cc, rfl⟩ := owns_slice hcv
        by_cases hjl : j < rows.length
        · obtain ⟨bj, offj, rj, rfl, hcj, hrj⟩ := hk j hjl
          have hlj := HM.out _ (List.getElem_mem hjl)
          obtain ⟨hrz, bb, oo, n', c', rfl, hcz⟩ := hrj.get (k := k) (by omega)
          have hlj2 := hrj
          obtain ⟨p2, c2, e2, q1, q2, -, -⟩ := hlj2
          injection e2 with e3 e4 e5
          subst e3; subst e5
          rw [e4] at hcj
          have HE := Lib.hid e4
          have hcj := (hT3.low.cell (p := ⟨bj, offj + j, none⟩) (lt_of_cell hcj)).trans hcj
          have hcz := (hT3.low.cell (p := ⟨bb, oo + k, none⟩) (lt_of_cell hcz)).trans hcz
          obtain ⟨z, hz⟩ : ∃ z, z = nth rows[j] k := ⟨_, rfl⟩
          rw [← hz] at hcz
          have HZ := Lib.hid hz
          obtain ⟨L, hL⟩ : ∃ L, L = rows[j].length := ⟨_, rfl⟩
          rw [← hL] at hcj q1 q2 hlj
          have i1 : (0 : Int) ≤ (k : Int) := by omega
          have i2 : (k : Int) < (L : Int) := by omega
          have hj6 : j ≤ 1000000 := by omega
          have hbs : Wk.heap.size ≤ (wr.alloc (.cells #[.int .i64 z] 3)).heap.size := by simp; omega
          clear hz hL e4 hk hrj
          go_wp2_with (at_builtin; refine app_int rfl _ _ rfl Wk.heap.size _ _ _ rfl (hcv.alloc _) wr.heap.size 1 z rfl (cell_new1 _ _ _) hj6 hbs ?_; intro v9 w9 hown9 hgrow9)
          have hcva := hcv.alloc (.cells #[.int .i64 z] 3)
          have hT4 := hT3.below ((Below.refl _ _).alloc (Nat.le_refl _) (.cells #[.int .i64 z] 3))
          have hT9 : TurnS w.heap.size k hs (colOf rows) (.slice pa k pc) w w9 := by
            refine ⟨owns_other hT4.out hgrow9 (fun g e e' => owns_types hcva hT4.out (by decide) g e' e), fun i hi => owns_other (hT4.row i hi) hgrow9 (fun g e e' => ?_), hT4.sep, hT4.low.grown hgrow9 hT4.top (fun g e => ?_), Nat.le_trans hT4.top hgrow9.size⟩
            · have h1 := HLOW.out i hi g e
              have h2 := (hcva.lt g e').1
              omega
            · have h2 := (hcva.lt g e).1
              omega
          have hown9' : w9.ownsRow Wk.heap.size 3 1 v9 (j + 1) ((rows.take (j + 1)).map fun r => Value.int .i64 (nth r k)) := by
            rw [List.take_succ_eq_append_getElem hjl, List.map_append, List.map_cons, List.map_nil, ← HZ.out]; exact hown9
          have hsz9 : Wk.heap.size ≤ w9.heap.size := Nat.le_trans hbs hgrow9.size
          clear hown9
          go_roundw
          case rel => exact ⟨j + 1, v9, by omega, by go_num, rfl, hown9', hT9, hsz9⟩
          case measure => simp [intOf]; omega
        · obtain rfl : j = rows.length := by omega
          have hcol : wr.ownsRow Wk.heap.size 3 1 (.slice ca rows.length cc) (colOf rows k).length ((colOf rows k).map (Value.int .i64)) := by
            have e1 : (colOf rows k).map (Value.int .i64) = (rows.take rows.length).map fun r => Value.int .i64 (nth r k) := by unfold colOf; rw [List.map_map, List.take_length]; rfl
            have e2 : (colOf rows k).length = rows.length := by simp [colOf]
            rw [e1, e2]; exact hcv
          have hk6 : k ≤ 1000000 := by omega
          have hbs : w.heap.size ≤ (wr.alloc (.cells #[.slice ca rows.length cc] 23)).heap.size := by have := hT3.top; simp; omega
          have hTa := hT3.below ((Below.refl _ _).alloc (Nat.le_refl _) (.cells #[.slice ca rows.length cc] 23))
          have hoa := hTa.out
          go_wp2_with (at_builtin; refine app_row_at rfl _ _ rfl w.heap.size _ _ _ rfl hoa wr.heap.size 1 ca rows.length cc rfl (cell_new1 _ _ _) hk6 hbs ?_; intro v9 w9 hown9 hgrow9)
          have hT9 := hTa.more (owns_below hcol ((Below.refl _ _).alloc (Nat.le_refl _) _)) HLOW.out htop hown9 hgrow9
          have hT9' : TurnS w.heap.size (k + 1) (fun i => if i = k then .slice ca rows.length cc else hs i) (colOf rows) v9 w w9 := by
            have e : (fun i => if i = k then colOf rows k else colOf rows i) = colOf rows := by
              funext i
              by_cases e : i = k
              · rw [if_pos e, e]
              · rw [if_neg e]
            rw [e] at hT9; exact hT9
          clear hT9
          go_roundw
          case rel => exact ⟨k + 1, _, v9, by omega, by go_num, rfl, hT9'⟩
          case measure => simp [intOf]; omega
    · obtain rfl : k = many := by omega
      go_wp2_with fail
      go_ret
      exact ⟨_, hs, rfl, hT⟩

end Go.Proofs.YtjjoadmkpbmhpaaGreat

namespace Go.Proofs.YtjjoadmkpbmhpaaGreat
open Go.RowKit

set_option maxRecDepth 100000 in
theorem Reduced_mat (v : Value) (rows : List (List Int)) (m many : Nat) (w : World) (hI : Rows2 w v rows) (hm : ∀ r ∈ rows, r.length = m) (hnum : ∀ r ∈ rows, ∀ z ∈ r, 0 ≤ z ∧ z < 1073741789) (hn : rows.length ≤ 1000000) (hm1 : m ≤ 1000000) (hmany : many ≤ m) :
    Calls Tryz.prog 128 #[v, .int .i64 many] w fun e w' => ∃ a c pv B0, e = .returned (.tuple #[.slice a rows.length c, pv]) ∧ rows.length ≤ c ∧ RedS w.heap.size B0 a rows.length m (matOf rows) w many pv w' :=
  Reduced_any v rows m many w hI hm hnum hn hm1 hmany

end Go.Proofs.YtjjoadmkpbmhpaaGreat

namespace Go.Proofs.YtjjoadmkpbmhpaaGreat
open Go.RowKit

/-- The pivots go up. -/
def Sorted (l : List Nat) : Prop := ∀ i j (hi : i < l.length) (hj : j < l.length), i < j → l[i] < l[j]
theorem sorted_snoc {l : List Nat} {c : Nat} (h : Sorted l) (hc : ∀ p ∈ l, p < c) : Sorted (l ++ [c]) := by
  intro i j hi hj hij
  rw [List.length_append, List.length_singleton] at hi hj
  by_cases ej : j = l.length
  · subst ej
    rw [List.getElem_append_left (by omega), List.getElem_append_right (Nat.le_refl _)]
    simpa using hc _ (List.getElem_mem (by omega : i < l.length))
  · rw [List.getElem_append_left (by omega), List.getElem_append_left (by omega)]
    exact h i j (by omega) (by omega) hij
theorem stepR_lt {n c : Nat} {s : Mat × List Nat} (h : (∀ p ∈ s.2, p < c) ∧ Sorted s.2) : (∀ p ∈ (stepR n s c).2, p < c + 1) ∧ Sorted (stepR n s c).2 := by
  unfold stepR
  split
  · refine ⟨fun p hp => ?_, sorted_snoc h.2 h.1⟩
    rcases List.mem_append.1 hp with h1 | h1
    · exact Nat.lt_succ_of_lt (h.1 p h1)
    · rw [List.mem_singleton.1 h1]; omega
  · exact ⟨fun p hp => Nat.lt_succ_of_lt (h.1 p hp), h.2⟩
theorem redR_lt (n : Nat) (x : Mat) : ∀ c, (∀ p ∈ (redR n x c).2, p < c) ∧ Sorted (redR n x c).2
  | 0 => ⟨by simp [redR], fun i j hi => by simp [redR] at hi⟩
  | c + 1 => by rw [redR_succ]; exact stepR_lt (redR_lt n x c)

/-- The next pivot tells whether a column is one. -/
structure Next (piv : List Nat) (c k : Nat) : Prop where
  le : k ≤ piv.length
  lo : ∀ i (h : i < piv.length), i < k → piv[i] < c
  up : ∀ i (h : i < piv.length), k ≤ i → c ≤ piv[i]
theorem Next.zero (piv : List Nat) : Next piv 0 0 := ⟨Nat.zero_le _, fun _ _ h => absurd h (Nat.not_lt_zero _), fun _ _ _ => Nat.zero_le _⟩
theorem Next.no {piv : List Nat} {c k : Nat} (h : Next piv c k) (hs : Sorted piv) (e : ∀ hk : k < piv.length, piv[k] ≠ c) : Next piv (c + 1) k ∧ c ∉ piv := by
  have key : ∀ i (hi : i < piv.length), k ≤ i → c < piv[i] := fun i hi hik => by
    by_cases e1 : i = k
    · subst e1; have := h.up i hi hik; have := e hi; omega
    · have := h.up k (by omega) (Nat.le_refl _); have := hs k i (by omega) hi (by omega); omega
  refine ⟨⟨h.le, fun i hi hik => by have := h.lo i hi hik; omega, fun i hi hik => by have := key i hi hik; omega⟩, fun hm => ?_⟩
  obtain ⟨i, hi, rfl⟩ := List.mem_iff_getElem.1 hm
  by_cases hik : i < k
  · have := h.lo i hi hik; omega
  · have := key i hi (by omega); omega

end Go.Proofs.YtjjoadmkpbmhpaaGreat

namespace Go.Proofs.YtjjoadmkpbmhpaaGreat

/-- A matrix of numbers, in the field. -/
def cm (X : Mat) : FMat := fun i j => cq (X i j)
def pf (l : List Nat) : Nat → Nat := fun k => l[k]?.getD 0

theorem Red.congr {n m : Nat} {X0 X Y : FMat} {r : Nat} {p q : Nat → Nat} {c : Nat} (h : Red n m X0 X r p c) (e : ∀ i, i < n → ∀ j, X i j = Y i j) (eq : ∀ k, k < r → p k = q k) : Red n m X0 Y r q c := by
  have er : ∀ i, i < n → X i = Y i := fun i hi => funext (e i hi)
  refine ⟨h.rn, fun v => Iff.trans ?_ (h.ker v), fun i hi => er i hi ▸ h.span i hi, fun k hk => eq k hk ▸ h.pc k hk, fun k l h1 h2 => eq k (by omega) ▸ eq l h2 ▸ h.mono k l h1 h2, fun k hk => ?_, fun k i hk hi hne => ?_, fun i j h1 h2 h3 => ?_, fun k j hk hj => ?_⟩
  · exact ⟨fun hv i hi => by rw [er i hi]; exact hv i hi, fun hv i hi => by rw [← er i hi]; exact hv i hi⟩
  · rw [← eq k hk, ← e k (Nat.lt_of_lt_of_le hk h.rn)]; exact h.one k hk
  · rw [← eq k hk, ← e i hi]; exact h.zero k i hk hi hne
  · rw [← e i h2]; exact h.low i j h1 h2 h3
  · rw [← e k (Nat.lt_of_lt_of_le hk h.rn)]; exact h.left k j hk (by rw [eq k hk]; exact hj)

theorem findP_zero {x : Mat} {n c r : Nat} {i : Nat} (h1 : r ≤ i) (h2 : i < findP x n c r) : x i c = 0 := findF_zero x c (n - r) r i h1 h2
theorem findP_le (x : Mat) (n c r : Nat) (h : r ≤ n) : findP x n c r ≤ n := by have := (findF_lt x c (n - r) r).1; unfold findP; omega
theorem findP_ne {x : Mat} {n c r : Nat} (h : findP x n c r < n) (hr : r ≤ n) : x (findP x n c r) c ≠ 0 := findF_ne x c (n - r) r (by unfold findP at h; omega)

theorem cq_ne {z : Int} (h : 0 ≤ z ∧ z < 1073741789) (hz : z ≠ 0) : cq z ≠ 0 := fun e => by
  rw [cq_zero] at e; omega
theorem cq_inv {z : Int} (h : cq z ≠ 0) : cq (invQ z) * cq z = 1 := inv_z h

theorem putM_at (X : Mat) (k : Nat) (f : Nat → Int) (j : Nat) : putM X k f k j = f j := if_pos rfl
theorem putM_ne (X : Mat) (k : Nat) (f : Nat → Int) (i j : Nat) (h : i ≠ k) : putM X k f i j = X i j := if_neg h

theorem pivR_field {X : Mat} {n r c k : Nat} (hr : r < n) (i j : Nat) (hi : i < n) : cm (pivR X n r c k) i j = stepF (cm X) r c k (cq (invQ (X k c))) i j := by
  show cq (putM (lessA (putM X k (X r)) (ownR X c k) c n) r (ownR X c k) i j) = _
  by_cases e : i = r
  · subst e
    rw [stepF_r]
    rw [putM_at]
    unfold ownR
    rw [cq_mod, cq_mul]
    show _ = cq (X k j) * _
    grind
  · rw [putM_ne _ _ _ _ _ e]
    unfold lessA
    rw [if_pos hi, cq_mod, cq_add, cq_neg, cq_mod, cq_mul]
    unfold ownR
    rw [cq_mod, cq_mul]
    by_cases e1 : i = k
    · subst e1
      rw [stepF_k _ _ _ _ _ _ e, putM_at, putM_at]
      show _ = cq (X r j) - cq (X r c) * (cq (X i j) * _)
      generalize cq (invQ (X i c)) = s at *
      grind
    · rw [stepF_o _ _ _ _ _ _ _ e e1, putM_ne _ _ _ _ _ e1, putM_ne _ _ _ _ _ e1]
      show _ = cq (X i j) - cq (X i c) * (cq (X k j) * _)
      generalize cq (invQ (X k c)) = s at *
      grind

theorem pf_app (l : List Nat) (c : Nat) : (∀ k, k < l.length → pf l k = pf (l ++ [c]) k) ∧ pf (l ++ [c]) l.length = c := by
  refine ⟨fun k hk => ?_, ?_⟩
  · unfold pf; rw [List.getElem?_append_left hk]
  · unfold pf; rw [List.getElem?_append_right (Nat.le_refl _)]; simp

/-- The reference's reduction is a reduction. -/
theorem redR_red {n m : Nat} {X : Mat} (hX : NumM n m X) : ∀ c, c ≤ m → Red n m (cm X) (cm (redR n X c).1) (redR n X c).2.length (pf (redR n X c).2) c
  | 0, _ => red_start n m (cm X) _
  | c + 1, hc => by
    have ih := redR_red hX c (by omega)
    have hn := redR_num hX c
    rw [redR_succ]
    generalize redR n X c = s at ih hn
    obtain ⟨y, piv⟩ := s
    simp only at ih hn
    have hle := findP_le y n c piv.length ih.rn
    by_cases hk : findP y n c piv.length < n
    · rw [stepR_some rfl hk]
      show Red n m (cm X) (cm (pivR y n piv.length c (findP y n c piv.length))) (piv ++ [c]).length (pf (piv ++ [c])) (c + 1)
      have hge := findP_ge y n c piv.length
      have hne := cq_ne (hn _ c hk (by omega)) (findP_ne hk ih.rn)
      rw [List.length_append, List.length_singleton]
      have h1 := pf_app piv c
      have ih' := ih.congr (fun _ _ _ => rfl) h1.1
      have hst := red_step ih' hge hk (cq_inv hne) h1.2
      exact hst.congr (fun i hi j => (pivR_field (X := y) (n := n) (r := piv.length) (c := c) (k := findP y n c piv.length) (by omega) i j hi).symm) (fun _ _ => rfl)
    · have hk' : findP y n c piv.length = n := by omega
      rw [stepR_none hk']
      refine red_none ih (fun i h1 h2 => ?_)
      show cq (y i c) = 0
      have h1' : piv.length ≤ i := h1
      rw [findP_zero (x := y) (n := n) (c := c) h1' (by omega)]; exact cq_0

/-! The program's reduction computes the same. -/
theorem findF_congr {x y : Mat} {c n : Nat} (h : ∀ i, i < n → x i c = y i c) : ∀ f k, k + f ≤ n → findF x c f k = findF y c f k
  | 0, _, _ => rfl
  | f + 1, k, hk => by
    unfold findF
    rw [h k (by omega), findF_congr h f (k + 1) (by omega)]

theorem pivM_pivR {x X : Mat} {n m r c k : Nat} (hX : NumM n m X) (e : ∀ i j, i < n → j < m → x i j = X i j) (hr : r < n) (hk : k < n) (hc : c < m) (h0 : ∀ j, j < c → X k j = 0) (i j : Nat) (hi : i < n) (hj : j < m) :
    pivM x n r c k i j = pivR X n r c k i j := by
  have hown0 : j < c → ownR X c k j = 0 := fun h => by unfold ownR; rw [h0 j h, Int.mul_zero]; rfl
  have hvr : x k j * invQ (x k c) % 1073741789 = ownR X c k j := by
    unfold ownR; rw [e k j hk hj, e k c hk hc, Int.mul_comm]
  have hX1 : swapM x r k i j = if i = r then X k j else putM X k (X r) i j := by
    unfold swapM putM
    by_cases e1 : i = r
    · rw [if_pos e1, if_pos e1, e k j hk hj]
    · rw [if_neg e1, if_neg e1]
      by_cases e2 : i = k
      · rw [if_pos e2, if_pos e2, e r j hr hj]
      · rw [if_neg e2, if_neg e2, e i j hi hj]
  have hX1c : i ≠ r → swapM x r k i c = putM X k (X r) i c := fun e1 => by
    unfold swapM putM
    rw [if_neg e1]
    by_cases e2 : i = k
    · rw [if_pos e2, if_pos e2, e r c hr hc]
    · rw [if_neg e2, if_neg e2, e i c hi hc]
  show clearA (scaleM (swapM x r k) r c (invQ (x k c))) r c n i j = putM (lessA (putM X k (X r)) (ownR X c k) c n) r (ownR X c k) i j
  by_cases e1 : i = r
  · subst e1
    unfold clearA
    rw [if_neg (by omega)]
    unfold putM
    rw [if_pos rfl]
    unfold scaleM
    by_cases hjc : c ≤ j
    · rw [if_pos ⟨rfl, hjc⟩]
      have : swapM x i k i j = x k j := by unfold swapM; rw [if_pos rfl]
      rw [this]; exact hvr
    · rw [if_neg (by omega), hX1, if_pos rfl, hown0 (by omega), h0 j (by omega)]
  · have hP : putM (lessA (putM X k (X r)) (ownR X c k) c n) r (ownR X c k) i j = (putM X k (X r) i j + -(putM X k (X r) i c * ownR X c k j % 1073741789)) % 1073741789 := by
      show (if i = r then _ else lessA (putM X k (X r)) (ownR X c k) c n i j) = _
      rw [if_neg e1]
      unfold lessA; rw [if_pos hi]
    rw [hP]
    have hz : ∀ jj, scaleM (swapM x r k) r c (invQ (x k c)) i jj = swapM x r k i jj := fun jj => by unfold scaleM; rw [if_neg (by omega)]
    unfold clearA
    by_cases hjc : c ≤ j
    · rw [if_pos ⟨e1, hi, hjc⟩, hz, hz, hX1, if_neg e1, hX1c e1]
      have : scaleM (swapM x r k) r c (invQ (x k c)) r j = ownR X c k j := by
        unfold scaleM
        rw [if_pos ⟨rfl, hjc⟩]
        have : swapM x r k r j = x k j := by unfold swapM; rw [if_pos rfl]
        rw [this]; exact hvr
      rw [this]
    · rw [if_neg (by omega), hz, hX1, if_neg e1, hown0 (by omega), Int.mul_zero]
      have hnum : 0 ≤ putM X k (X r) i j ∧ putM X k (X r) i j < 1073741789 := (hX.put (i := k) (fun j hj => hX r j hr hj)) i j hi hj
      omega

theorem redM_redR {n m : Nat} {x X : Mat} (hX : NumM n m X) (e : ∀ i j, i < n → j < m → x i j = X i j) : ∀ c, c ≤ m → (redM n x c).2 = (redR n X c).2 ∧ ∀ i j, i < n → j < m → (redM n x c).1 i j = (redR n X c).1 i j
  | 0, _ => ⟨rfl, e⟩
  | c + 1, hc => by
    obtain ⟨ih1, ih2⟩ := redM_redR hX e c (by omega)
    have hn := redR_num hX c
    have hR := redR_red hX c (by omega)
    rw [redM_succ, redR_succ]
    generalize redM n x c = s at ih1 ih2
    generalize redR n X c = u at ih1 ih2 hn hR
    obtain ⟨y, piv⟩ := s
    obtain ⟨Y, piv'⟩ := u
    simp only at ih1 ih2 hn hR
    subst ih1
    have hfind : findP y n c piv.length = findP Y n c piv.length := findF_congr (fun i hi => ih2 i c hi (by omega)) _ _ (by have := hR.rn; omega)
    have hle := findP_le Y n c piv.length hR.rn
    by_cases hk : findP Y n c piv.length < n
    · rw [stepM_some hfind hk, stepR_some rfl hk]
      refine ⟨rfl, fun i j hi hj => ?_⟩
      have hge := findP_ge Y n c piv.length
      refine pivM_pivR hn ih2 (by omega) hk (by omega) (fun jj hjj => ?_) i j hi hj
      have h1 := hR.low _ jj hge hk hjj
      have h2 := hn _ jj hk (by omega)
      rw [show cm Y (findP Y n c piv.length) jj = cq (Y (findP Y n c piv.length) jj) from rfl, cq_zero] at h1
      omega
    · have hk' : findP Y n c piv.length = n := by omega
      rw [stepM_none (hfind.trans hk'), stepR_none hk']
      exact ⟨rfl, ih2⟩

end Go.Proofs.YtjjoadmkpbmhpaaGreat
