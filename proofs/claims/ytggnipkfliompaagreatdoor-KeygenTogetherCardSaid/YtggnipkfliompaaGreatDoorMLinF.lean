/- Package linear: copies of rows. Package linear: turned. Package linear: the rank. Package linear: the rank of any rows. Is a number from one to another one? Blocks that are known whole; rows of the call's own, and what keeps them. -/
import Derived.Test.YtggnipkfliompaaGreatDoorMLinE
import Derived.Test.YtggnipkfliompaaGreatDoorMBase
import Derived.Test.YtggnipkfliompaaGreatDoorMCalm
import Derived.WalkSpells
import Derived.Deep.OwnRows
import Derived.Deep.RegionHeld3
set_option maxHeartbeats 4000000
set_option maxRecDepth 100000
namespace Go.Proofs.YtggnipkfliompaaGreatDoor
open Go.RowKit
theorem clone_any (v : Value) (zs : List Int) (w : World) (hI : Ints w v zs) (hnn : ∃ b off n c, v = .slice (some ⟨b, off, none⟩) n c) :
  Calls Tryz.prog 104 #[v] w fun e w' => ∃ v', e = .returned v' ∧ w'.ownsRow w.heap.size 3 1 v' zs.length (zs.map (Value.int .i64)) ∧ Below w.heap.size w w' := by
 obtain ⟨a, cap, rfl, hcap, hlen, hr, hk⟩ := hI
 obtain ⟨b, off, n, c, hnn⟩ := hnn
 obtain rfl : a = some ⟨b, off, none⟩ := by cases hnn; rfl
 clear hnn
 have hcell : ∀ j (h : j < zs.length), w.cell? ((⟨b, off, none⟩ : Addr).add j) = some (.int .i64 zs[j]) := by
  intro j h
  obtain ⟨b', off', e, hc⟩ := hk j h
  cases e
  unfold Addr.add
  split
  ·rename_i e; subst e; simpa using hc
  ·exact hc
 clear hk
 go_enter Tryz.func104, Tryz.ntmps104
 have hq : (binOp BinOp.eql 23 (.slice (some ⟨b, off, none⟩) zs.length cap) (.slice none 0 0)).run Tryz.prog w = .ok (.bool false) w := by kernel_rfl
 have hb1 : Below w.heap.size w (w.alloc (.cells #[] 3)) := (Below.refl _ _).alloc (Nat.le_refl _) _
 have hcell1 : ∀ j (h : j < zs.length), (w.alloc (.cells #[] 3)).cell? ((⟨b, off, none⟩ : Addr).add j) = some (.int .i64 zs[j]) := fun j h => by
  rw [hb1.cell (p := (⟨b, off, none⟩ : Addr).add j) (by
   obtain ⟨o, ho, -⟩ := cells_of_cell (hcell j h)
   exact (Array.getElem?_eq_some_iff.1 ho).1)]
  exact hcell j h
 have hown1 : (w.alloc (.cells #[] 3)).ownsRow w.heap.size 3 1 (.slice (some ⟨w.heap.size, 0, none⟩) 0 0) 0 [] := World.ownsRow_lit w #[] 0 (Nat.le_refl _) (by simp) rfl
 go_wp2_with (at_builtin; refine app_ints rfl _ _ rfl w.heap.size 0 _ [] rfl hown1 ⟨b, off, none⟩ cap zs rfl hcell1 (by omega) (by simp) ?_; intro v9 w9 hown9 hgrow9)
 go_ret
 refine ⟨v9, rfl, ?_, hb1.grown hgrow9 (by simp) (fun k e => by cases e; exact Nat.le_refl _)⟩
 rw [Nat.zero_add, List.nil_append] at hown9; exact hown9
def matOf (rows : List (List Int)) : Mat := fun i k => ((rows[i]?).getD [])[k]?.getD 0
theorem matOf_at {rows : List (List Int)} {i k : Nat} (hi : i < rows.length) (hk : k < rows[i].length) : matOf rows i k = rows[i][k] := by
 unfold matOf; rw [List.getElem?_eq_getElem hi, Option.getD_some, List.getElem?_eq_getElem hk, Option.getD_some]
theorem infoRow : (Tryz.prog.info? 23).map (fun i => (i.zero, i.size, i.bytes)) = some (some (.slice none 0 0), 1, 24) := by kernel_rfl
theorem owns_cells {W : World} {B : Nat} {v : Value} {zs : List Int} (h : W.ownsRow B 3 1 v zs.length (zs.map (Value.int .i64))) (hm : 0 < zs.length) : ∃ g c, v = .slice (some ⟨g, 0, none⟩) zs.length c ∧ B ≤ g ∧ g < W.heap.size ∧ ∀ k (hk : k < zs.length), W.cell? ⟨g, k, none⟩ = some (.int .i64 zs[k]) ∧ W.frozen? ⟨g, k, none⟩ = false := by
 have h0 := h
 obtain ⟨-, ⟨-, e⟩ | ⟨g, cap, cur, rfl, hB, hh, -⟩⟩ := h
 ·omega
 ·refine ⟨g, cap, rfl, hB, (Array.getElem?_eq_some_iff.1 hh).1, fun k hk => ⟨?_, h0.frozenAt k⟩⟩
  rw [h0.cellAt k (by omega), List.getElem?_map, List.getElem?_eq_getElem hk]; rfl
structure CopyI (S n m : Nat) (x : Mat) (w : World) (k : Nat) (rb : Nat → Nat) (W : World) : Prop where
 low : Below S w W
 gt : ∀ i, i < k → S < rb i ∧ rb i < W.heap.size
 inj : ∀ i j, i < k → j < k → rb i = rb j → i = j
 row : ∀ i, i < k → ∃ rc, W.cell? ⟨S, i, none⟩ = some (.slice (some ⟨rb i, 0, none⟩) m rc)
 any : ∀ i, i < n → ∃ v, W.cell? ⟨S, i, none⟩ = some v
 fro : ∀ i, i < n → W.frozen? ⟨S, i, none⟩ = false
 elem : ∀ i j, i < k → j < m → W.cell? ⟨rb i, j, none⟩ = some (.int .i64 (x i j)) ∧ W.frozen? ⟨rb i, j, none⟩ = false
end Go.Proofs.YtggnipkfliompaaGreatDoor
namespace Go.Proofs.YtggnipkfliompaaGreatDoor
open Go.RowKit
theorem copyI_keep {S n m B : Nat} {x : Mat} {w W W' : World} {k : Nat} {rb : Nat → Nat} {v : Value} (h : CopyI S n m x w k rb W) (hb : Below B W W') (hS : S < B) (hrb : ∀ i, i < k → rb i < B) :
  CopyI S n m x w k rb (W'.setCell ⟨S, k, none⟩ v) := by
 have hcell : ∀ {o : Nat} {u : Value}, W.cell? ⟨S, o, none⟩ = some u → W'.cell? ⟨S, o, none⟩ = some u := fun h => by rw [hb.cell (p := ⟨S, _, none⟩) hS]; exact h
 have hsz : (W'.setCell ⟨S, k, none⟩ v).heap.size = W'.heap.size := by simp [World.setCell]
 refine ⟨(h.low.trans (hb.mono (Nat.le_of_lt hS))).setCell (Nat.le_refl _) _, fun i hi => ?_, h.inj, fun i hi => ?_, fun i hi => ?_, fun i hi => ?_, fun i j hi hj => ?_⟩
 ·rw [hsz]; have := h.gt i hi; have := hb.size; omega
 ·obtain ⟨rc, hc⟩ := h.row i hi
  exact ⟨rc, by rw [set_other (.inr (by omega))]; exact hcell hc⟩
 ·obtain ⟨u, hu⟩ := h.any i hi
  by_cases e : k = i
  ·subst e; exact ⟨_, World.cell?_setCell_same' _ _ _ (by rw [hcell hu]; rfl)⟩
  ·rw [set_other (.inr e)]; exact ⟨u, hcell hu⟩
 ·rw [World.frozen?_setCell, hb.frozen (p := ⟨S, i, none⟩) hS]; exact h.fro i hi
 ·have hgt := h.gt i hi
  have he := h.elem i j hi hj
  rw [World.frozen?_setCell, set_other (.inl (by omega)), hb.cell (p := ⟨rb i, j, none⟩) (hrb i hi), hb.frozen (p := ⟨rb i, j, none⟩) (hrb i hi)]
  exact he
theorem copyI_done {S n m B : Nat} {x : Mat} {w W : World} {k : Nat} {rb : Nat → Nat} {v : Value} {zs : List Int} (h : CopyI S n m x w k rb W) (hrb : ∀ i, i < k → rb i < B) (hSB : S < B) (hc : W.cell? ⟨S, k, none⟩ = some v)
  (hown : W.ownsRow B 3 1 v zs.length (zs.map (Value.int .i64))) (hm : zs.length = m) (hm0 : 0 < m) (hx : ∀ j (hj : j < zs.length), x k j = zs[j]) :
  ∃ rb', CopyI S n m x w (k + 1) rb' W := by
 obtain ⟨g, c, rfl, hg1, hg2, hg3⟩ := owns_cells hown (by omega)
 refine ⟨fun i => if i = k then g else rb i, h.low, fun i hi => ?_, fun i j hi hj => ?_, fun i hi => ?_, h.any, h.fro, fun i j hi hj => ?_⟩
 ·show S < (if i = k then g else rb i) ∧ (if i = k then g else rb i) < _
  by_cases e : i = k
  ·rw [if_pos e]; omega
  ·rw [if_neg e]; exact h.gt i (by omega)
 ·show (if i = k then g else rb i) = (if j = k then g else rb j) → _
  by_cases e1 : i = k
  ·rw [if_pos e1]
   by_cases e2 : j = k
   ·intro _; omega
   ·rw [if_neg e2]; intro e; have := hrb j (by omega); omega
  ·rw [if_neg e1]
   by_cases e2 : j = k
   ·rw [if_pos e2]; intro e; have := hrb i (by omega); omega
   ·rw [if_neg e2]; exact h.inj i j (by omega) (by omega)
 ·show ∃ rc, W.cell? ⟨S, i, none⟩ = some (Value.slice (some ⟨if i = k then g else rb i, 0, none⟩) m rc)
  by_cases e : i = k
  ·subst e; rw [if_pos rfl]; exact ⟨c, by rw [← hm]; exact hc⟩
  ·rw [if_neg e]; exact h.row i (by omega)
 ·show W.cell? ⟨if i = k then g else rb i, j, none⟩ = _ ∧ W.frozen? ⟨if i = k then g else rb i, j, none⟩ = false
  by_cases e : i = k
  ·subst e; rw [if_pos rfl, hx j (by omega)]; exact hg3 j (by omega)
  ·rw [if_neg e]; exact h.elem i j (by omega) hj
def turnRow (rows : List (List Int)) (more : List Int) (k : Nat) : List Int := rows.map (fun r => r[k]?.getD 0) ++ [more[k]?.getD 0]
def turnMat (rows : List (List Int)) (more : List Int) : Mat := fun k j => (turnRow rows more k)[j]?.getD 0
theorem turnMat_num (rows : List (List Int)) (more : List Int) (HL : ∀ r ∈ rows, r.length = more.length) (hnum : ∀ r ∈ rows, ∀ z ∈ r, 0 ≤ z ∧ z < 1073741789) (hnm : ∀ z ∈ more, 0 ≤ z ∧ z < 1073741789)
  (i j : Nat) (hi : i < more.length) (hj : j < rows.length + 1) : 0 ≤ turnMat rows more i j ∧ turnMat rows more i j < 1073741789 := by
 unfold turnMat turnRow
 by_cases hlt : j < rows.length
 ·have hr : rows[j] ∈ rows := List.getElem_mem hlt
  have hli : i < rows[j].length := by rw [HL _ hr]; exact hi
  have e : (List.map (fun r : List Int => r[i]?.getD 0) rows ++ [more[i]?.getD 0])[j]? = some (rows[j][i]) := by
   rw [List.getElem?_append_left (by simpa using hlt), List.getElem?_map, List.getElem?_eq_getElem hlt]
   simp [List.getElem?_eq_getElem hli]
  rw [e]; exact hnum _ hr _ (List.getElem_mem hli)
 ·obtain rfl : j = rows.length := by omega
  have e : (List.map (fun r : List Int => r[i]?.getD 0) rows ++ [more[i]?.getD 0])[rows.length]? = some (more[i]) := by
   rw [List.getElem?_append_right (by simp)]
   simp [List.getElem?_eq_getElem hi]
  rw [e]; exact hnm _ (List.getElem_mem hi)
theorem turned_any (v u : Value) (rows : List (List Int)) (more : List Int) (w : World) (hI : Rows2 w v rows) (hU : Ints w u more) (hlen : ∀ r ∈ rows, r.length = more.length) (hnum : ∀ r ∈ rows, ∀ z ∈ r, 0 ≤ z ∧ z < 1073741789) (hnm : ∀ z ∈ more, 0 ≤ z ∧ z < 1073741789)
  (hn : rows.length ≤ 1000) (hm : more.length ≤ 1000) :
  Calls Tryz.prog 180 #[v, u] w fun e w' => ∃ rb, e = .returned (.slice (some ⟨w.heap.size, 0, none⟩) more.length more.length) ∧ Tab w.heap.size w.heap.size rb more.length (rows.length + 1) (turnMat rows more) w' ∧ w.heap.size < w'.heap.size ∧ Below w.heap.size w w' := by
 obtain ⟨a, cap, rfl, hcap, hl1, hk⟩ := hI
 obtain ⟨a2, cap2, rfl, hcap2, hl2, hr2, hk2⟩ := hU
 have HL := Lib.hid hlen
 clear hlen
 obtain ⟨i0, hi0, hz0, hz1, hz2⟩ := info_parts infoRow
 have hmk := run_make_row (P := Tryz.prog) 187 23 i0 (.slice none 0 0) Tryz.underlying187 hi0 hz0 hz1 rfl .i64 .i64 more.length (by rw [hz2]; omega) (by omega)
 go_enter Tryz.func180, Tryz.ntmps180
 go_wp2_with fail
 obtain ⟨W1, hW1⟩ : ∃ W1, w.alloc (.cells (madeCells #[.slice none 0 0] more.length) 23) = W1 := ⟨_, rfl⟩
 have hc0 : ∀ i, i < more.length → W1.cell? ⟨w.heap.size, i, none⟩ = some (.slice none 0 0) := fun i hi => by
  rw [← hW1, World.cell?_alloc_at _ _ _ _ rfl]; simp [madeCells, hi, Nat.mod_one]
 have hf0 : ∀ i, i < more.length → W1.frozen? ⟨w.heap.size, i, none⟩ = false := fun i hi => by rw [← hW1]; exact World.frozen?_alloc_at _ _ _ _ rfl
 have hb1 : Below w.heap.size w W1 := by rw [← hW1]; exact (Below.refl _ _).alloc (Nat.le_refl _) _
 have hs1 : w.heap.size < W1.heap.size := by rw [← hW1]; simp
 rw [hW1]
 go_loopw [6, 7, 9, 15] (fun _ _ _ i wr => ∃ (k : Nat) (rb : Nat → Nat), k ≤ more.length ∧ i = .int .i64 k ∧ CopyI w.heap.size more.length (rows.length + 1) (turnMat rows more) w k rb wr ∧ w.heap.size < wr.heap.size ∧ Hid (∀ i, k ≤ i → i < more.length → wr.cell? ⟨w.heap.size, i, none⟩ = some (.slice none 0 0))) (fun _ _ _ i _ => more.length - (intOf i).toNat)
 case atStart => exact ⟨0, fun _ => 0, Nat.zero_le _, rfl, ⟨hb1, fun i h => by omega, fun i j h => by omega, fun i h => by omega, fun i h => ⟨_, hc0 i h⟩, hf0, fun i j h => by omega⟩, hs1, Lib.hid fun i _ hi => hc0 i hi⟩
 case round =>
  obtain ⟨k, rb, hkn, rfl, hC, hsz, HN⟩ := hrel
  by_cases hlt : k < more.length
  ·obtain ⟨b, off, rfl, hc⟩ := hk2 k hlt
   have hc' : wr.cell? ⟨b, off + k, none⟩ = some (.int .i64 more[k]) := by rw [hC.low.cell (p := ⟨b, off + k, none⟩) (lt_of_cell hc)]; exact hc
   have hnk := HN.out k (Nat.le_refl _) hlt
   clear hk2 hc hc0 hf0
   go_wp2_with fail
   obtain ⟨Wk, hWk⟩ : ∃ Wk : World, Wk = wr := ⟨_, rfl⟩
   rw [← hWk] at hc' hnk hC hsz HN ⊢
   clear hWk
   have hrbk : ∀ i, i < k → rb i < Wk.heap.size := fun i hi => (hC.gt i hi).2
   have hnil0 : Wk.ownsRow Wk.heap.size 3 1 (.slice none 0 0) 0 [] := World.ownsRow_nil _ _ _ _
   go_loopw [9, 22] (fun _ i wr => ∃ (j : Nat) (hv : Value), j ≤ rows.length ∧ i = .int .i64 j ∧ CopyI w.heap.size more.length (rows.length + 1) (turnMat rows more) w k rb wr ∧ wr.cell? ⟨w.heap.size, k, none⟩ = some hv ∧
    wr.ownsRow Wk.heap.size 3 1 hv j ((rows.take j).map fun r => Value.int .i64 (r[k]?.getD 0)) ∧ Hid (∀ i, k < i → i < more.length → wr.cell? ⟨w.heap.size, i, none⟩ = some (.slice none 0 0)) ∧ Wk.heap.size ≤ wr.heap.size) (fun _ i _ => rows.length - (intOf i).toNat)
   case atStart => exact ⟨0, _, Nat.zero_le _, rfl, hC, hnk, by simpa using hnil0, Lib.hid fun i h1 h2 => HN.out i (by omega) h2, Nat.le_refl _⟩
   case round =>
    obtain ⟨j, hv, hjn, rfl, hC1, hhv, hown, HN1, hsz1⟩ := hrel
    obtain ⟨pa, pc, rfl⟩ := owns_slice hown
    have hfk := hC1.fro k hlt
    by_cases hjl : j < rows.length
    ·obtain ⟨bj, offj, rj, rfl, hcj, aj, capj, rfl, q1, q2, q3, q4⟩ := hk j hjl
     have HLj := Lib.hid (HL.out _ (List.getElem_mem hjl))
     obtain ⟨bj', offj', rfl, hcj'⟩ := q4 k (by rw [HLj.out]; exact hlt)
     have hcw : wr.cell? ⟨bj, offj + j, none⟩ = some (.slice (some ⟨bj', offj', none⟩) rows[j].length capj) := by rw [hC1.low.cell (p := ⟨bj, offj + j, none⟩) (lt_of_cell hcj)]; exact hcj
     rw [HLj.out] at hcw
     obtain ⟨z, hz⟩ : ∃ z, z = rows[j][k]'(by rw [HLj.out]; exact hlt) := ⟨_, rfl⟩
     rw [← hz] at hcj'
     have hcz : wr.cell? ⟨bj', offj' + k, none⟩ = some (.int .i64 z) := by rw [hC1.low.cell (p := ⟨bj', offj' + k, none⟩) (lt_of_cell hcj')]; exact hcj'
     have HZ := Lib.hid hz
     clear hz hcj' hcj q4 hk
     go_wp2_with fail
     obtain ⟨Wd, hWd⟩ : ∃ Wd : World, Wd = wr.drew := ⟨_, rfl⟩
     have hkd : Wd.cell? ⟨w.heap.size, k, none⟩ = some (.slice pa j pc) := by rw [hWd]; exact hhv
     have hzd : Wd.cell? ⟨bj', offj' + k, none⟩ = some (.int .i64 z) := by rw [hWd]; exact hcz
     have hbd : Below Wd.heap.size Wd (Wd.alloc (.cells #[.int .i64 z] 3)) := (Below.refl _ _).alloc (Nat.le_refl _) _
     have hownd : (Wd.alloc (.cells #[.int .i64 z] 3)).ownsRow Wk.heap.size 3 1 (.slice pa j pc) j ((rows.take j).map fun r => Value.int .i64 (r[k]?.getD 0)) := by rw [hWd]; exact (hown.drew).alloc _
     have hszd : Wk.heap.size ≤ Wd.heap.size := by rw [hWd]; exact hsz1
     obtain ⟨v9, w9, hrun, hown9, hgrow9⟩ := app_run 23 Wk.heap.size j _ _ hownd Wd.heap.size 1 z (cell_new1 _ _ _) (by omega) (by simp; omega)
     have hb9 : Below Wk.heap.size Wd w9 := ((Below.refl _ Wd).alloc hszd _).grown hgrow9 (by simp; omega) (fun g e => (hownd.lt g e).1)
     have hk9 : w9.cell? ⟨w.heap.size, k, none⟩ = some (.slice pa j pc) := by rw [hb9.cell (p := ⟨w.heap.size, k, none⟩) hsz]; exact hkd
     have hf9 : w9.frozen? ⟨w.heap.size, k, none⟩ = false := by rw [hb9.frozen (p := ⟨w.heap.size, k, none⟩) hsz, hWd]; exact hfk
     have hb9r : Below Wk.heap.size wr w9 := by rw [hWd] at hb9; exact (Below.refl _ wr).drew.trans hb9
     have hC9 := copyI_keep (v := v9) hC1 hb9r hsz hrbk
     have hown9' := ownsRow_setCell_below hown9 (a := ⟨w.heap.size, k, none⟩) hsz v9
     have hcell9 : (w9.setCell ⟨w.heap.size, k, none⟩ v9).cell? ⟨w.heap.size, k, none⟩ = some v9 := World.cell?_setCell_same' _ _ _ (by rw [hk9]; rfl)
     have hnil9 := Lib.hid (show ∀ i, k < i → i < more.length → (w9.setCell ⟨w.heap.size, k, none⟩ v9).cell? ⟨w.heap.size, i, none⟩ = some (.slice none 0 0) from fun i h1 h2 => by
      rw [set_other (.inr (by omega)), hb9r.cell (p := ⟨w.heap.size, i, none⟩) hsz]; exact HN1.out i h1 h2)
     have hsz9 : Wk.heap.size ≤ (w9.setCell ⟨w.heap.size, k, none⟩ v9).heap.size := by have := hb9r.size; simp [World.setCell]; omega
     have HL9 := Lib.hid (show ((rows.take j).map fun r => Value.int .i64 (r[k]?.getD 0)) ++ [.int .i64 z] = (rows.take (j + 1)).map fun r => Value.int .i64 (r[k]?.getD 0) by
      rw [List.take_succ_eq_append_getElem hjl, List.map_append, List.map_cons, List.map_nil, HZ.out, List.getElem?_eq_getElem (by rw [HLj.out]; exact hlt), Option.getD_some])
     refine wp_flow (by kernel_rfl) (by kernel_rfl) (chainC 10 11 13 Wd (Wd.alloc (.cells #[.int .i64 z] 3)) w9 (w9.setCell ⟨w.heap.size, k, none⟩ v9)) (by unfold chainC; rw [hWd]; rfl) (fun os K hos hK => ?_)
     have HK := Lib.hid hK
     have HO := Lib.hid hos
     clear hK hos
     have wait : ∀ j i, waitsB _ j i = true → waitsB os j i = true := fun j i h => by rw [← HO.out]; exact h
     have w115 := Lib.hid (wait 11 5 (by kernel_rfl))
     have w109 := Lib.hid (wait 10 9 (by kernel_rfl))
     have w1110 := Lib.hid (wait 11 10 (by kernel_rfl))
     have w1311 := Lib.hid (wait 13 11 (by kernel_rfl))
     clear wait HO hWd
     apply flow_step
     ·intro L W2 hcl hLi _ hC
      have hC' := chain_other 0 rfl rfl rfl hC
      clear hC hcl hLi
      go_simp
      exact ⟨hC', rfl⟩
     go_simp
     apply flow_step
     ·intro L W2 hcl hLi _ hC
      have hC' := chain_other 1 rfl rfl rfl hC
      clear hC hcl hLi
      go_simp
      exact ⟨hC', rfl⟩
     go_simp
     apply flow_step
     ·intro L W2 hcl hLi _ hC
      have hC' := chain_other 2 rfl rfl rfl hC
      clear hC hcl hLi
      go_simp
      exact ⟨hC', rfl⟩
     go_simp
     apply flow_step
     ·intro L W2 hcl hLi _ hC
      have hC' := chain_other 3 rfl rfl rfl hC
      clear hC hcl hLi
      go_simp
      exact ⟨hC', rfl⟩
     go_simp
     apply flow_step
     ·intro L W2 hcl hLi _ hC
      have hC' := chain_other 4 rfl rfl rfl hC
      clear hC hcl hLi
      go_simp
      exact ⟨hC', rfl⟩
     go_simp
     apply flow_step
     ·intro L W2 hcl hLi _ hC
      have hC' := chain_other 5 rfl rfl rfl hC
      have e11 := not_yet hcl 11 5 w115.out hLi
      have e13 := not_yet hcl 13 11 w1311.out e11
      have hf : W2.cell? ⟨w.heap.size, k, none⟩ = some (.slice pa j pc) := by
       cases e10 : L 10
       ·rw [chain_0 hC e10 e11 e13]; exact hkd
       ·rw [chain_1 hC e10 e11 e13]; exact below_cell hbd hkd
      clear hC hcl hLi e11 e13
      go_simp
      exact ⟨hC', rfl⟩
     go_simp
     apply flow_step
     ·intro L W2 hcl hLi _ hC
      have hC' := chain_other 6 rfl rfl rfl hC
      clear hC hcl hLi
      go_simp
      exact ⟨hC', rfl⟩
     go_simp
     apply flow_step
     ·intro L W2 hcl hLi _ hC
      have hC' := chain_other 7 rfl rfl rfl hC
      clear hC hcl hLi
      go_simp
      exact ⟨hC', rfl⟩
     go_simp
     apply flow_step
     ·intro L W2 hcl hLi _ hC
      have hC' := chain_other 8 rfl rfl rfl hC
      clear hC hcl hLi
      go_simp
      exact ⟨hC', rfl⟩
     go_simp
     apply flow_step
     ·intro L W2 hcl hLi _ hC
      have hC' := chain_other 9 rfl rfl rfl hC
      have e10 := not_yet hcl 10 9 w109.out hLi
      have e11 := not_yet hcl 11 10 w1110.out e10
      have e13 := not_yet hcl 13 11 w1311.out e11
      have e2 := chain_0 hC e10 e11 e13
      subst e2
      clear hC hcl hLi e10 e11 e13
      go_simp
      exact ⟨hC', rfl⟩
     go_simp
     apply flow_step
     ·intro L W2 hcl hLi _ hC
      have e11 := not_yet hcl 11 10 w1110.out hLi
      have e13 := not_yet hcl 13 11 w1311.out e11
      have e2 := chain_0 hC hLi e11 e13
      subst e2
      have hC' : chainC 10 11 13 W2 (W2.alloc (.cells #[.int .i64 z] 3)) w9 (w9.setCell ⟨w.heap.size, k, none⟩ v9) (fun j => j == 10 || L j) (W2.alloc (.cells #[.int .i64 z] 3)) := chain_to1 rfl rfl e11 e13
      clear hC hcl hLi e11 e13
      go_simp
      exact ⟨hC', rfl⟩
     go_simp
     apply flow_step
     ·intro L W2 hcl hLi hpre hC
      have e13 := not_yet hcl 13 11 w1311.out hLi
      have e2 := chain_1 hC (hpre 10 w1110.out) hLi e13
      subst e2
      rw [exec_app _ _ _ _ rfl (.slice pa j pc) (.slice (some ⟨Wd.heap.size, 0, none⟩) 1 1) rfl rfl hrun]
      exact ⟨chain_to2 rfl e13, rfl⟩
     go_simp
     apply flow_step
     ·intro L W2 hcl hLi _ hC
      have hC' := chain_other 12 rfl rfl rfl hC
      clear hC hcl hLi
      go_simp
      exact ⟨hC', rfl⟩
     go_simp
     apply flow_step
     ·intro L W2 hcl hLi hpre hC
      have e2 := chain_2 hC (hpre 11 w1311.out) hLi
      subst e2
      have hC' : chainC 10 11 13 Wd (Wd.alloc (.cells #[.int .i64 z] 3)) W2 (W2.setCell ⟨w.heap.size, k, none⟩ v9) (fun j => j == 13 || L j) (W2.setCell ⟨w.heap.size, k, none⟩ v9) := chain_to3
      obtain ⟨p9, c9, rfl⟩ := owns_slice hown9
      clear hC hcl hLi
      go_simp
      exact ⟨hC', rfl⟩
     go_simp
     apply flow_end
     apply HK.out
     intro W2 L hL hC
     obtain rfl := chain_3 hC (hL 13 (by decide))
     clear hC hL HK
     go_wp2_with fail
     go_roundw
     case rel => exact ⟨j + 1, v9, by omega, by go_num, hC9, hcell9, by rw [← HL9.out]; exact hown9', hnil9, hsz9⟩
     case measure => simp [intOf]; omega
    ·obtain rfl : j = rows.length := by omega
     have HT := Lib.hid (show (rows.take rows.length).map (fun r => Value.int .i64 (r[k]?.getD 0)) = (rows.map fun r => r[k]?.getD 0).map (Value.int .i64) by rw [List.take_length, List.map_map]; rfl)
     have hown' := hown.alloc (.cells #[.int .i64 more[k]] 3)
     have hszA : Wk.heap.size ≤ (wr.alloc (.cells #[.int .i64 more[k]] 3)).heap.size := by simp; omega
     go_wp2_with (at_builtin; refine app_int rfl _ _ rfl Wk.heap.size _ _ _ rfl hown' wr.heap.size 1 more[k] rfl (cell_new1 _ _ _) (by omega) hszA ?_; intro v9 w9 hown9 hgrow9; have hb9r : Below Wk.heap.size wr w9 := ((Below.refl _ wr).alloc hsz1 _).grown hgrow9 hszA (fun g e => (hown'.lt g e).1); have hk9 : w9.cell? ⟨w.heap.size, k, none⟩ = some (.slice pa rows.length pc) := (hb9r.cell (p := ⟨w.heap.size, k, none⟩) hsz).trans hhv; have hf9 : w9.frozen? ⟨w.heap.size, k, none⟩ = false := (hb9r.frozen (p := ⟨w.heap.size, k, none⟩) hsz).trans hfk; obtain ⟨p9, c9, rfl⟩ := owns_slice hown9)
     have hC9 := copyI_keep (v := .slice p9 (rows.length + 1) c9) hC1 hb9r hsz hrbk
     have hown9' := ownsRow_setCell_below hown9 (a := ⟨w.heap.size, k, none⟩) hsz (.slice p9 (rows.length + 1) c9)
     have hcell9 : (w9.setCell ⟨w.heap.size, k, none⟩ (.slice p9 (rows.length + 1) c9)).cell? ⟨w.heap.size, k, none⟩ = some (.slice p9 (rows.length + 1) c9) := World.cell?_setCell_same' _ _ _ (by rw [hk9]; rfl)
     have hlenT : (turnRow rows more k).length = rows.length + 1 := by simp [turnRow]
     have hownT : (w9.setCell ⟨w.heap.size, k, none⟩ (.slice p9 (rows.length + 1) c9)).ownsRow Wk.heap.size 3 1 (.slice p9 (rows.length + 1) c9) (turnRow rows more k).length ((turnRow rows more k).map (Value.int .i64)) := by
      rw [hlenT]
      have e : (turnRow rows more k).map (Value.int .i64) = ((rows.take rows.length).map fun r => Value.int .i64 (r[k]?.getD 0)) ++ [.int .i64 more[k]] := by
       rw [HT.out]; simp [turnRow, List.getElem?_eq_getElem hlt]
      rw [e]; exact hown9'
     obtain ⟨rb', hCd⟩ := copyI_done hC9 hrbk hsz hcell9 hownT hlenT (by omega) (fun q hq => by show (turnRow rows more k)[q]?.getD 0 = _; rw [List.getElem?_eq_getElem hq, Option.getD_some])
     go_roundw
     case rel => exact ⟨k + 1, rb', by omega, by go_num, hCd, by have := hb9r.size; simp [World.setCell]; omega, Lib.hid fun i h1 h2 => by
      rw [set_other (.inr (by omega)), hb9r.cell (p := ⟨w.heap.size, i, none⟩) hsz]; exact HN1.out i (by omega) h2⟩
     case measure => simp [intOf]; omega
  ·obtain rfl : k = more.length := by omega
   go_wp2_with fail
   go_ret
   exact ⟨rb, rfl, ⟨Nat.le_refl _, fun i hi => Nat.le_of_lt (hC.gt i hi).1, fun i hi e => by have := (hC.gt i hi).1; omega, hC.inj, hC.row, hC.fro, fun i j hi hj => (hC.elem i j hi hj).1, fun i j hi hj => (hC.elem i j hi hj).2, turnMat_num rows more HL.out hnum hnm⟩, hsz, hC.low⟩
end Go.Proofs.YtggnipkfliompaaGreatDoor
namespace Go.Proofs.YtggnipkfliompaaGreatDoor
open Go.RowKit
end Go.Proofs.YtggnipkfliompaaGreatDoor
namespace Go.Proofs.YtggnipkfliompaaGreatDoor
open Go.RowKit
theorem kindErr_ok_iff {rows : List (List Int)} (h : kindErr rows = 0) : (∀ r ∈ rows, r.length ≤ 64) ∧ ∀ r ∈ rows, rowOk (wide rows) r = true := by
 unfold kindErr at h
 split at h
 ·cases h
 ·rename_i h1
  split at h
  ·rename_i h2
   refine ⟨fun r hr => ?_, by simpa using h2⟩
   by_cases hl : r.length ≤ 64
   ·exact hl
   ·exact absurd (List.any_eq_true.2 ⟨r, hr, by simp; omega⟩) h1
  ·cases h
theorem oddQ_num {z : Int} (h : oddQ z = false) : 0 ≤ z ∧ z < 1073741789 := by
 simp [oddQ] at h; omega
theorem rowOk_iff {m : Nat} {r : List Int} (h : rowOk m r = true) : r.length = m ∧ ∀ z ∈ r, 0 ≤ z ∧ z < 1073741789 := by
 simp [rowOk] at h
 exact ⟨h.1, fun z hz => oddQ_num (h.2 z hz)⟩
structure Right (rows : List (List Int)) (m : Nat) : Prop where
 few : rows.length ≤ 64
 narrow : m ≤ 64 ∨ rows = []
 len : ∀ r ∈ rows, r.length = m
 num : ∀ r ∈ rows, ∀ z ∈ r, 0 ≤ z ∧ z < 1073741789
theorem checkErr_ok {rows : List (List Int)} (h : checkErr rows = 0) : Right rows (wide rows) := by
 unfold checkErr at h
 split at h
 ·cases h
 ·rename_i h1
  obtain ⟨h2, h3⟩ := kindErr_ok_iff h
  refine ⟨by omega, ?_, fun r hr => (rowOk_iff (h3 r hr)).1, fun r hr => (rowOk_iff (h3 r hr)).2⟩
  cases rows with
  | nil => exact .inr rfl
  | cons r l => exact .inl (by have := h2 r (by simp); simpa [wide] using this)
end Go.Proofs.YtggnipkfliompaaGreatDoor
namespace Go.Proofs.YtggnipkfliompaaGreatDoor
def inB (n lo hi : Int) : Bool := decide (lo ≤ n) && decide (n ≤ hi)
theorem inB_iff {n lo hi : Int} : inB n lo hi = true ↔ lo ≤ n ∧ n ≤ hi := by unfold inB; rw [Bool.and_eq_true, decide_eq_true_eq, decide_eq_true_eq]
theorem inB_false {n lo hi : Int} (h : ¬ (lo ≤ n ∧ n ≤ hi)) : inB n lo hi = false := by
 cases e : inB n lo hi with
 | false => rfl
 | true => exact absurd (inB_iff.1 e) h
end Go.Proofs.YtggnipkfliompaaGreatDoor
namespace Go.Proofs.YtggnipkfliompaaGreatDoor
open Go.RowKit
theorem row_cell {W : World} {b : Nat} {L : Array Value} {t : TypeId} (h : W.heap[b]? = some (.cells L t (0, 0))) {k : Nat} {v : Value} (hk : L[k]? = some v) : W.cell? ⟨b, k, none⟩ = some v := by
 simp [World.cell?, h, hk]
theorem row_free {W : World} {b : Nat} {L : Array Value} {t : TypeId} (h : W.heap[b]? = some (.cells L t (0, 0))) (k : Nat) : W.frozen? ⟨b, k, none⟩ = false := by
 simp [World.frozen?, h]
theorem row_lt {W : World} {b : Nat} {o : Obj} (h : W.heap[b]? = some o) : b < W.heap.size := (Array.getElem?_eq_some_iff.1 h).1
theorem row_set {W : World} {b : Nat} {L : Array Value} {t : TypeId} (h : W.heap[b]? = some (.cells L t (0, 0))) (k : Nat) (v : Value) : (W.setCell ⟨b, k, none⟩ v).heap[b]? = some (.cells (L.setIfInBounds k v) t (0, 0)) := by
 have hlt := row_lt h
 have h' : W.heap[b] = .cells L t (0, 0) := (Array.getElem?_eq_some_iff.1 h).2
 show (W.heap.modify b _)[b]? = _
 rw [Array.getElem?_eq_getElem (by simpa using hlt), Array.getElem_modify_self, h']
 rfl
theorem add_row (b j : Nat) : (⟨b, 0, none⟩ : Addr).add j = ⟨b, j, none⟩ := by
 unfold Addr.add
 by_cases h : j = 0
 ·subst h; rfl
 ·rw [if_neg h, Nat.zero_add]
theorem add_off (b off j : Nat) : (⟨b, off, none⟩ : Addr).add j = ⟨b, off + j, none⟩ := by
 unfold Addr.add
 by_cases h : j = 0
 ·subst h; rfl
 ·rw [if_neg h]
theorem own_below {W W' : World} {base size n : Nat} {e : TypeId} {v : Value} {xs : List Value} (h : W.ownsRow base e size v n xs) (hg : W.grownBy W' v.ownBlock) (hb : base ≤ W.heap.size) : Below base W W' :=
 ⟨hg.os, hg.tape, hg.output, hg.size, fun k hk => hg.block k (by omega) (by
  rcases h.2 with ⟨rfl, -⟩ | ⟨g, cap, cur, rfl, hg2, -⟩
  ·intro e; cases e
  ·intro e; have e2 : k = g := by injection e
   omega)⟩
def Onto (W : World) (v : Value) (W' : World) (v' : Value) : Prop := W.grownBy W' v.ownBlock ∧ (v'.ownBlock = v.ownBlock ∨ ∃ g, v'.ownBlock = some g ∧ W.heap.size ≤ g)
theorem Onto.refl (W : World) (v : Value) : Onto W v W v := ⟨World.grownBy.refl _ _, .inl rfl⟩
theorem Onto.trans {A B C : World} {a b c : Value} (h : Onto A a B b) (k : Onto B b C c) : Onto A a C c := by
 obtain ⟨hg, ho⟩ := h
 obtain ⟨kg, ko⟩ := k
 refine ⟨⟨kg.os.trans hg.os, kg.tape.trans hg.tape, kg.output.trans hg.output, Nat.le_trans hg.size kg.size, fun k hk hr => (kg.block k (Nat.lt_of_lt_of_le hk hg.size) ?_).trans (hg.block k hk hr)⟩, ?_⟩
 ·rcases ho with ho | ⟨g, ho, hge⟩
  ·rw [ho]; exact hr
  ·rw [ho]; intro e; injection e with e; omega
 ·rcases ko with ko | ⟨g, ko, kge⟩
  ·rcases ho with ho | ⟨g, ho, hge⟩
   ·exact .inl (ko.trans ho)
   ·exact .inr ⟨g, ko.trans ho, hge⟩
  ·exact .inr ⟨g, ko, Nat.le_trans hg.size kge⟩
theorem Onto.below {A B : World} (h : Below A.heap.size A B) (v : Value) : Onto A v B v := ⟨⟨h.os, h.tape, h.output, h.size, fun k hk _ => h.block k hk⟩, .inl rfl⟩
theorem own_keep {W W' : World} {base size n : Nat} {e : TypeId} {v : Value} {xs : List Value} (h : W.ownsRow base e size v n xs) (hb : Below W.heap.size W W') : W'.ownsRow base e size v n xs := by
 obtain ⟨h1, h2⟩ := h
 refine ⟨h1, ?_⟩
 rcases h2 with h2 | ⟨g, cap, cur, a, b, c, d⟩
 ·exact .inl h2
 ·exact .inr ⟨g, cap, cur, a, b, (hb.block g (row_lt c)).trans c, d⟩
theorem own_lt {W : World} {base size n : Nat} {e : TypeId} {v : Value} {xs : List Value} (h : W.ownsRow base e size v n xs) : ∀ g, v.ownBlock = some g → base ≤ g ∧ g < W.heap.size := by
 intro g hg
 rcases h.2 with ⟨rfl, -⟩ | ⟨g', cap, cur, rfl, b, c, -⟩
 ·cases hg
 ·have : g' = g := by injection hg
  subst this
  exact ⟨b, row_lt c⟩
theorem onto_far {W W' : World} {v v' : Value} (h : Onto W v W' v') {b : Nat} (hb : b < W.heap.size) (hne : v.ownBlock ≠ some b) (k : Nat) : W'.cell? ⟨b, k, none⟩ = W.cell? ⟨b, k, none⟩ :=
 World.cell?_of_block (w := W) (h.1.block b hb (fun e => hne e.symm))
theorem own_ne {W : World} {base size n : Nat} {e : TypeId} {v : Value} {xs : List Value} (h : W.ownsRow base e size v n xs) {b : Nat} (hb : W.heap.size ≤ b ∨ b < base) : v.ownBlock ≠ some b := fun e2 => by
 have := own_lt h b e2
 omega
theorem own_apart {W W' : World} {base size n : Nat} {e : TypeId} {v u : Value} {xs : List Value} (h : W.ownsRow base e size v n xs) (hg : W.grownBy W' u.ownBlock) (hne : ∀ g, v.ownBlock = some g → u.ownBlock ≠ some g) : W'.ownsRow base e size v n xs := by
 obtain ⟨h1, h2⟩ := h
 refine ⟨h1, ?_⟩
 rcases h2 with h2 | ⟨g, cap, cur, rfl, b, c, d⟩
 ·exact .inl h2
 ·refine .inr ⟨g, cap, cur, rfl, b, ?_, d⟩
  rw [hg.block g (Array.getElem?_eq_some_iff.1 c).1 (fun e2 => hne g rfl e2.symm)]; exact c
theorem own_low {w : World} {base base' size n : Nat} {e : TypeId} {v : Value} {xs : List Value} (h : w.ownsRow base e size v n xs) (hb : base' ≤ base) : w.ownsRow base' e size v n xs := by
 obtain ⟨h1, h2⟩ := h
 refine ⟨h1, ?_⟩
 rcases h2 with h2 | ⟨g, cap, cur, a, c, r⟩
 ·exact .inl h2
 ·exact .inr ⟨g, cap, cur, a, Nat.le_trans hb c, r⟩
theorem own_keep_set {W : World} {base size n b o : Nat} {e : TypeId} {v : Value} {xs : List Value} (h : W.ownsRow base e size v n xs) (hb : b < base) (u : Value) : (W.setCell ⟨b, o, none⟩ u).ownsRow base e size v n xs := by
 obtain ⟨h1, h2⟩ := h
 refine ⟨h1, ?_⟩
 rcases h2 with h2 | ⟨g, cap, cur, a, c, d, r⟩
 ·exact .inl h2
 ·exact .inr ⟨g, cap, cur, a, c, (Below.heap_setCell _ _ _ _ (by show g ≠ b; omega)).trans d, r⟩
theorem below_new (w : World) (c : Array Value) (t : TypeId) : Below w.heap.size w (w.alloc (.cells c t)) := (Below.refl _ _).alloc (Nat.le_refl _) _
end Go.Proofs.YtggnipkfliompaaGreatDoor
