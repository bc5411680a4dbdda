/- The reference of package linear: Combine. The reference of package linear: Combine, where there are no columns. The program and the reference compute the same. The program's Separate and the reference's compute the same. The examples of the chapter, reckoned. The laws' own functions: right, made, proves. The laws' own functions: made. -/
import Derived.Test.YtjjoadmkpbmhpaaGreatMLinR
import Derived.Deep.RegionLaw
import Derived.Deep.AppendLies
namespace Go.Proofs.YtjjoadmkpbmhpaaGreat
open Go.RowKit

/-- Rows of the call's own behind headers in a block. -/
structure RowsO (S g0 m : Nat) (hs : Nat → Value) (ls : Nat → List Int) (w W : World) : Prop where
  hdr : ∀ i, i < m → W.cell? ⟨g0, i, none⟩ = some (hs i) ∧ W.frozen? ⟨g0, i, none⟩ = false
  blk : S ≤ g0 ∧ g0 < W.heap.size
  row : ∀ i, i < m → W.ownsRow S 3 1 (hs i) (ls i).length ((ls i).map (Value.int .i64))
  sep : ∀ i j, i < m → j < m → i ≠ j → ∀ g, (hs i).ownBlock = some g → (hs j).ownBlock ≠ some g
  apart : ∀ i, i < m → ∀ g, (hs i).ownBlock = some g → g ≠ g0
  low : Below S w W

theorem TurnS.rows {S m : Nat} {hs : Nat → Value} {ls : Nat → List Int} {ov : Value} {w W : World} (h : TurnS S m hs ls ov w W) (hm : 0 < m) : ∃ g0 c, ov = .slice (some ⟨g0, 0, none⟩) m c ∧ m ≤ c ∧ RowsO S g0 m hs ls w W := by
  have h0 := h.out
  obtain ⟨hl, ⟨-, e⟩ | ⟨g, cap, cur, rfl, hB, hh, hcc, hrest⟩⟩ := h.out
  · omega
  · refine ⟨g, cap, rfl, hcc, fun i hi => ⟨?_, h0.frozenAt i⟩, ⟨hB, (Array.getElem?_eq_some_iff.1 hh).1⟩, h.row, h.sep, fun i hi g' e1 e2 => ?_, h.low⟩
    · rw [h0.cellAt i (by omega)]; simp [hi]
    · subst e2; exact owns_types (h.row i hi) h0 (by decide) _ e1 rfl

/-- A row grows, and its header is stored. -/
theorem RowsO.step {S g0 m q : Nat} {hs : Nat → Value} {ls : Nat → List Int} {w W W' : World} (h : RowsO S g0 m hs ls w W) (hq : q < m) {g n cap : Nat} {l : List Int}
    (ho : W'.ownsRow S 3 1 (.slice (some ⟨g, 0, none⟩) n cap) l.length (l.map (Value.int .i64))) (hg : W.grownBy W' (hs q).ownBlock) (hgb : (hs q).ownBlock = some g ∨ W.heap.size ≤ g) :
    RowsO S g0 m (fun i => if i = q then .slice (some ⟨g, 0, none⟩) n cap else hs i) (fun i => if i = q then l else ls i) w (W'.setCell ⟨g0, q, none⟩ (.slice (some ⟨g, 0, none⟩) n cap)) := by
  have hne : some g0 ≠ (hs q).ownBlock := fun e => h.apart q hq g0 e.symm rfl
  have hc : ∀ i, i < m → W'.cell? ⟨g0, i, none⟩ = some (hs i) := fun i hi => by
    rw [World.cell?_of_block (w := W) (w' := W') (a := ⟨g0, i, none⟩) (hg.block g0 h.blk.2 hne)]; exact (h.hdr i hi).1
  have hf : ∀ i, i < m → W'.frozen? ⟨g0, i, none⟩ = false := fun i hi => by
    rw [World.frozen?_of_block (w := W) (w' := W') (a := ⟨g0, i, none⟩) (hg.block g0 h.blk.2 hne)]; exact (h.hdr i hi).2
  have hg0 : g ≠ g0 := by
    rcases hgb with e | e
    · exact h.apart q hq g e
    · have := h.blk.2; omega
  have hother : ∀ i, i < m → i ≠ q → ∀ g', (hs i).ownBlock = some g' → g' ≠ g := fun i hi e g' e1 e2 => by
    subst e2
    rcases hgb with e3 | e3
    · exact h.sep i q hi hq e _ e1 e3
    · have := ((h.row i hi).lt g' e1).2; omega
  refine ⟨fun i hi => ?_, ⟨h.blk.1, ?_⟩, fun i hi => ?_, fun i j hi hj hij g' e1 e2 => ?_, fun i hi g' e1 => ?_, ?_⟩
  · refine ⟨?_, by rw [World.frozen?_setCell]; exact hf i hi⟩
    show _ = some (if i = q then Value.slice (some ⟨g, 0, none⟩) n cap else hs i)
    by_cases e : i = q
    · subst e; rw [if_pos rfl]; exact World.cell?_setCell_same' _ _ _ (by rw [hc i hi]; rfl)
    · rw [if_neg e, set_other (.inr (fun e' => e e'.symm))]; exact hc i hi
  · have := h.blk.2; have := hg.size; simp [World.setCell]; omega
  · show (W'.setCell _ _).ownsRow S 3 1 (if i = q then Value.slice (some ⟨g, 0, none⟩) n cap else hs i) (if i = q then l else ls i).length ((if i = q then l else ls i).map (Value.int .i64))
    by_cases e : i = q
    · rw [if_pos e, if_pos e]
      refine owns_setCell_other ho (fun g' e1 => ?_) _
      have e1' : some g = some g' := e1
      injection e1' with e2
      omega
    · rw [if_neg e, if_neg e]
      refine owns_setCell_other (owns_other (h.row i hi) hg (fun g' e1 e2 => h.sep i q hi hq e g' e1 e2)) (fun g' e1 e2 => h.apart i hi g' e1 e2.symm) _
  · have e1' : (if i = q then Value.slice (some ⟨g, 0, none⟩) n cap else hs i).ownBlock = some g' := e1
    have e2' : (if j = q then Value.slice (some ⟨g, 0, none⟩) n cap else hs j).ownBlock = some g' := e2
    by_cases ei : i = q
    · rw [if_pos ei] at e1'
      rw [if_neg (by omega)] at e2'
      have e3 : some g = some g' := e1'
      injection e3 with e4
      exact hother j hj (by omega) g' e2' e4.symm
    · rw [if_neg ei] at e1'
      by_cases ej : j = q
      · rw [if_pos ej] at e2'
        have e3 : some g = some g' := e2'
        injection e3 with e4
        exact hother i hi ei g' e1' e4.symm
      · rw [if_neg ej] at e2'
        exact h.sep i j hi hj hij g' e1' e2'
  · have e1' : (if i = q then Value.slice (some ⟨g, 0, none⟩) n cap else hs i).ownBlock = some g' := e1
    by_cases ei : i = q
    · rw [if_pos ei] at e1'
      have e3 : some g = some g' := e1'
      injection e3 with e4
      omega
    · rw [if_neg ei] at e1'
      exact h.apart i hi g' e1'
  · exact (h.low.grown hg (Nat.le_trans h.blk.1 (Nat.le_of_lt h.blk.2)) (fun g' e => ((h.row q hq).lt g' e).1)).setCell h.blk.1 _

theorem RowsO.below {S g0 m : Nat} {hs : Nat → Value} {ls : Nat → List Int} {w W W' : World} (h : RowsO S g0 m hs ls w W) (hb : Below W.heap.size W W') : RowsO S g0 m hs ls w W' :=
  ⟨fun i hi => ⟨below_cell hb (h.hdr i hi).1, by rw [hb.frozen (p := ⟨g0, i, none⟩) h.blk.2]; exact (h.hdr i hi).2⟩, ⟨h.blk.1, Nat.lt_of_lt_of_le h.blk.2 hb.size⟩, fun i hi => owns_below (h.row i hi) hb, h.sep, h.apart, h.low.trans (hb.mono (Nat.le_trans h.blk.1 (Nat.le_of_lt h.blk.2)))⟩

/-- Read as rows. -/
theorem owns_ints {W : World} {B : Nat} {v : Value} {l : List Int} (h : W.ownsRow B 3 1 v l.length (l.map (Value.int .i64))) (hl : l.length ≤ 1000000) (hr : ∀ z ∈ l, R64 z) : Ints W v l := by
  obtain ⟨p, c, rfl⟩ := owns_slice h
  refine ⟨p, c, rfl, owns_room h, by omega, hr, fun k hk => ?_⟩
  obtain ⟨g, c', e, _, _, h3⟩ := owns_cells h (by omega)
  injection e with e1
  subst e1
  exact ⟨g, 0, rfl, by rw [Nat.zero_add]; exact (h3 k hk).1⟩
theorem RowsO.rows2 {S g0 m c : Nat} {hs : Nat → Value} {ls : Nat → List Int} {w W : World} (h : RowsO S g0 m hs ls w W) (hm : m ≤ 1000000) (hc : m ≤ c) (hl : ∀ i, i < m → (ls i).length ≤ 1000000) (hr : ∀ i, i < m → ∀ z ∈ ls i, R64 z) : Rows2 W (.slice (some ⟨g0, 0, none⟩) m c) ((List.range m).map ls) := by
  refine ⟨_, c, by simp, by simpa using hc, by simp; omega, fun k hk => ⟨g0, 0, hs k, rfl, ?_, ?_⟩⟩
  · simp at hk; rw [Nat.zero_add]; exact (h.hdr k hk).1
  · simp at hk
    have := owns_ints (h.row k hk) (hl k hk) (hr k hk)
    simpa using this

set_option maxRecDepth 100000 in
/-- An append of one integer as a step of a region that draws. -/
theorem step_app_int {ops : Array Oper} {o : Oper} {a : Act} {K : Act → World → Prop} {Q : Exit → Act → World → Prop} {E : Prop} {W : World} (hgd : o.guard = none) (s x : Operand) (ho : o.op = .call { callee := .builtin .append, args := #[s, x], argTypes := #[23, 23] })
    (base n : Nat) (v : Value) (xs : List Value) (hs : a.eval s = v) (hown : W.ownsRow base 3 1 v n xs) (b c : Nat) (z : Int) (hx : a.eval x = .slice (some ⟨b, 0, none⟩) 1 c) (hcell : W.cell? ⟨b, 0, none⟩ = some (.int .i64 z)) (hn : n ≤ 1000000) (hbase : base ≤ W.heap.size) (H : Nat) (hH : W.heap.size = H)
    (h : ∀ g cap w', w'.ownsRow base 3 1 (.slice (some ⟨g, 0, none⟩) (n + 1) cap) (n + 1) (xs ++ [.int .i64 z]) → W.grownBy w' v.ownBlock → (v.ownBlock = some g ∨ g = H) → g < w'.heap.size → K (a.put o.dst (.slice (some ⟨g, 0, none⟩) (n + 1) cap)) w') :
    if Region.wanted o (yielded ops a.tmps) = true then Oper.wp Tryz.prog o a W K Q else E := by
  obtain ⟨i0, hi0, hz0, hz1, hz2⟩ := info_parts infoInt
  refine step_append_lies _ hgd s x 23 ho base 3 i0 (.int .i64 0) 1 8 Tryz.underlying23 hi0 hz0 hz1 hz2 rfl (by decide) v n xs hs hown ⟨b, 0, none⟩ 1 c [.int .i64 z] hx rfl ?_ ?_ (by decide) ?_ ?_ hbase H hH h
  · intro j u hu
    cases j with
    | zero => simp at hu; subst hu; simpa [Addr.add] using hcell
    | succ j => simp at hu
  · simp [Value.oneCell']
  · unfold maxLen; omega
  · omega

/-- The equations of a target: the columns, each followed by the target's element. -/
def eqRows (rows : List (List Int)) (t : List Int) : List (List Int) := (List.range t.length).map fun i => colOf rows i ++ [nth t i]
def rcombM (rows : List (List Int)) (t : List Int) : Mat × List Nat := redR t.length (matOf (eqRows rows t)) rows.length
def okM (x : Mat) (r n m : Nat) : Bool := (List.range (m - r)).all fun j => x (r + j) n == 0
def rcombOk (rows : List (List Int)) (t : List Int) : Bool := okM (rcombM rows t).1 (rcombM rows t).2.length rows.length t.length
def rcombY (rows : List (List Int)) (t : List Int) : List Int := (List.range rows.length).map (combF (rcombM rows t).1 (rcombM rows t).2 rows.length (rcombM rows t).2.length)
/-- What the reference's Combine returns. -/
def RCombPost (rows : List (List Int)) (t : List Int) (w : World) (e : Ending) (w' : World) : Prop :=
  ∃ yv, e = .returned (.tuple #[yv, .bool (decide (examErr rows t = 0) && rcombOk rows t), .int .i64 (examErr rows t)]) ∧ Ints w' yv (if examErr rows t = 0 ∧ rcombOk rows t = true then rcombY rows t else []) ∧ Below w.heap.size w w'

theorem eqRows_len (rows : List (List Int)) (t : List Int) : (eqRows rows t).length = t.length := by simp [eqRows]
theorem eqRows_row {rows : List (List Int)} {t : List Int} : ∀ r ∈ eqRows rows t, r.length = rows.length + 1 := fun r hr => by
  obtain ⟨i, hi, rfl⟩ := List.mem_map.1 hr
  simp [colOf]
theorem eqRows_num {rows : List (List Int)} {t : List Int} (hl : ∀ r ∈ rows, r.length = t.length) (hn : ∀ r ∈ rows, ∀ z ∈ r, 0 ≤ z ∧ z < 1073741789) (ht : ∀ z ∈ t, 0 ≤ z ∧ z < 1073741789) : ∀ r ∈ eqRows rows t, ∀ z ∈ r, 0 ≤ z ∧ z < 1073741789 := fun r hr z hz => by
  obtain ⟨i, hi, rfl⟩ := List.mem_map.1 hr
  rw [List.mem_range] at hi
  rcases List.mem_append.1 hz with h | h
  · obtain ⟨r', hr', rfl⟩ := List.mem_map.1 h
    rw [nth_at (by rw [hl r' hr']; exact hi)]
    exact hn r' hr' _ (List.getElem_mem _)
  · rw [List.mem_singleton.1 h, nth_at hi]
    exact ht _ (List.getElem_mem _)

set_option maxRecDepth 100000 in
set_option maxHeartbeats 4000000 in
theorem rCombine_err (v u : Value) (rows : List (List Int)) (t : List Int) (w : World) (hI : Rows2 w v rows) (hU : Ints w u t) (h0 : examErr rows t ≠ 0) :
    Calls Tryz.prog 96 #[v, u] w fun e w' => e = .returned (.tuple #[.slice none 0 0, .bool false, .int .i64 (examErr rows t)]) ∧ Below w.heap.size w w' := by
  have hC : (examErr rows t != 0) = true := by simpa using h0
  have HC2 := Lib.hid hC
  clear h0 hC
  go_enter Tryz.func96, Tryz.ntmps96
  go_wp2_with fail
  with_reducible refine (rError_any _ _ rows t _ hI hU).mono ?_
  rintro e w1 ⟨rfl, hb⟩
  have hC := HC2.out
  go_wp2_with fail
  go_ret3
  exact ⟨rfl, hb⟩

/-- The rows after q of them have been followed by the target's element. -/
def eqTo (rows : List (List Int)) (t : List Int) (q : Nat) : Nat → List Int := fun i => if i < q then colOf rows i ++ [nth t i] else colOf rows i
theorem eqTo_s (rows : List (List Int)) (t : List Int) (q : Nat) : (fun i => if i = q then colOf rows q ++ [nth t q] else eqTo rows t q i) = eqTo rows t (q + 1) := by
  funext i; unfold eqTo
  by_cases e : i = q
  · rw [if_pos e, if_pos (by omega), e]
  · rw [if_neg e]
    by_cases h : i < q
    · rw [if_pos h, if_pos (by omega)]
    · rw [if_neg h, if_neg (by omega)]
theorem eqTo_0 (rows : List (List Int)) (t : List Int) : eqTo rows t 0 = colOf rows := by funext i; unfold eqTo; rw [if_neg (by omega)]
theorem eqTo_at (rows : List (List Int)) (t : List Int) (q : Nat) : eqTo rows t q q = colOf rows q := by unfold eqTo; rw [if_neg (by omega)]
theorem eqTo_end (rows : List (List Int)) (t : List Int) : (List.range t.length).map (eqTo rows t t.length) = eqRows rows t :=
  List.map_congr_left fun i hi => by unfold eqTo; rw [if_pos (by simpa using hi)]

set_option maxRecDepth 100000 in
set_option maxHeartbeats 8000000 in
theorem rCombine_wide (v u : Value) (rows : List (List Int)) (t : List Int) (w : World) (hI : Rows2 w v rows) (hU : Ints w u t) (h0 : examErr rows t = 0) (hR : Right rows t.length) (hT : ∀ z ∈ t, 0 ≤ z ∧ z < 1073741789) (ht : t.length ≤ 64) (ht0 : 0 < t.length) :
    Calls Tryz.prog 96 #[v, u] w (RCombPost rows t w) := by
  have hI0 := hI
  have hU0 := hU
  have H0 := Lib.hid h0
  clear h0
  have HU := Lib.hid (fun k (hk : k < t.length) => hU.get hk)
  obtain ⟨a, cap, rfl, hcap, hlen, -⟩ := hI
  obtain ⟨a2, cap2, rfl, hcap2, hlen2, -, -⟩ := hU
  obtain ⟨hr1, hr2, hr3, hr4⟩ := hR
  have HL := Lib.hid hr3
  have HN := Lib.hid hr4
  have HT := Lib.hid hT
  clear hr3 hr4 hT
  go_enter Tryz.func96, Tryz.ntmps96
  go_wp2_with fail
  with_reducible refine (rError_any _ _ rows t _ hI0 hU0).mono ?_
  rintro e w1 ⟨rfl, hb1⟩
  rw [H0.out]
  go_wp2_with fail
  with_reducible refine (Turned_any _ rows t.length _ (hI0.below hb1) (fun r hr => by rw [HL.out r hr]; exact Nat.le_refl _) (by omega) (by omega)).mono ?_
  rintro e w2 ⟨ov, hs0, rfl, hTS⟩
  obtain ⟨g0, c0, rfl, hc0, hRO⟩ := hTS.rows ht0
  rw [← eqTo_0 rows t] at hRO
  clear hTS
  go_wp2_with fail
  go_loopw [9] (fun i wr => ∃ (q : Nat) (hs : Nat → Value), q ≤ t.length ∧ i = .int .i64 q ∧ RowsO w1.heap.size g0 t.length hs (eqTo rows t q) w1 wr) (fun i _ => t.length - (intOf i).toNat)
  case atStart => exact ⟨0, hs0, Nat.zero_le _, rfl, hRO⟩
  case round =>
    obtain ⟨q, hs, hqm, rfl, hRQ⟩ := hrel
    by_cases hlt : q < t.length
    · have hrow := hRQ.row q hlt
      rw [eqTo_at] at hrow
      have hcl : (colOf rows q).length = rows.length := by simp [colOf]
      rw [hcl] at hrow
      obtain ⟨ph, ch, hph⟩ := owns_slice hrow
      obtain ⟨hh1, hh2⟩ := hRQ.hdr q hlt
      rw [hph] at hh1 hrow
      obtain ⟨hrz, bt, ot, _, _, e1, hct⟩ := HU.out q hlt
      cases e1
      have hct := (hRQ.low.cell (p := ⟨bt, ot + q, none⟩) (Nat.lt_of_lt_of_le (lt_of_cell hct) hb1.size)).trans (below_cell hb1 hct)
      obtain ⟨z, hz⟩ : ∃ z, z = nth t q := ⟨_, rfl⟩
      rw [← hz] at hct
      have HZ := Lib.hid hz
      have HCL := Lib.hid hcl
      have HPH := Lib.hid hph
      have i1 : (0 : Int) ≤ (q : Int) := by omega
      have i2 : (q : Int) < (t.length : Int) := by omega
      have hn6 : rows.length ≤ 1000000 := by omega
      have hsz : w1.heap.size ≤ wr.heap.size := Nat.le_trans hRQ.blk.1 (Nat.le_of_lt hRQ.blk.2)
      clear hz hcl hph
      go_wp2_with fail
      have hownd : (wr.alloc (.cells #[.int .i64 z] 3)).drew.ownsRow w1.heap.size 3 1 (.slice ph rows.length ch) rows.length ((colOf rows q).map (Value.int .i64)) := (hrow.alloc _).drew
      have hcn : (wr.alloc (.cells #[.int .i64 z] 3)).drew.cell? ⟨wr.heap.size, 0, none⟩ = some (.int .i64 z) := cell_new1 _ _ _
      have hbs : w1.heap.size ≤ (wr.alloc (.cells #[.int .i64 z] 3)).drew.heap.size := by simp; omega
      have hba : Below wr.heap.size wr (wr.alloc (.cells #[.int .i64 z] 3)).drew := ((Below.refl _ _).alloc (Nat.le_refl _) _).drew
      have hkeep : ∀ w9, (wr.alloc (.cells #[.int .i64 z] 3)).drew.grownBy w9 (Value.slice ph rows.length ch).ownBlock → w9.cell? ⟨g0, q, none⟩ = some (.slice ph rows.length ch) ∧ w9.frozen? ⟨g0, q, none⟩ = false := fun w9 hg => by
        have hne : some g0 ≠ (Value.slice ph rows.length ch).ownBlock := fun e => hRQ.apart q hlt g0 (by rw [HPH.out]; exact e.symm) rfl
        have hl : g0 < (wr.alloc (.cells #[.int .i64 z] 3)).drew.heap.size := Nat.lt_of_lt_of_le hRQ.blk.2 hba.size
        refine ⟨?_, ?_⟩
        · rw [World.cell?_of_block (a := ⟨g0, q, none⟩) (hg.block g0 hl hne)]; exact below_cell hba hh1
        · rw [World.frozen?_of_block (a := ⟨g0, q, none⟩) (hg.block g0 hl hne), hba.frozen (p := ⟨g0, q, none⟩) hRQ.blk.2]; exact hh2
      have hh1a : (wr.alloc (.cells #[.int .i64 z] 3)).cell? ⟨g0, q, none⟩ = some (.slice ph rows.length ch) := below_cell ((Below.refl _ _).alloc (Nat.le_refl _) _) hh1
      have HKEEP := Lib.hid hkeep
      have HBA := Lib.hid hba
      clear hkeep hba
      go_region_law (refine step_app_int (by rfl) _ _ (by rfl) w1.heap.size rows.length _ _ (by rfl) hownd wr.heap.size 1 z (by rfl) hcn hn6 hbs (wr.heap.size + 1) (by simp) ?_; intro g9 cap9 w9 hown9 hgrow9 hat9 hlt9; have hh9 := (HKEEP.out w9 hgrow9).1; have hf9 := (HKEEP.out w9 hgrow9).2)
      all_goals
        have hgrow9' : wr.grownBy w9 (hs q).ownBlock := by
          rw [HPH.out]
          exact ⟨hgrow9.os.trans HBA.out.os, hgrow9.tape.trans HBA.out.tape, hgrow9.output.trans HBA.out.output, Nat.le_trans HBA.out.size hgrow9.size, fun k hk hr => (hgrow9.block k (Nat.lt_of_lt_of_le hk HBA.out.size) hr).trans (HBA.out.block k hk)⟩
        have hown9' : w9.ownsRow w1.heap.size 3 1 (.slice (some ⟨g9, 0, none⟩) (rows.length + 1) cap9) (colOf rows q ++ [nth t q]).length ((colOf rows q ++ [nth t q]).map (Value.int .i64)) := by
          rw [List.length_append, List.map_append, HCL.out, ← HZ.out]; exact hown9
        have hRQ' := hRQ.step hlt hown9' hgrow9' (by
          rcases hat9 with e | e
          · exact .inl (by rw [HPH.out]; exact e)
          · exact .inr (by omega))
        rw [eqTo_s] at hRQ'
        go_wp2_with fail
        go_roundw
        case rel => exact ⟨q + 1, _, by omega, by go_num, hRQ'⟩
        case measure => simp [intOf]; omega
    · obtain rfl : q = t.length := by omega
      have hRows : Rows2 wr (.slice (some ⟨g0, 0, none⟩) t.length c0) (eqRows rows t) := by
        have hnum := eqRows_num HL.out HN.out HT.out
        have := hRQ.rows2 (c := c0) (by omega) hc0 (fun i hi => by
          have : eqTo rows t t.length i ∈ eqRows rows t := by rw [← eqTo_end]; exact List.mem_map.2 ⟨i, by simpa using hi, rfl⟩
          rw [eqRows_row _ this]; omega) (fun i hi z hz => by
          have : eqTo rows t t.length i ∈ eqRows rows t := by rw [← eqTo_end]; exact List.mem_map.2 ⟨i, by simpa using hi, rfl⟩
          exact num_r64 (hnum _ this z hz))
        rw [eqTo_end] at this; exact this
      have hRd := Reduced_mat _ (eqRows rows t) (rows.length + 1) rows.length wr hRows eqRows_row (eqRows_num HL.out HN.out HT.out) (by rw [eqRows_len]; omega) (by omega) (by omega)
      rw [eqRows_len] at hRd
      have hlow2 := hRQ.low
      have HRD := Lib.hid hRd
      have hsz1 : w1.heap.size ≤ wr.heap.size := hlow2.size
      clear hRd hRows hRQ hRO
      go_wp2_with fail
      with_reducible refine HRD.out.mono ?_
      rintro e w3 ⟨a3, c3, pv, B0, rfl, hc3, hS⟩
      have hpl := redR_len t.length (matOf (eqRows rows t)) rows.length
      have hpt := (redR_lt t.length (matOf (eqRows rows t)) rows.length).1
      have hxn := redR_num (n := t.length) (m := rows.length + 1) (X := matOf (eqRows rows t)) (fun i j hi hj => by
        have hi' : i < (eqRows rows t).length := by rw [eqRows_len]; exact hi
        have hl := eqRows_row _ (List.getElem_mem hi')
        rw [matOf_at hi' (by omega)]; exact eqRows_num HL.out HN.out HT.out _ (List.getElem_mem hi') _ (List.getElem_mem _)) rows.length
      have hcm : rcombM rows t = redR t.length (matOf (eqRows rows t)) rows.length := rfl
      obtain ⟨hTab, hown, hlow, htop⟩ := hS
      obtain ⟨x, hx⟩ : ∃ x, x = (rcombM rows t).1 := ⟨_, rfl⟩
      obtain ⟨piv, hpiv⟩ : ∃ piv, piv = (rcombM rows t).2 := ⟨_, rfl⟩
      rw [← hcm] at hTab hown hpl hpt hxn
      rw [← hpiv] at hown hpl hpt
      rw [← hx] at hTab hxn
      have HX := Lib.hid hx
      have HP := Lib.hid hpiv
      have HPT := Lib.hid hpt
      have HTAB := Lib.hid hTab
      clear hx hpiv hcm hpt hTab
      obtain ⟨pp, pc, rfl⟩ := owns_slice hown
      have hbw : Below w.heap.size w w3 := hb1.trans ((hlow2.mono hb1.size).trans (hlow.mono (Nat.le_trans hb1.size hsz1)))
      go_wp2_with fail
      go_loop [11] (fun i => ∃ q : Nat, piv.length ≤ q ∧ q ≤ t.length ∧ i = .int .i64 q ∧ Hid (∀ j, j < q - piv.length → x (piv.length + j) rows.length = 0)) (fun i => t.length - (intOf i).toNat)
      case atStart => exact ⟨piv.length, Nat.le_refl _, hpl, rfl, Lib.hid fun j hj => by omega⟩
      case round =>
        obtain ⟨q, hpq, hq, rfl, HZ⟩ := hrel
        by_cases hlt : q < t.length
        · obtain ⟨B, rfl, hB1, hB2⟩ := HTAB.out.blk ht0
          obtain ⟨pr, cr, hcr, hfr, hir, hor⟩ := HTAB.out.row q B rfl hlt
          obtain ⟨br, orr, rfl, her⟩ := rowM_cell hir (j := rows.length) (by omega)
          have i1 : (0 : Int) ≤ (q : Int) := by omega
          have i2 : (q : Int) < (t.length : Int) := by omega
          have i3 : (0 : Int) ≤ (rows.length : Int) := by omega
          have i4 : (rows.length : Int) < ((rows.length + 1 : Nat) : Int) := by omega
          clear hir hor hfr
          by_cases hz : x q rows.length = 0
          · rw [hz] at her
            have HZ' := Lib.hid (show ∀ j, j < q + 1 - piv.length → x (piv.length + j) rows.length = 0 from fun j hj => by
              by_cases e : j = q - piv.length
              · rw [e, show piv.length + (q - piv.length) = q by omega]; exact hz
              · exact HZ.out j (by omega))
            clear hz
            go_wp2_with fail
            go_round
            case rel => exact ⟨q + 1, by omega, by omega, by go_num, HZ'⟩
            case measure => simp [intOf]; omega
          · have HC := Lib.hid (show rcombOk rows t = false by
              unfold rcombOk okM; rw [← HX.out, ← HP.out]; exact combOk_no (q := q - piv.length) (by omega) (by rw [show piv.length + (q - piv.length) = q by omega]; exact hz))
            have hz' : (x q rows.length != 0) = true := by simpa using hz
            clear hz
            go_wp2_with fail
            go_ret3
            refine ⟨.slice none 0 0, ?_, ?_, hbw⟩
            · rw [HC.out, H0.out, Bool.and_false]; rfl
            · rw [HC.out, if_neg (by simp)]; exact Ints.nil _ _ _
        · obtain rfl : q = t.length := by omega
          have HC := Lib.hid (show rcombOk rows t = true by
            unfold rcombOk okM; rw [← HX.out, ← HP.out]; exact combOk_yes HZ.out)
          have hmk := run_ints rows.length (by omega)
          go_wp2_with fail
          obtain ⟨w4, hw4⟩ : ∃ w4, w3.alloc (.cells (madeCells #[.int .i64 0] rows.length) 3) = w4 := ⟨_, rfl⟩
          obtain ⟨Y, hY⟩ : ∃ Y, Y = w3.heap.size := ⟨_, rfl⟩
          have hI4 : IBlk w4 Y rows.length (combF x piv rows.length 0) := by rw [← hw4, hY]; exact IBlk.made _ _ _
          have hb4 : Below Y w3 w4 := by rw [← hw4, hY]; exact (Below.refl _ _).alloc (Nat.le_refl _) _
          rw [hw4, ← hY]
          have HY := Lib.hid hY
          clear hw4 hmk hY
          go_loopw [13] (fun i wr => ∃ K : Nat, K ≤ piv.length ∧ i = .int .i64 K ∧ IBlk wr Y rows.length (combF x piv rows.length K) ∧ Below Y w3 wr) (fun i _ => piv.length - (intOf i).toNat)
          case atStart => exact ⟨0, Nat.zero_le _, rfl, hI4, hb4⟩
          case round =>
            obtain ⟨K, hK, rfl, hIK, hbK⟩ := hrel
            by_cases hltK : K < piv.length
            · obtain ⟨gp, rfl, hg1, hg2, hg3⟩ := owns_pivots hown (by omega)
              have hq3 := hg3 K hltK
              have hpl2 : piv[K] < rows.length := HPT.out _ (List.getElem_mem hltK)
              have HPK := Lib.hid (show piv[K]?.getD 0 = piv[K] by rw [List.getElem?_eq_getElem hltK]; rfl)
              obtain ⟨pk, hpk'⟩ : ∃ pk, pk = piv[K] := ⟨_, rfl⟩
              rw [← hpk'] at hq3 hpl2 HPK
              obtain ⟨B, rfl, hB1, hB2⟩ := HTAB.out.blk ht0
              obtain ⟨pr, cr, hcr, hfr, hir, hor⟩ := HTAB.out.row K B rfl (by omega)
              obtain ⟨br, orr, rfl, her⟩ := rowM_cell hir (j := rows.length) (by omega)
              have hl1 : gp < Y := by rw [HY.out]; exact lt_of_cell hq3
              have hl2 : B < Y := by rw [HY.out]; exact lt_of_cell hcr
              have hl3 : br < Y := by rw [HY.out]; exact lt_of_cell her
              have hq3 := (hbK.cell (p := ⟨gp, K, none⟩) hl1).trans hq3
              have hcr := (hbK.cell (p := ⟨B, K, none⟩) hl2).trans hcr
              have her := (hbK.cell (p := ⟨br, orr + rows.length, none⟩) hl3).trans her
              have hyc := hIK.cell pk hpl2
              have hyf := hIK.fro pk hpl2
              have j1 : (0 : Int) ≤ (pk : Int) := by omega
              have j2 : (pk : Int) < (rows.length : Int) := by omega
              have j3 : (0 : Int) ≤ (K : Int) := by omega
              have j4 : (K : Int) < (piv.length : Int) := by omega
              have j5 : (K : Int) < (t.length : Int) := by omega
              have j6 : (0 : Int) ≤ (rows.length : Int) := by omega
              have j7 : (rows.length : Int) < ((rows.length + 1 : Nat) : Int) := by omega
              have j8 : (rows.length : Int) < (rows.length : Int) + 1 := by omega
              have hs1 : ∀ v, (wr.setCell ⟨Y, pk, none⟩ v).drew.cell? ⟨gp, K, none⟩ = some (.int .i64 (pk : Int)) := fun v => (set_other (W := wr) (u := v) (.inl (by omega))).trans hq3
              have hs2 : ∀ v, (wr.setCell ⟨Y, pk, none⟩ v).drew.cell? ⟨B, K, none⟩ = some (.slice (some ⟨br, orr, none⟩) (rows.length + 1) cr) := fun v => (set_other (W := wr) (u := v) (.inl (by omega))).trans hcr
              have hs3 : ∀ v, (wr.setCell ⟨Y, pk, none⟩ v).drew.cell? ⟨br, orr + rows.length, none⟩ = some (.int .i64 (x K rows.length)) := fun v => (set_other (W := wr) (u := v) (.inl (by omega))).trans her
              have hI' : IBlk (wr.setCell ⟨Y, pk, none⟩ (.int .i64 (x K rows.length))) Y rows.length (combF x piv rows.length (K + 1)) := by
                have := hIK.set (k := pk) (x K rows.length)
                rw [← HPK.out] at this
                rw [← HPK.out]; exact this
              have hb' := hbK.setCell (p := ⟨Y, pk, none⟩) (Nat.le_refl _) (.int .i64 (x K rows.length))
              clear hpk' hg3 hir hor hfr
              go_wp2_with fail
              go_region_held3 (fun w' => w'.cell? ⟨gp, K, none⟩ = some (.int .i64 (pk : Int)) ∧ w'.cell? ⟨B, K, none⟩ = some (.slice (some ⟨br, orr, none⟩) (rows.length + 1) cr) ∧ w'.cell? ⟨br, orr + rows.length, none⟩ = some (.int .i64 (x K rows.length))) (first | go_keep | exact ⟨hs1 _, hs2 _, hs3 _⟩) (fail)
              go_wp2_with fail
              go_roundw
              case rel => exact ⟨K + 1, by omega, by go_num, ⟨hI'.cell, hI'.fro⟩, hb'.drew⟩
              case measure => simp [intOf]; omega
            · obtain rfl : K = piv.length := by omega
              go_wp2_with fail
              go_ret3
              refine ⟨.slice (some ⟨Y, 0, none⟩) rows.length rows.length, ?_, ?_, hbw.trans (hbK.mono (by rw [HY.out]; exact hbw.size))⟩
              · rw [HC.out, H0.out]; rfl
              · rw [HC.out, if_pos ⟨H0.out, rfl⟩]
                have hnum := combF_num (x := x) (piv := piv) (n := rows.length) (m := t.length) (fun k hk => hxn k rows.length hk (by omega)) piv.length hpl
                have := hIK.ints (Nat.le_refl _) hlen (fun i _ => num_r64 (hnum i))
                unfold rcombY
                rw [← HX.out, ← HP.out]; exact this

end Go.Proofs.YtjjoadmkpbmhpaaGreat

namespace Go.Proofs.YtjjoadmkpbmhpaaGreat
open Go.RowKit

set_option maxRecDepth 100000 in
set_option maxHeartbeats 8000000 in
theorem rCombine_flat (v u : Value) (rows : List (List Int)) (w : World) (hI : Rows2 w v rows) (hU : Ints w u []) (h0 : examErr rows [] = 0) (hR : Right rows 0) :
    Calls Tryz.prog 96 #[v, u] w (RCombPost rows [] w) := by
  have hI0 := hI
  have H0 := Lib.hid h0
  clear h0
  obtain ⟨a, cap, rfl, hcap, hlen, -⟩ := hI
  obtain ⟨a2, cap2, rfl⟩ := hU.nil_of
  have hU0 : Ints w (.slice a2 0 cap2) [] := hU
  obtain ⟨hr1, hr2, hr3, hr4⟩ := hR
  have HL := Lib.hid hr3
  clear hr3 hr4
  go_enter Tryz.func96, Tryz.ntmps96
  go_wp2_with fail
  with_reducible refine (rError_any _ _ rows [] _ hI0 hU0).mono ?_
  rintro e w1 ⟨rfl, hb1⟩
  rw [H0.out]
  go_wp2_with fail
  have hTu : Calls Tryz.prog 127 #[.slice a rows.length cap, .int .i64 0] w1 _ := Turned_any _ rows 0 _ (hI0.below hb1) (fun r hr => Nat.zero_le _) (by omega) (by omega)
  with_reducible refine hTu.mono ?_
  rintro e w2 ⟨ov, hs0, rfl, hTS⟩
  obtain ⟨po, co, rfl⟩ := owns_slice hTS.out
  have hlow2 := hTS.low
  clear hTS
  go_wp2_with fail
  refine wp_loop_rounds 1 ?_
  rw [rounds_succ]
  go_wp2_with fail
  with_reducible refine (Reduced_mat _ [] rows.length rows.length _ (Rows2.nil _ _ _) (by simp) (by simp) (by simp) (by omega) (Nat.le_refl _)).mono ?_
  rintro e w3 ⟨a3, c3, pv, B0, rfl, hc3, hS⟩
  obtain ⟨hTab, hown, hlow, htop⟩ := hS
  have hpl : (redR ([] : List (List Int)).length (matOf []) rows.length).2 = [] := List.length_eq_zero_iff.1 (by have := redR_len 0 (matOf []) rows.length; show (redR 0 _ _).2.length = 0; omega)
  rw [hpl] at hown
  obtain ⟨pp, pc, rfl⟩ := owns_slice hown
  have hbw : Below w.heap.size w w3 := hb1.trans ((hlow2.mono hb1.size).trans (hlow.mono (Nat.le_trans hb1.size hlow2.size)))
  have hmk := run_ints rows.length (by omega)
  have HPL := Lib.hid hpl
  clear hpl hTab hown
  go_wp2_with fail
  refine wp_loop_rounds 1 ?_
  rw [rounds_succ]
  go_wp2_with fail
  refine wp_loop_rounds 1 ?_
  rw [rounds_succ]
  go_wp2_with fail
  go_ret3
  have hrc : (rcombM rows []).2 = [] := HPL.out
  have hok : rcombOk rows [] = true := by unfold rcombOk okM; rw [hrc]; rfl
  have hI4 := (IBlk.made w3 rows.length 3).ints (Nat.le_refl _) hlen (fun _ _ => by unfold R64; omega)
  refine ⟨.slice (some ⟨w3.heap.size, 0, none⟩) rows.length rows.length, ?_, ?_, hbw.alloc hbw.size _⟩
  · rw [hok, H0.out]; rfl
  · rw [hok, if_pos ⟨H0.out, rfl⟩]
    unfold rcombY
    rw [hrc]; exact hI4

set_option maxRecDepth 100000 in
theorem rCombine_any (v u : Value) (rows : List (List Int)) (t : List Int) (w : World) (hI : Rows2 w v rows) (hU : Ints w u t) :
    Calls Tryz.prog 96 #[v, u] w (RCombPost rows t w) := by
  by_cases h0 : examErr rows t = 0
  · obtain ⟨h1, h2, h3⟩ := examErr_ok_iff h0
    by_cases ht : t.length = 0
    · obtain rfl : t = [] := List.length_eq_zero_iff.1 ht
      exact rCombine_flat v u rows w hI hU h0 h1
    · exact rCombine_wide v u rows t w hI hU h0 h1 h2 h3 (by omega)
  · refine (rCombine_err v u rows t w hI hU h0).mono ?_
    rintro e w' ⟨rfl, hb⟩
    refine ⟨.slice none 0 0, ?_, ?_, hb⟩
    · rw [decide_eq_false h0]; rfl
    · rw [if_neg (fun h => h0 h.1)]; exact Ints.nil _ _ _

end Go.Proofs.YtjjoadmkpbmhpaaGreat

namespace Go.Proofs.YtjjoadmkpbmhpaaGreat

theorem turn_eq {rows : List (List Int)} {t : List Int} {i : Nat} (hi : i < t.length) (j : Nat) : turnMat rows t i j = matOf (eqRows rows t) i j := by
  have : (eqRows rows t)[i]? = some (colOf rows i ++ [nth t i]) := by unfold eqRows; simp [hi]
  unfold matOf
  rw [this]; rfl
theorem eq_num {rows : List (List Int)} {t : List Int} (h : Right rows t.length) (ht : ∀ z ∈ t, 0 ≤ z ∧ z < 1073741789) : NumM t.length (rows.length + 1) (matOf (eqRows rows t)) := fun i j hi hj => by
  have hi' : i < (eqRows rows t).length := by rw [eqRows_len]; exact hi
  have hl := eqRows_row _ (List.getElem_mem hi')
  rw [matOf_at hi' (by omega)]; exact eqRows_num h.len h.num ht _ (List.getElem_mem hi') _ (List.getElem_mem _)

theorem comb_same {rows : List (List Int)} {t : List Int} (h : Right rows t.length) (ht : ∀ z ∈ t, 0 ≤ z ∧ z < 1073741789) : combOk rows t = rcombOk rows t ∧ combY rows t = rcombY rows t := by
  obtain ⟨h1, h2⟩ := redM_redR (x := turnMat rows t) (eq_num h ht) (fun i j hi hj => turn_eq hi j) rows.length (by omega)
  have h1' : (combM rows t).2 = (rcombM rows t).2 := h1
  have h2' : ∀ i j, i < t.length → j < rows.length + 1 → (combM rows t).1 i j = (rcombM rows t).1 i j := h2
  have hle : (rcombM rows t).2.length ≤ t.length := redR_len _ _ _
  constructor
  · unfold combOk rcombOk okM
    rw [h1', Bool.eq_iff_iff, List.all_eq_true, List.all_eq_true]
    constructor
    · intro h3 j hj
      rw [List.mem_range] at hj
      rw [← h2' _ _ (by omega) (by omega)]; exact h3 j (List.mem_range.2 hj)
    · intro h3 j hj
      rw [List.mem_range] at hj
      rw [h2' _ _ (by omega) (by omega)]; exact h3 j (List.mem_range.2 hj)
  · unfold combY rcombY
    rw [h1']
    refine List.map_congr_left fun i _ => ?_
    have : ∀ K, K ≤ (rcombM rows t).2.length → combF (combM rows t).1 (rcombM rows t).2 rows.length K i = combF (rcombM rows t).1 (rcombM rows t).2 rows.length K i := fun K => by
      induction K with
      | zero => intro _; rfl
      | succ K ih =>
        intro hK
        unfold combF
        rw [ih (by omega), h2' K rows.length (by omega) (by omega)]
    exact this _ (Nat.le_refl _)

/-! Separate. -/
/-- A list, in the field. -/
def cv (l : List Int) : Nat → Fq := fun j => cq (nth l j)

theorem cq_prodF (a b : List Int) : ∀ K, cq (prodF a b K) = sm K (fun j => cv a j * cv b j)
  | 0 => cq_0
  | K + 1 => by
    show cq ((prodF a b K + nth a K * nth b K % 1073741789) % 1073741789) = sm K _ + cq (nth a K) * cq (nth b K)
    rw [cq_mod, cq_add, cq_mod, cq_mul, cq_prodF a b K]
theorem cq_prodQ (a b : List Int) : cq (prodQ a b) = dt a.length (cv a) (cv b) := cq_prodF a b a.length

end Go.Proofs.YtjjoadmkpbmhpaaGreat

namespace Go.Proofs.YtjjoadmkpbmhpaaGreat

theorem pf_mono {piv : List Nat} (h : Sorted piv) : ∀ k l, k < l → l < piv.length → pf piv k < pf piv l := fun k l h1 h2 => by
  unfold pf; rw [List.getElem?_eq_getElem (by omega), List.getElem?_eq_getElem h2]; exact h k l (by omega) h2 h1

/-- What the program's Combine and Separate return, in the reference's words. -/
theorem comb_err {rows : List (List Int)} {t : List Int} : (decide (examErr rows t = 0) && combOk rows t) = (decide (examErr rows t = 0) && rcombOk rows t) ∧ (if examErr rows t = 0 ∧ combOk rows t = true then combY rows t else []) = (if examErr rows t = 0 ∧ rcombOk rows t = true then rcombY rows t else []) := by
  by_cases h0 : examErr rows t = 0
  · obtain ⟨h1, h2, h3⟩ := examErr_ok_iff h0
    obtain ⟨h4, h5⟩ := comb_same h1 h2
    rw [h4, h5]; exact ⟨rfl, rfl⟩
  · rw [decide_eq_false h0, if_neg (fun h => h0 h.1), if_neg (fun h => h0 h.1)]; exact ⟨rfl, rfl⟩
end Go.Proofs.YtjjoadmkpbmhpaaGreat

namespace Go.Proofs.YtjjoadmkpbmhpaaGreat

def pivMi (inv : Int → Int) (x : Mat) (n r c k : Nat) : Mat := clearA (scaleM (swapM x r k) r c (inv (x k c))) r c n
def stepMi (inv : Int → Int) (n : Nat) (s : Mat × List Nat) (c : Nat) : Mat × List Nat :=
  if findP s.1 n c s.2.length < n then (pivMi inv s.1 n s.2.length c (findP s.1 n c s.2.length), s.2 ++ [c]) else s
def redMi (inv : Int → Int) (n : Nat) (x : Mat) (many : Nat) : Mat × List Nat := (List.range many).foldl (stepMi inv n) (x, [])
theorem redMi_eq : redM = redMi invQ := rfl

/-- The power by squaring, with fuel. -/
def lpowE : Nat → Int → Nat → Int
  | 0, _, _ => 1
  | f + 1, a, n => if n = 0 then 1 else if n % 2 = 1 then lpowE f (a * a % 1073741789) (n / 2) * a % 1073741789 else lpowE f (a * a % 1073741789) (n / 2)
theorem powE_eq : ∀ (f : Nat) (a : Int) (n : Nat), n < 2 ^ f → lpowE f a n = a ^ n % 1073741789
  | 0, a, n, h => by
    obtain rfl : n = 0 := by simp at h; omega
    rw [Int.pow_zero]; rfl
  | f + 1, a, n, h => by
    unfold lpowE
    by_cases h0 : n = 0
    · subst h0; rw [if_pos rfl, Int.pow_zero]; rfl
    · rw [if_neg h0]
      have hlt : n / 2 < 2 ^ f := by rw [Nat.pow_succ] at h; omega
      have ih := powE_eq f (a * a % 1073741789) (n / 2) hlt
      rw [ih, powmod]
      by_cases h1 : n % 2 = 1
      · rw [if_pos h1, mulmod_l, pow_half a n, h1, Int.pow_succ, Int.pow_zero, Int.one_mul]
      · rw [if_neg h1, pow_half a n, show n % 2 = 0 by omega, Int.pow_zero, Int.mul_one]
def invE (n : Int) : Int := lpowE 30 n 1073741787
theorem invE_eq : invQ = invE := by
  funext n; unfold invQ powQ invE; rw [powE_eq 30 n 1073741787 (by decide)]
theorem redM_E : redM = redMi invE := by rw [redMi_eq, invE_eq]

theorem ex_comb1 : combOk [[1, 1], [0, 1]] [1, 0] = true ∧ combY [[1, 1], [0, 1]] [1, 0] = [1, 1073741788] := by
  unfold combOk combY combM; rw [redM_E]; decide +kernel
end Go.Proofs.YtjjoadmkpbmhpaaGreat

namespace Go.Proofs.YtjjoadmkpbmhpaaGreat
open Go.RowKit

end Go.Proofs.YtjjoadmkpbmhpaaGreat

namespace Go.Proofs.YtjjoadmkpbmhpaaGreat
open Go.RowKit

end Go.Proofs.YtjjoadmkpbmhpaaGreat
