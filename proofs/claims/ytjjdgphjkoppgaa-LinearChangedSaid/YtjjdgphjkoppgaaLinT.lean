/- The reference of package linear: Separate. -/
import Derived.Test.YtjjdgphjkoppgaaLinS
namespace Go.Proofs.Ytjjdgphjkoppgaa
open Go.RowKit

/-- The pivots go up. -/
def Sorted (l : List Nat) : Prop := ∀ i j (hi : i < l.length) (hj : j < l.length), i < j → l[i] < l[j]
theorem sorted_snoc {l : List Nat} {c : Nat} (h : Sorted l) (hc : ∀ p ∈ l, p < c) : Sorted (l ++ [c]) := by
  intro i j hi hj hij
  rw [List.length_append, List.length_singleton] at hi hj
  by_cases ej : j = l.length
  · subst ej
    rw [List.getElem_append_left (by omega), List.getElem_append_right (Nat.le_refl _)]
    simpa using hc _ (List.getElem_mem (by omega : i < l.length))
  · rw [List.getElem_append_left (by omega), List.getElem_append_left (by omega)]
    exact h i j (by omega) (by omega) hij
theorem stepR_lt {n c : Nat} {s : Mat × List Nat} (h : (∀ p ∈ s.2, p < c) ∧ Sorted s.2) : (∀ p ∈ (stepR n s c).2, p < c + 1) ∧ Sorted (stepR n s c).2 := by
  unfold stepR
  split
  · refine ⟨fun p hp => ?_, sorted_snoc h.2 h.1⟩
    rcases List.mem_append.1 hp with h1 | h1
    · exact Nat.lt_succ_of_lt (h.1 p h1)
    · rw [List.mem_singleton.1 h1]; omega
  · exact ⟨fun p hp => Nat.lt_succ_of_lt (h.1 p hp), h.2⟩
theorem redR_lt (n : Nat) (x : Mat) : ∀ c, (∀ p ∈ (redR n x c).2, p < c) ∧ Sorted (redR n x c).2
  | 0 => ⟨by simp [redR], fun i j hi => by simp [redR] at hi⟩
  | c + 1 => by rw [redR_succ]; exact stepR_lt (redR_lt n x c)

/-- The next pivot tells whether a column is one. -/
structure Next (piv : List Nat) (c k : Nat) : Prop where
  le : k ≤ piv.length
  lo : ∀ i (h : i < piv.length), i < k → piv[i] < c
  up : ∀ i (h : i < piv.length), k ≤ i → c ≤ piv[i]
theorem Next.zero (piv : List Nat) : Next piv 0 0 := ⟨Nat.zero_le _, fun _ _ h => absurd h (Nat.not_lt_zero _), fun _ _ _ => Nat.zero_le _⟩
theorem Next.yes {piv : List Nat} {c k : Nat} (h : Next piv c k) (hs : Sorted piv) (hk : k < piv.length) (e : piv[k] = c) : Next piv (c + 1) (k + 1) :=
  ⟨hk, fun i hi hik => by
    by_cases e1 : i = k
    · subst e1; omega
    · have := h.lo i hi (by omega); omega, fun i hi hik => by have := hs k i hk hi (by omega); omega⟩
theorem Next.no {piv : List Nat} {c k : Nat} (h : Next piv c k) (hs : Sorted piv) (e : ∀ hk : k < piv.length, piv[k] ≠ c) : Next piv (c + 1) k ∧ c ∉ piv := by
  have key : ∀ i (hi : i < piv.length), k ≤ i → c < piv[i] := fun i hi hik => by
    by_cases e1 : i = k
    · subst e1; have := h.up i hi hik; have := e hi; omega
    · have := h.up k (by omega) (Nat.le_refl _); have := hs k i (by omega) hi (by omega); omega
  refine ⟨⟨h.le, fun i hi hik => by have := h.lo i hi hik; omega, fun i hi hik => by have := key i hi hik; omega⟩, fun hm => ?_⟩
  obtain ⟨i, hi, rfl⟩ := List.mem_iff_getElem.1 hm
  by_cases hik : i < k
  · have := h.lo i hi hik; omega
  · have := key i hi (by omega); omega

/-- The list with 1 at column c. -/
def sepWl (x : Mat) (piv : List Nat) (m c : Nat) : List Int := rowM m (sepW x piv c piv.length)
def rsepM (rows : List (List Int)) (t : List Int) : Mat × List Nat := redR rows.length (matOf rows) t.length
def rsepHit (x : Mat) (piv : List Nat) (t : List Int) (c : Nat) : Bool := !piv.contains c && !(prodQ (sepWl x piv t.length c) t == 0)
def rsepC (rows : List (List Int)) (t : List Int) : Option Nat := (List.range t.length).find? (rsepHit (rsepM rows t).1 (rsepM rows t).2 t)
def rsepL (x : Mat) (piv : List Nat) (t : List Int) (c : Nat) : List Int := timesQ (sepWl x piv t.length c) (invQ (prodQ (sepWl x piv t.length c) t))
def rsepQ (rows : List (List Int)) (t : List Int) : Option (List Int) := (rsepC rows t).map (rsepL (rsepM rows t).1 (rsepM rows t).2 t)
/-- What the reference's Separate returns. -/
def RSepPost (rows : List (List Int)) (t : List Int) (w : World) (e : Ending) (w' : World) : Prop :=
  ∃ yv, e = .returned (.tuple #[yv, .bool (decide (examErr rows t = 0) && (rsepQ rows t).isSome), .int .i64 (examErr rows t)]) ∧ Ints w' yv (if examErr rows t = 0 then (rsepQ rows t).getD [] else []) ∧ Below w.heap.size w w'

theorem rsepC_hit {rows : List (List Int)} {t : List Int} {x : Mat} {piv : List Nat} (hx : x = (rsepM rows t).1) (hp : piv = (rsepM rows t).2) {c : Nat} (hc : c < t.length) (h : ∀ j, j < c → rsepHit x piv t j = false) (hh : rsepHit x piv t c = true) : rsepQ rows t = some (rsepL x piv t c) := by
  have : rsepC rows t = some c := by
    unfold rsepC
    rw [← hx, ← hp, List.find?_eq_some_iff_getElem]
    refine ⟨hh, c, by simpa using hc, by simp, fun j hj => ?_⟩
    have := h j hj
    simp [this]
  unfold rsepQ
  rw [this, ← hx, ← hp]; rfl
theorem rsepC_none {rows : List (List Int)} {t : List Int} {x : Mat} {piv : List Nat} (hx : x = (rsepM rows t).1) (hp : piv = (rsepM rows t).2) (h : ∀ j, j < t.length → rsepHit x piv t j = false) : rsepQ rows t = none := by
  have : rsepC rows t = none := by
    unfold rsepC
    rw [← hx, ← hp, List.find?_eq_none]
    intro j hj
    rw [h j (by simpa using hj)]; simp
  unfold rsepQ
  rw [this]; rfl

set_option maxRecDepth 100000 in
set_option maxHeartbeats 4000000 in
theorem rSeparate_err (v u : Value) (rows : List (List Int)) (t : List Int) (w : World) (hI : Rows2 w v rows) (hU : Ints w u t) (h0 : examErr rows t ≠ 0) :
    Calls Try.prog 19 #[v, u] w fun e w' => e = .returned (.tuple #[.slice none 0 0, .bool false, .int .i64 (examErr rows t)]) ∧ Below w.heap.size w w' := by
  have hC : (examErr rows t != 0) = true := by simpa using h0
  have HC2 := Lib.hid hC
  clear h0 hC
  go_enter Try.func19, Try.ntmps19
  go_wp2_with fail
  with_reducible refine (rError_any _ _ rows t _ hI hU).mono ?_
  rintro e w1 ⟨rfl, hb⟩
  have hC := HC2.out
  go_wp2_with fail
  go_ret3
  exact ⟨rfl, hb⟩

set_option maxRecDepth 100000 in
set_option maxHeartbeats 8000000 in
theorem rSeparate_ok (v u : Value) (rows : List (List Int)) (t : List Int) (w : World) (hI : Rows2 w v rows) (hU : Ints w u t) (h0 : examErr rows t = 0) (hR : Right rows t.length) (hT : ∀ z ∈ t, 0 ≤ z ∧ z < 1073741789) (ht : t.length ≤ 64) :
    Calls Try.prog 19 #[v, u] w (RSepPost rows t w) := by
  have hI0 := hI
  have hU0 := hU
  have H0 := Lib.hid h0
  clear h0
  obtain ⟨a, cap, rfl, hcap, hlen, -⟩ := hI
  obtain ⟨a2, cap2, rfl, hcap2, hlen2, hr2', hk3⟩ := hU
  obtain ⟨hr1, hr2, hr3, hr4⟩ := hR
  have HL := Lib.hid hr3
  have HN := Lib.hid hr4
  have HT := Lib.hid hT
  have HR2 := Lib.hid hr2'
  clear hr3 hr4 hT hr2'
  go_enter Try.func19, Try.ntmps19
  go_wp2_with fail
  with_reducible refine (rError_any _ _ rows t _ hI0 hU0).mono ?_
  rintro e w1 ⟨rfl, hb1⟩
  rw [H0.out]
  go_wp2_with fail
  with_reducible refine (Reduced_mat _ rows t.length t.length _ (hI0.below hb1) HL.out HN.out (by omega) (by omega) (Nat.le_refl _)).mono ?_
  rintro e w3 ⟨a3, c3, pv, B0, rfl, hc3, hS⟩
  have hpl := redR_len rows.length (matOf rows) t.length
  have hpt := redR_lt rows.length (matOf rows) t.length
  have hxn := redR_num (n := rows.length) (m := t.length) (X := matOf rows) (fun i j hi hj => by
    have hl := HL.out _ (List.getElem_mem hi)
    rw [matOf_at hi (by omega)]; exact HN.out _ (List.getElem_mem hi) _ (List.getElem_mem _)) t.length
  have hcm : rsepM rows t = redR rows.length (matOf rows) t.length := rfl
  obtain ⟨hTab, hown, hlow, htop⟩ := hS
  obtain ⟨x, hx⟩ : ∃ x, x = (rsepM rows t).1 := ⟨_, rfl⟩
  obtain ⟨piv, hpiv⟩ : ∃ piv, piv = (rsepM rows t).2 := ⟨_, rfl⟩
  rw [← hcm] at hTab hown hpl hpt hxn
  rw [← hpiv] at hown hpl hpt
  rw [← hx] at hTab hxn
  have HX := Lib.hid hx
  have HP := Lib.hid hpiv
  have HPT := Lib.hid hpt
  have HTAB := Lib.hid hTab
  clear hx hpiv hcm hpt hTab
  obtain ⟨pp, pc, rfl⟩ := owns_slice hown
  have hbw : Below w.heap.size w w3 := hb1.trans (hlow.mono hb1.size)
  have hU3 := hU0.below hbw
  go_wp2_with fail
  go_loopw [10, 11] (fun nx i wr => ∃ c k : Nat, c ≤ t.length ∧ i = .int .i64 c ∧ nx = .int .i64 k ∧ Hid (Next piv c k) ∧ Hid (∀ j, j < c → rsepHit x piv t j = false) ∧ Below w3.heap.size w3 wr) (fun _ i _ => t.length - (intOf i).toNat)
  case atStart => exact ⟨0, 0, Nat.zero_le _, rfl, rfl, Lib.hid (Next.zero _), Lib.hid fun j hj => absurd hj (Nat.not_lt_zero _), Below.refl _ _⟩
  case round =>
    obtain ⟨c, k, hcm, rfl, rfl, HNX, HZ, hbr⟩ := hrel
    by_cases hlt : c < t.length
    · by_cases hyes : ∃ hk : k < piv.length, piv[k] = c
      · obtain ⟨hk, hek⟩ := hyes
        obtain ⟨g, rfl, hg1, hg2, hg3⟩ := owns_pivots hown (by omega)
        have hpk := below_cell hbr (hg3 k hk)
        rw [hek] at hpk
        have HNX' := Lib.hid (HNX.out.yes HPT.out.2 hk hek)
        have HZ' := Lib.hid (show ∀ j, j < c + 1 → rsepHit x piv t j = false from fun j hj => by
          by_cases e : j = c
          · have hm : c ∈ piv := hek ▸ List.getElem_mem hk
            rw [e]; simp [rsepHit, hm]
          · exact HZ.out j (by omega))
        have hkd : decide ((k : Int) < (piv.length : Int)) = true := decide_eq_true (by omega)
        clear hek hg3
        go_wp2_with fail
        go_roundw
        case rel => exact ⟨c + 1, k + 1, by omega, by go_num, by go_num, HNX', HZ', hbr⟩
        case measure => simp [intOf]; omega
      · have hno := HNX.out.no HPT.out.2 (fun hk e => hyes ⟨hk, e⟩)
        have HNX' := Lib.hid hno.1
        have HNM := Lib.hid hno.2
        have hmk := run_ints t.length (by omega)
        have i1 : (0 : Int) ≤ (c : Int) := by omega
        have i2 : (c : Int) < (t.length : Int) := by omega
        -- the guard: no pivot is left, or the next one is another column
        have hcase : (∃ hk : k < piv.length, piv[k] ≠ c) ∨ ¬ k < piv.length := by
          by_cases hk : k < piv.length
          · exact .inl ⟨hk, fun e => hyes ⟨hk, e⟩⟩
          · exact .inr hk
        clear hyes hno
        obtain ⟨Y, hY⟩ : ∃ Y, Y = wr.heap.size := ⟨_, rfl⟩
        obtain ⟨W4, hW4⟩ : ∃ W4, wr.alloc (.cells (madeCells #[.int .i64 0] t.length) 3) = W4 := ⟨_, rfl⟩
        have hI4 : IBlk W4 Y t.length (fun _ => 0) := by rw [← hW4, hY]; exact IBlk.made _ _ _
        have hb4 : Below Y wr W4 := by rw [← hW4, hY]; exact (Below.refl _ _).alloc (Nat.le_refl _) _
        have hsY : Y < W4.heap.size := by rw [← hW4, hY]; simp
        have h3Y : w3.heap.size ≤ Y := by rw [hY]; exact hbr.size
        have hyc := hI4.cell c hlt
        have hyf := hI4.fro c hlt
        have hI5 := hI4.set (k := c) 1
        have hb5 := hb4.setCell (p := ⟨Y, c, none⟩) (Nat.le_refl _) (.int .i64 1)
        have hs5 : Y < (W4.setCell ⟨Y, c, none⟩ (.int .i64 1)).heap.size := by simp [World.setCell]; exact hsY
        have hb5' : Below w3.heap.size w3 (W4.setCell ⟨Y, c, none⟩ (.int .i64 1)) := hbr.trans (hb5.mono h3Y)
        have HY := Lib.hid hY
        have HW4 := Lib.hid hW4
        have hmk4 : (Instr.makeSlice 29 (.int .i64 (t.length : Int)) (.int .i64 (t.length : Int))).run Try.prog wr = .ok (.slice (some ⟨Y, 0, none⟩) t.length t.length) W4 := by rw [hmk wr, hW4, ← hY]
        clear hY hW4 hmk
        have hfact : (decide (k < piv.length) = false) ∨ (∃ (g : Nat) (p : Nat), k < piv.length ∧ decide (k < piv.length) = true ∧ pp = some ⟨g, 0, none⟩ ∧ wr.cell? ⟨g, k, none⟩ = some (.int .i64 (p : Int)) ∧ (((p : Int) == (c : Int)) = false) ∧ ((p == c) = false)) := by
          rcases hcase with ⟨hk, hne⟩ | hk
          · obtain ⟨g, e, hg1, hg2, hg3⟩ := owns_pivots hown (by omega)
            exact .inr ⟨g, piv[k], hk, decide_eq_true hk, e, below_cell hbr (hg3 k hk), by rw [beq_eq_false_iff_ne]; omega, by rw [beq_eq_false_iff_ne]; exact hne⟩
          · exact .inl (decide_eq_false hk)
        clear hcase
        rcases hfact with hkd | ⟨g, p, hkn, hkd, rfl, hpk, hpe, hpe2⟩
        all_goals
          go_wp2_with fail
          obtain ⟨W5, hW5⟩ : ∃ W5, W4.setCell ⟨Y, c, none⟩ (.int .i64 1) = W5 := ⟨_, rfl⟩
          rw [hW5] at hI5 hb5 hs5 hb5' ⊢
          clear hW5 hyc hyf hI4 hb4 hb5 hsY hmk4
          go_loopw [13] (fun i wq => ∃ K : Nat, K ≤ piv.length ∧ i = .int .i64 K ∧ IBlk wq Y t.length (sepW x piv c K) ∧ Y < wq.heap.size ∧ Below w3.heap.size w3 wq) (fun i _ => piv.length - (intOf i).toNat)
          case atStart => exact ⟨0, Nat.zero_le _, rfl, hI5, hs5, hb5'⟩
          case round =>
            obtain ⟨K, hK, rfl, hIK, hsK, hbK⟩ := hrel
            by_cases hltK : K < piv.length
            · obtain ⟨gp, egp, hg1, hg2, hg3⟩ := owns_pivots hown (by omega)
              first | subst egp | (injection egp with e1; injection e1 with e2; have e3 := e2.symm; clear e2; subst e3)
              have hq3 := hg3 K hltK
              have hpl2 : piv[K] < t.length := HPT.out.1 _ (List.getElem_mem hltK)
              have HPK := Lib.hid (show piv[K]?.getD 0 = piv[K] by rw [List.getElem?_eq_getElem hltK]; rfl)
              obtain ⟨pk, hpk'⟩ : ∃ pk, pk = piv[K] := ⟨_, rfl⟩
              rw [← hpk'] at hq3 hpl2 HPK
              obtain ⟨B, rfl, hB1, hB2⟩ := HTAB.out.blk (by omega)
              obtain ⟨pr, cr, hcr, hfr, hir, hor⟩ := HTAB.out.row K B rfl (by omega)
              obtain ⟨br, orr, rfl, her⟩ := rowM_cell hir (j := c) hlt
              have hl1 := lt_of_cell hq3
              have hl2 := lt_of_cell hcr
              have hl3 := lt_of_cell her
              have hq3 := below_cell hbK hq3
              have hcr := below_cell hbK hcr
              have her := below_cell hbK her
              have hen := hxn K c (by omega) hlt
              have hyc := hIK.cell pk hpl2
              have hyf := hIK.fro pk hpl2
              have hrr : R64 (-(x K c)) := by unfold R64; omega
              have hvn := mod_num (-(x K c))
              have j1 : (0 : Int) ≤ (pk : Int) := by omega
              have j2 : (pk : Int) < (t.length : Int) := by omega
              have j3 : (0 : Int) ≤ (K : Int) := by omega
              have j4 : (K : Int) < (piv.length : Int) := by omega
              have j5 : (K : Int) < (rows.length : Int) := by omega
              have hs1 : ∀ v, (wr.setCell ⟨Y, pk, none⟩ v).drew.cell? ⟨gp, K, none⟩ = some (.int .i64 (pk : Int)) := fun v => (set_other (W := wr) (u := v) (.inl (by omega))).trans hq3
              have hs2 : ∀ v, (wr.setCell ⟨Y, pk, none⟩ v).drew.cell? ⟨B, K, none⟩ = some (.slice (some ⟨br, orr, none⟩) t.length cr) := fun v => (set_other (W := wr) (u := v) (.inl (by omega))).trans hcr
              have hs3 : ∀ v, (wr.setCell ⟨Y, pk, none⟩ v).drew.cell? ⟨br, orr + c, none⟩ = some (.int .i64 (x K c)) := fun v => (set_other (W := wr) (u := v) (.inl (by omega))).trans her
              have hI6 : IBlk (wr.setCell ⟨Y, pk, none⟩ (.int .i64 (-(x K c) % 1073741789))) Y t.length (sepW x piv c (K + 1)) := by
                have := hIK.set (k := pk) (-(x K c) % 1073741789)
                rw [← HPK.out] at this
                rw [← HPK.out]; exact this
              have hb6 := hbK.setCell (p := ⟨Y, pk, none⟩) h3Y (.int .i64 (-(x K c) % 1073741789))
              have hs6 : Y < (wr.setCell ⟨Y, pk, none⟩ (.int .i64 (-(x K c) % 1073741789))).heap.size := by simp [World.setCell]; exact hsK
              clear hpk' hg3 hir hor hfr
              go_wp2_with fail
              have hwr : IntKind.i64.wrap (-(x K c)) = -(x K c) := IntWalk.i64_in _ (by omega)
              go_region_held3 (fun w' => w'.cell? ⟨gp, K, none⟩ = some (.int .i64 (pk : Int)) ∧ w'.cell? ⟨B, K, none⟩ = some (.slice (some ⟨br, orr, none⟩) t.length cr) ∧ w'.cell? ⟨br, orr + c, none⟩ = some (.int .i64 (x K c))) (first | go_keep | exact ⟨hs1 _, hs2 _, hs3 _⟩)
                ((go_at_call 40; with_reducible refine (rmod_any _ _ hrr).mono ?_; rintro e w6 ⟨rfl, rfl⟩))
              clear hwr
              go_wp2_with fail
              go_roundw
              case rel => exact ⟨K + 1, by omega, by go_num, ⟨hI6.cell, hI6.fro⟩, by simpa using hs6, hb6.drew⟩
              case measure => simp [intOf]; omega
            · obtain rfl : K = piv.length := by omega
              have hW : Ints wr (.slice (some ⟨Y, 0, none⟩) t.length t.length) (sepWl x piv t.length c) := hIK.ints (Nat.le_refl _) hlen2 (fun i _ => num_r64 (sepW_num _ _))
              have hUr := hU3.below hbK
              have hPR := rProduct_any _ _ (sepWl x piv t.length c) t wr hW hUr (by unfold sepWl; rw [rowM_len]; exact Nat.le_refl _)
              have hpn := prodF_num (sepWl x piv t.length c) t (sepWl x piv t.length c).length
              obtain ⟨sp, hsp⟩ : ∃ sp, sp = prodQ (sepWl x piv t.length c) t := ⟨_, rfl⟩
              have hpn : 0 ≤ sp ∧ sp < 1073741789 := by rw [hsp]; exact hpn
              rw [← hsp] at hPR
              have HSP := Lib.hid hsp
              have HPR := Lib.hid hPR
              clear hsp hPR
              by_cases hz0 : sp = 0
              · have HZ' := Lib.hid (show ∀ j, j < c + 1 → rsepHit x piv t j = false from fun j hj => by
                  by_cases e : j = c
                  · rw [e]; unfold rsepHit; rw [← HSP.out, hz0]; simp
                  · exact HZ.out j (by omega))
                have hz0' : (sp != 0) = false := by simpa using hz0
                clear hz0
                go_wp2_with fail
                with_reducible refine HPR.out.mono ?_
                rintro e w7 ⟨rfl, hb7⟩
                go_wp2_with fail
                go_roundw
                case rel => exact ⟨c + 1, k, by omega, by go_num, rfl, HNX', HZ', hbK.trans (hb7.mono hbK.size)⟩
                case measure => simp [intOf]; omega
              · have HS0 := Lib.hid (show sp % 1073741789 ≠ 0 by omega)
                have HQ := Lib.hid (rsepC_hit HX.out HP.out hlt HZ.out (by
                  unfold rsepHit; rw [← HSP.out]; simp [HNM.out, hz0]))
                have hz0' : (sp != 0) = true := by simpa using hz0
                clear hz0
                go_wp2_with fail
                with_reducible refine HPR.out.mono ?_
                rintro e w7 ⟨rfl, hb7⟩
                go_wp2_with fail
                with_reducible refine (rinverse_any _ _ (num_r64 hpn) HS0.out).mono ?_
                rintro e w' ⟨rfl, rfl⟩
                have hvn : 0 ≤ invQ sp ∧ invQ sp < 1073741789 := mod_num _
                have hTM := times_any _ (sepWl x piv t.length c) (invQ sp) w7 (hW.below hb7) hvn (by unfold sepWl; rw [rowM_len]; omega)
                rw [show (sepWl x piv t.length c).length = t.length from rowM_len _ _] at hTM
                have HTM := Lib.hid hTM
                obtain ⟨v, hv⟩ : ∃ v, v = invQ sp := ⟨_, rfl⟩
                rw [← hv] at HTM ⊢
                have HV := Lib.hid hv
                clear hv hTM hvn
                go_wp2_with fail
                with_reducible refine HTM.out.mono ?_
                rintro e w8 ⟨⟨b8, rfl, hb8', hI8⟩, hb8⟩
                go_wp2_with fail
                go_ret3
                refine ⟨.slice (some ⟨b8, 0, none⟩) t.length t.length, ?_, ?_, hbw.trans ((hbK.mono hbw.size).trans ((hb7.mono (Nat.le_trans hbw.size hbK.size)).trans (hb8.mono (Nat.le_trans (Nat.le_trans hbw.size hbK.size) hb7.size))))⟩
                · rw [HQ.out, H0.out]; rfl
                · rw [HQ.out, if_pos H0.out]
                  rw [HV.out, HSP.out] at hI8
                  exact hI8
    · obtain rfl : c = t.length := by omega
      have HQ := Lib.hid (rsepC_none HX.out HP.out HZ.out)
      go_wp2_with fail
      go_ret3
      refine ⟨.slice none 0 0, ?_, ?_, hbw.trans (hbr.mono hbw.size)⟩
      · rw [HQ.out, H0.out]; rfl
      · rw [HQ.out, H0.out]; exact Ints.nil _ _ _

theorem rSeparate_any (v u : Value) (rows : List (List Int)) (t : List Int) (w : World) (hI : Rows2 w v rows) (hU : Ints w u t) :
    Calls Try.prog 19 #[v, u] w (RSepPost rows t w) := by
  by_cases h0 : examErr rows t = 0
  · obtain ⟨h1, h2, h3⟩ := examErr_ok_iff h0
    exact rSeparate_ok v u rows t w hI hU h0 h1 h2 h3
  · refine (rSeparate_err v u rows t w hI hU h0).mono ?_
    rintro e w' ⟨rfl, hb⟩
    refine ⟨.slice none 0 0, ?_, ?_, hb⟩
    · rw [decide_eq_false h0]; rfl
    · rw [if_neg h0]; exact Ints.nil _ _ _

end Go.Proofs.Ytjjdgphjkoppgaa
