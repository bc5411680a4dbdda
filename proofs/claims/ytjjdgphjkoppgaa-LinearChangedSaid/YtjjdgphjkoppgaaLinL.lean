/- Package linear: Separate, where there are columns. -/
import Derived.Test.YtjjdgphjkoppgaaLinK
namespace Go.Proofs.Ytjjdgphjkoppgaa
open Go.RowKit

theorem sepC_hit {rows : List (List Int)} {t : List Int} {x : Mat} {piv : List Nat} (hx : x = (sepM rows t).1) (hp : piv = (sepM rows t).2) {c : Nat} (hc : c < t.length) (h : ∀ j, j < c → sepHit x piv t j = false) (hh : sepHit x piv t c = true) : sepQ rows t = some (sepL x piv t c) := by
  have : sepC rows t = some c := by
    unfold sepC
    rw [← hx, ← hp, List.find?_eq_some_iff_getElem]
    refine ⟨hh, c, by simpa using hc, by simp, fun j hj => ?_⟩
    have := h j hj
    simp [this]
  unfold sepQ
  rw [this, ← hx, ← hp]; rfl
theorem sepC_none {rows : List (List Int)} {t : List Int} {x : Mat} {piv : List Nat} (hx : x = (sepM rows t).1) (hp : piv = (sepM rows t).2) (h : ∀ j, j < t.length → sepHit x piv t j = false) : sepQ rows t = none := by
  have : sepC rows t = none := by
    unfold sepC
    rw [← hx, ← hp, List.find?_eq_none]
    intro j hj
    rw [h j (by simpa using hj)]; simp
  unfold sepQ
  rw [this]; rfl

theorem sepW_num {x : Mat} {piv : List Nat} {c : Nat} : ∀ K i, 0 ≤ sepW x piv c K i ∧ sepW x piv c K i < 1073741789
  | 0, i => by
    show 0 ≤ (if i = c then (1 : Int) else 0) ∧ (if i = c then (1 : Int) else 0) < 1073741789
    split <;> omega
  | K + 1, i => by
    show 0 ≤ (if i = piv[K]?.getD 0 then -(x K c) % 1073741789 else sepW x piv c K i) ∧ (if i = piv[K]?.getD 0 then -(x K c) % 1073741789 else sepW x piv c K i) < 1073741789
    split
    · exact mod_num _
    · exact sepW_num K i
theorem sepP_num {x : Mat} {piv : List Nat} {t : List Int} {c : Nat} (ht : ∀ z ∈ t, 0 ≤ z ∧ z < 1073741789) : ∀ K, 0 ≤ sepP x piv t c K ∧ sepP x piv t c K < 1073741789
  | 0 => by
    show 0 ≤ t[c]?.getD 0 ∧ t[c]?.getD 0 < 1073741789
    by_cases h : c < t.length
    · rw [List.getElem?_eq_getElem h]; exact ht _ (List.getElem_mem h)
    · rw [List.getElem?_eq_none (by omega)]; simp
  | K + 1 => mod_num _

theorem owns_pivots_ints {W : World} {B : Nat} {pp : Option Addr} {pc : Nat} {piv : List Nat} {m : Nat} (h : W.ownsRow B 3 1 (.slice pp piv.length pc) piv.length (piv.map fun (k : Nat) => Value.int .i64 (k : Int))) (hn : piv.length ≤ 1000) (hc : piv.length ≤ pc) (hl : ∀ p ∈ piv, p < m) (hm : m ≤ 1000) :
    Ints W (.slice pp piv.length pc) (piv.map fun k : Nat => (k : Int)) := by
  refine ⟨pp, pc, by simp, by simpa using hc, by simp; omega, fun z hz => ?_, fun k hk => ?_⟩
  · obtain ⟨p, hp, rfl⟩ := List.mem_map.1 hz
    have := hl p hp
    unfold R64; omega
  · simp at hk
    obtain ⟨g, rfl, _, _, h3⟩ := owns_pivots h (by omega)
    exact ⟨g, 0, rfl, by rw [Nat.zero_add]; simpa using h3 k hk⟩

theorem owns_room {W : World} {B e z n : Nat} {pp : Option Addr} {pc k : Nat} {xs : List Value} (h : W.ownsRow B e z (.slice pp n pc) k xs) : n ≤ pc := by
  obtain ⟨-, ⟨e1, e2⟩ | ⟨g, cap, cur, e1, hB, hh, hr⟩⟩ := h
  · cases e1; exact Nat.zero_le _
  · cases e1; exact hr.1

/-- A list of which the first K elements are multiplied. -/
def scaleF (f : Nat → Int) (v : Int) (K : Nat) : Nat → Int := fun i => if i < K then f i * v % 1073741789 else f i
theorem scaleF_0 (f : Nat → Int) (v : Int) : scaleF f v 0 = f := by funext i; unfold scaleF; rw [if_neg (by omega)]
theorem scaleF_at (f : Nat → Int) (v : Int) (K : Nat) : scaleF f v K K = f K := by unfold scaleF; rw [if_neg (by omega)]
theorem scaleF_s (f : Nat → Int) (v : Int) (K : Nat) : scaleF f v (K + 1) = fun i => if i = K then scaleF f v K K * v % 1073741789 else scaleF f v K i := by
  funext i
  rw [scaleF_at]
  unfold scaleF
  by_cases e : i = K
  · rw [if_pos (by omega), if_pos e, e]
  · rw [if_neg e]
    by_cases h : i < K
    · rw [if_pos (by omega), if_pos h]
    · rw [if_neg (by omega), if_neg h]
theorem scaleF_end {f : Nat → Int} {v : Int} {K i : Nat} (h : i < K) : scaleF f v K i = f i * v % 1073741789 := by unfold scaleF; rw [if_pos h]
theorem scaleF_list {x : Mat} {piv : List Nat} {t : List Int} {c : Nat} {v : Int} : (List.range t.length).map (scaleF (sepW x piv c piv.length) v t.length) = (List.range t.length).map fun i => sepW x piv c piv.length i * v % 1073741789 :=
  List.map_congr_left fun i hi => scaleF_end (by simpa using hi)

set_option maxRecDepth 100000 in
set_option maxHeartbeats 8000000 in
theorem Separate_wide (v u : Value) (rows : List (List Int)) (t : List Int) (w : World) (hI : Rows2 w v rows) (hU : Ints w u t) (h0 : examErr rows t = 0) (hR : Right rows t.length) (hT : ∀ z ∈ t, 0 ≤ z ∧ z < 1073741789) (ht : t.length ≤ 64) (ht0 : 0 < t.length) :
    Calls Try.prog 18 #[v, u] w (SepPost rows t w) := by
  have hb0 : Below w.heap.size w (w.alloc (.cells #[.int .i64 0] 25)) := (Below.refl _ _).alloc (Nat.le_refl _) _
  have hI1 := hI.below hb0
  have hU1 := hU.below hb0
  have H0 := Lib.hid h0
  clear h0
  obtain ⟨a, cap, rfl, hcap, hlen, -⟩ := hI
  obtain ⟨a2, cap2, rfl, hcap2, hlen2, -⟩ := hU
  obtain ⟨hr1, hr2, hr3, hr4⟩ := hR
  have HL := Lib.hid hr3
  have HN := Lib.hid hr4
  have HT := Lib.hid hT
  clear hr3 hr4 hT
  go_enter_defers Try.func18, Try.ntmps18
  go_wp2_with fail
  with_reducible refine (mono_ending (examine_any _ _ rows t _ hI1 hU1) (raised_zero H0.out)).mono ?_
  rintro e w1 ⟨rfl, hb⟩
  obtain ⟨hc1, hf1⟩ := box_later hb
  have hI2 := hI1.below hb
  have hU2 := hU1.below hb
  go_wp2_with fail
  with_reducible refine (copyOf_any _ rows t.length _ hI2 ht0 HL.out HN.out (by omega)).mono ?_
  rintro e w2 ⟨rb, rfl, hT2, hs2, hb2⟩
  have hc2 := below_cell hb2 hc1
  have hlt1 := lt_of_cell hc1
  have hf2 : w2.frozen? ⟨w.heap.size, 0, none⟩ = false := by rw [hb2.frozen (p := ⟨w.heap.size, 0, none⟩) hlt1]; exact hf1
  go_wp2_with fail
  with_reducible refine (reduce_any w1.heap.size w1.heap.size rb rows.length t.length _ _ hT2 hs2 (Nat.le_of_lt hs2) _ t.length (Nat.le_refl _) ht0 (by omega) (by omega)).mono ?_
  rintro e w3 ⟨pv, rb', rfl, hown3, hT3, hb3⟩
  have hc3 : w3.cell? ⟨w.heap.size, 0, none⟩ = some (.int .i64 0) := by rw [hb3.cell (p := ⟨w.heap.size, 0, none⟩) hlt1]; exact hc2
  have hf3 : w3.frozen? ⟨w.heap.size, 0, none⟩ = false := by rw [hb3.frozen (p := ⟨w.heap.size, 0, none⟩) hlt1]; exact hf2
  have hlt3 : w.heap.size < w3.heap.size := lt_of_cell hc3
  have hU3 : Ints w3 (.slice a2 t.length cap2) t := hU2.below (hb2.trans hb3)
  have hbw : Below w.heap.size w w3 := (below_new hb).trans (((hb2.mono (Nat.le_of_lt hlt1))).trans (hb3.mono (Nat.le_of_lt hlt1)))
  have hpl := redM_len rows.length (matOf rows) t.length
  have hpt := redM_lt rows.length (matOf rows) t.length
  have hcm : sepM rows t = redM rows.length (matOf rows) t.length := rfl
  obtain ⟨x, hx⟩ : ∃ x, x = (sepM rows t).1 := ⟨_, rfl⟩
  obtain ⟨piv, hpiv⟩ : ∃ piv, piv = (sepM rows t).2 := ⟨_, rfl⟩
  rw [← hcm] at hT3 hown3 hpl hpt
  rw [← hpiv] at hown3 hpl hpt
  rw [← hx] at hT3
  have HX := Lib.hid hx
  have HP := Lib.hid hpiv
  have HPT := Lib.hid hpt
  clear hx hpiv hcm hpt
  obtain ⟨pp, pc, rfl⟩ := owns_slice hown3
  have hPI := owns_pivots_ints hown3 (by omega) (owns_room hown3) HPT.out (by omega)
  go_wp2_with fail
  obtain ⟨a3, c3', e3, q1, q2, q3, hk3⟩ := hU3
  obtain ⟨rfl, rfl⟩ : a2 = a3 ∧ cap2 = c3' := by cases e3; exact ⟨rfl, rfl⟩
  clear e3 q1 q2 q3
  go_loopw [9, 29] (fun _ i wr => ∃ c : Nat, c ≤ t.length ∧ i = .int .i64 c ∧ Hid (∀ j, j < c → sepHit x piv t j = false) ∧ Below w3.heap.size w3 wr) (fun _ i _ => t.length - (intOf i).toNat)
  case atStart => exact ⟨0, Nat.zero_le _, rfl, Lib.hid fun j hj => absurd hj (Nat.not_lt_zero _), Below.refl _ _⟩
  case round =>
    obtain ⟨c, hcm, rfl, HZ, hbr⟩ := hrel
    by_cases hlt : c < t.length
    · obtain ⟨bt, offt, rfl, htc⟩ := hk3 c hlt
      by_cases hpc : c ∈ piv
      · have hpc' : (c : Int) ∈ piv.map (fun k : Nat => (k : Int)) := List.mem_map.2 ⟨c, hpc, rfl⟩
        have HZ' := Lib.hid (show ∀ j, j < c + 1 → sepHit x piv t j = false from fun j hj => by
          by_cases e : j = c
          · rw [e]; simp [sepHit, hpc]
          · exact HZ.out j (by omega))
        have HPC := Lib.hid hpc'
        clear hpc hpc'
        go_wp2_with fail
        with_reducible refine (contains_yes _ _ _ _ (hPI.below hbr) HPC.out).mono ?_
        rintro e w' ⟨rfl, rfl⟩
        go_wp2_with fail
        go_roundw
        case rel => exact ⟨c + 1, by omega, by go_num, HZ', hbr⟩
        case measure => simp [intOf]; omega
      · have hpc' : (c : Int) ∉ piv.map (fun k : Nat => (k : Int)) := fun h => by
          obtain ⟨k, hk, e⟩ := List.mem_map.1 h
          obtain rfl : k = c := by omega
          exact hpc hk
        have HPC := Lib.hid hpc'
        have HPN := Lib.hid hpc
        clear hpc hpc'
        go_wp2_with fail
        with_reducible refine (contains_no _ _ _ _ (hPI.below hbr) HPC.out).mono ?_
        rintro e w' ⟨rfl, rfl⟩
        obtain ⟨z, hz⟩ : ∃ z, z = t[c] := ⟨_, rfl⟩
        rw [← hz] at htc
        have htn : 0 ≤ z ∧ z < 1073741789 := by rw [hz]; exact HT.out _ (List.getElem_mem hlt)
        have HTC := Lib.hid (show z = t[c]?.getD 0 by rw [hz, List.getElem?_eq_getElem hlt]; rfl)
        clear hz
        have hbt0 : bt < w3.heap.size := lt_of_cell htc
        have htc := below_cell hbr htc
        have hmk := run_ints t.length (by omega)
        have i1 : (0 : Int) ≤ (c : Int) := by omega
        have i2 : (c : Int) < (t.length : Int) := by omega
        go_wp2_with fail
        go_region_held3 (fun w' => w'.cell? ⟨bt, offt + c, none⟩ = some (.int .i64 z)) (go_keep) (fail)
        obtain ⟨W4, hW4⟩ : ∃ W4, (wr.alloc (.cells (madeCells #[.int .i64 0] t.length) 3)).drew = W4 := ⟨_, rfl⟩
        obtain ⟨Y, hY⟩ : ∃ Y, Y = wr.heap.size := ⟨_, rfl⟩
        have hI4 : IBlk W4 Y t.length (fun _ => 0) := by
          rw [← hW4, hY]
          have h := IBlk.made wr t.length 3
          exact ⟨h.cell, h.fro⟩
        have hb4 : Below Y wr W4 := by rw [← hW4, hY]; exact ((Below.refl _ _).alloc (Nat.le_refl _) _).drew
        have hsY : Y < W4.heap.size := by rw [← hW4, hY]; simp
        rw [hW4, ← hY]
        have h3Y : w3.heap.size ≤ Y := by rw [hY]; exact hbr.size
        clear hW4 hmk hY
        have hyc := hI4.cell c hlt
        have hyf := hI4.fro c hlt
        go_wp2_with fail
        have hI5 := hI4.set (k := c) 1
        have hb5 := hb4.setCell (p := ⟨Y, c, none⟩) (Nat.le_refl _) (.int .i64 1)
        have hs5 : Y < (W4.setCell ⟨Y, c, none⟩ (.int .i64 1)).heap.size := by simp [World.setCell]; exact hsY
        obtain ⟨W5, hW5⟩ : ∃ W5, W4.setCell ⟨Y, c, none⟩ (.int .i64 1) = W5 := ⟨_, rfl⟩
        rw [hW5] at hI5 hb5 hs5 ⊢
        have hb5' : Below w3.heap.size w3 W5 := hbr.trans (hb5.mono h3Y)
        clear hW5 hyc hyf hI4 hb4 hb5 hsY
        go_loopw [11, 12, 13, 47] (fun pr _ _ i wq => ∃ K : Nat, K ≤ piv.length ∧ i = .int .i64 K ∧ pr = .int .i64 (sepP x piv t c K) ∧ IBlk wq Y t.length (sepW x piv c K) ∧ Y < wq.heap.size ∧ Below w3.heap.size w3 wq) (fun _ _ _ i _ => piv.length - (intOf i).toNat)
        case atStart => exact ⟨0, Nat.zero_le _, rfl, by rw [HTC.out]; rfl, hI5, hs5, hb5'⟩
        case round =>
          obtain ⟨K, hK, rfl, rfl, hIK, hsK, hbK⟩ := hrel
          by_cases hltK : K < piv.length
          · obtain ⟨g, rfl, hg1, hg2, hg3⟩ := owns_pivots hown3 (by omega)
            have hpk := below_cell hbK (hg3 K hltK)
            have hpl2 : piv[K] < t.length := HPT.out _ (List.getElem_mem hltK)
            have HPK := Lib.hid (show piv[K]?.getD 0 = piv[K] by rw [List.getElem?_eq_getElem hltK]; rfl)
            obtain ⟨p, hp⟩ : ∃ p, p = piv[K] := ⟨_, rfl⟩
            rw [← hp] at hpk hpl2 HPK
            obtain ⟨rc, hrow⟩ := hT3.row K (by omega)
            have hel := below_cell hbK (hT3.elem K c (by omega) hlt)
            have hen := hT3.num K c (by omega) hlt
            have hrow := below_cell hbK hrow
            obtain ⟨tp, htp⟩ : ∃ tp, tp = t[p] := ⟨_, rfl⟩
            have htpn : 0 ≤ tp ∧ tp < 1073741789 := by rw [htp]; exact HT.out _ (List.getElem_mem hpl2)
            obtain ⟨b', o', e', htc'⟩ := hk3 p hpl2
            obtain ⟨rfl, rfl⟩ : bt = b' ∧ offt = o' := by cases e'; exact ⟨rfl, rfl⟩
            rw [← htp] at htc'
            have htc' := below_cell hbK htc'
            have HTP := Lib.hid (show t[p]?.getD 0 = tp by rw [htp, List.getElem?_eq_getElem hpl2]; rfl)
            have hyc := hIK.cell p hpl2
            have hyf := hIK.fro p hpl2
            have hrr : R64 (-(x K c)) := by unfold R64; omega
            clear hp hg3 htp e'
            go_wp2_with fail
            with_reducible refine (mod_any _ _ hrr).mono ?_
            rintro e w' ⟨rfl, rfl⟩
            go_wp2_with fail
            obtain ⟨v, hv⟩ : ∃ v, v = -(x K c) % 1073741789 := ⟨_, rfl⟩
            rw [← hv]
            have hvn : 0 ≤ v ∧ v < 1073741789 := by rw [hv]; exact mod_num _
            have hvr := num_r64 hvn
            have htr := num_r64 htpn
            have hsr := num_r64 (sepP_num (x := x) (piv := piv) (c := c) HT.out K)
            have hmr := mod_r64 (v * tp)
            have hI6 : IBlk (wr.setCell ⟨Y, p, none⟩ (.int .i64 v)) Y t.length (sepW x piv c (K + 1)) := by
              have := hIK.set (k := p) v
              rw [← HPK.out, hv] at this
              rw [← HPK.out, hv]; exact this
            have hb6 := hbK.setCell (p := ⟨Y, p, none⟩) h3Y (.int .i64 v)
            have hs6 : Y < (wr.setCell ⟨Y, p, none⟩ (.int .i64 v)).heap.size := by simp [World.setCell]; exact hsK
            have hy6 : (wr.setCell ⟨Y, p, none⟩ (.int .i64 v)).cell? ⟨Y, p, none⟩ = some (.int .i64 v) := World.cell?_setCell_same' _ _ _ (by rw [hyc]; rfl)
            have hbt : bt < w3.heap.size := hbt0
            have ht6 : (wr.setCell ⟨Y, p, none⟩ (.int .i64 v)).cell? ⟨bt, offt + p, none⟩ = some (.int .i64 tp) := by rw [set_other (.inl (by omega))]; exact htc'
            have HSP := Lib.hid (show sepP x piv t c (K + 1) = (sepP x piv t c K + v * tp % 1073741789) % 1073741789 by
              show (sepP x piv t c K + (-(x K c) % 1073741789) * t[piv[K]?.getD 0]?.getD 0 % 1073741789) % 1073741789 = _
              rw [HPK.out, HTP.out, hv])
            obtain ⟨W6, hW6⟩ : ∃ W6, wr.setCell ⟨Y, p, none⟩ (.int .i64 v) = W6 := ⟨_, rfl⟩
            rw [hW6] at hI6 hb6 hs6 hy6 ht6 ⊢
            obtain ⟨sp, hsp⟩ : ∃ sp, sp = sepP x piv t c K := ⟨_, rfl⟩
            rw [← hsp] at hsr HSP ⊢
            have j1 : (0 : Int) ≤ (p : Int) := by omega
            have j2 : (p : Int) < (t.length : Int) := by omega
            clear hv hW6 hsp hyc hyf hel hrow htc'
            have hy6d : W6.drew.cell? ⟨Y, p, none⟩ = some (.int .i64 v) := hy6
            have ht6d : W6.drew.cell? ⟨bt, offt + p, none⟩ = some (.int .i64 tp) := ht6
            go_region_held3 (fun w' => w'.cell? ⟨Y, p, none⟩ = some (.int .i64 v) ∧ w'.cell? ⟨bt, offt + p, none⟩ = some (.int .i64 tp)) (go_keep)
              (first
                | (go_at_call 25; with_reducible refine (mul_any v tp _ hvr htr).mono ?_; rintro e w6 ⟨rfl, rfl⟩)
                | (go_at_call 24; with_reducible refine (add_any sp (v * tp % 1073741789) _ hsr hmr).mono ?_; rintro e w6 ⟨rfl, hb7⟩; have hk1 := below_cell hb7 hy6d; have hk2 := below_cell hb7 ht6d))
            go_wp2_with fail
            have hb8 : Below W6.heap.size W6 w6 := ((Below.refl W6.heap.size W6).drew).trans hb7
            go_roundw
            case rel => exact ⟨K + 1, by omega, by go_num, by rw [HSP.out]; congr 1; omega, hI6.below hb8 hs6, Nat.lt_of_lt_of_le hs6 hb8.size, hb6.trans (hb8.mono hb6.size)⟩
            case measure => simp [intOf]; omega
          · obtain rfl : K = piv.length := by omega
            have hpn := sepP_num (x := x) (piv := piv) (c := c) HT.out piv.length
            obtain ⟨sp, hsp⟩ : ∃ sp, sp = sepP x piv t c piv.length := ⟨_, rfl⟩
            rw [← hsp] at hpn ⊢
            have HSP := Lib.hid hsp
            clear hsp
            by_cases hz0 : sp % 1073741789 = 0
            · have HZ' := Lib.hid (show ∀ j, j < c + 1 → sepHit x piv t j = false from fun j hj => by
                by_cases e : j = c
                · rw [e]; unfold sepHit; rw [← HSP.out, hz0]; simp
                · exact HZ.out j (by omega))
              have HS0 := Lib.hid hz0
              clear hz0
              go_wp2_with fail
              with_reducible refine (inverse_zero _ _ (num_r64 hpn) HS0.out).mono ?_
              rintro e w' ⟨rfl, rfl⟩
              go_wp2_with fail
              go_roundw
              case rel => exact ⟨c + 1, by omega, by go_num, HZ', hbK⟩
              case measure => simp [intOf]; omega
            · have HS0 := Lib.hid hz0
              have HQ := Lib.hid (sepC_hit HX.out HP.out hlt HZ.out (by
                unfold sepHit; rw [← HSP.out]; simp [HPN.out, hz0]))
              clear hz0
              go_wp2_with fail
              with_reducible refine (inverse_any _ _ (num_r64 hpn) HS0.out).mono ?_
              rintro e w' ⟨rfl, rfl⟩
              have hvn : 0 ≤ invQ sp ∧ invQ sp < 1073741789 := mod_num _
              obtain ⟨v, hv⟩ : ∃ v, v = invQ sp := ⟨_, rfl⟩
              rw [← hv] at hvn ⊢
              have HV := Lib.hid hv
              clear hv
              go_wp2_with fail
              have hI0 : IBlk wr Y t.length (scaleF (sepW x piv c piv.length) v 0) := by rw [scaleF_0]; exact hIK
              go_loopw [16, 17, 85] (fun _ _ i wq => ∃ K : Nat, K ≤ t.length ∧ i = .int .i64 K ∧ IBlk wq Y t.length (scaleF (sepW x piv c piv.length) v K) ∧ Below w3.heap.size w3 wq) (fun _ _ i _ => t.length - (intOf i).toNat)
              case atStart => exact ⟨0, Nat.zero_le _, rfl, hI0, hbK⟩
              case round =>
                obtain ⟨K, hK2, rfl, hIQ, hbQ⟩ := hrel
                by_cases hltK : K < t.length
                · have hyc := hIQ.cell K hltK
                  have hyf := hIQ.fro K hltK
                  have hI' : IBlk (wr.setCell ⟨Y, K, none⟩ (.int .i64 (scaleF (sepW x piv c piv.length) v K K * v % 1073741789))) Y t.length (scaleF (sepW x piv c piv.length) v (K + 1)) := by
                    rw [scaleF_s]; exact hIQ.set _
                  have hb' := hbQ.setCell (p := ⟨Y, K, none⟩) h3Y (.int .i64 (scaleF (sepW x piv c piv.length) v K K * v % 1073741789))
                  obtain ⟨y, hy⟩ : ∃ y, y = scaleF (sepW x piv c piv.length) v K K := ⟨_, rfl⟩
                  have hyn : 0 ≤ y ∧ y < 1073741789 := by rw [hy, scaleF_at]; exact sepW_num _ _
                  rw [← hy] at hyc hI' hb'
                  clear hy
                  go_wp2_with fail
                  with_reducible refine (mul_any y v _ (num_r64 hyn) (num_r64 hvn)).mono ?_
                  rintro e w' ⟨rfl, rfl⟩
                  go_wp2_with fail
                  go_roundw
                  case rel => exact ⟨K + 1, by omega, by go_num, hI', hb'⟩
                  case measure => simp [intOf]; omega
                · obtain rfl : K = t.length := by omega
                  have hc5 : wr.cell? ⟨w.heap.size, 0, none⟩ = some (.int .i64 0) := below_cell hbQ hc3
                  have hf5 : wr.frozen? ⟨w.heap.size, 0, none⟩ = false := by rw [hbQ.frozen (p := ⟨w.heap.size, 0, none⟩) hlt3]; exact hf3
                  go_wp2_with fail
                  refine leaves_cons (f := 30) (args := #[.pointer (some ⟨w.heap.size, 0, none⟩)]) (by simp) (by simp [go_sem]) ?_
                  refine (caught_idle _ _).mono ?_
                  rintro e u' w'' ⟨rfl, rfl, rfl⟩
                  have hx := World.cell?_setCell_same' wr ⟨w.heap.size, 0, none⟩ (.int .i64 0) (by rw [hc5]; rfl)
                  simp [Leaves, settle, results, Try.results18, go_sem, hx]
                  refine ⟨.slice (some ⟨Y, 0, none⟩) t.length t.length, ?_, ?_, (hbw.trans (hbQ.mono (Nat.le_of_lt hlt3))).setCell (Nat.le_refl _) _⟩
                  · rw [HQ.out, H0.out]; rfl
                  · rw [HQ.out, if_pos H0.out]
                    have := (hIQ.other (b' := w.heap.size) (o := 0) (by omega) (.int .i64 0)).ints (Nat.le_refl _) hlen2 (fun i hi => by rw [scaleF_end hi]; exact mod_r64 _)
                    rw [scaleF_list, HV.out, HSP.out] at this
                    exact this
    · obtain rfl : c = t.length := by omega
      have HQ := Lib.hid (sepC_none HX.out HP.out HZ.out)
      have hc5 : wr.cell? ⟨w.heap.size, 0, none⟩ = some (.int .i64 0) := below_cell hbr hc3
      have hf5 : wr.frozen? ⟨w.heap.size, 0, none⟩ = false := by rw [hbr.frozen (p := ⟨w.heap.size, 0, none⟩) hlt3]; exact hf3
      go_wp2_with fail
      refine leaves_cons (f := 30) (args := #[.pointer (some ⟨w.heap.size, 0, none⟩)]) (by simp) (by simp [go_sem]) ?_
      refine (caught_idle _ _).mono ?_
      rintro e u' w'' ⟨rfl, rfl, rfl⟩
      have hx := World.cell?_setCell_same' wr ⟨w.heap.size, 0, none⟩ (.int .i64 0) (by rw [hc5]; rfl)
      simp [Leaves, settle, results, Try.results18, go_sem, hx]
      refine ⟨.slice none 0 0, ?_, ?_, (hbw.trans (hbr.mono (Nat.le_of_lt hlt3))).setCell (Nat.le_refl _) _⟩
      · rw [HQ.out, H0.out]; rfl
      · rw [HQ.out, H0.out]; exact Ints.nil _ _ _

theorem Separate_any (v u : Value) (rows : List (List Int)) (t : List Int) (w : World) (hI : Rows2 w v rows) (hU : Ints w u t) :
    Calls Try.prog 18 #[v, u] w (SepPost rows t w) := by
  by_cases h0 : examErr rows t = 0
  · obtain ⟨h1, h2, h3⟩ := examErr_ok_iff h0
    by_cases ht : t.length = 0
    · obtain rfl : t = [] := List.length_eq_zero_iff.1 ht
      exact Separate_flat v u rows w hI hU h0 h1.few (wide_zero h1)
    · exact Separate_wide v u rows t w hI hU h0 h1 h2 h3 (by omega)
  · refine (Separate_err v u rows t w hI hU h0).mono ?_
    rintro e w' ⟨rfl, hb⟩
    refine ⟨.slice none 0 0, ?_, ?_, hb⟩
    · rw [decide_eq_false h0]; rfl
    · rw [if_neg h0]; exact Ints.nil _ _ _

end Go.Proofs.Ytjjdgphjkoppgaa
