/- The laws' own functions: made. -/
import Derived.Test.YtjjdgphjkoppgaaLinW
namespace Go.Proofs.Ytjjdgphjkoppgaa
open Go.RowKit

/-- What the first i rows make. -/
def madeF (rows : List (List Int)) (y : List Int) : Nat → Nat → Int
  | 0 => fun _ => 0
  | i + 1 => fun k => (madeF rows y i k + nth y i * nth (rows[i]?.getD []) k % 1073741789) % 1073741789
theorem madeF_num (rows : List (List Int)) (y : List Int) : ∀ i k, 0 ≤ madeF rows y i k ∧ madeF rows y i k < 1073741789
  | 0, k => by simp [madeF]
  | i + 1, k => mod_num _
/-- In the midst of a row. -/
def madeG (rows : List (List Int)) (y : List Int) (i K : Nat) : Nat → Int := fun k => if k < K then madeF rows y (i + 1) k else madeF rows y i k
theorem madeG_0 (rows : List (List Int)) (y : List Int) (i : Nat) : madeG rows y i 0 = madeF rows y i := by funext k; unfold madeG; rw [if_neg (by omega)]
theorem madeG_at (rows : List (List Int)) (y : List Int) (i K : Nat) : madeG rows y i K K = madeF rows y i K := by unfold madeG; rw [if_neg (by omega)]
theorem madeG_s (rows : List (List Int)) (y : List Int) (i K : Nat) : (fun k => if k = K then madeF rows y (i + 1) K else madeG rows y i K k) = madeG rows y i (K + 1) := by
  funext k; unfold madeG
  by_cases e : k = K
  · rw [if_pos e, if_pos (by omega), e]
  · rw [if_neg e]
    by_cases h : k < K
    · rw [if_pos h, if_pos (by omega)]
    · rw [if_neg h, if_neg (by omega)]

/-- What a combination makes; nothing unless it has a number for each row, and the rows are so long. -/
def madeOk (rows : List (List Int)) (y : List Int) (many : Nat) : Bool := decide (y.length = rows.length) && rows.all fun r => decide (r.length = many)
def madeL (rows : List (List Int)) (y : List Int) (many : Nat) : List Int := (List.range many).map (madeF rows y rows.length)
def MadePost (rows : List (List Int)) (y : List Int) (many : Nat) (w : World) (e : Ending) (w' : World) : Prop :=
  ∃ yv, e = .returned (.tuple #[yv, .bool (madeOk rows y many)]) ∧ Ints w' yv (if madeOk rows y many = true then madeL rows y many else []) ∧ Below w.heap.size w w'

set_option maxRecDepth 100000 in
set_option maxHeartbeats 4000000 in
theorem made_any (v u : Value) (rows : List (List Int)) (y : List Int) (many : Nat) (w : World) (hI : Rows2 w v rows) (hU : Ints w u y) (hm : many ≤ 1000000) :
    Calls Try.prog 22 #[v, u, .int .i64 many] w (MadePost rows y many w) := by
  have hU0 := hU
  have HU := Lib.hid (fun k (hk : k < y.length) => hU.get hk)
  obtain ⟨a, cap, rfl, hcap, hlen, hk⟩ := hI
  obtain ⟨a2, cap2, rfl, q1, q2, -⟩ := hU
  by_cases hl : y.length = rows.length
  · have HL := Lib.hid hl
    have hlb : ((y.length : Int) != (rows.length : Int)) = false := by rw [hl]; simp
    have hlb2 : (y.length != rows.length) = false := by rw [hl]; simp
    have hmk := run_ints many hm
    clear hl
    go_enter Try.func22, Try.ntmps22
    go_wp2_with fail
    obtain ⟨w1, hw1⟩ : ∃ w1, w.alloc (.cells (madeCells #[.int .i64 0] many) 3) = w1 := ⟨_, rfl⟩
    obtain ⟨Y, hY⟩ : ∃ Y, Y = w.heap.size := ⟨_, rfl⟩
    have hI1 : IBlk w1 Y many (madeF rows y 0) := by rw [← hw1, hY]; exact IBlk.made _ _ _
    have hb1 : Below Y w w1 := by rw [← hw1, hY]; exact (Below.refl _ _).alloc (Nat.le_refl _) _
    have hs1 : Y < w1.heap.size := by rw [← hw1, hY]; simp
    rw [hw1, ← hY]
    have HY := Lib.hid hY
    clear hw1 hmk hY
    go_loopw [6, 8, 9, 21] (fun l _ _ i wr => ∃ k : Nat, k ≤ rows.length ∧ i = .int .i64 k ∧ l = .slice (some ⟨Y, 0, none⟩) many many ∧ Hid (∀ r ∈ rows.take k, decide (r.length = many) = true) ∧ IBlk wr Y many (madeF rows y k) ∧ Below Y w wr ∧ Y < wr.heap.size) (fun _ _ _ i _ => rows.length - (intOf i).toNat)
    case atStart => exact ⟨0, Nat.zero_le _, rfl, rfl, Lib.hid (by simp), hI1, hb1, hs1⟩
    case round =>
      obtain ⟨k, hkl, rfl, rfl, HP, hIk, hb, hs⟩ := hrel
      by_cases hlt : k < rows.length
      · obtain ⟨b, off, r, rfl, hc, hr⟩ := hk k hlt
        have hbY : b < Y := by rw [HY.out]; exact lt_of_cell hc
        have hcb := (hb.cell (p := ⟨b, off + k, none⟩) hbY).trans hc
        have hr0 := hr
        obtain ⟨p, c, rfl, m1, m2, -⟩ := hr
        clear hk hc
        by_cases hrl : rows[k].length = many
        · have hn : ((rows[k].length : Int) != (many : Int)) = false := by rw [hrl]; simp
          have hn2 : (rows[k].length != many) = false := by rw [hrl]; simp
          have HN := Lib.hid (take_all hlt HP.out (decide_eq_true hrl))
          have HRL := Lib.hid hrl
          have HR := Lib.hid (fun j (hj : j < rows[k].length) => hr0.get hj)
          obtain ⟨hry, bb, ob, _, _, e1, hcy⟩ := HU.out k (by rw [HL.out]; exact hlt)
          cases e1
          have hbbY : bb < Y := by rw [HY.out]; exact lt_of_cell hcy
          have HCY := Lib.hid hcy
          obtain ⟨yk, hyk⟩ : ∃ yk, yk = nth y k := ⟨_, rfl⟩
          rw [← hyk] at hry
          have HYK := Lib.hid hyk
          have hI0 : IBlk wr Y many (madeG rows y k 0) := by rw [madeG_0]; exact hIk
          have i3 : (0 : Int) ≤ (k : Int) := by omega
          have i4 : (k : Int) < (y.length : Int) := by rw [HL.out]; omega
          clear hrl hr0 hcy hyk
          go_wp2_with fail
          obtain ⟨Wk, hWk⟩ : ∃ Wk : World, Wk = wr := ⟨_, rfl⟩
          rw [← hWk] at hI0 hb hs ⊢
          clear hWk hIk hcb
          go_loopw [10, 11, 32] (fun _ _ i wr => ∃ j : Nat, j ≤ many ∧ i = .int .i64 j ∧ IBlk wr Y many (madeG rows y k j) ∧ Below Y w wr ∧ Y < wr.heap.size) (fun _ _ i _ => many - (intOf i).toNat)
          case atStart => exact ⟨0, Nat.zero_le _, rfl, hI0, hb, hs⟩
          case round =>
            obtain ⟨j, hjm, rfl, hIj, hbj, hsj⟩ := hrel
            by_cases hlj : j < many
            · obtain ⟨hrz, br, orr, _, _, e2, hcz⟩ := HR.out j (by rw [HRL.out]; exact hlj)
              injection e2 with e3 e4 e5
              subst e3
              clear e4 e5
              have hbrY : br < Y := by rw [HY.out]; exact lt_of_cell hcz
              have hcz := (hbj.cell (p := ⟨br, orr + j, none⟩) hbrY).trans hcz
              have hcy := (hbj.cell (p := ⟨bb, ob + k, none⟩) hbbY).trans HCY.out
              rw [← HYK.out] at hcy
              have hyc := hIj.cell j hlj
              have hyf := hIj.fro j hlj
              rw [madeG_at] at hyc
              have hsn := madeF_num rows y k j
              have HF := Lib.hid (show madeF rows y (k + 1) j = (madeF rows y k j + yk * nth rows[k] j % 1073741789) % 1073741789 by
                show (madeF rows y k j + nth y k * nth (rows[k]?.getD []) j % 1073741789) % 1073741789 = _
                rw [List.getElem?_eq_getElem hlt, ← HYK.out]; rfl)
              obtain ⟨z, hz⟩ : ∃ z, z = nth rows[k] j := ⟨_, rfl⟩
              obtain ⟨s, hs'⟩ : ∃ s, s = madeF rows y k j := ⟨_, rfl⟩
              rw [← hz] at hrz hcz HF
              rw [← hs'] at hyc hsn HF
              have hzl : (j : Int) < (rows[k].length : Int) := by rw [HRL.out]; omega
              have i1 : (0 : Int) ≤ (j : Int) := by omega
              have i2 : (j : Int) < (many : Int) := by omega
              have hmr := mod_r64 (yk * z)
              have hycd : wr.drew.cell? ⟨Y, j, none⟩ = some (.int .i64 s) := hyc
              have hyfd : wr.drew.frozen? ⟨Y, j, none⟩ = false := hyf
              have hsjd : Y < wr.drew.heap.size := hsj
              clear hz hs'
              go_wp2_with fail
              go_region_with (first
                | (go_at_call 25; with_reducible refine (mul_any yk z _ hry hrz).mono ?_; rintro e w6 ⟨rfl, rfl⟩)
                | (go_at_call 24; with_reducible refine (add_any s (yk * z % 1073741789) _ (num_r64 hsn) hmr).mono ?_; rintro e w6 ⟨rfl, hb7⟩; have hk1 := below_cell hb7 hycd; have hk2 := (hb7.frozen (p := ⟨Y, j, none⟩) hsjd).trans hyfd))
              all_goals
                have hb8 : Below wr.heap.size wr w6 := ((Below.refl wr.heap.size wr).drew).trans hb7
                have hI' := (hIj.below hb8 hsj).set (k := j) ((s + yk * z) % 1073741789)
                rw [show (s + yk * z) % 1073741789 = madeF rows y (k + 1) j by rw [HF.out]; omega, madeG_s] at hI'
                rw [show madeF rows y (k + 1) j = (s + yk * z) % 1073741789 by rw [HF.out]; omega] at hI'
                have hb' := (hbj.trans (hb8.mono (Nat.le_of_lt hsj))).setCell (p := ⟨Y, j, none⟩) (Nat.le_refl _) (.int .i64 ((s + yk * z) % 1073741789))
                have hs8 : Y < (w6.setCell ⟨Y, j, none⟩ (.int .i64 ((s + yk * z) % 1073741789))).heap.size := by have := hb8.size; simp [World.setCell]; omega
                go_wp2_with fail
                go_roundw
                case rel => exact ⟨j + 1, by omega, by go_num, hI', hb', hs8⟩
                case measure => simp [intOf]; omega
            · obtain rfl : j = many := by omega
              have hIe : IBlk wr Y j (madeF rows y (k + 1)) := ⟨fun i hi => by rw [hIj.cell i hi]; unfold madeG; rw [if_pos hi], hIj.fro⟩
              have hjl : decide ((j : Int) < (rows[k].length : Int)) = false := by rw [HRL.out]; simp
              have hjl2 : decide (j < rows[k].length) = false := by rw [HRL.out]; simp
              go_wp2_with fail
              go_roundw
              case rel => exact ⟨k + 1, by omega, by go_num, rfl, HN, hIe, hbj, hsj⟩
              case measure => simp [intOf]; omega
        · have hn : ((rows[k].length : Int) != (many : Int)) = true := by rw [bne_iff_ne]; omega
          have hn2 : (rows[k].length != many) = true := by rw [bne_iff_ne]; exact hrl
          have HN := Lib.hid (show madeOk rows y many = false by
            unfold madeOk
            rw [show (rows.all fun r => decide (r.length = many)) = false from List.all_eq_false.2 ⟨_, List.getElem_mem hlt, by rw [decide_eq_false hrl]; simp⟩]; simp)
          clear hrl
          go_wp2_with fail
          go_ret2
          refine ⟨.slice none 0 0, ?_, ?_, by rw [← HY.out]; exact hb⟩
          · rw [HN.out]; rfl
          · rw [HN.out]; exact Ints.nil _ _ _
      · have HN := Lib.hid (show madeOk rows y many = true by
          unfold madeOk
          rw [decide_eq_true HL.out, show (rows.all fun r => decide (r.length = many)) = true from List.all_eq_true.2 (take_whole hlt HP.out)]; rfl)
        obtain rfl : k = rows.length := by omega
        have hIN := hIk.ints (Nat.le_refl _) (by omega) (fun i _ => num_r64 (madeF_num _ _ _ _))
        go_wp2_with fail
        go_ret2
        refine ⟨.slice (some ⟨Y, 0, none⟩) many many, ?_, ?_, by rw [← HY.out]; exact hb⟩
        · rw [HN.out]; rfl
        · rw [HN.out, if_pos rfl]; exact hIN
  · have HR := Lib.hid (show madeOk rows y many = false by unfold madeOk; rw [decide_eq_false hl]; rfl)
    have hlb : ((y.length : Int) != (rows.length : Int)) = true := by rw [bne_iff_ne]; omega
    have hlb2 : (y.length != rows.length) = true := by rw [bne_iff_ne]; exact hl
    clear hl
    go_enter Try.func22, Try.ntmps22
    go_wp2_with fail
    go_ret2
    refine ⟨.slice none 0 0, ?_, ?_, Below.refl _ _⟩
    · rw [HR.out]; rfl
    · rw [HR.out]; exact Ints.nil _ _ _

end Go.Proofs.Ytjjdgphjkoppgaa
