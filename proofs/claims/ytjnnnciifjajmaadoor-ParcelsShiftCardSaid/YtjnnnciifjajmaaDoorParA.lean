/- Package parcels: the encoding of some integers, pads. -/
import Derived.Test.YtjnnnciifjajmaaDoorText
import Derived.Test.YtjnnnciifjajmaaDoorParP
namespace Go.Proofs.YtjnnnciifjajmaaDoor
open Go.RowKit FP

set_option maxRecDepth 100000 in
set_option maxHeartbeats 2000000 in
theorem integers_any (v : Value) (zs : List Int) (w : World) (hI : Ints w v zs) (hl : zs.length ≤ 1000) :
    Calls Tryd.prog 69 #[v] w fun e w' => ∃ v', e = .returned v' ∧ Byts w' v' (encL zs) ∧ Below w.heap.size w w' := by
  obtain ⟨a, cap, rfl, hcap, hlen, hr, hk⟩ := hI
  have HR := Lib.hid hr
  have HK := Lib.hid hk
  clear hr hk
  go_enter Tryd.func69, Tryd.ntmps69
  go_wp2_with fail
  have h00 : TextI w zs 0 (w.alloc (.cells #[.int .i64 3, .int .i64 0, .string ⟨#[]⟩, .slice none 0 0] 72)) := ⟨_, World.alloc_heap_new _ _, World.ownsRow_nil _ _ _ _, (Below.refl _ _).alloc (Nat.le_refl _) _⟩
  go_loopw [11] (fun i W => ∃ k : Nat, k ≤ zs.length ∧ i = .int .i64 k ∧ TextI w zs k W) (fun i _ => zs.length - (intOf i).toNat)
  case atStart => exact ⟨0, Nat.zero_le _, rfl, h00⟩
  case round =>
    clear h00
    obtain ⟨k, hkl, rfl, L, hrow, hown, hbe⟩ := hrel
    have hbx := row_lt hrow
    by_cases hlt : k < zs.length
    · obtain ⟨b, off, rfl, q1⟩ := HK.out k hlt
      have hz := HR.out _ (List.getElem_mem hlt)
      have c1 := below_cell hbe q1
      have HT := Lib.hid (show zs.take k ++ [zs[k]] = zs.take (k + 1) from (List.take_succ_eq_append_getElem hlt).symm)
      generalize zs[k] = z at *
      have x3 : wr.cell? ⟨w.heap.size, 3, none⟩ = some L := row_cell hrow rfl
      have x0 : wr.cell? ⟨w.heap.size, 0, none⟩ = some (.int .i64 3) := row_cell hrow rfl
      obtain ⟨W1, hW1, hb1, hr1⟩ := boxed4 wr (.int .i64 1) (.int .i64 z) (.string ⟨#[]⟩) (.slice none 0 0) 72
      have HOW := Lib.hid (own_keep hown hb1)
      have HCE : Hid (∀ j u, (valC z)[j]? = some u → W1.cell? ⟨wr.heap.size, j, none⟩ = some u) := Lib.hid (fun j u hj => row_cell hr1 (by
        match j with
        | 0 | 1 | 2 | 3 => exact hj
        | n + 4 => simp [valC] at hj))
      have HNE := Lib.hid (own_ne hown (b := w.heap.size) (.inr (by omega)))
      have HRW := Lib.hid ((hb1.block _ hbx).trans hrow)
      have HBX : Hid (w.heap.size < W1.heap.size) := Lib.hid (Nat.lt_of_lt_of_le hbx hb1.size)
      have HB1 := Lib.hid hb1
      have HW1 := Lib.hid hW1
      have hk1 : k ≤ 1000 := by omega
      have hbs : w.heap.size + 1 ≤ W1.heap.size := Nat.lt_of_lt_of_le hbx hb1.size
      have HBS := Lib.hid hbs
      clear q1 hown hrow hr1 hb1 hW1 hbs
      go_wp2_with (refine app_val rfl _ _ rfl (w.heap.size + 1) _ (zs.take k) _ rfl (HW1.out ▸ HOW.out) wr.heap.size 1 z rfl (HW1.out ▸ HCE.out) (by omega) (HW1.out ▸ HBS.out) ?_; rw [← HW1.out]; intro g8 cap8 w8 h8 o8; have hr8 := (o8.1.block _ HBX.out (fun e => HNE.out e.symm)).trans HRW.out; have y3 : w8.cell? ⟨w.heap.size, 3, none⟩ = some L := row_cell hr8 rfl; have f3 := row_free hr8 3; have HR8 := Lib.hid hr8; have H8 := Lib.hid h8; have O8 := Lib.hid o8; clear hr8 h8 o8)
      go_roundw
      case rel => exact ⟨k + 1, by omega, by go_num, _, row_set HR8.out 3 _, by
        have hb8 := own_below HOW.out O8.out.1 HBS.out
        refine own_keep_set ?_ (Nat.lt_succ_self _) _
        rw [← HT.out]; exact H8.out, ((hbe.trans (HB1.out.mono hbe.size)).trans (own_below HOW.out O8.out.1 HBS.out |>.mono (Nat.le_succ _))).setCell (Nat.le_refl _) _⟩
      case measure => simp [intOf]; omega
    · have hk2 : k = zs.length := by omega
      rw [hk2, List.take_length] at hown
      have hVl := Lib.hid (Vals.own hown HR.out (by omega))
      have x0 : wr.cell? ⟨w.heap.size, 0, none⟩ = some (.int .i64 3) := row_cell hrow rfl
      have x1 : wr.cell? ⟨w.heap.size, 1, none⟩ = some (.int .i64 0) := row_cell hrow rfl
      have x2 : wr.cell? ⟨w.heap.size, 2, none⟩ = some (.string ⟨#[]⟩) := row_cell hrow rfl
      have x3 : wr.cell? ⟨w.heap.size, 3, none⟩ = some L := row_cell hrow rfl
      have hdt : decide (k < zs.length) = false := decide_eq_false hlt
      obtain ⟨aL, cL, hLe, -⟩ := id hVl.out
      subst hLe
      clear hown hrow hk2
      go_wp2_with fail
      refine (encode_any _ zs _ hVl.out).mono ?_
      rintro e w9 ⟨v9, rfl, hv9, hb9⟩
      have HV9 := Lib.hid hv9
      clear hv9
      go_wp2_with fail
      go_ret
      exact ⟨_, rfl, HV9.out, hbe.trans (hb9.mono hbe.size)⟩

set_option maxRecDepth 100000 in
set_option maxHeartbeats 1000000 in
theorem pad_any (d dealer row : Int) (w : World) (h : ∀ z ∈ [d, dealer, row], R64 z) (hG : Glob w) :
    Calls Tryd.prog 49 #[.int .i64 d, .int .i64 dealer, .int .i64 row] w fun e w' => e = .returned (.int .i64 (padV d dealer row)) ∧ Below w.heap.size w w' := by
  have hI := Lib.hid (ints_made w [d, dealer, row] 3 w.heap.size rfl h (by simp))
  have hb0 := below_new w #[.int .i64 d, .int .i64 dealer, .int .i64 row] 3
  go_enter Tryd.func49, Tryd.ntmps49
  go_wp2_with fail
  refine (integers_any _ [d, dealer, row] _ hI.out (by simp)).mono ?_
  rintro e w1 ⟨v1, rfl, hv1, hb1⟩
  have hb01 := hb0.trans (hb1.mono hb0.size)
  have HV := Lib.hid hv1
  clear hv1
  go_wp2_with fail
  refine (hash_any tagP v1 (encL [d, dealer, row]) _ (by decide) HV.out (encL_pos _) (by have := encL_len h (by simp); simp at this; omega) (hG.below hb01)).mono ?_
  rintro e w2 ⟨rfl, hb2⟩
  go_wp2_with fail
  go_ret
  exact ⟨rfl, hb01.trans (hb2.mono hb01.size)⟩

end Go.Proofs.YtjnnnciifjajmaaDoor
