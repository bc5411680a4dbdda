/- Package codec: Encode, at a list of integers. -/
import Derived.Test.YtjnnnciifjajmaaDoorCodD
namespace Go.Proofs.YtjnnnciifjajmaaDoor
open Go.RowKit

/-- What Encode leaves. -/
def Encoded (w : World) (zs : List Int) (e : Ending) (w' : World) : Prop := ∃ v', e = .returned (.tuple #[v', .int .i64 0]) ∧ Byts w' v' (encL zs) ∧ Below w.heap.size w w'

set_option maxRecDepth 100000 in
set_option maxHeartbeats 2000000 in
theorem encode_any (lv : Value) (zs : List Int) (w : World) (hV : Vals w lv zs) :
    Calls Tryd.prog 57 #[vList lv] w (Encoded w zs) := by
  obtain ⟨a, cap, rfl, -, hlen, hr, -⟩ := id hV
  obtain ⟨W1, hW1, hb1, hxr⟩ := boxed4 w (.int .i64 3) (.int .i64 0) (.string ⟨#[]⟩) (.slice a zs.length cap) 72
  have HC := Lib.hid (check_list _ zs W1 (hV.below hb1))
  have HV := Lib.hid hV
  have HR := Lib.hid hr
  have HW1 := Lib.hid hW1
  clear hV hW1 hr
  have y0 : W1.cell? ⟨w.heap.size, 0, none⟩ = some (.int .i64 3) := row_cell hxr rfl
  have y1 : W1.cell? ⟨w.heap.size, 1, none⟩ = some (.int .i64 0) := row_cell hxr rfl
  have y2 : W1.cell? ⟨w.heap.size, 2, none⟩ = some (.string ⟨#[]⟩) := row_cell hxr rfl
  have y3 : W1.cell? ⟨w.heap.size, 3, none⟩ = some (.slice a zs.length cap) := row_cell hxr rfl
  clear hxr
  unfold vList at HC ⊢
  go_enter Tryd.func57, Tryd.ntmps57
  go_wp2_with fail
  rw [← HW1.out]
  refine HC.out.mono ?_
  rintro e W2 ⟨rfl, hb2⟩
  have x0 := below_cell hb2 y0
  have x1 := below_cell hb2 y1
  have x2 := below_cell hb2 y2
  have x3 := below_cell hb2 y3
  have hb12 := hb1.trans (hb2.mono hb1.size)
  clear y0 y1 y2 y3
  go_wp2_with fail
  have HSB : Hid (∀ w3, Wtr W2.heap.size w3 → Below W2.heap.size W2.drew w3 → Calls Tryd.prog 89 #[.slice none 0 0, vList (.slice a zs.length cap), .pointer (some ⟨W2.heap.size + 1, 0, none⟩)] w3 (Wrote w3.heap.size w3 (.slice none 0 0) ([] ++ encL zs))) := Lib.hid (fun w3 hwt hb3 =>
    write_list W2.heap.size w3.heap.size (.slice none 0 0) (.slice a zs.length cap) [] zs w w3 HV.out (hb12.trans (((Below.refl W2.heap.size W2).drew.trans hb3).mono hb12.size)) (Nat.le_trans hb12.size hb3.size) hwt (lt_of_cell hwt.var) (World.ownsRow_nil _ _ _ _) (Nat.le_refl _) (by simp))
  have HFIN : Hid (∀ w3 w4 v4, Below W2.heap.size W2.drew w3 → w4.ownsRow w3.heap.size 5 1 v4 ([] ++ encL zs).length (([] ++ encL zs).map byteV) → Onto w3 (.slice none 0 0) w4 v4 → Encoded w zs (.returned (.tuple #[v4, .int .i64 0])) w4) := Lib.hid (fun w3 w4 v4 hb3 h4 o4 => by
    have hl := encL_len HR.out hlen
    have hb34 : Below w3.heap.size w3 w4 := ⟨o4.1.os, o4.1.tape, o4.1.output, o4.1.size, fun k hk => o4.1.block k hk (by intro e; cases e)⟩
    have hb23 : Below W2.heap.size W2 w3 := (Below.refl _ _).drew.trans hb3
    exact ⟨v4, rfl, Byts.own h4 (encL_all zs) (by omega), (hb12.trans (hb23.mono hb12.size)).trans (hb34.mono (Nat.le_trans hb12.size hb23.size))⟩)
  go_region_law (first
      | (go_simp; go_at_call 77; (with_reducible refine (newWriter_any _).mono ?_); rintro e w3 ⟨rfl, hwt, hb3⟩; have x0' := below_cell hb3 x0; have x1' := below_cell hb3 x1; have x2' := below_cell hb3 x2; have x3' := below_cell hb3 x3; have hl3 : w3.cell? ⟨W2.heap.size, 3, none⟩ = some (.func (.func 89) #[] #[.pointer (some ⟨W2.heap.size + 1, 0, none⟩)]) := hwt.list; have HWT : Hid (Wtr W2.heap.size w3) := Lib.hid hwt; have HB3 : Hid (Below W2.heap.size W2.drew w3) := Lib.hid hb3; clear hwt hb3)
      | (go_simp; go_at_call 89; (refine (HSB.out w3 HWT.out HB3.out).mono ?_); rintro e w4 ⟨v4, rfl, h4, o4⟩; have H4 := Lib.hid h4; have O4 := Lib.hid o4; clear h4 o4))
  all_goals
    go_wp2_with fail
    go_ret2
    exact HFIN.out _ _ _ HB3.out H4.out O4.out

end Go.Proofs.YtjnnnciifjajmaaDoor
