/- The reference of keygen: Own. -/
import Derived.Test.YtggnipkfliompaaGreatDoorMKqB
import Derived.Test.YtggnipkfliompaaGreatDoorMKgS
import Derived.Test.YtggnipkfliompaaGreatDoorMRefM
import Derived.Test.YtggnipkfliompaaGreatDoorMRegF
set_option maxHeartbeats 8000000
set_option maxRecDepth 100000
namespace Go.Proofs.YtggnipkfliompaaGreatDoor
open Go.RowKit FP
theorem sputW_row {W:World} {B:Nat} {x y:Value} (a b:Value) (t:TypeId) (q:W.heap[B]? = some (.cells #[x,y] t (0,0))):(sputW W B a b).heap[B]? = some (.cells #[a,b] t (0,0)):=row_set (row_set q 0 a) 1 b
theorem box_ps (w:World) (rv ov:Value):∃ W,W = (w.alloc (.cells #[rv,ov] 25)).alloc (.cells #[.int .i64 0,.int .i64 0] 68) ∧ Below w.heap.size w W ∧ W.heap[w.heap.size]? = some (.cells #[rv,ov] 25 (0,0)) ∧ W.heap[w.heap.size + 1]? = some (.cells #[.int .i64 0,.int .i64 0] 68 (0,0)):=by
 obtain ⟨W1,hW1,hb1,hr1,-⟩:=box_prog w rv ov 25
 have hs1:W1.heap.size = w.heap.size + 1:=by rw [hW1]; simp
 have hb2:=below_new W1 #[.int .i64 0,.int .i64 0] 68
 refine ⟨W1.alloc (.cells #[.int .i64 0,.int .i64 0] 68),by rw [hW1],hb1.trans (hb2.mono hb1.size),(hb2.block _ (row_lt hr1)).trans hr1,?_⟩
 rw [← hs1]; exact World.alloc_heap_new _ _
structure FRo16 (w0:World) (pb:Nat) (sb:Nat) (so:Nat) (ns:Nat) (cs:Nat) (k:Nat) (rv:Value) (ov:Value) (lv:Value) (cv:Value) (pv:Value) (n:Int) (dl:Int) (bb:Bool) (done:Nat → Bool) (v:Nat → Value) (w:World):Prop where
 b:Below w0.heap.size w0 w
 f0:done 0 = true → v 0 = .agg #[rv,ov]
 f1:done 1 = true → v 1 = lv
 f2:done 2 = true → v 2 = .slice (some ⟨sb,so,none⟩) ns cs
 f3:done 3 = true → v 3 = .int .i64 (k:Int)
 f4:done 4 = true → v 4 = .pointer (some ⟨sb,so + k,none⟩)
 f5:done 5 = true → v 5 = .int .i64 n
 f6:done 6 = true → v 6 = .tuple #[.agg #[.int .i64 dl,cv,pv],.bool bb]
 f7:done 7 = true → v 7 = .tuple #[.agg #[.int .i64 dl,cv,pv],.bool bb]
 f8:done 8 = true → v 8 = .agg #[.int .i64 dl,cv,pv]
 f9:done 9 = true → v 9 = .bool bb
 f12:done 12 = true → v 12 = .bool bb
 bx:DBox w0.heap.size w (done 10) (done 11) (v 10) (.int .i64 dl) cv pv
structure FRo17a (w0:World) (sb:Nat) (so:Nat) (ns:Nat) (cs:Nat) (k:Nat) (n:Int) (done:Nat → Bool) (v:Nat → Value) (w:World):Prop where
 b:Below w0.heap.size w0 w
 f0:done 0 = true → v 0 = .bool false
 f1:done 1 = true → v 1 = .bool true
 f2:done 2 = true → v 2 = .bool true
 f3:done 3 = true → v 3 = undef
 f4:done 4 = true → v 4 = undef
 f5:done 5 = true → v 5 = undef
 f6:done 6 = true → v 6 = undef
 f7:done 7 = true → v 7 = undef
 f8:done 8 = true → v 8 = undef
 f9:done 9 = true → v 9 = undef
 f10:done 10 = true → v 10 = undef
 f11:done 11 = true → v 11 = undef
 f12:done 12 = true → v 12 = undef
 f13:done 13 = true → v 13 = undef
 f14:done 14 = true → v 14 = undef
 f15:done 15 = true → v 15 = undef
 f16:done 16 = true → v 16 = undef
 f17:done 17 = true → v 17 = .bool true
structure FRo17b (w0:World) (sb:Nat) (so:Nat) (ns:Nat) (cs:Nat) (k:Nat) (n:Int) (done:Nat → Bool) (v:Nat → Value) (w:World):Prop where
 b:Below w0.heap.size w0 w
 f0:done 0 = true → v 0 = .bool true
 f1:done 1 = true → v 1 = .bool false
 f2:done 2 = true → v 2 = .bool false
 f3:done 3 = true → v 3 = .int .i64 (k:Int)
 f4:done 4 = true → v 4 = .bool false
 f5:done 5 = true → v 5 = .bool false
 f6:done 6 = true → v 6 = undef
 f7:done 7 = true → v 7 = undef
 f8:done 8 = true → v 8 = undef
 f9:done 9 = true → v 9 = undef
 f10:done 10 = true → v 10 = undef
 f11:done 11 = true → v 11 = undef
 f12:done 12 = true → v 12 = undef
 f13:done 13 = true → v 13 = undef
 f14:done 14 = true → v 14 = undef
 f15:done 15 = true → v 15 = undef
 f16:done 16 = true → v 16 = .bool false
 f17:done 17 = true → v 17 = .bool false
structure FRo17c (w0:World) (sb:Nat) (so:Nat) (ns:Nat) (cs:Nat) (k:Nat) (n:Int) (p:Int) (done:Nat → Bool) (v:Nat → Value) (w:World):Prop where
 b:Below w0.heap.size w0 w
 f0:done 0 = true → v 0 = .bool true
 f1:done 1 = true → v 1 = .bool false
 f2:done 2 = true → v 2 = .bool false
 f3:done 3 = true → v 3 = .int .i64 (k:Int)
 f4:done 4 = true → v 4 = .bool true
 f5:done 5 = true → v 5 = .bool true
 f6:done 6 = true → v 6 = .slice (some ⟨sb,so,none⟩) ns cs
 f7:done 7 = true → v 7 = .int .i64 (k:Int)
 f8:done 8 = true → v 8 = .pointer (some ⟨sb,so + k,none⟩)
 f9:done 9 = true → v 9 = .int .i64 n
 f10:done 10 = true → v 10 = .slice (some ⟨sb,so,none⟩) ns cs
 f11:done 11 = true → v 11 = .int .i64 (k:Int)
 f12:done 12 = true → v 12 = .int .i64 ((k:Int) - 1)
 f13:done 13 = true → v 13 = .pointer (some ⟨sb,so + (k - 1),none⟩)
 f14:done 14 = true → v 14 = .int .i64 p
 f15:done 15 = true → v 15 = .bool true
 f16:done 16 = true → v 16 = .bool true
 f17:done 17 = true → v 17 = .bool true
structure FRo17d (w0:World) (sb:Nat) (so:Nat) (ns:Nat) (cs:Nat) (k:Nat) (n:Int) (p:Int) (done:Nat → Bool) (v:Nat → Value) (w:World):Prop where
 b:Below w0.heap.size w0 w
 f0:done 0 = true → v 0 = .bool true
 f1:done 1 = true → v 1 = .bool false
 f2:done 2 = true → v 2 = .bool false
 f3:done 3 = true → v 3 = .int .i64 (k:Int)
 f4:done 4 = true → v 4 = .bool true
 f5:done 5 = true → v 5 = .bool true
 f6:done 6 = true → v 6 = .slice (some ⟨sb,so,none⟩) ns cs
 f7:done 7 = true → v 7 = .int .i64 (k:Int)
 f8:done 8 = true → v 8 = .pointer (some ⟨sb,so + k,none⟩)
 f9:done 9 = true → v 9 = .int .i64 n
 f10:done 10 = true → v 10 = .slice (some ⟨sb,so,none⟩) ns cs
 f11:done 11 = true → v 11 = .int .i64 (k:Int)
 f12:done 12 = true → v 12 = .int .i64 ((k:Int) - 1)
 f13:done 13 = true → v 13 = .pointer (some ⟨sb,so + (k - 1),none⟩)
 f14:done 14 = true → v 14 = .int .i64 p
 f15:done 15 = true → v 15 = .bool false
 f16:done 16 = true → v 16 = .bool false
 f17:done 17 = true → v 17 = .bool false
structure FRo19 (w0:World) (sb:Nat) (so:Nat) (ns:Nat) (cs:Nat) (k:Nat) (B:Nat) (qb:Nat) (qo:Nat) (np:Nat) (cp:Nat) (r:Nat) (s:Int) (n:Int) (pr:Int) (pt:Int) (ci:Int) (vv:Int) (ee:Int) (done:Nat → Bool) (v:Nat → Value) (w:World):Prop where
 b:Below w0.heap.size w0 w
 f0:done 0 = true → v 0 = .int .i64 s
 f1:done 1 = true → v 1 = .slice (some ⟨sb,so,none⟩) ns cs
 f2:done 2 = true → v 2 = .int .i64 (k:Int)
 f3:done 3 = true → v 3 = .pointer (some ⟨sb,so + k,none⟩)
 f4:done 4 = true → v 4 = .int .i64 n
 f5:done 5 = true → v 5 = .pointer (some ⟨B,2,none⟩)
 f6:done 6 = true → v 6 = .slice (some ⟨qb,qo,none⟩) np cp
 f7:done 7 = true → v 7 = .int .i64 (r:Int)
 f8:done 8 = true → v 8 = .pointer (some ⟨qb,qo + r * 3,none⟩)
 f9:done 9 = true → v 9 = .agg #[.int .i64 pr,.int .i64 pt,.int .i64 ci]
 f10:done 10 = true → v 10 = .tuple #[.int .i64 vv,.int .i64 ee]
 f11:done 11 = true → v 11 = .tuple #[.int .i64 vv,.int .i64 ee]
 f12:done 12 = true → v 12 = .int .i64 vv
 f13:done 13 = true → v 13 = .int .i64 ee
 f14:done 14 = true → v 14 = .int .i64 vv
 f15:done 15 = true → v 15 = .int .i64 ee
theorem rOwn37_any (rv ov sv dv:Value) (rows:List (List Int)) (owners:List Int) (s row:Int) (ds:List Int) (l:List Dlg) (vs:DVals) (w:World) (hR:Rows2 w rv rows) (hO:Ints w ov owners) (hs:R64 s) (hrow:R64 row) (hS:Ints w sv ds) (hD:Dlgs w dv l vs) :
  Calls Tryz.prog 34 #[.agg #[rv,ov],.int .i64 s,.int .i64 row,sv,dv] w (OwPost (owR rows owners s row ds l) (owV rows owners s row ds l) (owE rows owners s row ds l) w):=by
 obtain ⟨W1,hW1,hb1,hr1,hr2⟩:=box_ps w rv ov
 have HR:=Lib.hid (hR.below hb1)
 have HO:=Lib.hid (hO.below hb1)
 have HS:=Lib.hid (hS.below hb1)
 have HD:=Lib.hid (hD.below hb1)
 have HB:=Lib.hid hb1
 have HN:=Lib.hid (And.intro hs hrow)
 obtain ⟨a1,k1,rfl,-,hl1,-⟩:=id hR
 obtain ⟨a2,k2,rfl,-,hl2,-⟩:=id hO
 obtain ⟨a3,k3,rfl,-,hl3,hr3,-⟩:=id hS
 obtain ⟨a4,k4,rfl,-,hl4,-⟩:=id hD
 have HRR:=Lib.hid hr3
 have c0_:=row_cell hr1 (k:=0) (v:=.slice a1 rows.length k1) rfl
 have c1_:=row_cell hr1 (k:=1) (v:=.slice a2 owners.length k2) rfl
 have QS:=Lib.hid hr2
 have HW1:=Lib.hid hW1
 obtain ⟨ME,hME⟩:∃ z,z = owE rows owners s row ds l:=⟨_,rfl⟩
 have HE:=Lib.hid hME
 have HVR:=Lib.hid (show owR rows owners s row ds l = (if ME = 0 then row else 0) ∧ owV rows owners s row ds l = (if ME = 0 then owS rows s row ds l ds.length else 0) from ⟨by rw [hME]; rfl,by rw [hME]; rfl⟩)
 rw [← hME]
 obtain ⟨MR,hMR⟩:∃ z,z = owR rows owners s row ds l:=⟨_,rfl⟩
 obtain ⟨MV,hMV⟩:∃ z,z = owV rows owners s row ds l:=⟨_,rfl⟩
 rw [← hMR,← hMV] at HVR ⊢
 have HOFF:Hid (∀ q,ME = q → q ≠ 0 → MR = 0 ∧ MV = 0):=Lib.hid (fun q h hq => by rw [HVR.out.1,HVR.out.2,if_neg (by rw [h]; exact hq),if_neg (by rw [h]; exact hq)]; exact ⟨rfl,rfl⟩)
 clear hR hO hS hD hb1 hs hrow hr1 hr2 hr3 hW1 hME hMR hMV
 unfold owE at HE
 go_enter Tryz.func34,Tryz.ntmps34
 go_wp2_with (rw [← HW1.out])
 clear HW1
 with_reducible refine (rpCheck_any _ _ rows owners _ HR.out HO.out).mono ?_
 rintro e w2 ⟨rfl,hb2⟩
 replace c0_:=below_cell hb2 c0_
 replace c1_:=below_cell hb2 c1_
 replace HR:=Lib.hid (HR.out.below hb2)
 replace HO:=Lib.hid (HO.out.below hb2)
 replace HS:=Lib.hid (HS.out.below hb2)
 replace HD:=Lib.hid (HD.out.below hb2)
 replace QS:=Lib.hid ((hb2.block _ (row_lt QS.out)).trans QS.out)
 replace HB:=Lib.hid (HB.out.trans (hb2.mono HB.out.size))
 clear hb2
 by_cases hp:progE rows owners = 0
 rotate_left
 ·have HV:=Lib.hid (HE.out.trans (if_pos hp))
  have HNZ:=Lib.hid hp
  have d0:(progE rows owners != 0) = true:=bne_iff_ne.2 hp
  clear hp HE
  generalize progE rows owners = q at *
  have t0:=row_cell QS.out (k:=0) (v:=.int .i64 0) rfl
  have t1:=row_cell QS.out (k:=1) (v:=.int .i64 0) rfl
  have f0:=row_free QS.out 0
  have f1:=row_free QS.out 1
  obtain ⟨wz9,hwz9⟩:∃ x:World,x = w2:=⟨_,rfl⟩
  obtain ⟨W9,hW9⟩:∃ W9,W9 = sputW wz9 (w.heap.size + 1) (.int .i64 0) (.int .i64 0):=⟨_,rfl⟩
  rw [hwz9] at hW9
  have hq9:W9.heap[w.heap.size + 1]? = some (.cells #[.int .i64 0,.int .i64 0] 68 (0,0)):=by rw [hW9]; exact sputW_row _ _ _ QS.out
  have HB9:Hid (Below w.heap.size w W9):=Lib.hid (by rw [hW9]; exact sput_below _ _ HB.out (Nat.le_succ _))
  have z0:=row_cell hq9 (k:=0) (v:=.int .i64 0) rfl
  have z1:=row_cell hq9 (k:=1) (v:=.int .i64 0) rfl
  unfold sputW at hW9
  have HW9:=Lib.hid hW9
  clear hW9 hq9 hwz9
  go_wp2_with (rw [← HW9.out])
  refine bodyPost_ret (v:=.tuple #[.agg #[.int .i64 0,.int .i64 0],.int .i64 q]) (by simp [results,Tryz.results34,go_sem,z0,z1]) rfl ⟨by rw [(HOFF.out _ HV.out HNZ.out).1,(HOFF.out _ HV.out HNZ.out).2,HV.out],HB9.out⟩
 replace HE:=Lib.hid (HE.out.trans (if_neg (by simp [hp])))
 have HPO:=Lib.hid (progE_ok hp)
 have HP0:=Lib.hid hp
 rw [hp]
 clear hp
 go_wp2_with fail
 with_reducible refine (secret35_any s _).mono ?_
 rintro e w3 ⟨rfl,rfl⟩
 cases hsb:inB s 1 1073741788 with
 | false =>
  have HV:=Lib.hid (HE.out.trans (if_pos hsb))
  clear hsb HE
  have t0:=row_cell QS.out (k:=0) (v:=.int .i64 0) rfl
  have t1:=row_cell QS.out (k:=1) (v:=.int .i64 0) rfl
  have f0:=row_free QS.out 0
  have f1:=row_free QS.out 1
  obtain ⟨wz9,hwz9⟩:∃ x:World,x = w2:=⟨_,rfl⟩
  obtain ⟨W9,hW9⟩:∃ W9,W9 = sputW wz9 (w.heap.size + 1) (.int .i64 0) (.int .i64 0):=⟨_,rfl⟩
  rw [hwz9] at hW9
  have hq9:W9.heap[w.heap.size + 1]? = some (.cells #[.int .i64 0,.int .i64 0] 68 (0,0)):=by rw [hW9]; exact sputW_row _ _ _ QS.out
  have HB9:Hid (Below w.heap.size w W9):=Lib.hid (by rw [hW9]; exact sput_below _ _ HB.out (Nat.le_succ _))
  have z0:=row_cell hq9 (k:=0) (v:=.int .i64 0) rfl
  have z1:=row_cell hq9 (k:=1) (v:=.int .i64 0) rfl
  unfold sputW at hW9
  have HW9:=Lib.hid hW9
  clear hW9 hq9 hwz9
  go_wp2_with (rw [← HW9.out])
  refine bodyPost_ret (v:=.tuple #[.agg #[.int .i64 0,.int .i64 0],.int .i64 110]) (by simp [results,Tryz.results34,go_sem,z0,z1]) rfl ⟨by rw [(HOFF.out _ HV.out (by decide)).1,(HOFF.out _ HV.out (by decide)).2,HV.out],HB9.out⟩
 | true =>
 replace HE:=Lib.hid (HE.out.trans (if_neg (by rw [hsb]; decide)))
 have HSB:=Lib.hid (inB_iff.1 hsb)
 clear hsb
 by_cases h1:row < 0
 ·have d1:decide (row < 0) = true:=decide_eq_true h1
  have HV:=Lib.hid (HE.out.trans (if_pos (.inl h1)))
  clear HE h1
  have t0:=row_cell QS.out (k:=0) (v:=.int .i64 0) rfl
  have t1:=row_cell QS.out (k:=1) (v:=.int .i64 0) rfl
  have f0:=row_free QS.out 0
  have f1:=row_free QS.out 1
  obtain ⟨wz9,hwz9⟩:∃ x:World,x = w2:=⟨_,rfl⟩
  obtain ⟨W9,hW9⟩:∃ W9,W9 = sputW wz9 (w.heap.size + 1) (.int .i64 0) (.int .i64 0):=⟨_,rfl⟩
  rw [hwz9] at hW9
  have hq9:W9.heap[w.heap.size + 1]? = some (.cells #[.int .i64 0,.int .i64 0] 68 (0,0)):=by rw [hW9]; exact sputW_row _ _ _ QS.out
  have HB9:Hid (Below w.heap.size w W9):=Lib.hid (by rw [hW9]; exact sput_below _ _ HB.out (Nat.le_succ _))
  have z0:=row_cell hq9 (k:=0) (v:=.int .i64 0) rfl
  have z1:=row_cell hq9 (k:=1) (v:=.int .i64 0) rfl
  unfold sputW at hW9
  have HW9:=Lib.hid hW9
  clear hW9 hq9 hwz9
  go_wp2_with (rw [← HW9.out])
  refine bodyPost_ret (v:=.tuple #[.agg #[.int .i64 0,.int .i64 0],.int .i64 1]) (by simp [results,Tryz.results34,go_sem,z0,z1]) rfl ⟨by rw [(HOFF.out _ HV.out (by decide)).1,(HOFF.out _ HV.out (by decide)).2,HV.out],HB9.out⟩
 have d1:decide (row < 0) = false:=decide_eq_false h1
 by_cases h2:(rows.length:Int) ≤ row
 ·have d2:decide ((rows.length:Int) ≤ row) = true:=decide_eq_true h2
  have HV:=Lib.hid (HE.out.trans (if_pos (.inr h2)))
  clear HE h1 h2
  have t0:=row_cell QS.out (k:=0) (v:=.int .i64 0) rfl
  have t1:=row_cell QS.out (k:=1) (v:=.int .i64 0) rfl
  have f0:=row_free QS.out 0
  have f1:=row_free QS.out 1
  obtain ⟨wz9,hwz9⟩:∃ x:World,x = w2:=⟨_,rfl⟩
  obtain ⟨W9,hW9⟩:∃ W9,W9 = sputW wz9 (w.heap.size + 1) (.int .i64 0) (.int .i64 0):=⟨_,rfl⟩
  rw [hwz9] at hW9
  have hq9:W9.heap[w.heap.size + 1]? = some (.cells #[.int .i64 0,.int .i64 0] 68 (0,0)):=by rw [hW9]; exact sputW_row _ _ _ QS.out
  have HB9:Hid (Below w.heap.size w W9):=Lib.hid (by rw [hW9]; exact sput_below _ _ HB.out (Nat.le_succ _))
  have z0:=row_cell hq9 (k:=0) (v:=.int .i64 0) rfl
  have z1:=row_cell hq9 (k:=1) (v:=.int .i64 0) rfl
  unfold sputW at hW9
  have HW9:=Lib.hid hW9
  clear hW9 hq9 hwz9
  go_wp2_with (rw [← HW9.out])
  refine bodyPost_ret (v:=.tuple #[.agg #[.int .i64 0,.int .i64 0],.int .i64 1]) (by simp [results,Tryz.results34,go_sem,z0,z1]) rfl ⟨by rw [(HOFF.out _ HV.out (by decide)).1,(HOFF.out _ HV.out (by decide)).2,HV.out],HB9.out⟩
 have d2:decide ((rows.length:Int) ≤ row) = false:=decide_eq_false h2
 replace HE:=Lib.hid (HE.out.trans (if_neg (by omega)))
 obtain ⟨r,rfl⟩:∃ r:Nat,row = (r:Int):=⟨row.toNat,by omega⟩
 have d3:decide (rows.length ≤ r) = false:=decide_eq_false (by omega)
 have HRL:Hid (r < rows.length):=Lib.hid (by omega)
 clear h1 h2
 by_cases h3:l.length ≤ 64
 rotate_left
 ·have d4:decide ((64:Int) < (l.length:Int)) = true:=decide_eq_true (by omega)
  have d5:decide (64 < l.length) = true:=decide_eq_true (by omega)
  have HV:=Lib.hid (HE.out.trans (if_pos (by omega)))
  clear HE h3
  have t0:=row_cell QS.out (k:=0) (v:=.int .i64 0) rfl
  have t1:=row_cell QS.out (k:=1) (v:=.int .i64 0) rfl
  have f0:=row_free QS.out 0
  have f1:=row_free QS.out 1
  obtain ⟨wz9,hwz9⟩:∃ x:World,x = w2:=⟨_,rfl⟩
  obtain ⟨W9,hW9⟩:∃ W9,W9 = sputW wz9 (w.heap.size + 1) (.int .i64 0) (.int .i64 0):=⟨_,rfl⟩
  rw [hwz9] at hW9
  have hq9:W9.heap[w.heap.size + 1]? = some (.cells #[.int .i64 0,.int .i64 0] 68 (0,0)):=by rw [hW9]; exact sputW_row _ _ _ QS.out
  have HB9:Hid (Below w.heap.size w W9):=Lib.hid (by rw [hW9]; exact sput_below _ _ HB.out (Nat.le_succ _))
  have z0:=row_cell hq9 (k:=0) (v:=.int .i64 0) rfl
  have z1:=row_cell hq9 (k:=1) (v:=.int .i64 0) rfl
  unfold sputW at hW9
  have HW9:=Lib.hid hW9
  clear hW9 hq9 hwz9
  go_wp2_with (rw [← HW9.out])
  refine bodyPost_ret (v:=.tuple #[.agg #[.int .i64 0,.int .i64 0],.int .i64 2]) (by simp [results,Tryz.results34,go_sem,z0,z1]) rfl ⟨by rw [(HOFF.out _ HV.out (by decide)).1,(HOFF.out _ HV.out (by decide)).2,HV.out],HB9.out⟩
 have d4:decide ((64:Int) < (l.length:Int)) = false:=decide_eq_false (by omega)
 have d5:decide (64 < l.length) = false:=decide_eq_false (by omega)
 replace HE:=Lib.hid (HE.out.trans (if_neg (by omega)))
 go_wp2_with fail
 clear d1 d2 d3 d4 d5
 with_reducible refine (rDealers37_any _ l vs _ HD.out).mono ?_
 rintro e w5 ⟨rfl,hb5⟩
 replace c0_:=below_cell hb5 c0_
 replace c1_:=below_cell hb5 c1_
 replace HR:=Lib.hid (HR.out.below hb5)
 replace HO:=Lib.hid (HO.out.below hb5)
 replace HS:=Lib.hid (HS.out.below hb5)
 replace HD:=Lib.hid (HD.out.below hb5)
 replace QS:=Lib.hid ((hb5.block _ (row_lt QS.out)).trans QS.out)
 replace HB:=Lib.hid (HB.out.trans (hb5.mono HB.out.size))
 clear hb5
 cases hob:ordB l with
 | false =>
  have HV:=Lib.hid (HE.out.trans (if_pos hob))
  clear hob HE
  have t0:=row_cell QS.out (k:=0) (v:=.int .i64 0) rfl
  have t1:=row_cell QS.out (k:=1) (v:=.int .i64 0) rfl
  have f0:=row_free QS.out 0
  have f1:=row_free QS.out 1
  obtain ⟨wz9,hwz9⟩:∃ x:World,x = w5:=⟨_,rfl⟩
  obtain ⟨W9,hW9⟩:∃ W9,W9 = sputW wz9 (w.heap.size + 1) (.int .i64 0) (.int .i64 0):=⟨_,rfl⟩
  rw [hwz9] at hW9
  have hq9:W9.heap[w.heap.size + 1]? = some (.cells #[.int .i64 0,.int .i64 0] 68 (0,0)):=by rw [hW9]; exact sputW_row _ _ _ QS.out
  have HB9:Hid (Below w.heap.size w W9):=Lib.hid (by rw [hW9]; exact sput_below _ _ HB.out (Nat.le_succ _))
  have z0:=row_cell hq9 (k:=0) (v:=.int .i64 0) rfl
  have z1:=row_cell hq9 (k:=1) (v:=.int .i64 0) rfl
  unfold sputW at hW9
  have HW9:=Lib.hid hW9
  clear hW9 hq9 hwz9
  go_wp2_with (rw [← HW9.out])
  refine bodyPost_ret (v:=.tuple #[.agg #[.int .i64 0,.int .i64 0],.int .i64 370]) (by simp [results,Tryz.results34,go_sem,z0,z1]) rfl ⟨by rw [(HOFF.out _ HV.out (by decide)).1,(HOFF.out _ HV.out (by decide)).2,HV.out],HB9.out⟩
 | true =>
 replace HE:=Lib.hid (HE.out.trans (if_neg (by rw [hob]; decide)))
 clear hob
 obtain ⟨W6,hW6,hb6,hr6⟩:∃ W,W = w5.alloc (.cells #[.int .i64 (r:Int),.int .i64 0] 68) ∧ Below w5.heap.size w5 W ∧ W.heap[w5.heap.size]? = some (.cells #[.int .i64 (r:Int),.int .i64 0] 68 (0,0)):=⟨_,rfl,below_new _ _ _,World.alloc_heap_new _ _⟩
 have HW6:=Lib.hid hW6
 have HB6:=Lib.hid hb6
 have HR6:=Lib.hid hr6
 clear hW6 hb6 hr6
 go_wp2_with (rw [← HW6.out])
 go_loopw [14] (fun i Y => ∃ k:Nat,k ≤ ds.length ∧ i = .int .i64 k ∧ Hid (∀ j,j < k → dlsB rows l ds j = true) ∧ Y.heap[w5.heap.size]? = some (.cells #[.int .i64 (r:Int),.int .i64 (owS rows s (r:Int) ds l k)] 68 (0,0)) ∧ Below w5.heap.size w5 Y) (fun i _ => ds.length - (intOf i).toNat)
 case atStart => exact ⟨0,Nat.zero_le _,rfl,Lib.hid (fun j h => absurd h (Nat.not_lt_zero _)),HR6.out,HB6.out⟩
 case round =>
  clear HB6 HR6 HW6
  obtain ⟨k,hkl,rfl,HTK,hrw,hb⟩:=hrel
  by_cases hlt:k < ds.length
  ·have HDV:=Lib.hid (show dlsB rows l ds k = (l.any (isOf rows (nth ds k)) && (decide (k = 0) || decide (nth ds (k - 1) < nth ds k))) from rfl)
   have hsk:owS rows s (r:Int) ds l (k + 1) = (owS rows s (r:Int) ds l k + mkV s (findD rows l (nth ds k)) (r:Int)) % 1073741789:=rfl
   obtain ⟨sb,so,ea,qs_⟩:=ints_at (HS.out.below hb) hlt
   subst ea
   have hk1:=fun (h9:0 < k) => ints_at (HS.out.below hb) (show k - 1 < ds.length by omega)
   have hnk:nth ds k = ds[k]:=nth_at hlt
   rw [← hnk] at qs_
   have hon:=owS_num rows s (r:Int) ds l k
   have HFN0:=Lib.hid (fun W (h:Below wr.heap.size wr W) => rFind37_any (.slice a1 rows.length k1) (.slice a2 owners.length k2) (.slice a4 l.length k4) rows owners l vs (nth ds k) W ((HR.out.below hb).below h) ((HO.out.below hb).below h) ((HD.out.below hb).below h) HP0.out)
   have hxo:=findX_ok (rows:=rows) (n:=nth ds k) (HD.out.below hb)
   have hfo:=fun (h:l.any (isOf rows (nth ds k)) = true) => find_of h
   have hnr:R64 (nth ds k):=by rw [hnk]; exact HRR.out _ (List.getElem_mem hlt)
   have HIX:=Lib.hid (fun (h9:0 < k) => And.intro (ints_at (HS.out.below hb) (show k - 1 < ds.length by omega)) (show nth ds (k - 1) = ds[k - 1]'(by omega) from nth_at (by omega)))
   generalize nth ds k = n at *
   generalize owS rows s (r:Int) ds l k = sm at *
   obtain ⟨cv,hcv⟩:∃ x,x = (findX rows l vs n).1:=⟨_,rfl⟩
   obtain ⟨pv,hpv⟩:∃ x,x = (findX rows l vs n).2:=⟨_,rfl⟩
   rw [← hcv,← hpv] at HFN0 hxo
   obtain ⟨D,hD9⟩:∃ D,D = findD rows l n:=⟨_,rfl⟩
   rw [← hD9] at HFN0 hxo hfo hsk
   obtain ⟨dl,hdl⟩:∃ x,x = D.dealer:=⟨_,rfl⟩
   rw [← hdl] at HFN0
   obtain ⟨ya,yk,rfl,-⟩:=id hxo.1
   obtain ⟨qa,qk,rfl,-⟩:=id hxo.2.1
   have HFN:Hid (∀ W,Below wr.heap.size wr W → Calls Tryz.prog 108 #[.agg #[.slice a1 rows.length k1,.slice a2 owners.length k2],.slice a4 l.length k4,.int .i64 n] W fun r w' => r = .returned (.tuple #[.agg #[.int .i64 dl,.slice ya D.cs.length yk,.slice qa D.ps.length qk],.bool (l.any (isOf rows n))]) ∧ Below W.heap.size W w'):=Lib.hid HFN0.out
   have HXO:=Lib.hid hxo
   have HFO:=Lib.hid hfo
   have HSK:=Lib.hid hsk
   have HON:=Lib.hid hon
   have HNR:=Lib.hid hnr
   have HBW:=Lib.hid hb
   have HRW:=Lib.hid hrw
   have HLT:=Lib.hid hlt
   generalize l.any (isOf rows n) = bb at *
   replace c0_:=below_cell hb c0_
   replace c1_:=below_cell hb c1_
   have QS2:=Lib.hid ((hb.block _ (row_lt QS.out)).trans QS.out)
   have i0:(0:Int) ≤ (k:Int):=Int.natCast_nonneg k
   have i1:(k:Int) < (ds.length:Int):=by omega
   clear hcv hpv hD9 hdl hxo hfo hsk hon hnr hb hrw hnk hk1 HFN0
   go_wp2_with fail
   refine wp_region_flowsG (by kernel_rfl) (by kernel_rfl) (by kernel_rfl) (by kernel_rfl) (fun done v W => FRo16 wr (w.heap.size) (sb) (so) (ds.length) (k3) (k) (.slice a1 rows.length k1) (.slice a2 owners.length k2) (.slice a4 l.length k4) (.slice ya D.cs.length yk) (.slice qa D.ps.length qk) (n) (dl) (bb) done v W) (fun v => ?_) ?_ (fun v W h => ?_)
   ·exact ⟨(Below.refl _ _).drew,(fun h => by cases h),(fun h => by cases h),(fun h => by cases h),(fun h => by cases h),(fun h => by cases h),(fun h => by cases h),(fun h => by cases h),(fun h => by cases h),(fun h => by cases h),(fun h => by cases h),(fun h => by cases h),DBox.nil _ _ _ _ _ _⟩
   ·refine ⟨?_,?_,?_,?_,?_,?_,?_,?_,?_,?_,?_,?_,?_,trivial⟩
    ·intro done v W A h hd hp hu hA hB hdf
     have e0:A.tmps[5]?.getD undef = .pointer (some ⟨w.heap.size,0,none⟩):=hB 5 rfl
     have y0_:=below_cell h.b c0_
     have y1_:=below_cell h.b c1_
     clear hA hB hp hu hdf
     go_simp
     exact ⟨_,rfl,{ h with f0:=(fun _ => rfl) }⟩
    ·intro done v W A h hd hp hu hA hB hdf
     have e0:A.tmps[4]?.getD undef = .slice a4 l.length k4:=hB 4 rfl
     clear hA hB hp hu hdf
     go_simp
     exact ⟨_,rfl,{ h with f1:=(fun _ => rfl) }⟩
    ·intro done v W A h hd hp hu hA hB hdf
     have e0:A.tmps[3]?.getD undef = .slice (some ⟨sb,so,none⟩) ds.length k3:=hB 3 rfl
     clear hA hB hp hu hdf
     go_simp
     exact ⟨_,rfl,{ h with f2:=(fun _ => rfl) }⟩
    ·intro done v W A h hd hp hu hA hB hdf
     have e0:A.tmps[14]?.getD undef = .int .i64 (k:Int):=hB 14 rfl
     clear hA hB hp hu hdf
     go_simp
     exact ⟨_,rfl,{ h with f3:=(fun _ => rfl) }⟩
    ·intro done v W A h hd hp hu hA hB hdf
     have hd2:done 2 = true:=hp 2 rfl
     have hd3:done 3 = true:=hp 3 rfl
     have e0:=(hA 2 58 rfl hd2).trans (h.f2 hd2)
     have e1:=(hA 3 59 rfl hd3).trans (h.f3 hd3)
     clear hA hB hp hu hdf
     go_simp
     exact ⟨_,rfl,{ h with f4:=(fun _ => rfl) }⟩
    ·intro done v W A h hd hp hu hA hB hdf
     have hd4:done 4 = true:=hp 4 rfl
     have e0:=(hA 4 60 rfl hd4).trans (h.f4 hd4)
     have y0_:=below_cell h.b qs_
     clear hA hB hp hu hdf
     go_simp
     exact ⟨_,rfl,{ h with f5:=(fun _ => rfl) }⟩
    ·intro done v W A h hd hp hu hA hB hdf
     have hd0:done 0 = true:=hp 0 rfl
     have hd1:done 1 = true:=hp 1 rfl
     have hd5:done 5 = true:=hp 5 rfl
     have e0:=(hA 0 56 rfl hd0).trans (h.f0 hd0)
     have e1:=(hA 1 57 rfl hd1).trans (h.f1 hd1)
     have e2:=(hA 5 61 rfl hd5).trans (h.f5 hd5)
     clear hA hB hp hu hdf
     go_simp
     with_reducible refine (HFN.out W h.b).mono ?_
     rintro e wq ⟨rfl,hb⟩
     exact ⟨_,rfl,{ h with b:=h.b.trans (hb.mono h.b.size),f6:=(fun _ => rfl),bx:=(h.bx.below hb) }⟩
    ·intro done v W A h hd hp hu hA hB hdf
     have hd6:done 6 = true:=hp 6 rfl
     have e0:=(hA 6 62 rfl hd6).trans (h.f6 hd6)
     clear hA hB hp hu hdf
     go_simp
     exact ⟨_,rfl,{ h with f7:=(fun _ => rfl) }⟩
    ·intro done v W A h hd hp hu hA hB hdf
     have hd7:done 7 = true:=hp 7 rfl
     have e0:=(hA 7 55 rfl hd7).trans (h.f7 hd7)
     clear hA hB hp hu hdf
     go_simp
     exact ⟨_,rfl,{ h with f8:=(fun _ => rfl) }⟩
    ·intro done v W A h hd hp hu hA hB hdf
     have hd7:done 7 = true:=hp 7 rfl
     have e0:=(hA 7 55 rfl hd7).trans (h.f7 hd7)
     clear hA hB hp hu hdf
     go_simp
     exact ⟨_,rfl,{ h with f9:=(fun _ => rfl) }⟩
    ·intro done v W A h hd hp hu hA hB hdf
     have n11_10:done 11 = false:=flow_not (fun hj => hu 11 10 rfl (hj)) hd
     have hb:=below_new W zeroDz 28
     have hn:=h.b.size
     clear hA hB hp hu hdf
     go_simp
     exact ⟨_,rfl,{ h with b:=h.b.trans (hb.mono h.b.size),bx:=(h.bx.alloc n11_10 hn) }⟩
    ·intro done v W A h hd hp hu hA hB hdf
     have hd8:done 8 = true:=hp 8 rfl
     have hd10:done 10 = true:=hp 10 rfl
     obtain ⟨B,eB,hn0,-,hS⟩:=h.bx hd10
     simp only [hd,Bool.false_eq_true,if_false] at hS
     have e1:=(hA 10 15 rfl hd10).trans eB
     have e2:=(hA 8 63 rfl hd8).trans (h.f8 hd8)
     have u0:=row_cell hS (k:=0) (v:=.int .i64 0) rfl
     have u1:=row_cell hS (k:=1) (v:=.slice none 0 0) rfl
     have u2:=row_cell hS (k:=2) (v:=.slice none 0 0) rfl
     have g0:=row_free hS 0
     have g1:=row_free hS 1
     have g2:=row_free hS 2
     clear hA hB hp hu hdf
     go_simp
     exact ⟨undef,{ h with b:=put3_below _ _ _ h.b hn0,bx:=(h.bx.store eB hd10 hS) }⟩
    ·intro done v W A h hd hp hu hA hB hdf
     have hd9:done 9 = true:=hp 9 rfl
     have e0:=(hA 9 64 rfl hd9).trans (h.f9 hd9)
     clear hA hB hp hu hdf
     go_simp
     exact ⟨_,rfl,{ h with f12:=(fun _ => rfl) }⟩
   simp only [putL,Act.put,Nat.reduceAdd,List.setIfInBounds_toArray,List.set_cons_zero,List.set_cons_succ]
   rw [h.f12 rfl]
   have hbr:=h.b
   obtain ⟨B,eB,hB0,-,hBR⟩:=h.bx rfl
   rw [eB]
   clear h eB HFN
   obtain ⟨W7,rfl⟩:∃ x,x = W:=⟨_,rfl⟩
   have hBR2:W7.heap[B]? = some (.cells #[.int .i64 dl,.slice ya D.cs.length yk,.slice qa D.ps.length qk] 28 (0,0)):=hBR
   have m2_:=row_cell hBR2 (k:=2) (v:=.slice qa D.ps.length qk) rfl
   replace c0_:=below_cell hbr c0_
   replace c1_:=below_cell hbr c1_
   replace qs_:=below_cell hbr qs_
   have HB7:=Lib.hid (HBW.out.trans (hbr.mono HBW.out.size))
   have HRW7:=Lib.hid ((hbr.block _ (row_lt HRW.out)).trans HRW.out)
   have QS7:=Lib.hid ((hbr.block _ (row_lt QS2.out)).trans QS2.out)
   have HXO7:=Lib.hid (And.intro (HXO.out.1.below hbr) (HXO.out.2.1.below hbr))
   have HBR:=Lib.hid hbr
   clear hbr hBR hBR2
   cases bb with
   | false =>
    have HV:Hid (ME = 370):=Lib.hid (HE.out.trans (if_pos (allDls_bad hlt (HDV.out.trans rfl))))
    clear HE HDV HFO HSK
    go_wp2_with fail
    refine wp_region_flowsH (by kernel_rfl) (by kernel_rfl) (by kernel_rfl) (by kernel_rfl) (fun done v W => FRo17a W7 (sb) (so) (ds.length) (k3) (k) (n) done v W) (fun v => ?_) ?_ (fun v W h => ?_)
    ·exact ⟨(Below.refl _ _).drew,(fun h => by cases h),(fun h => by cases h),(fun h => by cases h),(fun h => by cases h),(fun h => by cases h),(fun h => by cases h),(fun h => by cases h),(fun h => by cases h),(fun h => by cases h),(fun h => by cases h),(fun h => by cases h),(fun h => by cases h),(fun h => by cases h),(fun h => by cases h),(fun h => by cases h),(fun h => by cases h),(fun h => by cases h),(fun h => by cases h)⟩
    ·refine ⟨?_,?_,?_,?_,?_,?_,?_,?_,?_,?_,?_,?_,?_,?_,?_,?_,?_,?_,trivial⟩
     ·intro done v W A h hd hp hu hA hB hdf
      have e0:A.tmps[16]?.getD undef = .bool false:=hB 16 rfl
      clear hA hB hp hu hdf
      go_simp
      exact ⟨_,rfl,{ h with f0:=(fun _ => rfl) }⟩
     ·intro done v W A h hd hp hu hA hB hdf
      have hd0:done 0 = true:=hp 0 rfl
      have e0:=(hA 0 65 rfl hd0).trans (h.f0 hd0)
      clear hA hB hp hu hdf
      go_simp
      exact ⟨_,rfl,{ h with f1:=(fun _ => rfl) }⟩
     ·intro done v W A h hd hp hu hA hB hdf
      have hd1:done 1 = true:=hp 1 rfl
      have e0:=(hA 1 66 rfl hd1).trans (h.f1 hd1)
      clear hA hB hp hu hdf
      go_simp
      exact ⟨_,rfl,{ h with f2:=(fun _ => rfl) }⟩
     ·intro done v W A h hd hp hu hA hB hdf
      have hd2:done 2 = true:=hp 2 rfl
      refine Or.inl ⟨_,h.f2 hd2,(fun hx => by cases hx),(fun hne => { h with f3:=(fun _ => rfl) })⟩
     ·intro done v W A h hd hp hu hA hB hdf
      have hd2:done 2 = true:=hp 2 rfl
      refine Or.inl ⟨_,h.f2 hd2,(fun hx => by cases hx),(fun hne => { h with f4:=(fun _ => rfl) })⟩
     ·intro done v W A h hd hp hu hA hB hdf
      have hd2:done 2 = true:=hp 2 rfl
      refine Or.inl ⟨_,h.f2 hd2,(fun hx => by cases hx),(fun hne => { h with f5:=(fun _ => rfl) })⟩
     ·intro done v W A h hd hp hu hA hB hdf
      have hd5:done 5 = true:=hp 5 rfl
      refine Or.inr ⟨h.f5 hd5,{ h with f6:=(fun _ => rfl) }⟩
     ·intro done v W A h hd hp hu hA hB hdf
      have hd5:done 5 = true:=hp 5 rfl
      refine Or.inr ⟨h.f5 hd5,{ h with f7:=(fun _ => rfl) }⟩
     ·intro done v W A h hd hp hu hA hB hdf
      have hd5:done 5 = true:=hp 5 rfl
      refine Or.inr ⟨h.f5 hd5,{ h with f8:=(fun _ => rfl) }⟩
     ·intro done v W A h hd hp hu hA hB hdf
      have hd5:done 5 = true:=hp 5 rfl
      refine Or.inr ⟨h.f5 hd5,{ h with f9:=(fun _ => rfl) }⟩
     ·intro done v W A h hd hp hu hA hB hdf
      have hd5:done 5 = true:=hp 5 rfl
      refine Or.inr ⟨h.f5 hd5,{ h with f10:=(fun _ => rfl) }⟩
     ·intro done v W A h hd hp hu hA hB hdf
      have hd5:done 5 = true:=hp 5 rfl
      refine Or.inr ⟨h.f5 hd5,{ h with f11:=(fun _ => rfl) }⟩
     ·intro done v W A h hd hp hu hA hB hdf
      have hd5:done 5 = true:=hp 5 rfl
      refine Or.inr ⟨h.f5 hd5,{ h with f12:=(fun _ => rfl) }⟩
     ·intro done v W A h hd hp hu hA hB hdf
      have hd5:done 5 = true:=hp 5 rfl
      refine Or.inr ⟨h.f5 hd5,{ h with f13:=(fun _ => rfl) }⟩
     ·intro done v W A h hd hp hu hA hB hdf
      have hd5:done 5 = true:=hp 5 rfl
      refine Or.inr ⟨h.f5 hd5,{ h with f14:=(fun _ => rfl) }⟩
     ·intro done v W A h hd hp hu hA hB hdf
      have hd5:done 5 = true:=hp 5 rfl
      refine Or.inr ⟨h.f5 hd5,{ h with f15:=(fun _ => rfl) }⟩
     ·intro done v W A h hd hp hu hA hB hdf
      have hd2:done 2 = true:=hp 2 rfl
      refine Or.inl ⟨_,h.f2 hd2,(fun hx => by cases hx),(fun hne => { h with f16:=(fun _ => rfl) })⟩
     ·intro done v W A h hd hp hu hA hB hdf
      have hd2:done 2 = true:=hp 2 rfl
      have e0:=(hA 2 67 rfl hd2).trans (h.f2 hd2)
      clear hA hB hp hu hdf
      go_simp
      exact ⟨_,rfl,{ h with f17:=(fun _ => rfl) }⟩
    simp only [putL,Act.put,Nat.reduceAdd,List.setIfInBounds_toArray,List.set_cons_zero,List.set_cons_succ]
    have hbr:=h.b
    rw [h.f17 rfl]
    have QS:=Lib.hid ((hbr.block _ (row_lt QS7.out)).trans QS7.out)
    have HB:=Lib.hid (HB.out.trans ((HB7.out.trans (hbr.mono HB7.out.size)).mono HB.out.size))
    clear h hbr
    have t0:=row_cell QS.out (k:=0) (v:=.int .i64 0) rfl
    have t1:=row_cell QS.out (k:=1) (v:=.int .i64 0) rfl
    have f0:=row_free QS.out 0
    have f1:=row_free QS.out 1
    obtain ⟨wz9,hwz9⟩:∃ x:World,x = W:=⟨_,rfl⟩
    obtain ⟨W9,hW9⟩:∃ W9,W9 = sputW wz9 (w.heap.size + 1) (.int .i64 0) (.int .i64 0):=⟨_,rfl⟩
    rw [hwz9] at hW9
    have hq9:W9.heap[w.heap.size + 1]? = some (.cells #[.int .i64 0,.int .i64 0] 68 (0,0)):=by rw [hW9]; exact sputW_row _ _ _ QS.out
    have HB9:Hid (Below w.heap.size w W9):=Lib.hid (by rw [hW9]; exact sput_below _ _ HB.out (Nat.le_succ _))
    have z0:=row_cell hq9 (k:=0) (v:=.int .i64 0) rfl
    have z1:=row_cell hq9 (k:=1) (v:=.int .i64 0) rfl
    unfold sputW at hW9
    have HW9:=Lib.hid hW9
    clear hW9 hq9 hwz9
    go_wp2_with (rw [← HW9.out])
    refine bodyPost_ret (v:=.tuple #[.agg #[.int .i64 0,.int .i64 0],.int .i64 370]) (by simp [results,Tryz.results34,go_sem,z0,z1]) rfl ⟨by rw [(HOFF.out _ HV.out (by decide)).1,(HOFF.out _ HV.out (by decide)).2,HV.out],HB9.out⟩
   | true =>
   obtain ⟨hfm,hfd,hff⟩:=HFO.out rfl
   have HFF:=Lib.hid (And.intro hfd hff)
   clear HFO hfm hfd hff
   by_cases hk0:k = 0
   ·have dk:decide ((0:Int) < (k:Int)) = false:=decide_eq_false (by omega)
    have dk2:decide (0 < k) = false:=decide_eq_false (by omega)
    have HNX:=Lib.hid (show ∀ j,j < k + 1 → dlsB rows l ds j = true from fun j h1 => by
     by_cases e:j = k
     ·subst e; exact HDV.out.trans (by rw [hk0]; rfl)
     ·exact HTK.out j (by omega))
    clear hk0 HDV HTK HIX
    go_wp2_with fail
    refine wp_region_flowsH (by kernel_rfl) (by kernel_rfl) (by kernel_rfl) (by kernel_rfl) (fun done v W => FRo17b W7 (sb) (so) (ds.length) (k3) (k) (n) done v W) (fun v => ?_) ?_ (fun v W h => ?_)
    ·exact ⟨(Below.refl _ _).drew,(fun h => by cases h),(fun h => by cases h),(fun h => by cases h),(fun h => by cases h),(fun h => by cases h),(fun h => by cases h),(fun h => by cases h),(fun h => by cases h),(fun h => by cases h),(fun h => by cases h),(fun h => by cases h),(fun h => by cases h),(fun h => by cases h),(fun h => by cases h),(fun h => by cases h),(fun h => by cases h),(fun h => by cases h),(fun h => by cases h)⟩
    ·refine ⟨?_,?_,?_,?_,?_,?_,?_,?_,?_,?_,?_,?_,?_,?_,?_,?_,?_,?_,trivial⟩
     ·intro done v W A h hd hp hu hA hB hdf
      have e0:A.tmps[16]?.getD undef = .bool true:=hB 16 rfl
      clear hA hB hp hu hdf
      go_simp
      exact ⟨_,rfl,{ h with f0:=(fun _ => rfl) }⟩
     ·intro done v W A h hd hp hu hA hB hdf
      have hd0:done 0 = true:=hp 0 rfl
      have e0:=(hA 0 65 rfl hd0).trans (h.f0 hd0)
      clear hA hB hp hu hdf
      go_simp
      exact ⟨_,rfl,{ h with f1:=(fun _ => rfl) }⟩
     ·intro done v W A h hd hp hu hA hB hdf
      have hd1:done 1 = true:=hp 1 rfl
      have e0:=(hA 1 66 rfl hd1).trans (h.f1 hd1)
      clear hA hB hp hu hdf
      go_simp
      exact ⟨_,rfl,{ h with f2:=(fun _ => rfl) }⟩
     ·intro done v W A h hd hp hu hA hB hdf
      have hd2:done 2 = true:=hp 2 rfl
      refine Or.inl ⟨_,h.f2 hd2,fun _ => ?_,fun hne => absurd rfl hne⟩
      have e0:A.tmps[14]?.getD undef = .int .i64 (k:Int):=hB 14 rfl
      clear hA hB hp hu hdf
      go_simp
      exact ⟨_,rfl,{ h with f3:=(fun _ => rfl) }⟩
     ·intro done v W A h hd hp hu hA hB hdf
      have hd2:done 2 = true:=hp 2 rfl
      have hd3:done 3 = true:=hp 3 rfl
      refine Or.inl ⟨_,h.f2 hd2,fun _ => ?_,fun hne => absurd rfl hne⟩
      have e0:=(hA 3 68 rfl hd3).trans (h.f3 hd3)
      clear hA hB hp hu hdf
      go_simp
      exact ⟨_,rfl,{ h with f4:=(fun _ => rfl) }⟩
     ·intro done v W A h hd hp hu hA hB hdf
      have hd2:done 2 = true:=hp 2 rfl
      have hd4:done 4 = true:=hp 4 rfl
      refine Or.inl ⟨_,h.f2 hd2,fun _ => ?_,fun hne => absurd rfl hne⟩
      have e0:=(hA 4 69 rfl hd4).trans (h.f4 hd4)
      clear hA hB hp hu hdf
      go_simp
      exact ⟨_,rfl,{ h with f5:=(fun _ => rfl) }⟩
     ·intro done v W A h hd hp hu hA hB hdf
      have hd5:done 5 = true:=hp 5 rfl
      refine Or.inl ⟨_,h.f5 hd5,(fun hx => by cases hx),(fun hne => { h with f6:=(fun _ => rfl) })⟩
     ·intro done v W A h hd hp hu hA hB hdf
      have hd5:done 5 = true:=hp 5 rfl
      refine Or.inl ⟨_,h.f5 hd5,(fun hx => by cases hx),(fun hne => { h with f7:=(fun _ => rfl) })⟩
     ·intro done v W A h hd hp hu hA hB hdf
      have hd5:done 5 = true:=hp 5 rfl
      refine Or.inl ⟨_,h.f5 hd5,(fun hx => by cases hx),(fun hne => { h with f8:=(fun _ => rfl) })⟩
     ·intro done v W A h hd hp hu hA hB hdf
      have hd5:done 5 = true:=hp 5 rfl
      refine Or.inl ⟨_,h.f5 hd5,(fun hx => by cases hx),(fun hne => { h with f9:=(fun _ => rfl) })⟩
     ·intro done v W A h hd hp hu hA hB hdf
      have hd5:done 5 = true:=hp 5 rfl
      refine Or.inl ⟨_,h.f5 hd5,(fun hx => by cases hx),(fun hne => { h with f10:=(fun _ => rfl) })⟩
     ·intro done v W A h hd hp hu hA hB hdf
      have hd5:done 5 = true:=hp 5 rfl
      refine Or.inl ⟨_,h.f5 hd5,(fun hx => by cases hx),(fun hne => { h with f11:=(fun _ => rfl) })⟩
     ·intro done v W A h hd hp hu hA hB hdf
      have hd5:done 5 = true:=hp 5 rfl
      refine Or.inl ⟨_,h.f5 hd5,(fun hx => by cases hx),(fun hne => { h with f12:=(fun _ => rfl) })⟩
     ·intro done v W A h hd hp hu hA hB hdf
      have hd5:done 5 = true:=hp 5 rfl
      refine Or.inl ⟨_,h.f5 hd5,(fun hx => by cases hx),(fun hne => { h with f13:=(fun _ => rfl) })⟩
     ·intro done v W A h hd hp hu hA hB hdf
      have hd5:done 5 = true:=hp 5 rfl
      refine Or.inl ⟨_,h.f5 hd5,(fun hx => by cases hx),(fun hne => { h with f14:=(fun _ => rfl) })⟩
     ·intro done v W A h hd hp hu hA hB hdf
      have hd5:done 5 = true:=hp 5 rfl
      refine Or.inl ⟨_,h.f5 hd5,(fun hx => by cases hx),(fun hne => { h with f15:=(fun _ => rfl) })⟩
     ·intro done v W A h hd hp hu hA hB hdf
      have hd2:done 2 = true:=hp 2 rfl
      have hd5:done 5 = true:=hp 5 rfl
      refine Or.inl ⟨_,h.f2 hd2,fun _ => ?_,fun hne => absurd rfl hne⟩
      have e0:=(hA 5 70 rfl hd5).trans (h.f5 hd5)
      clear hA hB hp hu hdf
      go_simp
      exact ⟨_,rfl,{ h with f16:=(fun _ => rfl) }⟩
     ·intro done v W A h hd hp hu hA hB hdf
      have hd2:done 2 = true:=hp 2 rfl
      have hd16:done 16 = true:=hp 16 rfl
      have e0:=(hA 2 67 rfl hd2).trans (h.f2 hd2)
      have e2:=(hA 16 81 rfl hd16).trans (h.f16 hd16)
      clear hA hB hp hu hdf
      go_simp
      exact ⟨_,rfl,{ h with f17:=(fun _ => rfl) }⟩
    simp only [putL,Act.put,Nat.reduceAdd,List.setIfInBounds_toArray,List.set_cons_zero,List.set_cons_succ]
    have hbr:=h.b
    rw [h.f17 rfl]
    clear dk dk2
    have HV17:=Lib.hid (HB7.out.trans (hbr.mono HB7.out.size))
    have HRW8:=Lib.hid ((hbr.block _ (row_lt HRW7.out)).trans HRW7.out)
    have hxp:=HXO7.out.2.below hbr
    have hrp:r < D.ps.length:=by rw [HFF.out.2.len]; exact HRL.out
    have hpat:=HFF.out.2.at HRL.out
    have hpr:=HFF.out.2.right HPO.out.few HRL.out
    obtain ⟨qb,qo,ea,w0_,w1_,w2_,-⟩:=hxp.at hrp
    subst ea
    replace m2_:=below_cell hbr m2_
    replace qs_:=below_cell hbr qs_
    obtain ⟨W8,rfl⟩:∃ x,x = W:=⟨_,rfl⟩
    have hpe:parAt D (r:Int) = D.ps[r]:=by
     obtain ⟨h8,e8⟩:=parAt_mem (d:=D) (row:=(r:Int)) ⟨by omega,by omega⟩
     rw [e8]; simp
    have hmv:mkV s D (r:Int) = opnV (powE (parAt D (r:Int)).2.1 s) D.dealer (parAt D (r:Int)).1 (parAt D (r:Int)).2.2:=rfl
    have hoe:openE s D.dealer (parAt D (r:Int)).1 (parAt D (r:Int)).2.1 (parAt D (r:Int)).2.2 = 0:=openE_ok.2 ⟨HSB.out,HFF.out.2.dealer,hpr⟩
    have hov:openV s D.dealer (parAt D (r:Int)).1 (parAt D (r:Int)).2.1 (parAt D (r:Int)).2.2 = mkV s D (r:Int):=by rw [openV_yes hoe,hmv]
    have HOP0:=Lib.hid (fun W => ropen_any s D.dealer (parAt D (r:Int)).1 (parAt D (r:Int)).2.1 (parAt D (r:Int)).2.2 W HN.out.1 HXO.out.2.2 (by rw [hpat.1]; exact R64.mk (by omega) (by have:=HPO.out.few; have:=HRL.out; omega)) hpat.2.1.r64)
    rw [hoe,hov,HFF.out.1,hpe] at HOP0
    have hvn:=mkV_num s D (r:Int)
    generalize mkV s D (r:Int) = vv at *
    obtain ⟨pr,hpr9⟩:∃ x,x = D.ps[r].1:=⟨_,rfl⟩
    obtain ⟨pt,hpt9⟩:∃ x,x = D.ps[r].2.1:=⟨_,rfl⟩
    obtain ⟨ci,hci9⟩:∃ x,x = D.ps[r].2.2:=⟨_,rfl⟩
    rw [← hpr9] at w0_
    rw [← hpt9] at w1_
    rw [← hci9] at w2_
    rw [← hpr9,← hpt9,← hci9] at HOP0
    have HOP:=HOP0
    have i2:(0:Int) ≤ (r:Int):=Int.natCast_nonneg r
    have i3:(r:Int) < (D.ps.length:Int):=by omega
    have HVN:=Lib.hid (num_r64 hvn)
    have HSMR:=Lib.hid (num_r64 HON.out)
    clear h hbr hxp hpat hpr hpe hmv hoe hov HOP0 hvn hpr9 hpt9 hci9
    go_wp2_with fail
    refine wp_region_flowsG (by kernel_rfl) (by kernel_rfl) (by kernel_rfl) (by kernel_rfl) (fun done v W => FRo19 W8 (sb) (so) (ds.length) (k3) (k) (B) (qb) (qo) (D.ps.length) (qk) (r) (s) (n) (pr) (pt) (ci) (vv) (0) done v W) (fun v => ?_) ?_ (fun v W h => ?_)
    ·exact ⟨(Below.refl _ _).drew,(fun h => by cases h),(fun h => by cases h),(fun h => by cases h),(fun h => by cases h),(fun h => by cases h),(fun h => by cases h),(fun h => by cases h),(fun h => by cases h),(fun h => by cases h),(fun h => by cases h),(fun h => by cases h),(fun h => by cases h),(fun h => by cases h),(fun h => by cases h),(fun h => by cases h),(fun h => by cases h)⟩
    ·refine ⟨?_,?_,?_,?_,?_,?_,?_,?_,?_,?_,?_,?_,?_,?_,?_,?_,trivial⟩
     ·intro done v W A h hd hp hu hA hB hdf
      have e0:A.tmps[1]?.getD undef = .int .i64 s:=hB 1 rfl
      clear hA hB hp hu hdf
      go_simp
      exact ⟨_,rfl,{ h with f0:=(fun _ => rfl) }⟩
     ·intro done v W A h hd hp hu hA hB hdf
      have e0:A.tmps[3]?.getD undef = .slice (some ⟨sb,so,none⟩) ds.length k3:=hB 3 rfl
      clear hA hB hp hu hdf
      go_simp
      exact ⟨_,rfl,{ h with f1:=(fun _ => rfl) }⟩
     ·intro done v W A h hd hp hu hA hB hdf
      have e0:A.tmps[14]?.getD undef = .int .i64 (k:Int):=hB 14 rfl
      clear hA hB hp hu hdf
      go_simp
      exact ⟨_,rfl,{ h with f2:=(fun _ => rfl) }⟩
     ·intro done v W A h hd hp hu hA hB hdf
      have hd1:done 1 = true:=hp 1 rfl
      have hd2:done 2 = true:=hp 2 rfl
      have e0:=(hA 1 86 rfl hd1).trans (h.f1 hd1)
      have e1:=(hA 2 87 rfl hd2).trans (h.f2 hd2)
      clear hA hB hp hu hdf
      go_simp
      exact ⟨_,rfl,{ h with f3:=(fun _ => rfl) }⟩
     ·intro done v W A h hd hp hu hA hB hdf
      have hd3:done 3 = true:=hp 3 rfl
      have e0:=(hA 3 88 rfl hd3).trans (h.f3 hd3)
      have y0_:=below_cell h.b qs_
      clear hA hB hp hu hdf
      go_simp
      exact ⟨_,rfl,{ h with f4:=(fun _ => rfl) }⟩
     ·intro done v W A h hd hp hu hA hB hdf
      have e0:A.tmps[15]?.getD undef = .pointer (some ⟨B,0,none⟩):=hB 15 rfl
      clear hA hB hp hu hdf
      go_simp
      exact ⟨_,rfl,{ h with f5:=(fun _ => rfl) }⟩
     ·intro done v W A h hd hp hu hA hB hdf
      have hd5:done 5 = true:=hp 5 rfl
      have e0:=(hA 5 90 rfl hd5).trans (h.f5 hd5)
      have y0_:=below_cell h.b m2_
      clear hA hB hp hu hdf
      go_simp
      exact ⟨_,rfl,{ h with f6:=(fun _ => rfl) }⟩
     ·intro done v W A h hd hp hu hA hB hdf
      have e0:A.tmps[2]?.getD undef = .int .i64 (r:Int):=hB 2 rfl
      clear hA hB hp hu hdf
      go_simp
      exact ⟨_,rfl,{ h with f7:=(fun _ => rfl) }⟩
     ·intro done v W A h hd hp hu hA hB hdf
      have hd6:done 6 = true:=hp 6 rfl
      have hd7:done 7 = true:=hp 7 rfl
      have e0:=(hA 6 91 rfl hd6).trans (h.f6 hd6)
      have e1:=(hA 7 92 rfl hd7).trans (h.f7 hd7)
      clear hA hB hp hu hdf
      go_simp
      exact ⟨_,rfl,{ h with f8:=(fun _ => rfl) }⟩
     ·intro done v W A h hd hp hu hA hB hdf
      have hd8:done 8 = true:=hp 8 rfl
      have e0:=(hA 8 93 rfl hd8).trans (h.f8 hd8)
      have y0_:=below_cell h.b w0_
      have y1_:=below_cell h.b w1_
      have y2_:=below_cell h.b w2_
      clear hA hB hp hu hdf
      go_simp
      exact ⟨_,rfl,{ h with f9:=(fun _ => rfl) }⟩
     ·intro done v W A h hd hp hu hA hB hdf
      have hd0:done 0 = true:=hp 0 rfl
      have hd4:done 4 = true:=hp 4 rfl
      have hd9:done 9 = true:=hp 9 rfl
      have e0:=(hA 0 85 rfl hd0).trans (h.f0 hd0)
      have e1:=(hA 4 89 rfl hd4).trans (h.f4 hd4)
      have e2:=(hA 9 94 rfl hd9).trans (h.f9 hd9)
      clear hA hB hp hu hdf
      go_simp
      with_reducible refine (HOP.out W).mono ?_
      rintro e wq ⟨rfl,hb⟩
      exact ⟨_,rfl,{ h with b:=h.b.trans (hb.mono h.b.size),f10:=(fun _ => rfl) }⟩
     ·intro done v W A h hd hp hu hA hB hdf
      have hd10:done 10 = true:=hp 10 rfl
      have e0:=(hA 10 95 rfl hd10).trans (h.f10 hd10)
      clear hA hB hp hu hdf
      go_simp
      exact ⟨_,rfl,{ h with f11:=(fun _ => rfl) }⟩
     ·intro done v W A h hd hp hu hA hB hdf
      have hd11:done 11 = true:=hp 11 rfl
      have e0:=(hA 11 84 rfl hd11).trans (h.f11 hd11)
      clear hA hB hp hu hdf
      go_simp
      exact ⟨_,rfl,{ h with f12:=(fun _ => rfl) }⟩
     ·intro done v W A h hd hp hu hA hB hdf
      have hd11:done 11 = true:=hp 11 rfl
      have e0:=(hA 11 84 rfl hd11).trans (h.f11 hd11)
      clear hA hB hp hu hdf
      go_simp
      exact ⟨_,rfl,{ h with f13:=(fun _ => rfl) }⟩
     ·intro done v W A h hd hp hu hA hB hdf
      have hd12:done 12 = true:=hp 12 rfl
      have e0:=(hA 12 96 rfl hd12).trans (h.f12 hd12)
      clear hA hB hp hu hdf
      go_simp
      exact ⟨_,rfl,{ h with f14:=(fun _ => rfl) }⟩
     ·intro done v W A h hd hp hu hA hB hdf
      have hd13:done 13 = true:=hp 13 rfl
      have e0:=(hA 13 97 rfl hd13).trans (h.f13 hd13)
      clear hA hB hp hu hdf
      go_simp
      exact ⟨_,rfl,{ h with f15:=(fun _ => rfl) }⟩
    simp only [putL,Act.put,Nat.reduceAdd,List.setIfInBounds_toArray,List.set_cons_zero,List.set_cons_succ]
    rw [h.f14 rfl]
    rw [h.f15 rfl]
    have hbr:=h.b
    have HV19:=Lib.hid (HV17.out.trans (hbr.mono HV17.out.size))
    have HRW9:=Lib.hid ((hbr.block _ (row_lt HRW8.out)).trans HRW8.out)
    clear h hbr HOP
    obtain ⟨W10,rfl⟩:∃ x,x = W:=⟨_,rfl⟩
    have s0:=row_cell HRW9.out (k:=1) (v:=.int .i64 sm) rfl
    have s1:=row_free HRW9.out 1
    have HAD:=Lib.hid (fun W => radd_any sm vv W HSMR.out HVN.out)
    rw [← HSK.out] at HAD
    go_wp2_with fail
    with_reducible refine (HAD.out _).mono ?_
    rintro e w11 ⟨rfl,rfl⟩
    go_wp2_with fail
    go_roundw
    case rel => exact ⟨k + 1,HLT.out,by go_num,HNX,row_set HRW9.out 1 _,HV19.out.setCell (Nat.le_refl _) _⟩
    case measure =>
     have h9:=HLT.out
     simp [intOf]; omega
   have dk:decide ((0:Int) < (k:Int)) = true:=decide_eq_true (by omega)
   have dk2:decide (0 < k) = true:=decide_eq_true (by omega)
   obtain ⟨⟨sb2,so2,ea,qp_⟩,hnp⟩:=HIX.out (by omega)
   simp only [Option.some.injEq,Addr.mk.injEq] at ea
   obtain ⟨rfl,rfl,-⟩:=ea
   replace qp_:=below_cell (HBR.out) qp_
   have w1:IntKind.i64.wrap ((k:Int) - 1) = (k:Int) - 1:=IntWalk.i64_in _ (by omega)
   have e3:((k:Int) - 1).toNat = k - 1:=by omega
   have i4:(0:Int) ≤ (k:Int) - 1:=by omega
   have i6:(1:Int) ≤ (k:Int):=by omega
   have i7:1 ≤ k:=by omega
   have i5:(k:Int) - 1 < (ds.length:Int):=by omega
   rw [hnp] at HDV
   obtain ⟨p,hp9⟩:∃ x,x = ds[k - 1]'(by omega):=⟨_,rfl⟩
   rw [← hp9] at HDV qp_
   clear hnp hp9 HIX
   by_cases hnp:n ≤ p
   ·have d9:decide (n ≤ p) = true:=decide_eq_true hnp
    have HV:Hid (ME = 370):=Lib.hid (HE.out.trans (if_pos (allDls_bad hlt (HDV.out.trans (by rw [decide_eq_false hk0,decide_eq_false (by omega)]; rfl)))))
    clear HE HDV HSK hnp hk0
    go_wp2_with fail
    refine wp_region_flowsH (by kernel_rfl) (by kernel_rfl) (by kernel_rfl) (by kernel_rfl) (fun done v W => FRo17c W7 (sb) (so) (ds.length) (k3) (k) (n) (p) done v W) (fun v => ?_) ?_ (fun v W h => ?_)
    ·exact ⟨(Below.refl _ _).drew,(fun h => by cases h),(fun h => by cases h),(fun h => by cases h),(fun h => by cases h),(fun h => by cases h),(fun h => by cases h),(fun h => by cases h),(fun h => by cases h),(fun h => by cases h),(fun h => by cases h),(fun h => by cases h),(fun h => by cases h),(fun h => by cases h),(fun h => by cases h),(fun h => by cases h),(fun h => by cases h),(fun h => by cases h),(fun h => by cases h)⟩
    ·refine ⟨?_,?_,?_,?_,?_,?_,?_,?_,?_,?_,?_,?_,?_,?_,?_,?_,?_,?_,trivial⟩
     ·intro done v W A h hd hp hu hA hB hdf
      have e0:A.tmps[16]?.getD undef = .bool true:=hB 16 rfl
      clear hA hB hp hu hdf
      go_simp
      exact ⟨_,rfl,{ h with f0:=(fun _ => rfl) }⟩
     ·intro done v W A h hd hp hu hA hB hdf
      have hd0:done 0 = true:=hp 0 rfl
      have e0:=(hA 0 65 rfl hd0).trans (h.f0 hd0)
      clear hA hB hp hu hdf
      go_simp
      exact ⟨_,rfl,{ h with f1:=(fun _ => rfl) }⟩
     ·intro done v W A h hd hp hu hA hB hdf
      have hd1:done 1 = true:=hp 1 rfl
      have e0:=(hA 1 66 rfl hd1).trans (h.f1 hd1)
      clear hA hB hp hu hdf
      go_simp
      exact ⟨_,rfl,{ h with f2:=(fun _ => rfl) }⟩
     ·intro done v W A h hd hp hu hA hB hdf
      have hd2:done 2 = true:=hp 2 rfl
      refine Or.inl ⟨_,h.f2 hd2,fun _ => ?_,fun hne => absurd rfl hne⟩
      have e0:A.tmps[14]?.getD undef = .int .i64 (k:Int):=hB 14 rfl
      clear hA hB hp hu hdf
      go_simp
      exact ⟨_,rfl,{ h with f3:=(fun _ => rfl) }⟩
     ·intro done v W A h hd hp hu hA hB hdf
      have hd2:done 2 = true:=hp 2 rfl
      have hd3:done 3 = true:=hp 3 rfl
      refine Or.inl ⟨_,h.f2 hd2,fun _ => ?_,fun hne => absurd rfl hne⟩
      have e0:=(hA 3 68 rfl hd3).trans (h.f3 hd3)
      clear hA hB hp hu hdf
      go_simp
      exact ⟨_,rfl,{ h with f4:=(fun _ => rfl) }⟩
     ·intro done v W A h hd hp hu hA hB hdf
      have hd2:done 2 = true:=hp 2 rfl
      have hd4:done 4 = true:=hp 4 rfl
      refine Or.inl ⟨_,h.f2 hd2,fun _ => ?_,fun hne => absurd rfl hne⟩
      have e0:=(hA 4 69 rfl hd4).trans (h.f4 hd4)
      clear hA hB hp hu hdf
      go_simp
      exact ⟨_,rfl,{ h with f5:=(fun _ => rfl) }⟩
     ·intro done v W A h hd hp hu hA hB hdf
      have hd5:done 5 = true:=hp 5 rfl
      refine Or.inl ⟨_,h.f5 hd5,fun _ => ?_,fun hne => absurd rfl hne⟩
      have e0:A.tmps[3]?.getD undef = .slice (some ⟨sb,so,none⟩) ds.length k3:=hB 3 rfl
      clear hA hB hp hu hdf
      go_simp
      exact ⟨_,rfl,{ h with f6:=(fun _ => rfl) }⟩
     ·intro done v W A h hd hp hu hA hB hdf
      have hd5:done 5 = true:=hp 5 rfl
      refine Or.inl ⟨_,h.f5 hd5,fun _ => ?_,fun hne => absurd rfl hne⟩
      have e0:A.tmps[14]?.getD undef = .int .i64 (k:Int):=hB 14 rfl
      clear hA hB hp hu hdf
      go_simp
      exact ⟨_,rfl,{ h with f7:=(fun _ => rfl) }⟩
     ·intro done v W A h hd hp hu hA hB hdf
      have hd5:done 5 = true:=hp 5 rfl
      have hd6:done 6 = true:=hp 6 rfl
      have hd7:done 7 = true:=hp 7 rfl
      refine Or.inl ⟨_,h.f5 hd5,fun _ => ?_,fun hne => absurd rfl hne⟩
      have e0:=(hA 6 71 rfl hd6).trans (h.f6 hd6)
      have e1:=(hA 7 72 rfl hd7).trans (h.f7 hd7)
      clear hA hB hp hu hdf
      go_simp
      exact ⟨_,rfl,{ h with f8:=(fun _ => rfl) }⟩
     ·intro done v W A h hd hp hu hA hB hdf
      have hd5:done 5 = true:=hp 5 rfl
      have hd8:done 8 = true:=hp 8 rfl
      refine Or.inl ⟨_,h.f5 hd5,fun _ => ?_,fun hne => absurd rfl hne⟩
      have e0:=(hA 8 73 rfl hd8).trans (h.f8 hd8)
      have y0_:=below_cell h.b qs_
      clear hA hB hp hu hdf
      go_simp
      exact ⟨_,rfl,{ h with f9:=(fun _ => rfl) }⟩
     ·intro done v W A h hd hp hu hA hB hdf
      have hd5:done 5 = true:=hp 5 rfl
      refine Or.inl ⟨_,h.f5 hd5,fun _ => ?_,fun hne => absurd rfl hne⟩
      have e0:A.tmps[3]?.getD undef = .slice (some ⟨sb,so,none⟩) ds.length k3:=hB 3 rfl
      clear hA hB hp hu hdf
      go_simp
      exact ⟨_,rfl,{ h with f10:=(fun _ => rfl) }⟩
     ·intro done v W A h hd hp hu hA hB hdf
      have hd5:done 5 = true:=hp 5 rfl
      refine Or.inl ⟨_,h.f5 hd5,fun _ => ?_,fun hne => absurd rfl hne⟩
      have e0:A.tmps[14]?.getD undef = .int .i64 (k:Int):=hB 14 rfl
      clear hA hB hp hu hdf
      go_simp
      exact ⟨_,rfl,{ h with f11:=(fun _ => rfl) }⟩
     ·intro done v W A h hd hp hu hA hB hdf
      have hd5:done 5 = true:=hp 5 rfl
      have hd11:done 11 = true:=hp 11 rfl
      refine Or.inl ⟨_,h.f5 hd5,fun _ => ?_,fun hne => absurd rfl hne⟩
      have e0:=(hA 11 76 rfl hd11).trans (h.f11 hd11)
      clear hA hB hp hu hdf
      go_simp
      exact ⟨_,rfl,{ h with f12:=(fun _ => rfl) }⟩
     ·intro done v W A h hd hp hu hA hB hdf
      have hd5:done 5 = true:=hp 5 rfl
      have hd10:done 10 = true:=hp 10 rfl
      have hd12:done 12 = true:=hp 12 rfl
      refine Or.inl ⟨_,h.f5 hd5,fun _ => ?_,fun hne => absurd rfl hne⟩
      have e0:=(hA 10 75 rfl hd10).trans (h.f10 hd10)
      have e1:=(hA 12 77 rfl hd12).trans (h.f12 hd12)
      clear hA hB hp hu hdf
      go_simp
      exact ⟨_,rfl,{ h with f13:=(fun _ => rfl) }⟩
     ·intro done v W A h hd hp hu hA hB hdf
      have hd5:done 5 = true:=hp 5 rfl
      have hd13:done 13 = true:=hp 13 rfl
      refine Or.inl ⟨_,h.f5 hd5,fun _ => ?_,fun hne => absurd rfl hne⟩
      have e0:=(hA 13 78 rfl hd13).trans (h.f13 hd13)
      have y0_:=below_cell h.b qp_
      clear hA hB hp hu hdf
      go_simp
      exact ⟨_,rfl,{ h with f14:=(fun _ => rfl) }⟩
     ·intro done v W A h hd hp hu hA hB hdf
      have hd5:done 5 = true:=hp 5 rfl
      have hd9:done 9 = true:=hp 9 rfl
      have hd14:done 14 = true:=hp 14 rfl
      refine Or.inl ⟨_,h.f5 hd5,fun _ => ?_,fun hne => absurd rfl hne⟩
      have e0:=(hA 9 74 rfl hd9).trans (h.f9 hd9)
      have e1:=(hA 14 79 rfl hd14).trans (h.f14 hd14)
      clear hA hB hp hu hdf
      go_simp
      exact ⟨_,rfl,{ h with f15:=(fun _ => rfl) }⟩
     ·intro done v W A h hd hp hu hA hB hdf
      have hd2:done 2 = true:=hp 2 rfl
      have hd5:done 5 = true:=hp 5 rfl
      have hd15:done 15 = true:=hp 15 rfl
      refine Or.inl ⟨_,h.f2 hd2,fun _ => ?_,fun hne => absurd rfl hne⟩
      have e0:=(hA 5 70 rfl hd5).trans (h.f5 hd5)
      have e1:=(hA 15 80 rfl hd15).trans (h.f15 hd15)
      clear hA hB hp hu hdf
      go_simp
      exact ⟨_,rfl,{ h with f16:=(fun _ => rfl) }⟩
     ·intro done v W A h hd hp hu hA hB hdf
      have hd2:done 2 = true:=hp 2 rfl
      have hd16:done 16 = true:=hp 16 rfl
      have e0:=(hA 2 67 rfl hd2).trans (h.f2 hd2)
      have e2:=(hA 16 81 rfl hd16).trans (h.f16 hd16)
      clear hA hB hp hu hdf
      go_simp
      exact ⟨_,rfl,{ h with f17:=(fun _ => rfl) }⟩
    simp only [putL,Act.put,Nat.reduceAdd,List.setIfInBounds_toArray,List.set_cons_zero,List.set_cons_succ]
    have hbr:=h.b
    rw [h.f17 rfl]
    have QS:=Lib.hid ((hbr.block _ (row_lt QS7.out)).trans QS7.out)
    have HB:=Lib.hid (HB.out.trans ((HB7.out.trans (hbr.mono HB7.out.size)).mono HB.out.size))
    clear h hbr
    have t0:=row_cell QS.out (k:=0) (v:=.int .i64 0) rfl
    have t1:=row_cell QS.out (k:=1) (v:=.int .i64 0) rfl
    have f0:=row_free QS.out 0
    have f1:=row_free QS.out 1
    obtain ⟨wz9,hwz9⟩:∃ x:World,x = W:=⟨_,rfl⟩
    obtain ⟨W9,hW9⟩:∃ W9,W9 = sputW wz9 (w.heap.size + 1) (.int .i64 0) (.int .i64 0):=⟨_,rfl⟩
    rw [hwz9] at hW9
    have hq9:W9.heap[w.heap.size + 1]? = some (.cells #[.int .i64 0,.int .i64 0] 68 (0,0)):=by rw [hW9]; exact sputW_row _ _ _ QS.out
    have HB9:Hid (Below w.heap.size w W9):=Lib.hid (by rw [hW9]; exact sput_below _ _ HB.out (Nat.le_succ _))
    have z0:=row_cell hq9 (k:=0) (v:=.int .i64 0) rfl
    have z1:=row_cell hq9 (k:=1) (v:=.int .i64 0) rfl
    unfold sputW at hW9
    have HW9:=Lib.hid hW9
    clear hW9 hq9 hwz9
    go_wp2_with (rw [← HW9.out])
    refine bodyPost_ret (v:=.tuple #[.agg #[.int .i64 0,.int .i64 0],.int .i64 370]) (by simp [results,Tryz.results34,go_sem,z0,z1]) rfl ⟨by rw [(HOFF.out _ HV.out (by decide)).1,(HOFF.out _ HV.out (by decide)).2,HV.out],HB9.out⟩
   have d9:decide (n ≤ p) = false:=decide_eq_false hnp
   have HNX:=Lib.hid (show ∀ j,j < k + 1 → dlsB rows l ds j = true from fun j h1 => by
    by_cases e:j = k
    ·subst e; exact HDV.out.trans (by rw [decide_eq_false hk0,decide_eq_true (by omega)]; rfl)
    ·exact HTK.out j (by omega))
   clear hk0 HDV HTK hnp
   go_wp2_with fail
   refine wp_region_flowsH (by kernel_rfl) (by kernel_rfl) (by kernel_rfl) (by kernel_rfl) (fun done v W => FRo17d W7 (sb) (so) (ds.length) (k3) (k) (n) (p) done v W) (fun v => ?_) ?_ (fun v W h => ?_)
   ·exact ⟨(Below.refl _ _).drew,(fun h => by cases h),(fun h => by cases h),(fun h => by cases h),(fun h => by cases h),(fun h => by cases h),(fun h => by cases h),(fun h => by cases h),(fun h => by cases h),(fun h => by cases h),(fun h => by cases h),(fun h => by cases h),(fun h => by cases h),(fun h => by cases h),(fun h => by cases h),(fun h => by cases h),(fun h => by cases h),(fun h => by cases h),(fun h => by cases h)⟩
   ·refine ⟨?_,?_,?_,?_,?_,?_,?_,?_,?_,?_,?_,?_,?_,?_,?_,?_,?_,?_,trivial⟩
    ·intro done v W A h hd hp hu hA hB hdf
     have e0:A.tmps[16]?.getD undef = .bool true:=hB 16 rfl
     clear hA hB hp hu hdf
     go_simp
     exact ⟨_,rfl,{ h with f0:=(fun _ => rfl) }⟩
    ·intro done v W A h hd hp hu hA hB hdf
     have hd0:done 0 = true:=hp 0 rfl
     have e0:=(hA 0 65 rfl hd0).trans (h.f0 hd0)
     clear hA hB hp hu hdf
     go_simp
     exact ⟨_,rfl,{ h with f1:=(fun _ => rfl) }⟩
    ·intro done v W A h hd hp hu hA hB hdf
     have hd1:done 1 = true:=hp 1 rfl
     have e0:=(hA 1 66 rfl hd1).trans (h.f1 hd1)
     clear hA hB hp hu hdf
     go_simp
     exact ⟨_,rfl,{ h with f2:=(fun _ => rfl) }⟩
    ·intro done v W A h hd hp hu hA hB hdf
     have hd2:done 2 = true:=hp 2 rfl
     refine Or.inl ⟨_,h.f2 hd2,fun _ => ?_,fun hne => absurd rfl hne⟩
     have e0:A.tmps[14]?.getD undef = .int .i64 (k:Int):=hB 14 rfl
     clear hA hB hp hu hdf
     go_simp
     exact ⟨_,rfl,{ h with f3:=(fun _ => rfl) }⟩
    ·intro done v W A h hd hp hu hA hB hdf
     have hd2:done 2 = true:=hp 2 rfl
     have hd3:done 3 = true:=hp 3 rfl
     refine Or.inl ⟨_,h.f2 hd2,fun _ => ?_,fun hne => absurd rfl hne⟩
     have e0:=(hA 3 68 rfl hd3).trans (h.f3 hd3)
     clear hA hB hp hu hdf
     go_simp
     exact ⟨_,rfl,{ h with f4:=(fun _ => rfl) }⟩
    ·intro done v W A h hd hp hu hA hB hdf
     have hd2:done 2 = true:=hp 2 rfl
     have hd4:done 4 = true:=hp 4 rfl
     refine Or.inl ⟨_,h.f2 hd2,fun _ => ?_,fun hne => absurd rfl hne⟩
     have e0:=(hA 4 69 rfl hd4).trans (h.f4 hd4)
     clear hA hB hp hu hdf
     go_simp
     exact ⟨_,rfl,{ h with f5:=(fun _ => rfl) }⟩
    ·intro done v W A h hd hp hu hA hB hdf
     have hd5:done 5 = true:=hp 5 rfl
     refine Or.inl ⟨_,h.f5 hd5,fun _ => ?_,fun hne => absurd rfl hne⟩
     have e0:A.tmps[3]?.getD undef = .slice (some ⟨sb,so,none⟩) ds.length k3:=hB 3 rfl
     clear hA hB hp hu hdf
     go_simp
     exact ⟨_,rfl,{ h with f6:=(fun _ => rfl) }⟩
    ·intro done v W A h hd hp hu hA hB hdf
     have hd5:done 5 = true:=hp 5 rfl
     refine Or.inl ⟨_,h.f5 hd5,fun _ => ?_,fun hne => absurd rfl hne⟩
     have e0:A.tmps[14]?.getD undef = .int .i64 (k:Int):=hB 14 rfl
     clear hA hB hp hu hdf
     go_simp
     exact ⟨_,rfl,{ h with f7:=(fun _ => rfl) }⟩
    ·intro done v W A h hd hp hu hA hB hdf
     have hd5:done 5 = true:=hp 5 rfl
     have hd6:done 6 = true:=hp 6 rfl
     have hd7:done 7 = true:=hp 7 rfl
     refine Or.inl ⟨_,h.f5 hd5,fun _ => ?_,fun hne => absurd rfl hne⟩
     have e0:=(hA 6 71 rfl hd6).trans (h.f6 hd6)
     have e1:=(hA 7 72 rfl hd7).trans (h.f7 hd7)
     clear hA hB hp hu hdf
     go_simp
     exact ⟨_,rfl,{ h with f8:=(fun _ => rfl) }⟩
    ·intro done v W A h hd hp hu hA hB hdf
     have hd5:done 5 = true:=hp 5 rfl
     have hd8:done 8 = true:=hp 8 rfl
     refine Or.inl ⟨_,h.f5 hd5,fun _ => ?_,fun hne => absurd rfl hne⟩
     have e0:=(hA 8 73 rfl hd8).trans (h.f8 hd8)
     have y0_:=below_cell h.b qs_
     clear hA hB hp hu hdf
     go_simp
     exact ⟨_,rfl,{ h with f9:=(fun _ => rfl) }⟩
    ·intro done v W A h hd hp hu hA hB hdf
     have hd5:done 5 = true:=hp 5 rfl
     refine Or.inl ⟨_,h.f5 hd5,fun _ => ?_,fun hne => absurd rfl hne⟩
     have e0:A.tmps[3]?.getD undef = .slice (some ⟨sb,so,none⟩) ds.length k3:=hB 3 rfl
     clear hA hB hp hu hdf
     go_simp
     exact ⟨_,rfl,{ h with f10:=(fun _ => rfl) }⟩
    ·intro done v W A h hd hp hu hA hB hdf
     have hd5:done 5 = true:=hp 5 rfl
     refine Or.inl ⟨_,h.f5 hd5,fun _ => ?_,fun hne => absurd rfl hne⟩
     have e0:A.tmps[14]?.getD undef = .int .i64 (k:Int):=hB 14 rfl
     clear hA hB hp hu hdf
     go_simp
     exact ⟨_,rfl,{ h with f11:=(fun _ => rfl) }⟩
    ·intro done v W A h hd hp hu hA hB hdf
     have hd5:done 5 = true:=hp 5 rfl
     have hd11:done 11 = true:=hp 11 rfl
     refine Or.inl ⟨_,h.f5 hd5,fun _ => ?_,fun hne => absurd rfl hne⟩
     have e0:=(hA 11 76 rfl hd11).trans (h.f11 hd11)
     clear hA hB hp hu hdf
     go_simp
     exact ⟨_,rfl,{ h with f12:=(fun _ => rfl) }⟩
    ·intro done v W A h hd hp hu hA hB hdf
     have hd5:done 5 = true:=hp 5 rfl
     have hd10:done 10 = true:=hp 10 rfl
     have hd12:done 12 = true:=hp 12 rfl
     refine Or.inl ⟨_,h.f5 hd5,fun _ => ?_,fun hne => absurd rfl hne⟩
     have e0:=(hA 10 75 rfl hd10).trans (h.f10 hd10)
     have e1:=(hA 12 77 rfl hd12).trans (h.f12 hd12)
     clear hA hB hp hu hdf
     go_simp
     exact ⟨_,rfl,{ h with f13:=(fun _ => rfl) }⟩
    ·intro done v W A h hd hp hu hA hB hdf
     have hd5:done 5 = true:=hp 5 rfl
     have hd13:done 13 = true:=hp 13 rfl
     refine Or.inl ⟨_,h.f5 hd5,fun _ => ?_,fun hne => absurd rfl hne⟩
     have e0:=(hA 13 78 rfl hd13).trans (h.f13 hd13)
     have y0_:=below_cell h.b qp_
     clear hA hB hp hu hdf
     go_simp
     exact ⟨_,rfl,{ h with f14:=(fun _ => rfl) }⟩
    ·intro done v W A h hd hp hu hA hB hdf
     have hd5:done 5 = true:=hp 5 rfl
     have hd9:done 9 = true:=hp 9 rfl
     have hd14:done 14 = true:=hp 14 rfl
     refine Or.inl ⟨_,h.f5 hd5,fun _ => ?_,fun hne => absurd rfl hne⟩
     have e0:=(hA 9 74 rfl hd9).trans (h.f9 hd9)
     have e1:=(hA 14 79 rfl hd14).trans (h.f14 hd14)
     clear hA hB hp hu hdf
     go_simp
     exact ⟨_,rfl,{ h with f15:=(fun _ => rfl) }⟩
    ·intro done v W A h hd hp hu hA hB hdf
     have hd2:done 2 = true:=hp 2 rfl
     have hd5:done 5 = true:=hp 5 rfl
     have hd15:done 15 = true:=hp 15 rfl
     refine Or.inl ⟨_,h.f2 hd2,fun _ => ?_,fun hne => absurd rfl hne⟩
     have e0:=(hA 5 70 rfl hd5).trans (h.f5 hd5)
     have e1:=(hA 15 80 rfl hd15).trans (h.f15 hd15)
     clear hA hB hp hu hdf
     go_simp
     exact ⟨_,rfl,{ h with f16:=(fun _ => rfl) }⟩
    ·intro done v W A h hd hp hu hA hB hdf
     have hd2:done 2 = true:=hp 2 rfl
     have hd16:done 16 = true:=hp 16 rfl
     have e0:=(hA 2 67 rfl hd2).trans (h.f2 hd2)
     have e2:=(hA 16 81 rfl hd16).trans (h.f16 hd16)
     clear hA hB hp hu hdf
     go_simp
     exact ⟨_,rfl,{ h with f17:=(fun _ => rfl) }⟩
   simp only [putL,Act.put,Nat.reduceAdd,List.setIfInBounds_toArray,List.set_cons_zero,List.set_cons_succ]
   have hbr:=h.b
   rw [h.f17 rfl]
   clear dk dk2 d9 w1 e3 i4 i5 i6 i7 qp_
   have HV17:=Lib.hid (HB7.out.trans (hbr.mono HB7.out.size))
   have HRW8:=Lib.hid ((hbr.block _ (row_lt HRW7.out)).trans HRW7.out)
   have hxp:=HXO7.out.2.below hbr
   have hrp:r < D.ps.length:=by rw [HFF.out.2.len]; exact HRL.out
   have hpat:=HFF.out.2.at HRL.out
   have hpr:=HFF.out.2.right HPO.out.few HRL.out
   obtain ⟨qb,qo,ea,w0_,w1_,w2_,-⟩:=hxp.at hrp
   subst ea
   replace m2_:=below_cell hbr m2_
   replace qs_:=below_cell hbr qs_
   obtain ⟨W8,rfl⟩:∃ x,x = W:=⟨_,rfl⟩
   have hpe:parAt D (r:Int) = D.ps[r]:=by
    obtain ⟨h8,e8⟩:=parAt_mem (d:=D) (row:=(r:Int)) ⟨by omega,by omega⟩
    rw [e8]; simp
   have hmv:mkV s D (r:Int) = opnV (powE (parAt D (r:Int)).2.1 s) D.dealer (parAt D (r:Int)).1 (parAt D (r:Int)).2.2:=rfl
   have hoe:openE s D.dealer (parAt D (r:Int)).1 (parAt D (r:Int)).2.1 (parAt D (r:Int)).2.2 = 0:=openE_ok.2 ⟨HSB.out,HFF.out.2.dealer,hpr⟩
   have hov:openV s D.dealer (parAt D (r:Int)).1 (parAt D (r:Int)).2.1 (parAt D (r:Int)).2.2 = mkV s D (r:Int):=by rw [openV_yes hoe,hmv]
   have HOP0:=Lib.hid (fun W => ropen_any s D.dealer (parAt D (r:Int)).1 (parAt D (r:Int)).2.1 (parAt D (r:Int)).2.2 W HN.out.1 HXO.out.2.2 (by rw [hpat.1]; exact R64.mk (by omega) (by have:=HPO.out.few; have:=HRL.out; omega)) hpat.2.1.r64)
   rw [hoe,hov,HFF.out.1,hpe] at HOP0
   have hvn:=mkV_num s D (r:Int)
   generalize mkV s D (r:Int) = vv at *
   obtain ⟨pr,hpr9⟩:∃ x,x = D.ps[r].1:=⟨_,rfl⟩
   obtain ⟨pt,hpt9⟩:∃ x,x = D.ps[r].2.1:=⟨_,rfl⟩
   obtain ⟨ci,hci9⟩:∃ x,x = D.ps[r].2.2:=⟨_,rfl⟩
   rw [← hpr9] at w0_
   rw [← hpt9] at w1_
   rw [← hci9] at w2_
   rw [← hpr9,← hpt9,← hci9] at HOP0
   have HOP:=HOP0
   have i2:(0:Int) ≤ (r:Int):=Int.natCast_nonneg r
   have i3:(r:Int) < (D.ps.length:Int):=by omega
   have HVN:=Lib.hid (num_r64 hvn)
   have HSMR:=Lib.hid (num_r64 HON.out)
   clear h hbr hxp hpat hpr hpe hmv hoe hov HOP0 hvn hpr9 hpt9 hci9
   go_wp2_with fail
   refine wp_region_flowsG (by kernel_rfl) (by kernel_rfl) (by kernel_rfl) (by kernel_rfl) (fun done v W => FRo19 W8 (sb) (so) (ds.length) (k3) (k) (B) (qb) (qo) (D.ps.length) (qk) (r) (s) (n) (pr) (pt) (ci) (vv) (0) done v W) (fun v => ?_) ?_ (fun v W h => ?_)
   ·exact ⟨(Below.refl _ _).drew,(fun h => by cases h),(fun h => by cases h),(fun h => by cases h),(fun h => by cases h),(fun h => by cases h),(fun h => by cases h),(fun h => by cases h),(fun h => by cases h),(fun h => by cases h),(fun h => by cases h),(fun h => by cases h),(fun h => by cases h),(fun h => by cases h),(fun h => by cases h),(fun h => by cases h),(fun h => by cases h)⟩
   ·refine ⟨?_,?_,?_,?_,?_,?_,?_,?_,?_,?_,?_,?_,?_,?_,?_,?_,trivial⟩
    ·intro done v W A h hd hp hu hA hB hdf
     have e0:A.tmps[1]?.getD undef = .int .i64 s:=hB 1 rfl
     clear hA hB hp hu hdf
     go_simp
     exact ⟨_,rfl,{ h with f0:=(fun _ => rfl) }⟩
    ·intro done v W A h hd hp hu hA hB hdf
     have e0:A.tmps[3]?.getD undef = .slice (some ⟨sb,so,none⟩) ds.length k3:=hB 3 rfl
     clear hA hB hp hu hdf
     go_simp
     exact ⟨_,rfl,{ h with f1:=(fun _ => rfl) }⟩
    ·intro done v W A h hd hp hu hA hB hdf
     have e0:A.tmps[14]?.getD undef = .int .i64 (k:Int):=hB 14 rfl
     clear hA hB hp hu hdf
     go_simp
     exact ⟨_,rfl,{ h with f2:=(fun _ => rfl) }⟩
    ·intro done v W A h hd hp hu hA hB hdf
     have hd1:done 1 = true:=hp 1 rfl
     have hd2:done 2 = true:=hp 2 rfl
     have e0:=(hA 1 86 rfl hd1).trans (h.f1 hd1)
     have e1:=(hA 2 87 rfl hd2).trans (h.f2 hd2)
     clear hA hB hp hu hdf
     go_simp
     exact ⟨_,rfl,{ h with f3:=(fun _ => rfl) }⟩
    ·intro done v W A h hd hp hu hA hB hdf
     have hd3:done 3 = true:=hp 3 rfl
     have e0:=(hA 3 88 rfl hd3).trans (h.f3 hd3)
     have y0_:=below_cell h.b qs_
     clear hA hB hp hu hdf
     go_simp
     exact ⟨_,rfl,{ h with f4:=(fun _ => rfl) }⟩
    ·intro done v W A h hd hp hu hA hB hdf
     have e0:A.tmps[15]?.getD undef = .pointer (some ⟨B,0,none⟩):=hB 15 rfl
     clear hA hB hp hu hdf
     go_simp
     exact ⟨_,rfl,{ h with f5:=(fun _ => rfl) }⟩
    ·intro done v W A h hd hp hu hA hB hdf
     have hd5:done 5 = true:=hp 5 rfl
     have e0:=(hA 5 90 rfl hd5).trans (h.f5 hd5)
     have y0_:=below_cell h.b m2_
     clear hA hB hp hu hdf
     go_simp
     exact ⟨_,rfl,{ h with f6:=(fun _ => rfl) }⟩
    ·intro done v W A h hd hp hu hA hB hdf
     have e0:A.tmps[2]?.getD undef = .int .i64 (r:Int):=hB 2 rfl
     clear hA hB hp hu hdf
     go_simp
     exact ⟨_,rfl,{ h with f7:=(fun _ => rfl) }⟩
    ·intro done v W A h hd hp hu hA hB hdf
     have hd6:done 6 = true:=hp 6 rfl
     have hd7:done 7 = true:=hp 7 rfl
     have e0:=(hA 6 91 rfl hd6).trans (h.f6 hd6)
     have e1:=(hA 7 92 rfl hd7).trans (h.f7 hd7)
     clear hA hB hp hu hdf
     go_simp
     exact ⟨_,rfl,{ h with f8:=(fun _ => rfl) }⟩
    ·intro done v W A h hd hp hu hA hB hdf
     have hd8:done 8 = true:=hp 8 rfl
     have e0:=(hA 8 93 rfl hd8).trans (h.f8 hd8)
     have y0_:=below_cell h.b w0_
     have y1_:=below_cell h.b w1_
     have y2_:=below_cell h.b w2_
     clear hA hB hp hu hdf
     go_simp
     exact ⟨_,rfl,{ h with f9:=(fun _ => rfl) }⟩
    ·intro done v W A h hd hp hu hA hB hdf
     have hd0:done 0 = true:=hp 0 rfl
     have hd4:done 4 = true:=hp 4 rfl
     have hd9:done 9 = true:=hp 9 rfl
     have e0:=(hA 0 85 rfl hd0).trans (h.f0 hd0)
     have e1:=(hA 4 89 rfl hd4).trans (h.f4 hd4)
     have e2:=(hA 9 94 rfl hd9).trans (h.f9 hd9)
     clear hA hB hp hu hdf
     go_simp
     with_reducible refine (HOP.out W).mono ?_
     rintro e wq ⟨rfl,hb⟩
     exact ⟨_,rfl,{ h with b:=h.b.trans (hb.mono h.b.size),f10:=(fun _ => rfl) }⟩
    ·intro done v W A h hd hp hu hA hB hdf
     have hd10:done 10 = true:=hp 10 rfl
     have e0:=(hA 10 95 rfl hd10).trans (h.f10 hd10)
     clear hA hB hp hu hdf
     go_simp
     exact ⟨_,rfl,{ h with f11:=(fun _ => rfl) }⟩
    ·intro done v W A h hd hp hu hA hB hdf
     have hd11:done 11 = true:=hp 11 rfl
     have e0:=(hA 11 84 rfl hd11).trans (h.f11 hd11)
     clear hA hB hp hu hdf
     go_simp
     exact ⟨_,rfl,{ h with f12:=(fun _ => rfl) }⟩
    ·intro done v W A h hd hp hu hA hB hdf
     have hd11:done 11 = true:=hp 11 rfl
     have e0:=(hA 11 84 rfl hd11).trans (h.f11 hd11)
     clear hA hB hp hu hdf
     go_simp
     exact ⟨_,rfl,{ h with f13:=(fun _ => rfl) }⟩
    ·intro done v W A h hd hp hu hA hB hdf
     have hd12:done 12 = true:=hp 12 rfl
     have e0:=(hA 12 96 rfl hd12).trans (h.f12 hd12)
     clear hA hB hp hu hdf
     go_simp
     exact ⟨_,rfl,{ h with f14:=(fun _ => rfl) }⟩
    ·intro done v W A h hd hp hu hA hB hdf
     have hd13:done 13 = true:=hp 13 rfl
     have e0:=(hA 13 97 rfl hd13).trans (h.f13 hd13)
     clear hA hB hp hu hdf
     go_simp
     exact ⟨_,rfl,{ h with f15:=(fun _ => rfl) }⟩
   simp only [putL,Act.put,Nat.reduceAdd,List.setIfInBounds_toArray,List.set_cons_zero,List.set_cons_succ]
   rw [h.f14 rfl]
   rw [h.f15 rfl]
   have hbr:=h.b
   have HV19:=Lib.hid (HV17.out.trans (hbr.mono HV17.out.size))
   have HRW9:=Lib.hid ((hbr.block _ (row_lt HRW8.out)).trans HRW8.out)
   clear h hbr HOP
   obtain ⟨W10,rfl⟩:∃ x,x = W:=⟨_,rfl⟩
   have s0:=row_cell HRW9.out (k:=1) (v:=.int .i64 sm) rfl
   have s1:=row_free HRW9.out 1
   have HAD:=Lib.hid (fun W => radd_any sm vv W HSMR.out HVN.out)
   rw [← HSK.out] at HAD
   go_wp2_with fail
   with_reducible refine (HAD.out _).mono ?_
   rintro e w11 ⟨rfl,rfl⟩
   go_wp2_with fail
   go_roundw
   case rel => exact ⟨k + 1,HLT.out,by go_num,HNX,row_set HRW9.out 1 _,HV19.out.setCell (Nat.le_refl _) _⟩
   case measure =>
    have h9:=HLT.out
    simp [intOf]; omega
  ·obtain rfl:k = ds.length:=by omega
   have hall:=allDls_all (fun j hj => HTK.out j hj)
   have HV:Hid (ME = 0):=Lib.hid (HE.out.trans (if_neg (by rw [hall]; decide)))
   have QS9:=Lib.hid ((hb.block _ (row_lt QS.out)).trans QS.out)
   have t0:=row_cell QS9.out (k:=0) (v:=.int .i64 0) rfl
   have t1:=row_cell QS9.out (k:=1) (v:=.int .i64 0) rfl
   have f0:=row_free QS9.out 0
   have f1:=row_free QS9.out 1
   obtain ⟨vz,hvz⟩:∃ x,x = owS rows s (r:Int) ds l ds.length:=⟨_,rfl⟩
   rw [← hvz] at hrw HVR
   have g0:=row_cell hrw (k:=0) (v:=.int .i64 (r:Int)) rfl
   have g1:=row_cell hrw (k:=1) (v:=.int .i64 vz) rfl
   obtain ⟨W9,hW9⟩:∃ W9,W9 = sputW wr (w.heap.size + 1) (.int .i64 (r:Int)) (.int .i64 vz):=⟨_,rfl⟩
   have hq9:W9.heap[w.heap.size + 1]? = some (.cells #[.int .i64 (r:Int),.int .i64 vz] 68 (0,0)):=by rw [hW9]; exact sputW_row _ _ _ QS9.out
   have HB9:Hid (Below w.heap.size w W9):=Lib.hid (by rw [hW9]; exact sput_below _ _ (HB.out.trans (hb.mono HB.out.size)) (Nat.le_succ _))
   have z0:=row_cell hq9 (k:=0) (v:=.int .i64 (r:Int)) rfl
   have z1:=row_cell hq9 (k:=1) (v:=.int .i64 vz) rfl
   unfold sputW at hW9
   have HW9:=Lib.hid hW9
   clear hW9 hq9 hall HE hvz hrw hb
   go_wp2_with (rw [← HW9.out])
   refine bodyPost_ret (v:=.tuple #[.agg #[.int .i64 (r:Int),.int .i64 vz],.int .i64 0]) (by simp [results,Tryz.results34,go_sem,z0,z1]) rfl ⟨by rw [HVR.out.1,HVR.out.2,HV.out,if_pos rfl,if_pos rfl],HB9.out⟩
end Go.Proofs.YtggnipkfliompaaGreatDoor
