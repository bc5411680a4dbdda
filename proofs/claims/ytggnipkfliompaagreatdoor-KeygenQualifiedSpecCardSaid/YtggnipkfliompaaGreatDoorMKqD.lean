/- The reference of keygen: Qualified. -/
import Derived.Test.YtggnipkfliompaaGreatDoorMKhE
import Derived.Test.YtggnipkfliompaaGreatDoorMRdB
import Derived.Test.YtggnipkfliompaaGreatDoorMLinU
import Derived.Test.YtggnipkfliompaaGreatDoorMRegF
set_option maxHeartbeats 8000000
set_option maxRecDepth 100000
namespace Go.Proofs.YtggnipkfliompaaGreatDoor
open Go.RowKit FP
theorem box_pk (w:World) (rv ov:Value):∃ W,W = (w.alloc (.cells #[rv,ov] 25)).alloc (.cells #[.int .i64 0,.slice none 0 0,.slice none 0 0,.slice none 0 0] 64) ∧ Below w.heap.size w W ∧ W.heap[w.heap.size]? = some (.cells #[rv,ov] 25 (0,0)) ∧ W.heap[w.heap.size + 1]? = some (.cells #[.int .i64 0,.slice none 0 0,.slice none 0 0,.slice none 0 0] 64 (0,0)):=by
 obtain ⟨W1,hW1,hb1,hr1,-⟩:=box_prog w rv ov 25
 have hs1:W1.heap.size = w.heap.size + 1:=by rw [hW1]; simp
 have hb2:=below_new W1 #[.int .i64 0,.slice none 0 0,.slice none 0 0,.slice none 0 0] 64
 refine ⟨_,by rw [hW1],hb1.trans (hb2.mono hb1.size),(hb2.block _ (row_lt hr1)).trans hr1,?_⟩
 rw [← hs1]; exact World.alloc_heap_new _ _
theorem qual_yes {rows:List (List Int)} {owners keys:List Int} {cl:List Cmp} {l:List Dlg} {k:Nat} (h:k < l.length) (hp:passB rows owners keys cl l[k] = true):qualL rows owners keys cl (l.take (k + 1)) = qualL rows owners keys cl (l.take k) ++ [l[k]]:=by
 unfold qualL
 rw [List.take_succ_eq_append_getElem h,List.filter_append,List.filter_cons_of_pos hp]; rfl
theorem qual_no {rows:List (List Int)} {owners keys:List Int} {cl:List Cmp} {l:List Dlg} {k:Nat} (h:k < l.length) (hp:passB rows owners keys cl l[k] = false):qualL rows owners keys cl (l.take (k + 1)) = qualL rows owners keys cl (l.take k):=by
 unfold qualL
 rw [List.take_succ_eq_append_getElem h,List.filter_append,List.filter_cons_of_neg (by simp [hp])]; simp
structure FRq19 (w0:World) (pb:Nat) (lb:Nat) (lo:Nat) (nl:Nat) (ln:Nat) (k:Nat) (rv:Value) (ov:Value) (kv:Value) (clv:Value) (cv:Value) (pv:Value) (dl:Int) (bb:Bool) (done:Nat → Bool) (v:Nat → Value) (w:World):Prop where
 b:Below w0.heap.size w0 w
 f0:done 0 = true → v 0 = .agg #[rv,ov]
 f1:done 1 = true → v 1 = kv
 f2:done 2 = true → v 2 = .slice (some ⟨lb,lo,none⟩) nl ln
 f3:done 3 = true → v 3 = .int .i64 (k:Int)
 f4:done 4 = true → v 4 = .pointer (some ⟨lb,lo + k * 3,none⟩)
 f5:done 5 = true → v 5 = .agg #[.int .i64 dl,cv,pv]
 f6:done 6 = true → v 6 = clv
 f7:done 7 = true → v 7 = .bool bb
 f8:done 8 = true → v 8 = .bool (!bb)
structure FRq24 (w0:World) (kb:Nat) (g:Nat) (n:Nat) (cap:Nat) (j:Nat) (lb:Nat) (lo:Nat) (nl:Nat) (ln:Nat) (k:Nat) (sb:Nat) (so:Nat) (sn:Nat) (sc:Nat) (a:Int) (z:Int) (m:Int) (done:Nat → Bool) (v:Nat → Value) (w:World):Prop where
 b:Below g w0 w
 f0:done 0 = true → v 0 = .pointer (some ⟨kb,3,none⟩)
 f1:done 1 = true → v 1 = .slice (some ⟨g,0,none⟩) n cap
 f2:done 2 = true → v 2 = .int .i64 (j:Int)
 f3:done 3 = true → v 3 = .pointer (some ⟨kb,3,none⟩)
 f4:done 4 = true → v 4 = .slice (some ⟨g,0,none⟩) n cap
 f5:done 5 = true → v 5 = .int .i64 (j:Int)
 f6:done 6 = true → v 6 = .pointer (some ⟨g,j,none⟩)
 f7:done 7 = true → v 7 = .int .i64 a
 f8:done 8 = true → v 8 = .slice (some ⟨lb,lo,none⟩) nl ln
 f9:done 9 = true → v 9 = .int .i64 (k:Int)
 f10:done 10 = true → v 10 = .pointer (some ⟨lb,lo + k * 3,none⟩)
 f11:done 11 = true → v 11 = .pointer (some ⟨lb,lo + k * 3 + 1,none⟩)
 f12:done 12 = true → v 12 = .slice (some ⟨sb,so,none⟩) sn sc
 f13:done 13 = true → v 13 = .int .i64 (j:Int)
 f14:done 14 = true → v 14 = .pointer (some ⟨sb,so + j,none⟩)
 f15:done 15 = true → v 15 = .int .i64 z
 f16:done 16 = true → v 16 = .tuple #[.int .i64 m,.int .i64 0]
 f17:done 17 = true → v 17 = .tuple #[.int .i64 m,.int .i64 0]
 f18:done 18 = true → v 18 = .int .i64 m
 f19:done 19 = true → v 19 = .int .i64 0
 f20:done 20 = true → v 20 = .pointer (some ⟨g,j,none⟩)
 zc:done 21 = false → (w.cell? ⟨kb,3,none⟩ = some (.slice (some ⟨g,0,none⟩) n cap) ∧ w.cell? ⟨g,j,none⟩ = some (.int .i64 a) ∧ w.cell? ⟨lb,lo + k * 3 + 1,none⟩ = some (.slice (some ⟨sb,so,none⟩) sn sc) ∧ w.cell? ⟨sb,so + j,none⟩ = some (.int .i64 z))
 fr:done 21 = false → w.frozen? ⟨g,j,none⟩ = false
 st:OneSet w0 g j (.int .i64 m) (done 21) w
theorem rQualified37_any (rv ov kv dv clv:Value) (rows:List (List Int)) (owners keys:List Int) (l:List Dlg) (vs:DVals) (cl:List Cmp) (w:World) (hR:Rows2 w rv rows) (hO:Ints w ov owners) (hK:Ints w kv keys) (hD:Dlgs w dv l vs) (hC:Cmps w clv cl) :
  Calls Tryz.prog 32 #[.agg #[rv,ov],kv,dv,clv] w (QuPost rv ov (quE rows owners keys l cl) (qualL rows owners keys cl l) w):=by
 obtain ⟨W1,hW1,hb1,hr1,hr2⟩:=box_pk w rv ov
 have HR:=Lib.hid (hR.below hb1)
 have HO:=Lib.hid (hO.below hb1)
 have HK:=Lib.hid (hK.below hb1)
 have HD:=Lib.hid (hD.below hb1)
 have HC:=Lib.hid (hC.below hb1)
 have HB:=Lib.hid hb1
 obtain ⟨a1,k1,rfl,-,hl1,-⟩:=id hR
 obtain ⟨a2,k2,rfl,-,hl2,-⟩:=id hO
 obtain ⟨a3,k3,rfl,-,hl3,-⟩:=id hK
 obtain ⟨a4,k4,rfl,-,hl4,-⟩:=id hD
 obtain ⟨a5,k5,rfl,-,hl5,-⟩:=id hC
 have c0_:=row_cell hr1 (k:=0) (v:=.slice a1 rows.length k1) rfl
 have c1_:=row_cell hr1 (k:=1) (v:=.slice a2 owners.length k2) rfl
 have QS:=Lib.hid hr2
 have HW1:=Lib.hid hW1
 obtain ⟨ME,hME⟩:∃ z,z = quE rows owners keys l cl:=⟨_,rfl⟩
 obtain ⟨MQ,hMQ⟩:∃ z,z = qualL rows owners keys cl l:=⟨_,rfl⟩
 rw [← hME,← hMQ]
 have HE:Hid (ME = quE rows owners keys l cl):=Lib.hid hME
 have HMQ:=Lib.hid hMQ
 clear hR hO hK hD hC hb1 hr1 hr2 hW1 hME hMQ
 unfold quE at HE
 go_enter Tryz.func32,Tryz.ntmps32
 go_wp2_with (rw [← HW1.out])
 clear HW1
 with_reducible refine (rpCheck_any _ _ rows owners _ HR.out HO.out).mono ?_
 rintro e w2 ⟨rfl,hb2⟩
 replace c0_:=below_cell hb2 c0_
 replace c1_:=below_cell hb2 c1_
 replace HR:=Lib.hid (HR.out.below hb2)
 replace HO:=Lib.hid (HO.out.below hb2)
 replace HK:=Lib.hid (HK.out.below hb2)
 replace HD:=Lib.hid (HD.out.below hb2)
 replace HC:=Lib.hid (HC.out.below hb2)
 replace QS:=Lib.hid ((hb2.block _ (row_lt QS.out)).trans QS.out)
 replace HB:=Lib.hid (HB.out.trans (hb2.mono HB.out.size))
 clear hb2
 by_cases hp:progE rows owners = 0
 rotate_left
 ·have HV:=Lib.hid (HE.out.trans (if_pos hp))
  have HNZ:=Lib.hid hp
  have d0:(progE rows owners != 0) = true:=bne_iff_ne.2 hp
  clear hp HE
  generalize progE rows owners = q at *
  have t0:=row_cell QS.out (k:=0) (v:=.int .i64 0) rfl
  have f0:=row_free QS.out 0
  have t1:=row_cell QS.out (k:=1) (v:=.slice none 0 0) rfl
  have f1:=row_free QS.out 1
  have t2:=row_cell QS.out (k:=2) (v:=.slice none 0 0) rfl
  have f2:=row_free QS.out 2
  have t3:=row_cell QS.out (k:=3) (v:=.slice none 0 0) rfl
  have f3:=row_free QS.out 3
  obtain ⟨W9,hW9,hq9,-,hbe⟩:=put4 w2 (w.heap.size + 1) (.int .i64 0) (.slice none 0 0) (.slice none 0 0) (.slice none 0 0) _ QS.out
  have HB9:=Lib.hid (hbe HB.out (Nat.le_succ _))
  have z0:=row_cell hq9 (k:=0) (v:=.int .i64 0) rfl
  have z1:=row_cell hq9 (k:=1) (v:=.slice none 0 0) rfl
  have z2:=row_cell hq9 (k:=2) (v:=.slice none 0 0) rfl
  have z3:=row_cell hq9 (k:=3) (v:=.slice none 0 0) rfl
  have HW9:=Lib.hid hW9
  clear hW9 hq9 hbe
  go_wp2_with (rw [← HW9.out])
  refine bodyPost_ret (v:=.tuple #[.slice none 0 0,.agg #[.int .i64 0,.slice none 0 0,.slice none 0 0,.slice none 0 0],.int .i64 q]) (by simp [results,Tryz.results32,go_sem,z0,z1,z2,z3]) rfl ?_
  rw [HV.out]
  exact quOff _ _ _ HNZ.out HB9.out
 replace HE:=Lib.hid (HE.out.trans (if_neg (by simp [hp])))
 have HPO:=Lib.hid (progE_ok hp)
 have HP0:=Lib.hid hp
 rw [hp]
 clear hp
 go_wp2_with fail
 with_reducible refine (rKeys_any _ _ _ owners keys _ ⟨_,_,_,rfl⟩ HO.out HK.out (fun o h => (HPO.out.own o h).1)).mono ?_
 rintro e w3 ⟨rfl,hb3⟩
 replace c0_:=below_cell hb3 c0_
 replace c1_:=below_cell hb3 c1_
 replace HR:=Lib.hid (HR.out.below hb3)
 replace HO:=Lib.hid (HO.out.below hb3)
 replace HK:=Lib.hid (HK.out.below hb3)
 replace HD:=Lib.hid (HD.out.below hb3)
 replace HC:=Lib.hid (HC.out.below hb3)
 replace QS:=Lib.hid ((hb3.block _ (row_lt QS.out)).trans QS.out)
 replace HB:=Lib.hid (HB.out.trans (hb3.mono HB.out.size))
 clear hb3
 cases hkb:keysB owners keys with
 | false =>
  have HV:=Lib.hid (HE.out.trans (if_pos hkb))
  clear hkb HE
  have t0:=row_cell QS.out (k:=0) (v:=.int .i64 0) rfl
  have f0:=row_free QS.out 0
  have t1:=row_cell QS.out (k:=1) (v:=.slice none 0 0) rfl
  have f1:=row_free QS.out 1
  have t2:=row_cell QS.out (k:=2) (v:=.slice none 0 0) rfl
  have f2:=row_free QS.out 2
  have t3:=row_cell QS.out (k:=3) (v:=.slice none 0 0) rfl
  have f3:=row_free QS.out 3
  obtain ⟨W9,hW9,hq9,-,hbe⟩:=put4 w3 (w.heap.size + 1) (.int .i64 0) (.slice none 0 0) (.slice none 0 0) (.slice none 0 0) _ QS.out
  have HB9:=Lib.hid (hbe HB.out (Nat.le_succ _))
  have z0:=row_cell hq9 (k:=0) (v:=.int .i64 0) rfl
  have z1:=row_cell hq9 (k:=1) (v:=.slice none 0 0) rfl
  have z2:=row_cell hq9 (k:=2) (v:=.slice none 0 0) rfl
  have z3:=row_cell hq9 (k:=3) (v:=.slice none 0 0) rfl
  have HW9:=Lib.hid hW9
  clear hW9 hq9 hbe
  go_wp2_with (rw [← HW9.out])
  refine bodyPost_ret (v:=.tuple #[.slice none 0 0,.agg #[.int .i64 0,.slice none 0 0,.slice none 0 0,.slice none 0 0],.int .i64 370]) (by simp [results,Tryz.results32,go_sem,z0,z1,z2,z3]) rfl ?_
  rw [HV.out]
  exact quOff _ _ _ (by decide) HB9.out
 | true =>
 replace HE:=Lib.hid (HE.out.trans (if_neg (by rw [hkb]; decide)))
 have HKO:=Lib.hid (keysB_iff.1 hkb)
 clear hkb
 by_cases hn1:l.length ≤ 64
 rotate_left
 ·have HV:=Lib.hid (HE.out.trans (if_pos (.inl (by omega))))
  have x1:decide ((64:Int) < (l.length:Int)) = true:=decide_eq_true (by omega)
  have x2:decide (64 < l.length) = true:=decide_eq_true (by omega)
  clear HE
  have t0:=row_cell QS.out (k:=0) (v:=.int .i64 0) rfl
  have f0:=row_free QS.out 0
  have t1:=row_cell QS.out (k:=1) (v:=.slice none 0 0) rfl
  have f1:=row_free QS.out 1
  have t2:=row_cell QS.out (k:=2) (v:=.slice none 0 0) rfl
  have f2:=row_free QS.out 2
  have t3:=row_cell QS.out (k:=3) (v:=.slice none 0 0) rfl
  have f3:=row_free QS.out 3
  obtain ⟨W9,hW9,hq9,-,hbe⟩:=put4 w3 (w.heap.size + 1) (.int .i64 0) (.slice none 0 0) (.slice none 0 0) (.slice none 0 0) _ QS.out
  have HB9:=Lib.hid (hbe HB.out (Nat.le_succ _))
  have z0:=row_cell hq9 (k:=0) (v:=.int .i64 0) rfl
  have z1:=row_cell hq9 (k:=1) (v:=.slice none 0 0) rfl
  have z2:=row_cell hq9 (k:=2) (v:=.slice none 0 0) rfl
  have z3:=row_cell hq9 (k:=3) (v:=.slice none 0 0) rfl
  have HW9:=Lib.hid hW9
  clear hW9 hq9 hbe
  go_wp2_with (rw [← HW9.out])
  refine bodyPost_ret (v:=.tuple #[.slice none 0 0,.agg #[.int .i64 0,.slice none 0 0,.slice none 0 0,.slice none 0 0],.int .i64 2]) (by simp [results,Tryz.results32,go_sem,z0,z1,z2,z3]) rfl ?_
  rw [HV.out]
  exact quOff _ _ _ (by decide) HB9.out
 have x1:decide ((64:Int) < (l.length:Int)) = false:=decide_eq_false (by omega)
 have x2:decide (64 < l.length) = false:=decide_eq_false (by omega)
 by_cases hn2:cl.length ≤ 4096
 rotate_left
 ·have HV:=Lib.hid (HE.out.trans (if_pos (.inr (by omega))))
  have x3:decide ((4096:Int) < (cl.length:Int)) = true:=decide_eq_true (by omega)
  have x4:decide (4096 < cl.length) = true:=decide_eq_true (by omega)
  clear HE
  have t0:=row_cell QS.out (k:=0) (v:=.int .i64 0) rfl
  have f0:=row_free QS.out 0
  have t1:=row_cell QS.out (k:=1) (v:=.slice none 0 0) rfl
  have f1:=row_free QS.out 1
  have t2:=row_cell QS.out (k:=2) (v:=.slice none 0 0) rfl
  have f2:=row_free QS.out 2
  have t3:=row_cell QS.out (k:=3) (v:=.slice none 0 0) rfl
  have f3:=row_free QS.out 3
  obtain ⟨W9,hW9,hq9,-,hbe⟩:=put4 w3 (w.heap.size + 1) (.int .i64 0) (.slice none 0 0) (.slice none 0 0) (.slice none 0 0) _ QS.out
  have HB9:=Lib.hid (hbe HB.out (Nat.le_succ _))
  have z0:=row_cell hq9 (k:=0) (v:=.int .i64 0) rfl
  have z1:=row_cell hq9 (k:=1) (v:=.slice none 0 0) rfl
  have z2:=row_cell hq9 (k:=2) (v:=.slice none 0 0) rfl
  have z3:=row_cell hq9 (k:=3) (v:=.slice none 0 0) rfl
  have HW9:=Lib.hid hW9
  clear hW9 hq9 hbe
  go_wp2_with (rw [← HW9.out])
  refine bodyPost_ret (v:=.tuple #[.slice none 0 0,.agg #[.int .i64 0,.slice none 0 0,.slice none 0 0,.slice none 0 0],.int .i64 2]) (by simp [results,Tryz.results32,go_sem,z0,z1,z2,z3]) rfl ?_
  rw [HV.out]
  exact quOff _ _ _ (by decide) HB9.out
 have x3:decide ((4096:Int) < (cl.length:Int)) = false:=decide_eq_false (by omega)
 have x4:decide (4096 < cl.length) = false:=decide_eq_false (by omega)
 replace HE:=Lib.hid (HE.out.trans (if_neg (by omega)))
 go_wp2_with fail
 clear x1 x2 x3 x4
 with_reducible refine (rDealers37_any _ l vs _ HD.out).mono ?_
 rintro e w5 ⟨rfl,hb5⟩
 replace c0_:=below_cell hb5 c0_
 replace c1_:=below_cell hb5 c1_
 replace HR:=Lib.hid (HR.out.below hb5)
 replace HO:=Lib.hid (HO.out.below hb5)
 replace HK:=Lib.hid (HK.out.below hb5)
 replace HD:=Lib.hid (HD.out.below hb5)
 replace HC:=Lib.hid (HC.out.below hb5)
 replace QS:=Lib.hid ((hb5.block _ (row_lt QS.out)).trans QS.out)
 replace HB:=Lib.hid (HB.out.trans (hb5.mono HB.out.size))
 clear hb5
 cases hob:ordB l with
 | false =>
  have HV:=Lib.hid (HE.out.trans (if_pos hob))
  clear hob HE
  have t0:=row_cell QS.out (k:=0) (v:=.int .i64 0) rfl
  have f0:=row_free QS.out 0
  have t1:=row_cell QS.out (k:=1) (v:=.slice none 0 0) rfl
  have f1:=row_free QS.out 1
  have t2:=row_cell QS.out (k:=2) (v:=.slice none 0 0) rfl
  have f2:=row_free QS.out 2
  have t3:=row_cell QS.out (k:=3) (v:=.slice none 0 0) rfl
  have f3:=row_free QS.out 3
  obtain ⟨W9,hW9,hq9,-,hbe⟩:=put4 w5 (w.heap.size + 1) (.int .i64 0) (.slice none 0 0) (.slice none 0 0) (.slice none 0 0) _ QS.out
  have HB9:=Lib.hid (hbe HB.out (Nat.le_succ _))
  have z0:=row_cell hq9 (k:=0) (v:=.int .i64 0) rfl
  have z1:=row_cell hq9 (k:=1) (v:=.slice none 0 0) rfl
  have z2:=row_cell hq9 (k:=2) (v:=.slice none 0 0) rfl
  have z3:=row_cell hq9 (k:=3) (v:=.slice none 0 0) rfl
  have HW9:=Lib.hid hW9
  clear hW9 hq9 hbe
  go_wp2_with (rw [← HW9.out])
  refine bodyPost_ret (v:=.tuple #[.slice none 0 0,.agg #[.int .i64 0,.slice none 0 0,.slice none 0 0,.slice none 0 0],.int .i64 370]) (by simp [results,Tryz.results32,go_sem,z0,z1,z2,z3]) rfl ?_
  rw [HV.out]
  exact quOff _ _ _ (by decide) HB9.out
 | true =>
 replace HE:=Lib.hid (HE.out.trans (if_neg (by rw [hob]; decide)))
 clear hob
 obtain ⟨W6,hW6⟩:∃ W,W = w5.alloc (.cells #[] 3):=⟨_,rfl⟩
 have hb6:Below w5.heap.size w5 W6:=by rw [hW6]; exact below_new _ _ _
 have hs6:W6.heap.size = w5.heap.size + 1:=by rw [hW6]; simp
 have ho6:W6.ownsRow w5.heap.size 3 1 (.slice (some ⟨w5.heap.size,0,none⟩) 0 0) 0 []:=by rw [hW6]; exact World.ownsRow_made _ #[] 0 (Nat.le_refl _) (by unfold maxLen; omega) rfl
 obtain ⟨W7,hW7,hb7,hr7⟩:=newK W6 (.int .i64 0) (.slice a1 rows.length k1) (.slice a2 owners.length k2) (.slice none 0 0)
 rw [hs6] at hr7
 have HQ0:Hid (RqV w5 (.slice a1 rows.length k1) (.slice a2 owners.length k2) (.slice (some ⟨w5.heap.size,0,none⟩) 0 0) (.slice none 0 0) [] [] W7):=Lib.hid ⟨hb6.trans (hb7.mono hb6.size),hr7,World.ownsRow_nil _ _ _ _,own_keep ho6 hb7,fun e9 => absurd (Option.some.inj e9) (by show w5.heap.size ≠ w5.heap.size + 1; omega),fun g _ e9 => by cases e9⟩
 have d0_:=below_cell hb6 c0_
 have d1_:=below_cell hb6 c1_
 have HW6:=Lib.hid hW6
 have HS6:=Lib.hid hs6
 have HW7:=Lib.hid hW7
 clear hW6 hb6 hs6 ho6 hW7 hb7 hr7
 go_wp2_with (first | rw [← HW6.out] | rw [← HW7.out,HS6.out])
 clear d0_ d1_ HW6 HS6 HW7
 go_loopw [14] (fun i Y => ∃ (j:Nat) (V:Value),j ≤ colsQ rows ∧ i = .int .i64 j ∧ RqV w5 (.slice a1 rows.length k1) (.slice a2 owners.length k2) (.slice (some ⟨w5.heap.size,0,none⟩) 0 0) V [] (onesL j) Y) (fun i _ => colsQ rows - (intOf i).toNat)
 case atStart => exact ⟨0,_,Nat.zero_le _,rfl,HQ0.out⟩
 case round =>
  clear HQ0
  obtain ⟨j,V,hjl,rfl,hQ⟩:=hrel
  have HR2:=Lib.hid (HR.out.below hQ.be)
  have HO2:=Lib.hid (HO.out.below hQ.be)
  have e0_:=below_cell hQ.be c0_
  have e1_:=below_cell hQ.be c1_
  have HQQ:=Lib.hid hQ
  have hcu:=HPO.out.cols_le
  clear hQ
  go_wp2_with fail
  with_reducible refine (rcolumns_any _ _ rows owners _ HR2.out HO2.out).mono ?_
  rintro e w7 ⟨rfl,hb7⟩
  have hQ:=HQQ.out.below hb7
  clear HQQ HR2 HO2 e0_ e1_ hb7
  by_cases hjt:j < colsQ rows
  ·have d1:decide ((j:Int) < ((colsQ rows:Nat):Int)) = true:=decide_eq_true (by omega)
   have d2:decide (j < colsQ rows) = true:=decide_eq_true hjt
   obtain ⟨W10,hW10⟩:∃ W,W = w7.alloc (.cells #[.int .i64 1] 3):=⟨_,rfl⟩
   have hb10:Below w7.heap.size w7 W10:=by rw [hW10]; exact below_new _ _ _
   have HC10:Hid (W10.cell? ⟨w7.heap.size,0,none⟩ = some (.int .i64 1)):=Lib.hid (by rw [hW10]; exact row_cell (World.alloc_heap_new _ _) rfl)
   have hv3:=row_cell hQ.rk (k:=3) (v:=V) rfl
   have hQ10:=hQ.below hb10
   obtain ⟨va,vn,vc,rfl⟩:=own_sl hQ.oV
   have HQ10:=Lib.hid hQ10
   have HO10:=Lib.hid hQ10.oV
   rw [onesL_len] at HO10
   have HS10:Hid (w5.heap.size + 2 ≤ W10.heap.size):=Lib.hid hQ10.big
   have HJT:=Lib.hid hjt
   have HJ6:Hid (j ≤ 1000000):=Lib.hid (by omega)
   have HW10:=Lib.hid hW10
   clear hW10 hb10 hQ10 hQ
   go_wp2_with (first | rw [← HW10.out] | (at_builtin; refine app_int_lies rfl _ _ rfl (w5.heap.size + 2) j _ _ rfl HO10.out w7.heap.size 1 1 rfl HC10.out HJ6.out HS10.out ?_; intro g9 c9 w9 h9 o9 l9; obtain ⟨hq9,u3,g3⟩:=HQ10.out.step (onesL_len _) h9 o9 l9; have HQ9:=Lib.hid hq9; clear h9 o9 l9 hq9))
   go_roundw
   case rel => exact ⟨j + 1,_,HJT.out,by go_num,by rw [onesL_snoc]; exact HQ9.out⟩
   case measure =>
    have h9:=HJT.out
    simp [intOf]; omega
  ·obtain rfl:j = colsQ rows:=by omega
   have d1:decide (((colsQ rows:Nat):Int) < ((colsQ rows:Nat):Int)) = false:=decide_eq_false (by omega)
   have d2:decide (colsQ rows < colsQ rows) = false:=decide_eq_false (by omega)
   obtain ⟨wq,rfl⟩:∃ x,x = w7:=⟨_,rfl⟩
   have HQ1:Hid (RqV w5 (.slice a1 rows.length k1) (.slice a2 owners.length k2) (.slice (some ⟨w5.heap.size,0,none⟩) 0 0) V (dlrL (qualL rows owners keys cl (l.take 0))) (cfold rows (qualL rows owners keys cl (l.take 0))) wq):=Lib.hid hQ
   clear hQ
   go_wp2_with fail
   have hm0:∀ g,(Value.slice (some ⟨w5.heap.size,0,none⟩) 0 0).ownBlock = some g → True:=fun _ _ => trivial
   clear hm0
   go_loopw [12,15] (fun x i Y => ∃ (k:Nat) (V:Value),k ≤ l.length ∧ i = .int .i64 k ∧ RqV w5 (.slice a1 rows.length k1) (.slice a2 owners.length k2) x V (dlrL (qualL rows owners keys cl (l.take k))) (cfold rows (qualL rows owners keys cl (l.take k))) Y) (fun _ i _ => l.length - (intOf i).toNat)
   case atStart => exact ⟨0,_,Nat.zero_le _,rfl,HQ1.out⟩
   case round =>
    clear HQ1 d1 d2
    obtain ⟨k,V,hkl,rfl,hQ⟩:=hrel
    have hqf:∀ d ∈ qualL rows owners keys cl (l.take k),FineD rows d:=fun d hd => (qual_mem hd).2.1
    have hql:(qualL rows owners keys cl (l.take k)).length ≤ 64:=by
     have h8:(qualL rows owners keys cl (l.take k)).length ≤ (l.take k).length:=List.length_filter_le ..
     rw [List.length_take] at h8
     omega
    obtain ⟨hce,hcl⟩:=cfold_el _ _ rfl hqf
    by_cases hlt:k < l.length
    ·have hyes:=qual_yes (owners:=owners) (keys:=keys) (cl:=cl) (rows:=rows) hlt
     have hno:=qual_no (owners:=owners) (keys:=keys) (cl:=cl) (rows:=rows) hlt
     have hfp:=fun (h:passB rows owners keys cl l[k] = true) => fineB_iff.1 (show fineB rows l[k] = true by unfold passB at h; rw [Bool.and_eq_true] at h; exact h.1)
     generalize qualL rows owners keys cl (l.take k) = q at *
     obtain ⟨_,_,-,hat5⟩:=HD.out.at hlt
     obtain ⟨b,off,ea,hat⟩:=(HD.out.below hQ.be).at hlt
     have hdb:Hid (∀ Y,Below w5.heap.size w5 Y → DlgAt Y b (off + k * 3) l[k] (vs k).1 (vs k).2):=Lib.hid (fun Y hY => by
      obtain ⟨b2,off2,e2,h2⟩:=(HD.out.below hY).at hlt
      rw [ea] at e2
      simp only [Option.some.injEq,Addr.mk.injEq] at e2
      obtain ⟨rfl,rfl,-⟩:=e2
      exact h2)
     subst ea
     obtain ⟨d,hd⟩:∃ d,d = l[k]:=⟨_,rfl⟩
     rw [← hd] at hat hyes hno hfp hdb hat5
     obtain ⟨zv,hzv⟩:∃ z,z = vs k:=⟨_,rfl⟩
     rw [← hzv] at hat hdb hat5
     obtain ⟨v1,v2⟩:=zv
     simp only at hat hdb hat5
     obtain ⟨ca,cc,rfl,-⟩:=id hat.cs
     obtain ⟨pa,pc,rfl,-⟩:=id hat.ps
     have y0:=hat.c0
     have y1:=hat.c1
     have y2:=hat.c2
     have HDB:=hdb
     have HDR:=Lib.hid (show R64 d.dealer from hat.r)
     have HDC:=Lib.hid hat5.cs
     have HPA0:=Lib.hid (fun W (h:Below wr.heap.size wr W) => rPasses37_any (.slice a1 rows.length k1) (.slice a2 owners.length k2) (.slice a3 keys.length k3) (.slice ca d.cs.length cc) (.slice pa d.ps.length pc) (.slice a5 cl.length k5) rows owners keys d cl W ((HR.out.below hQ.be).below h) ((HO.out.below hQ.be).below h) ((HK.out.below hQ.be).below h) (hat.cs.below h) (hat.ps.below h) ((HC.out.below hQ.be).below h) HP0.out HKO.out (fun o h => (HPO.out.own o h).1))
     generalize passB rows owners keys cl d = bb at *
     have HPA:=HPA0
     replace c0_:=below_cell hQ.be c0_
     replace c1_:=below_cell hQ.be c1_
     have i0:(0:Int) ≤ (k:Int):=Int.natCast_nonneg k
     have i1:(k:Int) < (l.length:Int):=by omega
     have HLT:=Lib.hid hlt
     have HQQ:=Lib.hid hQ
     have HYES:=Lib.hid hyes
     have HNO:=Lib.hid hno
     have HFP:=Lib.hid hfp
     have HCE:=Lib.hid (And.intro hce hcl)
     have HQF:=Lib.hid hqf
     have HQL:=Lib.hid hql
     obtain ⟨xa,xn,xc,rfl⟩:=own_sl hQ.oL
     clear hd hzv hat hat5 hdb hyes hno hfp hce hcl hqf hql HPA0 hQ
     go_wp2_with fail
     refine wp_region_flowsG (by kernel_rfl) (by kernel_rfl) (by kernel_rfl) (by kernel_rfl) (fun done v W => FRq19 wr (w.heap.size) (b) (off) (l.length) (k4) (k) (.slice a1 rows.length k1) (.slice a2 owners.length k2) (.slice a3 keys.length k3) (.slice a5 cl.length k5) (.slice ca d.cs.length cc) (.slice pa d.ps.length pc) (d.dealer) (bb) done v W) (fun v => ?_) ?_ (fun v W h => ?_)
     ·exact ⟨(Below.refl _ _).drew,(fun h => by cases h),(fun h => by cases h),(fun h => by cases h),(fun h => by cases h),(fun h => by cases h),(fun h => by cases h),(fun h => by cases h),(fun h => by cases h),(fun h => by cases h)⟩
     ·refine ⟨?_,?_,?_,?_,?_,?_,?_,?_,?_,trivial⟩
      ·intro done v W A h hd hp hu hA hB hdf
       have e0:A.tmps[4]?.getD undef = .pointer (some ⟨w.heap.size,0,none⟩):=hB 4 rfl
       have y0_:=below_cell h.b c0_
       have y1_:=below_cell h.b c1_
       clear hA hB hp hu hdf
       go_simp
       exact ⟨_,rfl,{ h with f0:=(fun _ => rfl) }⟩
      ·intro done v W A h hd hp hu hA hB hdf
       have e0:A.tmps[1]?.getD undef = .slice a3 keys.length k3:=hB 1 rfl
       clear hA hB hp hu hdf
       go_simp
       exact ⟨_,rfl,{ h with f1:=(fun _ => rfl) }⟩
      ·intro done v W A h hd hp hu hA hB hdf
       have e0:A.tmps[2]?.getD undef = .slice (some ⟨b,off,none⟩) l.length k4:=hB 2 rfl
       clear hA hB hp hu hdf
       go_simp
       exact ⟨_,rfl,{ h with f2:=(fun _ => rfl) }⟩
      ·intro done v W A h hd hp hu hA hB hdf
       have e0:A.tmps[15]?.getD undef = .int .i64 (k:Int):=hB 15 rfl
       clear hA hB hp hu hdf
       go_simp
       exact ⟨_,rfl,{ h with f3:=(fun _ => rfl) }⟩
      ·intro done v W A h hd hp hu hA hB hdf
       have hd2:done 2 = true:=hp 2 rfl
       have hd3:done 3 = true:=hp 3 rfl
       have e0:=(hA 2 63 rfl hd2).trans (h.f2 hd2)
       have e1:=(hA 3 64 rfl hd3).trans (h.f3 hd3)
       clear hA hB hp hu hdf
       go_simp
       exact ⟨_,rfl,{ h with f4:=(fun _ => rfl) }⟩
      ·intro done v W A h hd hp hu hA hB hdf
       have hd4:done 4 = true:=hp 4 rfl
       have e0:=(hA 4 65 rfl hd4).trans (h.f4 hd4)
       have y0_:=below_cell h.b y0
       have y1_:=below_cell h.b y1
       have y2_:=below_cell h.b y2
       clear hA hB hp hu hdf
       go_simp
       exact ⟨_,rfl,{ h with f5:=(fun _ => rfl) }⟩
      ·intro done v W A h hd hp hu hA hB hdf
       have e0:A.tmps[3]?.getD undef = .slice a5 cl.length k5:=hB 3 rfl
       clear hA hB hp hu hdf
       go_simp
       exact ⟨_,rfl,{ h with f6:=(fun _ => rfl) }⟩
      ·intro done v W A h hd hp hu hA hB hdf
       have hd0:done 0 = true:=hp 0 rfl
       have hd1:done 1 = true:=hp 1 rfl
       have hd5:done 5 = true:=hp 5 rfl
       have hd6:done 6 = true:=hp 6 rfl
       have e0:=(hA 0 61 rfl hd0).trans (h.f0 hd0)
       have e1:=(hA 1 62 rfl hd1).trans (h.f1 hd1)
       have e2:=(hA 5 66 rfl hd5).trans (h.f5 hd5)
       have e3:=(hA 6 67 rfl hd6).trans (h.f6 hd6)
       clear hA hB hp hu hdf
       go_simp
       with_reducible refine (HPA.out W h.b).mono ?_
       rintro e wq ⟨rfl,hb⟩
       exact ⟨_,rfl,{ h with b:=h.b.trans (hb.mono h.b.size),f7:=(fun _ => rfl) }⟩
      ·intro done v W A h hd hp hu hA hB hdf
       have hd7:done 7 = true:=hp 7 rfl
       have e0:=(hA 7 68 rfl hd7).trans (h.f7 hd7)
       clear hA hB hp hu hdf
       go_simp
       exact ⟨_,rfl,{ h with f8:=(fun _ => rfl) }⟩
     simp only [putL,Act.put,Nat.reduceAdd,List.setIfInBounds_toArray,List.set_cons_zero,List.set_cons_succ]
     have hbr:=h.b
     rw [h.f8 rfl]
     have hQ1:=HQQ.out.below hbr
     replace y0:=below_cell hbr y0
     obtain ⟨W8,rfl⟩:∃ x,x = W:=⟨_,rfl⟩
     clear h hbr HPA HQQ c0_ c1_ y1 y2
     cases bb with
     | false =>
      have HN:=Lib.hid (HNO.out rfl)
      have HQ1:=Lib.hid hQ1
      clear hQ1 HYES HNO HFP
      go_wp2_with fail
      go_roundw
      case rel => exact ⟨k + 1,V,HLT.out,by go_num,by rw [HN.out]; exact HQ1.out⟩
      case measure =>
       have h9:=HLT.out
       simp [intOf]; omega
     | true =>
      have HN:=Lib.hid (HYES.out rfl)
      have HFD:=Lib.hid (HFP.out rfl)
      obtain ⟨W10,hW10⟩:∃ W,W = W8.alloc (.cells #[.int .i64 d.dealer] 3):=⟨_,rfl⟩
      have hb10:Below W8.heap.size W8 W10:=by rw [hW10]; exact below_new _ _ _
      have HC10:Hid (W10.cell? ⟨W8.heap.size,0,none⟩ = some (.int .i64 d.dealer)):=Lib.hid (by rw [hW10]; exact row_cell (World.alloc_heap_new _ _) rfl)
      have hQ10:=hQ1.below hb10
      have HQ10:=Lib.hid hQ10
      have HO10:=Lib.hid hQ10.oL
      rw [dlrL_len] at HO10
      have HS10:Hid (w5.heap.size ≤ W10.heap.size):=Lib.hid (by have:=hQ10.big; omega)
      have HJ6:Hid (q.length ≤ 1000000):=Lib.hid (by have:=HQL.out; omega)
      have HW10:=Lib.hid hW10
      clear hW10 hb10 hQ10 hQ1 HYES HNO HFP
      go_wp2_with (first | rw [← HW10.out] | (at_builtin; refine app_int_lies rfl _ _ rfl w5.heap.size q.length _ _ rfl HO10.out W8.heap.size 1 d.dealer rfl HC10.out HJ6.out HS10.out ?_; intro g9 c9 w9 h9 o9 l9; have hq9:=HQ10.out.stepL (dlrL_len q) h9 o9 l9; have HQ9:=Lib.hid hq9; clear h9 o9 l9 hq9))
      have hcp:=HPO.out.cols
      have hoV:=HQ9.out.oV
      have hmk0:=mulK_zero (cfold rows q) d.cs
      obtain ⟨C,hCC⟩:∃ C,C = cfold rows q:=⟨_,rfl⟩
      rw [← hCC] at hoV hmk0 HCE HQ9
      have HCC:=Lib.hid hCC.symm
      clear hCC
      have hC2:=HCE.out.2
      obtain ⟨g,cap,rfl,hgb,-⟩:=own_at37 hoV (by omega)
      rw [hC2] at HQ9
      have HQI:Hid (RqV w5 (.slice a1 rows.length k1) (.slice a2 owners.length k2) (.slice (some ⟨g9,0,none⟩) (q.length + 1) c9) (.slice (some ⟨g,0,none⟩) (colsQ rows) cap) (dlrL q ++ [d.dealer]) (mulK C d.cs 0) w9):=Lib.hid (by rw [hmk0]; exact HQ9.out)
      clear hoV hmk0 HQ9 hgb hC2 HQ10 HO10 HC10 HS10 HW10
      go_loopw [16] (fun i Y => ∃ j:Nat,j ≤ colsQ rows ∧ i = .int .i64 j ∧ RqV w5 (.slice a1 rows.length k1) (.slice a2 owners.length k2) (.slice (some ⟨g9,0,none⟩) (q.length + 1) c9) (.slice (some ⟨g,0,none⟩) (colsQ rows) cap) (dlrL q ++ [d.dealer]) (mulK C d.cs j) Y) (fun i _ => colsQ rows - (intOf i).toNat)
      case atStart => exact ⟨0,Nat.zero_le _,rfl,HQI.out⟩
      case round =>
       clear HQI y0
       obtain ⟨j,hjl,rfl,hQ⟩:=hrel
       have hv3:=row_cell hQ.rk (k:=3) (v:=.slice (some ⟨g,0,none⟩) (colsQ rows) cap) rfl
       by_cases hjt:j < colsQ rows
       ·have hjC:j < C.length:=by rw [HCE.out.2]; exact hjt
        have hcom:=comB_el HFD.out.com
        have hjD:j < d.cs.length:=by rw [hcom.2]; exact hjt
        have hel1:El (nth C j):=by rw [nth_at hjC]; exact HCE.out.1 _ (List.getElem_mem hjC)
        have hel2:El (nth d.cs j):=by rw [nth_at hjD]; exact hcom.1 _ (List.getElem_mem hjD)
        have hset:=mulK_set (b:=d.cs) hjC
        have hmat:=mulK_at (b:=d.cs) hjC
        have hoV:=hQ.oV
        rw [mulK_len,HCE.out.2] at hoV
        have hmj:j < (mulK C d.cs j).length:=by rw [mulK_len]; exact hjC
        obtain ⟨hgs,hgc,hgf⟩:=own_g37 (u:=.int .i64 (nth C j)) hoV hjt (by rw [List.getElem?_map,List.getElem?_eq_getElem hmj,← nth_at hmj,hmat]; rfl)
        have hatj:=HDB.out wr hQ.be
        obtain ⟨sb,so,ea,qz_⟩:=ints_at hatj.cs hjD
        subst ea
        have hc1:=hatj.c1
        rw [← nth_at hjD] at qz_
        have HMU0:=Lib.hid (fun W => rmul_yes (nth C j) (nth d.cs j) W hel1 hel2)
        obtain ⟨m,hm⟩:∃ m,m = nth C j * nth d.cs j % 2147483579:=⟨_,rfl⟩
        rw [← hm] at HMU0 hset
        generalize nth C j = a at *
        generalize nth d.cs j = z at *
        have HMU:=HMU0
        have HZC:Hid (wr.drew.cell? ⟨w5.heap.size + 1,3,none⟩ = some (.slice (some ⟨g,0,none⟩) (colsQ rows) cap) ∧ wr.drew.cell? ⟨g,j,none⟩ = some (.int .i64 a) ∧ wr.drew.cell? ⟨b,off + k * 3 + 1,none⟩ = some (.slice (some ⟨sb,so,none⟩) d.cs.length cc) ∧ wr.drew.cell? ⟨sb,so + j,none⟩ = some (.int .i64 z)):=Lib.hid ⟨hv3,hgc,hc1,qz_⟩
        have HFR:Hid (wr.drew.frozen? ⟨g,j,none⟩ = false):=Lib.hid hgf
        have HST:Hid (OneSet wr g j (.int .i64 m) false wr.drew):=Lib.hid ⟨⟨wr.drew,(Below.refl _ _).drew,by simp⟩⟩
        have HQQ:=Lib.hid hQ
        have HJT:=Lib.hid hjt
        have HSET:=Lib.hid hset
        have HMLN:Hid (colsQ rows = (mulK C d.cs j).length):=Lib.hid (by rw [mulK_len,HCE.out.2])
        have i2:(0:Int) ≤ (j:Int):=Int.natCast_nonneg j
        have i3:(j:Int) < ((colsQ rows:Nat):Int):=by omega
        have i4:(j:Int) < (d.cs.length:Int):=by omega
        have d1:decide ((j:Int) < ((colsQ rows:Nat):Int)) = true:=decide_eq_true i3
        have d2:decide (j < colsQ rows) = true:=decide_eq_true hjt
        clear hcom hjD hel1 hel2 hset hmat hoV hmj hgs hgc hgf hatj hc1 qz_ HMU0 hm hQ
        go_wp2_with fail
        refine wp_region_flowsG (by kernel_rfl) (by kernel_rfl) (by kernel_rfl) (by kernel_rfl) (fun done v W => FRq24 wr (w5.heap.size + 1) (g) ((colsQ rows)) (cap) (j) (b) (off) (l.length) (k4) (k) (sb) (so) (d.cs.length) (cc) (a) (z) (m) done v W) (fun v => ?_) ?_ (fun v W h => ?_)
        ·exact ⟨(Below.refl _ _).drew,(fun h => by cases h),(fun h => by cases h),(fun h => by cases h),(fun h => by cases h),(fun h => by cases h),(fun h => by cases h),(fun h => by cases h),(fun h => by cases h),(fun h => by cases h),(fun h => by cases h),(fun h => by cases h),(fun h => by cases h),(fun h => by cases h),(fun h => by cases h),(fun h => by cases h),(fun h => by cases h),(fun h => by cases h),(fun h => by cases h),(fun h => by cases h),(fun h => by cases h),(fun h => by cases h),(fun _ => HZC.out),(fun _ => HFR.out),HST.out⟩
        ·refine ⟨?_,?_,?_,?_,?_,?_,?_,?_,?_,?_,?_,?_,?_,?_,?_,?_,?_,?_,?_,?_,?_,?_,trivial⟩
         ·intro done v W A h hd hp hu hA hB hdf
          have e0:A.tmps[13]?.getD undef = .pointer (some ⟨w5.heap.size + 1,0,none⟩):=hB 13 rfl
          clear hA hB hp hu hdf
          go_simp
          exact ⟨_,rfl,{ h with f0:=(fun _ => rfl) }⟩
         ·intro done v W A h hd hp hu hA hB hdf
          have n21_1:done 21 = false:=flow_not (fun hj => hu 21 1 rfl (hj)) hd
          have hd0:done 0 = true:=hp 0 rfl
          have e0:=(hA 0 86 rfl hd0).trans (h.f0 hd0)
          have y0_:=(h.zc n21_1).1
          clear hA hB hp hu hdf
          go_simp
          exact ⟨_,rfl,{ h with f1:=(fun _ => rfl) }⟩
         ·intro done v W A h hd hp hu hA hB hdf
          have e0:A.tmps[16]?.getD undef = .int .i64 (j:Int):=hB 16 rfl
          clear hA hB hp hu hdf
          go_simp
          exact ⟨_,rfl,{ h with f2:=(fun _ => rfl) }⟩
         ·intro done v W A h hd hp hu hA hB hdf
          have e0:A.tmps[13]?.getD undef = .pointer (some ⟨w5.heap.size + 1,0,none⟩):=hB 13 rfl
          clear hA hB hp hu hdf
          go_simp
          exact ⟨_,rfl,{ h with f3:=(fun _ => rfl) }⟩
         ·intro done v W A h hd hp hu hA hB hdf
          have n21_4:done 21 = false:=flow_not (fun hj => hu 21 4 rfl (hj)) hd
          have hd3:done 3 = true:=hp 3 rfl
          have e0:=(hA 3 89 rfl hd3).trans (h.f3 hd3)
          have y0_:=(h.zc n21_4).1
          clear hA hB hp hu hdf
          go_simp
          exact ⟨_,rfl,{ h with f4:=(fun _ => rfl) }⟩
         ·intro done v W A h hd hp hu hA hB hdf
          have e0:A.tmps[16]?.getD undef = .int .i64 (j:Int):=hB 16 rfl
          clear hA hB hp hu hdf
          go_simp
          exact ⟨_,rfl,{ h with f5:=(fun _ => rfl) }⟩
         ·intro done v W A h hd hp hu hA hB hdf
          have hd4:done 4 = true:=hp 4 rfl
          have hd5:done 5 = true:=hp 5 rfl
          have e0:=(hA 4 90 rfl hd4).trans (h.f4 hd4)
          have e1:=(hA 5 91 rfl hd5).trans (h.f5 hd5)
          clear hA hB hp hu hdf
          go_simp
          exact ⟨_,rfl,{ h with f6:=(fun _ => rfl) }⟩
         ·intro done v W A h hd hp hu hA hB hdf
          have n21_7:done 21 = false:=flow_not (fun hj => hu 21 7 rfl (hj)) hd
          have hd6:done 6 = true:=hp 6 rfl
          have e0:=(hA 6 92 rfl hd6).trans (h.f6 hd6)
          have y0_:=(h.zc n21_7).2.1
          clear hA hB hp hu hdf
          go_simp
          exact ⟨_,rfl,{ h with f7:=(fun _ => rfl) }⟩
         ·intro done v W A h hd hp hu hA hB hdf
          have e0:A.tmps[2]?.getD undef = .slice (some ⟨b,off,none⟩) l.length k4:=hB 2 rfl
          clear hA hB hp hu hdf
          go_simp
          exact ⟨_,rfl,{ h with f8:=(fun _ => rfl) }⟩
         ·intro done v W A h hd hp hu hA hB hdf
          have e0:A.tmps[15]?.getD undef = .int .i64 (k:Int):=hB 15 rfl
          clear hA hB hp hu hdf
          go_simp
          exact ⟨_,rfl,{ h with f9:=(fun _ => rfl) }⟩
         ·intro done v W A h hd hp hu hA hB hdf
          have hd8:done 8 = true:=hp 8 rfl
          have hd9:done 9 = true:=hp 9 rfl
          have e0:=(hA 8 94 rfl hd8).trans (h.f8 hd8)
          have e1:=(hA 9 95 rfl hd9).trans (h.f9 hd9)
          clear hA hB hp hu hdf
          go_simp
          exact ⟨_,rfl,{ h with f10:=(fun _ => rfl) }⟩
         ·intro done v W A h hd hp hu hA hB hdf
          have hd10:done 10 = true:=hp 10 rfl
          have e0:=(hA 10 96 rfl hd10).trans (h.f10 hd10)
          clear hA hB hp hu hdf
          go_simp
          exact ⟨_,rfl,{ h with f11:=(fun _ => rfl) }⟩
         ·intro done v W A h hd hp hu hA hB hdf
          have n21_12:done 21 = false:=flow_not (fun hj => hu 21 12 rfl (hj)) hd
          have hd11:done 11 = true:=hp 11 rfl
          have e0:=(hA 11 97 rfl hd11).trans (h.f11 hd11)
          have y0_:=(h.zc n21_12).2.2.1
          clear hA hB hp hu hdf
          go_simp
          exact ⟨_,rfl,{ h with f12:=(fun _ => rfl) }⟩
         ·intro done v W A h hd hp hu hA hB hdf
          have e0:A.tmps[16]?.getD undef = .int .i64 (j:Int):=hB 16 rfl
          clear hA hB hp hu hdf
          go_simp
          exact ⟨_,rfl,{ h with f13:=(fun _ => rfl) }⟩
         ·intro done v W A h hd hp hu hA hB hdf
          have hd12:done 12 = true:=hp 12 rfl
          have hd13:done 13 = true:=hp 13 rfl
          have e0:=(hA 12 98 rfl hd12).trans (h.f12 hd12)
          have e1:=(hA 13 99 rfl hd13).trans (h.f13 hd13)
          clear hA hB hp hu hdf
          go_simp
          exact ⟨_,rfl,{ h with f14:=(fun _ => rfl) }⟩
         ·intro done v W A h hd hp hu hA hB hdf
          have n21_15:done 21 = false:=flow_not (fun hj => hu 21 15 rfl (hj)) hd
          have hd14:done 14 = true:=hp 14 rfl
          have e0:=(hA 14 100 rfl hd14).trans (h.f14 hd14)
          have y0_:=(h.zc n21_15).2.2.2
          clear hA hB hp hu hdf
          go_simp
          exact ⟨_,rfl,{ h with f15:=(fun _ => rfl) }⟩
         ·intro done v W A h hd hp hu hA hB hdf
          have hd7:done 7 = true:=hp 7 rfl
          have hd15:done 15 = true:=hp 15 rfl
          have e0:=(hA 7 93 rfl hd7).trans (h.f7 hd7)
          have e1:=(hA 15 101 rfl hd15).trans (h.f15 hd15)
          clear hA hB hp hu hdf
          go_simp
          with_reducible refine (HMU.out W).mono ?_
          rintro e wq ⟨rfl,rfl⟩
          exact ⟨_,rfl,{ h with f16:=(fun _ => rfl) }⟩
         ·intro done v W A h hd hp hu hA hB hdf
          have hd16:done 16 = true:=hp 16 rfl
          have e0:=(hA 16 102 rfl hd16).trans (h.f16 hd16)
          clear hA hB hp hu hdf
          go_simp
          exact ⟨_,rfl,{ h with f17:=(fun _ => rfl) }⟩
         ·intro done v W A h hd hp hu hA hB hdf
          have hd17:done 17 = true:=hp 17 rfl
          have e0:=(hA 17 85 rfl hd17).trans (h.f17 hd17)
          clear hA hB hp hu hdf
          go_simp
          exact ⟨_,rfl,{ h with f18:=(fun _ => rfl) }⟩
         ·intro done v W A h hd hp hu hA hB hdf
          have hd17:done 17 = true:=hp 17 rfl
          have e0:=(hA 17 85 rfl hd17).trans (h.f17 hd17)
          clear hA hB hp hu hdf
          go_simp
          exact ⟨_,rfl,{ h with f19:=(fun _ => rfl) }⟩
         ·intro done v W A h hd hp hu hA hB hdf
          have hd1:done 1 = true:=hp 1 rfl
          have hd2:done 2 = true:=hp 2 rfl
          have e0:=(hA 1 87 rfl hd1).trans (h.f1 hd1)
          have e1:=(hA 2 88 rfl hd2).trans (h.f2 hd2)
          clear hA hB hp hu hdf
          go_simp
          exact ⟨_,rfl,{ h with f20:=(fun _ => rfl) }⟩
         ·intro done v W A h hd hp hu hA hB hdf
          have hd18:done 18 = true:=hp 18 rfl
          have hd20:done 20 = true:=hp 20 rfl
          have e1:=(hA 20 105 rfl hd20).trans (h.f20 hd20)
          have e2:=(hA 18 103 rfl hd18).trans (h.f18 hd18)
          have u3:=(h.zc hd).2.1
          have g3:=h.fr hd
          have s9:=h.st.put hd j (.int .i64 m)
          clear hA hB hp hu hdf
          go_simp
          exact ⟨undef,{ h with b:=h.b.setCell (Nat.le_refl _) _,zc:=((fun h1 => by cases h1)),fr:=((fun h1 => by cases h1)),st:=(s9) }⟩
        simp only [putL,Act.put,Nat.reduceAdd,List.setIfInBounds_toArray,List.set_cons_zero,List.set_cons_succ]
        have hbr:=h.b
        obtain ⟨Y2,hb2,hY2⟩:=h.st.done
        have HY2:=Lib.hid (show RqV w5 (.slice a1 rows.length k1) (.slice a2 owners.length k2) (.slice (some ⟨g9,0,none⟩) (q.length + 1) c9) (.slice (some ⟨g,0,none⟩) (colsQ rows) cap) (dlrL q ++ [d.dealer]) (mulK C d.cs (j + 1)) W by rw [hY2,← HSET.out]; exact (HQQ.out.below hb2).put HMLN.out)
        clear h hbr hb2 hY2 HZC HFR HST HQQ HMU
        go_wp2_with fail
        go_roundw
        case rel => exact ⟨j + 1,HJT.out,by go_num,HY2.out⟩
        case measure =>
         have h9:=HJT.out
         simp [intOf]; omega
       ·obtain rfl:j = colsQ rows:=by omega
        have d1:decide (((colsQ rows:Nat):Int) < ((colsQ rows:Nat):Int)) = false:=decide_eq_false (by omega)
        have d2:decide (colsQ rows < colsQ rows) = false:=decide_eq_false (by omega)
        have hma:=mulK_all C d.cs
        rw [HCE.out.2] at hma
        rw [hma] at hQ
        have HQ2:=Lib.hid hQ
        clear hma hQ
        go_wp2_with fail
        go_roundw
        case rel => exact ⟨k + 1,_,HLT.out,by go_num,by rw [HN.out,dlrL_snoc,cfold_snoc,HCC.out]; exact HQ2.out⟩
        case measure =>
         have h9:=HLT.out
         simp [intOf]; omega
    ·obtain rfl:k = l.length:=by omega
     rw [List.take_length] at hQ hqf hql hce hcl
     rw [← HMQ.out] at hQ hqf hql hce hcl HE
     have hw5:=row_lt QS.out
     have QS:=Lib.hid ((hQ.be.block _ (row_lt QS.out)).trans QS.out)
     have HB:=Lib.hid (HB.out.trans (hQ.be.mono HB.out.size))
     obtain ⟨xa,xc,rfl⟩:=own_form hQ.oL
     have hdl:=dlrL_len MQ
     by_cases hq:MQ = []
     ·have HV:Hid (ME = 370):=Lib.hid (HE.out.trans (if_pos hq))
      have e0:((dlrL MQ).length == 0) = true:=beq_iff_eq.2 (by rw [hdl,hq]; rfl)
      have e1:(((dlrL MQ).length:Int) == 0) = true:=beq_iff_eq.2 (by rw [hdl,hq]; rfl)
      clear HE hQ hqf hql hce hcl hdl hq
      have t0:=row_cell QS.out (k:=0) (v:=.int .i64 0) rfl
      have f0:=row_free QS.out 0
      have t1:=row_cell QS.out (k:=1) (v:=.slice none 0 0) rfl
      have f1:=row_free QS.out 1
      have t2:=row_cell QS.out (k:=2) (v:=.slice none 0 0) rfl
      have f2:=row_free QS.out 2
      have t3:=row_cell QS.out (k:=3) (v:=.slice none 0 0) rfl
      have f3:=row_free QS.out 3
      obtain ⟨W9,hW9,hq9,-,hbe⟩:=put4 wr (w.heap.size + 1) (.int .i64 0) (.slice none 0 0) (.slice none 0 0) (.slice none 0 0) _ QS.out
      have HB9:=Lib.hid (hbe HB.out (Nat.le_succ _))
      have z0:=row_cell hq9 (k:=0) (v:=.int .i64 0) rfl
      have z1:=row_cell hq9 (k:=1) (v:=.slice none 0 0) rfl
      have z2:=row_cell hq9 (k:=2) (v:=.slice none 0 0) rfl
      have z3:=row_cell hq9 (k:=3) (v:=.slice none 0 0) rfl
      have HW9:=Lib.hid hW9
      clear hW9 hq9 hbe
      go_wp2_with (rw [← HW9.out])
      refine bodyPost_ret (v:=.tuple #[.slice none 0 0,.agg #[.int .i64 0,.slice none 0 0,.slice none 0 0,.slice none 0 0],.int .i64 370]) (by simp [results,Tryz.results32,go_sem,z0,z1,z2,z3]) rfl ?_
      rw [HV.out]
      exact quOff _ _ _ (by decide) HB9.out
     have HV:Hid (ME = 0):=Lib.hid (HE.out.trans (if_neg hq))
     have hlp:0 < MQ.length:=List.length_pos_iff.2 hq
     have e0:((dlrL MQ).length == 0) = false:=beq_eq_false_iff_ne.2 (by omega)
     have e1:(((dlrL MQ).length:Int) == 0) = false:=beq_eq_false_iff_ne.2 (by omega)
     rw [cfold_comL hq hqf] at hQ hce
     obtain ⟨va,vc,rfl⟩:=own_form hQ.oV
     have hm3:=hQ.rk
     have hcl2:(comL MQ).length ≤ 64:=by
      have h9:=(comL_com hq hqf).2
      have:=HPO.out.cols_le
      omega
     have m0:=row_cell hm3 (k:=0) (v:=.int .i64 0) rfl
     have m1:=row_cell hm3 (k:=1) (v:=.slice a1 rows.length k1) rfl
     have m2:=row_cell hm3 (k:=2) (v:=.slice a2 owners.length k2) rfl
     have m3:=row_cell hm3 (k:=3) (v:=.slice va (comL MQ).length vc) rfl
     have t0:=row_cell QS.out (k:=0) (v:=.int .i64 0) rfl
     have f0:=row_free QS.out 0
     have t1:=row_cell QS.out (k:=1) (v:=.slice none 0 0) rfl
     have f1:=row_free QS.out 1
     have t2:=row_cell QS.out (k:=2) (v:=.slice none 0 0) rfl
     have f2:=row_free QS.out 2
     have t3:=row_cell QS.out (k:=3) (v:=.slice none 0 0) rfl
     have f3:=row_free QS.out 3
     obtain ⟨W9,hW9,hq9,hfar,hbe⟩:=put4 wr (w.heap.size + 1) (.int .i64 0) (.slice a1 rows.length k1) (.slice a2 owners.length k2) (.slice va (comL MQ).length vc) _ QS.out
     have HB9:=Lib.hid (hbe HB.out (Nat.le_succ _)).drew
     have hol:=own_block (w':=W9.drew) hQ.oL (fun g e9 => by have:=(own_lt hQ.oL g e9).1; exact hfar g (by omega))
     have hov:=own_block (w':=W9.drew) hQ.oV (fun g e9 => by have:=(own_lt hQ.oV g e9).1; exact hfar g (by omega))
     have HIL:=Lib.hid (Ints.own hol (fun z hz => by
      obtain ⟨x,hx,rfl⟩:=List.mem_map.1 hz
      have:=(hqf x hx).dealer
      exact R64.mk (by omega) (by omega)) (by rw [hdl]; omega))
     have HIV:=Lib.hid (Ints.own hov (fun z hz => (hce z hz).r64) (by omega))
     have z0:W9.drew.cell? ⟨w.heap.size + 1,0,none⟩ = some (.int .i64 0):=row_cell hq9 (k:=0) rfl
     have z1:W9.drew.cell? ⟨w.heap.size + 1,1,none⟩ = some (.slice a1 rows.length k1):=row_cell hq9 (k:=1) rfl
     have z2:W9.drew.cell? ⟨w.heap.size + 1,2,none⟩ = some (.slice a2 owners.length k2):=row_cell hq9 (k:=2) rfl
     have z3:W9.drew.cell? ⟨w.heap.size + 1,3,none⟩ = some (.slice va (comL MQ).length vc):=row_cell hq9 (k:=3) rfl
     have HW9:=Lib.hid hW9
     clear HE hQ hqf hql hce hcl hm3 hW9 hbe hlp hq hdl hcl2 hfar hol hov hq9
     go_wp2_with fail
     go_region
     rw [← HW9.out]
     go_wp2_with fail
     refine bodyPost_ret (v:=.tuple #[.slice xa (dlrL MQ).length xc,.agg #[.int .i64 0,.slice a1 rows.length k1,.slice a2 owners.length k2,.slice va (comL MQ).length vc],.int .i64 0]) (by simp [results,Tryz.results32,go_sem,z0,z1,z2,z3]) rfl ?_
     rw [HV.out]
     exact ⟨_,_,rfl,HB9.out,(fun e9 => absurd rfl e9),fun _ => ⟨HIL.out,_,rfl,HIV.out⟩⟩
end Go.Proofs.YtggnipkfliompaaGreatDoor
