/- Package keygen: Qualified. -/
import Derived.Test.YtggnipkfliompaaGreatDoorMKgI
import Derived.Test.YtggnipkfliompaaGreatDoorMKgE
import Derived.Test.YtggnipkfliompaaGreatDoorMParG
import Derived.Test.YtggnipkfliompaaGreatDoorMRange5
import Derived.Test.YtggnipkfliompaaGreatDoorMRegI
set_option maxHeartbeats 16000000
set_option maxRecDepth 100000
namespace Go.Proofs.YtggnipkfliompaaGreatDoor
open Go.RowKit FP
attribute [local go_sem] Oper.semAt_some
theorem zeroC (W:World):(zeroValue 62).run Tryz.prog W = .ok (.slice none 0 0) W:=by kernel_rfl
structure QuPost (rv ov:Value) (E:Int) (q:List Dlg) (w:World) (e:Ending) (w':World):Prop where
 out:∃ v kv,e = .returned (.tuple #[v,kv,.int .i64 E]) ∧ Below w.heap.size w w' ∧
  (E ≠ 0 → v = .slice none 0 0 ∧ kv = .agg #[.int .i64 0,.slice none 0 0,.slice none 0 0,.slice none 0 0]) ∧
  (E = 0 → Ints w' v (dlrL q) ∧ ∃ cv,kv = .agg #[.int .i64 0,rv,ov,cv] ∧ Ints w' cv (comL q))
theorem quOff (rv ov:Value) {E:Int} (q:List Dlg) {w w':World} (hE:E ≠ 0) (hb:Below w.heap.size w w'):QuPost rv ov E q w (.returned (.tuple #[.slice none 0 0,.agg #[.int .i64 0,.slice none 0 0,.slice none 0 0,.slice none 0 0],.int .i64 E])) w':=
 ⟨_,_,rfl,hb,fun _ => ⟨rfl,rfl⟩,fun e => absurd e hE⟩
theorem quBoxes (w:World) (rv ov kv:Value):∃ W,W = (((w.alloc (.cells #[rv,ov] 25)).alloc (.cells #[kv] 23)).alloc (.cells #[.int .i64 0,.slice none 0 0,.slice none 0 0,.slice none 0 0] 64)).alloc (.cells #[.int .i64 0] 35) ∧ Below w.heap.size w W ∧
  W.heap[w.heap.size]? = some (.cells #[rv,ov] 25 (0,0)) ∧ W.heap[w.heap.size + 1]? = some (.cells #[kv] 23 (0,0)) ∧
  W.heap[w.heap.size + 1 + 1]? = some (.cells #[.int .i64 0,.slice none 0 0,.slice none 0 0,.slice none 0 0] 64 (0,0)) ∧ W.heap[w.heap.size + 1 + 1 + 1]? = some (.cells #[.int .i64 0] 35 (0,0)):=by
 obtain ⟨A,hA⟩:∃ A,A = w.alloc (.cells #[rv,ov] 25):=⟨_,rfl⟩
 obtain ⟨B,hB⟩:∃ B,B = A.alloc (.cells #[kv] 23):=⟨_,rfl⟩
 obtain ⟨C,hC⟩:∃ C,C = B.alloc (.cells #[.int .i64 0,.slice none 0 0,.slice none 0 0,.slice none 0 0] 64):=⟨_,rfl⟩
 obtain ⟨D,hD⟩:∃ D,D = C.alloc (.cells #[.int .i64 0] 35):=⟨_,rfl⟩
 have a1:Below w.heap.size w A:=by rw [hA]; exact below_new _ _ _
 have a2:Below A.heap.size A B:=by rw [hB]; exact below_new _ _ _
 have a3:Below B.heap.size B C:=by rw [hC]; exact below_new _ _ _
 have a4:Below C.heap.size C D:=by rw [hD]; exact below_new _ _ _
 have s1:A.heap.size = w.heap.size + 1:=by rw [hA]; simp
 have s2:B.heap.size = w.heap.size + 1 + 1:=by rw [hB]; simp [s1]
 have s3:C.heap.size = w.heap.size + 1 + 1 + 1:=by rw [hC]; simp [s2]
 have r1:A.heap[w.heap.size]? = some (.cells #[rv,ov] 25 (0,0)):=by rw [hA]; exact World.alloc_heap_new _ _
 have r2:B.heap[w.heap.size + 1]? = some (.cells #[kv] 23 (0,0)):=by rw [hB,← s1]; exact World.alloc_heap_new _ _
 have r3:C.heap[w.heap.size + 1 + 1]? = some (.cells #[.int .i64 0,.slice none 0 0,.slice none 0 0,.slice none 0 0] 64 (0,0)):=by rw [hC,← s2]; exact World.alloc_heap_new _ _
 have r4:D.heap[w.heap.size + 1 + 1 + 1]? = some (.cells #[.int .i64 0] 35 (0,0)):=by rw [hD,← s3]; exact World.alloc_heap_new _ _
 have b2:=a2.mono a1.size
 have b3:=a3.mono (Nat.le_trans a1.size a2.size)
 have b4:=a4.mono (Nat.le_trans (Nat.le_trans a1.size a2.size) a3.size)
 exact ⟨D,by rw [hD,hC,hB,hA],a1.trans (b2.trans (b3.trans b4)),
  (a4.block _ (by omega)).trans ((a3.block _ (by omega)).trans ((a2.block _ (by omega)).trans r1)),(a4.block _ (by omega)).trans ((a3.block _ (by omega)).trans r2),(a4.block _ (by omega)).trans r3,r4⟩
theorem quMap (w:World):∃ W,W = (w.alloc (.map #[] 0)).alloc (.cells #[.map (some w.heap.size)] 125) ∧ Below w.heap.size w W ∧ MapZ W w.heap.size (fun _ => none) ∧ W.heap[w.heap.size + 1]? = some (.cells #[.map (some w.heap.size)] 125 (0,0)) ∧ W.heap.size = w.heap.size + 1 + 1:=by
 obtain ⟨A,hA⟩:∃ A,A = w.alloc (.map #[] 0):=⟨_,rfl⟩
 have s1:A.heap.size = w.heap.size + 1:=by rw [hA]; simp
 have a1:Below w.heap.size w A:=by rw [hA]; exact (Below.refl _ _).alloc (Nat.le_refl _) _
 have a2:=below_new A #[.map (some w.heap.size)] 125
 refine ⟨A.alloc (.cells #[.map (some w.heap.size)] 125),by rw [hA],a1.trans (a2.mono a1.size),?_,?_,by simp [s1]⟩
 ·have h:=MapZ.new (w:=w)
  rw [← hA] at h
  exact h.below a2
 ·rw [← s1]; exact World.alloc_heap_new _ _
structure QuS (w8:World) (rn:Int) (cl:List Cmp) (W:World):Prop where
 out:∃ F,MapZ W w8.heap.size F ∧ RowsC (w8.heap.size + 1 + 1) W F (selC rn cl)
 tab:W.cell? ⟨w8.heap.size + 1,0,none⟩ = some (.map (some w8.heap.size))
 be:Below w8.heap.size w8 W
 big:w8.heap.size + 1 + 1 ≤ W.heap.size
theorem put4 (W:World) (E:Nat) (x0 x1 x2 x3:Value) (T:TypeId) {a b c d:Value} (h:W.heap[E]? = some (.cells #[a,b,c,d] T (0,0))):∃ We,We = (((W.setCell ⟨E,0,none⟩ x0).setCell ⟨E,1,none⟩ x1).setCell ⟨E,2,none⟩ x2).setCell ⟨E,3,none⟩ x3 ∧ We.heap[E]? = some (.cells #[x0,x1,x2,x3] T (0,0)) ∧ (∀ k,k ≠ E → We.heap[k]? = W.heap[k]?) ∧ ∀ {n0:Nat} {w:World},Below n0 w W → n0 ≤ E → Below n0 w We:=by
 refine ⟨_,rfl,?_,fun k hk => ?_,fun hb hn => (((hb.setCell hn _).setCell hn _).setCell hn _).setCell hn _⟩
 ·exact row_set (row_set (row_set (row_set h 0 x0) 1 x1) 2 x2) 3 x3
 ·rw [Below.heap_setCell _ _ _ _ hk,Below.heap_setCell _ _ _ _ hk,Below.heap_setCell _ _ _ _ hk,Below.heap_setCell _ _ _ _ hk]
theorem quTail (w:World) (rv ov:Value):∃ W,W = (w.alloc (.cells #[.int .i64 0,rv,ov,.slice none 0 0] 64)).alloc (.cells #[.slice none 0 0] 23) ∧ Below w.heap.size w W ∧ W.heap[w.heap.size]? = some (.cells #[.int .i64 0,rv,ov,.slice none 0 0] 64 (0,0)) ∧ W.heap[w.heap.size + 1]? = some (.cells #[.slice none 0 0] 23 (0,0)) ∧ W.heap.size = w.heap.size + 1 + 1:=by
 obtain ⟨A,hA⟩:∃ A,A = w.alloc (.cells #[.int .i64 0,rv,ov,.slice none 0 0] 64):=⟨_,rfl⟩
 have s1:A.heap.size = w.heap.size + 1:=by rw [hA]; simp
 have a1:Below w.heap.size w A:=by rw [hA]; exact below_new _ _ _
 have r1:A.heap[w.heap.size]? = some (.cells #[.int .i64 0,rv,ov,.slice none 0 0] 64 (0,0)):=by rw [hA]; exact World.alloc_heap_new _ _
 have a2:=below_new A #[.slice none 0 0] 23
 refine ⟨A.alloc (.cells #[.slice none 0 0] 23),by rw [hA],a1.trans (a2.mono a1.size),(a2.block _ (by omega)).trans r1,?_,by simp [s1]⟩
 rw [← s1]; exact World.alloc_heap_new _ _
structure FQr11 (w0:World) (mb:Nat) (tb:Nat) (cb:Nat) (base:Nat) (F:Int → Option Value) (S:Int → List Cmp) (c:Cmp) (done:Nat → Bool) (v:Nat → Value) (w:World):Prop where
 b:Below mb w0 w
 f0:done 0 = true → v 0 = .map (some mb)
 f1:done 1 = true → v 1 = .pointer (some ⟨cb,0,none⟩)
 f2:done 2 = true → v 2 = .int .i64 c.dealer
 f3:done 3 = true → v 3 = .map (some mb)
 f4:done 4 = true → v 4 = .pointer (some ⟨cb,0,none⟩)
 f5:done 5 = true → v 5 = .int .i64 c.dealer
 f6:done 6 = true → v 6 = valF F c.dealer
 f7:done 7 = true → v 7 = .agg #[.int .i64 c.dealer,.int .i64 c.row,.int .i64 c.D,.int .i64 c.E,.int .i64 c.S]
 f8:done 8 = true → done 9 = false → CmpBox w (v 8) c
 bx:AppC mb tb cb base F S c (done 9) (done 10) (v 9) w
structure FQr25 (w0:World) (kb:Nat) (g:Nat) (n:Nat) (cap:Nat) (k:Nat) (a:Int) (z:Int) (m:Int) (done:Nat → Bool) (v:Nat → Value) (w:World):Prop where
 b:Below g w0 w
 f0:done 0 = true → v 0 = .pointer (some ⟨kb,3,none⟩)
 f1:done 1 = true → v 1 = .slice (some ⟨g,0,none⟩) n cap
 f2:done 2 = true → v 2 = .int .i64 (k:Int)
 f3:done 3 = true → v 3 = .pointer (some ⟨kb,3,none⟩)
 f4:done 4 = true → v 4 = .slice (some ⟨g,0,none⟩) n cap
 f5:done 5 = true → v 5 = .int .i64 (k:Int)
 f6:done 6 = true → v 6 = .pointer (some ⟨g,k,none⟩)
 f7:done 7 = true → v 7 = .int .i64 a
 f8:done 8 = true → v 8 = .int .i64 z
 f9:done 9 = true → v 9 = .tuple #[.int .i64 m,.int .i64 0]
 f10:done 10 = true → v 10 = .int .i64 m
 f11:done 11 = true → v 11 = .int .i64 0
 f12:done 12 = true → v 12 = .int .i64 m
 f13:done 13 = true → v 13 = .pointer (some ⟨g,k,none⟩)
 zc:done 14 = false → (w.cell? ⟨kb,3,none⟩ = some (.slice (some ⟨g,0,none⟩) n cap) ∧ w.cell? ⟨g,k,none⟩ = some (.int .i64 a))
 fr:done 14 = false → w.frozen? ⟨g,k,none⟩ = false
 st:OneSet w0 g k (.int .i64 m) (done 14) w
theorem kQualified_any (rv ov kv dv cv:Value) (rows:List (List Int)) (owners keys:List Int) (l:List Dlg) (vs:DVals) (cl:List Cmp) (w:World) (hG:Glob w) (hR:Rows2 w rv rows) (hO:Ints w ov owners) (hK:Ints w kv keys) (hD:Dlgs w dv l vs) (hC:Cmps w cv cl) :
  Calls Tryz.prog 31 #[.agg #[rv,ov],kv,dv,cv] w (QuPost rv ov (quE rows owners keys l cl) (qualL rows owners keys cl l) w):=by
 obtain ⟨W0,hW0,hb0,r0,r1,r2,r3⟩:=quBoxes w rv ov kv
 have Q0:=Lib.hid r0
 have Q1:=Lib.hid r1
 have Q2:=Lib.hid r2
 have Q3:=Lib.hid r3
 have HG:=Lib.hid (hG.below hb0)
 have HR:=Lib.hid (hR.below hb0)
 have HO:=Lib.hid (hO.below hb0)
 have HK:=Lib.hid (hK.below hb0)
 have HD:=Lib.hid (hD.below hb0)
 have HC:=Lib.hid (hC.below hb0)
 obtain ⟨a1,k1,rfl,-,hl1,-⟩:=id hR
 obtain ⟨a2,k2,rfl,-,hl2,-⟩:=id hO
 obtain ⟨a3,k3,rfl,-,hl3,-⟩:=id hK
 obtain ⟨a4,k4,rfl,-,hl4,-⟩:=id hD
 obtain ⟨a5,k5,rfl,-,hl5,-⟩:=id hC
 have HW:=Lib.hid hW0
 have HB:=Lib.hid hb0
 have c0:=row_cell r0 (k:=0) (v:=.slice a1 rows.length k1) rfl
 have c1:=row_cell r0 (k:=1) (v:=.slice a2 owners.length k2) rfl
 have c2:=row_cell r1 (k:=0) (v:=.slice a3 keys.length k3) rfl
 clear hG hR hO hK hD hC hb0 r0 r1 r2 r3 hW0
 have hmf:∀ (fn:Fn) (first cap:Array Value) (w:World),(Instr.makeFunc fn first cap).run Tryz.prog w = .ok (.func fn first cap) w:=fun _ _ _ _ => rfl
 have hmm:=@run_makeMap Tryz.prog
 obtain ⟨ME,hME⟩:∃ z,z = quE rows owners keys l cl:=⟨_,rfl⟩
 obtain ⟨MQ,hMQ⟩:∃ z,z = qualL rows owners keys cl l:=⟨_,rfl⟩
 rw [← hME,← hMQ]
 have HE:Hid (ME = quE rows owners keys l cl):=Lib.hid hME
 have HMQ:=Lib.hid hMQ
 clear hME hMQ
 unfold quE at HE
 refine calls_of_range Tryz.func31 rfl ?_
 simp only [Tryz.ntmps31,List.size_toArray,List.length_cons,List.length_nil,Nat.reduceAdd,Nat.reduceSub,Array.replicate_succ,Array.replicate_zero,List.push_toArray,List.append_toArray,List.nil_append,List.cons_append]
 go_wp2_with (rw [← HW.out])
 clear HW
 with_reducible refine (pCheck_any _ _ rows owners _ HR.out HO.out).mono ?_
 rintro e w4 ⟨rfl,hb4⟩
 replace c0:=below_cell hb4 c0
 replace c1:=below_cell hb4 c1
 replace c2:=below_cell hb4 c2
 replace HG:=Lib.hid (HG.out.below hb4)
 replace HR:=Lib.hid (HR.out.below hb4)
 replace HO:=Lib.hid (HO.out.below hb4)
 replace HK:=Lib.hid (HK.out.below hb4)
 replace HD:=Lib.hid (HD.out.below hb4)
 replace HC:=Lib.hid (HC.out.below hb4)
 replace Q0:=Lib.hid ((hb4.block _ (row_lt Q0.out)).trans Q0.out)
 replace Q1:=Lib.hid ((hb4.block _ (row_lt Q1.out)).trans Q1.out)
 replace Q2:=Lib.hid ((hb4.block _ (row_lt Q2.out)).trans Q2.out)
 replace Q3:=Lib.hid ((hb4.block _ (row_lt Q3.out)).trans Q3.out)
 replace HB:=Lib.hid (HB.out.trans (hb4.mono HB.out.size))
 clear hb4
 by_cases hp:progE rows owners = 0
 rotate_left
 ·have HV:=Lib.hid (HE.out.trans (if_pos hp))
  have HNZ:=Lib.hid hp
  clear hp HE
  generalize progE rows owners = q at *
  go_wp2_with fail
  with_reducible refine (kmust_bad 0 q _ HNZ.out).mono ?_
  rintro e w5 ⟨rfl,rfl⟩
  refine leavesM_caught ⟨w.heap.size + 1 + 1 + 1,0,none⟩ 0 q _ (row_cell Q3.out rfl) (row_free Q3.out 0) ?_
  obtain ⟨Wf,hWf,hbf,hqf,hxf⟩:=err_end HB.out (show w.heap.size ≤ w.heap.size + 1 + 1 + 1 by omega) Q3.out Q2.out (show w.heap.size + 1 + 1 ≠ w.heap.size + 1 + 1 + 1 by omega) q
  have y0:=row_cell hqf (k:=0) (v:=.int .i64 0) rfl
  have y1:=row_cell hqf (k:=1) (v:=.slice none 0 0) rfl
  have y2:=row_cell hqf (k:=2) (v:=.slice none 0 0) rfl
  have y3:=row_cell hqf (k:=3) (v:=.slice none 0 0) rfl
  rw [← hWf]
  simp [LeavesInM,LeavesIn,results,Tryz.results31,go_sem,hxf,y0,y1,y2,y3]
  rw [HV.out]
  exact quOff _ _ _ HNZ.out hbf
 replace HE:=Lib.hid (HE.out.trans (if_neg (by simp [hp])))
 have HPO:=Lib.hid (progE_ok hp)
 have HP0:=Lib.hid hp
 rw [hp]
 clear hp
 go_wp2_with fail
 with_reducible refine (kmust_ok 0 _).mono ?_
 rintro e w5 ⟨rfl,rfl⟩
 go_wp2_with fail
 with_reducible refine (isKeys_any _ _ _ owners keys _ ⟨_,_,_,rfl⟩ HO.out HK.out (fun o h => (HPO.out.own o h).1)).mono ?_
 rintro e w5 ⟨rfl,hb5⟩
 replace c0:=below_cell hb5 c0
 replace c1:=below_cell hb5 c1
 replace c2:=below_cell hb5 c2
 replace HG:=Lib.hid (HG.out.below hb5)
 replace HR:=Lib.hid (HR.out.below hb5)
 replace HO:=Lib.hid (HO.out.below hb5)
 replace HK:=Lib.hid (HK.out.below hb5)
 replace HD:=Lib.hid (HD.out.below hb5)
 replace HC:=Lib.hid (HC.out.below hb5)
 replace Q0:=Lib.hid ((hb5.block _ (row_lt Q0.out)).trans Q0.out)
 replace Q1:=Lib.hid ((hb5.block _ (row_lt Q1.out)).trans Q1.out)
 replace Q2:=Lib.hid ((hb5.block _ (row_lt Q2.out)).trans Q2.out)
 replace Q3:=Lib.hid ((hb5.block _ (row_lt Q3.out)).trans Q3.out)
 replace HB:=Lib.hid (HB.out.trans (hb5.mono HB.out.size))
 clear hb5
 cases hkb:keysB owners keys with
 | false =>
  have HV:=Lib.hid (HE.out.trans (if_pos hkb))
  clear hkb HE
  go_wp2_with fail
  with_reducible refine (kneed_bad 370 _ (by decide)).mono ?_
  rintro e w6 ⟨rfl,rfl⟩
  refine leavesM_caught ⟨w.heap.size + 1 + 1 + 1,0,none⟩ 0 370 _ (row_cell Q3.out rfl) (row_free Q3.out 0) ?_
  obtain ⟨Wf,hWf,hbf,hqf,hxf⟩:=err_end HB.out (show w.heap.size ≤ w.heap.size + 1 + 1 + 1 by omega) Q3.out Q2.out (show w.heap.size + 1 + 1 ≠ w.heap.size + 1 + 1 + 1 by omega) 370
  have y0:=row_cell hqf (k:=0) (v:=.int .i64 0) rfl
  have y1:=row_cell hqf (k:=1) (v:=.slice none 0 0) rfl
  have y2:=row_cell hqf (k:=2) (v:=.slice none 0 0) rfl
  have y3:=row_cell hqf (k:=3) (v:=.slice none 0 0) rfl
  rw [← hWf]
  simp [LeavesInM,LeavesIn,results,Tryz.results31,go_sem,hxf,y0,y1,y2,y3]
  rw [HV.out]
  exact quOff _ _ _ (by decide) hbf
 | true =>
 replace HE:=Lib.hid (HE.out.trans (if_neg (by rw [hkb]; decide)))
 have HKO:=Lib.hid (keysB_iff.1 hkb)
 clear hkb
 go_wp2_with fail
 with_reducible refine (kneed_ok 370 _).mono ?_
 rintro e w6 ⟨rfl,rfl⟩
 by_cases hn1:l.length ≤ 64
 rotate_left
 ·have HV:=Lib.hid (HE.out.trans (if_pos (.inl (by omega))))
  have x1:decide ((l.length:Int) ≤ 64) = false:=decide_eq_false (by omega)
  clear HE
  go_wp2_with fail
  with_reducible refine (kneed_bad 2 _ (by decide)).mono ?_
  rintro e w6 ⟨rfl,rfl⟩
  refine leavesM_caught ⟨w.heap.size + 1 + 1 + 1,0,none⟩ 0 2 _ (row_cell Q3.out rfl) (row_free Q3.out 0) ?_
  obtain ⟨Wf,hWf,hbf,hqf,hxf⟩:=err_end HB.out (show w.heap.size ≤ w.heap.size + 1 + 1 + 1 by omega) Q3.out Q2.out (show w.heap.size + 1 + 1 ≠ w.heap.size + 1 + 1 + 1 by omega) 2
  have y0:=row_cell hqf (k:=0) (v:=.int .i64 0) rfl
  have y1:=row_cell hqf (k:=1) (v:=.slice none 0 0) rfl
  have y2:=row_cell hqf (k:=2) (v:=.slice none 0 0) rfl
  have y3:=row_cell hqf (k:=3) (v:=.slice none 0 0) rfl
  rw [← hWf]
  simp [LeavesInM,LeavesIn,results,Tryz.results31,go_sem,hxf,y0,y1,y2,y3]
  rw [HV.out]
  exact quOff _ _ _ (by decide) hbf
 have x1:decide ((l.length:Int) ≤ 64) = true:=decide_eq_true (by omega)
 by_cases hn2:cl.length ≤ 4096
 rotate_left
 ·have HV:=Lib.hid (HE.out.trans (if_pos (.inr (by omega))))
  have x2:decide ((cl.length:Int) ≤ 4096) = false:=decide_eq_false (by omega)
  clear HE
  go_wp2_with fail
  with_reducible refine (kneed_bad 2 _ (by decide)).mono ?_
  rintro e w6 ⟨rfl,rfl⟩
  refine leavesM_caught ⟨w.heap.size + 1 + 1 + 1,0,none⟩ 0 2 _ (row_cell Q3.out rfl) (row_free Q3.out 0) ?_
  obtain ⟨Wf,hWf,hbf,hqf,hxf⟩:=err_end HB.out (show w.heap.size ≤ w.heap.size + 1 + 1 + 1 by omega) Q3.out Q2.out (show w.heap.size + 1 + 1 ≠ w.heap.size + 1 + 1 + 1 by omega) 2
  have y0:=row_cell hqf (k:=0) (v:=.int .i64 0) rfl
  have y1:=row_cell hqf (k:=1) (v:=.slice none 0 0) rfl
  have y2:=row_cell hqf (k:=2) (v:=.slice none 0 0) rfl
  have y3:=row_cell hqf (k:=3) (v:=.slice none 0 0) rfl
  rw [← hWf]
  simp [LeavesInM,LeavesIn,results,Tryz.results31,go_sem,hxf,y0,y1,y2,y3]
  rw [HV.out]
  exact quOff _ _ _ (by decide) hbf
 have x2:decide ((cl.length:Int) ≤ 4096) = true:=decide_eq_true (by omega)
 replace HE:=Lib.hid (HE.out.trans (if_neg (by omega)))
 go_wp2_with fail
 with_reducible refine (kneed_ok 2 _).mono ?_
 rintro e w6 ⟨rfl,rfl⟩
 clear x1 x2
 go_wp2_with fail
 with_reducible refine (ordered_any _ l vs _ HD.out).mono ?_
 rintro e w8 ⟨rfl,hb8⟩
 replace c0:=below_cell hb8 c0
 replace c1:=below_cell hb8 c1
 replace c2:=below_cell hb8 c2
 replace HG:=Lib.hid (HG.out.below hb8)
 replace HR:=Lib.hid (HR.out.below hb8)
 replace HO:=Lib.hid (HO.out.below hb8)
 replace HK:=Lib.hid (HK.out.below hb8)
 replace HD:=Lib.hid (HD.out.below hb8)
 replace HC:=Lib.hid (HC.out.below hb8)
 replace Q0:=Lib.hid ((hb8.block _ (row_lt Q0.out)).trans Q0.out)
 replace Q1:=Lib.hid ((hb8.block _ (row_lt Q1.out)).trans Q1.out)
 replace Q2:=Lib.hid ((hb8.block _ (row_lt Q2.out)).trans Q2.out)
 replace Q3:=Lib.hid ((hb8.block _ (row_lt Q3.out)).trans Q3.out)
 replace HB:=Lib.hid (HB.out.trans (hb8.mono HB.out.size))
 clear hb8
 cases hob:ordB l with
 | false =>
  have HV:=Lib.hid (HE.out.trans (if_pos hob))
  clear hob HE
  go_wp2_with fail
  with_reducible refine (kneed_bad 370 _ (by decide)).mono ?_
  rintro e w6 ⟨rfl,rfl⟩
  refine leavesM_caught ⟨w.heap.size + 1 + 1 + 1,0,none⟩ 0 370 _ (row_cell Q3.out rfl) (row_free Q3.out 0) ?_
  obtain ⟨Wf,hWf,hbf,hqf,hxf⟩:=err_end HB.out (show w.heap.size ≤ w.heap.size + 1 + 1 + 1 by omega) Q3.out Q2.out (show w.heap.size + 1 + 1 ≠ w.heap.size + 1 + 1 + 1 by omega) 370
  have y0:=row_cell hqf (k:=0) (v:=.int .i64 0) rfl
  have y1:=row_cell hqf (k:=1) (v:=.slice none 0 0) rfl
  have y2:=row_cell hqf (k:=2) (v:=.slice none 0 0) rfl
  have y3:=row_cell hqf (k:=3) (v:=.slice none 0 0) rfl
  rw [← hWf]
  simp [LeavesInM,LeavesIn,results,Tryz.results31,go_sem,hxf,y0,y1,y2,y3]
  rw [HV.out]
  exact quOff _ _ _ (by decide) hbf
 | true =>
 replace HE:=Lib.hid (HE.out.trans (if_neg (by rw [hob]; decide)))
 clear hob
 go_wp2_with fail
 with_reducible refine (kneed_ok 370 _).mono ?_
 rintro e w9 ⟨rfl,rfl⟩
 obtain ⟨W9,hW9,hb9,hm9,hr9,hs9⟩:=quMap w8
 have HI0:Hid (QuS w8 (rows.length:Int) (cl.take 0) W9):=Lib.hid ⟨⟨_,hm9,RowsC.nil _ _⟩,row_cell hr9 rfl,hb9,by omega⟩
 have HW9:=Lib.hid hW9
 clear hW9 hb9 hm9 hr9 hs9
 go_wp2_with (rw [← HW9.out])
 have hi0:=HI0.out
 clear HI0 HW9
 go_loopw [43] (fun i W => ∃ k:Nat,k ≤ cl.length ∧ i = .int .i64 k ∧ QuS w8 (rows.length:Int) (cl.take k) W) (fun i _ => cl.length - (intOf i).toNat)
 case atStart => exact ⟨0,Nat.zero_le _,rfl,hi0⟩
 case round =>
  clear hi0
  obtain ⟨k,hkl,rfl,hS⟩:=hrel
  by_cases hlt:k < cl.length
  ·obtain ⟨cb0,co0,ea,hcr,y0,y1,y2,y3,y4⟩:=(HC.out.below hS.be).at hlt
   subst ea
   have HTK:Hid (cl.take (k + 1) = cl.take k ++ [cl[k]]):=Lib.hid (List.take_succ_eq_append_getElem hlt)
   obtain ⟨c,hc⟩:∃ c,c = cl[k]:=⟨_,rfl⟩
   rw [← hc] at hcr y0 y1 y2 y3 y4 HTK
   obtain ⟨W6,hW6⟩:∃ W6,W6 = wr.alloc (.cells #[.int .i64 c.dealer,.int .i64 c.row,.int .i64 c.D,.int .i64 c.E,.int .i64 c.S] 34):=⟨_,rfl⟩
   have hb6:Below wr.heap.size wr W6:=by rw [hW6]; exact below_new _ _ _
   have hr6:W6.heap[wr.heap.size]? = some (.cells #[.int .i64 c.dealer,.int .i64 c.row,.int .i64 c.D,.int .i64 c.E,.int .i64 c.S] 34 (0,0)):=by rw [hW6]; exact World.alloc_heap_new _ _
   have z1:=row_cell hr6 (k:=1) (v:=.int .i64 c.row) rfl
   have p0:=below_cell (hS.be.trans (hb6.mono hS.be.size)) c0
   have HRD:=Lib.hid (show R64 c.dealer from hcr.dealer)
   have HW6:=Lib.hid hW6
   have HR6:=Lib.hid hr6
   have HB6:=Lib.hid hb6
   have HS:=Lib.hid hS
   have i0:(0:Int) ≤ (k:Int):=Int.natCast_nonneg k
   have i1:(k:Int) < (cl.length:Int):=by omega
   have HKL:Hid ((selC (rows.length:Int) (cl.take k) c.dealer).length ≤ 1000000):=Lib.hid (by
    have h1:=selC_len (rn:=(rows.length:Int)) (cl:=cl.take k) (n:=c.dealer)
    have h2:=List.length_take_le' k cl
    omega)
   clear hc hcr hW6 hr6 hb6 hS
   go_wp2_with (rw [← HW6.out])
   with_reducible refine (kbelow_any c.row (rows.length:Int) _).mono ?_
   rintro r w1 ⟨rfl,rfl⟩
   cases hbl:belowB c.row (rows.length:Int) with
   | false =>
    have HSE:=Lib.hid (selC_bad (cl:=cl.take k) hbl)
    clear hbl
    go_wp2_with fail
    go_roundw
    case rel =>
     refine ⟨k + 1,by omega,by go_num,?_⟩
     obtain ⟨⟨F,hm,hf⟩,htb,hbe,hbg⟩:=HS.out
     exact ⟨⟨F,hm.below HB6.out,by rw [HTK.out,HSE.out]; exact hf.below HB6.out⟩,below_cell HB6.out htb,hbe.trans (HB6.out.mono hbe.size),Nat.le_trans hbg HB6.out.size⟩
    case measure => simp [intOf]; omega
   | true =>
    have HSE:=Lib.hid (selC_ok (cl:=cl.take k) hbl)
    clear hbl
    obtain ⟨⟨F,hm,hf⟩,htb,hbe,hbg⟩:=HS.out
    have HKX:Hid (∀ v9,AppC w8.heap.size (w8.heap.size + 1) wr.heap.size (w8.heap.size + 1 + 1) F (selC (rows.length:Int) (cl.take k)) c false false v9 W6.drew):=Lib.hid (fun v9 =>
     ⟨fun _ => hm.below HB6.out.drew,(fun e => by cases e),fun _ => hf.below HB6.out.drew,(fun e => by cases e),fun j u hj => cmp_row (b:=wr.heap.size) (W:=W6.drew) HR6.out j u hj,below_cell HB6.out.drew htb,
      fun _ e => absurd (own_lt (hf.own c.dealer) _ e).2 (Nat.lt_irrefl _),by omega,by omega,by omega,Nat.lt_of_lt_of_le (row_lt HR6.out) (Nat.le_refl _),by omega⟩)
    clear hm hf htb hbe hbg
    go_wp2_with fail
    refine wp_region_flowsG (by kernel_rfl) (by kernel_rfl) (by kernel_rfl) (by kernel_rfl) (fun done v W => FQr11 W6 (w8.heap.size) ((w8.heap.size + 1)) (wr.heap.size) ((w8.heap.size + 1 + 1)) (F) ((selC (rows.length:Int) (cl.take k))) (c) done v W) (fun v => ?_) ?_ (fun v W h => ?_)
    ·exact ⟨(Below.refl _ _).drew,(fun h => by cases h),(fun h => by cases h),(fun h => by cases h),(fun h => by cases h),(fun h => by cases h),(fun h => by cases h),(fun h => by cases h),(fun h => by cases h),(fun h => by cases h),HKX.out _⟩
    ·refine ⟨?_,?_,?_,?_,?_,?_,?_,?_,?_,?_,?_,trivial⟩
     ·intro done v W A h hd hp hu hA hB hdf
      have e0:A.tmps[11]?.getD undef = .pointer (some ⟨(w8.heap.size + 1),0,none⟩):=hB 11 rfl
      have y0_:=h.bx.tab
      clear hA hB hp hu hdf
      go_simp
      exact ⟨_,rfl,{ h with f0:=(fun _ => rfl) }⟩
     ·intro done v W A h hd hp hu hA hB hdf
      have e0:A.tmps[13]?.getD undef = .pointer (some ⟨wr.heap.size,0,none⟩):=hB 13 rfl
      clear hA hB hp hu hdf
      go_simp
      exact ⟨_,rfl,{ h with f1:=(fun _ => rfl) }⟩
     ·intro done v W A h hd hp hu hA hB hdf
      have hd1:done 1 = true:=hp 1 rfl
      have e0:=(hA 1 54 rfl hd1).trans (h.f1 hd1)
      have y0_:=h.bx.cell 0 _ rfl
      clear hA hB hp hu hdf
      go_simp
      exact ⟨_,rfl,{ h with f2:=(fun _ => rfl) }⟩
     ·intro done v W A h hd hp hu hA hB hdf
      have e0:A.tmps[11]?.getD undef = .pointer (some ⟨(w8.heap.size + 1),0,none⟩):=hB 11 rfl
      have y0_:=h.bx.tab
      clear hA hB hp hu hdf
      go_simp
      exact ⟨_,rfl,{ h with f3:=(fun _ => rfl) }⟩
     ·intro done v W A h hd hp hu hA hB hdf
      have e0:A.tmps[13]?.getD undef = .pointer (some ⟨wr.heap.size,0,none⟩):=hB 13 rfl
      clear hA hB hp hu hdf
      go_simp
      exact ⟨_,rfl,{ h with f4:=(fun _ => rfl) }⟩
     ·intro done v W A h hd hp hu hA hB hdf
      have hd4:done 4 = true:=hp 4 rfl
      have e0:=(hA 4 57 rfl hd4).trans (h.f4 hd4)
      have y0_:=h.bx.cell 0 _ rfl
      clear hA hB hp hu hdf
      go_simp
      exact ⟨_,rfl,{ h with f5:=(fun _ => rfl) }⟩
     ·intro done v W A h hd hp hu hA hB hdf
      have n10_6:done 10 = false:=flow_not (fun hj => hu 10 6 rfl (hj)) hd
      have hd3:done 3 = true:=hp 3 rfl
      have hd5:done 5 = true:=hp 5 rfl
      have e0:=(hA 3 56 rfl hd3).trans (h.f3 hd3)
      have e1:=(hA 5 58 rfl hd5).trans (h.f5 hd5)
      have mp:=h.bx.map0 n10_6
      refine look_map_wp 125 62 56 58 rfl Tryz.underlying125 mp (zeroC W) HRD.out e0 e1 ?_
      exact ⟨_,rfl,{ h with f6:=(fun _ => rfl) }⟩
     ·intro done v W A h hd hp hu hA hB hdf
      have e0:A.tmps[13]?.getD undef = .pointer (some ⟨wr.heap.size,0,none⟩):=hB 13 rfl
      have y0_:=h.bx.cell 0 _ rfl
      have y1_:=h.bx.cell 1 _ rfl
      have y2_:=h.bx.cell 2 _ rfl
      have y3_:=h.bx.cell 3 _ rfl
      have y4_:=h.bx.cell 4 _ rfl
      clear hA hB hp hu hdf
      go_simp
      exact ⟨_,rfl,{ h with f7:=(fun _ => rfl) }⟩
     ·intro done v W A h hd hp hu hA hB hdf
      have hd7:done 7 = true:=hp 7 rfl
      have e0:=(hA 7 60 rfl hd7).trans (h.f7 hd7)
      have hb:=below_new W #[.int .i64 c.dealer,.int .i64 c.row,.int .i64 c.D,.int .i64 c.E,.int .i64 c.S] 34
      clear hA hB hp hu hdf
      go_simp
      exact ⟨_,rfl,{ h with b:=h.b.trans (hb.mono (Nat.le_trans (Nat.le_of_lt h.bx.lt.1) h.bx.big)),f8:=(fun _ _ => CmpBox.new W c 34),bx:=(h.bx.below hb) }⟩
     ·intro done v W A h hd hp hu hA hB hdf
      have n10_9:done 10 = false:=flow_not (fun hj => hu 10 9 rfl (hj)) hd
      have hd6:done 6 = true:=hp 6 rfl
      have hd8:done 8 = true:=hp 8 rfl
      have m7:=h.f8 hd8 hd
      obtain ⟨b7,c7,e7,hc7⟩:=m7
      have e1:=(hA 6 59 rfl hd6).trans (h.f6 hd6)
      have e2:=(hA 8 61 rfl hd8).trans e7
      have ow:=(h.bx.rows0 hd).own c.dealer
      have hbg:=h.bx.big
      have bx0:=h.bx
      have hlt0:=Nat.le_of_lt h.bx.lt.1
      refine app_cmp_wp rfl _ _ rfl (w8.heap.size + 1 + 1) _ _ _ e1 ow b7 c7 c e2 hc7 HKL.out hbg ?_
      intro g cap8 wq8 h8 o8
      have bx8:=bx0.app hd n10_9 o8 h8
      exact ⟨_,rfl,{ h with b:=h.b.trans ((own_below ow o8.1 hbg).mono hlt0),f8:=(fun _ h2 => absurd (show true = false from h2) (by decide)),bx:=(bx8) }⟩
     ·intro done v W A h hd hp hu hA hB hdf
      have hd0:done 0 = true:=hp 0 rfl
      have hd2:done 2 = true:=hp 2 rfl
      have hd9:done 9 = true:=hp 9 rfl
      have e0:=(hA 0 53 rfl hd0).trans (h.f0 hd0)
      have e1:=(hA 2 55 rfl hd2).trans (h.f2 hd2)
      have e2:=hA 9 62 rfl hd9
      have mp:=h.bx.map0 hd
      have bx0:=h.bx
      refine put_map_wp 125 62 53 55 62 rfl Tryz.underlying125 mp HRD.out (v 9) e0 e1 e2 ?_
      rintro wq hm ⟨ob,eb⟩ hk
      have hz:wq.heap.size = W.heap.size:=by rw [eb]; simp [Go.ChangeMaps.setBlock]
      have bq:Below w8.heap.size W6 wq:=by rw [eb]; exact below_turn h.b (Nat.le_refl _)
      have bx9:=bx0.turn hd9 hm hz hk
      exact ⟨undef,rfl,{ h with b:=bq,f8:=(fun _ h2 => absurd (hd9.symm.trans h2) (by decide)),bx:=(bx9) }⟩
    simp only [putL,Act.put,Nat.reduceAdd,List.setIfInBounds_toArray,List.set_cons_zero,List.set_cons_succ]
    have hbr:=h.b
    have hbx:=h.bx
    clear h
    go_wp2_with fail
    go_roundw
    case rel =>
     refine ⟨k + 1,by omega,by go_num,?_⟩
     obtain ⟨-,htb,hbe,hbg⟩:=HS.out
     exact ⟨⟨_,hbx.map1 rfl,by rw [HTK.out,HSE.out]; exact hbx.rows1 rfl⟩,hbx.tab,hbe.trans ((HB6.out.mono hbe.size).trans hbr),Nat.le_trans hbg (Nat.le_trans HB6.out.size hbr.size)⟩
    case measure => simp [intOf]; omega
  ·obtain rfl:k = cl.length:=by omega
   rw [List.take_length] at hS
   obtain ⟨⟨F,hm,hf⟩,htb,hbe,hbg⟩:=hS
   replace c0:=below_cell hbe c0
   replace c1:=below_cell hbe c1
   replace c2:=below_cell hbe c2
   replace HG:=Lib.hid (HG.out.below hbe)
   replace HR:=Lib.hid (HR.out.below hbe)
   replace HO:=Lib.hid (HO.out.below hbe)
   replace HK:=Lib.hid (HK.out.below hbe)
   replace HD:=Lib.hid (HD.out.below hbe)
   replace HC:=Lib.hid (HC.out.below hbe)
   replace Q0:=Lib.hid ((hbe.block _ (row_lt Q0.out)).trans Q0.out)
   replace Q1:=Lib.hid ((hbe.block _ (row_lt Q1.out)).trans Q1.out)
   replace Q2:=Lib.hid ((hbe.block _ (row_lt Q2.out)).trans Q2.out)
   replace Q3:=Lib.hid ((hbe.block _ (row_lt Q3.out)).trans Q3.out)
   replace HB:=Lib.hid (HB.out.trans (hbe.mono HB.out.size))
   obtain ⟨w1,rfl⟩:∃ x,x = wr:=⟨_,rfl⟩
   have HMZ:=Lib.hid hm
   have HRC:=Lib.hid hf
   have HBG:=Lib.hid hbg
   have Q3w:=Lib.hid Q3.out
   obtain ⟨W13,hW13,hb13,hr13,ho13,hs13⟩:=quTail w1 (.slice a1 rows.length k1) (.slice a2 owners.length k2)
   obtain ⟨W15,hW15,hb15,hp15,hd15,hs15⟩:=quBox2 W13 (.slice a1 rows.length k1) (.slice a2 owners.length k2) (.slice a4 l.length k4)
   have d0:=below_cell hb13 c0
   have d1:=below_cell hb13 c1
   have HI0:Hid (QuI w1 (.slice a1 rows.length k1) (.slice a2 owners.length k2) (.slice a4 l.length k4) (qj rows owners keys cl l 0) W15):=Lib.hid ⟨.slice none 0 0,.slice none 0 0,hb13.trans (hb15.mono hb13.size),(hb15.block _ (row_lt hr13)).trans hr13,(hb15.block _ (row_lt ho13)).trans ho13,
    by rw [hs13] at hp15; exact hp15,by rw [hs13] at hd15; exact hd15,World.ownsRow_nil _ _ _ _,World.ownsRow_nil _ _ _ _,fun g e => by cases e⟩
   have HS15:Hid (w1.heap.size + 4 ≤ W15.heap.size):=Lib.hid (by omega)
   have HW13:=Lib.hid hW13
   have HS13:=Lib.hid hs13
   have HW15:=Lib.hid hW15
   have t0:=htb
   have HCR:=Lib.hid (show ∀ c ∈ cl,CmpR c from by obtain ⟨_,_,_,_,_,hr,_⟩:=HC.out; exact hr)
   clear hm hf htb hbe hbg hW13 hb13 hr13 ho13 hs13 hW15 hb15 hp15 hd15 hs15
   go_wp2_with (rw [← HW13.out])
   with_reducible refine (rights_any _ _ a4 l.length k4 _ ⟨_,_,_,rfl⟩ ⟨_,_,_,rfl⟩).mono ?_
   rintro e w15 ⟨rfl,rfl⟩
   rw [← HW15.out,HS13.out]
   clear d0 d1 HW15 HW13 HS13
   go_wp2_with fail
   refine wp_range9 (gf:=169) (lb:=#[.pointer (some ⟨w1.heap.size + 1 + 1 + 1,0,none⟩),.pointer (some ⟨w1.heap.size + 1 + 1,0,none⟩)]) (N:=(fineI rows l l.length).length)
    (encs:=fun j => #[.int .i64 (qd rows l j).dealer,.agg #[.int .i64 (qd rows l j).dealer,(vs (qx rows l j)).1,(vs (qx rows l j)).2]]) rfl rights1_goes (fun _ => rfl)
    (fun j => QuI w1 (.slice a1 rows.length k1) (.slice a2 owners.length k2) (.slice a4 l.length k4) (qj rows owners keys cl l j)) ?seq ?simI HI0.out
    (fun j X t => (((t.setIfInBounds 69 (.int .i64 (qd rows l j).dealer)).setIfInBounds 70 (.agg #[.int .i64 (qd rows l j).dealer,(vs (qx rows l j)).1,(vs (qx rows l j)).2])).setIfInBounds 16 (.int .i64 (qd rows l j).dealer)).setIfInBounds 17 (.pointer (some ⟨X,0,none⟩)))
    (fun j X W => QuI w1 (.slice a1 rows.length k1) (.slice a2 owners.length k2) (.slice a4 l.length k4) (qj rows owners keys cl l j) W ∧ w1.heap.size + 4 ≤ X ∧ W.heap[X]? = some (.cells #[.int .i64 (qd rows l j).dealer,(vs (qx rows l j)).1,(vs (qx rows l j)).2] 28 (0,0))) ?simM ?assign ?body ?done
   case seq => exact rights1_iterates w1 (w1.heap.size + 1 + 1 + 1) (w1.heap.size + 1 + 1) _ _ _ rows l vs HR.out ⟨_,_,_,rfl⟩ HD.out _ (fun j W h => by
    obtain ⟨L,V,h⟩:=h
    exact ⟨h.be,row_cell h.ds rfl,row_cell h.pr rfl,row_cell h.pr rfl⟩)
   case simI => exact fun j W W' h hs => h.sim (by have:=HS15.out; omega) hs
   case simM => exact fun j X W W' ⟨h,h2,h3⟩ hs => ⟨h.sim (by have:=HS15.out; omega) hs,h2,hs.cells _ _ h3 rfl⟩
   case assign =>
    intro ll j W K hI hlt hK
    obtain ⟨hi,-,-⟩:=qx_at hlt
    obtain ⟨_,_,-,hat⟩:=HD.out.at hi
    obtain ⟨ca,cc,e1,-⟩:=hat.cs
    obtain ⟨pa,pc,e2,-⟩:=hat.ps
    rw [e1,e2] at hK ⊢
    gi_wp2
    obtain ⟨L,V,h⟩:=hI
    exact hK W.heap.size _ ⟨⟨L,V,h.below (below_new _ _ _)⟩,h.big,World.alloc_heap_new _ _⟩ (KeepsL.alloc _ _)
   case body =>
    intro ll j X Wb hM hlt
    obtain ⟨⟨L,V,hV⟩,hX4,hX⟩:=hM
    obtain ⟨hi,hdd,hfd⟩:=qx_at hlt
    obtain ⟨_,_,-,hat⟩:=HD.out.at hi
    rw [← hdd] at hfd hat
    have HQS:=Lib.hid (qj_succ (owners:=owners) (keys:=keys) (cl:=cl) hlt)
    generalize (vs (qx rows l j)).1 = v1 at *
    generalize (vs (qx rows l j)).2 = v2 at *
    obtain ⟨d,hd⟩:∃ d,d = qd rows l j:=⟨_,rfl⟩
    rw [← hd] at hfd hat hX HQS
    simp only [← hd]
    clear hdd hd
    obtain ⟨ca,cc,rfl,-,hl6,-⟩:=id hat.cs
    obtain ⟨pa,pc,rfl,-⟩:=id hat.ps
    have HFD:=Lib.hid (fineB_iff.1 hfd)
    have HAT:=Lib.hid hat
    have HV:=Lib.hid hV
    have HX:=Lib.hid hX
    have HDR:=Lib.hid (show R64 d.dealer from hat.r)
    have hmk:=(HMZ.out.below (w':=Wb) (hV.be.mono (Nat.le_of_eq rfl)))
    have hlk:=hmk.look Tryz.underlying125 (zeroC Wb) HDR.out
    have hcm:Cmps Wb (valF F d.dealer) (selC (rows.length:Int) cl d.dealer):=(HRC.out.below hV.be).cmps _ (fun c hc => HCR.out c (List.mem_filter.1 hc).1) (by have:=selC_len (rn:=(rows.length:Int)) (cl:=cl) (n:=d.dealer); omega)
    have g0:=below_cell hV.be t0
    have HCF:Hid (Calls Tryz.prog 103 #[valF F d.dealer,.func (.func 102) #[] #[.pointer (some ⟨w.heap.size,0,none⟩),.pointer (some ⟨w.heap.size + 1,0,none⟩),.pointer (some ⟨X,0,none⟩)]] Wb fun e w' => e = .returned (.bool ((selC (rows.length:Int) cl d.dealer).any (setB rows owners keys d))) ∧ Below Wb.heap.size Wb w'):=Lib.hid
     (containsFuncC_any _ _ (setB rows owners keys d) _ _ Wb hcm qual1_goes (fun c hc w' hb' => by
      have hbb:=hV.be.trans (hb'.mono hV.be.size)
      have h1:=(List.mem_filter.1 hc).2
      rw [Bool.and_eq_true] at h1
      have h2:=h1.2
      unfold belowB at h2
      rw [Bool.and_eq_true,decide_eq_true_eq,decide_eq_true_eq] at h2
      exact qual1_any w.heap.size (w.heap.size + 1) X _ _ _ _ _ rows owners keys d c w' (HG.out.below hbb) (HR.out.below hbb) (HO.out.below hbb) (HK.out.below hbb) (hat.cs.below hbb) (hat.ps.below hbb) (below_cell hbb c0) (below_cell hbb c1) (below_cell hbb c2) (below_cell hb' (row_cell hX rfl)) (below_cell hb' (row_cell hX rfl)) (below_cell hb' (row_cell hX rfl)) (HCR.out c (List.mem_filter.1 hc).1) h2 HPO.out.len (fun o h => (HPO.out.own o h).1) HKO.out))
    rw [sel_any] at HCF
    simp only [List.setIfInBounds_toArray,List.set_cons_succ,List.set_cons_zero]
    clear hV hfd hat hX hmk hcm
    gi_wp2
    refine ⟨trivial,rfl,CallsIn.mono (CallsIn.inRound ll ((callsIn_wide (n:=0)).2 HCF.out)) ?_⟩
    rintro e W3 ⟨rfl,hb3⟩
    clear HCF hlk g0
    have HV3:=Lib.hid (HV.out.below hb3)
    have HX3:=Lib.hid ((hb3.block _ (row_lt HX.out)).trans HX.out)
    have HK3:=Lib.hid (keepsL_of_below hb3)
    clear hb3
    cases hany:cl.any (kcntB rows owners keys d) with
    | true =>
     replace HQS:=Lib.hid (HQS.out.trans (if_neg (by unfold ppB; rw [hany]; decide)))
     clear hany
     gi_wp2
     exact ⟨HK3.out,_,_,by rw [HQS.out]; exact HV3.out⟩
    | false =>
    replace HQS:=Lib.hid (HQS.out.trans (if_pos (by unfold ppB; rw [hany]; decide)))
    clear hany
    have HQL:Hid ((qj rows owners keys cl l j).length ≤ l.length):=Lib.hid qj_len
    have HQF:Hid (∀ x ∈ qj rows owners keys cl l j,FineD rows x):=Lib.hid qj_fine
    generalize qj rows owners keys cl l j = q at *
    have x0:W3.cell? ⟨w1.heap.size + 1,0,none⟩ = some L:=row_cell HV3.out.ro rfl
    have x1:W3.cell? ⟨X,1,none⟩ = some (.slice ca d.cs.length cc):=row_cell HX3.out rfl
    have x2:W3.cell? ⟨w1.heap.size,3,none⟩ = some V:=row_cell HV3.out.rk rfl
    have z2:=row_free HV3.out.rk 3
    have HCS:=Lib.hid (HAT.out.cs.below HV3.out.be)
    obtain ⟨hcel,hcl⟩:=comB_el HFD.out.com
    have HCE:=Lib.hid hcel
    have HD1:Hid ((dlrL q).length ≤ 64):=Lib.hid (by rw [dlrL_len]; have:=HQL.out; omega)
    have HCN:=Lib.hid hcl
    clear hcel hcl
    cases q with
    | nil =>
     obtain ⟨La,Lc,rfl⟩:=own_form HV3.out.oL
     have hcp:0 < d.cs.length:=by
      rw [HCN.out]; exact HPO.out.cols
     obtain ⟨cb,co,rfl⟩:∃ b o,ca = some ⟨b,o,none⟩:=by
      obtain ⟨b,o,e,-⟩:=ints_at HCS.out hcp
      exact ⟨b,o,e⟩
     clear hcp
     have HCL:=Lib.hid (clone_any _ d.cs W3 HCS.out ⟨_,_,_,_,rfl⟩)
     gi_wp2
     refine ⟨trivial,rfl,CallsIn.mono (CallsIn.inRound ll ((callsIn_wide (n:=0)).2 HCL.out)) ?_⟩
     rintro e W4 ⟨V5,rfl,hv5,hb4⟩
     clear HCL
     obtain ⟨Va,Vc,rfl⟩:=own_form hv5
     have y2:W4.cell? ⟨w1.heap.size,3,none⟩ = some V:=below_cell hb4 x2
     have z4:=frozen_later hb4 x2 z2
     obtain ⟨W5,hW5⟩:∃ x,x = W4.setCell ⟨w1.heap.size,3,none⟩ (.slice Va d.cs.length Vc):=⟨_,rfl⟩
     have HV5:Hid (QuV w1 (.slice a1 rows.length k1) (.slice a2 owners.length k2) (.slice a4 l.length k4) (.slice La (dlrL []).length Lc) (.slice Va d.cs.length Vc) (dlrL []) (comL ([] ++ [d])) W5):=Lib.hid (by rw [hW5]; exact HV3.out.first hb4 hv5)
     have HK5:Hid (KeepsL Wb W5):=Lib.hid (by rw [hW5]; exact HK3.out.trans ((keepsL_of_below hb4).trans (KeepsL.setCell _ _ _)))
     have HW5:=Lib.hid hW5
     clear hW5 hv5 hb4
     have u0:W5.cell? ⟨w1.heap.size + 1,0,none⟩ = some _:=row_cell HV5.out.ro rfl
     obtain ⟨W6,hW6⟩:∃ x,x = W5.alloc (.cells #[.int .i64 d.dealer] 3):=⟨_,rfl⟩
     have hb6:Below W5.heap.size W5 W6:=by rw [hW6]; exact below_new _ _ _
     have HC6:Hid (W6.cell? ⟨W5.heap.size,0,none⟩ = some (.int .i64 d.dealer)):=Lib.hid (by rw [hW6]; exact row_cell (World.alloc_heap_new _ _) rfl)
     have HV6:=Lib.hid (HV5.out.below hb6)
     have HK6:=Lib.hid (HK5.out.trans (keepsL_of_below hb6))
     have HW6:=Lib.hid hW6
     have HN6:Hid ((dlrL []).length ≤ 1000000):=Lib.hid (by have:=HD1.out; omega)
     clear hb6 hW6
     gi_wp2_with (first | rw [← HW5.out] | rw [← HW6.out] | (gi_at_builtin; refine app_int_in rfl _ _ rfl (w1.heap.size + 4) _ _ _ rfl HV6.out.oL W5.heap.size 1 d.dealer rfl HC6.out HN6.out HV6.out.big ?_; intro v8 w9 h8 g8 l8; have r8:=((own_below HV6.out.oL g8 HV6.out.big).block _ (by omega)).trans HV6.out.ro; have y8:w9.cell? ⟨w1.heap.size + 1,0,none⟩ = some _:=row_cell r8 rfl; have f8:=row_free r8 0; have H8:=Lib.hid h8; have G8:=Lib.hid g8; have L8:=Lib.hid l8; obtain ⟨g9,k9,c9,hv8⟩:=own_is h8; subst hv8; clear h8 g8 l8 r8))
     have hm:=HV6.out.more (z:=d.dealer) G8.out H8.out L8.out
     rw [← dlrL_snoc] at hm
     refine (show KeepsL Wb _ ∧ QuI w1 _ _ _ (qj rows owners keys cl l (j + 1)) _ from ?_)
     rw [HQS.out]
     exact ⟨HK6.out.trans ((keepsL_grown HV6.out.oL G8.out).trans (KeepsL.setCell _ _ _)),_,_,hm⟩
    | cons q0 qs =>
     obtain ⟨La,Lc,rfl⟩:=own_form HV3.out.oL
     have HCM:=Lib.hid (comL_com (L:=q0 :: qs) (by simp) HQF.out)
     obtain ⟨n,hn⟩:∃ n,n = (comL (q0 :: qs)).length:=⟨_,rfl⟩
     have hnd:n = d.cs.length:=hn.trans (HCM.out.2.trans HCN.out.symm)
     obtain ⟨g,cap,hVe,-,-,-⟩:=own_at37 HV3.out.oV (by rw [HCM.out.2]; exact HPO.out.cols)
     rw [← hn] at hVe
     subst hVe
     have HNE:=Lib.hid hn
     have HND:=Lib.hid hnd
     have n0:((dlrL (q0 :: qs)).length == 0) = false:=rfl
     have n1:(((dlrL (q0 :: qs)).length:Int) == 0) = false:=beq_eq_false_iff_ne.2 (by rw [dlrL_len]; simp; omega)
     clear hn hnd
     gi_wp2
     gi_loopw [19,20,87] (fun _ _ i Y => ∃ k:Nat,k ≤ d.cs.length ∧ i = .int .i64 k ∧ QuV w1 (.slice a1 rows.length k1) (.slice a2 owners.length k2) (.slice a4 l.length k4) (.slice La (dlrL (q0 :: qs)).length Lc) (.slice (some ⟨g,0,none⟩) n cap) (dlrL (q0 :: qs)) (mulK (comL (q0 :: qs)) d.cs k) Y ∧ KeepsL Wb Y) (fun _ _ i _ => d.cs.length - (intOf i).toNat)
     case atStart => exact ⟨0,Nat.zero_le _,rfl,by rw [mulK_zero]; exact HV3.out,HK3.out⟩
     case round =>
      obtain ⟨k,hkl,rfl,hv,hk⟩:=hrel
      by_cases hlt2:k < d.cs.length
      ·obtain ⟨b2,o2,ea,q2⟩:=ints_at (HAT.out.cs.below hv.be) hlt2
       subst ea
       have hkc:k < (comL (q0 :: qs)).length:=by rw [← HNE.out,HND.out]; exact hlt2
       have ho:=hv.oV
       rw [mulK_len,← HNE.out] at ho
       have hgx:((mulK (comL (q0 :: qs)) d.cs k).map (Value.int .i64))[k]? = some (.int .i64 (nth (comL (q0 :: qs)) k)):=by
        rw [List.getElem?_map,List.getElem?_eq_getElem (by rw [mulK_len]; exact hkc),← mulK_at (b:=d.cs) hkc,nth_at (by rw [mulK_len]; exact hkc)]; rfl
       have hg0:=own_g37 ho (by rw [HND.out]; exact hlt2) hgx
       clear ho hgx
       obtain ⟨hgs,hgc,hgf⟩:=hg0
       have hpc:wr.cell? ⟨w1.heap.size,3,none⟩ = some (.slice (some ⟨g,0,none⟩) n cap):=row_cell hv.rk rfl
       have hae:El (nth (comL (q0 :: qs)) k):=by rw [nth_at hkc]; exact HCM.out.1 _ (List.getElem_mem hkc)
       have hze:El d.cs[k]:=HCE.out _ (List.getElem_mem hlt2)
       have hms:=mulK_set (a:=comL (q0 :: qs)) (b:=d.cs) hkc
       rw [nth_at hlt2] at hms
       obtain ⟨z,hz⟩:∃ z,z = d.cs[k]:=⟨_,rfl⟩
       obtain ⟨a,ha⟩:∃ a,a = nth (comL (q0 :: qs)) k:=⟨_,rfl⟩
       rw [← hz] at q2 hze hms
       rw [← ha] at hgc hae hms
       have HMU:Hid (∀ W,Calls Tryz.prog 40 #[.int .i64 a,.int .i64 z] W fun r w' => r = .returned (.tuple #[.int .i64 (a * z % 2147483579),.int .i64 0]) ∧ Below W.heap.size W w'):=Lib.hid (fun W => (mul_yes a z W hae hze).mono fun r w' h => ⟨h.1,h.2 ▸ Below.refl _ _⟩)
       obtain ⟨m,hm⟩:∃ m,m = a * z % 2147483579:=⟨_,rfl⟩
       rw [← hm] at hms HMU
       have HMS:Hid (∀ W,Calls Tryz.prog 86 #[.int .i64 m,.int .i64 0] W fun r w' => r = .returned (.int .i64 m) ∧ Below W.heap.size W w'):=Lib.hid (fun W => (kmust_ok m W).mono fun r w' h => ⟨h.1,h.2 ▸ Below.refl _ _⟩)
       have HMK:=Lib.hid hms
       have HGL:=Lib.hid hgs
       have HLT:=Lib.hid hlt2
       have HZC:Hid (wr.drew.cell? ⟨w1.heap.size,3,none⟩ = some (.slice (some ⟨g,0,none⟩) n cap) ∧ wr.drew.cell? ⟨g,k,none⟩ = some (.int .i64 a)):=Lib.hid ⟨hpc,hgc⟩
       have HFR:Hid (wr.drew.frozen? ⟨g,k,none⟩ = false):=Lib.hid hgf
       have HST:Hid (OneSet wr g k (.int .i64 m) false wr.drew):=Lib.hid ⟨⟨wr.drew,(Below.refl _ _).drew,by simp⟩⟩
       have HVK:=Lib.hid hv
       have HKK:=Lib.hid hk
       have i0:(0:Int) ≤ (k:Int):=Int.natCast_nonneg k
       have i1:(k:Int) < (d.cs.length:Int):=by omega
       have i2:(k:Int) < (n:Int):=by rw [HND.out]; exact i1
       clear hm ha hz hms hae hze hpc hgf hgc hgs hkc hv hk
       gi_wp2
       refine wpIn_region_flowsG (by kernel_rfl) (fun ⟨_,_,h⟩ => h) (by kernel_rfl) (by kernel_rfl) (by kernel_rfl) (by kernel_rfl) (fun done v W => FQr25 wr (w1.heap.size) (g) (n) (cap) (k) (a) (z) (m) done v W) (fun v => ?_) ?_ (fun v W h => ?_)
       ·exact ⟨(Below.refl _ _).drew,(fun h => by cases h),(fun h => by cases h),(fun h => by cases h),(fun h => by cases h),(fun h => by cases h),(fun h => by cases h),(fun h => by cases h),(fun h => by cases h),(fun h => by cases h),(fun h => by cases h),(fun h => by cases h),(fun h => by cases h),(fun h => by cases h),(fun h => by cases h),(fun _ => HZC.out),(fun _ => HFR.out),HST.out⟩
       ·refine ⟨?_,?_,?_,?_,?_,?_,?_,?_,?_,?_,?_,?_,?_,?_,?_,trivial⟩
        ·intro done v W A h hd hp hu hA hB hdf
         have e0:A.tmps[14]?.getD undef = .pointer (some ⟨w1.heap.size,0,none⟩):=hB 14 rfl
         clear hA hB hp hu hdf
         go_simp
         exact ⟨_,rfl,{ h with f0:=(fun _ => rfl) }⟩
        ·intro done v W A h hd hp hu hA hB hdf
         have n14_1:done 14 = false:=flow_not (fun hj => hu 14 1 rfl (hj)) hd
         have hd0:done 0 = true:=hp 0 rfl
         have e0:=(hA 0 92 rfl hd0).trans (h.f0 hd0)
         have y0_:=(h.zc n14_1).1
         clear hA hB hp hu hdf
         go_simp
         exact ⟨_,rfl,{ h with f1:=(fun _ => rfl) }⟩
        ·intro done v W A h hd hp hu hA hB hdf
         have e0:A.tmps[19]?.getD undef = .int .i64 (k:Int):=hB 19 rfl
         clear hA hB hp hu hdf
         go_simp
         exact ⟨_,rfl,{ h with f2:=(fun _ => rfl) }⟩
        ·intro done v W A h hd hp hu hA hB hdf
         have e0:A.tmps[14]?.getD undef = .pointer (some ⟨w1.heap.size,0,none⟩):=hB 14 rfl
         clear hA hB hp hu hdf
         go_simp
         exact ⟨_,rfl,{ h with f3:=(fun _ => rfl) }⟩
        ·intro done v W A h hd hp hu hA hB hdf
         have n14_4:done 14 = false:=flow_not (fun hj => hu 14 4 rfl (hj)) hd
         have hd3:done 3 = true:=hp 3 rfl
         have e0:=(hA 3 95 rfl hd3).trans (h.f3 hd3)
         have y0_:=(h.zc n14_4).1
         clear hA hB hp hu hdf
         go_simp
         exact ⟨_,rfl,{ h with f4:=(fun _ => rfl) }⟩
        ·intro done v W A h hd hp hu hA hB hdf
         have e0:A.tmps[19]?.getD undef = .int .i64 (k:Int):=hB 19 rfl
         clear hA hB hp hu hdf
         go_simp
         exact ⟨_,rfl,{ h with f5:=(fun _ => rfl) }⟩
        ·intro done v W A h hd hp hu hA hB hdf
         have hd4:done 4 = true:=hp 4 rfl
         have hd5:done 5 = true:=hp 5 rfl
         have e0:=(hA 4 96 rfl hd4).trans (h.f4 hd4)
         have e1:=(hA 5 97 rfl hd5).trans (h.f5 hd5)
         clear hA hB hp hu hdf
         go_simp
         exact ⟨_,rfl,{ h with f6:=(fun _ => rfl) }⟩
        ·intro done v W A h hd hp hu hA hB hdf
         have n14_7:done 14 = false:=flow_not (fun hj => hu 14 7 rfl (hj)) hd
         have hd6:done 6 = true:=hp 6 rfl
         have e0:=(hA 6 98 rfl hd6).trans (h.f6 hd6)
         have y0_:=(h.zc n14_7).2
         clear hA hB hp hu hdf
         go_simp
         exact ⟨_,rfl,{ h with f7:=(fun _ => rfl) }⟩
        ·intro done v W A h hd hp hu hA hB hdf
         have e0:A.tmps[20]?.getD undef = .int .i64 z:=hB 20 rfl
         clear hA hB hp hu hdf
         go_simp
         exact ⟨_,rfl,{ h with f8:=(fun _ => rfl) }⟩
        ·intro done v W A h hd hp hu hA hB hdf
         have n14_9:done 14 = false:=flow_not (fun hj => hu 14 9 rfl (hj)) hd
         have hd7:done 7 = true:=hp 7 rfl
         have hd8:done 8 = true:=hp 8 rfl
         have e0:=(hA 7 99 rfl hd7).trans (h.f7 hd7)
         have e1:=(hA 8 100 rfl hd8).trans (h.f8 hd8)
         have n14:=n14_9
         clear hA hB hp hu hdf
         go_simp
         with_reducible refine (HMU.out W).mono ?_
         rintro e wq ⟨rfl,hb⟩
         exact ⟨_,rfl,{ h with b:=h.b.trans (hb.mono (Nat.le_of_lt (Nat.lt_of_lt_of_le HGL.out (h.st.size)))),f9:=(fun _ => rfl),zc:=((fun h1 => ⟨below_cell hb (h.zc h1).1,below_cell hb (h.zc h1).2⟩)),fr:=((fun h1 => frozen_later hb (h.zc h1).2 (h.fr h1))),st:=((h.st.below n14 hb)) }⟩
        ·intro done v W A h hd hp hu hA hB hdf
         have hd9:done 9 = true:=hp 9 rfl
         have e0:=(hA 9 101 rfl hd9).trans (h.f9 hd9)
         clear hA hB hp hu hdf
         go_simp
         exact ⟨_,rfl,{ h with f10:=(fun _ => rfl) }⟩
        ·intro done v W A h hd hp hu hA hB hdf
         have hd9:done 9 = true:=hp 9 rfl
         have e0:=(hA 9 101 rfl hd9).trans (h.f9 hd9)
         clear hA hB hp hu hdf
         go_simp
         exact ⟨_,rfl,{ h with f11:=(fun _ => rfl) }⟩
        ·intro done v W A h hd hp hu hA hB hdf
         have n14_12:done 14 = false:=flow_not (fun hj => hu 14 12 rfl (hj)) hd
         have hd10:done 10 = true:=hp 10 rfl
         have hd11:done 11 = true:=hp 11 rfl
         have e0:=(hA 10 102 rfl hd10).trans (h.f10 hd10)
         have e1:=(hA 11 103 rfl hd11).trans (h.f11 hd11)
         have n14:=n14_12
         clear hA hB hp hu hdf
         go_simp
         with_reducible refine (HMS.out W).mono ?_
         rintro e wq ⟨rfl,hb⟩
         exact ⟨_,rfl,{ h with b:=h.b.trans (hb.mono (Nat.le_of_lt (Nat.lt_of_lt_of_le HGL.out (h.st.size)))),f12:=(fun _ => rfl),zc:=((fun h1 => ⟨below_cell hb (h.zc h1).1,below_cell hb (h.zc h1).2⟩)),fr:=((fun h1 => frozen_later hb (h.zc h1).2 (h.fr h1))),st:=((h.st.below n14 hb)) }⟩
        ·intro done v W A h hd hp hu hA hB hdf
         have hd1:done 1 = true:=hp 1 rfl
         have hd2:done 2 = true:=hp 2 rfl
         have e0:=(hA 1 93 rfl hd1).trans (h.f1 hd1)
         have e1:=(hA 2 94 rfl hd2).trans (h.f2 hd2)
         clear hA hB hp hu hdf
         go_simp
         exact ⟨_,rfl,{ h with f13:=(fun _ => rfl) }⟩
        ·intro done v W A h hd hp hu hA hB hdf
         have hd12:done 12 = true:=hp 12 rfl
         have hd13:done 13 = true:=hp 13 rfl
         have e1:=(hA 13 105 rfl hd13).trans (h.f13 hd13)
         have e2:=(hA 12 104 rfl hd12).trans (h.f12 hd12)
         have u3:=(h.zc hd).2
         have g3:=h.fr hd
         have s9:=h.st.put hd k (.int .i64 m)
         clear hA hB hp hu hdf
         go_simp
         exact ⟨undef,{ h with b:=h.b.setCell (Nat.le_refl _) _,zc:=((fun h1 => by cases h1)),fr:=((fun h1 => by cases h1)),st:=(s9) }⟩
       simp only [putL,Act.put,Nat.reduceAdd,List.setIfInBounds_toArray,List.set_cons_zero,List.set_cons_succ]
       have hbr:=h.b
       obtain ⟨Y2,hb2,hY2⟩:=h.st.done
       have HV2:Hid (QuV w1 (.slice a1 rows.length k1) (.slice a2 owners.length k2) (.slice a4 l.length k4) (.slice La (dlrL (q0 :: qs)).length Lc) (.slice (some ⟨g,0,none⟩) n cap) (dlrL (q0 :: qs)) (mulK (comL (q0 :: qs)) d.cs (k + 1)) W):=Lib.hid (by
        rw [hY2,← HMK.out]; exact (HVK.out.below hb2).put (by rw [mulK_len]; exact HNE.out))
       have HK2:Hid (KeepsL Wb W):=Lib.hid (by rw [hY2]; exact HKK.out.trans ((keepsL_of_below hb2).trans (KeepsL.setCell _ _ _)))
       clear h hbr hb2 hY2
       gi_wp2
       go_roundw
       case rel => exact ⟨k + 1,HLT.out,by go_num,HV2.out,HK2.out⟩
       case measure =>
        have h9:=HLT.out
        simp [intOf]; omega
      ·obtain rfl:k = d.cs.length:=by omega
       have HV5:Hid (QuV w1 (.slice a1 rows.length k1) (.slice a2 owners.length k2) (.slice a4 l.length k4) (.slice La (dlrL (q0 :: qs)).length Lc) (.slice (some ⟨g,0,none⟩) n cap) (dlrL (q0 :: qs)) (comL (q0 :: qs ++ [d])) wr):=Lib.hid (by
        rw [comL_snoc (by simp),← mulK_all,show (comL (q0 :: qs)).length = d.cs.length from HNE.out.symm.trans HND.out]; exact hv)
       have HK5:=Lib.hid hk
       clear hv hk
       have u0:wr.cell? ⟨w1.heap.size + 1,0,none⟩ = some _:=row_cell HV5.out.ro rfl
       obtain ⟨W6,hW6⟩:∃ x,x = wr.alloc (.cells #[.int .i64 d.dealer] 3):=⟨_,rfl⟩
       have hb6:Below wr.heap.size wr W6:=by rw [hW6]; exact below_new _ _ _
       have HC6:Hid (W6.cell? ⟨wr.heap.size,0,none⟩ = some (.int .i64 d.dealer)):=Lib.hid (by rw [hW6]; exact row_cell (World.alloc_heap_new _ _) rfl)
       have HV6:=Lib.hid (HV5.out.below hb6)
       have HK6:=Lib.hid (HK5.out.trans (keepsL_of_below hb6))
       have HW6:=Lib.hid hW6
       have HN6:Hid ((dlrL (q0 :: qs)).length ≤ 1000000):=Lib.hid (by have:=HD1.out; omega)
       clear hb6 hW6
       gi_wp2_with (first | rw [← HW6.out] | (gi_at_builtin; refine app_int_in rfl _ _ rfl (w1.heap.size + 4) _ _ _ rfl HV6.out.oL wr.heap.size 1 d.dealer rfl HC6.out HN6.out HV6.out.big ?_; intro v8 w9 h8 g8 l8; have r8:=((own_below HV6.out.oL g8 HV6.out.big).block _ (by omega)).trans HV6.out.ro; have y8:w9.cell? ⟨w1.heap.size + 1,0,none⟩ = some _:=row_cell r8 rfl; have f8:=row_free r8 0; have H8:=Lib.hid h8; have G8:=Lib.hid g8; have L8:=Lib.hid l8; obtain ⟨g9,k9,c9,hv8⟩:=own_is h8; subst hv8; clear h8 g8 l8 r8))
       have hm:=HV6.out.more (z:=d.dealer) G8.out H8.out L8.out
       rw [← dlrL_snoc] at hm
       refine (show KeepsL Wb _ ∧ QuI w1 _ _ _ (qj rows owners keys cl l (j + 1)) _ from ?_)
       rw [HQS.out]
       exact ⟨HK6.out.trans ((keepsL_grown HV6.out.oL G8.out).trans (KeepsL.setCell _ _ _)),_,_,hm⟩
   case done =>
    intro D W hD hI hDW hO
    obtain ⟨L,V,hV⟩:=hI
    rw [qj_all,← HMQ.out] at hV
    replace c0:=below_cell hV.be c0
    replace c1:=below_cell hV.be c1
    replace c2:=below_cell hV.be c2
    replace HG:=Lib.hid (HG.out.below hV.be)
    replace HR:=Lib.hid (HR.out.below hV.be)
    replace HO:=Lib.hid (HO.out.below hV.be)
    replace HK:=Lib.hid (HK.out.below hV.be)
    replace HD:=Lib.hid (HD.out.below hV.be)
    replace HC:=Lib.hid (HC.out.below hV.be)
    replace Q0:=Lib.hid ((hV.be.block _ (row_lt Q0.out)).trans Q0.out)
    replace Q1:=Lib.hid ((hV.be.block _ (row_lt Q1.out)).trans Q1.out)
    replace Q2:=Lib.hid ((hV.be.block _ (row_lt Q2.out)).trans Q2.out)
    replace Q3:=Lib.hid ((hV.be.block _ (row_lt Q3.out)).trans Q3.out)
    replace HB:=Lib.hid (HB.out.trans (hV.be.mono HB.out.size))
    have hDz:w1.heap.size + 4 ≤ D:=Nat.le_trans HS15.out hD
    have hs2:=row_lt Q2.out
    have hs3:=row_lt Q3.out
    have hw1:w.heap.size + 1 + 1 + 1 < w1.heap.size:=row_lt Q3w.out
    have hpo:=sim_putObj (W:=W) (l:=D) (B:=w1.heap.size) (.deferred none) (by omega) hDW rfl
    have hE:=HE.out
    rw [← HMQ.out] at hE
    have HQF:Hid (∀ x ∈ MQ,FineD rows x):=Lib.hid (by rw [HMQ.out,← qj_all]; exact qj_fine)
    clear HE
    by_cases hq:MQ = []
    ·have HV:=Lib.hid (hE.trans (if_pos hq))
     clear HMQ hE
     subst hq
     obtain ⟨La,Lc,rfl⟩:=own_form hV.oL
     have x0:W.cell? ⟨w1.heap.size + 1,0,none⟩ = some (.slice La 0 Lc):=row_cell hV.ro rfl
     obtain ⟨Wp,hWp⟩:∃ x,x = W.putObj D (.deferred none):=⟨_,rfl⟩
     rw [← hWp] at hpo
     have q2:=Lib.hid (hpo.cells _ _ Q2.out rfl)
     have q3:=Lib.hid (hpo.cells _ _ Q3.out rfl)
     have HBP:=Lib.hid (HB.out.trans ((sim_below hpo).mono (by omega)))
     have HDW:=Lib.hid hDW
     have HWP:=Lib.hid hWp
     clear hV hWp hpo hDW hO
     go_wp2_with fail
     with_reducible refine (kneed_bad 370 _ (by decide)).mono ?_
     rintro e w6 ⟨rfl,rfl⟩
     refine leavesM_mark (by simp) HDW.out ?_
     rw [← HWP.out]
     refine leavesM_caught ⟨w.heap.size + 1 + 1 + 1,0,none⟩ 0 370 _ (row_cell q3.out rfl) (row_free q3.out 0) ?_
     obtain ⟨Wf,hWf,hbf,hqf,hxf⟩:=err_end HBP.out (show w.heap.size ≤ w.heap.size + 1 + 1 + 1 by omega) q3.out q2.out (show w.heap.size + 1 + 1 ≠ w.heap.size + 1 + 1 + 1 by omega) 370
     have y0:=row_cell hqf (k:=0) (v:=.int .i64 0) rfl
     have y1:=row_cell hqf (k:=1) (v:=.slice none 0 0) rfl
     have y2:=row_cell hqf (k:=2) (v:=.slice none 0 0) rfl
     have y3:=row_cell hqf (k:=3) (v:=.slice none 0 0) rfl
     rw [← hWf]
     simp [LeavesInM,LeavesIn,results,Tryz.results31,go_sem,hxf,y0,y1,y2,y3]
     rw [HV.out]
     exact quOff _ _ _ (by decide) hbf
    ·have HV:=Lib.hid (hE.trans (if_neg hq))
     obtain ⟨La,Lc,rfl⟩:=own_form hV.oL
     obtain ⟨Va,Vc,rfl⟩:=own_form hV.oV
     have x0:W.cell? ⟨w1.heap.size + 1,0,none⟩ = some (.slice La (dlrL MQ).length Lc):=row_cell hV.ro rfl
     have hn:0 < (dlrL MQ).length:=by rw [dlrL_len]; exact List.length_pos_iff.2 hq
     have n1:decide ((0:Int) < ((dlrL MQ).length:Int)) = true:=decide_eq_true (by omega)
     have n2:decide (0 < (dlrL MQ).length) = true:=decide_eq_true hn
     have v0:W.cell? ⟨w1.heap.size,0,none⟩ = some (.int .i64 0):=row_cell hV.rk rfl
     have v1:W.cell? ⟨w1.heap.size,1,none⟩ = some (.slice a1 rows.length k1):=row_cell hV.rk rfl
     have v2:W.cell? ⟨w1.heap.size,2,none⟩ = some (.slice a2 owners.length k2):=row_cell hV.rk rfl
     have v3:W.cell? ⟨w1.heap.size,3,none⟩ = some (.slice Va (comL MQ).length Vc):=row_cell hV.rk rfl
     have b0:W.cell? ⟨w.heap.size + 1 + 1,0,none⟩ = some (.int .i64 0):=row_cell Q2.out rfl
     have b1:W.cell? ⟨w.heap.size + 1 + 1,1,none⟩ = some (.slice none 0 0):=row_cell Q2.out rfl
     have b2:W.cell? ⟨w.heap.size + 1 + 1,2,none⟩ = some (.slice none 0 0):=row_cell Q2.out rfl
     have b3:W.cell? ⟨w.heap.size + 1 + 1,3,none⟩ = some (.slice none 0 0):=row_cell Q2.out rfl
     have e0:W.cell? ⟨w.heap.size + 1 + 1 + 1,0,none⟩ = some (.int .i64 0):=row_cell Q3.out rfl
     have f0:=row_free Q2.out 0
     have f1:=row_free Q2.out 1
     have f2:=row_free Q2.out 2
     have f3:=row_free Q2.out 3
     have f4:=row_free Q3.out 0
     obtain ⟨We,hWe,hr2,hfar,hbe5⟩:=put4 W (w.heap.size + 1 + 1) (.int .i64 0) (.slice a1 rows.length k1) (.slice a2 owners.length k2) (.slice Va (comL MQ).length Vc) _ Q2.out
     obtain ⟨Wd,hWd⟩:∃ x,x = We.setCell ⟨w.heap.size + 1 + 1 + 1,0,none⟩ (.int .i64 0):=⟨_,rfl⟩
     have far:∀ k,k ≠ w.heap.size + 1 + 1 → k ≠ w.heap.size + 1 + 1 + 1 → Wd.heap[k]? = W.heap[k]?:=fun k h1 h2 => by rw [hWd,Below.heap_setCell _ _ _ _ h2]; exact hfar k h1
     have hDe:Wd.drew.heap[D]? = some (.deferred (some [])):=(far D (by omega) (by omega)).trans hDW
     have hsd:Wd.heap.size = W.heap.size:=by rw [hWd,hWe]; simp
     have e2:Wd.drew.heap[w.heap.size + 1 + 1]? = some (.cells #[.int .i64 0,.slice a1 rows.length k1,.slice a2 owners.length k2,.slice Va (comL MQ).length Vc] 64 (0,0)):=by
      show Wd.heap[_]? = _
      rw [hWd,Below.heap_setCell _ _ _ _ (show w.heap.size + 1 + 1 ≠ w.heap.size + 1 + 1 + 1 by omega)]; exact hr2
     have e3:Wd.drew.heap[w.heap.size + 1 + 1 + 1]? = some (.cells #[.int .i64 0] 35 (0,0)):=by
      show Wd.heap[_]? = _
      rw [hWd]; exact row_set ((hfar _ (by omega)).trans Q3.out) 0 _
     have hB5:Below w.heap.size w Wd.drew:=by rw [hWd]; exact ((hbe5 HB.out (by omega)).setCell (show w.heap.size ≤ w.heap.size + 1 + 1 + 1 by omega) _).drew
     obtain ⟨Wp,hWp⟩:∃ x,x = Wd.drew.putObj D (.deferred none):=⟨_,rfl⟩
     have hpo2:=sim_putObj (W:=Wd.drew) (l:=D) (B:=w1.heap.size) (.deferred none) (by omega) hDe rfl
     rw [← hWp] at hpo2
     have HQ2:=Lib.hid (hpo2.cells _ _ e2 rfl)
     have HQ3:=Lib.hid (hpo2.cells _ _ e3 rfl)
     have HBP:=Lib.hid (hB5.trans ((sim_below hpo2).mono (by omega)))
     have hML:MQ.length ≤ 64:=by
      have h1:=qj_len (rows:=rows) (owners:=owners) (keys:=keys) (cl:=cl) (l:=l) (j:=(fineI rows l l.length).length)
      rw [qj_all,← HMQ.out] at h1
      omega
     have hCM:=comL_com hq HQF.out
     have HIL:Hid (Ints Wp (.slice La (dlrL MQ).length Lc) (dlrL MQ)):=Lib.hid (Ints.own (own_sim (own_block (w':=Wd.drew) hV.oL (fun g e => by have:=(own_lt hV.oL g e).1; exact far g (by omega) (by omega))) hpo2) (fun z hz => by
      obtain ⟨x,hx,rfl⟩:=List.mem_map.1 hz
      have:=(HQF.out x hx).dealer
      exact R64.mk (by omega) (by omega)) (by rw [dlrL_len]; omega))
     have HIV:Hid (Ints Wp (.slice Va (comL MQ).length Vc) (comL MQ)):=Lib.hid (Ints.own (own_sim (own_block (w':=Wd.drew) hV.oV (fun g e => by have:=(own_lt hV.oV g e).1; exact far g (by omega) (by omega))) hpo2) (fun z hz => (hCM.1 z hz).r64) (by rw [hCM.2]; have:=HPO.out.cols_le; omega))
     rw [hWe] at hWd
     have HWe:=Lib.hid hWd
     have HDE:=Lib.hid hDe
     have HWP:=Lib.hid hWp
     clear hWe hr2 hfar hbe5 hWd far hDe hsd e2 e3 hB5 hWp hpo2 hML hCM
     clear hV hpo hDW hO
     go_wp2_with fail
     with_reducible refine (kneed_ok 370 _).mono ?_
     rintro e w6 ⟨rfl,rfl⟩
     go_wp2_with fail
     go_region
     rw [← HWe.out]
     go_wp2_with fail
     refine leavesM_mark (by simp) HDE.out ?_
     rw [← HWP.out]
     refine leavesM_idle _ _ ?_
     have y0:=row_cell HQ2.out (k:=0) (v:=.int .i64 0) rfl
     have y1:=row_cell HQ2.out (k:=1) (v:=.slice a1 rows.length k1) rfl
     have y2:=row_cell HQ2.out (k:=2) (v:=.slice a2 owners.length k2) rfl
     have y3:=row_cell HQ2.out (k:=3) (v:=.slice Va (comL MQ).length Vc) rfl
     have hxf:=row_cell HQ3.out (k:=0) (v:=.int .i64 0) rfl
     simp [LeavesInM,LeavesIn,results,Tryz.results31,go_sem,hxf,y0,y1,y2,y3]
     rw [HV.out]
     exact ⟨_,_,rfl,HBP.out,(fun e => absurd rfl e),fun _ => ⟨HIL.out,_,rfl,HIV.out⟩⟩
end Go.Proofs.YtggnipkfliompaaGreatDoor
