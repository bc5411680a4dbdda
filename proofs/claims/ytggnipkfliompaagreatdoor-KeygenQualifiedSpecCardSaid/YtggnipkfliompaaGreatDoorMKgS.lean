/- Package keygen: Own. -/
import Derived.Test.YtggnipkfliompaaGreatDoorMRange5
import Derived.Test.YtggnipkfliompaaGreatDoorMKgE
import Derived.Test.YtggnipkfliompaaGreatDoorMParG
set_option maxHeartbeats 16000000
set_option maxRecDepth 100000
namespace Go.Proofs.YtggnipkfliompaaGreatDoor
open Go.RowKit FP
attribute [local go_sem] Oper.semAt_some
theorem zeroD (W:World):(zeroValue 28).run Tryz.prog W = .ok (.agg #[.int .i64 0,.slice none 0 0,.slice none 0 0]) W:=by kernel_rfl
def putsD (l:List Dlg) (vs:DVals):List Nat → (Int → Option Value) → Int → Option Value
 | [],F => F
 | i :: t,F => putsD l vs t (putZ F (l.getD i noD).dealer (dlgV l vs i))
theorem putsD_snoc (l:List Dlg) (vs:DVals):∀ (is:List Nat) (F:Int → Option Value) (i:Nat),putsD l vs (is ++ [i]) F = putZ (putsD l vs is F) (l.getD i noD).dealer (dlgV l vs i)
 | [],_,_ => rfl
 | _ :: t,_,i => putsD_snoc l vs t _ i
theorem putsD_some (l:List Dlg) (vs:DVals):∀ (is:List Nat) (F:Int → Option Value) (n:Int) (v:Value),putsD l vs is F n = some v → (∃ i ∈ is,(l.getD i noD).dealer = n ∧ v = dlgV l vs i) ∨ F n = some v
 | [],_,_,_,h => .inr h
 | i :: t,F,n,v,h => by
  rcases putsD_some l vs t _ n v h with ⟨j,hj,h1⟩ | h1
  ·exact .inl ⟨j,List.mem_cons_of_mem _ hj,h1⟩
  ·unfold putZ at h1
   by_cases e:n = (l.getD i noD).dealer
   ·rw [if_pos e] at h1
    exact .inl ⟨i,List.mem_cons_self,e.symm,by injection h1 with h1; exact h1.symm⟩
   ·rw [if_neg e] at h1; exact .inr h1
theorem putsD_none (l:List Dlg) (vs:DVals):∀ (is:List Nat) (F:Int → Option Value) (n:Int),putsD l vs is F n = none → F n = none ∧ ∀ i ∈ is,(l.getD i noD).dealer ≠ n
 | [],_,_,h => ⟨h,fun _ h => by cases h⟩
 | i :: t,F,n,h => by
  obtain ⟨h1,h2⟩:=putsD_none l vs t _ n h
  unfold putZ at h1
  by_cases e:n = (l.getD i noD).dealer
  ·rw [if_pos e] at h1; cases h1
  ·rw [if_neg e] at h1
   exact ⟨h1,fun j hj => by
    rcases List.mem_cons.1 hj with rfl | hj
    ·exact fun e2 => e e2.symm
    ·exact h2 j hj⟩
def mapD (rows:List (List Int)) (l:List Dlg) (vs:DVals) (j:Nat):Int → Option Value:=putsD l vs ((fineI rows l l.length).take j) (fun _ => none)
theorem mapD_succ {rows:List (List Int)} {l:List Dlg} {vs:DVals} {j:Nat} (h:j < (fineI rows l l.length).length):mapD rows l vs (j + 1) = putZ (mapD rows l vs j) (qd rows l j).dealer (dlgV l vs (qx rows l j)):=by
 have e:(fineI rows l l.length)[j] = qx rows l j:=by unfold qx; rw [getD_at h]
 unfold mapD
 rw [List.take_succ_eq_append_getElem h,putsD_snoc,e]; rfl
theorem fineI_mem {rows:List (List Int)} {l:List Dlg} {i:Nat}:i ∈ fineI rows l l.length ↔ ∃ h:i < l.length,fineB rows l[i] = true:=by
 unfold fineI
 rw [List.mem_filter,List.mem_range]
 constructor
 ·rintro ⟨h1,h2⟩; exact ⟨h1,by rw [← fineN_at h1]; exact h2⟩
 ·rintro ⟨h1,h2⟩; exact ⟨h1,by rw [fineN_at h1]; exact h2⟩
theorem mapD_none {rows:List (List Int)} {l:List Dlg} {vs:DVals} {n:Int} (h:mapD rows l vs (fineI rows l l.length).length n = none):l.any (isOf rows n) = false:=by
 unfold mapD at h
 rw [List.take_length] at h
 obtain ⟨-,h2⟩:=putsD_none _ _ _ _ _ h
 rw [List.any_eq_false]
 intro d hd
 obtain ⟨i,hi,rfl⟩:=List.getElem_of_mem hd
 unfold isOf
 intro h3
 rw [Bool.and_eq_true,beq_iff_eq] at h3
 exact h2 i (fineI_mem.2 ⟨hi,h3.2⟩) (by rw [getD_at hi]; exact h3.1)
theorem mapD_some {rows:List (List Int)} {l:List Dlg} {vs:DVals} {n:Int} {v:Value} (ho:ordB l = true) (h:mapD rows l vs (fineI rows l l.length).length n = some v):∃ (i:Nat) (hi:i < l.length),v = dlgV l vs i ∧ findD rows l n = l[i] ∧ l.any (isOf rows n) = true:=by
 unfold mapD at h
 rw [List.take_length] at h
 rcases putsD_some _ _ _ _ _ _ h with ⟨i,h1,h2,h3⟩ | h1
 ·obtain ⟨hi,h4⟩:=fineI_mem.1 h1
  rw [getD_at hi] at h2
  have hany:l.any (isOf rows n) = true:=List.any_eq_true.2 ⟨l[i],List.getElem_mem hi,by unfold isOf; rw [h2,h4]; simp⟩
  refine ⟨i,hi,h3,?_,hany⟩
  obtain ⟨m1,m2,-⟩:=find_of hany
  obtain ⟨j,hj,e⟩:=List.getElem_of_mem m1
  have hp:=List.pairwise_iff_getElem.1 (ordB_pair ho)
  have d1:∀ k (hk:k < l.length),(dlrL l)[k]'(by rw [dlrL_len]; exact hk) = l[k].dealer:=fun k hk => by simp [dlrL]
  rcases Nat.lt_trichotomy i j with h5 | h5 | h5
  ·have:=hp i j (by rw [dlrL_len]; exact hi) (by rw [dlrL_len]; exact hj) h5
   rw [d1 i hi,d1 j hj,e,m2,h2] at this
   exact absurd this (Int.lt_irrefl _)
  ·subst h5; exact e.symm
  ·have:=hp j i (by rw [dlrL_len]; exact hj) (by rw [dlrL_len]; exact hi) h5
   rw [d1 i hi,d1 j hj,e,m2,h2] at this
   exact absurd this (Int.lt_irrefl _)
 ·cases h1
theorem KeepsL.turn {W W':World} {b:Nat} {F:Int → Option Value} (h:MapZ W b F) (hs:W.heap.size ≤ W'.heap.size) (hk:∀ i,i ≠ b → W'.heap[i]? = W.heap[i]?):KeepsL W W':=by
 refine ⟨hs,fun k o hk2 ho => ?_⟩
 by_cases e:k = b
 ·subst e
  obtain ⟨es,clock,h1,-⟩:=h.ex
  rw [h1] at hk2
  injection hk2 with hk2
  rw [← hk2] at ho
  cases ho
 ·exact (hk k e).trans hk2
def OwPost (r v E:Int) (w:World) (e:Ending) (w':World):Prop:=e = .returned (.tuple #[.agg #[.int .i64 r,.int .i64 v],.int .i64 E]) ∧ Below w.heap.size w w'
theorem owBoxes (w:World) (rv ov:Value):∃ W,W = ((w.alloc (.cells #[rv,ov] 25)).alloc (.cells #[.int .i64 0,.int .i64 0] 68)).alloc (.cells #[.int .i64 0] 35) ∧ Below w.heap.size w W ∧
  W.heap[w.heap.size]? = some (.cells #[rv,ov] 25 (0,0)) ∧ W.heap[w.heap.size + 1]? = some (.cells #[.int .i64 0,.int .i64 0] 68 (0,0)) ∧ W.heap[w.heap.size + 1 + 1]? = some (.cells #[.int .i64 0] 35 (0,0)):=by
 obtain ⟨A,hA⟩:∃ A,A = w.alloc (.cells #[rv,ov] 25):=⟨_,rfl⟩
 obtain ⟨B,hB⟩:∃ B,B = A.alloc (.cells #[.int .i64 0,.int .i64 0] 68):=⟨_,rfl⟩
 obtain ⟨C,hC⟩:∃ C,C = B.alloc (.cells #[.int .i64 0] 35):=⟨_,rfl⟩
 have a1:Below w.heap.size w A:=by rw [hA]; exact below_new _ _ _
 have a2:Below A.heap.size A B:=by rw [hB]; exact below_new _ _ _
 have a3:Below B.heap.size B C:=by rw [hC]; exact below_new _ _ _
 have s1:A.heap.size = w.heap.size + 1:=by rw [hA]; simp
 have s2:B.heap.size = w.heap.size + 1 + 1:=by rw [hB]; simp [s1]
 have r1:A.heap[w.heap.size]? = some (.cells #[rv,ov] 25 (0,0)):=by rw [hA]; exact World.alloc_heap_new _ _
 have r2:B.heap[w.heap.size + 1]? = some (.cells #[.int .i64 0,.int .i64 0] 68 (0,0)):=by rw [hB,← s1]; exact World.alloc_heap_new _ _
 have r3:C.heap[w.heap.size + 1 + 1]? = some (.cells #[.int .i64 0] 35 (0,0)):=by rw [hC,← s2]; exact World.alloc_heap_new _ _
 exact ⟨C,by rw [hC,hB,hA],a1.trans ((a2.mono a1.size).trans (a3.mono (Nat.le_trans a1.size a2.size))),(a3.block _ (by omega)).trans ((a2.block _ (by omega)).trans r1),(a3.block _ (by omega)).trans r2,r3⟩
theorem owMap (w:World):∃ W,W = (w.alloc (.map #[] 0)).alloc (.cells #[.map (some w.heap.size)] 133) ∧ Below w.heap.size w W ∧ MapZ W w.heap.size (fun _ => none) ∧ W.heap[w.heap.size + 1]? = some (.cells #[.map (some w.heap.size)] 133 (0,0)) ∧ W.heap.size = w.heap.size + 1 + 1:=by
 obtain ⟨A,hA⟩:∃ A,A = w.alloc (.map #[] 0):=⟨_,rfl⟩
 have s1:A.heap.size = w.heap.size + 1:=by rw [hA]; simp
 have a1:Below w.heap.size w A:=by rw [hA]; exact (Below.refl _ _).alloc (Nat.le_refl _) _
 have a2:=below_new A #[.map (some w.heap.size)] 133
 refine ⟨A.alloc (.cells #[.map (some w.heap.size)] 133),by rw [hA],a1.trans (a2.mono a1.size),?_,?_,by simp [s1]⟩
 ·have h:=MapZ.new (w:=w)
  rw [← hA] at h
  exact h.below a2
 ·rw [← s1]; exact World.alloc_heap_new _ _
structure OwI (w8:World) (rv ov lv:Value) (F:Int → Option Value) (W:World):Prop where
 mp:MapZ W w8.heap.size F
 tab:W.heap[w8.heap.size + 1]? = some (.cells #[.map (some w8.heap.size)] 133 (0,0))
 pr:W.heap[w8.heap.size + 1 + 1]? = some (.cells #[rv,ov] 25 (0,0))
 ds:W.heap[w8.heap.size + 1 + 1 + 1]? = some (.cells #[lv] 55 (0,0))
 be:Below w8.heap.size w8 W
section
variable {w8:World} {rv ov lv:Value} {F:Int → Option Value} {W W':World}
theorem OwI.below (h:OwI w8 rv ov lv F W) (hb:Below W.heap.size W W'):OwI w8 rv ov lv F W':=
 ⟨h.mp.below hb,(hb.block _ (row_lt h.tab)).trans h.tab,(hb.block _ (row_lt h.pr)).trans h.pr,(hb.block _ (row_lt h.ds)).trans h.ds,h.be.trans (hb.mono h.be.size)⟩
theorem OwI.sim (h:OwI w8 rv ov lv F W) {B:Nat} (hB:w8.heap.size < B) (hs:Sim B W W'):OwI w8 rv ov lv F W':=
 ⟨h.mp.kept (hs.low _ hB),hs.cells _ _ h.tab rfl,hs.cells _ _ h.pr rfl,hs.cells _ _ h.ds rfl,h.be.trans ((sim_below hs).mono (Nat.le_of_lt hB))⟩
theorem OwI.big (h:OwI w8 rv ov lv F W):w8.heap.size + 4 ≤ W.heap.size:=row_lt h.ds
theorem OwI.turn {G:Int → Option Value} {ob:Obj} (h:OwI w8 rv ov lv F W) (hm:MapZ W' w8.heap.size G) (hob:W' = Go.ChangeMaps.setBlock W w8.heap.size ob) (hk:∀ i,i ≠ w8.heap.size → W'.heap[i]? = W.heap[i]?):OwI w8 rv ov lv G W':=
 ⟨hm,(hk _ (by omega)).trans h.tab,(hk _ (by omega)).trans h.pr,(hk _ (by omega)).trans h.ds,by rw [hob]; exact below_turn h.be (Nat.le_refl _)⟩
end
theorem kOwn_any (rv ov sv dv:Value) (rows:List (List Int)) (owners:List Int) (s row:Int) (ds:List Int) (l:List Dlg) (vs:DVals) (w:World) (hG:Glob w) (hR:Rows2 w rv rows) (hO:Ints w ov owners) (hs:R64 s) (hrow:R64 row) (hS:Ints w sv ds) (hD:Dlgs w dv l vs) :
  Calls Tryz.prog 33 #[.agg #[rv,ov],.int .i64 s,.int .i64 row,sv,dv] w (OwPost (owR rows owners s row ds l) (owV rows owners s row ds l) (owE rows owners s row ds l) w):=by
 obtain ⟨W0,hW0,hb0,r0,r2,r3⟩:=owBoxes w rv ov
 have Q0:=Lib.hid r0
 have Q2:=Lib.hid r2
 have Q3:=Lib.hid r3
 have HG:=Lib.hid (hG.below hb0)
 have HR:=Lib.hid (hR.below hb0)
 have HO:=Lib.hid (hO.below hb0)
 have HS:=Lib.hid (hS.below hb0)
 have HD:=Lib.hid (hD.below hb0)
 obtain ⟨a1,k1,rfl,-,hl1,-⟩:=id hR
 obtain ⟨a2,k2,rfl,-,hl2,-⟩:=id hO
 obtain ⟨a3,k3,rfl,-,hl3,-⟩:=id hS
 obtain ⟨a4,k4,rfl,-,hl4,-⟩:=id hD
 have HW:=Lib.hid hW0
 have HB:=Lib.hid hb0
 have HRS:=Lib.hid hs
 have HRR:=Lib.hid hrow
 have c0:=row_cell r0 (k:=0) (v:=.slice a1 rows.length k1) rfl
 have c1:=row_cell r0 (k:=1) (v:=.slice a2 owners.length k2) rfl
 clear hG hR hO hS hD hb0 r0 r2 r3 hW0 hs hrow
 have hmf:∀ (fn:Fn) (first cap:Array Value) (w:World),(Instr.makeFunc fn first cap).run Tryz.prog w = .ok (.func fn first cap) w:=fun _ _ _ _ => rfl
 have hmm:=@run_makeMap Tryz.prog
 obtain ⟨ME,hME⟩:∃ z,z = owE rows owners s row ds l:=⟨_,rfl⟩
 obtain ⟨MV,hMV⟩:∃ z,z = owV rows owners s row ds l:=⟨_,rfl⟩
 obtain ⟨MR,hMR⟩:∃ z,z = owR rows owners s row ds l:=⟨_,rfl⟩
 have HE:Hid (ME = owE rows owners s row ds l):=Lib.hid hME
 have HON:Hid (ME = 0 → MV = owS rows s row ds l ds.length ∧ MR = row):=Lib.hid (fun h => by
  rw [hMV,hMR]; unfold owV owR; rw [← hME,if_pos h,if_pos h]; exact ⟨rfl,rfl⟩)
 have HOFF:Hid (∀ q,ME = q → q ≠ 0 → MV = 0 ∧ MR = 0):=Lib.hid (fun q h hq => by
  rw [hMV,hMR]; unfold owV owR; rw [← hME,if_neg (by rw [h]; exact hq),if_neg (by rw [h]; exact hq)]; exact ⟨rfl,rfl⟩)
 rw [← hME,← hMV,← hMR]
 clear hME hMV hMR
 unfold owE at HE
 have HBL:=Lib.hid (fun w => kbelow_any (IntKind.i64.wrap (s - 1)) 1073741788 w)
 rw [kdealing_wrap s HRS.out] at HBL
 have HBR:=Lib.hid (fun w => kbelow_any row (rows.length:Int) w)
 obtain ⟨s1,hs1⟩:∃ z,z = IntKind.i64.wrap (s - 1):=⟨_,rfl⟩
 have hw1:IntKind.i64.wrap (s - 1) = s1:=hs1.symm
 rw [hw1] at HBL
 clear hs1
 refine calls_of_range Tryz.func33 rfl ?_
 simp only [Tryz.ntmps33,List.size_toArray,List.length_cons,List.length_nil,Nat.reduceAdd,Nat.reduceSub,Array.replicate_succ,Array.replicate_zero,List.push_toArray,List.append_toArray,List.nil_append,List.cons_append]
 go_wp2_with (rw [← HW.out])
 clear HW
 with_reducible refine (pCheck_any _ _ rows owners _ HR.out HO.out).mono ?_
 rintro e w4 ⟨rfl,hb4⟩
 replace c0:=below_cell hb4 c0
 replace c1:=below_cell hb4 c1
 replace HG:=Lib.hid (HG.out.below hb4)
 replace HR:=Lib.hid (HR.out.below hb4)
 replace HO:=Lib.hid (HO.out.below hb4)
 replace HS:=Lib.hid (HS.out.below hb4)
 replace HD:=Lib.hid (HD.out.below hb4)
 replace Q0:=Lib.hid ((hb4.block _ (row_lt Q0.out)).trans Q0.out)
 replace Q2:=Lib.hid ((hb4.block _ (row_lt Q2.out)).trans Q2.out)
 replace Q3:=Lib.hid ((hb4.block _ (row_lt Q3.out)).trans Q3.out)
 replace HB:=Lib.hid (HB.out.trans (hb4.mono HB.out.size))
 clear hb4
 by_cases hp:progE rows owners = 0
 rotate_left
 ·have HV:=Lib.hid (HE.out.trans (if_pos hp))
  have HNZ:=Lib.hid hp
  clear hp HE
  generalize progE rows owners = q at *
  go_wp2_with fail
  with_reducible refine (kmust_bad 0 q _ HNZ.out).mono ?_
  rintro e w5 ⟨rfl,rfl⟩
  refine leavesM_caught ⟨w.heap.size + 1 + 1,0,none⟩ 0 q _ (row_cell Q3.out rfl) (row_free Q3.out 0) ?_
  obtain ⟨Wf,hWf,hbf,hqf,hxf⟩:=err_end HB.out (show w.heap.size ≤ w.heap.size + 1 + 1 by omega) Q3.out Q2.out (show w.heap.size + 1 ≠ w.heap.size + 1 + 1 by omega) q
  have y0:=row_cell hqf (k:=0) (v:=.int .i64 0) rfl
  have y1:=row_cell hqf (k:=1) (v:=.int .i64 0) rfl
  rw [← hWf]
  simp [LeavesInM,LeavesIn,results,Tryz.results33,go_sem,hxf,y0,y1]
  rw [HV.out,(HOFF.out _ HV.out HNZ.out).1,(HOFF.out _ HV.out HNZ.out).2]
  exact ⟨rfl,hbf⟩
 replace HE:=Lib.hid (HE.out.trans (if_neg (by simp [hp])))
 have HPO:=Lib.hid (progE_ok hp)
 rw [hp]
 clear hp
 go_wp2_with fail
 with_reducible refine (kmust_ok 0 _).mono ?_
 rintro e w5 ⟨rfl,rfl⟩
 go_wp2_with fail
 with_reducible refine (HBL.out _).mono ?_
 rintro e w5 ⟨rfl,rfl⟩
 clear HBL hw1
 cases hsb:inB s 1 1073741788 with
 | false =>
  have HV:=Lib.hid (HE.out.trans (if_pos hsb))
  clear hsb HE
  go_wp2_with fail
  with_reducible refine (kneed_bad 110 _ (by decide)).mono ?_
  rintro e w6 ⟨rfl,rfl⟩
  refine leavesM_caught ⟨w.heap.size + 1 + 1,0,none⟩ 0 110 _ (row_cell Q3.out rfl) (row_free Q3.out 0) ?_
  obtain ⟨Wf,hWf,hbf,hqf,hxf⟩:=err_end HB.out (show w.heap.size ≤ w.heap.size + 1 + 1 by omega) Q3.out Q2.out (show w.heap.size + 1 ≠ w.heap.size + 1 + 1 by omega) 110
  have y0:=row_cell hqf (k:=0) (v:=.int .i64 0) rfl
  have y1:=row_cell hqf (k:=1) (v:=.int .i64 0) rfl
  rw [← hWf]
  simp [LeavesInM,LeavesIn,results,Tryz.results33,go_sem,hxf,y0,y1]
  rw [HV.out,(HOFF.out _ HV.out (by decide)).1,(HOFF.out _ HV.out (by decide)).2]
  exact ⟨rfl,hbf⟩
 | true =>
 replace HE:=Lib.hid (HE.out.trans (if_neg (by rw [hsb]; decide)))
 have HSB:=Lib.hid (inB_iff.1 hsb)
 clear hsb
 go_wp2_with fail
 with_reducible refine (kneed_ok 110 _).mono ?_
 rintro e w6 ⟨rfl,rfl⟩
 go_wp2_with fail
 with_reducible refine (HBR.out _).mono ?_
 rintro e w6 ⟨rfl,rfl⟩
 clear HBR
 cases hrb:belowB row (rows.length:Int) with
 | false =>
  have HV:=Lib.hid (HE.out.trans (if_pos (by
   unfold belowB at hrb
   rw [Bool.and_eq_false_iff,decide_eq_false_iff_not,decide_eq_false_iff_not] at hrb
   omega)))
  clear hrb HE
  go_wp2_with fail
  with_reducible refine (kneed_bad 1 _ (by decide)).mono ?_
  rintro e w6 ⟨rfl,rfl⟩
  refine leavesM_caught ⟨w.heap.size + 1 + 1,0,none⟩ 0 1 _ (row_cell Q3.out rfl) (row_free Q3.out 0) ?_
  obtain ⟨Wf,hWf,hbf,hqf,hxf⟩:=err_end HB.out (show w.heap.size ≤ w.heap.size + 1 + 1 by omega) Q3.out Q2.out (show w.heap.size + 1 ≠ w.heap.size + 1 + 1 by omega) 1
  have y0:=row_cell hqf (k:=0) (v:=.int .i64 0) rfl
  have y1:=row_cell hqf (k:=1) (v:=.int .i64 0) rfl
  rw [← hWf]
  simp [LeavesInM,LeavesIn,results,Tryz.results33,go_sem,hxf,y0,y1]
  rw [HV.out,(HOFF.out _ HV.out (by decide)).1,(HOFF.out _ HV.out (by decide)).2]
  exact ⟨rfl,hbf⟩
 | true =>
 have hrb2:0 ≤ row ∧ row < (rows.length:Int):=by
  unfold belowB at hrb
  rw [Bool.and_eq_true,decide_eq_true_eq,decide_eq_true_eq] at hrb
  exact hrb
 replace HE:=Lib.hid (HE.out.trans (if_neg (by omega)))
 have HRB:=Lib.hid hrb2
 clear hrb hrb2
 go_wp2_with fail
 with_reducible refine (kneed_ok 1 _).mono ?_
 rintro e w6 ⟨rfl,rfl⟩
 by_cases hn1:l.length ≤ 64
 rotate_left
 ·have HV:=Lib.hid (HE.out.trans (if_pos (by omega)))
  have x1:decide ((l.length:Int) ≤ 64) = false:=decide_eq_false (by omega)
  clear HE
  go_wp2_with fail
  with_reducible refine (kneed_bad 2 _ (by decide)).mono ?_
  rintro e w6 ⟨rfl,rfl⟩
  refine leavesM_caught ⟨w.heap.size + 1 + 1,0,none⟩ 0 2 _ (row_cell Q3.out rfl) (row_free Q3.out 0) ?_
  obtain ⟨Wf,hWf,hbf,hqf,hxf⟩:=err_end HB.out (show w.heap.size ≤ w.heap.size + 1 + 1 by omega) Q3.out Q2.out (show w.heap.size + 1 ≠ w.heap.size + 1 + 1 by omega) 2
  have y0:=row_cell hqf (k:=0) (v:=.int .i64 0) rfl
  have y1:=row_cell hqf (k:=1) (v:=.int .i64 0) rfl
  rw [← hWf]
  simp [LeavesInM,LeavesIn,results,Tryz.results33,go_sem,hxf,y0,y1]
  rw [HV.out,(HOFF.out _ HV.out (by decide)).1,(HOFF.out _ HV.out (by decide)).2]
  exact ⟨rfl,hbf⟩
 have x1:decide ((l.length:Int) ≤ 64) = true:=decide_eq_true (by omega)
 replace HE:=Lib.hid (HE.out.trans (if_neg (by omega)))
 go_wp2_with fail
 with_reducible refine (kneed_ok 2 _).mono ?_
 rintro e w6 ⟨rfl,rfl⟩
 clear x1
 go_wp2_with fail
 with_reducible refine (ordered_any _ l vs _ HD.out).mono ?_
 rintro e w8 ⟨rfl,hb8⟩
 replace c0:=below_cell hb8 c0
 replace c1:=below_cell hb8 c1
 replace HG:=Lib.hid (HG.out.below hb8)
 replace HR:=Lib.hid (HR.out.below hb8)
 replace HO:=Lib.hid (HO.out.below hb8)
 replace HS:=Lib.hid (HS.out.below hb8)
 replace HD:=Lib.hid (HD.out.below hb8)
 replace Q0:=Lib.hid ((hb8.block _ (row_lt Q0.out)).trans Q0.out)
 replace Q2:=Lib.hid ((hb8.block _ (row_lt Q2.out)).trans Q2.out)
 replace Q3:=Lib.hid ((hb8.block _ (row_lt Q3.out)).trans Q3.out)
 replace HB:=Lib.hid (HB.out.trans (hb8.mono HB.out.size))
 clear hb8
 cases hob:ordB l with
 | false =>
  have HV:=Lib.hid (HE.out.trans (if_pos hob))
  clear hob HE
  go_wp2_with fail
  with_reducible refine (kneed_bad 370 _ (by decide)).mono ?_
  rintro e w6 ⟨rfl,rfl⟩
  refine leavesM_caught ⟨w.heap.size + 1 + 1,0,none⟩ 0 370 _ (row_cell Q3.out rfl) (row_free Q3.out 0) ?_
  obtain ⟨Wf,hWf,hbf,hqf,hxf⟩:=err_end HB.out (show w.heap.size ≤ w.heap.size + 1 + 1 by omega) Q3.out Q2.out (show w.heap.size + 1 ≠ w.heap.size + 1 + 1 by omega) 370
  have y0:=row_cell hqf (k:=0) (v:=.int .i64 0) rfl
  have y1:=row_cell hqf (k:=1) (v:=.int .i64 0) rfl
  rw [← hWf]
  simp [LeavesInM,LeavesIn,results,Tryz.results33,go_sem,hxf,y0,y1]
  rw [HV.out,(HOFF.out _ HV.out (by decide)).1,(HOFF.out _ HV.out (by decide)).2]
  exact ⟨rfl,hbf⟩
 | true =>
 replace HE:=Lib.hid (HE.out.trans (if_neg (by rw [hob]; decide)))
 have HOB:=Lib.hid hob
 clear hob
 go_wp2_with fail
 with_reducible refine (kneed_ok 370 _).mono ?_
 rintro e w9 ⟨rfl,rfl⟩
 obtain ⟨W9,hW9,hb9,hm9,hr9,hs9⟩:=owMap w8
 obtain ⟨W15,hW15,hb15,hp15,hd15,hs15⟩:=quBox2 W9 (.slice a1 rows.length k1) (.slice a2 owners.length k2) (.slice a4 l.length k4)
 have d0:=below_cell hb9 c0
 have d1:=below_cell hb9 c1
 have HI0:Hid (OwI w8 (.slice a1 rows.length k1) (.slice a2 owners.length k2) (.slice a4 l.length k4) (mapD rows l vs 0) W15):=Lib.hid ⟨hm9.below hb15,(hb15.block _ (row_lt hr9)).trans hr9,by rw [hs9] at hp15; exact hp15,by rw [hs9] at hd15; exact hd15,hb9.trans (hb15.mono hb9.size)⟩
 have HS15:Hid (w8.heap.size + 4 ≤ W15.heap.size):=Lib.hid (by omega)
 have HW9:=Lib.hid hW9
 have HS9:=Lib.hid hs9
 have Q3w:=Lib.hid Q3.out
 have HW15:=Lib.hid hW15
 clear hm9 hr9 hb9 hW9 hs9 hW15 hb15 hp15 hd15 hs15
 go_wp2_with (rw [← HW9.out])
 with_reducible refine (rights_any _ _ a4 l.length k4 _ ⟨_,_,_,rfl⟩ ⟨_,_,_,rfl⟩).mono ?_
 rintro e w15 ⟨rfl,rfl⟩
 rw [← HW15.out,HS9.out]
 clear d0 d1 HW15 HW9 HS9
 go_wp2_with fail
 refine wp_range9 (gf:=169) (lb:=#[.pointer (some ⟨w8.heap.size + 1 + 1 + 1,0,none⟩),.pointer (some ⟨w8.heap.size + 1 + 1,0,none⟩)]) (N:=(fineI rows l l.length).length)
  (encs:=fun j => #[.int .i64 (qd rows l j).dealer,.agg #[.int .i64 (qd rows l j).dealer,(vs (qx rows l j)).1,(vs (qx rows l j)).2]]) rfl rights1_goes (fun _ => rfl)
  (fun j => OwI w8 (.slice a1 rows.length k1) (.slice a2 owners.length k2) (.slice a4 l.length k4) (mapD rows l vs j)) ?seq ?simI HI0.out
  (fun j X t => (((t.setIfInBounds 44 (.int .i64 (qd rows l j).dealer)).setIfInBounds 45 (.agg #[.int .i64 (qd rows l j).dealer,(vs (qx rows l j)).1,(vs (qx rows l j)).2])).setIfInBounds 13 (.int .i64 (qd rows l j).dealer)).setIfInBounds 14 (.pointer (some ⟨X,0,none⟩)))
  (fun j X W => OwI w8 (.slice a1 rows.length k1) (.slice a2 owners.length k2) (.slice a4 l.length k4) (mapD rows l vs j) W ∧ w8.heap.size + 4 ≤ X ∧ W.heap[X]? = some (.cells #[.int .i64 (qd rows l j).dealer,(vs (qx rows l j)).1,(vs (qx rows l j)).2] 28 (0,0))) ?simM ?assign ?body ?done
 case seq => exact rights1_iterates w8 (w8.heap.size + 1 + 1 + 1) (w8.heap.size + 1 + 1) _ _ _ rows l vs HR.out ⟨_,_,_,rfl⟩ HD.out _ (fun j W h => ⟨h.be,row_cell h.ds rfl,row_cell h.pr rfl,row_cell h.pr rfl⟩)
 case simI => exact fun j W W' h hs => h.sim (by have:=HS15.out; omega) hs
 case simM => exact fun j X W W' ⟨h,h2,h3⟩ hs => ⟨h.sim (by have:=HS15.out; omega) hs,h2,hs.cells _ _ h3 rfl⟩
 case assign =>
  intro ll j W K hI hlt hK
  obtain ⟨hi,-,-⟩:=qx_at hlt
  obtain ⟨_,_,-,hat⟩:=HD.out.at hi
  obtain ⟨ca,cc,e1,-⟩:=hat.cs
  obtain ⟨pa,pc,e2,-⟩:=hat.ps
  rw [e1,e2] at hK ⊢
  gi_wp2
  exact hK W.heap.size _ ⟨hI.below (below_new _ _ _),hI.big,World.alloc_heap_new _ _⟩ (KeepsL.alloc _ _)
 case body =>
  intro ll j X Wb hM hlt
  obtain ⟨hV,hX4,hX⟩:=hM
  obtain ⟨hi,hdd,hfd⟩:=qx_at hlt
  obtain ⟨_,_,-,hat⟩:=HD.out.at hi
  have hms:=mapD_succ (vs:=vs) hlt
  unfold dlgV at hms
  rw [show l.getD (qx rows l j) noD = qd rows l j from rfl] at hms
  rw [← hdd] at hat
  generalize (vs (qx rows l j)).1 = v1 at *
  generalize (vs (qx rows l j)).2 = v2 at *
  obtain ⟨d,hd⟩:∃ d,d = qd rows l j:=⟨_,rfl⟩
  rw [← hd] at hat hX hms
  simp only [← hd]
  clear hdd hd hfd
  obtain ⟨ca,cc,rfl,-⟩:=id hat.cs
  obtain ⟨pa,pc,rfl,-⟩:=id hat.ps
  obtain ⟨w',hrun,hmz,⟨ob,hob,hfar⟩⟩:=hV.mp.put Tryz.underlying133 hat.r (.agg #[.int .i64 d.dealer,.slice ca d.cs.length cc,.slice pa d.ps.length pc])
  have HF:Hid (KeepsL Wb w' ∧ OwI w8 (.slice a1 rows.length k1) (.slice a2 owners.length k2) (.slice a4 l.length k4) (mapD rows l vs (j + 1)) w'):=Lib.hid (by
   rw [hms]
   exact ⟨KeepsL.turn hV.mp (by rw [hob]; simp [Go.ChangeMaps.setBlock]) hfar,hV.turn hmz hob hfar⟩)
  have x0:Wb.cell? ⟨w8.heap.size + 1,0,none⟩ = some (.map (some w8.heap.size)):=row_cell hV.tab rfl
  have x1:Wb.cell? ⟨X,0,none⟩ = some (.int .i64 d.dealer):=row_cell hX rfl
  have x2:Wb.cell? ⟨X,1,none⟩ = some (.slice ca d.cs.length cc):=row_cell hX rfl
  have x3:Wb.cell? ⟨X,2,none⟩ = some (.slice pa d.ps.length pc):=row_cell hX rfl
  simp only [List.setIfInBounds_toArray,List.set_cons_succ,List.set_cons_zero]
  clear hV hX hat hms hmz hob hfar
  gi_wp2
  exact ⟨HF.out.1,HF.out.2⟩
 case done =>
  intro D W hD hI hDW hO
  replace c0:=below_cell hI.be c0
  replace c1:=below_cell hI.be c1
  replace HG:=Lib.hid (HG.out.below hI.be)
  replace HR:=Lib.hid (HR.out.below hI.be)
  replace HO:=Lib.hid (HO.out.below hI.be)
  replace HS:=Lib.hid (HS.out.below hI.be)
  replace HD:=Lib.hid (HD.out.below hI.be)
  replace Q0:=Lib.hid ((hI.be.block _ (row_lt Q0.out)).trans Q0.out)
  replace Q2:=Lib.hid ((hI.be.block _ (row_lt Q2.out)).trans Q2.out)
  replace Q3:=Lib.hid ((hI.be.block _ (row_lt Q3.out)).trans Q3.out)
  replace HB:=Lib.hid (HB.out.trans (hI.be.mono HB.out.size))
  have hDz:w8.heap.size + 4 ≤ D:=Nat.le_trans HS15.out hD
  have hw8:w.heap.size + 1 + 1 < w8.heap.size:=row_lt Q3w.out
  have hW8:w8.heap.size ≤ W.heap.size:=hI.be.size
  have g0:W.cell? ⟨w8.heap.size + 1,0,none⟩ = some (.map (some w8.heap.size)):=row_cell hI.tab rfl
  have HMP:=Lib.hid hI.mp
  have HFN:=Lib.hid (fun n (h:mapD rows l vs (fineI rows l l.length).length n = none) => mapD_none h)
  have HFS:=Lib.hid (fun n v (h:mapD rows l vs (fineI rows l l.length).length n = some v) => mapD_some HOB.out h)
  generalize mapD rows l vs (fineI rows l l.length).length = F at *
  have HDW:=Lib.hid hDW
  have HSR:=Lib.hid (show ∀ z ∈ ds,R64 z from by obtain ⟨_,_,_,_,_,h,_⟩:=HS.out; exact h)
  obtain ⟨r,hr⟩:∃ r:Nat,row = (r:Int):=⟨row.toNat,by have:=HRB.out; omega⟩
  subst hr
  have HRL:Hid (r < rows.length):=Lib.hid (by have:=HRB.out; omega)
  clear hI hDW hO hD
  go_wp2_with fail
  go_loopw [15,51] (fun sm i Y => ∃ k:Nat,k ≤ ds.length ∧ i = .int .i64 k ∧ sm = .int .i64 (owS rows s (r:Int) ds l k) ∧ Hid (∀ j,j < k → dlsB rows l ds j = true) ∧ Below W.heap.size W Y) (fun _ i _ => ds.length - (intOf i).toNat)
  case atStart => exact ⟨0,Nat.zero_le _,rfl,rfl,Lib.hid (fun j h => absurd h (Nat.not_lt_zero j)),Below.refl _ _⟩
  case round =>
   obtain ⟨k,hkl,rfl,rfl,HK,hb⟩:=hrel
   by_cases hlt:k < ds.length
   ·obtain ⟨b,off,ea,qn⟩:=ints_at (HS.out.below hb) hlt
    subst ea
    have hnr:=HSR.out _ (List.getElem_mem hlt)
    have hnn:nth ds k = ds[k]:=nth_at hlt
    obtain ⟨n,hn⟩:∃ n,n = ds[k]:=⟨_,rfl⟩
    rw [← hn] at qn hnr hnn
    have hlk:=(HMP.out.below hb).look_ok Tryz.underlying133 (zeroD wr) hnr
    have g1:=below_cell hb g0
    have Q24:=Lib.hid ((hb.block _ (row_lt Q2.out)).trans Q2.out)
    have Q34:=Lib.hid ((hb.block _ (row_lt Q3.out)).trans Q3.out)
    have HD4:=Lib.hid ((hb.block _ (row_lt HDW.out)).trans HDW.out)
    have HB4:=Lib.hid (HB.out.trans (hb.mono HB.out.size))
    have i0:(0:Int) ≤ (k:Int):=Int.natCast_nonneg k
    have i1:(k:Int) < (ds.length:Int):=by omega
    clear hn
    cases hf:F n with
    | none =>
     have HV:Hid (ME = 370):=Lib.hid (HE.out.trans (if_pos (allDls_bad hlt (by unfold dlsB; rw [hnn,HFN.out n hf]; rfl))))
     rw [hf] at hlk
     simp only [Option.getD_none,Option.isSome_none] at hlk
     obtain ⟨W6,hW6⟩:∃ x,x = wr.alloc (.cells #[.int .i64 0,.slice none 0 0,.slice none 0 0] 28):=⟨_,rfl⟩
     have hb6:Below wr.heap.size wr W6:=by rw [hW6]; exact below_new _ _ _
     have Q26:=Lib.hid ((hb6.block _ (row_lt Q24.out)).trans Q24.out)
     have Q36:=Lib.hid ((hb6.block _ (row_lt Q34.out)).trans Q34.out)
     have HD6:=Lib.hid ((hb6.block _ (row_lt HD4.out)).trans HD4.out)
     have HB6:=Lib.hid (HB4.out.trans (hb6.mono HB4.out.size))
     have HW6:=Lib.hid hW6
     clear hW6 hb6 hf hnn HE hb
     go_wp2_with fail
     with_reducible refine (kneed_bad 370 _ (by decide)).mono ?_
     rintro e w6 ⟨rfl,rfl⟩
     rw [← HW6.out]
     refine leavesM_mark (by simp) HD6.out ?_
     obtain ⟨Wp,hWp⟩:∃ x,x = World.putObj W6 D (.deferred none):=⟨_,rfl⟩
     rw [← hWp]
     have hpo:=sim_putObj (W:=W6) (l:=D) (B:=w8.heap.size) (.deferred none) (by omega) HD6.out rfl
     rw [← hWp] at hpo
     have q2:=Lib.hid (hpo.cells _ _ Q26.out rfl)
     have q3:=Lib.hid (hpo.cells _ _ Q36.out rfl)
     have HBP:=Lib.hid (HB6.out.trans ((sim_below hpo).mono (by omega)))
     clear hpo hWp
     refine leavesM_caught ⟨w.heap.size + 1 + 1,0,none⟩ 0 370 _ (row_cell q3.out rfl) (row_free q3.out 0) ?_
     obtain ⟨Wf,hWf,hbf,hqf,hxf⟩:=err_end HBP.out (show w.heap.size ≤ w.heap.size + 1 + 1 by omega) q3.out q2.out (show w.heap.size + 1 ≠ w.heap.size + 1 + 1 by omega) 370
     have y0:=row_cell hqf (k:=0) (v:=.int .i64 0) rfl
     have y1:=row_cell hqf (k:=1) (v:=.int .i64 0) rfl
     rw [← hWf]
     simp [LeavesInM,LeavesIn,results,Tryz.results33,go_sem,hxf,y0,y1]
     rw [HV.out,(HOFF.out _ HV.out (by decide)).1,(HOFF.out _ HV.out (by decide)).2]
     exact ⟨rfl,hbf⟩
    | some v =>
     obtain ⟨i,hi,hv,hfd,hany⟩:=HFS.out n v hf
     obtain ⟨_,_,-,hat⟩:=HD.out.at hi
     unfold dlgV at hv
     rw [getD_at hi] at hv
     obtain ⟨-,hdl,hfi⟩:=find_of hany
     have hmk:mkV s (findD rows l n) (r:Int) = mkV s l[i] (r:Int):=by rw [hfd]
     have hOS:owS rows s (r:Int) ds l (k + 1) = (owS rows s (r:Int) ds l k + mkV s (findD rows l (nth ds k)) (r:Int)) % 1073741789:=rfl
     rw [hnn,hmk] at hOS
     rw [hfd] at hdl hfi
     generalize (vs i).1 = v1 at *
     generalize (vs i).2 = v2 at *
     obtain ⟨d,hd⟩:∃ d,d = l[i]:=⟨_,rfl⟩
     rw [← hd] at hat hv hdl hfi hOS
     clear hd hmk hfd
     obtain ⟨ca,cc,rfl,-⟩:=id hat.cs
     obtain ⟨pa,pc,rfl,-⟩:=id hat.ps
     rw [hf] at hlk
     simp only [Option.getD_some,Option.isSome_some] at hlk
     subst hv
     obtain ⟨W6,hW6⟩:∃ x,x = wr.alloc (.cells #[.int .i64 d.dealer,.slice ca d.cs.length cc,.slice pa d.ps.length pc] 28):=⟨_,rfl⟩
     have hb6:Below wr.heap.size wr W6:=by rw [hW6]; exact below_new _ _ _
     have hr6:W6.heap[wr.heap.size]? = some (.cells #[.int .i64 d.dealer,.slice ca d.cs.length cc,.slice pa d.ps.length pc] 28 (0,0)):=by rw [hW6]; exact World.alloc_heap_new _ _
     have hb7:=hb.trans (hb6.mono hb.size)
     have hps:=hat.ps.below hb7
     have hrp:r < d.ps.length:=by rw [hfi.len]; exact HRL.out
     obtain ⟨pb,po,ea,y0,y1,y2,-⟩:=hps.at hrp
     subst ea
     have s2:W6.cell? ⟨wr.heap.size,2,none⟩ = some (.slice (some ⟨pb,po,none⟩) d.ps.length pc):=row_cell hr6 rfl
     have hrg:=hfi.right HPO.out.few HRL.out
     have hpe:parAt d (r:Int) = d.ps[r]:=by
      obtain ⟨_,e⟩:=parAt_mem (d:=d) (row:=(r:Int)) ⟨by omega,by omega⟩
      exact e
     unfold mkV at hOS
     rw [hpe] at hrg hOS
     rw [hdl] at hOS
     have hnd:=hfi.dealer
     rw [hdl] at hnd
     generalize d.ps[r] = p at *
     obtain ⟨p1,p2,p3⟩:=p
     simp only at y0 y1 y2 hrg hOS
     obtain ⟨vv,hvv⟩:∃ z,z = opnV (powE p2 s) n p1 p3:=⟨_,rfl⟩
     have hvn:=opnV_num (powE p2 s) n p1 p3
     rw [← hvv] at hOS hvn
     have HOP:Hid (Calls Tryz.prog 58 #[.int .i64 s,.int .i64 n,.agg #[.int .i64 p1,.int .i64 p2,.int .i64 p3]] W6 fun r w' => r = .returned (.tuple #[.int .i64 vv,.int .i64 0]) ∧ Below W6.heap.size W6 w'):=Lib.hid (by
      rw [hvv]; exact open_yes s n p1 p2 p3 W6 HSB.out hnd hrg (HG.out.below hb7))
     obtain ⟨sm,hsm⟩:∃ z,z = owS rows s (r:Int) ds l k:=⟨_,rfl⟩
     have hsn:=owS_num rows s (r:Int) ds l k
     rw [← hsm] at hOS hsn
     rw [← hsm]
     have HAD:=Lib.hid (fun W => add_any sm vv W (num_r64 hsn) (num_r64 hvn))
     have Q26:=Lib.hid ((hb6.block _ (row_lt Q24.out)).trans Q24.out)
     have Q36:=Lib.hid ((hb6.block _ (row_lt Q34.out)).trans Q34.out)
     have HD6:=Lib.hid ((hb6.block _ (row_lt HD4.out)).trans HD4.out)
     have HB6:=Lib.hid (HB4.out.trans (hb6.mono HB4.out.size))
     have HW6:=Lib.hid hW6
     have HB7:=Lib.hid hb7
     have HOS:=Lib.hid hOS
     have HLT:=Lib.hid hlt
     have j0:(0:Int) ≤ (r:Int):=Int.natCast_nonneg r
     have j1:(r:Int) < (d.ps.length:Int):=by omega
     have HANY:=Lib.hid hany
     have HNN:=Lib.hid hnn
     clear hW6 hr6 hb7 hps hrp hrg hpe hnd hvv hvn hsm hsn hOS hany hdl hfi hat hf hnn
     by_cases hk0:k = 0
     ·have hdb:dlsB rows l ds k = true:=by unfold dlsB; rw [HNN.out,HANY.out,decide_eq_true hk0]; rfl
      have z1:((k:Int) == 0) = true:=beq_iff_eq.2 (by omega)
      have z2:(k == 0) = true:=beq_iff_eq.2 hk0
      have HDB:=Lib.hid hdb
      clear hdb hk0 hb6 hb
      go_wp2_with (rw [← HW6.out])
      with_reducible refine (kneed_ok 370 _).mono ?_
      rintro e w6 ⟨rfl,rfl⟩
      go_wp2_with fail
      with_reducible refine HOP.out.mono ?_
      rintro e w7 ⟨rfl,hb8⟩
      go_wp2_with fail
      with_reducible refine (kmust_ok vv _).mono ?_
      rintro e w9 ⟨rfl,rfl⟩
      go_wp2_with fail
      with_reducible refine (HAD.out _).mono ?_
      rintro e w9 ⟨rfl,hb9⟩
      have HBZ:=Lib.hid (HB7.out.trans ((hb8.trans (hb9.mono hb8.size)).mono HB7.out.size))
      clear hb8 hb9
      go_wp2_with fail
      go_roundw
      case rel => exact ⟨k + 1,HLT.out,by go_num,by rw [HOS.out],Lib.hid (fun j hj => by
       by_cases e:j = k
       ·rw [e]; exact HDB.out
       ·exact HK.out j (by omega)),HBZ.out⟩
      case measure =>
       have h9:=HLT.out
       simp [intOf]; omega
     ·obtain ⟨p,hp⟩:∃ p:Nat,(k:Int) - 1 = (p:Int):=⟨k - 1,by omega⟩
      have hpk:k - 1 = p:=by omega
      have hpl:p < ds.length:=by omega
      have z1:((k:Int) == 0) = false:=beq_eq_false_iff_ne.2 (by omega)
      have z2:(k == 0) = false:=beq_eq_false_iff_ne.2 hk0
      have w1:IntKind.i64.wrap ((k:Int) - 1) = (p:Int):=by rw [hp]; exact IntWalk.i64_in _ (by omega)
      obtain ⟨b2,off2,ea2,qp⟩:=ints_at (HS.out.below hb) hpl
      simp only [Option.some.injEq,Addr.mk.injEq] at ea2
      obtain ⟨rfl,rfl,-⟩:=ea2
      have qp6:=below_cell hb6 qp
      have hpp:nth ds (k - 1) = ds[p]:=by rw [hpk]; exact nth_at hpl
      obtain ⟨q,hq⟩:∃ q,q = ds[p]:=⟨_,rfl⟩
      rw [← hq] at qp qp6 hpp
      have i2:(0:Int) ≤ (p:Int):=Int.natCast_nonneg p
      have i3:(p:Int) < (ds.length:Int):=by omega
      by_cases hqn:q < n
      ·have hdb:dlsB rows l ds k = true:=by unfold dlsB; rw [HNN.out,hpp,HANY.out,decide_eq_true hqn]; simp
       have d9:decide (q < n) = true:=decide_eq_true hqn
       have HDB:=Lib.hid hdb
       clear hdb hk0 hb6 hb hq hpp hqn hpk
       go_wp2_with (rw [← HW6.out])
       with_reducible refine (kneed_ok 370 _).mono ?_
       rintro e w6 ⟨rfl,rfl⟩
       go_wp2_with fail
       with_reducible refine HOP.out.mono ?_
       rintro e w7 ⟨rfl,hb8⟩
       go_wp2_with fail
       with_reducible refine (kmust_ok vv _).mono ?_
       rintro e w9 ⟨rfl,rfl⟩
       go_wp2_with fail
       with_reducible refine (HAD.out _).mono ?_
       rintro e w9 ⟨rfl,hb9⟩
       have HBZ:=Lib.hid (HB7.out.trans ((hb8.trans (hb9.mono hb8.size)).mono HB7.out.size))
       clear hb8 hb9
       go_wp2_with fail
       go_roundw
       case rel => exact ⟨k + 1,HLT.out,by go_num,by rw [HOS.out],Lib.hid (fun j hj => by
        by_cases e:j = k
        ·rw [e]; exact HDB.out
        ·exact HK.out j (by omega)),HBZ.out⟩
       case measure =>
        have h9:=HLT.out
        simp [intOf]; omega
      ·have hdb:dlsB rows l ds k = false:=by unfold dlsB; rw [HNN.out,hpp,HANY.out,decide_eq_false hqn,decide_eq_false hk0]; rfl
       have HV:Hid (ME = 370):=Lib.hid (HE.out.trans (if_pos (allDls_bad hlt hdb)))
       have d9:decide (q < n) = false:=decide_eq_false hqn
       clear hdb hk0 hb6 hb hq hpp hqn hpk HE
       go_wp2_with (rw [← HW6.out])
       with_reducible refine (kneed_bad 370 _ (by decide)).mono ?_
       rintro e w6 ⟨rfl,rfl⟩
       refine leavesM_mark (by simp) HD6.out ?_
       obtain ⟨Wp,hWp⟩:∃ x,x = World.putObj W6 D (.deferred none):=⟨_,rfl⟩
       rw [← hWp]
       have hpo:=sim_putObj (W:=W6) (l:=D) (B:=w8.heap.size) (.deferred none) (by omega) HD6.out rfl
       rw [← hWp] at hpo
       have q2:=Lib.hid (hpo.cells _ _ Q26.out rfl)
       have q3:=Lib.hid (hpo.cells _ _ Q36.out rfl)
       have HBP:=Lib.hid (HB6.out.trans ((sim_below hpo).mono (by omega)))
       clear hpo hWp
       refine leavesM_caught ⟨w.heap.size + 1 + 1,0,none⟩ 0 370 _ (row_cell q3.out rfl) (row_free q3.out 0) ?_
       obtain ⟨Wf,hWf,hbf,hqf,hxf⟩:=err_end HBP.out (show w.heap.size ≤ w.heap.size + 1 + 1 by omega) q3.out q2.out (show w.heap.size + 1 ≠ w.heap.size + 1 + 1 by omega) 370
       have y0:=row_cell hqf (k:=0) (v:=.int .i64 0) rfl
       have y1:=row_cell hqf (k:=1) (v:=.int .i64 0) rfl
       rw [← hWf]
       simp [LeavesInM,LeavesIn,results,Tryz.results33,go_sem,hxf,y0,y1]
       rw [HV.out,(HOFF.out _ HV.out (by decide)).1,(HOFF.out _ HV.out (by decide)).2]
       exact ⟨rfl,hbf⟩
   ·obtain rfl:k = ds.length:=by omega
    have hV0:ME = 0:=HE.out.trans (if_neg (by rw [allDls_all (fun j hj => HK.out j hj)]; simp))
    obtain ⟨eV,eR⟩:=HON.out hV0
    have HV:=Lib.hid hV0
    have HVR:=Lib.hid (And.intro eV eR)
    have q2:=(hb.block _ (row_lt Q2.out)).trans Q2.out
    have q3:=(hb.block _ (row_lt Q3.out)).trans Q3.out
    have hd4:=(hb.block _ (row_lt HDW.out)).trans HDW.out
    have hb4:=HB.out.trans (hb.mono HB.out.size)
    obtain ⟨sm,hsm⟩:∃ z,z = owS rows s (r:Int) ds l ds.length:=⟨_,rfl⟩
    rw [← hsm] at HVR ⊢
    obtain ⟨Wd,hWd⟩:∃ x,x = ((wr.setCell ⟨w.heap.size + 1,0,none⟩ (.int .i64 (r:Int))).setCell ⟨w.heap.size + 1,1,none⟩ (.int .i64 sm)).setCell ⟨w.heap.size + 1 + 1,0,none⟩ (.int .i64 0):=⟨_,rfl⟩
    have n12:w.heap.size + 1 ≠ w.heap.size + 1 + 1:=by omega
    have e2:Wd.heap[w.heap.size + 1]? = some (.cells #[.int .i64 (r:Int),.int .i64 sm] 68 (0,0)):=by
     rw [hWd,Below.heap_setCell _ _ _ _ n12]; exact row_set (row_set q2 0 _) 1 _
    have e3:Wd.heap[w.heap.size + 1 + 1]? = some (.cells #[.int .i64 0] 35 (0,0)):=by
     have h9:((wr.setCell ⟨w.heap.size + 1,0,none⟩ (.int .i64 (r:Int))).setCell ⟨w.heap.size + 1,1,none⟩ (.int .i64 sm)).heap[w.heap.size + 1 + 1]? = some (.cells #[.int .i64 0] 35 (0,0)):=by
      rw [Below.heap_setCell _ _ _ _ n12.symm,Below.heap_setCell _ _ _ _ n12.symm]; exact q3
     rw [hWd]
     exact row_set h9 0 (.int .i64 0)
    have hDe:Wd.heap[D]? = some (.deferred (some [])):=by
     rw [hWd,Below.heap_setCell _ _ _ _ (show D ≠ w.heap.size + 1 + 1 by omega),Below.heap_setCell _ _ _ _ (show D ≠ w.heap.size + 1 by omega),Below.heap_setCell _ _ _ _ (show D ≠ w.heap.size + 1 by omega)]; exact hd4
    have hB5:Below w.heap.size w Wd:=by
     rw [hWd]
     exact ((hb4.setCell (show w.heap.size ≤ w.heap.size + 1 by omega) _).setCell (show w.heap.size ≤ w.heap.size + 1 by omega) _).setCell (show w.heap.size ≤ w.heap.size + 1 + 1 by omega) _
    obtain ⟨Wp,hWp⟩:∃ x,x = Wd.putObj D (.deferred none):=⟨_,rfl⟩
    have hpo:=sim_putObj (W:=Wd) (l:=D) (B:=w8.heap.size) (.deferred none) (by omega) hDe rfl
    rw [← hWp] at hpo
    have HQ2:=Lib.hid (hpo.cells _ _ e2 rfl)
    have HQ3:=Lib.hid (hpo.cells _ _ e3 rfl)
    have HBP:=Lib.hid (hB5.trans ((sim_below hpo).mono (by omega)))
    have HDE:=Lib.hid hDe
    have HWP:=Lib.hid hWp
    have HWD:=Lib.hid hWd
    have b0:wr.cell? ⟨w.heap.size + 1,0,none⟩ = some (.int .i64 0):=row_cell q2 rfl
    have b1:wr.cell? ⟨w.heap.size + 1,1,none⟩ = some (.int .i64 0):=row_cell q2 rfl
    have b2:wr.cell? ⟨w.heap.size + 1 + 1,0,none⟩ = some (.int .i64 0):=row_cell q3 rfl
    have f0:=row_free q2 0
    have f1:=row_free q2 1
    have f2:=row_free q3 0
    clear hV0 eV eR q2 q3 hd4 hb4 hsm hWd e2 e3 hDe hB5 hWp hpo hb HK HE
    go_wp2_with (rw [← HWD.out])
    refine leavesM_mark (by simp) HDE.out ?_
    rw [← HWP.out]
    refine leavesM_idle _ _ ?_
    have y0:=row_cell HQ2.out (k:=0) (v:=.int .i64 (r:Int)) rfl
    have y1:=row_cell HQ2.out (k:=1) (v:=.int .i64 sm) rfl
    have hxf:=row_cell HQ3.out (k:=0) (v:=.int .i64 0) rfl
    simp [LeavesInM,LeavesIn,results,Tryz.results33,go_sem,hxf,y0,y1]
    rw [HV.out,HVR.out.1,HVR.out.2]
    exact ⟨rfl,HBP.out⟩
end Go.Proofs.YtggnipkfliompaaGreatDoor
