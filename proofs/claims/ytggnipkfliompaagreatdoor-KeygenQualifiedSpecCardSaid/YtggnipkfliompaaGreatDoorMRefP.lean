/- The reference of equal: text, Prove, Check. The reference of complaints: Fits, Make, Settle. The laws of complaints: the examples hold (sane). The reference of complaints: Settle; the laws ComplaintsSpec and ComplaintsSettleSpec. -/
import Derived.Test.YtggnipkfliompaaGreatDoorMRefM
import Derived.Test.YtggnipkfliompaaGreatDoorMRefI
import Derived.Test.YtggnipkfliompaaGreatDoorMLinU
import Derived.Test.YtggnipkfliompaaGreatDoorMCoT
import Derived.Test.YtggnipkfliompaaGreatDoorMKgT
import Derived.Test.YtggnipkfliompaaGreatDoorMRdB
import Derived.Test.YtggnipkfliompaaGreatDoorMRegF
set_option maxHeartbeats 8000000
set_option maxRecDepth 100000
namespace Go.Proofs.YtggnipkfliompaaGreatDoor
open Go.RowKit FP
theorem rtext12_any (v:Value) (zs:List Int) (w:World) (hI:Ints w v zs) (hl:zs.length ≤ 1000) :
  Calls Tryz.prog 138 #[v] w fun e w' => ∃ v',e = .returned v' ∧ Byts w' v' (encL zs) ∧ Below w.heap.size w w':=by
 have HT:=Lib.hid (rInts_any v zs w hI hl)
 obtain ⟨a,cap,rfl,-⟩:=hI
 go_enter Tryz.func138,Tryz.ntmps138
 go_wp2_with fail
 refine HT.out.mono ?_
 rintro e w1 ⟨lv,rfl,hv1,hb1⟩
 have HV:=Lib.hid hv1
 clear hv1
 go_wp2_with fail
 refine (rEncode_any lv zs _ HV.out).mono ?_
 rintro e w2 ⟨v2,rfl,hv2,hb2⟩
 have HV2:=Lib.hid hv2
 clear hv2
 go_wp2_with fail
 go_ret
 exact ⟨_,rfl,HV2.out,hb1.trans (hb2.mono hb1.size)⟩
structure FCk4 (w0:World) (bb:Nat) (key:Int) (a:Int) (d:Int) (E:Int) (r:Int) (s:Int) (hh:Int) (done:Nat → Bool) (v:Nat → Value) (w:World):Prop where
 b:Below w0.heap.size w0 w
 f0:done 0 = true → v 0 = .pointer (some ⟨bb,0,none⟩)
 f1:done 1 = true → v 1 = .int .i64 E
 f2:done 2 = true → v 2 = .int .i64 key
 f3:done 3 = true → v 3 = .int .i64 a
 f4:done 4 = true → v 4 = .int .i64 d
 f5:done 5 = true → v 5 = .int .i64 r
 f6:done 6 = true → v 6 = .int .i64 s
 f7:done 7 = true → done 8 = false → Ints w (v 7) [key,a,d,r,s]
 f8:done 8 = true → done 9 = false → Byts w (v 8) (encL [key,a,d,r,s])
 f9:done 9 = true → v 9 = .int .i64 hh
 f10:done 10 = true → v 10 = .bool (E == hh)
 f11:done 11 = true → v 11 = .bool (E == hh)
theorem rcheck12_any (key a d E S:Int) (w:World) (hk:R64 key) (ha:R64 a) (hd:R64 d) (hE:R64 E) (hS:R64 S) :
  Calls Tryz.prog 66 #[.int .i64 key,.int .i64 a,.int .i64 d,.agg #[.int .i64 E,.int .i64 S]] w fun e w' => e = .returned (.bool (chkB key a d E S)) ∧ Below w.heap.size w w':=by
 obtain ⟨hb,c0,c1⟩:=cell_agg2 w E S 32
 obtain ⟨W1,hW1⟩:∃ W,W = w.alloc (.cells #[.int .i64 E,.int .i64 S] 32):=⟨_,rfl⟩
 rw [← hW1] at hb c0 c1
 have HB:=Lib.hid hb
 have HW1:=Lib.hid hW1
 have HF:=Lib.hid (fun w => formed12_any key a d E S w hk ha hd hE hS)
 obtain ⟨B,hBv⟩:∃ B,chkB key a d E S = B:=⟨_,rfl⟩
 rw [hBv]
 rw [chkB_form] at hBv
 have HBV:=Lib.hid hBv
 clear hBv
 clear hb hW1 hk ha hd hE hS
 go_enter Tryz.func66,Tryz.ntmps66
 go_wp2_with (rw [← HW1.out])
 with_reducible refine (HF.out _).mono ?_
 rintro e w2 ⟨rfl,hb2⟩
 replace c0:=below_cell hb2 c0
 replace c1:=below_cell hb2 c1
 replace HB:=Lib.hid (HB.out.trans (hb2.mono HB.out.size))
 clear hb2 HW1 HF
 cases e1:formB key a d E S with
 | false =>
  rw [e1,Bool.false_and] at HBV
  obtain rfl:=HBV.out
  clear e1 HBV
  go_wp2_with fail
  go_ret
  exact ⟨rfl,HB.out⟩
 | true =>
  rw [e1,Bool.true_and] at HBV
  have hf:=form_iff.1 e1
  have HR:=Lib.hid (fun w => commits12_any key a d E S w hf)
  have HL5:=Lib.hid (show ∀ z ∈ [key,a,d,rE key E S,sE a d E S],R64 z by intro z hz; simp at hz; rcases hz with rfl | rfl | rfl | rfl | rfl; exact hf.k.r64; exact hf.a.r64; exact hf.d.r64; exact (el_rE hf.k _ _).r64; exact (el_sE hf.a hf.d _ _).r64)
  have HCH:Hid (hashG (strB tagE) (encL [key,a,d,rE key E S,sE a d E S]) = chal key a d (rE key E S) (sE a d E S)):=Lib.hid rfl
  generalize chal key a d (rE key E S) (sE a d E S) = hh at *
  generalize rE key E S = r at *
  generalize sE a d E S = s at *
  clear e1 hf
  obtain rfl:=HBV.out
  clear HBV
  go_wp2_with fail
  with_reducible refine (HR.out _).mono ?_
  rintro e w3 ⟨rfl,hb3⟩
  replace c0:=below_cell hb3 c0
  replace HB:=Lib.hid (HB.out.trans (hb3.mono HB.out.size))
  clear hb3 HR c1
  have HTX:=Lib.hid (fun W v h => rtext12_any v [key,a,d,r,s] W h (by simp))
  have HHA:Hid (∀ W v,Byts W v (encL [key,a,d,r,s]) → Calls Tryz.prog 137 #[.string tagE,v] W fun e w' => e = .returned (.int .i64 hh) ∧ Below W.heap.size W w'):=
   Lib.hid (fun W v h => by rw [← HCH.out]; exact rhash_any tagE v (encL [key,a,d,r,s]) W (by decide) (by decide) h (encL_pos _) (by have:=encL_len HL5.out (by simp); simp at this; omega))
  unfold tagE at HHA
  clear HCH
  go_wp2_with fail
  refine wp_region_flowsG (by kernel_rfl) (by kernel_rfl) (by kernel_rfl) (by kernel_rfl) (fun done v W => FCk4 w3 (w.heap.size) (key) (a) (d) (E) (r) (s) (hh) done v W) (fun v => ?_) ?_ (fun v W h => ?_)
  ·exact ⟨(Below.refl _ _).drew,(fun h => by cases h),(fun h => by cases h),(fun h => by cases h),(fun h => by cases h),(fun h => by cases h),(fun h => by cases h),(fun h => by cases h),(fun h => by cases h),(fun h => by cases h),(fun h => by cases h),(fun h => by cases h),(fun h => by cases h)⟩
  ·refine ⟨?_,?_,?_,?_,?_,?_,?_,?_,?_,?_,?_,?_,trivial⟩
   ·intro done v W A h hd hp hu hA hB hdf
    have e0:A.tmps[7]?.getD undef = .pointer (some ⟨w.heap.size,0,none⟩):=hB 7 rfl
    clear hA hB hp hu hdf
    go_simp
    exact ⟨_,rfl,{ h with f0:=(fun _ => rfl) }⟩
   ·intro done v W A h hd hp hu hA hB hdf
    have hd0:done 0 = true:=hp 0 rfl
    have e0:=(hA 0 25 rfl hd0).trans (h.f0 hd0)
    have y0_:=below_cell h.b c0
    clear hA hB hp hu hdf
    go_simp
    exact ⟨_,rfl,{ h with f1:=(fun _ => rfl) }⟩
   ·intro done v W A h hd hp hu hA hB hdf
    have e0:A.tmps[0]?.getD undef = .int .i64 key:=hB 0 rfl
    clear hA hB hp hu hdf
    go_simp
    exact ⟨_,rfl,{ h with f2:=(fun _ => rfl) }⟩
   ·intro done v W A h hd hp hu hA hB hdf
    have e0:A.tmps[1]?.getD undef = .int .i64 a:=hB 1 rfl
    clear hA hB hp hu hdf
    go_simp
    exact ⟨_,rfl,{ h with f3:=(fun _ => rfl) }⟩
   ·intro done v W A h hd hp hu hA hB hdf
    have e0:A.tmps[2]?.getD undef = .int .i64 d:=hB 2 rfl
    clear hA hB hp hu hdf
    go_simp
    exact ⟨_,rfl,{ h with f4:=(fun _ => rfl) }⟩
   ·intro done v W A h hd hp hu hA hB hdf
    have e0:A.tmps[9]?.getD undef = .int .i64 r:=hB 9 rfl
    clear hA hB hp hu hdf
    go_simp
    exact ⟨_,rfl,{ h with f5:=(fun _ => rfl) }⟩
   ·intro done v W A h hd hp hu hA hB hdf
    have e0:A.tmps[10]?.getD undef = .int .i64 s:=hB 10 rfl
    clear hA hB hp hu hdf
    go_simp
    exact ⟨_,rfl,{ h with f6:=(fun _ => rfl) }⟩
   ·intro done v W A h hd hp hu hA hB hdf
    have hd2:done 2 = true:=hp 2 rfl
    have hd3:done 3 = true:=hp 3 rfl
    have hd4:done 4 = true:=hp 4 rfl
    have hd5:done 5 = true:=hp 5 rfl
    have hd6:done 6 = true:=hp 6 rfl
    have e0:=(hA 2 27 rfl hd2).trans (h.f2 hd2)
    have e1:=(hA 3 28 rfl hd3).trans (h.f3 hd3)
    have e2:=(hA 4 29 rfl hd4).trans (h.f4 hd4)
    have e3:=(hA 5 30 rfl hd5).trans (h.f5 hd5)
    have e4:=(hA 6 31 rfl hd6).trans (h.f6 hd6)
    have hb:=below_new W #[.int .i64 key,.int .i64 a,.int .i64 d,.int .i64 r,.int .i64 s] 3
    clear hA hB hp hu hdf
    go_simp
    exact ⟨_,rfl,{ h with b:=h.b.trans (hb.mono h.b.size),f7:=(fun _ _ => ints_made W _ _ _ rfl HL5.out (by simp)),f8:=(fun h1 h2 => (h.f8 h1 h2).below hb) }⟩
   ·intro done v W A h hd hp hu hA hB hdf
    have hd7:done 7 = true:=hp 7 rfl
    have e0:=hA 7 32 rfl hd7
    have m0:=h.f7 hd7 hd
    clear hA hB hp hu hdf
    go_simp
    with_reducible refine (HTX.out W _ m0).mono ?_
    rintro e wq ⟨u,rfl,hn,hb⟩
    exact ⟨_,rfl,{ h with b:=h.b.trans (hb.mono h.b.size),f7:=(fun _ h2 => absurd (show true = false from h2) (by decide)),f8:=(fun _ _ => hn) }⟩
   ·intro done v W A h hd hp hu hA hB hdf
    have hd8:done 8 = true:=hp 8 rfl
    have e1:=hA 8 33 rfl hd8
    have m1:=h.f8 hd8 hd
    clear hA hB hp hu hdf
    go_simp
    with_reducible refine (HHA.out W _ m1).mono ?_
    rintro e wq ⟨rfl,hb⟩
    exact ⟨_,rfl,{ h with b:=h.b.trans (hb.mono h.b.size),f7:=(fun h1 h2 => (h.f7 h1 h2).below hb),f8:=(fun _ h2 => absurd (show true = false from h2) (by decide)),f9:=(fun _ => rfl) }⟩
   ·intro done v W A h hd hp hu hA hB hdf
    have hd1:done 1 = true:=hp 1 rfl
    have hd9:done 9 = true:=hp 9 rfl
    have e0:=(hA 1 26 rfl hd1).trans (h.f1 hd1)
    have e1:=(hA 9 34 rfl hd9).trans (h.f9 hd9)
    clear hA hB hp hu hdf
    go_simp
    exact ⟨_,rfl,{ h with f10:=(fun _ => rfl) }⟩
   ·intro done v W A h hd hp hu hA hB hdf
    have hd10:done 10 = true:=hp 10 rfl
    have e0:=(hA 10 35 rfl hd10).trans (h.f10 hd10)
    clear hA hB hp hu hdf
    go_simp
    exact ⟨_,rfl,{ h with f11:=(fun _ => rfl) }⟩
  simp only [putL,Act.put,Nat.reduceAdd,List.setIfInBounds_toArray,List.set_cons_zero,List.set_cons_succ]
  rw [h.f11 rfl]
  have hbr:=h.b
  replace HB:=Lib.hid (HB.out.trans (hbr.mono HB.out.size))
  clear c0 hbr
  go_wp2_with fail
  go_ret
  exact ⟨rfl,HB.out⟩
end Go.Proofs.YtggnipkfliompaaGreatDoor
namespace Go.Proofs.YtggnipkfliompaaGreatDoor
open Go.RowKit FP
section
variable {rows:List (List Int)} {owners:List Int} {s key:Int} {d:Dlg} {row q:Int} {c:Cmp}
theorem st_c (h:cE rows owners d = q) (hq:q ≠ 0):stG rows owners key d c = 0 ∧ stE rows owners key d c = q:=by
 have e:stE rows owners key d c = q:=by unfold stE; rw [h,if_pos hq]
 exact ⟨by unfold stG; rw [e,if_pos hq],e⟩
theorem st_r (h:cE rows owners d = 0) (h2:c.dealer ≠ d.dealer ∨ c.row < 0 ∨ (d.ps.length:Int) ≤ c.row):stG rows owners key d c = 0 ∧ stE rows owners key d c = 360:=by
 have e:stE rows owners key d c = 360:=by unfold stE; rw [h,if_neg (by simp),if_pos h2]
 exact ⟨by unfold stG; rw [e,if_pos (by decide)],e⟩
theorem st_k (h:cE rows owners d = 0) (h2:¬ (c.dealer ≠ d.dealer ∨ c.row < 0 ∨ (d.ps.length:Int) ≤ c.row)) (h3:chkB key (parAt d c.row).2.1 c.D c.E c.S = false):stG rows owners key d c = 2 ∧ stE rows owners key d c = 0:=by
 have e:stE rows owners key d c = 0:=by unfold stE; rw [h,if_neg (by simp),if_neg h2,if_pos h3]
 exact ⟨by unfold stG; rw [e,if_neg (by simp),if_pos h3],e⟩
theorem stE_w (h:cE rows owners d = 0) (h2:¬ (c.dealer ≠ d.dealer ∨ c.row < 0 ∨ (d.ps.length:Int) ≤ c.row)) (h3:chkB key (parAt d c.row).2.1 c.D c.E c.S = true):stE rows owners key d c = withE c.D d.dealer (parAt d c.row).1 (parAt d c.row).2.1 (parAt d c.row).2.2:=by
 unfold stE; rw [h,if_neg (by simp),if_neg h2,if_neg (by rw [h3]; decide)]
theorem st_w (h:stE rows owners key d c = q) (hq:q ≠ 0):stG rows owners key d c = 0 ∧ stE rows owners key d c = q:=⟨by unfold stG; rw [h,if_pos hq],h⟩
theorem st_f (h:stE rows owners key d c = 0) (h3:chkB key (parAt d c.row).2.1 c.D c.E c.S = true) {b:Bool} (hf:fitV rows d c.row (opnV c.D d.dealer (parAt d c.row).1 (parAt d c.row).2.2) = b):stG rows owners key d c = (if b = true then 2 else 1) ∧ stE rows owners key d c = 0:=
 ⟨by unfold stG; rw [h,if_neg (by simp),if_neg (by rw [h3]; decide),hf],h⟩
end
theorem rFits36_any (rv ov cv pv:Value) (rows:List (List Int)) (owners:List Int) (dl:Int) (cs:List Int) (ps:List Pcl) (row v:Int) (w:World) (hR:Rows2 w rv rows) (hO:Ints w ov owners) (hC:Ints w cv cs) (_hP:Parcels w pv ps) (hr:R64 row) (hv:R64 v) :
  Calls Tryz.prog 62 #[.agg #[rv,ov],.agg #[.int .i64 dl,cv,pv],.int .i64 row,.int .i64 v] w fun e w' => e = .returned (.bool (fitB rows owners cs row v)) ∧ Below w.heap.size w w':=by
 obtain ⟨W1,hW1,hb1,hr1,hr2⟩:=box_pd w rv ov (.int .i64 dl) cv pv
 have HF:=Lib.hid (rFits_any rv ov cv rows owners cs row v W1 (hR.below hb1) (hO.below hb1) (hC.below hb1) hr hv)
 generalize fitB rows owners cs row v = b at *
 generalize fitE rows owners cs row v = q at *
 obtain ⟨a1,k1,rfl,-⟩:=id hR
 obtain ⟨a2,k2,rfl,-⟩:=id hO
 obtain ⟨a3,k3,rfl,-⟩:=id hC
 have c0:=row_cell hr1 (k:=0) (v:=.slice a1 rows.length k1) rfl
 have c1:=row_cell hr1 (k:=1) (v:=.slice a2 owners.length k2) rfl
 have de1:=row_cell hr2 (k:=1) (v:=.slice a3 cs.length k3) rfl
 have HW1:=Lib.hid hW1
 have HB:=Lib.hid hb1
 clear hR hO hC hr1 hr2 hW1 hb1 hr hv
 go_enter Tryz.func62,Tryz.ntmps62
 go_wp2_with (rw [← HW1.out])
 with_reducible refine HF.out.mono ?_
 rintro e w2 ⟨rfl,hb2⟩
 replace HB:=Lib.hid (HB.out.trans (hb2.mono HB.out.size))
 clear hb2 HF HW1 c0 c1 de1
 go_wp2_with fail
 go_ret
 exact ⟨rfl,HB.out⟩
end Go.Proofs.YtggnipkfliompaaGreatDoor
namespace Go.Proofs.YtggnipkfliompaaGreatDoor
open Go.RowKit FP
end Go.Proofs.YtggnipkfliompaaGreatDoor
namespace Go.Proofs.YtggnipkfliompaaGreatDoor
open Go.RowKit FP
theorem rSettle36_any (rv ov cv pv:Value) (rows:List (List Int)) (owners:List Int) (dl:Int) (cs:List Int) (ps:List Pcl) (c:Cmp) (key:Int) (w:World) (hR:Rows2 w rv rows) (hO:Ints w ov owners) (hC:Ints w cv cs) (hP:Parcels w pv ps) (hkey:R64 key) (hc:CmpR c) :
  Calls Tryz.prog 18 #[.agg #[rv,ov],.int .i64 key,.agg #[.int .i64 dl,cv,pv],cmpV c] w fun r w' => r = .returned (.tuple #[.int .i64 (stG rows owners key ⟨dl,cs,ps⟩ c),.int .i64 (stE rows owners key ⟨dl,cs,ps⟩ c)]) ∧ Below w.heap.size w w':=by
 obtain ⟨W1,hW1,hb1,hr1,hr2⟩:=box_pd w rv ov (.int .i64 dl) cv pv
 have hs1:W1.heap.size = w.heap.size + 1 + 1:=by rw [hW1]; simp
 obtain ⟨c1,c2,c3,c4,c5⟩:=c
 obtain ⟨hc1,hc2,hc3,hc4,hc5⟩:=hc
 obtain ⟨W2,hW2⟩:∃ W,W = W1.alloc (.cells #[.int .i64 c1,.int .i64 c2,.int .i64 c3,.int .i64 c4,.int .i64 c5] 34):=⟨_,rfl⟩
 have hb2:Below W1.heap.size W1 W2:=by rw [hW2]; exact below_new _ _ _
 have hr3:W2.heap[w.heap.size + 1 + 1]? = some (.cells #[.int .i64 c1,.int .i64 c2,.int .i64 c3,.int .i64 c4,.int .i64 c5] 34 (0,0)):=by rw [hW2,← hs1]; exact World.alloc_heap_new _ _
 have hbq:=hb1.trans (hb2.mono hb1.size)
 have HB:=Lib.hid hbq
 have HR:=Lib.hid (hR.below hbq)
 have HO:=Lib.hid (hO.below hbq)
 have HC:=Lib.hid (hC.below hbq)
 have HP:=Lib.hid (hP.below hbq)
 obtain ⟨a1,k1,rfl,-⟩:=id hR
 obtain ⟨a2,k2,rfl,-,hl2,-⟩:=id hO
 obtain ⟨a3,k3,rfl,-,hl3,-⟩:=id hC
 obtain ⟨a4,k4,rfl,-,hl4,-⟩:=id hP
 have e1:=(hb2.block _ (row_lt hr1)).trans hr1
 have e2:=(hb2.block _ (row_lt hr2)).trans hr2
 have p0:=row_cell e1 (k:=0) (v:=.slice a1 rows.length k1) rfl
 have p1:=row_cell e1 (k:=1) (v:=.slice a2 owners.length k2) rfl
 have d0:=row_cell e2 (k:=0) (v:=.int .i64 dl) rfl
 have d1:=row_cell e2 (k:=1) (v:=.slice a3 cs.length k3) rfl
 have d2:=row_cell e2 (k:=2) (v:=.slice a4 ps.length k4) rfl
 have x0:=row_cell hr3 (k:=0) (v:=.int .i64 c1) rfl
 have x1:=row_cell hr3 (k:=1) (v:=.int .i64 c2) rfl
 have x2:=row_cell hr3 (k:=2) (v:=.int .i64 c3) rfl
 have x3:=row_cell hr3 (k:=3) (v:=.int .i64 c4) rfl
 have x4:=row_cell hr3 (k:=4) (v:=.int .i64 c5) rfl
 rw [hW1] at hW2
 have HW:=Lib.hid hW2
 have HC64:=Lib.hid (And.intro hc2 (And.intro hc3 (And.intro hc4 (And.intro hc5 hkey))))
 clear hR hO hC hP hr1 hr2 hr3 hW1 hW2 hb1 hb2 hbq e1 e2 hs1 hc1 hc2 hc3 hc4 hc5 hkey
 unfold cmpV cmpA
 go_enter Tryz.func18,Tryz.ntmps18
 go_wp2_with (rw [← HW.out])
 with_reducible refine (rError36_any _ _ _ _ rows owners dl cs ps _ HR.out HO.out HC.out HP.out).mono ?_
 rintro e w2 ⟨rfl,hb⟩
 replace p0:=below_cell hb p0
 replace p1:=below_cell hb p1
 replace d0:=below_cell hb d0
 replace d1:=below_cell hb d1
 replace d2:=below_cell hb d2
 replace x0:=below_cell hb x0
 replace x1:=below_cell hb x1
 replace x2:=below_cell hb x2
 replace x3:=below_cell hb x3
 replace x4:=below_cell hb x4
 replace HR:=Lib.hid (HR.out.below hb)
 replace HO:=Lib.hid (HO.out.below hb)
 replace HC:=Lib.hid (HC.out.below hb)
 replace HP:=Lib.hid (HP.out.below hb)
 replace HB:=Lib.hid (HB.out.trans (hb.mono HB.out.size))
 clear hb
 clear HW
 obtain ⟨q,hq⟩:∃ q,q = cE rows owners ⟨dl,cs,ps⟩:=⟨_,rfl⟩
 rw [← hq]
 by_cases he:q = 0
 rotate_left
 ·have HV:=Lib.hid (st_c (key:=key) (c:=⟨c1,c2,c3,c4,c5⟩) hq.symm he)
  have z0:(q != 0) = true:=bne_iff_ne.2 he
  clear hq he
  go_wp2_with fail
  go_ret2
  exact ⟨by rw [HV.out.1,HV.out.2]; rfl,HB.out⟩
 subst he
 have HCE:=Lib.hid hq.symm
 clear hq
 have HCM:=Lib.hid (cE_ok.1 HCE.out)
 have hlen:ps.length = rows.length:=HCM.out.len
 have HSR:=Lib.hid (fun h2 => st_r (key:=key) (c:=⟨c1,c2,c3,c4,c5⟩) HCE.out h2)
 by_cases h1:c1 = dl
 rotate_left
 ·have HV:=Lib.hid (HSR.out (.inl h1))
  have z0:(c1 != dl) = true:=bne_iff_ne.2 h1
  clear h1 hlen
  go_wp2_with fail
  go_ret2
  exact ⟨by rw [HV.out.1,HV.out.2]; rfl,HB.out⟩
 have z0:(c1 != dl) = false:=by rw [h1]; simp
 by_cases h2:c2 < 0
 ·have HV:=Lib.hid (HSR.out (.inr (.inl h2)))
  clear h1 hlen
  go_wp2_with fail
  go_ret2
  exact ⟨by rw [HV.out.1,HV.out.2]; rfl,HB.out⟩
 by_cases h3:(rows.length:Int) ≤ c2
 ·have HV:=Lib.hid (HSR.out (.inr (.inr (show (ps.length:Int) ≤ c2 by rw [hlen]; exact h3))))
  clear h1 hlen
  go_wp2_with fail
  go_ret2
  exact ⟨by rw [HV.out.1,HV.out.2]; rfl,HB.out⟩
 have HN:Hid (¬ ((⟨c1,c2,c3,c4,c5⟩:Cmp).dealer ≠ (⟨dl,cs,ps⟩:Dlg).dealer ∨ (⟨c1,c2,c3,c4,c5⟩:Cmp).row < 0 ∨ (((⟨dl,cs,ps⟩:Dlg).ps.length:Int) ≤ (⟨c1,c2,c3,c4,c5⟩:Cmp).row))):=Lib.hid (by
  show ¬ (c1 ≠ dl ∨ c2 < 0 ∨ (ps.length:Int) ≤ c2)
  rw [hlen]; omega)
 obtain ⟨k,rfl⟩:∃ k:Nat,c2 = (k:Int):=⟨c2.toNat,by omega⟩
 have hk:k < ps.length:=by omega
 obtain ⟨gp,op,hga,t0,t1,t2⟩:=(show ∃ b off,a4 = some ⟨b,off,none⟩ ∧ w2.cell? ⟨b,off + k * 3,none⟩ = some (.int .i64 ps[k].1) ∧ w2.cell? ⟨b,off + k * 3 + 1,none⟩ = some (.int .i64 ps[k].2.1) ∧ w2.cell? ⟨b,off + k * 3 + 2,none⟩ = some (.int .i64 ps[k].2.2) by
  obtain ⟨a,cp,e,-,-,-,hh⟩:=HP.out
  injection e with e1 e2 e3
  subst e1
  exact hh k hk)
 subst hga
 obtain ⟨r1,r2,r3⟩:R64 ps[k].1 ∧ R64 ps[k].2.1 ∧ R64 ps[k].2.2:=by
  obtain ⟨a,cp,e,-,-,hh,-⟩:=HP.out
  exact hh _ (List.getElem_mem hk)
 have HPA:Hid (parAt ⟨dl,cs,ps⟩ (k:Int) = ps[k]):=Lib.hid (by
  obtain ⟨_,h⟩:=parAt_mem (d:=⟨dl,cs,ps⟩) (row:=(k:Int)) ⟨by omega,by show (k:Int) < (ps.length:Int); omega⟩
  exact h)
 have HD64:Hid (R64 dl):=Lib.hid (by have:=HCM.out.dealer; exact ⟨by have:=this.1; simp only at this; omega,by have:=this.2; simp only at this; omega⟩)
 have HFB:=Lib.hid (fun v hv => fitB_com HCM.out (row:=(k:Int)) (v:=v) ⟨by omega,by show (k:Int) < (ps.length:Int); omega⟩ hv)
 have HK1:=Lib.hid (fun h => st_k (key:=key) (c:=⟨c1,(k:Int),c3,c4,c5⟩) HCE.out HN.out h)
 have HK2:=Lib.hid (fun h => stE_w (key:=key) (c:=⟨c1,(k:Int),c3,c4,c5⟩) HCE.out HN.out h)
 have HK4:=Lib.hid (fun h h3 b hf => st_f (rows:=rows) (owners:=owners) (key:=key) (d:=⟨dl,cs,ps⟩) (c:=⟨c1,(k:Int),c3,c4,c5⟩) h h3 (b:=b) hf)
 simp only at HK1 HK2 HK4
 rw [HPA.out] at HK1 HK2 HK4
 obtain ⟨n,hn⟩:∃ n,n = ps[k].1:=⟨_,rfl⟩
 obtain ⟨pt,hpt⟩:∃ n,n = ps[k].2.1:=⟨_,rfl⟩
 obtain ⟨ci,hci⟩:∃ n,n = ps[k].2.2:=⟨_,rfl⟩
 rw [← hn] at t0 r1 HK2 HK4
 rw [← hpt] at t1 r2 HK1 HK2 HK4
 rw [← hci] at t2 HK2 HK4
 clear hn hpt hci HPA r3
 have HCH:=Lib.hid (fun w => rcheck12_any key pt c3 c4 c5 w HC64.out.2.2.2.2 r2 HC64.out.2.1 HC64.out.2.2.1 HC64.out.2.2.2.1)
 have HWI:=Lib.hid (fun w => rwith_any c3 dl n pt ci w HC64.out.2.1 HD64.out r1 r2)
 have hk0:(0:Int) ≤ (k:Int):=Int.natCast_nonneg k
 have hk1:(k:Int) < (ps.length:Int):=by omega
 have hk3:(k:Int) < (rows.length:Int):=by omega
 have hk4:decide ((rows.length:Int) ≤ (k:Int)) = false:=decide_eq_false (by omega)
 have hk5:decide (rows.length ≤ k) = false:=decide_eq_false (by omega)
 obtain ⟨W5,hW5,hb5,hr5,hs5⟩:=box36 w2 (.int .i64 n) (.int .i64 pt) (.int .i64 ci) 49
 have HW5:=Lib.hid hW5
 have u0:=row_cell hr5 (k:=0) (v:=.int .i64 n) rfl
 have u1:=row_cell hr5 (k:=1) (v:=.int .i64 pt) rfl
 have u2:=row_cell hr5 (k:=2) (v:=.int .i64 ci) rfl
 clear hlen h2 h3 hk hr5 hW5 hs5 r1 r2
 subst h1
 have x2':=below_cell hb5 x2
 have x3':=below_cell hb5 x3
 have x4':=below_cell hb5 x4
 have HB5:=Lib.hid hb5
 clear hb5
 go_wp2_with (rw [← HW5.out])
 have hb5:=HB5.out
 clear t0 t1 t2 HW5 x2' x3' x4' HB5
 replace p0:=below_cell hb5 p0
 replace p1:=below_cell hb5 p1
 replace d0:=below_cell hb5 d0
 replace d1:=below_cell hb5 d1
 replace d2:=below_cell hb5 d2
 replace x0:=below_cell hb5 x0
 replace x1:=below_cell hb5 x1
 replace x2:=below_cell hb5 x2
 replace x3:=below_cell hb5 x3
 replace x4:=below_cell hb5 x4
 replace HR:=Lib.hid (HR.out.below hb5)
 replace HO:=Lib.hid (HO.out.below hb5)
 replace HC:=Lib.hid (HC.out.below hb5)
 replace HP:=Lib.hid (HP.out.below hb5)
 replace HB:=Lib.hid (HB.out.trans (hb5.mono HB.out.size))
 clear hb5
 with_reducible refine (HCH.out _).mono ?_
 rintro e w6 ⟨rfl,hb⟩
 replace p0:=below_cell hb p0
 replace p1:=below_cell hb p1
 replace d0:=below_cell hb d0
 replace d1:=below_cell hb d1
 replace d2:=below_cell hb d2
 replace x0:=below_cell hb x0
 replace x1:=below_cell hb x1
 replace x2:=below_cell hb x2
 replace x3:=below_cell hb x3
 replace x4:=below_cell hb x4
 replace u0:=below_cell hb u0
 replace u1:=below_cell hb u1
 replace u2:=below_cell hb u2
 replace HR:=Lib.hid (HR.out.below hb)
 replace HO:=Lib.hid (HO.out.below hb)
 replace HC:=Lib.hid (HC.out.below hb)
 replace HP:=Lib.hid (HP.out.below hb)
 replace HB:=Lib.hid (HB.out.trans (hb.mono HB.out.size))
 clear hb
 cases hch:chkB key pt c3 c4 c5 with
 | false =>
  have HV:=Lib.hid (HK1.out hch)
  clear hch HK1 HK2 HK4
  go_wp2_with fail
  go_ret2
  exact ⟨by rw [HV.out.1,HV.out.2]; rfl,HB.out⟩
 | true =>
 have HWE:=Lib.hid (HK2.out hch)
 replace HK4:=Lib.hid (fun h => HK4.out h hch)
 clear hch HK1 HK2
 go_wp2_with fail
 with_reducible refine (HWI.out _).mono ?_
 rintro e w7 ⟨rfl,hb⟩
 replace p0:=below_cell hb p0
 replace p1:=below_cell hb p1
 replace d0:=below_cell hb d0
 replace d1:=below_cell hb d1
 replace d2:=below_cell hb d2
 replace x0:=below_cell hb x0
 replace x1:=below_cell hb x1
 replace x2:=below_cell hb x2
 replace x3:=below_cell hb x3
 replace x4:=below_cell hb x4
 replace u0:=below_cell hb u0
 replace u1:=below_cell hb u1
 replace u2:=below_cell hb u2
 replace HR:=Lib.hid (HR.out.below hb)
 replace HO:=Lib.hid (HO.out.below hb)
 replace HC:=Lib.hid (HC.out.below hb)
 replace HP:=Lib.hid (HP.out.below hb)
 replace HB:=Lib.hid (HB.out.trans (hb.mono HB.out.size))
 clear hb
 obtain ⟨F,hF⟩:∃ x,x = withE c3 c1 n pt ci:=⟨_,rfl⟩
 obtain ⟨V,hV⟩:∃ x,x = withV c3 c1 n pt ci:=⟨_,rfl⟩
 have HVV:Hid (F = 0 → V = opnV c3 c1 n ci ∧ (0 ≤ V ∧ V < 1073741789)):=Lib.hid (fun h => by
  have e:=hV.trans (withV_yes (hF ▸ h))
  exact ⟨e,by rw [e]; exact opnV_num _ _ _ _⟩)
 rw [← hF,← hV]
 rw [← hF] at HWE
 clear hF hV HWI
 by_cases hF0:F = 0
 rotate_left
 ·have HV:=Lib.hid (st_w HWE.out hF0)
  have z1:(F != 0) = true:=bne_iff_ne.2 hF0
  clear hF0
  go_wp2_with fail
  go_ret2
  exact ⟨by rw [HV.out.1,HV.out.2]; rfl,HB.out⟩
 subst hF0
 have hVN:=(HVV.out rfl).2
 have HVO:=Lib.hid (HVV.out rfl).1
 replace HK4:=Lib.hid (HK4.out HWE.out)
 have hV64:R64 V:=⟨by omega,by omega⟩
 have hk64:R64 (k:Int):=HC64.out.1
 replace HFB:=Lib.hid (HFB.out V hVN)
 clear HVV HWE hVN
 go_wp2_with fail
 with_reducible refine (rFits36_any _ _ _ _ rows owners c1 cs ps (k:Int) V _ HR.out HO.out HC.out HP.out hk64 hV64).mono ?_
 rintro e w8 ⟨rfl,hb⟩
 replace p0:=below_cell hb p0
 replace p1:=below_cell hb p1
 replace d0:=below_cell hb d0
 replace d1:=below_cell hb d1
 replace d2:=below_cell hb d2
 replace x0:=below_cell hb x0
 replace x1:=below_cell hb x1
 replace x2:=below_cell hb x2
 replace x3:=below_cell hb x3
 replace x4:=below_cell hb x4
 replace u0:=below_cell hb u0
 replace u1:=below_cell hb u1
 replace u2:=below_cell hb u2
 replace HR:=Lib.hid (HR.out.below hb)
 replace HO:=Lib.hid (HO.out.below hb)
 replace HC:=Lib.hid (HC.out.below hb)
 replace HP:=Lib.hid (HP.out.below hb)
 replace HB:=Lib.hid (HB.out.trans (hb.mono HB.out.size))
 clear hb
 rw [HFB.out]
 rw [HVO.out]
 have HVF:=Lib.hid (HK4.out _ rfl)
 cases hf:fitV rows ⟨c1,cs,ps⟩ (k:Int) (opnV c3 c1 n ci) with
 | true =>
  rw [hf] at HVF
  clear hf
  go_wp2_with fail
  go_ret2
  exact ⟨by rw [HVF.out.1,HVF.out.2]; rfl,HB.out⟩
 | false =>
  rw [hf] at HVF
  clear hf
  go_wp2_with fail
  go_ret2
  exact ⟨by rw [HVF.out.1,HVF.out.2]; rfl,HB.out⟩
end Go.Proofs.YtggnipkfliompaaGreatDoor
