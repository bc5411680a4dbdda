/- The reference of keygen: does a complaint count, does a dealing pass; the dealing of a dealer. -/
import Derived.Test.YtggnipkfliompaaGreatDoorMParG
import Derived.Test.YtggnipkfliompaaGreatDoorMRefM
import Derived.Test.YtggnipkfliompaaGreatDoorMCoT
import Derived.Test.YtggnipkfliompaaGreatDoorMRefP
import Derived.Test.YtggnipkfliompaaGreatDoorMRegF
set_option maxHeartbeats 4000000
set_option maxRecDepth 100000
namespace Go.Proofs.YtggnipkfliompaaGreatDoor
open Go.RowKit FP
structure FRc3 (w0:World) (pb:Nat) (db:Nat) (cb:Nat) (kb:Nat) (ko:Nat) (nk:Nat) (ck:Nat) (ob:Nat) (oo:Nat) (no:Nat) (co2:Nat) (i:Nat) (m:Nat) (rv:Value) (cv:Value) (pv:Value) (dl:Int) (cdl:Int) (cD:Int) (cE:Int) (cS:Int) (key:Int) (G:Int) (E:Int) (done:Nat → Bool) (v:Nat → Value) (w:World):Prop where
 b:Below w0.heap.size w0 w
 f0:done 0 = true → v 0 = .agg #[rv,.slice (some ⟨ob,oo,none⟩) no co2]
 f1:done 1 = true → v 1 = .slice (some ⟨kb,ko,none⟩) nk ck
 f2:done 2 = true → v 2 = .pointer (some ⟨pb,1,none⟩)
 f3:done 3 = true → v 3 = .slice (some ⟨ob,oo,none⟩) no co2
 f4:done 4 = true → v 4 = .pointer (some ⟨cb,1,none⟩)
 f5:done 5 = true → v 5 = .int .i64 (i:Int)
 f6:done 6 = true → v 6 = .pointer (some ⟨ob,oo + i,none⟩)
 f7:done 7 = true → v 7 = .int .i64 (m:Int)
 f8:done 8 = true → v 8 = .pointer (some ⟨kb,ko + m,none⟩)
 f9:done 9 = true → v 9 = .int .i64 key
 f10:done 10 = true → v 10 = .agg #[.int .i64 dl,cv,pv]
 f11:done 11 = true → v 11 = .agg #[.int .i64 cdl,.int .i64 (i:Int),.int .i64 cD,.int .i64 cE,.int .i64 cS]
 f12:done 12 = true → v 12 = .tuple #[.int .i64 G,.int .i64 E]
 f13:done 13 = true → v 13 = .tuple #[.int .i64 G,.int .i64 E]
 f14:done 14 = true → v 14 = .int .i64 G
 f15:done 15 = true → v 15 = .int .i64 E
 f16:done 16 = true → v 16 = .int .i64 G
 f17:done 17 = true → v 17 = .int .i64 E
structure FRp6 (w0:World) (pb:Nat) (db:Nat) (cb:Nat) (co:Nat) (nc:Nat) (cc:Nat) (k:Nat) (rv:Value) (ov:Value) (kv:Value) (cv:Value) (pv:Value) (dl:Int) (cdl:Int) (cr:Int) (cD:Int) (cE:Int) (cS:Int) (bb:Bool) (done:Nat → Bool) (v:Nat → Value) (w:World):Prop where
 b:Below w0.heap.size w0 w
 f0:done 0 = true → v 0 = .agg #[rv,ov]
 f1:done 1 = true → v 1 = kv
 f2:done 2 = true → v 2 = .agg #[.int .i64 dl,cv,pv]
 f3:done 3 = true → v 3 = .slice (some ⟨cb,co,none⟩) nc cc
 f4:done 4 = true → v 4 = .int .i64 (k:Int)
 f5:done 5 = true → v 5 = .pointer (some ⟨cb,co + k * 5,none⟩)
 f6:done 6 = true → v 6 = .agg #[.int .i64 cdl,.int .i64 cr,.int .i64 cD,.int .i64 cE,.int .i64 cS]
 f7:done 7 = true → v 7 = .bool bb
structure FRf4t (w0:World) (pb:Nat) (lb:Nat) (lo:Nat) (nl:Nat) (cl:Nat) (k:Nat) (rv:Value) (ov:Value) (cv:Value) (pv:Value) (dl:Int) (n:Int) (bb:Bool) (done:Nat → Bool) (v:Nat → Value) (w:World):Prop where
 b:Below w0.heap.size w0 w
 f0:done 0 = true → v 0 = .slice (some ⟨lb,lo,none⟩) nl cl
 f1:done 1 = true → v 1 = .int .i64 (k:Int)
 f2:done 2 = true → v 2 = .pointer (some ⟨lb,lo + k * 3,none⟩)
 f3:done 3 = true → v 3 = .pointer (some ⟨lb,lo + k * 3,none⟩)
 f4:done 4 = true → v 4 = .int .i64 dl
 f5:done 5 = true → v 5 = .int .i64 n
 f6:done 6 = true → v 6 = .bool true
 f7:done 7 = true → v 7 = .bool true
 f8:done 8 = true → v 8 = .agg #[rv,ov]
 f9:done 9 = true → v 9 = .slice (some ⟨lb,lo,none⟩) nl cl
 f10:done 10 = true → v 10 = .int .i64 (k:Int)
 f11:done 11 = true → v 11 = .pointer (some ⟨lb,lo + k * 3,none⟩)
 f12:done 12 = true → v 12 = .agg #[.int .i64 dl,cv,pv]
 f13:done 13 = true → v 13 = .bool bb
 f14:done 14 = true → v 14 = .bool bb
structure FRf4f (w0:World) (pb:Nat) (lb:Nat) (lo:Nat) (nl:Nat) (cl:Nat) (k:Nat) (rv:Value) (ov:Value) (cv:Value) (pv:Value) (dl:Int) (n:Int) (bb:Bool) (done:Nat → Bool) (v:Nat → Value) (w:World):Prop where
 b:Below w0.heap.size w0 w
 f0:done 0 = true → v 0 = .slice (some ⟨lb,lo,none⟩) nl cl
 f1:done 1 = true → v 1 = .int .i64 (k:Int)
 f2:done 2 = true → v 2 = .pointer (some ⟨lb,lo + k * 3,none⟩)
 f3:done 3 = true → v 3 = .pointer (some ⟨lb,lo + k * 3,none⟩)
 f4:done 4 = true → v 4 = .int .i64 dl
 f5:done 5 = true → v 5 = .int .i64 n
 f6:done 6 = true → v 6 = .bool false
 f7:done 7 = true → v 7 = .bool false
 f14:done 14 = true → v 14 = .bool false
theorem rCounts37_any (rv ov kv cv pv:Value) (rows:List (List Int)) (owners keys:List Int) (d:Dlg) (c:Cmp) (w:World) (hR:Rows2 w rv rows) (hO:Ints w ov owners) (hK:Ints w kv keys) (hC:Ints w cv d.cs) (hP:Parcels w pv d.ps) (hlen:rows.length = owners.length) (hko:KeysOK owners keys) (h0:∀ o ∈ owners,0 ≤ o) (hc:CmpR c) :
  Calls Tryz.prog 171 #[.agg #[rv,ov],kv,.agg #[.int .i64 d.dealer,cv,pv],cmpV c] w fun r w' => r = .returned (.bool (kcntB rows owners keys d c)) ∧ Below w.heap.size w w':=by
 obtain ⟨cdl,cr,cD,cE,cS⟩:=c
 obtain ⟨W1,hW1,hb1,hr1,hr2⟩:=box_pd w rv ov (.int .i64 d.dealer) cv pv
 have hs1:W1.heap.size = w.heap.size + 1 + 1:=by rw [hW1]; simp
 obtain ⟨W2,hW2⟩:∃ W,W = W1.alloc (.cells #[.int .i64 cdl,.int .i64 cr,.int .i64 cD,.int .i64 cE,.int .i64 cS] 34):=⟨_,rfl⟩
 have hb2:Below W1.heap.size W1 W2:=by rw [hW2]; exact below_new _ _ _
 have hr3:W2.heap[w.heap.size + 1 + 1]? = some (.cells #[.int .i64 cdl,.int .i64 cr,.int .i64 cD,.int .i64 cE,.int .i64 cS] 34 (0,0)):=by rw [hW2,← hs1]; exact World.alloc_heap_new _ _
 have q1:=(hb2.block _ (row_lt hr1)).trans hr1
 have q2:=(hb2.block _ (row_lt hr2)).trans hr2
 have hb:=hb1.trans (hb2.mono hb1.size)
 have HR:=Lib.hid (hR.below hb)
 have HO:=Lib.hid (hO.below hb)
 have HK:=Lib.hid (hK.below hb)
 have HC:=Lib.hid (hC.below hb)
 have HP:=Lib.hid (hP.below hb)
 have HB:=Lib.hid hb
 have HCC:=Lib.hid hc
 have HKO:=Lib.hid hko
 have H0:=Lib.hid h0
 have HLE:=Lib.hid hlen
 obtain ⟨a1,k1,rfl,-,hl1,-⟩:=id hR
 obtain ⟨a2,k2,rfl,-,hl2,-⟩:=id hO
 obtain ⟨a3,k3,rfl,-,hl3,-⟩:=id hK
 obtain ⟨a4,k4,rfl,-,hl4,-⟩:=id hC
 obtain ⟨a5,k5,rfl,-,hl5,-⟩:=id hP
 have c0:=row_cell q1 (k:=0) (v:=.slice a1 rows.length k1) rfl
 have c1:=row_cell q1 (k:=1) (v:=.slice a2 owners.length k2) rfl
 have x0:=row_cell q2 (k:=0) (v:=.int .i64 d.dealer) rfl
 have x1:=row_cell q2 (k:=1) (v:=.slice a4 d.cs.length k4) rfl
 have x2:=row_cell q2 (k:=2) (v:=.slice a5 d.ps.length k5) rfl
 have y0:=row_cell hr3 (k:=0) (v:=.int .i64 cdl) rfl
 have y1:=row_cell hr3 (k:=1) (v:=.int .i64 cr) rfl
 have y2:=row_cell hr3 (k:=2) (v:=.int .i64 cD) rfl
 have y3:=row_cell hr3 (k:=3) (v:=.int .i64 cE) rfl
 have y4:=row_cell hr3 (k:=4) (v:=.int .i64 cS) rfl
 rw [hW1] at hW2
 have HW2:=Lib.hid hW2
 have HV:=Lib.hid (show kcntB rows owners keys d ⟨cdl,cr,cD,cE,cS⟩ = ((decide (cdl = d.dealer) && (decide (0 ≤ cr) && decide (cr < (rows.length:Int)))) && (stE rows owners (keyOf owners keys cr.toNat) d ⟨cdl,cr,cD,cE,cS⟩ == 0 && stG rows owners (keyOf owners keys cr.toNat) d ⟨cdl,cr,cD,cE,cS⟩ == 1)) from rfl)
 have hav:cmpV ⟨cdl,cr,cD,cE,cS⟩ = .agg #[.int .i64 cdl,.int .i64 cr,.int .i64 cD,.int .i64 cE,.int .i64 cS]:=rfl
 rw [hav]
 clear hR hO hK hC hP hb hc hko h0 hlen q1 q2 hr1 hr2 hr3 hW1 hW2 hb1 hb2 hs1 hav
 go_enter Tryz.func171,Tryz.ntmps171
 by_cases h5:cdl = d.dealer
 rotate_left
 ·have d1:(cdl != d.dealer) = true:=bne_iff_ne.2 h5
  replace HV:Hid (kcntB rows owners keys d ⟨cdl,cr,cD,cE,cS⟩ = false):=Lib.hid (HV.out.trans (by simp [h5]))
  clear h5
  go_wp2_with (rw [← HW2.out])
  go_ret
  exact ⟨ret_bool HV.out.symm,HB.out⟩
 have d1:(cdl != d.dealer) = false:=bne_eq_false_iff_eq.2 h5
 by_cases h6:0 ≤ cr
 rotate_left
 ·have d2:decide (cr < 0) = true:=decide_eq_true (by omega)
  replace HV:Hid (kcntB rows owners keys d ⟨cdl,cr,cD,cE,cS⟩ = false):=Lib.hid (HV.out.trans (by simp [h6]))
  clear h5 h6
  go_wp2_with (rw [← HW2.out])
  go_ret
  exact ⟨ret_bool HV.out.symm,HB.out⟩
 have d2:decide (cr < 0) = false:=decide_eq_false (by omega)
 by_cases h7:cr < (rows.length:Int)
 rotate_left
 ·have d3:decide ((rows.length:Int) ≤ cr) = true:=decide_eq_true (by omega)
  replace HV:Hid (kcntB rows owners keys d ⟨cdl,cr,cD,cE,cS⟩ = false):=Lib.hid (HV.out.trans (by simp [h7]))
  clear h5 h6 h7
  go_wp2_with (rw [← HW2.out])
  go_ret
  exact ⟨ret_bool HV.out.symm,HB.out⟩
 replace HV:Hid (kcntB rows owners keys d ⟨cdl,cr,cD,cE,cS⟩ = (stE rows owners (keyOf owners keys cr.toNat) d ⟨cdl,cr,cD,cE,cS⟩ == 0 && stG rows owners (keyOf owners keys cr.toNat) d ⟨cdl,cr,cD,cE,cS⟩ == 1)):=Lib.hid (HV.out.trans (by rw [decide_eq_true h5,decide_eq_true h6,decide_eq_true h7]; simp))
 obtain ⟨i,rfl⟩:∃ i:Nat,cr = (i:Int):=⟨cr.toNat,by omega⟩
 rw [Int.toNat_natCast] at HV
 have d3:decide ((rows.length:Int) ≤ (i:Int)) = false:=decide_eq_false (by omega)
 have d4:decide (rows.length ≤ i) = false:=decide_eq_false (by omega)
 have hio:i < owners.length:=by rw [← HLE.out]; omega
 obtain ⟨hmk,hek⟩:=HKO.out.key H0.out hio
 obtain ⟨ob,oo,ea,qo_⟩:=ints_at HO.out hio
 subst ea
 obtain ⟨m,hm⟩:∃ m:Nat,owners[i] = (m:Int):=⟨owners[i].toNat,by have:=H0.out _ (List.getElem_mem hio); omega⟩
 have hmn:nth owners i = (m:Int):=by rw [nth_at hio]; exact hm
 rw [hmn,Int.toNat_natCast] at hmk
 obtain ⟨kb,ko,ea,qk_⟩:=ints_at HK.out hmk
 subst ea
 have hkm:keys[m] = keyOf owners keys i:=by unfold keyOf; rw [hmn,Int.toNat_natCast,nth_at hmk]
 rw [hm] at qo_
 rw [hkm] at qk_
 have HST0:=Lib.hid (fun W (h:Below W2.heap.size W2 W) => rSettle36_any (.slice a1 rows.length k1) (.slice (some ⟨ob,oo,none⟩) owners.length k2) (.slice a4 d.cs.length k4) (.slice a5 d.ps.length k5) rows owners d.dealer d.cs d.ps ⟨cdl,(i:Int),cD,cE,cS⟩ (keyOf owners keys i) W (HR.out.below h) (HO.out.below h) (HC.out.below h) (HP.out.below h) hek.r64 HCC.out)
 have hde:(⟨d.dealer,d.cs,d.ps⟩:Dlg) = d:=rfl
 rw [hde] at HST0
 generalize stE rows owners (keyOf owners keys i) d ⟨cdl,(i:Int),cD,cE,cS⟩ = E at *
 generalize stG rows owners (keyOf owners keys i) d ⟨cdl,(i:Int),cD,cE,cS⟩ = G at *
 generalize keyOf owners keys i = key at *
 have HST:Hid (∀ W,Below W2.heap.size W2 W → Calls Tryz.prog 18 #[.agg #[.slice a1 rows.length k1,.slice (some ⟨ob,oo,none⟩) owners.length k2],.int .i64 key,.agg #[.int .i64 d.dealer,.slice a4 d.cs.length k4,.slice a5 d.ps.length k5],.agg #[.int .i64 cdl,.int .i64 (i:Int),.int .i64 cD,.int .i64 cE,.int .i64 cS]] W fun r w' => r = .returned (.tuple #[.int .i64 G,.int .i64 E]) ∧ Below W.heap.size W w'):=Lib.hid HST0.out
 have i0:(0:Int) ≤ (i:Int):=Int.natCast_nonneg i
 have i1:(i:Int) < (owners.length:Int):=by omega
 have i5:(0:Int) ≤ (m:Int):=Int.natCast_nonneg m
 have i6:(m:Int) < (keys.length:Int):=by omega
 clear h5 h6 h7 hio hmk hek hm hmn hkm HST0 hde
 go_wp2_with (rw [← HW2.out])
 refine wp_region_flowsG (by kernel_rfl) (by kernel_rfl) (by kernel_rfl) (by kernel_rfl) (fun done v W => FRc3 W2 (w.heap.size) (w.heap.size + 1) (w.heap.size + 1 + 1) (kb) (ko) (keys.length) (k3) (ob) (oo) (owners.length) (k2) (i) (m) (.slice a1 rows.length k1) (.slice a4 d.cs.length k4) (.slice a5 d.ps.length k5) (d.dealer) (cdl) (cD) (cE) (cS) (key) (G) (E) done v W) (fun v => ?_) ?_ (fun v W h => ?_)
 ·exact ⟨(Below.refl _ _).drew,(fun h => by cases h),(fun h => by cases h),(fun h => by cases h),(fun h => by cases h),(fun h => by cases h),(fun h => by cases h),(fun h => by cases h),(fun h => by cases h),(fun h => by cases h),(fun h => by cases h),(fun h => by cases h),(fun h => by cases h),(fun h => by cases h),(fun h => by cases h),(fun h => by cases h),(fun h => by cases h),(fun h => by cases h),(fun h => by cases h)⟩
 ·refine ⟨?_,?_,?_,?_,?_,?_,?_,?_,?_,?_,?_,?_,?_,?_,?_,?_,?_,?_,trivial⟩
  ·intro done v W A h hd hp hu hA hB hdf
   have e0:A.tmps[4]?.getD undef = .pointer (some ⟨w.heap.size,0,none⟩):=hB 4 rfl
   have y0_:=below_cell h.b c0
   have y1_:=below_cell h.b c1
   clear hA hB hp hu hdf
   go_simp
   exact ⟨_,rfl,{ h with f0:=(fun _ => rfl) }⟩
  ·intro done v W A h hd hp hu hA hB hdf
   have e0:A.tmps[1]?.getD undef = .slice (some ⟨kb,ko,none⟩) keys.length k3:=hB 1 rfl
   clear hA hB hp hu hdf
   go_simp
   exact ⟨_,rfl,{ h with f1:=(fun _ => rfl) }⟩
  ·intro done v W A h hd hp hu hA hB hdf
   have e0:A.tmps[4]?.getD undef = .pointer (some ⟨w.heap.size,0,none⟩):=hB 4 rfl
   clear hA hB hp hu hdf
   go_simp
   exact ⟨_,rfl,{ h with f2:=(fun _ => rfl) }⟩
  ·intro done v W A h hd hp hu hA hB hdf
   have hd2:done 2 = true:=hp 2 rfl
   have e0:=(hA 2 32 rfl hd2).trans (h.f2 hd2)
   have y0_:=below_cell h.b c1
   clear hA hB hp hu hdf
   go_simp
   exact ⟨_,rfl,{ h with f3:=(fun _ => rfl) }⟩
  ·intro done v W A h hd hp hu hA hB hdf
   have e0:A.tmps[7]?.getD undef = .pointer (some ⟨w.heap.size + 1 + 1,0,none⟩):=hB 7 rfl
   clear hA hB hp hu hdf
   go_simp
   exact ⟨_,rfl,{ h with f4:=(fun _ => rfl) }⟩
  ·intro done v W A h hd hp hu hA hB hdf
   have hd4:done 4 = true:=hp 4 rfl
   have e0:=(hA 4 34 rfl hd4).trans (h.f4 hd4)
   have y0_:=below_cell h.b y1
   clear hA hB hp hu hdf
   go_simp
   exact ⟨_,rfl,{ h with f5:=(fun _ => rfl) }⟩
  ·intro done v W A h hd hp hu hA hB hdf
   have hd3:done 3 = true:=hp 3 rfl
   have hd5:done 5 = true:=hp 5 rfl
   have e0:=(hA 3 33 rfl hd3).trans (h.f3 hd3)
   have e1:=(hA 5 35 rfl hd5).trans (h.f5 hd5)
   clear hA hB hp hu hdf
   go_simp
   exact ⟨_,rfl,{ h with f6:=(fun _ => rfl) }⟩
  ·intro done v W A h hd hp hu hA hB hdf
   have hd6:done 6 = true:=hp 6 rfl
   have e0:=(hA 6 36 rfl hd6).trans (h.f6 hd6)
   have y0_:=below_cell h.b qo_
   clear hA hB hp hu hdf
   go_simp
   exact ⟨_,rfl,{ h with f7:=(fun _ => rfl) }⟩
  ·intro done v W A h hd hp hu hA hB hdf
   have hd1:done 1 = true:=hp 1 rfl
   have hd7:done 7 = true:=hp 7 rfl
   have e0:=(hA 1 31 rfl hd1).trans (h.f1 hd1)
   have e1:=(hA 7 37 rfl hd7).trans (h.f7 hd7)
   clear hA hB hp hu hdf
   go_simp
   exact ⟨_,rfl,{ h with f8:=(fun _ => rfl) }⟩
  ·intro done v W A h hd hp hu hA hB hdf
   have hd8:done 8 = true:=hp 8 rfl
   have e0:=(hA 8 38 rfl hd8).trans (h.f8 hd8)
   have y0_:=below_cell h.b qk_
   clear hA hB hp hu hdf
   go_simp
   exact ⟨_,rfl,{ h with f9:=(fun _ => rfl) }⟩
  ·intro done v W A h hd hp hu hA hB hdf
   have e0:A.tmps[6]?.getD undef = .pointer (some ⟨w.heap.size + 1,0,none⟩):=hB 6 rfl
   have y0_:=below_cell h.b x0
   have y1_:=below_cell h.b x1
   have y2_:=below_cell h.b x2
   clear hA hB hp hu hdf
   go_simp
   exact ⟨_,rfl,{ h with f10:=(fun _ => rfl) }⟩
  ·intro done v W A h hd hp hu hA hB hdf
   have e0:A.tmps[7]?.getD undef = .pointer (some ⟨w.heap.size + 1 + 1,0,none⟩):=hB 7 rfl
   have y0_:=below_cell h.b y0
   have y1_:=below_cell h.b y1
   have y2_:=below_cell h.b y2
   have y3_:=below_cell h.b y3
   have y4_:=below_cell h.b y4
   clear hA hB hp hu hdf
   go_simp
   exact ⟨_,rfl,{ h with f11:=(fun _ => rfl) }⟩
  ·intro done v W A h hd hp hu hA hB hdf
   have hd0:done 0 = true:=hp 0 rfl
   have hd9:done 9 = true:=hp 9 rfl
   have hd10:done 10 = true:=hp 10 rfl
   have hd11:done 11 = true:=hp 11 rfl
   have e0:=(hA 0 30 rfl hd0).trans (h.f0 hd0)
   have e1:=(hA 9 39 rfl hd9).trans (h.f9 hd9)
   have e2:=(hA 10 40 rfl hd10).trans (h.f10 hd10)
   have e3:=(hA 11 41 rfl hd11).trans (h.f11 hd11)
   clear hA hB hp hu hdf
   go_simp
   with_reducible refine (HST.out W h.b).mono ?_
   rintro e wq ⟨rfl,hb⟩
   exact ⟨_,rfl,{ h with b:=h.b.trans (hb.mono h.b.size),f12:=(fun _ => rfl) }⟩
  ·intro done v W A h hd hp hu hA hB hdf
   have hd12:done 12 = true:=hp 12 rfl
   have e0:=(hA 12 42 rfl hd12).trans (h.f12 hd12)
   clear hA hB hp hu hdf
   go_simp
   exact ⟨_,rfl,{ h with f13:=(fun _ => rfl) }⟩
  ·intro done v W A h hd hp hu hA hB hdf
   have hd13:done 13 = true:=hp 13 rfl
   have e0:=(hA 13 29 rfl hd13).trans (h.f13 hd13)
   clear hA hB hp hu hdf
   go_simp
   exact ⟨_,rfl,{ h with f14:=(fun _ => rfl) }⟩
  ·intro done v W A h hd hp hu hA hB hdf
   have hd13:done 13 = true:=hp 13 rfl
   have e0:=(hA 13 29 rfl hd13).trans (h.f13 hd13)
   clear hA hB hp hu hdf
   go_simp
   exact ⟨_,rfl,{ h with f15:=(fun _ => rfl) }⟩
  ·intro done v W A h hd hp hu hA hB hdf
   have hd14:done 14 = true:=hp 14 rfl
   have e0:=(hA 14 43 rfl hd14).trans (h.f14 hd14)
   clear hA hB hp hu hdf
   go_simp
   exact ⟨_,rfl,{ h with f16:=(fun _ => rfl) }⟩
  ·intro done v W A h hd hp hu hA hB hdf
   have hd15:done 15 = true:=hp 15 rfl
   have e0:=(hA 15 44 rfl hd15).trans (h.f15 hd15)
   clear hA hB hp hu hdf
   go_simp
   exact ⟨_,rfl,{ h with f17:=(fun _ => rfl) }⟩
 simp only [putL,Act.put,Nat.reduceAdd,List.setIfInBounds_toArray,List.set_cons_zero,List.set_cons_succ]
 rw [h.f16 rfl]
 rw [h.f17 rfl]
 have hbr:=h.b
 have HBF:=Lib.hid (HB.out.trans (hbr.mono HB.out.size))
 clear h hbr HST
 by_cases hE:E = 0
 rotate_left
 ·have e1:(E == 0) = false:=beq_eq_false_iff_ne.2 hE
  replace HV:Hid (kcntB rows owners keys d ⟨cdl,(i:Int),cD,cE,cS⟩ = false):=Lib.hid (HV.out.trans (by rw [e1]; rfl))
  clear hE
  go_wp2_with fail
  go_ret
  exact ⟨ret_bool HV.out.symm,HBF.out⟩
 have e1:(E == 0) = true:=beq_iff_eq.2 hE
 by_cases hG:G = 1
 rotate_left
 ·have e2:(G == 1) = false:=beq_eq_false_iff_ne.2 hG
  replace HV:Hid (kcntB rows owners keys d ⟨cdl,(i:Int),cD,cE,cS⟩ = false):=Lib.hid (HV.out.trans (by rw [e1,e2]; rfl))
  clear hE hG
  go_wp2_with fail
  go_ret
  exact ⟨ret_bool HV.out.symm,HBF.out⟩
 have e2:(G == 1) = true:=beq_iff_eq.2 hG
 replace HV:Hid (kcntB rows owners keys d ⟨cdl,(i:Int),cD,cE,cS⟩ = true):=Lib.hid (HV.out.trans (by rw [e1,e2]; rfl))
 clear hE hG
 go_wp2_with fail
 go_ret
 exact ⟨ret_bool HV.out.symm,HBF.out⟩
theorem rPasses37_any (rv ov kv cv pv clv:Value) (rows:List (List Int)) (owners keys:List Int) (d:Dlg) (cl:List Cmp) (w:World) (hR:Rows2 w rv rows) (hO:Ints w ov owners) (hK:Ints w kv keys) (hC:Ints w cv d.cs) (hP:Parcels w pv d.ps) (hL:Cmps w clv cl) (hp:progE rows owners = 0) (hko:KeysOK owners keys) (h0:∀ o ∈ owners,0 ≤ o) :
  Calls Tryz.prog 106 #[.agg #[rv,ov],kv,.agg #[.int .i64 d.dealer,cv,pv],clv] w fun r w' => r = .returned (.bool (passB rows owners keys cl d)) ∧ Below w.heap.size w w':=by
 obtain ⟨W1,hW1,hb1,hr1,hr2⟩:=box_pd w rv ov (.int .i64 d.dealer) cv pv
 have HR:=Lib.hid (hR.below hb1)
 have HO:=Lib.hid (hO.below hb1)
 have HK:=Lib.hid (hK.below hb1)
 have HC:=Lib.hid (hC.below hb1)
 have HP:=Lib.hid (hP.below hb1)
 have HL:=Lib.hid (hL.below hb1)
 have HB:=Lib.hid hb1
 have HKO:=Lib.hid hko
 have H0:=Lib.hid h0
 have HPP:=Lib.hid hp
 obtain ⟨a1,k1,rfl,-,hl1,-⟩:=id hR
 obtain ⟨a2,k2,rfl,-,hl2,-⟩:=id hO
 obtain ⟨a3,k3,rfl,-,hl3,-⟩:=id hK
 obtain ⟨a4,k4,rfl,-,hl4,-⟩:=id hC
 obtain ⟨a5,k5,rfl,-,hl5,-⟩:=id hP
 obtain ⟨a6,k6,rfl,-,hl6,-⟩:=id hL
 have c0_:=row_cell hr1 (k:=0) (v:=.slice a1 rows.length k1) rfl
 have c1_:=row_cell hr1 (k:=1) (v:=.slice a2 owners.length k2) rfl
 have x0_:=row_cell hr2 (k:=0) (v:=.int .i64 d.dealer) rfl
 have x1_:=row_cell hr2 (k:=1) (v:=.slice a4 d.cs.length k4) rfl
 have x2_:=row_cell hr2 (k:=2) (v:=.slice a5 d.ps.length k5) rfl
 have HW1:=Lib.hid hW1
 clear hR hO hK hC hP hL hb1 hko h0 hp hr1 hr2 hW1
 go_enter Tryz.func106,Tryz.ntmps106
 go_wp2_with (rw [← HW1.out])
 clear HW1
 with_reducible refine (rFine37_any _ _ _ _ rows owners d _ HR.out HO.out HC.out HP.out (progE_ok HPP.out).few (progE_ok HPP.out).cols_le).mono ?_
 rintro e w2 ⟨rfl,hb2⟩
 replace c0_:=below_cell hb2 c0_
 replace c1_:=below_cell hb2 c1_
 replace x0_:=below_cell hb2 x0_
 replace x1_:=below_cell hb2 x1_
 replace x2_:=below_cell hb2 x2_
 replace HR:=Lib.hid (HR.out.below hb2)
 replace HO:=Lib.hid (HO.out.below hb2)
 replace HK:=Lib.hid (HK.out.below hb2)
 replace HC:=Lib.hid (HC.out.below hb2)
 replace HP:=Lib.hid (HP.out.below hb2)
 replace HL:=Lib.hid (HL.out.below hb2)
 replace HB:=Lib.hid (HB.out.trans (hb2.mono HB.out.size))
 clear hb2
 cases hf:fineB rows d with
 | false =>
  have HV:Hid (passB rows owners keys cl d = false):=Lib.hid (by unfold passB; rw [hf]; rfl)
  clear hf
  go_wp2_with fail
  go_ret
  exact ⟨ret_bool HV.out.symm,HB.out⟩
 | true =>
 have HV:Hid (passB rows owners keys cl d = !cl.any (kcntB rows owners keys d)):=Lib.hid (by unfold passB; rw [hf]; rfl)
 clear hf
 go_wp2_with fail
 go_loopw [9] (fun i Y => ∃ k:Nat,k ≤ cl.length ∧ i = .int .i64 k ∧ Hid (∀ c ∈ cl.take k,kcntB rows owners keys d c = false) ∧ Below w2.heap.size w2 Y) (fun i _ => cl.length - (intOf i).toNat)
 case atStart => exact ⟨0,Nat.zero_le _,rfl,Lib.hid (by simp),Below.refl _ _⟩
 case round =>
  obtain ⟨k,hkl,rfl,HTK,hb⟩:=hrel
  by_cases hlt:k < cl.length
  ·have HCT0:=Lib.hid (fun W (h:Below wr.heap.size wr W) => rCounts37_any (.slice a1 rows.length k1) (.slice a2 owners.length k2) (.slice a3 keys.length k3) (.slice a4 d.cs.length k4) (.slice a5 d.ps.length k5) rows owners keys d cl[k] W ((HR.out.below hb).below h) ((HO.out.below hb).below h) ((HK.out.below hb).below h) ((HC.out.below hb).below h) ((HP.out.below hb).below h) (progE_ok HPP.out).len HKO.out H0.out (by obtain ⟨_,_,_,_,_,hr,_⟩:=HL.out; exact hr _ (List.getElem_mem hlt)))
   obtain ⟨cb0,co0,ea,hcr,y0,y1,y2,y3,y4⟩:=(HL.out.below hb).at hlt
   subst ea
   have hnx:=fun h => take_next (p:=fun c => kcntB rows owners keys d c) hlt HTK.out h
   have hbad:=fun (h:kcntB rows owners keys d cl[k] = true) => show cl.any (kcntB rows owners keys d) = true from List.any_eq_true.2 ⟨_,List.getElem_mem hlt,h⟩
   generalize kcntB rows owners keys d cl[k] = bb at *
   obtain ⟨c,hc⟩:∃ c,c = cl[k]:=⟨_,rfl⟩
   rw [← hc] at hcr y0 y1 y2 y3 y4 HCT0
   obtain ⟨cdl,cr,cD,cE,cS⟩:=c
   simp only at y0 y1 y2 y3 y4
   have HCT:Hid (∀ W,Below wr.heap.size wr W → Calls Tryz.prog 171 #[.agg #[.slice a1 rows.length k1,.slice a2 owners.length k2],.slice a3 keys.length k3,.agg #[.int .i64 d.dealer,.slice a4 d.cs.length k4,.slice a5 d.ps.length k5],.agg #[.int .i64 cdl,.int .i64 cr,.int .i64 cD,.int .i64 cE,.int .i64 cS]] W fun r w' => r = .returned (.bool bb) ∧ Below W.heap.size W w'):=Lib.hid HCT0.out
   replace c0_:=below_cell hb c0_
   replace c1_:=below_cell hb c1_
   replace x0_:=below_cell hb x0_
   replace x1_:=below_cell hb x1_
   replace x2_:=below_cell hb x2_
   have i0:(0:Int) ≤ (k:Int):=Int.natCast_nonneg k
   have i1:(k:Int) < (cl.length:Int):=by omega
   have HBW:=Lib.hid hb
   have HLT:=Lib.hid hlt
   have HNX:=Lib.hid hnx
   have HBD:=Lib.hid hbad
   clear hc hcr hb HCT0 HTK hnx hbad
   go_wp2_with fail
   refine wp_region_flowsG (by kernel_rfl) (by kernel_rfl) (by kernel_rfl) (by kernel_rfl) (fun done v W => FRp6 wr (w.heap.size) (w.heap.size + 1) (cb0) (co0) (cl.length) (k6) (k) (.slice a1 rows.length k1) (.slice a2 owners.length k2) (.slice a3 keys.length k3) (.slice a4 d.cs.length k4) (.slice a5 d.ps.length k5) (d.dealer) (cdl) (cr) (cD) (cE) (cS) (bb) done v W) (fun v => ?_) ?_ (fun v W h => ?_)
   ·exact ⟨(Below.refl _ _).drew,(fun h => by cases h),(fun h => by cases h),(fun h => by cases h),(fun h => by cases h),(fun h => by cases h),(fun h => by cases h),(fun h => by cases h),(fun h => by cases h)⟩
   ·refine ⟨?_,?_,?_,?_,?_,?_,?_,?_,trivial⟩
    ·intro done v W A h hd hp hu hA hB hdf
     have e0:A.tmps[4]?.getD undef = .pointer (some ⟨w.heap.size,0,none⟩):=hB 4 rfl
     have y0_:=below_cell h.b c0_
     have y1_:=below_cell h.b c1_
     clear hA hB hp hu hdf
     go_simp
     exact ⟨_,rfl,{ h with f0:=(fun _ => rfl) }⟩
    ·intro done v W A h hd hp hu hA hB hdf
     have e0:A.tmps[1]?.getD undef = .slice a3 keys.length k3:=hB 1 rfl
     clear hA hB hp hu hdf
     go_simp
     exact ⟨_,rfl,{ h with f1:=(fun _ => rfl) }⟩
    ·intro done v W A h hd hp hu hA hB hdf
     have e0:A.tmps[6]?.getD undef = .pointer (some ⟨w.heap.size + 1,0,none⟩):=hB 6 rfl
     have y0_:=below_cell h.b x0_
     have y1_:=below_cell h.b x1_
     have y2_:=below_cell h.b x2_
     clear hA hB hp hu hdf
     go_simp
     exact ⟨_,rfl,{ h with f2:=(fun _ => rfl) }⟩
    ·intro done v W A h hd hp hu hA hB hdf
     have e0:A.tmps[3]?.getD undef = .slice (some ⟨cb0,co0,none⟩) cl.length k6:=hB 3 rfl
     clear hA hB hp hu hdf
     go_simp
     exact ⟨_,rfl,{ h with f3:=(fun _ => rfl) }⟩
    ·intro done v W A h hd hp hu hA hB hdf
     have e0:A.tmps[9]?.getD undef = .int .i64 (k:Int):=hB 9 rfl
     clear hA hB hp hu hdf
     go_simp
     exact ⟨_,rfl,{ h with f4:=(fun _ => rfl) }⟩
    ·intro done v W A h hd hp hu hA hB hdf
     have hd3:done 3 = true:=hp 3 rfl
     have hd4:done 4 = true:=hp 4 rfl
     have e0:=(hA 3 23 rfl hd3).trans (h.f3 hd3)
     have e1:=(hA 4 24 rfl hd4).trans (h.f4 hd4)
     clear hA hB hp hu hdf
     go_simp
     exact ⟨_,rfl,{ h with f5:=(fun _ => rfl) }⟩
    ·intro done v W A h hd hp hu hA hB hdf
     have hd5:done 5 = true:=hp 5 rfl
     have e0:=(hA 5 25 rfl hd5).trans (h.f5 hd5)
     have y0_:=below_cell h.b y0
     have y1_:=below_cell h.b y1
     have y2_:=below_cell h.b y2
     have y3_:=below_cell h.b y3
     have y4_:=below_cell h.b y4
     clear hA hB hp hu hdf
     go_simp
     exact ⟨_,rfl,{ h with f6:=(fun _ => rfl) }⟩
    ·intro done v W A h hd hp hu hA hB hdf
     have hd0:done 0 = true:=hp 0 rfl
     have hd1:done 1 = true:=hp 1 rfl
     have hd2:done 2 = true:=hp 2 rfl
     have hd6:done 6 = true:=hp 6 rfl
     have e0:=(hA 0 20 rfl hd0).trans (h.f0 hd0)
     have e1:=(hA 1 21 rfl hd1).trans (h.f1 hd1)
     have e2:=(hA 2 22 rfl hd2).trans (h.f2 hd2)
     have e3:=(hA 6 26 rfl hd6).trans (h.f6 hd6)
     clear hA hB hp hu hdf
     go_simp
     with_reducible refine (HCT.out W h.b).mono ?_
     rintro e wq ⟨rfl,hb⟩
     exact ⟨_,rfl,{ h with b:=h.b.trans (hb.mono h.b.size),f7:=(fun _ => rfl) }⟩
   simp only [putL,Act.put,Nat.reduceAdd,List.setIfInBounds_toArray,List.set_cons_zero,List.set_cons_succ]
   have hbr:=h.b
   rw [h.f7 rfl]
   have HB2:=Lib.hid (HBW.out.trans (hbr.mono HBW.out.size))
   clear h hbr HCT
   cases bb with
   | true =>
    replace HV:Hid (passB rows owners keys cl d = false):=Lib.hid (HV.out.trans (by rw [HBD.out rfl]; rfl))
    go_wp2_with fail
    go_ret
    exact ⟨ret_bool HV.out.symm,HB.out.trans (HB2.out.mono HB.out.size)⟩
   | false =>
    have HN:=Lib.hid (HNX.out rfl)
    clear HNX HBD
    go_wp2_with fail
    go_roundw
    case rel => exact ⟨k + 1,HLT.out,by go_num,HN,HB2.out⟩
    case measure =>
     have h9:=HLT.out
     simp [intOf]; omega
  ·replace HV:Hid (passB rows owners keys cl d = true):=Lib.hid (HV.out.trans (by rw [any_of_take hlt HTK.out]; rfl))
   go_wp2_with fail
   go_ret
   exact ⟨ret_bool HV.out.symm,HB.out.trans (hb.mono HB.out.size)⟩
end Go.Proofs.YtggnipkfliompaaGreatDoor
