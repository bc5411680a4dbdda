/- The reference of complaints: Few, Complete, Error. -/
import Derived.Test.YtggnipkfliompaaGreatDoorMKgT
import Derived.Test.YtggnipkfliompaaGreatDoorMRegF
import Derived.Test.YtggnipkfliompaaGreatDoorMPmA
import Derived.Test.YtggnipkfliompaaGreatDoorMDeaA
set_option maxHeartbeats 8000000
set_option maxRecDepth 100000
namespace Go.Proofs.YtggnipkfliompaaGreatDoor
open Go.RowKit FP
theorem box_pd (w:World) (rv ov dl cv pv:Value):∃ W,W = (w.alloc (.cells #[rv,ov] 25)).alloc (.cells #[dl,cv,pv] 28) ∧ Below w.heap.size w W ∧ W.heap[w.heap.size]? = some (.cells #[rv,ov] 25 (0,0)) ∧ W.heap[w.heap.size + 1]? = some (.cells #[dl,cv,pv] 28 (0,0)):=by
 obtain ⟨W1,hW1,hb1,hr1,-⟩:=box_prog w rv ov 25
 have hs1:W1.heap.size = w.heap.size + 1:=by rw [hW1]; simp
 obtain ⟨W2,hW2,hb2,hr2,-⟩:=box36 W1 dl cv pv 28
 refine ⟨W2,by rw [hW2,hW1],hb1.trans (hb2.mono hb1.size),(hb2.block _ (row_lt hr1)).trans hr1,?_⟩
 rw [← hs1]; exact hr2
theorem comB_len {rows:List (List Int)} {cs:List Int} (h:¬ cs.length = colsQ rows):comB rows cs = false:=by unfold comB; rw [decide_eq_false h,Bool.and_false]
theorem comB_bad {rows:List (List Int)} {cs:List Int} {k:Nat} (hk:k < cs.length) (h:elB cs[k] = false):comB rows cs = false:=by
 unfold comB
 rw [show cs.any notEl = true from List.any_eq_true.2 ⟨_,List.getElem_mem hk,by unfold notEl; rw [h]; rfl⟩]; rfl
theorem comB_all {rows:List (List Int)} {cs:List Int} (hl:cs.length = colsQ rows) (h:∀ k (hk:k < cs.length),elB cs[k] = true):comB rows cs = true:=by
 unfold comB
 rw [decide_eq_true hl,Bool.and_true]
 cases e:cs.any notEl with
 | false => rfl
 | true =>
  obtain ⟨z,hz,h2⟩:=List.any_eq_true.1 e
  obtain ⟨k,hk,rfl⟩:=List.getElem_of_mem hz
  unfold notEl at h2
  rw [h k hk] at h2
  cases h2
theorem numB_bad36 {ps:List Pcl} {k:Nat} (hk:k < ps.length) (h:ps[k].1 ≠ (k:Int)):numB ps = false:=by
 cases e:numB ps with
 | false => rfl
 | true => exact absurd (numB_iff.1 e k hk) h
structure FCmA (w0:World) (dl:Int) (rv:Value) (ov:Value) (cv:Value) (pv:Value) (nr:Nat) (nc:Nat) (np:Nat) (cq:Nat) (bP:Nat) (bD:Nat) (done:Nat → Bool) (v:Nat → Value) (w:World):Prop where
 b:Below w0.heap.size w0 w
 f0:done 0 = true → v 0 = .pointer (some ⟨bD,0,none⟩)
 f1:done 1 = true → v 1 = .int .i64 dl
 f2:done 2 = true → v 2 = .bool true
 f3:done 3 = true → v 3 = .bool true
 f4:done 4 = true → v 4 = undef
 f5:done 5 = true → v 5 = undef
 f6:done 6 = true → v 6 = undef
 f7:done 7 = true → v 7 = .bool true
 f8:done 8 = true → v 8 = .bool true
 f9:done 9 = true → v 9 = undef
 f10:done 10 = true → v 10 = undef
 f11:done 11 = true → v 11 = undef
 f12:done 12 = true → v 12 = undef
 f13:done 13 = true → v 13 = undef
 f14:done 14 = true → v 14 = undef
 f15:done 15 = true → v 15 = undef
 f16:done 16 = true → v 16 = .bool true
 f17:done 17 = true → v 17 = .bool true
 f18:done 18 = true → v 18 = undef
 f19:done 19 = true → v 19 = undef
 f20:done 20 = true → v 20 = undef
 f21:done 21 = true → v 21 = undef
 f22:done 22 = true → v 22 = undef
 f23:done 23 = true → v 23 = undef
 f24:done 24 = true → v 24 = .bool true
structure FCmB (w0:World) (dl:Int) (rv:Value) (ov:Value) (cv:Value) (pv:Value) (nr:Nat) (nc:Nat) (np:Nat) (cq:Nat) (bP:Nat) (bD:Nat) (done:Nat → Bool) (v:Nat → Value) (w:World):Prop where
 b:Below w0.heap.size w0 w
 f0:done 0 = true → v 0 = .pointer (some ⟨bD,0,none⟩)
 f1:done 1 = true → v 1 = .int .i64 dl
 f2:done 2 = true → v 2 = .bool false
 f3:done 3 = true → v 3 = .bool false
 f4:done 4 = true → v 4 = .pointer (some ⟨bD,0,none⟩)
 f5:done 5 = true → v 5 = .int .i64 dl
 f6:done 6 = true → v 6 = .bool true
 f7:done 7 = true → v 7 = .bool true
 f8:done 8 = true → v 8 = .bool true
 f9:done 9 = true → v 9 = undef
 f10:done 10 = true → v 10 = undef
 f11:done 11 = true → v 11 = undef
 f12:done 12 = true → v 12 = undef
 f13:done 13 = true → v 13 = undef
 f14:done 14 = true → v 14 = undef
 f15:done 15 = true → v 15 = undef
 f16:done 16 = true → v 16 = .bool true
 f17:done 17 = true → v 17 = .bool true
 f18:done 18 = true → v 18 = undef
 f19:done 19 = true → v 19 = undef
 f20:done 20 = true → v 20 = undef
 f21:done 21 = true → v 21 = undef
 f22:done 22 = true → v 22 = undef
 f23:done 23 = true → v 23 = undef
 f24:done 24 = true → v 24 = .bool true
structure FCmC (w0:World) (dl:Int) (rv:Value) (ov:Value) (cv:Value) (pv:Value) (nr:Nat) (nc:Nat) (np:Nat) (cq:Nat) (bP:Nat) (bD:Nat) (done:Nat → Bool) (v:Nat → Value) (w:World):Prop where
 b:Below w0.heap.size w0 w
 f0:done 0 = true → v 0 = .pointer (some ⟨bD,0,none⟩)
 f1:done 1 = true → v 1 = .int .i64 dl
 f2:done 2 = true → v 2 = .bool false
 f3:done 3 = true → v 3 = .bool false
 f4:done 4 = true → v 4 = .pointer (some ⟨bD,0,none⟩)
 f5:done 5 = true → v 5 = .int .i64 dl
 f6:done 6 = true → v 6 = .bool false
 f7:done 7 = true → v 7 = .bool false
 f8:done 8 = true → v 8 = .bool false
 f9:done 9 = true → v 9 = .pointer (some ⟨bD,2,none⟩)
 f10:done 10 = true → v 10 = pv
 f11:done 11 = true → v 11 = .int .i64 (np:Int)
 f12:done 12 = true → v 12 = .pointer (some ⟨bP,0,none⟩)
 f13:done 13 = true → v 13 = rv
 f14:done 14 = true → v 14 = .int .i64 (nr:Int)
 f15:done 15 = true → v 15 = .bool true
 f16:done 16 = true → v 16 = .bool true
 f17:done 17 = true → v 17 = .bool true
 f18:done 18 = true → v 18 = undef
 f19:done 19 = true → v 19 = undef
 f20:done 20 = true → v 20 = undef
 f21:done 21 = true → v 21 = undef
 f22:done 22 = true → v 22 = undef
 f23:done 23 = true → v 23 = undef
 f24:done 24 = true → v 24 = .bool true
structure FCmD (w0:World) (dl:Int) (rv:Value) (ov:Value) (cv:Value) (pv:Value) (nr:Nat) (nc:Nat) (np:Nat) (cq:Nat) (bP:Nat) (bD:Nat) (done:Nat → Bool) (v:Nat → Value) (w:World):Prop where
 b:Below w0.heap.size w0 w
 f0:done 0 = true → v 0 = .pointer (some ⟨bD,0,none⟩)
 f1:done 1 = true → v 1 = .int .i64 dl
 f2:done 2 = true → v 2 = .bool false
 f3:done 3 = true → v 3 = .bool false
 f4:done 4 = true → v 4 = .pointer (some ⟨bD,0,none⟩)
 f5:done 5 = true → v 5 = .int .i64 dl
 f6:done 6 = true → v 6 = .bool false
 f7:done 7 = true → v 7 = .bool false
 f8:done 8 = true → v 8 = .bool false
 f9:done 9 = true → v 9 = .pointer (some ⟨bD,2,none⟩)
 f10:done 10 = true → v 10 = pv
 f11:done 11 = true → v 11 = .int .i64 (np:Int)
 f12:done 12 = true → v 12 = .pointer (some ⟨bP,0,none⟩)
 f13:done 13 = true → v 13 = rv
 f14:done 14 = true → v 14 = .int .i64 (nr:Int)
 f15:done 15 = true → v 15 = .bool false
 f16:done 16 = true → v 16 = .bool false
 f17:done 17 = true → v 17 = .bool false
 f18:done 18 = true → v 18 = .pointer (some ⟨bD,1,none⟩)
 f19:done 19 = true → v 19 = cv
 f20:done 20 = true → v 20 = .int .i64 (nc:Int)
 f21:done 21 = true → v 21 = .agg #[rv,ov]
 f22:done 22 = true → v 22 = .int .i64 (cq:Int)
 f23:done 23 = true → v 23 = .bool true
 f24:done 24 = true → v 24 = .bool true
structure FCmE (w0:World) (dl:Int) (rv:Value) (ov:Value) (cv:Value) (pv:Value) (nr:Nat) (nc:Nat) (np:Nat) (cq:Nat) (bP:Nat) (bD:Nat) (done:Nat → Bool) (v:Nat → Value) (w:World):Prop where
 b:Below w0.heap.size w0 w
 f0:done 0 = true → v 0 = .pointer (some ⟨bD,0,none⟩)
 f1:done 1 = true → v 1 = .int .i64 dl
 f2:done 2 = true → v 2 = .bool false
 f3:done 3 = true → v 3 = .bool false
 f4:done 4 = true → v 4 = .pointer (some ⟨bD,0,none⟩)
 f5:done 5 = true → v 5 = .int .i64 dl
 f6:done 6 = true → v 6 = .bool false
 f7:done 7 = true → v 7 = .bool false
 f8:done 8 = true → v 8 = .bool false
 f9:done 9 = true → v 9 = .pointer (some ⟨bD,2,none⟩)
 f10:done 10 = true → v 10 = pv
 f11:done 11 = true → v 11 = .int .i64 (np:Int)
 f12:done 12 = true → v 12 = .pointer (some ⟨bP,0,none⟩)
 f13:done 13 = true → v 13 = rv
 f14:done 14 = true → v 14 = .int .i64 (nr:Int)
 f15:done 15 = true → v 15 = .bool false
 f16:done 16 = true → v 16 = .bool false
 f17:done 17 = true → v 17 = .bool false
 f18:done 18 = true → v 18 = .pointer (some ⟨bD,1,none⟩)
 f19:done 19 = true → v 19 = cv
 f20:done 20 = true → v 20 = .int .i64 (nc:Int)
 f21:done 21 = true → v 21 = .agg #[rv,ov]
 f22:done 22 = true → v 22 = .int .i64 (cq:Int)
 f23:done 23 = true → v 23 = .bool false
 f24:done 24 = true → v 24 = .bool false
theorem rComplete36_any (rv ov cv pv:Value) (rows:List (List Int)) (owners:List Int) (dl:Int) (cs:List Int) (ps:List Pcl) (w:World) (hR:Rows2 w rv rows) (hO:Ints w ov owners) (hC:Ints w cv cs) (hP:Parcels w pv ps) :
  Calls Tryz.prog 133 #[.agg #[rv,ov],.agg #[.int .i64 dl,cv,pv]] w fun r w' => r = .returned (.bool (comQ rows ⟨dl,cs,ps⟩)) ∧ Below w.heap.size w w':=by
 obtain ⟨W1,hW1,hb1,hr1,hr2⟩:=box_pd w rv ov (.int .i64 dl) cv pv
 have HR:=Lib.hid (hR.below hb1)
 have HO:=Lib.hid (hO.below hb1)
 have HC:=Lib.hid (hC.below hb1)
 have HP:=Lib.hid (hP.below hb1)
 obtain ⟨a1,k1,rfl,-,hl1,-⟩:=id hR
 obtain ⟨a2,k2,rfl,-,hl2,-⟩:=id hO
 obtain ⟨a3,k3,rfl,-,hl3,-⟩:=id hC
 obtain ⟨a4,k4,rfl,-,hl4,-⟩:=id hP
 have c0:=row_cell hr1 (k:=0) (v:=.slice a1 rows.length k1) rfl
 have c1:=row_cell hr1 (k:=1) (v:=.slice a2 owners.length k2) rfl
 have de0:=row_cell hr2 (k:=0) (v:=.int .i64 dl) rfl
 have de1:=row_cell hr2 (k:=1) (v:=.slice a3 cs.length k3) rfl
 have de2:=row_cell hr2 (k:=2) (v:=.slice a4 ps.length k4) rfl
 have HW1:=Lib.hid hW1
 have HB:=Lib.hid hb1
 clear hR hO hC hP hr1 hr2 hW1 hb1
 have HQ:Hid (comQ rows ⟨dl,cs,ps⟩ = (inB dl 0 63 && (decide (ps.length = rows.length) && (comB rows cs && numB ps)))):=Lib.hid rfl
 go_enter Tryz.func133,Tryz.ntmps133
 go_wp2_with (rw [← HW1.out])
 clear HW1
 have HCO:=Lib.hid (fun W (h:Below W1.heap.size W1 W) => rCols_any (.slice a1 rows.length k1) (.slice a2 owners.length k2) rows W (HR.out.below h) ⟨_,_,_,rfl⟩)
 by_cases h1:dl < 0
 ·have d1:decide (dl < 0) = true:=decide_eq_true h1
  have HV:Hid (comQ rows ⟨dl,cs,ps⟩ = false):=Lib.hid (by rw [HQ.out]; rw [show inB dl 0 63 = false from inB_false (by omega)]; rfl)
  clear h1
  refine wp_region_flowsH (by kernel_rfl) (by kernel_rfl) (by kernel_rfl) (by kernel_rfl) (fun done v W => FCmA W1 (dl) (.slice a1 rows.length k1) (.slice a2 owners.length k2) (.slice a3 cs.length k3) (.slice a4 ps.length k4) (rows.length) (cs.length) (ps.length) ((colsQ rows)) (w.heap.size) ((w.heap.size + 1)) done v W) (fun v => ?_) ?_ (fun v W h => ?_)
  ·exact ⟨(Below.refl _ _).drew,(fun h => by cases h),(fun h => by cases h),(fun h => by cases h),(fun h => by cases h),(fun h => by cases h),(fun h => by cases h),(fun h => by cases h),(fun h => by cases h),(fun h => by cases h),(fun h => by cases h),(fun h => by cases h),(fun h => by cases h),(fun h => by cases h),(fun h => by cases h),(fun h => by cases h),(fun h => by cases h),(fun h => by cases h),(fun h => by cases h),(fun h => by cases h),(fun h => by cases h),(fun h => by cases h),(fun h => by cases h),(fun h => by cases h),(fun h => by cases h),(fun h => by cases h)⟩
  ·refine ⟨?_,?_,?_,?_,?_,?_,?_,?_,?_,?_,?_,?_,?_,?_,?_,?_,?_,?_,?_,?_,?_,?_,?_,?_,?_,trivial⟩
   ·intro done v W A h hd hp hu hA hB hdf
    have e0:A.tmps[3]?.getD undef = .pointer (some ⟨(w.heap.size + 1),0,none⟩):=hB 3 rfl
    clear hA hB hp hu hdf
    go_simp
    exact ⟨_,rfl,{ h with f0:=(fun _ => rfl) }⟩
   ·intro done v W A h hd hp hu hA hB hdf
    have hd0:done 0 = true:=hp 0 rfl
    have e0:=(hA 0 7 rfl hd0).trans (h.f0 hd0)
    have y0_:=below_cell h.b de0
    clear hA hB hp hu hdf
    go_simp
    exact ⟨_,rfl,{ h with f1:=(fun _ => rfl) }⟩
   ·intro done v W A h hd hp hu hA hB hdf
    have hd1:done 1 = true:=hp 1 rfl
    have e0:=(hA 1 8 rfl hd1).trans (h.f1 hd1)
    clear hA hB hp hu hdf
    go_simp
    exact ⟨_,rfl,{ h with f2:=(fun _ => rfl) }⟩
   ·intro done v W A h hd hp hu hA hB hdf
    have hd2:done 2 = true:=hp 2 rfl
    have e0:=(hA 2 9 rfl hd2).trans (h.f2 hd2)
    clear hA hB hp hu hdf
    go_simp
    exact ⟨_,rfl,{ h with f3:=(fun _ => rfl) }⟩
   ·intro done v W A h hd hp hu hA hB hdf
    have hd3:done 3 = true:=hp 3 rfl
    refine Or.inl ⟨_,h.f3 hd3,(fun hx => by cases hx),(fun hne => { h with f4:=(fun _ => rfl) })⟩
   ·intro done v W A h hd hp hu hA hB hdf
    have hd3:done 3 = true:=hp 3 rfl
    refine Or.inl ⟨_,h.f3 hd3,(fun hx => by cases hx),(fun hne => { h with f5:=(fun _ => rfl) })⟩
   ·intro done v W A h hd hp hu hA hB hdf
    have hd3:done 3 = true:=hp 3 rfl
    refine Or.inl ⟨_,h.f3 hd3,(fun hx => by cases hx),(fun hne => { h with f6:=(fun _ => rfl) })⟩
   ·intro done v W A h hd hp hu hA hB hdf
    have hd3:done 3 = true:=hp 3 rfl
    have e0:=(hA 3 10 rfl hd3).trans (h.f3 hd3)
    clear hA hB hp hu hdf
    go_simp
    exact ⟨_,rfl,{ h with f7:=(fun _ => rfl) }⟩
   ·intro done v W A h hd hp hu hA hB hdf
    have hd7:done 7 = true:=hp 7 rfl
    have e0:=(hA 7 14 rfl hd7).trans (h.f7 hd7)
    clear hA hB hp hu hdf
    go_simp
    exact ⟨_,rfl,{ h with f8:=(fun _ => rfl) }⟩
   ·intro done v W A h hd hp hu hA hB hdf
    have hd8:done 8 = true:=hp 8 rfl
    refine Or.inl ⟨_,h.f8 hd8,(fun hx => by cases hx),(fun hne => { h with f9:=(fun _ => rfl) })⟩
   ·intro done v W A h hd hp hu hA hB hdf
    have hd8:done 8 = true:=hp 8 rfl
    refine Or.inl ⟨_,h.f8 hd8,(fun hx => by cases hx),(fun hne => { h with f10:=(fun _ => rfl) })⟩
   ·intro done v W A h hd hp hu hA hB hdf
    have hd8:done 8 = true:=hp 8 rfl
    refine Or.inl ⟨_,h.f8 hd8,(fun hx => by cases hx),(fun hne => { h with f11:=(fun _ => rfl) })⟩
   ·intro done v W A h hd hp hu hA hB hdf
    have hd8:done 8 = true:=hp 8 rfl
    refine Or.inl ⟨_,h.f8 hd8,(fun hx => by cases hx),(fun hne => { h with f12:=(fun _ => rfl) })⟩
   ·intro done v W A h hd hp hu hA hB hdf
    have hd8:done 8 = true:=hp 8 rfl
    refine Or.inl ⟨_,h.f8 hd8,(fun hx => by cases hx),(fun hne => { h with f13:=(fun _ => rfl) })⟩
   ·intro done v W A h hd hp hu hA hB hdf
    have hd8:done 8 = true:=hp 8 rfl
    refine Or.inl ⟨_,h.f8 hd8,(fun hx => by cases hx),(fun hne => { h with f14:=(fun _ => rfl) })⟩
   ·intro done v W A h hd hp hu hA hB hdf
    have hd8:done 8 = true:=hp 8 rfl
    refine Or.inl ⟨_,h.f8 hd8,(fun hx => by cases hx),(fun hne => { h with f15:=(fun _ => rfl) })⟩
   ·intro done v W A h hd hp hu hA hB hdf
    have hd8:done 8 = true:=hp 8 rfl
    have e0:=(hA 8 15 rfl hd8).trans (h.f8 hd8)
    clear hA hB hp hu hdf
    go_simp
    exact ⟨_,rfl,{ h with f16:=(fun _ => rfl) }⟩
   ·intro done v W A h hd hp hu hA hB hdf
    have hd16:done 16 = true:=hp 16 rfl
    have e0:=(hA 16 23 rfl hd16).trans (h.f16 hd16)
    clear hA hB hp hu hdf
    go_simp
    exact ⟨_,rfl,{ h with f17:=(fun _ => rfl) }⟩
   ·intro done v W A h hd hp hu hA hB hdf
    have hd17:done 17 = true:=hp 17 rfl
    refine Or.inl ⟨_,h.f17 hd17,(fun hx => by cases hx),(fun hne => { h with f18:=(fun _ => rfl) })⟩
   ·intro done v W A h hd hp hu hA hB hdf
    have hd17:done 17 = true:=hp 17 rfl
    refine Or.inl ⟨_,h.f17 hd17,(fun hx => by cases hx),(fun hne => { h with f19:=(fun _ => rfl) })⟩
   ·intro done v W A h hd hp hu hA hB hdf
    have hd17:done 17 = true:=hp 17 rfl
    refine Or.inl ⟨_,h.f17 hd17,(fun hx => by cases hx),(fun hne => { h with f20:=(fun _ => rfl) })⟩
   ·intro done v W A h hd hp hu hA hB hdf
    have hd17:done 17 = true:=hp 17 rfl
    refine Or.inl ⟨_,h.f17 hd17,(fun hx => by cases hx),(fun hne => { h with f21:=(fun _ => rfl) })⟩
   ·intro done v W A h hd hp hu hA hB hdf
    have hd17:done 17 = true:=hp 17 rfl
    refine Or.inl ⟨_,h.f17 hd17,(fun hx => by cases hx),(fun hne => { h with f22:=(fun _ => rfl) })⟩
   ·intro done v W A h hd hp hu hA hB hdf
    have hd17:done 17 = true:=hp 17 rfl
    refine Or.inl ⟨_,h.f17 hd17,(fun hx => by cases hx),(fun hne => { h with f23:=(fun _ => rfl) })⟩
   ·intro done v W A h hd hp hu hA hB hdf
    have hd17:done 17 = true:=hp 17 rfl
    have e0:=(hA 17 24 rfl hd17).trans (h.f17 hd17)
    clear hA hB hp hu hdf
    go_simp
    exact ⟨_,rfl,{ h with f24:=(fun _ => rfl) }⟩
  simp only [putL,Act.put,Nat.reduceAdd,List.setIfInBounds_toArray,List.set_cons_zero,List.set_cons_succ]
  have hbr:=h.b
  rw [h.f24 rfl]
  replace HB:=Lib.hid (HB.out.trans (hbr.mono HB.out.size))
  clear h hbr
  go_wp2_with fail
  go_ret
  exact ⟨by rw [HV.out]; rfl,HB.out⟩
 have d1:decide (dl < 0) = false:=decide_eq_false h1
 by_cases h2:64 ≤ dl
 ·have d2:decide (64 ≤ dl) = true:=decide_eq_true h2
  have HV:Hid (comQ rows ⟨dl,cs,ps⟩ = false):=Lib.hid (by rw [HQ.out]; rw [show inB dl 0 63 = false from inB_false (by omega)]; rfl)
  clear h1 h2
  refine wp_region_flowsH (by kernel_rfl) (by kernel_rfl) (by kernel_rfl) (by kernel_rfl) (fun done v W => FCmB W1 (dl) (.slice a1 rows.length k1) (.slice a2 owners.length k2) (.slice a3 cs.length k3) (.slice a4 ps.length k4) (rows.length) (cs.length) (ps.length) ((colsQ rows)) (w.heap.size) ((w.heap.size + 1)) done v W) (fun v => ?_) ?_ (fun v W h => ?_)
  ·exact ⟨(Below.refl _ _).drew,(fun h => by cases h),(fun h => by cases h),(fun h => by cases h),(fun h => by cases h),(fun h => by cases h),(fun h => by cases h),(fun h => by cases h),(fun h => by cases h),(fun h => by cases h),(fun h => by cases h),(fun h => by cases h),(fun h => by cases h),(fun h => by cases h),(fun h => by cases h),(fun h => by cases h),(fun h => by cases h),(fun h => by cases h),(fun h => by cases h),(fun h => by cases h),(fun h => by cases h),(fun h => by cases h),(fun h => by cases h),(fun h => by cases h),(fun h => by cases h),(fun h => by cases h)⟩
  ·refine ⟨?_,?_,?_,?_,?_,?_,?_,?_,?_,?_,?_,?_,?_,?_,?_,?_,?_,?_,?_,?_,?_,?_,?_,?_,?_,trivial⟩
   ·intro done v W A h hd hp hu hA hB hdf
    have e0:A.tmps[3]?.getD undef = .pointer (some ⟨(w.heap.size + 1),0,none⟩):=hB 3 rfl
    clear hA hB hp hu hdf
    go_simp
    exact ⟨_,rfl,{ h with f0:=(fun _ => rfl) }⟩
   ·intro done v W A h hd hp hu hA hB hdf
    have hd0:done 0 = true:=hp 0 rfl
    have e0:=(hA 0 7 rfl hd0).trans (h.f0 hd0)
    have y0_:=below_cell h.b de0
    clear hA hB hp hu hdf
    go_simp
    exact ⟨_,rfl,{ h with f1:=(fun _ => rfl) }⟩
   ·intro done v W A h hd hp hu hA hB hdf
    have hd1:done 1 = true:=hp 1 rfl
    have e0:=(hA 1 8 rfl hd1).trans (h.f1 hd1)
    clear hA hB hp hu hdf
    go_simp
    exact ⟨_,rfl,{ h with f2:=(fun _ => rfl) }⟩
   ·intro done v W A h hd hp hu hA hB hdf
    have hd2:done 2 = true:=hp 2 rfl
    have e0:=(hA 2 9 rfl hd2).trans (h.f2 hd2)
    clear hA hB hp hu hdf
    go_simp
    exact ⟨_,rfl,{ h with f3:=(fun _ => rfl) }⟩
   ·intro done v W A h hd hp hu hA hB hdf
    have hd3:done 3 = true:=hp 3 rfl
    refine Or.inl ⟨_,h.f3 hd3,fun _ => ?_,fun hne => absurd rfl hne⟩
    have e0:A.tmps[3]?.getD undef = .pointer (some ⟨(w.heap.size + 1),0,none⟩):=hB 3 rfl
    clear hA hB hp hu hdf
    go_simp
    exact ⟨_,rfl,{ h with f4:=(fun _ => rfl) }⟩
   ·intro done v W A h hd hp hu hA hB hdf
    have hd3:done 3 = true:=hp 3 rfl
    have hd4:done 4 = true:=hp 4 rfl
    refine Or.inl ⟨_,h.f3 hd3,fun _ => ?_,fun hne => absurd rfl hne⟩
    have e0:=(hA 4 11 rfl hd4).trans (h.f4 hd4)
    have y0_:=below_cell h.b de0
    clear hA hB hp hu hdf
    go_simp
    exact ⟨_,rfl,{ h with f5:=(fun _ => rfl) }⟩
   ·intro done v W A h hd hp hu hA hB hdf
    have hd3:done 3 = true:=hp 3 rfl
    have hd5:done 5 = true:=hp 5 rfl
    refine Or.inl ⟨_,h.f3 hd3,fun _ => ?_,fun hne => absurd rfl hne⟩
    have e0:=(hA 5 12 rfl hd5).trans (h.f5 hd5)
    clear hA hB hp hu hdf
    go_simp
    exact ⟨_,rfl,{ h with f6:=(fun _ => rfl) }⟩
   ·intro done v W A h hd hp hu hA hB hdf
    have hd3:done 3 = true:=hp 3 rfl
    have hd6:done 6 = true:=hp 6 rfl
    have e0:=(hA 3 10 rfl hd3).trans (h.f3 hd3)
    have e2:=(hA 6 13 rfl hd6).trans (h.f6 hd6)
    clear hA hB hp hu hdf
    go_simp
    exact ⟨_,rfl,{ h with f7:=(fun _ => rfl) }⟩
   ·intro done v W A h hd hp hu hA hB hdf
    have hd7:done 7 = true:=hp 7 rfl
    have e0:=(hA 7 14 rfl hd7).trans (h.f7 hd7)
    clear hA hB hp hu hdf
    go_simp
    exact ⟨_,rfl,{ h with f8:=(fun _ => rfl) }⟩
   ·intro done v W A h hd hp hu hA hB hdf
    have hd8:done 8 = true:=hp 8 rfl
    refine Or.inl ⟨_,h.f8 hd8,(fun hx => by cases hx),(fun hne => { h with f9:=(fun _ => rfl) })⟩
   ·intro done v W A h hd hp hu hA hB hdf
    have hd8:done 8 = true:=hp 8 rfl
    refine Or.inl ⟨_,h.f8 hd8,(fun hx => by cases hx),(fun hne => { h with f10:=(fun _ => rfl) })⟩
   ·intro done v W A h hd hp hu hA hB hdf
    have hd8:done 8 = true:=hp 8 rfl
    refine Or.inl ⟨_,h.f8 hd8,(fun hx => by cases hx),(fun hne => { h with f11:=(fun _ => rfl) })⟩
   ·intro done v W A h hd hp hu hA hB hdf
    have hd8:done 8 = true:=hp 8 rfl
    refine Or.inl ⟨_,h.f8 hd8,(fun hx => by cases hx),(fun hne => { h with f12:=(fun _ => rfl) })⟩
   ·intro done v W A h hd hp hu hA hB hdf
    have hd8:done 8 = true:=hp 8 rfl
    refine Or.inl ⟨_,h.f8 hd8,(fun hx => by cases hx),(fun hne => { h with f13:=(fun _ => rfl) })⟩
   ·intro done v W A h hd hp hu hA hB hdf
    have hd8:done 8 = true:=hp 8 rfl
    refine Or.inl ⟨_,h.f8 hd8,(fun hx => by cases hx),(fun hne => { h with f14:=(fun _ => rfl) })⟩
   ·intro done v W A h hd hp hu hA hB hdf
    have hd8:done 8 = true:=hp 8 rfl
    refine Or.inl ⟨_,h.f8 hd8,(fun hx => by cases hx),(fun hne => { h with f15:=(fun _ => rfl) })⟩
   ·intro done v W A h hd hp hu hA hB hdf
    have hd8:done 8 = true:=hp 8 rfl
    have e0:=(hA 8 15 rfl hd8).trans (h.f8 hd8)
    clear hA hB hp hu hdf
    go_simp
    exact ⟨_,rfl,{ h with f16:=(fun _ => rfl) }⟩
   ·intro done v W A h hd hp hu hA hB hdf
    have hd16:done 16 = true:=hp 16 rfl
    have e0:=(hA 16 23 rfl hd16).trans (h.f16 hd16)
    clear hA hB hp hu hdf
    go_simp
    exact ⟨_,rfl,{ h with f17:=(fun _ => rfl) }⟩
   ·intro done v W A h hd hp hu hA hB hdf
    have hd17:done 17 = true:=hp 17 rfl
    refine Or.inl ⟨_,h.f17 hd17,(fun hx => by cases hx),(fun hne => { h with f18:=(fun _ => rfl) })⟩
   ·intro done v W A h hd hp hu hA hB hdf
    have hd17:done 17 = true:=hp 17 rfl
    refine Or.inl ⟨_,h.f17 hd17,(fun hx => by cases hx),(fun hne => { h with f19:=(fun _ => rfl) })⟩
   ·intro done v W A h hd hp hu hA hB hdf
    have hd17:done 17 = true:=hp 17 rfl
    refine Or.inl ⟨_,h.f17 hd17,(fun hx => by cases hx),(fun hne => { h with f20:=(fun _ => rfl) })⟩
   ·intro done v W A h hd hp hu hA hB hdf
    have hd17:done 17 = true:=hp 17 rfl
    refine Or.inl ⟨_,h.f17 hd17,(fun hx => by cases hx),(fun hne => { h with f21:=(fun _ => rfl) })⟩
   ·intro done v W A h hd hp hu hA hB hdf
    have hd17:done 17 = true:=hp 17 rfl
    refine Or.inl ⟨_,h.f17 hd17,(fun hx => by cases hx),(fun hne => { h with f22:=(fun _ => rfl) })⟩
   ·intro done v W A h hd hp hu hA hB hdf
    have hd17:done 17 = true:=hp 17 rfl
    refine Or.inl ⟨_,h.f17 hd17,(fun hx => by cases hx),(fun hne => { h with f23:=(fun _ => rfl) })⟩
   ·intro done v W A h hd hp hu hA hB hdf
    have hd17:done 17 = true:=hp 17 rfl
    have e0:=(hA 17 24 rfl hd17).trans (h.f17 hd17)
    clear hA hB hp hu hdf
    go_simp
    exact ⟨_,rfl,{ h with f24:=(fun _ => rfl) }⟩
  simp only [putL,Act.put,Nat.reduceAdd,List.setIfInBounds_toArray,List.set_cons_zero,List.set_cons_succ]
  have hbr:=h.b
  rw [h.f24 rfl]
  replace HB:=Lib.hid (HB.out.trans (hbr.mono HB.out.size))
  clear h hbr
  go_wp2_with fail
  go_ret
  exact ⟨by rw [HV.out]; rfl,HB.out⟩
 have d2:decide (64 ≤ dl) = false:=decide_eq_false h2
 have H12:Hid (inB dl 0 63 = true):=Lib.hid (inB_iff.2 (by omega))
 clear h1 h2
 by_cases h3:ps.length = rows.length
 rotate_left
 ·have d3:((ps.length:Int) != (rows.length:Int)) = true:=bne_iff_ne.2 (by omega)
  have HV:Hid (comQ rows ⟨dl,cs,ps⟩ = false):=Lib.hid (by rw [HQ.out]; rw [decide_eq_false h3,H12.out]; rfl)
  clear h3
  refine wp_region_flowsH (by kernel_rfl) (by kernel_rfl) (by kernel_rfl) (by kernel_rfl) (fun done v W => FCmC W1 (dl) (.slice a1 rows.length k1) (.slice a2 owners.length k2) (.slice a3 cs.length k3) (.slice a4 ps.length k4) (rows.length) (cs.length) (ps.length) ((colsQ rows)) (w.heap.size) ((w.heap.size + 1)) done v W) (fun v => ?_) ?_ (fun v W h => ?_)
  ·exact ⟨(Below.refl _ _).drew,(fun h => by cases h),(fun h => by cases h),(fun h => by cases h),(fun h => by cases h),(fun h => by cases h),(fun h => by cases h),(fun h => by cases h),(fun h => by cases h),(fun h => by cases h),(fun h => by cases h),(fun h => by cases h),(fun h => by cases h),(fun h => by cases h),(fun h => by cases h),(fun h => by cases h),(fun h => by cases h),(fun h => by cases h),(fun h => by cases h),(fun h => by cases h),(fun h => by cases h),(fun h => by cases h),(fun h => by cases h),(fun h => by cases h),(fun h => by cases h),(fun h => by cases h)⟩
  ·refine ⟨?_,?_,?_,?_,?_,?_,?_,?_,?_,?_,?_,?_,?_,?_,?_,?_,?_,?_,?_,?_,?_,?_,?_,?_,?_,trivial⟩
   ·intro done v W A h hd hp hu hA hB hdf
    have e0:A.tmps[3]?.getD undef = .pointer (some ⟨(w.heap.size + 1),0,none⟩):=hB 3 rfl
    clear hA hB hp hu hdf
    go_simp
    exact ⟨_,rfl,{ h with f0:=(fun _ => rfl) }⟩
   ·intro done v W A h hd hp hu hA hB hdf
    have hd0:done 0 = true:=hp 0 rfl
    have e0:=(hA 0 7 rfl hd0).trans (h.f0 hd0)
    have y0_:=below_cell h.b de0
    clear hA hB hp hu hdf
    go_simp
    exact ⟨_,rfl,{ h with f1:=(fun _ => rfl) }⟩
   ·intro done v W A h hd hp hu hA hB hdf
    have hd1:done 1 = true:=hp 1 rfl
    have e0:=(hA 1 8 rfl hd1).trans (h.f1 hd1)
    clear hA hB hp hu hdf
    go_simp
    exact ⟨_,rfl,{ h with f2:=(fun _ => rfl) }⟩
   ·intro done v W A h hd hp hu hA hB hdf
    have hd2:done 2 = true:=hp 2 rfl
    have e0:=(hA 2 9 rfl hd2).trans (h.f2 hd2)
    clear hA hB hp hu hdf
    go_simp
    exact ⟨_,rfl,{ h with f3:=(fun _ => rfl) }⟩
   ·intro done v W A h hd hp hu hA hB hdf
    have hd3:done 3 = true:=hp 3 rfl
    refine Or.inl ⟨_,h.f3 hd3,fun _ => ?_,fun hne => absurd rfl hne⟩
    have e0:A.tmps[3]?.getD undef = .pointer (some ⟨(w.heap.size + 1),0,none⟩):=hB 3 rfl
    clear hA hB hp hu hdf
    go_simp
    exact ⟨_,rfl,{ h with f4:=(fun _ => rfl) }⟩
   ·intro done v W A h hd hp hu hA hB hdf
    have hd3:done 3 = true:=hp 3 rfl
    have hd4:done 4 = true:=hp 4 rfl
    refine Or.inl ⟨_,h.f3 hd3,fun _ => ?_,fun hne => absurd rfl hne⟩
    have e0:=(hA 4 11 rfl hd4).trans (h.f4 hd4)
    have y0_:=below_cell h.b de0
    clear hA hB hp hu hdf
    go_simp
    exact ⟨_,rfl,{ h with f5:=(fun _ => rfl) }⟩
   ·intro done v W A h hd hp hu hA hB hdf
    have hd3:done 3 = true:=hp 3 rfl
    have hd5:done 5 = true:=hp 5 rfl
    refine Or.inl ⟨_,h.f3 hd3,fun _ => ?_,fun hne => absurd rfl hne⟩
    have e0:=(hA 5 12 rfl hd5).trans (h.f5 hd5)
    clear hA hB hp hu hdf
    go_simp
    exact ⟨_,rfl,{ h with f6:=(fun _ => rfl) }⟩
   ·intro done v W A h hd hp hu hA hB hdf
    have hd3:done 3 = true:=hp 3 rfl
    have hd6:done 6 = true:=hp 6 rfl
    have e0:=(hA 3 10 rfl hd3).trans (h.f3 hd3)
    have e2:=(hA 6 13 rfl hd6).trans (h.f6 hd6)
    clear hA hB hp hu hdf
    go_simp
    exact ⟨_,rfl,{ h with f7:=(fun _ => rfl) }⟩
   ·intro done v W A h hd hp hu hA hB hdf
    have hd7:done 7 = true:=hp 7 rfl
    have e0:=(hA 7 14 rfl hd7).trans (h.f7 hd7)
    clear hA hB hp hu hdf
    go_simp
    exact ⟨_,rfl,{ h with f8:=(fun _ => rfl) }⟩
   ·intro done v W A h hd hp hu hA hB hdf
    have hd8:done 8 = true:=hp 8 rfl
    refine Or.inl ⟨_,h.f8 hd8,fun _ => ?_,fun hne => absurd rfl hne⟩
    have e0:A.tmps[3]?.getD undef = .pointer (some ⟨(w.heap.size + 1),0,none⟩):=hB 3 rfl
    clear hA hB hp hu hdf
    go_simp
    exact ⟨_,rfl,{ h with f9:=(fun _ => rfl) }⟩
   ·intro done v W A h hd hp hu hA hB hdf
    have hd8:done 8 = true:=hp 8 rfl
    have hd9:done 9 = true:=hp 9 rfl
    refine Or.inl ⟨_,h.f8 hd8,fun _ => ?_,fun hne => absurd rfl hne⟩
    have e0:=(hA 9 16 rfl hd9).trans (h.f9 hd9)
    have y0_:=below_cell h.b de2
    clear hA hB hp hu hdf
    go_simp
    exact ⟨_,rfl,{ h with f10:=(fun _ => rfl) }⟩
   ·intro done v W A h hd hp hu hA hB hdf
    have hd8:done 8 = true:=hp 8 rfl
    have hd10:done 10 = true:=hp 10 rfl
    refine Or.inl ⟨_,h.f8 hd8,fun _ => ?_,fun hne => absurd rfl hne⟩
    have e0:=(hA 10 17 rfl hd10).trans (h.f10 hd10)
    clear hA hB hp hu hdf
    go_simp
    exact ⟨_,rfl,{ h with f11:=(fun _ => rfl) }⟩
   ·intro done v W A h hd hp hu hA hB hdf
    have hd8:done 8 = true:=hp 8 rfl
    refine Or.inl ⟨_,h.f8 hd8,fun _ => ?_,fun hne => absurd rfl hne⟩
    have e0:A.tmps[2]?.getD undef = .pointer (some ⟨w.heap.size,0,none⟩):=hB 2 rfl
    clear hA hB hp hu hdf
    go_simp
    exact ⟨_,rfl,{ h with f12:=(fun _ => rfl) }⟩
   ·intro done v W A h hd hp hu hA hB hdf
    have hd8:done 8 = true:=hp 8 rfl
    have hd12:done 12 = true:=hp 12 rfl
    refine Or.inl ⟨_,h.f8 hd8,fun _ => ?_,fun hne => absurd rfl hne⟩
    have e0:=(hA 12 19 rfl hd12).trans (h.f12 hd12)
    have y0_:=below_cell h.b c0
    clear hA hB hp hu hdf
    go_simp
    exact ⟨_,rfl,{ h with f13:=(fun _ => rfl) }⟩
   ·intro done v W A h hd hp hu hA hB hdf
    have hd8:done 8 = true:=hp 8 rfl
    have hd13:done 13 = true:=hp 13 rfl
    refine Or.inl ⟨_,h.f8 hd8,fun _ => ?_,fun hne => absurd rfl hne⟩
    have e0:=(hA 13 20 rfl hd13).trans (h.f13 hd13)
    clear hA hB hp hu hdf
    go_simp
    exact ⟨_,rfl,{ h with f14:=(fun _ => rfl) }⟩
   ·intro done v W A h hd hp hu hA hB hdf
    have hd8:done 8 = true:=hp 8 rfl
    have hd11:done 11 = true:=hp 11 rfl
    have hd14:done 14 = true:=hp 14 rfl
    refine Or.inl ⟨_,h.f8 hd8,fun _ => ?_,fun hne => absurd rfl hne⟩
    have e0:=(hA 11 18 rfl hd11).trans (h.f11 hd11)
    have e1:=(hA 14 21 rfl hd14).trans (h.f14 hd14)
    clear hA hB hp hu hdf
    go_simp
    exact ⟨_,rfl,{ h with f15:=(fun _ => rfl) }⟩
   ·intro done v W A h hd hp hu hA hB hdf
    have hd8:done 8 = true:=hp 8 rfl
    have hd15:done 15 = true:=hp 15 rfl
    have e0:=(hA 8 15 rfl hd8).trans (h.f8 hd8)
    have e2:=(hA 15 22 rfl hd15).trans (h.f15 hd15)
    clear hA hB hp hu hdf
    go_simp
    exact ⟨_,rfl,{ h with f16:=(fun _ => rfl) }⟩
   ·intro done v W A h hd hp hu hA hB hdf
    have hd16:done 16 = true:=hp 16 rfl
    have e0:=(hA 16 23 rfl hd16).trans (h.f16 hd16)
    clear hA hB hp hu hdf
    go_simp
    exact ⟨_,rfl,{ h with f17:=(fun _ => rfl) }⟩
   ·intro done v W A h hd hp hu hA hB hdf
    have hd17:done 17 = true:=hp 17 rfl
    refine Or.inl ⟨_,h.f17 hd17,(fun hx => by cases hx),(fun hne => { h with f18:=(fun _ => rfl) })⟩
   ·intro done v W A h hd hp hu hA hB hdf
    have hd17:done 17 = true:=hp 17 rfl
    refine Or.inl ⟨_,h.f17 hd17,(fun hx => by cases hx),(fun hne => { h with f19:=(fun _ => rfl) })⟩
   ·intro done v W A h hd hp hu hA hB hdf
    have hd17:done 17 = true:=hp 17 rfl
    refine Or.inl ⟨_,h.f17 hd17,(fun hx => by cases hx),(fun hne => { h with f20:=(fun _ => rfl) })⟩
   ·intro done v W A h hd hp hu hA hB hdf
    have hd17:done 17 = true:=hp 17 rfl
    refine Or.inl ⟨_,h.f17 hd17,(fun hx => by cases hx),(fun hne => { h with f21:=(fun _ => rfl) })⟩
   ·intro done v W A h hd hp hu hA hB hdf
    have hd17:done 17 = true:=hp 17 rfl
    refine Or.inl ⟨_,h.f17 hd17,(fun hx => by cases hx),(fun hne => { h with f22:=(fun _ => rfl) })⟩
   ·intro done v W A h hd hp hu hA hB hdf
    have hd17:done 17 = true:=hp 17 rfl
    refine Or.inl ⟨_,h.f17 hd17,(fun hx => by cases hx),(fun hne => { h with f23:=(fun _ => rfl) })⟩
   ·intro done v W A h hd hp hu hA hB hdf
    have hd17:done 17 = true:=hp 17 rfl
    have e0:=(hA 17 24 rfl hd17).trans (h.f17 hd17)
    clear hA hB hp hu hdf
    go_simp
    exact ⟨_,rfl,{ h with f24:=(fun _ => rfl) }⟩
  simp only [putL,Act.put,Nat.reduceAdd,List.setIfInBounds_toArray,List.set_cons_zero,List.set_cons_succ]
  have hbr:=h.b
  rw [h.f24 rfl]
  replace HB:=Lib.hid (HB.out.trans (hbr.mono HB.out.size))
  clear h hbr
  go_wp2_with fail
  go_ret
  exact ⟨by rw [HV.out]; rfl,HB.out⟩
 have d3:((ps.length:Int) != (rows.length:Int)) = false:=bne_eq_false_iff_eq.2 (by omega)
 have H3:=Lib.hid h3
 clear h3
 by_cases h4:cs.length = colsQ rows
 rotate_left
 ·have d4:((cs.length:Int) != ((colsQ rows:Nat):Int)) = true:=bne_iff_ne.2 (by omega)
  have HV:Hid (comQ rows ⟨dl,cs,ps⟩ = false):=Lib.hid (by rw [HQ.out]; rw [comB_len h4,H12.out,decide_eq_true H3.out]; rfl)
  clear h4
  refine wp_region_flowsH (by kernel_rfl) (by kernel_rfl) (by kernel_rfl) (by kernel_rfl) (fun done v W => FCmD W1 (dl) (.slice a1 rows.length k1) (.slice a2 owners.length k2) (.slice a3 cs.length k3) (.slice a4 ps.length k4) (rows.length) (cs.length) (ps.length) ((colsQ rows)) (w.heap.size) ((w.heap.size + 1)) done v W) (fun v => ?_) ?_ (fun v W h => ?_)
  ·exact ⟨(Below.refl _ _).drew,(fun h => by cases h),(fun h => by cases h),(fun h => by cases h),(fun h => by cases h),(fun h => by cases h),(fun h => by cases h),(fun h => by cases h),(fun h => by cases h),(fun h => by cases h),(fun h => by cases h),(fun h => by cases h),(fun h => by cases h),(fun h => by cases h),(fun h => by cases h),(fun h => by cases h),(fun h => by cases h),(fun h => by cases h),(fun h => by cases h),(fun h => by cases h),(fun h => by cases h),(fun h => by cases h),(fun h => by cases h),(fun h => by cases h),(fun h => by cases h),(fun h => by cases h)⟩
  ·refine ⟨?_,?_,?_,?_,?_,?_,?_,?_,?_,?_,?_,?_,?_,?_,?_,?_,?_,?_,?_,?_,?_,?_,?_,?_,?_,trivial⟩
   ·intro done v W A h hd hp hu hA hB hdf
    have e0:A.tmps[3]?.getD undef = .pointer (some ⟨(w.heap.size + 1),0,none⟩):=hB 3 rfl
    clear hA hB hp hu hdf
    go_simp
    exact ⟨_,rfl,{ h with f0:=(fun _ => rfl) }⟩
   ·intro done v W A h hd hp hu hA hB hdf
    have hd0:done 0 = true:=hp 0 rfl
    have e0:=(hA 0 7 rfl hd0).trans (h.f0 hd0)
    have y0_:=below_cell h.b de0
    clear hA hB hp hu hdf
    go_simp
    exact ⟨_,rfl,{ h with f1:=(fun _ => rfl) }⟩
   ·intro done v W A h hd hp hu hA hB hdf
    have hd1:done 1 = true:=hp 1 rfl
    have e0:=(hA 1 8 rfl hd1).trans (h.f1 hd1)
    clear hA hB hp hu hdf
    go_simp
    exact ⟨_,rfl,{ h with f2:=(fun _ => rfl) }⟩
   ·intro done v W A h hd hp hu hA hB hdf
    have hd2:done 2 = true:=hp 2 rfl
    have e0:=(hA 2 9 rfl hd2).trans (h.f2 hd2)
    clear hA hB hp hu hdf
    go_simp
    exact ⟨_,rfl,{ h with f3:=(fun _ => rfl) }⟩
   ·intro done v W A h hd hp hu hA hB hdf
    have hd3:done 3 = true:=hp 3 rfl
    refine Or.inl ⟨_,h.f3 hd3,fun _ => ?_,fun hne => absurd rfl hne⟩
    have e0:A.tmps[3]?.getD undef = .pointer (some ⟨(w.heap.size + 1),0,none⟩):=hB 3 rfl
    clear hA hB hp hu hdf
    go_simp
    exact ⟨_,rfl,{ h with f4:=(fun _ => rfl) }⟩
   ·intro done v W A h hd hp hu hA hB hdf
    have hd3:done 3 = true:=hp 3 rfl
    have hd4:done 4 = true:=hp 4 rfl
    refine Or.inl ⟨_,h.f3 hd3,fun _ => ?_,fun hne => absurd rfl hne⟩
    have e0:=(hA 4 11 rfl hd4).trans (h.f4 hd4)
    have y0_:=below_cell h.b de0
    clear hA hB hp hu hdf
    go_simp
    exact ⟨_,rfl,{ h with f5:=(fun _ => rfl) }⟩
   ·intro done v W A h hd hp hu hA hB hdf
    have hd3:done 3 = true:=hp 3 rfl
    have hd5:done 5 = true:=hp 5 rfl
    refine Or.inl ⟨_,h.f3 hd3,fun _ => ?_,fun hne => absurd rfl hne⟩
    have e0:=(hA 5 12 rfl hd5).trans (h.f5 hd5)
    clear hA hB hp hu hdf
    go_simp
    exact ⟨_,rfl,{ h with f6:=(fun _ => rfl) }⟩
   ·intro done v W A h hd hp hu hA hB hdf
    have hd3:done 3 = true:=hp 3 rfl
    have hd6:done 6 = true:=hp 6 rfl
    have e0:=(hA 3 10 rfl hd3).trans (h.f3 hd3)
    have e2:=(hA 6 13 rfl hd6).trans (h.f6 hd6)
    clear hA hB hp hu hdf
    go_simp
    exact ⟨_,rfl,{ h with f7:=(fun _ => rfl) }⟩
   ·intro done v W A h hd hp hu hA hB hdf
    have hd7:done 7 = true:=hp 7 rfl
    have e0:=(hA 7 14 rfl hd7).trans (h.f7 hd7)
    clear hA hB hp hu hdf
    go_simp
    exact ⟨_,rfl,{ h with f8:=(fun _ => rfl) }⟩
   ·intro done v W A h hd hp hu hA hB hdf
    have hd8:done 8 = true:=hp 8 rfl
    refine Or.inl ⟨_,h.f8 hd8,fun _ => ?_,fun hne => absurd rfl hne⟩
    have e0:A.tmps[3]?.getD undef = .pointer (some ⟨(w.heap.size + 1),0,none⟩):=hB 3 rfl
    clear hA hB hp hu hdf
    go_simp
    exact ⟨_,rfl,{ h with f9:=(fun _ => rfl) }⟩
   ·intro done v W A h hd hp hu hA hB hdf
    have hd8:done 8 = true:=hp 8 rfl
    have hd9:done 9 = true:=hp 9 rfl
    refine Or.inl ⟨_,h.f8 hd8,fun _ => ?_,fun hne => absurd rfl hne⟩
    have e0:=(hA 9 16 rfl hd9).trans (h.f9 hd9)
    have y0_:=below_cell h.b de2
    clear hA hB hp hu hdf
    go_simp
    exact ⟨_,rfl,{ h with f10:=(fun _ => rfl) }⟩
   ·intro done v W A h hd hp hu hA hB hdf
    have hd8:done 8 = true:=hp 8 rfl
    have hd10:done 10 = true:=hp 10 rfl
    refine Or.inl ⟨_,h.f8 hd8,fun _ => ?_,fun hne => absurd rfl hne⟩
    have e0:=(hA 10 17 rfl hd10).trans (h.f10 hd10)
    clear hA hB hp hu hdf
    go_simp
    exact ⟨_,rfl,{ h with f11:=(fun _ => rfl) }⟩
   ·intro done v W A h hd hp hu hA hB hdf
    have hd8:done 8 = true:=hp 8 rfl
    refine Or.inl ⟨_,h.f8 hd8,fun _ => ?_,fun hne => absurd rfl hne⟩
    have e0:A.tmps[2]?.getD undef = .pointer (some ⟨w.heap.size,0,none⟩):=hB 2 rfl
    clear hA hB hp hu hdf
    go_simp
    exact ⟨_,rfl,{ h with f12:=(fun _ => rfl) }⟩
   ·intro done v W A h hd hp hu hA hB hdf
    have hd8:done 8 = true:=hp 8 rfl
    have hd12:done 12 = true:=hp 12 rfl
    refine Or.inl ⟨_,h.f8 hd8,fun _ => ?_,fun hne => absurd rfl hne⟩
    have e0:=(hA 12 19 rfl hd12).trans (h.f12 hd12)
    have y0_:=below_cell h.b c0
    clear hA hB hp hu hdf
    go_simp
    exact ⟨_,rfl,{ h with f13:=(fun _ => rfl) }⟩
   ·intro done v W A h hd hp hu hA hB hdf
    have hd8:done 8 = true:=hp 8 rfl
    have hd13:done 13 = true:=hp 13 rfl
    refine Or.inl ⟨_,h.f8 hd8,fun _ => ?_,fun hne => absurd rfl hne⟩
    have e0:=(hA 13 20 rfl hd13).trans (h.f13 hd13)
    clear hA hB hp hu hdf
    go_simp
    exact ⟨_,rfl,{ h with f14:=(fun _ => rfl) }⟩
   ·intro done v W A h hd hp hu hA hB hdf
    have hd8:done 8 = true:=hp 8 rfl
    have hd11:done 11 = true:=hp 11 rfl
    have hd14:done 14 = true:=hp 14 rfl
    refine Or.inl ⟨_,h.f8 hd8,fun _ => ?_,fun hne => absurd rfl hne⟩
    have e0:=(hA 11 18 rfl hd11).trans (h.f11 hd11)
    have e1:=(hA 14 21 rfl hd14).trans (h.f14 hd14)
    clear hA hB hp hu hdf
    go_simp
    exact ⟨_,rfl,{ h with f15:=(fun _ => rfl) }⟩
   ·intro done v W A h hd hp hu hA hB hdf
    have hd8:done 8 = true:=hp 8 rfl
    have hd15:done 15 = true:=hp 15 rfl
    have e0:=(hA 8 15 rfl hd8).trans (h.f8 hd8)
    have e2:=(hA 15 22 rfl hd15).trans (h.f15 hd15)
    clear hA hB hp hu hdf
    go_simp
    exact ⟨_,rfl,{ h with f16:=(fun _ => rfl) }⟩
   ·intro done v W A h hd hp hu hA hB hdf
    have hd16:done 16 = true:=hp 16 rfl
    have e0:=(hA 16 23 rfl hd16).trans (h.f16 hd16)
    clear hA hB hp hu hdf
    go_simp
    exact ⟨_,rfl,{ h with f17:=(fun _ => rfl) }⟩
   ·intro done v W A h hd hp hu hA hB hdf
    have hd17:done 17 = true:=hp 17 rfl
    refine Or.inl ⟨_,h.f17 hd17,fun _ => ?_,fun hne => absurd rfl hne⟩
    have e0:A.tmps[3]?.getD undef = .pointer (some ⟨(w.heap.size + 1),0,none⟩):=hB 3 rfl
    clear hA hB hp hu hdf
    go_simp
    exact ⟨_,rfl,{ h with f18:=(fun _ => rfl) }⟩
   ·intro done v W A h hd hp hu hA hB hdf
    have hd17:done 17 = true:=hp 17 rfl
    have hd18:done 18 = true:=hp 18 rfl
    refine Or.inl ⟨_,h.f17 hd17,fun _ => ?_,fun hne => absurd rfl hne⟩
    have e0:=(hA 18 25 rfl hd18).trans (h.f18 hd18)
    have y0_:=below_cell h.b de1
    clear hA hB hp hu hdf
    go_simp
    exact ⟨_,rfl,{ h with f19:=(fun _ => rfl) }⟩
   ·intro done v W A h hd hp hu hA hB hdf
    have hd17:done 17 = true:=hp 17 rfl
    have hd19:done 19 = true:=hp 19 rfl
    refine Or.inl ⟨_,h.f17 hd17,fun _ => ?_,fun hne => absurd rfl hne⟩
    have e0:=(hA 19 26 rfl hd19).trans (h.f19 hd19)
    clear hA hB hp hu hdf
    go_simp
    exact ⟨_,rfl,{ h with f20:=(fun _ => rfl) }⟩
   ·intro done v W A h hd hp hu hA hB hdf
    have hd17:done 17 = true:=hp 17 rfl
    refine Or.inl ⟨_,h.f17 hd17,fun _ => ?_,fun hne => absurd rfl hne⟩
    have e0:A.tmps[2]?.getD undef = .pointer (some ⟨w.heap.size,0,none⟩):=hB 2 rfl
    have y0_:=below_cell h.b c0
    have y1_:=below_cell h.b c1
    clear hA hB hp hu hdf
    go_simp
    exact ⟨_,rfl,{ h with f21:=(fun _ => rfl) }⟩
   ·intro done v W A h hd hp hu hA hB hdf
    have hd17:done 17 = true:=hp 17 rfl
    have hd21:done 21 = true:=hp 21 rfl
    refine Or.inl ⟨_,h.f17 hd17,fun _ => ?_,fun hne => absurd rfl hne⟩
    have e0:=(hA 21 28 rfl hd21).trans (h.f21 hd21)
    clear hA hB hp hu hdf
    go_simp
    with_reducible refine (HCO.out W h.b).mono ?_
    rintro e wq ⟨rfl,hb⟩
    exact ⟨_,rfl,{ h with b:=h.b.trans (hb.mono h.b.size),f22:=(fun _ => rfl) }⟩
   ·intro done v W A h hd hp hu hA hB hdf
    have hd17:done 17 = true:=hp 17 rfl
    have hd20:done 20 = true:=hp 20 rfl
    have hd22:done 22 = true:=hp 22 rfl
    refine Or.inl ⟨_,h.f17 hd17,fun _ => ?_,fun hne => absurd rfl hne⟩
    have e0:=(hA 20 27 rfl hd20).trans (h.f20 hd20)
    have e1:=(hA 22 29 rfl hd22).trans (h.f22 hd22)
    clear hA hB hp hu hdf
    go_simp
    exact ⟨_,rfl,{ h with f23:=(fun _ => rfl) }⟩
   ·intro done v W A h hd hp hu hA hB hdf
    have hd17:done 17 = true:=hp 17 rfl
    have hd23:done 23 = true:=hp 23 rfl
    have e0:=(hA 17 24 rfl hd17).trans (h.f17 hd17)
    have e2:=(hA 23 30 rfl hd23).trans (h.f23 hd23)
    clear hA hB hp hu hdf
    go_simp
    exact ⟨_,rfl,{ h with f24:=(fun _ => rfl) }⟩
  simp only [putL,Act.put,Nat.reduceAdd,List.setIfInBounds_toArray,List.set_cons_zero,List.set_cons_succ]
  have hbr:=h.b
  rw [h.f24 rfl]
  replace HB:=Lib.hid (HB.out.trans (hbr.mono HB.out.size))
  clear h hbr
  go_wp2_with fail
  go_ret
  exact ⟨by rw [HV.out]; rfl,HB.out⟩
 have d4:((cs.length:Int) != ((colsQ rows:Nat):Int)) = false:=bne_eq_false_iff_eq.2 (by omega)
 have H4:=Lib.hid h4
 clear h4
 refine wp_region_flowsH (by kernel_rfl) (by kernel_rfl) (by kernel_rfl) (by kernel_rfl) (fun done v W => FCmE W1 (dl) (.slice a1 rows.length k1) (.slice a2 owners.length k2) (.slice a3 cs.length k3) (.slice a4 ps.length k4) (rows.length) (cs.length) (ps.length) ((colsQ rows)) (w.heap.size) ((w.heap.size + 1)) done v W) (fun v => ?_) ?_ (fun v W h => ?_)
 ·exact ⟨(Below.refl _ _).drew,(fun h => by cases h),(fun h => by cases h),(fun h => by cases h),(fun h => by cases h),(fun h => by cases h),(fun h => by cases h),(fun h => by cases h),(fun h => by cases h),(fun h => by cases h),(fun h => by cases h),(fun h => by cases h),(fun h => by cases h),(fun h => by cases h),(fun h => by cases h),(fun h => by cases h),(fun h => by cases h),(fun h => by cases h),(fun h => by cases h),(fun h => by cases h),(fun h => by cases h),(fun h => by cases h),(fun h => by cases h),(fun h => by cases h),(fun h => by cases h),(fun h => by cases h)⟩
 ·refine ⟨?_,?_,?_,?_,?_,?_,?_,?_,?_,?_,?_,?_,?_,?_,?_,?_,?_,?_,?_,?_,?_,?_,?_,?_,?_,trivial⟩
  ·intro done v W A h hd hp hu hA hB hdf
   have e0:A.tmps[3]?.getD undef = .pointer (some ⟨(w.heap.size + 1),0,none⟩):=hB 3 rfl
   clear hA hB hp hu hdf
   go_simp
   exact ⟨_,rfl,{ h with f0:=(fun _ => rfl) }⟩
  ·intro done v W A h hd hp hu hA hB hdf
   have hd0:done 0 = true:=hp 0 rfl
   have e0:=(hA 0 7 rfl hd0).trans (h.f0 hd0)
   have y0_:=below_cell h.b de0
   clear hA hB hp hu hdf
   go_simp
   exact ⟨_,rfl,{ h with f1:=(fun _ => rfl) }⟩
  ·intro done v W A h hd hp hu hA hB hdf
   have hd1:done 1 = true:=hp 1 rfl
   have e0:=(hA 1 8 rfl hd1).trans (h.f1 hd1)
   clear hA hB hp hu hdf
   go_simp
   exact ⟨_,rfl,{ h with f2:=(fun _ => rfl) }⟩
  ·intro done v W A h hd hp hu hA hB hdf
   have hd2:done 2 = true:=hp 2 rfl
   have e0:=(hA 2 9 rfl hd2).trans (h.f2 hd2)
   clear hA hB hp hu hdf
   go_simp
   exact ⟨_,rfl,{ h with f3:=(fun _ => rfl) }⟩
  ·intro done v W A h hd hp hu hA hB hdf
   have hd3:done 3 = true:=hp 3 rfl
   refine Or.inl ⟨_,h.f3 hd3,fun _ => ?_,fun hne => absurd rfl hne⟩
   have e0:A.tmps[3]?.getD undef = .pointer (some ⟨(w.heap.size + 1),0,none⟩):=hB 3 rfl
   clear hA hB hp hu hdf
   go_simp
   exact ⟨_,rfl,{ h with f4:=(fun _ => rfl) }⟩
  ·intro done v W A h hd hp hu hA hB hdf
   have hd3:done 3 = true:=hp 3 rfl
   have hd4:done 4 = true:=hp 4 rfl
   refine Or.inl ⟨_,h.f3 hd3,fun _ => ?_,fun hne => absurd rfl hne⟩
   have e0:=(hA 4 11 rfl hd4).trans (h.f4 hd4)
   have y0_:=below_cell h.b de0
   clear hA hB hp hu hdf
   go_simp
   exact ⟨_,rfl,{ h with f5:=(fun _ => rfl) }⟩
  ·intro done v W A h hd hp hu hA hB hdf
   have hd3:done 3 = true:=hp 3 rfl
   have hd5:done 5 = true:=hp 5 rfl
   refine Or.inl ⟨_,h.f3 hd3,fun _ => ?_,fun hne => absurd rfl hne⟩
   have e0:=(hA 5 12 rfl hd5).trans (h.f5 hd5)
   clear hA hB hp hu hdf
   go_simp
   exact ⟨_,rfl,{ h with f6:=(fun _ => rfl) }⟩
  ·intro done v W A h hd hp hu hA hB hdf
   have hd3:done 3 = true:=hp 3 rfl
   have hd6:done 6 = true:=hp 6 rfl
   have e0:=(hA 3 10 rfl hd3).trans (h.f3 hd3)
   have e2:=(hA 6 13 rfl hd6).trans (h.f6 hd6)
   clear hA hB hp hu hdf
   go_simp
   exact ⟨_,rfl,{ h with f7:=(fun _ => rfl) }⟩
  ·intro done v W A h hd hp hu hA hB hdf
   have hd7:done 7 = true:=hp 7 rfl
   have e0:=(hA 7 14 rfl hd7).trans (h.f7 hd7)
   clear hA hB hp hu hdf
   go_simp
   exact ⟨_,rfl,{ h with f8:=(fun _ => rfl) }⟩
  ·intro done v W A h hd hp hu hA hB hdf
   have hd8:done 8 = true:=hp 8 rfl
   refine Or.inl ⟨_,h.f8 hd8,fun _ => ?_,fun hne => absurd rfl hne⟩
   have e0:A.tmps[3]?.getD undef = .pointer (some ⟨(w.heap.size + 1),0,none⟩):=hB 3 rfl
   clear hA hB hp hu hdf
   go_simp
   exact ⟨_,rfl,{ h with f9:=(fun _ => rfl) }⟩
  ·intro done v W A h hd hp hu hA hB hdf
   have hd8:done 8 = true:=hp 8 rfl
   have hd9:done 9 = true:=hp 9 rfl
   refine Or.inl ⟨_,h.f8 hd8,fun _ => ?_,fun hne => absurd rfl hne⟩
   have e0:=(hA 9 16 rfl hd9).trans (h.f9 hd9)
   have y0_:=below_cell h.b de2
   clear hA hB hp hu hdf
   go_simp
   exact ⟨_,rfl,{ h with f10:=(fun _ => rfl) }⟩
  ·intro done v W A h hd hp hu hA hB hdf
   have hd8:done 8 = true:=hp 8 rfl
   have hd10:done 10 = true:=hp 10 rfl
   refine Or.inl ⟨_,h.f8 hd8,fun _ => ?_,fun hne => absurd rfl hne⟩
   have e0:=(hA 10 17 rfl hd10).trans (h.f10 hd10)
   clear hA hB hp hu hdf
   go_simp
   exact ⟨_,rfl,{ h with f11:=(fun _ => rfl) }⟩
  ·intro done v W A h hd hp hu hA hB hdf
   have hd8:done 8 = true:=hp 8 rfl
   refine Or.inl ⟨_,h.f8 hd8,fun _ => ?_,fun hne => absurd rfl hne⟩
   have e0:A.tmps[2]?.getD undef = .pointer (some ⟨w.heap.size,0,none⟩):=hB 2 rfl
   clear hA hB hp hu hdf
   go_simp
   exact ⟨_,rfl,{ h with f12:=(fun _ => rfl) }⟩
  ·intro done v W A h hd hp hu hA hB hdf
   have hd8:done 8 = true:=hp 8 rfl
   have hd12:done 12 = true:=hp 12 rfl
   refine Or.inl ⟨_,h.f8 hd8,fun _ => ?_,fun hne => absurd rfl hne⟩
   have e0:=(hA 12 19 rfl hd12).trans (h.f12 hd12)
   have y0_:=below_cell h.b c0
   clear hA hB hp hu hdf
   go_simp
   exact ⟨_,rfl,{ h with f13:=(fun _ => rfl) }⟩
  ·intro done v W A h hd hp hu hA hB hdf
   have hd8:done 8 = true:=hp 8 rfl
   have hd13:done 13 = true:=hp 13 rfl
   refine Or.inl ⟨_,h.f8 hd8,fun _ => ?_,fun hne => absurd rfl hne⟩
   have e0:=(hA 13 20 rfl hd13).trans (h.f13 hd13)
   clear hA hB hp hu hdf
   go_simp
   exact ⟨_,rfl,{ h with f14:=(fun _ => rfl) }⟩
  ·intro done v W A h hd hp hu hA hB hdf
   have hd8:done 8 = true:=hp 8 rfl
   have hd11:done 11 = true:=hp 11 rfl
   have hd14:done 14 = true:=hp 14 rfl
   refine Or.inl ⟨_,h.f8 hd8,fun _ => ?_,fun hne => absurd rfl hne⟩
   have e0:=(hA 11 18 rfl hd11).trans (h.f11 hd11)
   have e1:=(hA 14 21 rfl hd14).trans (h.f14 hd14)
   clear hA hB hp hu hdf
   go_simp
   exact ⟨_,rfl,{ h with f15:=(fun _ => rfl) }⟩
  ·intro done v W A h hd hp hu hA hB hdf
   have hd8:done 8 = true:=hp 8 rfl
   have hd15:done 15 = true:=hp 15 rfl
   have e0:=(hA 8 15 rfl hd8).trans (h.f8 hd8)
   have e2:=(hA 15 22 rfl hd15).trans (h.f15 hd15)
   clear hA hB hp hu hdf
   go_simp
   exact ⟨_,rfl,{ h with f16:=(fun _ => rfl) }⟩
  ·intro done v W A h hd hp hu hA hB hdf
   have hd16:done 16 = true:=hp 16 rfl
   have e0:=(hA 16 23 rfl hd16).trans (h.f16 hd16)
   clear hA hB hp hu hdf
   go_simp
   exact ⟨_,rfl,{ h with f17:=(fun _ => rfl) }⟩
  ·intro done v W A h hd hp hu hA hB hdf
   have hd17:done 17 = true:=hp 17 rfl
   refine Or.inl ⟨_,h.f17 hd17,fun _ => ?_,fun hne => absurd rfl hne⟩
   have e0:A.tmps[3]?.getD undef = .pointer (some ⟨(w.heap.size + 1),0,none⟩):=hB 3 rfl
   clear hA hB hp hu hdf
   go_simp
   exact ⟨_,rfl,{ h with f18:=(fun _ => rfl) }⟩
  ·intro done v W A h hd hp hu hA hB hdf
   have hd17:done 17 = true:=hp 17 rfl
   have hd18:done 18 = true:=hp 18 rfl
   refine Or.inl ⟨_,h.f17 hd17,fun _ => ?_,fun hne => absurd rfl hne⟩
   have e0:=(hA 18 25 rfl hd18).trans (h.f18 hd18)
   have y0_:=below_cell h.b de1
   clear hA hB hp hu hdf
   go_simp
   exact ⟨_,rfl,{ h with f19:=(fun _ => rfl) }⟩
  ·intro done v W A h hd hp hu hA hB hdf
   have hd17:done 17 = true:=hp 17 rfl
   have hd19:done 19 = true:=hp 19 rfl
   refine Or.inl ⟨_,h.f17 hd17,fun _ => ?_,fun hne => absurd rfl hne⟩
   have e0:=(hA 19 26 rfl hd19).trans (h.f19 hd19)
   clear hA hB hp hu hdf
   go_simp
   exact ⟨_,rfl,{ h with f20:=(fun _ => rfl) }⟩
  ·intro done v W A h hd hp hu hA hB hdf
   have hd17:done 17 = true:=hp 17 rfl
   refine Or.inl ⟨_,h.f17 hd17,fun _ => ?_,fun hne => absurd rfl hne⟩
   have e0:A.tmps[2]?.getD undef = .pointer (some ⟨w.heap.size,0,none⟩):=hB 2 rfl
   have y0_:=below_cell h.b c0
   have y1_:=below_cell h.b c1
   clear hA hB hp hu hdf
   go_simp
   exact ⟨_,rfl,{ h with f21:=(fun _ => rfl) }⟩
  ·intro done v W A h hd hp hu hA hB hdf
   have hd17:done 17 = true:=hp 17 rfl
   have hd21:done 21 = true:=hp 21 rfl
   refine Or.inl ⟨_,h.f17 hd17,fun _ => ?_,fun hne => absurd rfl hne⟩
   have e0:=(hA 21 28 rfl hd21).trans (h.f21 hd21)
   clear hA hB hp hu hdf
   go_simp
   with_reducible refine (HCO.out W h.b).mono ?_
   rintro e wq ⟨rfl,hb⟩
   exact ⟨_,rfl,{ h with b:=h.b.trans (hb.mono h.b.size),f22:=(fun _ => rfl) }⟩
  ·intro done v W A h hd hp hu hA hB hdf
   have hd17:done 17 = true:=hp 17 rfl
   have hd20:done 20 = true:=hp 20 rfl
   have hd22:done 22 = true:=hp 22 rfl
   refine Or.inl ⟨_,h.f17 hd17,fun _ => ?_,fun hne => absurd rfl hne⟩
   have e0:=(hA 20 27 rfl hd20).trans (h.f20 hd20)
   have e1:=(hA 22 29 rfl hd22).trans (h.f22 hd22)
   clear hA hB hp hu hdf
   go_simp
   exact ⟨_,rfl,{ h with f23:=(fun _ => rfl) }⟩
  ·intro done v W A h hd hp hu hA hB hdf
   have hd17:done 17 = true:=hp 17 rfl
   have hd23:done 23 = true:=hp 23 rfl
   have e0:=(hA 17 24 rfl hd17).trans (h.f17 hd17)
   have e2:=(hA 23 30 rfl hd23).trans (h.f23 hd23)
   clear hA hB hp hu hdf
   go_simp
   exact ⟨_,rfl,{ h with f24:=(fun _ => rfl) }⟩
 simp only [putL,Act.put,Nat.reduceAdd,List.setIfInBounds_toArray,List.set_cons_zero,List.set_cons_succ]
 have hbr:=h.b
 rw [h.f24 rfl]
 replace c0:=below_cell hbr c0
 replace c1:=below_cell hbr c1
 replace de0:=below_cell hbr de0
 replace de1:=below_cell hbr de1
 replace de2:=below_cell hbr de2
 replace HR:=Lib.hid (HR.out.below hbr)
 replace HO:=Lib.hid (HO.out.below hbr)
 replace HC:=Lib.hid (HC.out.below hbr)
 replace HP:=Lib.hid (HP.out.below hbr)
 replace HB:=Lib.hid (HB.out.trans (hbr.mono HB.out.size))
 clear h hbr HCO d1 d2 d3 d4
 go_wp2_with fail
 go_loopw [5] (fun i W' => ∃ k:Nat,k ≤ cs.length ∧ i = .int .i64 k ∧ W' = W ∧ ∀ j (h:j < cs.length),j < k → elB cs[j] = true) (fun i _ => cs.length - (intOf i).toNat)
 case atStart => exact ⟨0,Nat.zero_le _,rfl,rfl,fun j _ h => absurd h (Nat.not_lt_zero _)⟩
 case round =>
  obtain ⟨k,hkl,rfl,rfl,hal⟩:=hrel
  by_cases hlt:k < cs.length
  ·obtain ⟨b,off,e9,y1⟩:=ints_at HC.out hlt
   subst e9
   have HE:Hid (elB cs[k] = true → ∀ j (h:j < cs.length),j < k + 1 → elB cs[j] = true):=Lib.hid (fun e2 j h h2 => by
    by_cases hj:j < k
    ·exact hal j h hj
    ·obtain rfl:j = k:=by omega
     exact e2)
   have HBD:Hid (elB cs[k] = false → comQ rows ⟨dl,cs,ps⟩ = false):=Lib.hid (fun h => by rw [HQ.out,comB_bad hlt h,H12.out,decide_eq_true H3.out]; rfl)
   have hz64:R64 cs[k]:=by
    obtain ⟨_,_,_,_,_,hr,_⟩:=HC.out
    exact hr _ (List.getElem_mem hlt)
   have j0:0 ≤ (k:Int):=by omega
   have j1:(k:Int) < (cs.length:Int):=by omega
   have j2:decide ((k:Int) < (cs.length:Int)) = true:=decide_eq_true j1
   clear hal
   obtain ⟨z,hz⟩:∃ z,z = cs[k]:=⟨_,rfl⟩
   rw [← hz] at y1 HE HBD hz64
   have HV:=Lib.hid (fun W => rvalid_any z W hz64)
   clear hz hz64
   go_wp2_with fail
   with_reducible refine (HV.out _).mono ?_
   rintro e w9 ⟨rfl,rfl⟩
   cases hz:elB z with
   | false =>
    have HF:=Lib.hid (HBD.out hz)
    clear hz
    go_wp2_with fail
    go_ret
    exact ⟨by rw [HF.out]; rfl,HB.out⟩
   | true =>
    have HT:=Lib.hid (HE.out hz)
    clear hz
    go_wp2_with fail
    go_roundw
    case rel => exact ⟨k + 1,by omega,by go_num,by trivial,HT.out⟩
    case measure => simp [intOf]; omega
  ·have HAC:Hid (comB rows cs = true):=Lib.hid (comB_all H4.out (fun j hj => hal j hj (by omega)))
   have j2:decide ((k:Int) < (cs.length:Int)) = false:=decide_eq_false (by omega)
   have j5:decide (k < cs.length) = false:=decide_eq_false hlt
   clear hal hlt hkl
   go_wp2_with fail
   clear j2 j5
   go_loopw [6] (fun i W' => ∃ k:Nat,k ≤ ps.length ∧ i = .int .i64 k ∧ W' = wr ∧ ∀ j (h:j < ps.length),j < k → ps[j].1 = (j:Int)) (fun i _ => ps.length - (intOf i).toNat)
   case atStart => exact ⟨0,Nat.zero_le _,rfl,rfl,fun j _ h => absurd h (Nat.not_lt_zero _)⟩
   case round =>
    obtain ⟨k,hkl,rfl,rfl,hal⟩:=hrel
    by_cases hlt:k < ps.length
    ·obtain ⟨b,off,e9,y1,-,-,-⟩:=HP.out.at hlt
     subst e9
     have HE:Hid (ps[k].1 = (k:Int) → ∀ j (h:j < ps.length),j < k + 1 → ps[j].1 = (j:Int)):=Lib.hid (fun e2 j h h2 => by
      by_cases hj:j < k
      ·exact hal j h hj
      ·obtain rfl:j = k:=by omega
       exact e2)
     have HBD:Hid (ps[k].1 ≠ (k:Int) → comQ rows ⟨dl,cs,ps⟩ = false):=Lib.hid (fun h => by rw [HQ.out,numB_bad36 hlt h,H12.out,decide_eq_true H3.out,HAC.out]; rfl)
     have j0:0 ≤ (k:Int):=by omega
     have j1:(k:Int) < (ps.length:Int):=by omega
     have j2:decide ((k:Int) < (ps.length:Int)) = true:=decide_eq_true j1
     clear hal
     generalize ps[k].1 = z at *
     by_cases hz:z = (k:Int)
     ·have HT:=Lib.hid (HE.out hz)
      have d1:(z != (k:Int)) = false:=bne_eq_false_iff_eq.2 hz
      clear hz
      go_wp2_with fail
      go_roundw
      case rel => exact ⟨k + 1,by omega,by go_num,by trivial,HT.out⟩
      case measure => simp [intOf]; omega
     ·have HF:=Lib.hid (HBD.out hz)
      have d1:(z != (k:Int)) = true:=bne_iff_ne.2 hz
      clear hz
      go_wp2_with fail
      go_ret
      exact ⟨by rw [HF.out]; rfl,HB.out⟩
    ·have HT:Hid (comQ rows ⟨dl,cs,ps⟩ = true):=Lib.hid (by rw [HQ.out,H12.out,decide_eq_true H3.out,HAC.out,numB_iff.2 (fun j hj => hal j hj (by omega))]; rfl)
     have j2:decide ((k:Int) < (ps.length:Int)) = false:=decide_eq_false (by omega)
     have j5:decide (k < ps.length) = false:=decide_eq_false hlt
     clear hal hlt hkl
     go_wp2_with fail
     go_ret
     exact ⟨by rw [HT.out]; rfl,HB.out⟩
theorem rError36_any (rv ov cv pv:Value) (rows:List (List Int)) (owners:List Int) (dl:Int) (cs:List Int) (ps:List Pcl) (w:World) (hR:Rows2 w rv rows) (hO:Ints w ov owners) (hC:Ints w cv cs) (hP:Parcels w pv ps) :
  Calls Tryz.prog 60 #[.agg #[rv,ov],.agg #[.int .i64 dl,cv,pv]] w fun r w' => r = .returned (.int .i64 (cE rows owners ⟨dl,cs,ps⟩)) ∧ Below w.heap.size w w':=by
 obtain ⟨W1,hW1,hb1,hr1,hr2⟩:=box_pd w rv ov (.int .i64 dl) cv pv
 have HR:=Lib.hid (hR.below hb1)
 have HO:=Lib.hid (hO.below hb1)
 have HC:=Lib.hid (hC.below hb1)
 have HP:=Lib.hid (hP.below hb1)
 obtain ⟨a1,k1,rfl,-,hl1,-⟩:=id hR
 obtain ⟨a2,k2,rfl,-,hl2,-⟩:=id hO
 obtain ⟨a3,k3,rfl,-,hl3,-⟩:=id hC
 obtain ⟨a4,k4,rfl,-,hl4,-⟩:=id hP
 have c0:=row_cell hr1 (k:=0) (v:=.slice a1 rows.length k1) rfl
 have c1:=row_cell hr1 (k:=1) (v:=.slice a2 owners.length k2) rfl
 have de0:=row_cell hr2 (k:=0) (v:=.int .i64 dl) rfl
 have de1:=row_cell hr2 (k:=1) (v:=.slice a3 cs.length k3) rfl
 have de2:=row_cell hr2 (k:=2) (v:=.slice a4 ps.length k4) rfl
 have HW1:=Lib.hid hW1
 have HB:=Lib.hid hb1
 clear hR hO hC hP hr1 hr2 hW1 hb1
 have HQ:Hid (cE rows owners ⟨dl,cs,ps⟩ = if progE rows owners ≠ 0 then progE rows owners else if comQ rows ⟨dl,cs,ps⟩ = true then 0 else 360):=Lib.hid rfl
 go_enter Tryz.func60,Tryz.ntmps60
 go_wp2_with (rw [← HW1.out])
 with_reducible refine (rpCheck_any _ _ rows owners _ HR.out HO.out).mono ?_
 rintro e w2 ⟨rfl,hb2⟩
 replace c0:=below_cell hb2 c0
 replace c1:=below_cell hb2 c1
 replace de0:=below_cell hb2 de0
 replace de1:=below_cell hb2 de1
 replace de2:=below_cell hb2 de2
 replace HR:=Lib.hid (HR.out.below hb2)
 replace HO:=Lib.hid (HO.out.below hb2)
 replace HC:=Lib.hid (HC.out.below hb2)
 replace HP:=Lib.hid (HP.out.below hb2)
 replace HB:=Lib.hid (HB.out.trans (hb2.mono HB.out.size))
 clear hb2
 clear HW1
 by_cases hp:progE rows owners = 0
 rotate_left
 ·have HV:Hid (cE rows owners ⟨dl,cs,ps⟩ = progE rows owners):=Lib.hid (HQ.out.trans (if_pos hp))
  have d0:(progE rows owners != 0) = true:=bne_iff_ne.2 hp
  obtain ⟨q,hq⟩:∃ q,q = progE rows owners:=⟨_,rfl⟩
  rw [← hq] at HV d0 ⊢
  clear hp hq HQ
  go_wp2_with fail
  go_ret
  exact ⟨by rw [HV.out]; rfl,HB.out⟩
 have HV:Hid (cE rows owners ⟨dl,cs,ps⟩ = if comQ rows ⟨dl,cs,ps⟩ = true then 0 else 360):=Lib.hid (HQ.out.trans (if_neg (by simp [hp])))
 rw [hp]
 clear hp HQ
 go_wp2_with fail
 with_reducible refine (rComplete36_any _ _ _ _ rows owners dl cs ps _ HR.out HO.out HC.out HP.out).mono ?_
 rintro e w3 ⟨rfl,hb3⟩
 replace c0:=below_cell hb3 c0
 replace c1:=below_cell hb3 c1
 replace de0:=below_cell hb3 de0
 replace de1:=below_cell hb3 de1
 replace de2:=below_cell hb3 de2
 replace HR:=Lib.hid (HR.out.below hb3)
 replace HO:=Lib.hid (HO.out.below hb3)
 replace HC:=Lib.hid (HC.out.below hb3)
 replace HP:=Lib.hid (HP.out.below hb3)
 replace HB:=Lib.hid (HB.out.trans (hb3.mono HB.out.size))
 clear hb3
 cases hq:comQ rows ⟨dl,cs,ps⟩ with
 | false =>
  rw [hq] at HV
  clear hq
  go_wp2_with fail
  go_ret
  exact ⟨by rw [HV.out]; rfl,HB.out⟩
 | true =>
  rw [hq] at HV
  clear hq
  go_wp2_with fail
  go_ret
  exact ⟨by rw [HV.out]; rfl,HB.out⟩
end Go.Proofs.YtggnipkfliompaaGreatDoor
