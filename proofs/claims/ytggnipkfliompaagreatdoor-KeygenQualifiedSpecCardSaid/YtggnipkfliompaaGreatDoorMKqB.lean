/- The reference of keygen: the right dealing of a dealer. Package keygen: slices of dealings and of complaints that grow. The laws of keygen, in plain Lean: the complaints that are made (KeygenFits). -/
import Derived.Test.YtggnipkfliompaaGreatDoorMKqA
import Derived.Test.YtggnipkfliompaaGreatDoorMKgE
import Derived.Test.YtggnipkfliompaaGreatDoorMRefM
import Derived.Test.YtggnipkfliompaaGreatDoorMKgI
import Derived.Test.YtggnipkfliompaaGreatDoorMParG
import Derived.Test.YtggnipkfliompaaGreatDoorMKgT
import Derived.Laws.OwnMore
set_option maxHeartbeats 4000000
set_option maxRecDepth 100000
namespace Go.Proofs.YtggnipkfliompaaGreatDoor
open Go.RowKit FP
def findX (rows:List (List Int)) (l:List Dlg) (vs:DVals) (n:Int):Value × Value:=(((List.range l.length).find? fun i => isOf rows n (l.getD i noD)).map vs).getD (.slice none 0 0,.slice none 0 0)
theorem findX_at {rows:List (List Int)} {l:List Dlg} {vs:DVals} {n:Int} {k:Nat} (h:k < l.length) (hp:∀ d ∈ l.take k,isOf rows n d = false) (hk:isOf rows n l[k] = true):findX rows l vs n = vs k:=by
 unfold findX
 have e:(List.range l.length).find? (fun i => isOf rows n (l.getD i noD)) = some k:=by
  rw [List.find?_eq_some_iff_getElem]
  refine ⟨by rw [getD_at h]; exact hk,k,by simpa using h,by simp,fun j hj => ?_⟩
  have hjl:j < l.length:=by omega
  have:=hp l[j] (List.mem_take_iff_getElem.2 ⟨j,by omega,rfl⟩)
  simp only [List.getElem_range]
  rw [getD_at hjl,this]; rfl
 rw [e]; rfl
theorem findX_none {rows:List (List Int)} {l:List Dlg} {vs:DVals} {n:Int} (h:l.any (isOf rows n) = false):findX rows l vs n = (.slice none 0 0,.slice none 0 0):=by
 unfold findX
 have e:(List.range l.length).find? (fun i => isOf rows n (l.getD i noD)) = none:=by
  rw [List.find?_eq_none]
  intro i hi
  have hi:=List.mem_range.1 hi
  rw [getD_at hi]
  have:=List.any_eq_false.1 h _ (List.getElem_mem hi)
  simpa using this
 rw [e]; rfl
theorem findD_at {rows:List (List Int)} {l:List Dlg} {n:Int} {k:Nat} (h:k < l.length) (hp:∀ d ∈ l.take k,isOf rows n d = false) (hk:isOf rows n l[k] = true):findD rows l n = l[k]:=by
 unfold findD
 have e:l.find? (isOf rows n) = some l[k]:=by
  rw [List.find?_eq_some_iff_getElem]
  refine ⟨hk,k,h,rfl,fun j hj => ?_⟩
  have hjl:j < l.length:=by omega
  have:=hp l[j] (List.mem_take_iff_getElem.2 ⟨j,by omega,rfl⟩)
  rw [this]; rfl
 rw [e]; rfl
theorem findD_none {rows:List (List Int)} {l:List Dlg} {n:Int} (h:l.any (isOf rows n) = false):findD rows l n = ⟨0,[],[]⟩:=by
 unfold findD
 have e:l.find? (isOf rows n) = none:=by
  rw [List.find?_eq_none]
  intro d hd
  have:=List.any_eq_false.1 h _ hd
  simpa using this
 rw [e]; rfl
theorem findX_ok {rows:List (List Int)} {l:List Dlg} {vs:DVals} {n:Int} {w:World} {v:Value} (h:Dlgs w v l vs):Ints w (findX rows l vs n).1 (findD rows l n).cs ∧ Parcels w (findX rows l vs n).2 (findD rows l n).ps ∧ R64 (findD rows l n).dealer:=by
 cases ha:l.any (isOf rows n) with
 | false =>
  rw [findX_none ha,findD_none ha]
  exact ⟨Ints.nil _ none 0,Parcels.nil _ none 0,R64.mk (by decide) (by decide)⟩
 | true =>
  obtain ⟨d,hd,hi⟩:=List.any_eq_true.1 ha
  have key:∀ m,m ≤ l.length → (∀ d ∈ l.take m,isOf rows n d = false) ∨ ∃ k,∃ h:k < l.length,(∀ d ∈ l.take k,isOf rows n d = false) ∧ isOf rows n l[k] = true:=by
   intro m
   induction m with
   | zero => intro _; exact .inl (by simp)
   | succ m ih =>
    intro hm
    rcases ih (by omega) with h1 | h1
    ·cases hb:isOf rows n l[m] with
     | true => exact .inr ⟨m,by omega,h1,hb⟩
     | false => exact .inl (take_next (p:=isOf rows n) (by omega) h1 hb)
    ·exact .inr h1
  rcases key l.length (Nat.le_refl _) with h1 | ⟨k,hk,h1,h2⟩
  ·rw [List.take_length] at h1
   rw [h1 d hd] at hi; cases hi
  ·obtain ⟨a,c,rfl,-⟩:=id h
   obtain ⟨_,_,-,hat⟩:=h.at hk
   rw [findX_at hk h1 h2,findD_at hk h1 h2]
   exact ⟨hat.cs,hat.ps,hat.r⟩
def zeroDz:Array Value:=#[.int .i64 0,.slice none 0 0,.slice none 0 0]
def DBox (n0:Nat) (w:World) (d s:Bool) (v a b c:Value):Prop:=d = true → ∃ B,v = .pointer (some ⟨B,0,none⟩) ∧ n0 ≤ B ∧ B < w.heap.size ∧ w.heap[B]? = some (.cells (if s = true then #[a,b,c] else zeroDz) 28 (0,0))
theorem DBox.nil (n0:Nat) (w:World) (v a b c:Value):DBox n0 w false false v a b c:=fun h => by cases h
theorem DBox.below {n0:Nat} {w w':World} {d s:Bool} {v a b c:Value} (h:DBox n0 w d s v a b c) (hb:Below w.heap.size w w'):DBox n0 w' d s v a b c:=fun hd => by
 obtain ⟨B,e,h1,h2,h3⟩:=h hd
 exact ⟨B,e,h1,Nat.lt_of_lt_of_le h2 hb.size,(hb.block _ h2).trans h3⟩
theorem DBox.alloc {n0:Nat} {w:World} {d s:Bool} {v a b c:Value} (_h:DBox n0 w d s v a b c) (hs:s = false) (hn:n0 ≤ w.heap.size):DBox n0 (w.alloc (.cells zeroDz 28)) true s (.pointer (some ⟨w.heap.size,0,none⟩)) a b c:=fun _ =>
 ⟨w.heap.size,rfl,hn,by simp,by rw [hs]; exact World.alloc_heap_new _ _⟩
theorem DBox.store {n0:Nat} {w:World} {d s:Bool} {v a b c:Value} {B:Nat} (h:DBox n0 w d s v a b c) (hv:v = .pointer (some ⟨B,0,none⟩)) (hd:d = true) (hS:w.heap[B]? = some (.cells zeroDz 28 (0,0))):DBox n0 (put3 w B a b c) d true v a b c:=fun _ => by
 obtain ⟨B',e,h1,h2,-⟩:=h hd
 rw [hv] at e
 simp only [Value.pointer.injEq,Option.some.injEq,Addr.mk.injEq] at e
 obtain ⟨rfl,-,-⟩:=e
 exact ⟨B,hv,h1,by rw [put3_size]; exact h2,put3_row a b c _ hS⟩
theorem rFind37_any (rv ov dv:Value) (rows:List (List Int)) (owners:List Int) (l:List Dlg) (vs:DVals) (n:Int) (w:World) (hR:Rows2 w rv rows) (hO:Ints w ov owners) (hD:Dlgs w dv l vs) (hp:progE rows owners = 0) :
  Calls Tryz.prog 108 #[.agg #[rv,ov],dv,.int .i64 n] w fun r w' => r = .returned (.tuple #[.agg #[.int .i64 (findD rows l n).dealer,(findX rows l vs n).1,(findX rows l vs n).2],.bool (l.any (isOf rows n))]) ∧ Below w.heap.size w w':=by
 obtain ⟨W1,hW1,hb1,hr1,hr2⟩:=box_pd w rv ov (.int .i64 0) (.slice none 0 0) (.slice none 0 0)
 have HR:=Lib.hid (hR.below hb1)
 have HO:=Lib.hid (hO.below hb1)
 have HD:=Lib.hid (hD.below hb1)
 have HDW:=Lib.hid hD
 have HB:=Lib.hid hb1
 have HPP:=Lib.hid hp
 obtain ⟨a1,k1,rfl,-,hl1,-⟩:=id hR
 obtain ⟨a2,k2,rfl,-,hl2,-⟩:=id hO
 obtain ⟨a3,k3,rfl,-,hl3,-⟩:=id hD
 have c0_:=row_cell hr1 (k:=0) (v:=.slice a1 rows.length k1) rfl
 have c1_:=row_cell hr1 (k:=1) (v:=.slice a2 owners.length k2) rfl
 have QB:=Lib.hid hr2
 have HW1:=Lib.hid hW1
 clear hR hO hD hb1 hp hr1 hr2 hW1
 go_enter Tryz.func108,Tryz.ntmps108
 go_wp2_with (rw [← HW1.out])
 clear HW1
 go_loopw [8] (fun i Y => ∃ k:Nat,k ≤ l.length ∧ i = .int .i64 k ∧ Hid (∀ d ∈ l.take k,isOf rows n d = false) ∧ Below W1.heap.size W1 Y) (fun i _ => l.length - (intOf i).toNat)
 case atStart => exact ⟨0,Nat.zero_le _,rfl,Lib.hid (by simp),Below.refl _ _⟩
 case round =>
  obtain ⟨k,hkl,rfl,HTK,hb⟩:=hrel
  by_cases hlt:k < l.length
  ·have HNX:=Lib.hid (fun h => take_next (p:=isOf rows n) hlt HTK.out h)
   have HYE:=Lib.hid (fun h => And.intro (And.intro (findD_at hlt HTK.out h) (findX_at (vs:=vs) hlt HTK.out h)) (show l.any (isOf rows n) = true from List.any_eq_true.2 ⟨_,List.getElem_mem hlt,h⟩))
   have his:isOf rows n l[k] = (l[k].dealer == n && fineB rows l[k]):=rfl
   rw [his] at HNX HYE
   obtain ⟨_,_,-,hatw⟩:=HDW.out.at hlt
   obtain ⟨b,off,ea,hat⟩:=(HD.out.below hb).at hlt
   subst ea
   obtain ⟨d,hd⟩:∃ d,d = l[k]:=⟨_,rfl⟩
   rw [← hd] at hat HNX HYE hatw
   obtain ⟨zv,hzv⟩:∃ z,z = vs k:=⟨_,rfl⟩
   rw [← hzv] at hat hatw HYE
   obtain ⟨v1,v2⟩:=zv
   simp only at hat hatw
   obtain ⟨ca,cc,rfl,-⟩:=id hat.cs
   obtain ⟨pa,pc,rfl,-⟩:=id hat.ps
   have y0:=hat.c0
   have y1:=hat.c1
   have y2:=hat.c2
   have HFI0:=Lib.hid (fun W (h:Below wr.heap.size wr W) => rFine37_any (.slice a1 rows.length k1) (.slice a2 owners.length k2) (.slice ca d.cs.length cc) (.slice pa d.ps.length pc) rows owners d W ((HR.out.below hb).below h) ((HO.out.below hb).below h) (hat.cs.below h) (hat.ps.below h) (progE_ok HPP.out).few (progE_ok HPP.out).cols_le)
   have HDR:=Lib.hid (show R64 d.dealer from hat.r)
   have HWC:=Lib.hid (And.intro hatw.cs hatw.ps)
   generalize fineB rows d = bb at *
   have HFI:=HFI0
   replace c0_:=below_cell hb c0_
   replace c1_:=below_cell hb c1_
   have i0:(0:Int) ≤ (k:Int):=Int.natCast_nonneg k
   have i1:(k:Int) < (l.length:Int):=by omega
   have HBW:=Lib.hid hb
   have HLT:=Lib.hid hlt
   have QB2:=Lib.hid ((hb.block _ (row_lt QB.out)).trans QB.out)
   clear hd hzv hat hatw hb HFI0 HTK his
   by_cases hdn:d.dealer = n
   rotate_left
   ·have e9:(d.dealer == n) = false:=beq_eq_false_iff_ne.2 hdn
    have HN:=Lib.hid (HNX.out (by rw [e9]; rfl))
    clear HNX HYE hdn
    go_wp2_with fail
    refine wp_region_flowsG (by kernel_rfl) (by kernel_rfl) (by kernel_rfl) (by kernel_rfl) (fun done v W => FRf4f wr (w.heap.size) (b) (off) (l.length) (k3) (k) (.slice a1 rows.length k1) (.slice a2 owners.length k2) (.slice ca d.cs.length cc) (.slice pa d.ps.length pc) (d.dealer) (n) (bb) done v W) (fun v => ?_) ?_ (fun v W h => ?_)
    ·exact ⟨(Below.refl _ _).drew,(fun h => by cases h),(fun h => by cases h),(fun h => by cases h),(fun h => by cases h),(fun h => by cases h),(fun h => by cases h),(fun h => by cases h),(fun h => by cases h),(fun h => by cases h)⟩
    ·refine ⟨?_,?_,?_,?_,?_,?_,?_,?_,?_,?_,?_,?_,?_,?_,?_,trivial⟩
     ·intro done v W A h hd hp hu hA hB hdf
      have e0:A.tmps[1]?.getD undef = .slice (some ⟨b,off,none⟩) l.length k3:=hB 1 rfl
      clear hA hB hp hu hdf
      go_simp
      exact ⟨_,rfl,{ h with f0:=(fun _ => rfl) }⟩
     ·intro done v W A h hd hp hu hA hB hdf
      have e0:A.tmps[8]?.getD undef = .int .i64 (k:Int):=hB 8 rfl
      clear hA hB hp hu hdf
      go_simp
      exact ⟨_,rfl,{ h with f1:=(fun _ => rfl) }⟩
     ·intro done v W A h hd hp hu hA hB hdf
      have hd0:done 0 = true:=hp 0 rfl
      have hd1:done 1 = true:=hp 1 rfl
      have e0:=(hA 0 15 rfl hd0).trans (h.f0 hd0)
      have e1:=(hA 1 16 rfl hd1).trans (h.f1 hd1)
      clear hA hB hp hu hdf
      go_simp
      exact ⟨_,rfl,{ h with f2:=(fun _ => rfl) }⟩
     ·intro done v W A h hd hp hu hA hB hdf
      have hd2:done 2 = true:=hp 2 rfl
      have e0:=(hA 2 17 rfl hd2).trans (h.f2 hd2)
      clear hA hB hp hu hdf
      go_simp
      exact ⟨_,rfl,{ h with f3:=(fun _ => rfl) }⟩
     ·intro done v W A h hd hp hu hA hB hdf
      have hd3:done 3 = true:=hp 3 rfl
      have e0:=(hA 3 18 rfl hd3).trans (h.f3 hd3)
      have y0_:=below_cell h.b y0
      clear hA hB hp hu hdf
      go_simp
      exact ⟨_,rfl,{ h with f4:=(fun _ => rfl) }⟩
     ·intro done v W A h hd hp hu hA hB hdf
      have e0:A.tmps[2]?.getD undef = .int .i64 n:=hB 2 rfl
      clear hA hB hp hu hdf
      go_simp
      exact ⟨_,rfl,{ h with f5:=(fun _ => rfl) }⟩
     ·intro done v W A h hd hp hu hA hB hdf
      have hd4:done 4 = true:=hp 4 rfl
      have hd5:done 5 = true:=hp 5 rfl
      have e0:=(hA 4 19 rfl hd4).trans (h.f4 hd4)
      have e1:=(hA 5 20 rfl hd5).trans (h.f5 hd5)
      clear hA hB hp hu hdf
      go_simp
      exact ⟨_,rfl,{ h with f6:=(fun _ => rfl) }⟩
     ·intro done v W A h hd hp hu hA hB hdf
      have hd6:done 6 = true:=hp 6 rfl
      have e0:=(hA 6 21 rfl hd6).trans (h.f6 hd6)
      clear hA hB hp hu hdf
      go_simp
      exact ⟨_,rfl,{ h with f7:=(fun _ => rfl) }⟩
     ·intro done v W A h hd hp hu hA hB hdf
      have hd7:done 7 = true:=hp 7 rfl
      refine ⟨_,h.f7 hd7,(fun hx => by cases hx),(fun hne => { h with  })⟩
     ·intro done v W A h hd hp hu hA hB hdf
      have hd7:done 7 = true:=hp 7 rfl
      refine ⟨_,h.f7 hd7,(fun hx => by cases hx),(fun hne => { h with  })⟩
     ·intro done v W A h hd hp hu hA hB hdf
      have hd7:done 7 = true:=hp 7 rfl
      refine ⟨_,h.f7 hd7,(fun hx => by cases hx),(fun hne => { h with  })⟩
     ·intro done v W A h hd hp hu hA hB hdf
      have hd7:done 7 = true:=hp 7 rfl
      refine ⟨_,h.f7 hd7,(fun hx => by cases hx),(fun hne => { h with  })⟩
     ·intro done v W A h hd hp hu hA hB hdf
      have hd7:done 7 = true:=hp 7 rfl
      refine ⟨_,h.f7 hd7,(fun hx => by cases hx),(fun hne => { h with  })⟩
     ·intro done v W A h hd hp hu hA hB hdf
      have hd7:done 7 = true:=hp 7 rfl
      refine ⟨_,h.f7 hd7,(fun hx => by cases hx),(fun hne => { h with  })⟩
     ·intro done v W A h hd hp hu hA hB hdf
      have hd7:done 7 = true:=hp 7 rfl
      have e0:=(hA 7 22 rfl hd7).trans (h.f7 hd7)
      clear hA hB hp hu hdf
      go_simp
      exact ⟨_,rfl,{ h with f14:=(fun _ => rfl) }⟩
    simp only [putL,Act.put,Nat.reduceAdd,List.setIfInBounds_toArray,List.set_cons_zero,List.set_cons_succ]
    have hbr:=h.b
    rw [h.f14 rfl]
    have HB2:=Lib.hid (HBW.out.trans (hbr.mono HBW.out.size))
    clear h hbr HFI e9
    go_wp2_with fail
    go_roundw
    case rel => exact ⟨k + 1,HLT.out,by go_num,HN,HB2.out⟩
    case measure =>
     have h9:=HLT.out
     simp [intOf]; omega
   have e9:(d.dealer == n) = true:=beq_iff_eq.2 hdn
   rw [e9] at HNX HYE
   clear hdn
   go_wp2_with fail
   refine wp_region_flowsG (by kernel_rfl) (by kernel_rfl) (by kernel_rfl) (by kernel_rfl) (fun done v W => FRf4t wr (w.heap.size) (b) (off) (l.length) (k3) (k) (.slice a1 rows.length k1) (.slice a2 owners.length k2) (.slice ca d.cs.length cc) (.slice pa d.ps.length pc) (d.dealer) (n) (bb) done v W) (fun v => ?_) ?_ (fun v W h => ?_)
   ·exact ⟨(Below.refl _ _).drew,(fun h => by cases h),(fun h => by cases h),(fun h => by cases h),(fun h => by cases h),(fun h => by cases h),(fun h => by cases h),(fun h => by cases h),(fun h => by cases h),(fun h => by cases h),(fun h => by cases h),(fun h => by cases h),(fun h => by cases h),(fun h => by cases h),(fun h => by cases h),(fun h => by cases h)⟩
   ·refine ⟨?_,?_,?_,?_,?_,?_,?_,?_,?_,?_,?_,?_,?_,?_,?_,trivial⟩
    ·intro done v W A h hd hp hu hA hB hdf
     have e0:A.tmps[1]?.getD undef = .slice (some ⟨b,off,none⟩) l.length k3:=hB 1 rfl
     clear hA hB hp hu hdf
     go_simp
     exact ⟨_,rfl,{ h with f0:=(fun _ => rfl) }⟩
    ·intro done v W A h hd hp hu hA hB hdf
     have e0:A.tmps[8]?.getD undef = .int .i64 (k:Int):=hB 8 rfl
     clear hA hB hp hu hdf
     go_simp
     exact ⟨_,rfl,{ h with f1:=(fun _ => rfl) }⟩
    ·intro done v W A h hd hp hu hA hB hdf
     have hd0:done 0 = true:=hp 0 rfl
     have hd1:done 1 = true:=hp 1 rfl
     have e0:=(hA 0 15 rfl hd0).trans (h.f0 hd0)
     have e1:=(hA 1 16 rfl hd1).trans (h.f1 hd1)
     clear hA hB hp hu hdf
     go_simp
     exact ⟨_,rfl,{ h with f2:=(fun _ => rfl) }⟩
    ·intro done v W A h hd hp hu hA hB hdf
     have hd2:done 2 = true:=hp 2 rfl
     have e0:=(hA 2 17 rfl hd2).trans (h.f2 hd2)
     clear hA hB hp hu hdf
     go_simp
     exact ⟨_,rfl,{ h with f3:=(fun _ => rfl) }⟩
    ·intro done v W A h hd hp hu hA hB hdf
     have hd3:done 3 = true:=hp 3 rfl
     have e0:=(hA 3 18 rfl hd3).trans (h.f3 hd3)
     have y0_:=below_cell h.b y0
     clear hA hB hp hu hdf
     go_simp
     exact ⟨_,rfl,{ h with f4:=(fun _ => rfl) }⟩
    ·intro done v W A h hd hp hu hA hB hdf
     have e0:A.tmps[2]?.getD undef = .int .i64 n:=hB 2 rfl
     clear hA hB hp hu hdf
     go_simp
     exact ⟨_,rfl,{ h with f5:=(fun _ => rfl) }⟩
    ·intro done v W A h hd hp hu hA hB hdf
     have hd4:done 4 = true:=hp 4 rfl
     have hd5:done 5 = true:=hp 5 rfl
     have e0:=(hA 4 19 rfl hd4).trans (h.f4 hd4)
     have e1:=(hA 5 20 rfl hd5).trans (h.f5 hd5)
     clear hA hB hp hu hdf
     go_simp
     exact ⟨_,rfl,{ h with f6:=(fun _ => rfl) }⟩
    ·intro done v W A h hd hp hu hA hB hdf
     have hd6:done 6 = true:=hp 6 rfl
     have e0:=(hA 6 21 rfl hd6).trans (h.f6 hd6)
     clear hA hB hp hu hdf
     go_simp
     exact ⟨_,rfl,{ h with f7:=(fun _ => rfl) }⟩
    ·intro done v W A h hd hp hu hA hB hdf
     have hd7:done 7 = true:=hp 7 rfl
     refine ⟨_,h.f7 hd7,fun _ => ?_,fun hne => absurd rfl hne⟩
     have e0:A.tmps[3]?.getD undef = .pointer (some ⟨w.heap.size,0,none⟩):=hB 3 rfl
     have y0_:=below_cell h.b c0_
     have y1_:=below_cell h.b c1_
     clear hA hB hp hu hdf
     go_simp
     exact ⟨_,rfl,{ h with f8:=(fun _ => rfl) }⟩
    ·intro done v W A h hd hp hu hA hB hdf
     have hd7:done 7 = true:=hp 7 rfl
     refine ⟨_,h.f7 hd7,fun _ => ?_,fun hne => absurd rfl hne⟩
     have e0:A.tmps[1]?.getD undef = .slice (some ⟨b,off,none⟩) l.length k3:=hB 1 rfl
     clear hA hB hp hu hdf
     go_simp
     exact ⟨_,rfl,{ h with f9:=(fun _ => rfl) }⟩
    ·intro done v W A h hd hp hu hA hB hdf
     have hd7:done 7 = true:=hp 7 rfl
     refine ⟨_,h.f7 hd7,fun _ => ?_,fun hne => absurd rfl hne⟩
     have e0:A.tmps[8]?.getD undef = .int .i64 (k:Int):=hB 8 rfl
     clear hA hB hp hu hdf
     go_simp
     exact ⟨_,rfl,{ h with f10:=(fun _ => rfl) }⟩
    ·intro done v W A h hd hp hu hA hB hdf
     have hd7:done 7 = true:=hp 7 rfl
     have hd9:done 9 = true:=hp 9 rfl
     have hd10:done 10 = true:=hp 10 rfl
     refine ⟨_,h.f7 hd7,fun _ => ?_,fun hne => absurd rfl hne⟩
     have e0:=(hA 9 24 rfl hd9).trans (h.f9 hd9)
     have e1:=(hA 10 25 rfl hd10).trans (h.f10 hd10)
     clear hA hB hp hu hdf
     go_simp
     exact ⟨_,rfl,{ h with f11:=(fun _ => rfl) }⟩
    ·intro done v W A h hd hp hu hA hB hdf
     have hd7:done 7 = true:=hp 7 rfl
     have hd11:done 11 = true:=hp 11 rfl
     refine ⟨_,h.f7 hd7,fun _ => ?_,fun hne => absurd rfl hne⟩
     have e0:=(hA 11 26 rfl hd11).trans (h.f11 hd11)
     have y0_:=below_cell h.b y0
     have y1_:=below_cell h.b y1
     have y2_:=below_cell h.b y2
     clear hA hB hp hu hdf
     go_simp
     exact ⟨_,rfl,{ h with f12:=(fun _ => rfl) }⟩
    ·intro done v W A h hd hp hu hA hB hdf
     have hd7:done 7 = true:=hp 7 rfl
     have hd8:done 8 = true:=hp 8 rfl
     have hd12:done 12 = true:=hp 12 rfl
     refine ⟨_,h.f7 hd7,fun _ => ?_,fun hne => absurd rfl hne⟩
     have e0:=(hA 8 23 rfl hd8).trans (h.f8 hd8)
     have e1:=(hA 12 27 rfl hd12).trans (h.f12 hd12)
     clear hA hB hp hu hdf
     go_simp
     with_reducible refine (HFI.out W h.b).mono ?_
     rintro e wq ⟨rfl,hb⟩
     exact ⟨_,rfl,{ h with b:=h.b.trans (hb.mono h.b.size),f13:=(fun _ => rfl) }⟩
    ·intro done v W A h hd hp hu hA hB hdf
     have hd7:done 7 = true:=hp 7 rfl
     have hd13:done 13 = true:=hp 13 rfl
     have e0:=(hA 7 22 rfl hd7).trans (h.f7 hd7)
     have e1:=(hA 13 28 rfl hd13).trans (h.f13 hd13)
     clear hA hB hp hu hdf
     go_simp
     exact ⟨_,rfl,{ h with f14:=(fun _ => rfl) }⟩
   simp only [putL,Act.put,Nat.reduceAdd,List.setIfInBounds_toArray,List.set_cons_zero,List.set_cons_succ]
   have hbr:=h.b
   rw [h.f14 rfl]
   have HB2:=Lib.hid (HBW.out.trans (hbr.mono HBW.out.size))
   have QB3:=Lib.hid ((hbr.block _ (row_lt QB2.out)).trans QB2.out)
   replace y0:=below_cell hbr y0
   replace y1:=below_cell hbr y1
   replace y2:=below_cell hbr y2
   obtain ⟨W5,rfl⟩:∃ x,x = W:=⟨_,rfl⟩
   clear h hbr HFI e9
   cases bb with
   | false =>
    have HN:=Lib.hid (HNX.out rfl)
    clear HNX HYE
    go_wp2_with fail
    go_roundw
    case rel => exact ⟨k + 1,HLT.out,by go_num,HN,HB2.out⟩
    case measure =>
     have h9:=HLT.out
     simp [intOf]; omega
   | true =>
    obtain ⟨hfd,hany⟩:=HYE.out rfl
    have HFD:=Lib.hid hfd
    have HAN:=Lib.hid hany
    clear HNX HYE hfd hany
    have t0:=row_cell QB3.out (k:=0) (v:=.int .i64 0) rfl
    have t1:=row_cell QB3.out (k:=1) (v:=.slice none 0 0) rfl
    have t2:=row_cell QB3.out (k:=2) (v:=.slice none 0 0) rfl
    have f0:=row_free QB3.out 0
    have f1:=row_free QB3.out 1
    have f2:=row_free QB3.out 2
    obtain ⟨W9,hW9⟩:∃ W9,W9 = put3 W5 (w.heap.size + 1) (.int .i64 d.dealer) (.slice ca d.cs.length cc) (.slice pa d.ps.length pc):=⟨_,rfl⟩
    have hq9:W9.heap[w.heap.size + 1]? = some (.cells #[.int .i64 d.dealer,.slice ca d.cs.length cc,.slice pa d.ps.length pc] 28 (0,0)):=by rw [hW9]; exact put3_row _ _ _ _ QB3.out
    have HB9:Hid (Below w.heap.size w W9):=Lib.hid (by rw [hW9]; exact put3_below _ _ _ (HB.out.trans (HB2.out.mono HB.out.size)) (Nat.le_succ _))
    have z0:=row_cell hq9 (k:=0) (v:=.int .i64 d.dealer) rfl
    have z1:=row_cell hq9 (k:=1) (v:=.slice ca d.cs.length cc) rfl
    have z2:=row_cell hq9 (k:=2) (v:=.slice pa d.ps.length pc) rfl
    unfold put3 at hW9
    have HW9:=Lib.hid hW9
    clear hW9 hq9
    go_wp2_with (rw [← HW9.out])
    refine bodyPost_ret (v:=.tuple #[.agg #[.int .i64 d.dealer,.slice ca d.cs.length cc,.slice pa d.ps.length pc],.bool true]) (by simp [results,Tryz.results108,go_sem,z0,z1,z2]) rfl ⟨by rw [HAN.out,HFD.out.1,HFD.out.2],HB9.out⟩
  ·have HAN:=Lib.hid (any_of_take hlt HTK.out)
   have QB2:=Lib.hid ((hb.block _ (row_lt QB.out)).trans QB.out)
   have t0:=row_cell QB2.out (k:=0) (v:=.int .i64 0) rfl
   have t1:=row_cell QB2.out (k:=1) (v:=.slice none 0 0) rfl
   have t2:=row_cell QB2.out (k:=2) (v:=.slice none 0 0) rfl
   have f0:=row_free QB2.out 0
   have f1:=row_free QB2.out 1
   have f2:=row_free QB2.out 2
   obtain ⟨W9,hW9⟩:∃ W9,W9 = put3 wr (w.heap.size + 1) (.int .i64 0) (.slice none 0 0) (.slice none 0 0):=⟨_,rfl⟩
   have hq9:W9.heap[w.heap.size + 1]? = some (.cells #[.int .i64 0,.slice none 0 0,.slice none 0 0] 28 (0,0)):=by rw [hW9]; exact put3_row _ _ _ _ QB2.out
   have HB9:Hid (Below w.heap.size w W9):=Lib.hid (by rw [hW9]; exact put3_below _ _ _ (HB.out.trans (hb.mono HB.out.size)) (Nat.le_succ _))
   have z0:=row_cell hq9 (k:=0) (v:=.int .i64 0) rfl
   have z1:=row_cell hq9 (k:=1) (v:=.slice none 0 0) rfl
   have z2:=row_cell hq9 (k:=2) (v:=.slice none 0 0) rfl
   unfold put3 at hW9
   have HW9:=Lib.hid hW9
   clear hW9 hq9 hb HTK
   go_wp2_with (rw [← HW9.out])
   refine bodyPost_ret (v:=.tuple #[.agg #[.int .i64 0,.slice none 0 0,.slice none 0 0],.bool false]) (by simp [results,Tryz.results108,go_sem,z0,z1,z2]) rfl ⟨by rw [HAN.out,findD_none HAN.out,findX_none HAN.out],HB9.out⟩
end Go.Proofs.YtggnipkfliompaaGreatDoor
namespace Go.Proofs.YtggnipkfliompaaGreatDoor
open Go.RowKit FP
end Go.Proofs.YtggnipkfliompaaGreatDoor
namespace Go.Proofs.YtggnipkfliompaaGreatDoor
open Go.RowKit FP
section
variable {rows:List (List Int)} {owners secrets keys:List Int}
end
def sputW (W:World) (B:Nat) (a b:Value):World:=(W.setCell ⟨B,0,none⟩ a).setCell ⟨B,1,none⟩ b
theorem sput_below {n0 C:Nat} {w0 W:World} (a b:Value) (hb:Below n0 w0 W) (hC:n0 ≤ C):Below n0 w0 (sputW W C a b):=(hb.setCell hC _).setCell hC _
end Go.Proofs.YtggnipkfliompaaGreatDoor
