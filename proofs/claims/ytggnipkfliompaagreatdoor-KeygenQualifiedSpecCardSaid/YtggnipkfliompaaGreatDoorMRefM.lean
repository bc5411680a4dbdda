/- The reference of parcels: With, Open. The reference of parcels: Seal. The reference of keygen: Deal. The laws of keygen: KeygenSpec. The reference of codec: Ints; the reference of equal: text. -/
import Derived.Test.YtggnipkfliompaaGreatDoorMRefA
import Derived.Test.YtggnipkfliompaaGreatDoorMParG
import Derived.Test.YtggnipkfliompaaGreatDoorMRegF
import Derived.Test.YtggnipkfliompaaGreatDoorMKgE
import Derived.Test.YtggnipkfliompaaGreatDoorMKgI
import Derived.Test.YtggnipkfliompaaGreatDoorMKgU
set_option maxHeartbeats 4000000
set_option maxRecDepth 100000
namespace Go.Proofs.YtggnipkfliompaaGreatDoor
open Go.RowKit
def withV (d dealer row pt c:Int):Int:=if withE d dealer row pt c = 0 then opnV d dealer row c else 0
def openV (s dealer row pt c:Int):Int:=if openE s dealer row pt c = 0 then opnV (powE pt s) dealer row c else 0
theorem withV_no {d dealer row pt c:Int} (h:withE d dealer row pt c ≠ 0):withV d dealer row pt c = 0:=if_neg h
theorem withV_yes {d dealer row pt c:Int} (h:withE d dealer row pt c = 0):withV d dealer row pt c = opnV d dealer row c:=if_pos h
theorem openV_no {s dealer row pt c:Int} (h:openE s dealer row pt c ≠ 0):openV s dealer row pt c = 0:=if_neg h
theorem openV_yes {s dealer row pt c:Int} (h:openE s dealer row pt c = 0):openV s dealer row pt c = opnV (powE pt s) dealer row c:=if_pos h
structure FWi7 (w0:World) (bb:Nat) (d:Int) (dealer:Int) (row:Int) (c:Int) (q1:Int) (pd:Int) (q2:Int) (q3:Int) (done:Nat → Bool) (v:Nat → Value) (w:World):Prop where
 b:Below w0.heap.size w0 w
 f0:done 0 = true → v 0 = .pointer (some ⟨bb,2,none⟩)
 f1:done 1 = true → v 1 = .int .i64 c
 f2:done 2 = true → v 2 = .int .i64 q1
 f3:done 3 = true → v 3 = .int .i64 d
 f4:done 4 = true → v 4 = .int .i64 dealer
 f5:done 5 = true → v 5 = .pointer (some ⟨bb,0,none⟩)
 f6:done 6 = true → v 6 = .int .i64 row
 f7:done 7 = true → v 7 = .int .i64 pd
 f8:done 8 = true → v 8 = .int .i64 q2
 f9:done 9 = true → v 9 = .int .i64 q3
 f10:done 10 = true → v 10 = .int .i64 q3
 f11:done 11 = true → v 11 = .int .i64 0
theorem rwith_any (d dealer row pt c:Int) (w:World) (hd:R64 d) (hl:R64 dealer) (hr:R64 row) (hp:R64 pt) :
  Calls Tryz.prog 67 #[.int .i64 d,.int .i64 dealer,.agg #[.int .i64 row,.int .i64 pt,.int .i64 c]] w fun r w' => r = .returned (.tuple #[.int .i64 (withV d dealer row pt c),.int .i64 (withE d dealer row pt c)]) ∧ Below w.heap.size w w':=by
 obtain ⟨hb,c0,c1,c2⟩:=cell_agg3 w row pt c 49
 obtain ⟨W1,hW1⟩:∃ W,W = w.alloc (.cells #[.int .i64 row,.int .i64 pt,.int .i64 c] 49):=⟨_,rfl⟩
 rw [← hW1] at hb c0 c1 c2
 have HB:=Lib.hid hb
 have HW1:=Lib.hid hW1
 have HPA:=Lib.hid (rpad_any d dealer row)
 have HRR:=Lib.hid (And.intro hd (And.intro hl hr))
 clear hb hW1
 go_enter Tryz.func67,Tryz.ntmps67
 go_wp2_with (rw [← HW1.out])
 with_reducible refine (rvalid_any d _ hd).mono ?_
 rintro e w2 ⟨rfl,rfl⟩
 cases e1:elB d with
 | false =>
  have HV:Hid (withE d dealer row pt c = 100):=Lib.hid (by unfold withE; rw [e1]; rfl)
  clear e1
  go_wp2_with fail
  go_ret2
  exact ⟨by rw [withV_no (by rw [HV.out]; decide),HV.out]; rfl,HB.out⟩
 | true =>
 go_wp2_with fail
 with_reducible refine (person35_any dealer _).mono ?_
 rintro e w2 ⟨rfl,rfl⟩
 cases e2:inB dealer 0 63 with
 | false =>
  have HV:Hid (withE d dealer row pt c = 1):=Lib.hid (by unfold withE; rw [e1,e2]; rfl)
  clear e1 e2
  go_wp2_with fail
  go_ret2
  exact ⟨by rw [withV_no (by rw [HV.out]; decide),HV.out]; rfl,HB.out⟩
 | true =>
 go_wp2_with fail
 with_reducible refine (right35_any row pt c _ hp).mono ?_
 rintro e w3 ⟨rfl,hb3⟩
 replace c0:=below_cell hb3 c0
 replace c1:=below_cell hb3 c1
 replace c2:=below_cell hb3 c2
 replace HB:=Lib.hid (HB.out.trans (hb3.mono HB.out.size))
 clear hb3 HW1
 cases e3:rightB row pt c with
 | false =>
  have HV:Hid (withE d dealer row pt c = 350):=Lib.hid (by unfold withE; rw [e1,e2,e3]; rfl)
  clear e1 e2 e3
  go_wp2_with fail
  go_ret2
  exact ⟨by rw [withV_no (by rw [HV.out]; decide),HV.out]; rfl,HB.out⟩
 | true =>
 have HV:Hid (withE d dealer row pt c = 0):=Lib.hid (by unfold withE; rw [e1,e2,e3]; rfl)
 have hcn:0 ≤ c ∧ c ≤ 1073741788:=by
  unfold rightB at e3
  rw [Bool.and_eq_true,Bool.and_eq_true] at e3
  exact inB_iff.1 e3.2.2
 have hpn:=padV_num d dealer row
 obtain ⟨pd,hpd⟩:∃ p,p = padV d dealer row:=⟨_,rfl⟩
 obtain ⟨q1,hq1⟩:∃ q,q = c + 1073741789:=⟨_,rfl⟩
 obtain ⟨q2,hq2⟩:∃ q,q = q1 - pd:=⟨_,rfl⟩
 obtain ⟨q3,hq3⟩:∃ q,q = q2 % 1073741789:=⟨_,rfl⟩
 rw [← hpd] at hpn HPA
 have HO:Hid (opnV d dealer row c = q3):=Lib.hid (by unfold opnV; rw [hq3,hq2,hq1,hpd]; congr 1; omega)
 have HPD:=Lib.hid (fun W (h:Below w3.heap.size w3 W) => HPA.out W (fun z hz => by
  simp only [List.mem_cons,List.not_mem_nil,or_false] at hz
  rcases hz with rfl | rfl | rfl
  ·exact HRR.out.1
  ·exact HRR.out.2.1
  ·exact HRR.out.2.2))
 have m1:IntKind.i64.wrap (c + 1073741789) = q1:=by rw [hq1]; exact IntWalk.i64_in _ (by omega)
 have m2:IntKind.i64.wrap (q1 - pd) = q2:=by rw [hq2]; exact IntWalk.i64_in _ (by omega)
 have m3:q2.tmod 1073741789 = q3:=by rw [hq3]; exact Int.tmod_eq_emod_of_nonneg (by omega)
 clear e1 e2 e3 hcn hpn hpd hq1 hq2 hq3 HPA
 go_wp2_with fail
 refine wp_region_flowsG (by kernel_rfl) (by kernel_rfl) (by kernel_rfl) (by kernel_rfl) (fun done v W => FWi7 w3 (w.heap.size) (d) (dealer) (row) (c) (q1) (pd) (q2) (q3) done v W) (fun v => ?_) ?_ (fun v W h => ?_)
 ·exact ⟨(Below.refl _ _).drew,(fun h => by cases h),(fun h => by cases h),(fun h => by cases h),(fun h => by cases h),(fun h => by cases h),(fun h => by cases h),(fun h => by cases h),(fun h => by cases h),(fun h => by cases h),(fun h => by cases h),(fun h => by cases h),(fun h => by cases h)⟩
 ·refine ⟨?_,?_,?_,?_,?_,?_,?_,?_,?_,?_,?_,?_,trivial⟩
  ·intro done v W A h hd hp hu hA hB hdf
   have e0:A.tmps[5]?.getD undef = .pointer (some ⟨w.heap.size,0,none⟩):=hB 5 rfl
   clear hA hB hp hu hdf
   go_simp
   exact ⟨_,rfl,{ h with f0:=(fun _ => rfl) }⟩
  ·intro done v W A h hd hp hu hA hB hdf
   have hd0:done 0 = true:=hp 0 rfl
   have e0:=(hA 0 17 rfl hd0).trans (h.f0 hd0)
   have y0_:=below_cell h.b c2
   clear hA hB hp hu hdf
   go_simp
   exact ⟨_,rfl,{ h with f1:=(fun _ => rfl) }⟩
  ·intro done v W A h hd hp hu hA hB hdf
   have hd1:done 1 = true:=hp 1 rfl
   have e0:=(hA 1 18 rfl hd1).trans (h.f1 hd1)
   clear hA hB hp hu hdf
   go_simp
   exact ⟨_,rfl,{ h with f2:=(fun _ => rfl) }⟩
  ·intro done v W A h hd hp hu hA hB hdf
   have e0:A.tmps[0]?.getD undef = .int .i64 d:=hB 0 rfl
   clear hA hB hp hu hdf
   go_simp
   exact ⟨_,rfl,{ h with f3:=(fun _ => rfl) }⟩
  ·intro done v W A h hd hp hu hA hB hdf
   have e0:A.tmps[1]?.getD undef = .int .i64 dealer:=hB 1 rfl
   clear hA hB hp hu hdf
   go_simp
   exact ⟨_,rfl,{ h with f4:=(fun _ => rfl) }⟩
  ·intro done v W A h hd hp hu hA hB hdf
   have e0:A.tmps[5]?.getD undef = .pointer (some ⟨w.heap.size,0,none⟩):=hB 5 rfl
   clear hA hB hp hu hdf
   go_simp
   exact ⟨_,rfl,{ h with f5:=(fun _ => rfl) }⟩
  ·intro done v W A h hd hp hu hA hB hdf
   have hd5:done 5 = true:=hp 5 rfl
   have e0:=(hA 5 22 rfl hd5).trans (h.f5 hd5)
   have y0_:=below_cell h.b c0
   clear hA hB hp hu hdf
   go_simp
   exact ⟨_,rfl,{ h with f6:=(fun _ => rfl) }⟩
  ·intro done v W A h hd hp hu hA hB hdf
   have hd3:done 3 = true:=hp 3 rfl
   have hd4:done 4 = true:=hp 4 rfl
   have hd6:done 6 = true:=hp 6 rfl
   have e0:=(hA 3 20 rfl hd3).trans (h.f3 hd3)
   have e1:=(hA 4 21 rfl hd4).trans (h.f4 hd4)
   have e2:=(hA 6 23 rfl hd6).trans (h.f6 hd6)
   clear hA hB hp hu hdf
   go_simp
   with_reducible refine (HPD.out W h.b).mono ?_
   rintro e wq ⟨rfl,hb⟩
   exact ⟨_,rfl,{ h with b:=h.b.trans (hb.mono h.b.size),f7:=(fun _ => rfl) }⟩
  ·intro done v W A h hd hp hu hA hB hdf
   have hd2:done 2 = true:=hp 2 rfl
   have hd7:done 7 = true:=hp 7 rfl
   have e0:=(hA 2 19 rfl hd2).trans (h.f2 hd2)
   have e1:=(hA 7 24 rfl hd7).trans (h.f7 hd7)
   clear hA hB hp hu hdf
   go_simp
   exact ⟨_,rfl,{ h with f8:=(fun _ => rfl) }⟩
  ·intro done v W A h hd hp hu hA hB hdf
   have hd8:done 8 = true:=hp 8 rfl
   have e0:=(hA 8 25 rfl hd8).trans (h.f8 hd8)
   clear hA hB hp hu hdf
   go_simp
   exact ⟨_,rfl,{ h with f9:=(fun _ => rfl) }⟩
  ·intro done v W A h hd hp hu hA hB hdf
   have hd9:done 9 = true:=hp 9 rfl
   have e0:=(hA 9 26 rfl hd9).trans (h.f9 hd9)
   clear hA hB hp hu hdf
   go_simp
   exact ⟨_,rfl,{ h with f10:=(fun _ => rfl) }⟩
  ·intro done v W A h hd hp hu hA hB hdf
   clear hA hB hp hu hdf
   go_simp
   exact ⟨_,rfl,{ h with f11:=(fun _ => rfl) }⟩
 simp only [putL,Act.put,Nat.reduceAdd,List.setIfInBounds_toArray,List.set_cons_zero,List.set_cons_succ]
 rw [h.f10 rfl]
 rw [h.f11 rfl]
 have hbr:=h.b
 replace HB:=Lib.hid (HB.out.trans (hbr.mono HB.out.size))
 clear h hbr HPD
 go_wp2_with fail
 go_ret2
 exact ⟨by rw [withV_yes HV.out,HV.out,HO.out]; rfl,HB.out⟩
theorem ropen_any (s dealer row pt c:Int) (w:World) (hs:R64 s) (hl:R64 dealer) (hr:R64 row) (hp:R64 pt) :
  Calls Tryz.prog 61 #[.int .i64 s,.int .i64 dealer,.agg #[.int .i64 row,.int .i64 pt,.int .i64 c]] w fun r w' => r = .returned (.tuple #[.int .i64 (openV s dealer row pt c),.int .i64 (openE s dealer row pt c)]) ∧ Below w.heap.size w w':=by
 obtain ⟨hb,c0,c1,c2⟩:=cell_agg3 w row pt c 49
 obtain ⟨W1,hW1⟩:∃ W,W = w.alloc (.cells #[.int .i64 row,.int .i64 pt,.int .i64 c] 49):=⟨_,rfl⟩
 rw [← hW1] at hb c0 c1 c2
 have HB:=Lib.hid hb
 have HW1:=Lib.hid hW1
 clear hb hW1
 go_enter Tryz.func61,Tryz.ntmps61
 go_wp2_with (rw [← HW1.out])
 with_reducible refine (secret35_any s _).mono ?_
 rintro e w2 ⟨rfl,rfl⟩
 cases e1:inB s 1 1073741788 with
 | false =>
  have HV:Hid (openE s dealer row pt c = 110):=Lib.hid (by unfold openE; rw [e1]; rfl)
  clear e1
  go_wp2_with fail
  go_ret2
  exact ⟨by rw [openV_no (by rw [HV.out]; decide),HV.out]; rfl,HB.out⟩
 | true =>
 go_wp2_with fail
 with_reducible refine (person35_any dealer _).mono ?_
 rintro e w2 ⟨rfl,rfl⟩
 cases e2:inB dealer 0 63 with
 | false =>
  have HV:Hid (openE s dealer row pt c = 1):=Lib.hid (by unfold openE; rw [e1,e2]; rfl)
  clear e1 e2
  go_wp2_with fail
  go_ret2
  exact ⟨by rw [openV_no (by rw [HV.out]; decide),HV.out]; rfl,HB.out⟩
 | true =>
 go_wp2_with fail
 with_reducible refine (right35_any row pt c _ hp).mono ?_
 rintro e w3 ⟨rfl,hb3⟩
 replace c0:=below_cell hb3 c0
 replace c1:=below_cell hb3 c1
 replace c2:=below_cell hb3 c2
 replace HB:=Lib.hid (HB.out.trans (hb3.mono HB.out.size))
 clear hb3 HW1
 cases e3:rightB row pt c with
 | false =>
  have HV:Hid (openE s dealer row pt c = 350):=Lib.hid (by unfold openE; rw [e1,e2,e3]; rfl)
  clear e1 e2 e3
  go_wp2_with fail
  go_ret2
  exact ⟨by rw [openV_no (by rw [HV.out]; decide),HV.out]; rfl,HB.out⟩
 | true =>
 have HV:Hid (openE s dealer row pt c = 0):=Lib.hid (by unfold openE; rw [e1,e2,e3]; rfl)
 have hel:El pt:=by
  unfold rightB at e3
  rw [Bool.and_eq_true,Bool.and_eq_true] at e3
  exact elB_iff.1 e3.2.1
 have HE:=Lib.hid (el_powE hel s)
 have HW0:Hid (withE (powE pt s) dealer row pt c = 0):=Lib.hid (by unfold withE; rw [elB_iff.2 (el_powE hel s),e2,e3]; rfl)
 clear e1 e2 e3
 obtain ⟨d,hd⟩:∃ d,d = powE pt s:=⟨_,rfl⟩
 have HPW:=Lib.hid (fun W => rpow_yes pt s W hel hs)
 rw [← hd] at HE HW0 HPW
 have HDD:=Lib.hid hd
 clear hd hel
 go_wp2_with fail
 with_reducible refine (HPW.out _).mono ?_
 rintro e w4 ⟨rfl,rfl⟩
 go_wp2_with fail
 with_reducible refine (rwith_any d dealer row pt c _ HE.out.r64 hl hr hp).mono ?_
 rintro e w5 ⟨rfl,hb5⟩
 rw [withV_yes HW0.out,HW0.out]
 go_wp2_with fail
 go_ret2
 exact ⟨by rw [openV_yes HV.out,HV.out,← HDD.out]; rfl,HB.out.trans (hb5.mono HB.out.size)⟩
end Go.Proofs.YtggnipkfliompaaGreatDoor
namespace Go.Proofs.YtggnipkfliompaaGreatDoor
open Go.RowKit
end Go.Proofs.YtggnipkfliompaaGreatDoor
namespace Go.Proofs.YtggnipkfliompaaGreatDoor
open Go.RowKit FP
end Go.Proofs.YtggnipkfliompaaGreatDoor
namespace Go.Proofs.YtggnipkfliompaaGreatDoor
open Go.RowKit FP
end Go.Proofs.YtggnipkfliompaaGreatDoor
namespace Go.Proofs.YtggnipkfliompaaGreatDoor
open Go.RowKit
theorem app_val_wp {o:Oper} {a:Act} {K:Act → World → Prop} {Q:Exit → Act → World → Prop} {W:World} (hgd:o.guard = none) (s x:Nat) (ho:o.op = .call { callee:=.builtin .append,args:=#[.tmp s,.tmp x],argTypes:=#[169,169] })
  (base:Nat) (v:Value) (zs:List Int) (n:Nat) (hs:a.tmps[s]?.getD undef = v) (hown:W.ownsRow base 171 4 v n (zs.flatMap valC)) (b c:Nat) (z:Int) (hx:a.tmps[x]?.getD undef = .slice (some ⟨b,0,none⟩) 1 c) (hcell:∀ j u,(valC z)[j]? = some u → W.cell? ⟨b,j,none⟩ = some u) (hn:n ≤ 1000000) (hbase:base ≤ W.heap.size)
  (h:∀ g cap w',w'.ownsRow base 171 4 (.slice (some ⟨g,0,none⟩) (n + 1) cap) (n + 1) ((zs ++ [z]).flatMap valC) → Onto W v w' (.slice (some ⟨g,0,none⟩) (n + 1) cap) → K (a.put o.dst (.slice (some ⟨g,0,none⟩) (n + 1) cap)) w') :
  Oper.wp Tryz.prog o a W K Q:=by
 have h1:=step_app_val (ops:=#[]) (E:=False) (Q:=Q) hgd (.tmp s) (.tmp x) ho base v zs n (by rw [← hs]; exact Array.getD_eq_getD_getElem?) hown b c z (by rw [← hx]; exact Array.getD_eq_getD_getElem?) hcell hn hbase h
 rw [if_pos (by unfold Region.wanted; rw [hgd])] at h1
 exact h1
def ValBox (w:World) (v:Value) (z:Int):Prop:=∃ b c,v = .slice (some ⟨b,0,none⟩) 1 c ∧ ∀ j u,(valC z)[j]? = some u → w.cell? ⟨b,j,none⟩ = some u
theorem ValBox.below {w w':World} {v:Value} {z:Int} (h:ValBox w v z) (hb:Below w.heap.size w w'):ValBox w' v z:=by
 obtain ⟨b,c,e,hc⟩:=h
 exact ⟨b,c,e,fun j u hj => below_cell hb (hc j u hj)⟩
theorem ValBox.new (W:World) (z:Int):ValBox (W.alloc (.cells #[.int .i64 1,.int .i64 z,.string ⟨#[]⟩,.slice none 0 0] 171)) (.slice (some ⟨W.heap.size,0,none⟩) 1 1) z:=
 ⟨W.heap.size,1,rfl,fun j u hj => row_cell (World.alloc_heap_new _ _) (by
  match j with
  | 0 | 1 | 2 | 3 => exact hj
  | n + 4 => simp [valC] at hj)⟩
structure AppV (bb:Nat) (L:Value) (k:Nat) (xs:List Int) (z:Int) (d8 d10:Bool) (v8:Value) (W:World):Prop where
 row:W.heap[bb]? = some (.cells #[.int .i64 3,.int .i64 0,.string ⟨#[]⟩,if d10 = true then v8 else L] 171 (0,0))
 own0:d8 = false → W.ownsRow (bb + 1) 171 4 L k (xs.flatMap valC)
 own1:d8 = true → W.ownsRow (bb + 1) 171 4 v8 (k + 1) ((xs ++ [z]).flatMap valC)
 val:d8 = true → ∃ g cap,v8 = .slice (some ⟨g,0,none⟩) (k + 1) cap
 big:bb < W.heap.size
section
variable {bb k:Nat} {L v8:Value} {xs:List Int} {z:Int} {d8 d10:Bool} {W W':World}
theorem AppV.below (h:AppV bb L k xs z d8 d10 v8 W) (hb:Below W.heap.size W W'):AppV bb L k xs z d8 d10 v8 W':=
 ⟨(hb.block _ h.big).trans h.row,fun e => own_keep (h.own0 e) hb,fun e => own_keep (h.own1 e) hb,h.val,Nat.lt_of_lt_of_le h.big hb.size⟩
theorem AppV.cell (h:AppV bb L k xs z d8 d10 v8 W) (e:d10 = false):W.cell? ⟨bb,3,none⟩ = some L:=row_cell h.row (by rw [e]; rfl)
theorem AppV.app (h:AppV bb L k xs z d8 d10 v8 W) (e:d8 = false) (e2:d10 = false) {g cap:Nat} (h8:W'.ownsRow (bb + 1) 171 4 (.slice (some ⟨g,0,none⟩) (k + 1) cap) (k + 1) ((xs ++ [z]).flatMap valC)) (o8:Onto W L W' (.slice (some ⟨g,0,none⟩) (k + 1) cap)) :
  AppV bb L k xs z true d10 (.slice (some ⟨g,0,none⟩) (k + 1) cap) W':=by
 have h1:=h.row
 rw [e2] at h1
 refine ⟨?_,(fun e => by cases e),fun _ => h8,fun _ => ⟨_,_,rfl⟩,Nat.lt_of_lt_of_le h.big o8.1.size⟩
 rw [e2]
 exact (o8.1.block _ h.big (fun e3 => own_ne (h.own0 e) (b:=bb) (.inr (Nat.lt_succ_self _)) e3.symm)).trans h1
theorem AppV.store (h:AppV bb L k xs z d8 d10 v8 W) (e:d8 = true) (e2:d10 = false):AppV bb L k xs z d8 true v8 (W.setCell ⟨bb,3,none⟩ v8):=by
 have h1:=h.row
 rw [e2] at h1
 refine ⟨row_set h1 3 v8,(fun e3 => by rw [e] at e3; cases e3),fun _ => own_keep_set (h.own1 e) (Nat.lt_succ_self _) _,h.val,by simpa using h.big⟩
end
theorem set_ne36 {B K k:Nat} {W:World} (hk:K ≠ B) (a:Value):(W.setCell ⟨B,k,none⟩ a).heap[K]? = W.heap[K]?:=Below.heap_setCell _ _ _ _ hk
structure FIn5 (w0:World) (bb:Nat) (lst:Value) (L:Value) (k:Nat) (xs:List Int) (z:Int) (ab:Nat) (ao:Nat) (done:Nat → Bool) (v:Nat → Value) (w:World):Prop where
 b:Below bb w0 w
 f0:done 0 = true → v 0 = .pointer (some ⟨bb,3,none⟩)
 f1:done 1 = true → v 1 = L
 f2:done 2 = true → v 2 = lst
 f3:done 3 = true → v 3 = .int .i64 (k:Int)
 f4:done 4 = true → v 4 = .pointer (some ⟨ab,ao + k,none⟩)
 f5:done 5 = true → v 5 = .int .i64 z
 f6:done 6 = true → v 6 = .agg #[.int .i64 1,.int .i64 z,.string ⟨#[]⟩,.slice none 0 0]
 f7:done 7 = true → done 8 = false → ValBox w (v 7) z
 f9:done 9 = true → v 9 = .pointer (some ⟨bb,3,none⟩)
 bx:AppV bb L k xs z (done 8) (done 10) (v 8) w
 zc:done 8 = false → w.cell? ⟨ab,ao + k,none⟩ = some (.int .i64 z)
def IntsI (w:World) (zs:List Int) (k:Nat) (W:World):Prop:=∃ L,W.heap[w.heap.size + 1]? = some (.cells #[.int .i64 3,.int .i64 0,.string ⟨#[]⟩,L] 171 (0,0)) ∧
 W.ownsRow (w.heap.size + 2) 171 4 L k ((zs.take k).flatMap valC) ∧ W.heap[w.heap.size]? = some (.cells #[.int .i64 0,.int .i64 0,.string ⟨#[]⟩,.slice none 0 0] 171 (0,0)) ∧ Below w.heap.size w W
theorem rInts_any (v:Value) (zs:List Int) (w:World) (hI:Ints w v zs) (hl:zs.length ≤ 1000) :
  Calls Tryz.prog 191 #[v] w fun e w' => ∃ lv,e = .returned (vList lv) ∧ Vals w' lv zs ∧ Below w.heap.size w w':=by
 obtain ⟨a,cap,rfl,hcap,hlen,hr,hk⟩:=hI
 have HR:=Lib.hid hr
 have HK:=Lib.hid hk
 clear hr hk
 obtain ⟨W1,hW1,hb1,hr1⟩:=boxed4 w (.int .i64 0) (.int .i64 0) (.string ⟨#[]⟩) (.slice none 0 0) 171
 obtain ⟨W2,hW2,hb2,hr2⟩:=boxed4 W1 (.int .i64 0) (.int .i64 0) (.string ⟨#[]⟩) (.slice none 0 0) 171
 have hs1:W1.heap.size = w.heap.size + 1:=by rw [hW1]; simp
 have hr1':=(hb2.block _ (row_lt hr1)).trans hr1
 rw [hs1] at hr2
 have HB2:Hid (Below w.heap.size w W2):=Lib.hid (hb1.trans (hb2.mono (Nat.le_of_lt (row_lt hr1))))
 rw [hW1] at hW2
 have HW2:=Lib.hid hW2
 have HR1:=Lib.hid hr1'
 have HR2:=Lib.hid hr2
 clear hW1 hW2 hb1 hb2 hr1 hr1' hr2 hs1
 go_enter Tryz.func191,Tryz.ntmps191
 have y0:=row_cell HR2.out (k:=0) rfl
 have y1:=row_cell HR2.out (k:=1) rfl
 have y2:=row_cell HR2.out (k:=2) rfl
 have y3:=row_cell HR2.out (k:=3) rfl
 have g0:=row_free HR2.out 0
 have g1:=row_free HR2.out 1
 have g2:=row_free HR2.out 2
 have g3:=row_free HR2.out 3
 go_wp2_with (rw [← HW2.out])
 have h00:IntsI w zs 0 ((((W2.setCell ⟨w.heap.size + 1,0,none⟩ (.int .i64 3)).setCell ⟨w.heap.size + 1,1,none⟩ (.int .i64 0)).setCell ⟨w.heap.size + 1,2,none⟩ (.string ⟨#[]⟩)).setCell ⟨w.heap.size + 1,3,none⟩ (.slice none 0 0)):=
  ⟨_,row_set (row_set (row_set (row_set HR2.out 0 (.int .i64 3)) 1 (.int .i64 0)) 2 (.string ⟨#[]⟩)) 3 (.slice none 0 0),World.ownsRow_nil _ _ _ _,((((set_ne36 (by omega) _).trans (set_ne36 (by omega) _)).trans (set_ne36 (by omega) _)).trans (set_ne36 (by omega) _)).trans HR1.out,
   (((HB2.out.setCell (Nat.le_succ _) _).setCell (Nat.le_succ _) _).setCell (Nat.le_succ _) _).setCell (Nat.le_succ _) _⟩
 clear y0 y1 y2 y3 g0 g1 g2 g3
 go_loopw [4] (fun i W => ∃ k:Nat,k ≤ zs.length ∧ i = .int .i64 k ∧ IntsI w zs k W) (fun i _ => zs.length - (intOf i).toNat)
 case atStart => exact ⟨0,Nat.zero_le _,rfl,h00⟩
 case round =>
  clear h00 HB2 HW2 HR1 HR2
  obtain ⟨k,hkl,rfl,L,hrow,hown,hres,hbe⟩:=hrel
  have hbx:=row_lt hrow
  by_cases hlt:k < zs.length
  ·obtain ⟨ab,ao,rfl,q1⟩:=HK.out k hlt
   have hz:=HR.out _ (List.getElem_mem hlt)
   have c1:=below_cell hbe q1
   have HT:=Lib.hid (show zs.take k ++ [zs[k]] = zs.take (k + 1) from (List.take_succ_eq_append_getElem hlt).symm)
   generalize zs[k] = z at *
   have HIN:=Lib.hid (fun W => rInt_any z W)
   unfold vInt at HIN
   have HKL:Hid (k ≤ 1000000):=Lib.hid (by omega)
   have hx0:∀ v8,AppV (w.heap.size + 1) L k (zs.take k) z false false v8 wr.drew:=fun v8 => ⟨hrow,fun _ => hown.drew,(fun e => by cases e),(fun e => by cases e),hbx⟩
   have HX0:=Lib.hid hx0
   have HC1:Hid (wr.drew.cell? ⟨ab,ao + k,none⟩ = some (.int .i64 z)):=Lib.hid c1
   have HRES:=Lib.hid hres
   have HBE:=Lib.hid hbe
   have hk0:(0:Int) ≤ (k:Int):=Int.natCast_nonneg k
   have hk1:(k:Int) < (zs.length:Int):=by omega
   have hk2:k ≤ 1000:=by omega
   clear q1 hown hrow hres hbe c1 hx0 hz hbx
   go_wp2_with fail
   refine wp_region_flowsG (by kernel_rfl) (by kernel_rfl) (by kernel_rfl) (by kernel_rfl) (fun done v W => FIn5 wr ((w.heap.size + 1)) (.slice (some ⟨ab,ao,none⟩) zs.length cap) (L) (k) ((zs.take k)) (z) (ab) (ao) done v W) (fun v => ?_) ?_ (fun v W h => ?_)
   ·exact ⟨(Below.refl _ _).drew,(fun h => by cases h),(fun h => by cases h),(fun h => by cases h),(fun h => by cases h),(fun h => by cases h),(fun h => by cases h),(fun h => by cases h),(fun h => by cases h),(fun h => by cases h),(HX0.out _),(fun _ => HC1.out)⟩
   ·refine ⟨?_,?_,?_,?_,?_,?_,?_,?_,?_,?_,?_,trivial⟩
    ·intro done v W A h hd hp hu hA hB hdf
     have e0:A.tmps[3]?.getD undef = .pointer (some ⟨(w.heap.size + 1),0,none⟩):=hB 3 rfl
     clear hA hB hp hu hdf
     go_simp
     exact ⟨_,rfl,{ h with f0:=(fun _ => rfl) }⟩
    ·intro done v W A h hd hp hu hA hB hdf
     have n10_1:done 10 = false:=flow_not (fun hj => hu 10 1 rfl (hj)) hd
     have hd0:done 0 = true:=hp 0 rfl
     have e0:=(hA 0 12 rfl hd0).trans (h.f0 hd0)
     have y0_:=h.bx.cell n10_1
     clear hA hB hp hu hdf
     go_simp
     exact ⟨_,rfl,{ h with f1:=(fun _ => rfl) }⟩
    ·intro done v W A h hd hp hu hA hB hdf
     have e0:A.tmps[0]?.getD undef = .slice (some ⟨ab,ao,none⟩) zs.length cap:=hB 0 rfl
     clear hA hB hp hu hdf
     go_simp
     exact ⟨_,rfl,{ h with f2:=(fun _ => rfl) }⟩
    ·intro done v W A h hd hp hu hA hB hdf
     have e0:A.tmps[4]?.getD undef = .int .i64 (k:Int):=hB 4 rfl
     clear hA hB hp hu hdf
     go_simp
     exact ⟨_,rfl,{ h with f3:=(fun _ => rfl) }⟩
    ·intro done v W A h hd hp hu hA hB hdf
     have hd2:done 2 = true:=hp 2 rfl
     have hd3:done 3 = true:=hp 3 rfl
     have e0:=(hA 2 14 rfl hd2).trans (h.f2 hd2)
     have e1:=(hA 3 15 rfl hd3).trans (h.f3 hd3)
     clear hA hB hp hu hdf
     go_simp
     exact ⟨_,rfl,{ h with f4:=(fun _ => rfl) }⟩
    ·intro done v W A h hd hp hu hA hB hdf
     have n8_5:done 8 = false:=flow_not (fun hj => hu 6 5 rfl (hu 8 6 rfl (hj))) hd
     have hd4:done 4 = true:=hp 4 rfl
     have e0:=(hA 4 16 rfl hd4).trans (h.f4 hd4)
     have y0_:=h.zc n8_5
     clear hA hB hp hu hdf
     go_simp
     exact ⟨_,rfl,{ h with f5:=(fun _ => rfl) }⟩
    ·intro done v W A h hd hp hu hA hB hdf
     have hd5:done 5 = true:=hp 5 rfl
     have e0:=(hA 5 17 rfl hd5).trans (h.f5 hd5)
     clear hA hB hp hu hdf
     go_simp
     with_reducible refine (HIN.out W).mono ?_
     rintro e wq ⟨rfl,hb⟩
     exact ⟨_,rfl,{ h with b:=h.b.trans (hb.mono (Nat.le_of_lt h.bx.big)),f6:=(fun _ => rfl),f7:=(fun h1 h2 => (h.f7 h1 h2).below hb),bx:=(h.bx.below hb),zc:=((fun h1 => below_cell hb (h.zc h1))) }⟩
    ·intro done v W A h hd hp hu hA hB hdf
     have hd6:done 6 = true:=hp 6 rfl
     have e0:=(hA 6 18 rfl hd6).trans (h.f6 hd6)
     have hb:=below_new W #[.int .i64 1,.int .i64 z,.string ⟨#[]⟩,.slice none 0 0] 171
     clear hA hB hp hu hdf
     go_simp
     exact ⟨_,rfl,{ h with b:=h.b.trans (hb.mono (Nat.le_of_lt h.bx.big)),f7:=(fun _ _ => ValBox.new W z),bx:=(h.bx.below hb),zc:=((fun h1 => below_cell hb (h.zc h1))) }⟩
    ·intro done v W A h hd hp hu hA hB hdf
     have n10_8:done 10 = false:=flow_not (fun hj => hu 10 8 rfl (hj)) hd
     have hd1:done 1 = true:=hp 1 rfl
     have hd7:done 7 = true:=hp 7 rfl
     have m7:=h.f7 hd7 hd
     obtain ⟨b7,c7,e7,hc7⟩:=m7
     have e1:=(hA 1 13 rfl hd1).trans (h.f1 hd1)
     have e2:=(hA 7 19 rfl hd7).trans e7
     have ow:=h.bx.own0 hd
     have hbg:=h.bx.big
     have bx0:=h.bx
     refine app_val_wp rfl _ _ rfl (w.heap.size + 1 + 1) L (zs.take k) k e1 ow b7 c7 z e2 hc7 HKL.out hbg ?_
     intro g cap8 w8 h8 o8
     have bx8:=bx0.app hd n10_8 h8 o8
     exact ⟨_,rfl,{ h with b:=h.b.trans ((own_below ow o8.1 hbg).mono (Nat.le_succ _)),f7:=(fun _ h2 => absurd (show true = false from h2) (by decide)),bx:=(bx8),zc:=((fun h1 => by cases h1)) }⟩
    ·intro done v W A h hd hp hu hA hB hdf
     have e0:A.tmps[3]?.getD undef = .pointer (some ⟨(w.heap.size + 1),0,none⟩):=hB 3 rfl
     clear hA hB hp hu hdf
     go_simp
     exact ⟨_,rfl,{ h with f9:=(fun _ => rfl) }⟩
    ·intro done v W A h hd hp hu hA hB hdf
     have hd8:done 8 = true:=hp 8 rfl
     have hd9:done 9 = true:=hp 9 rfl
     have bx0:=h.bx
     obtain ⟨g8,c8,e8⟩:=bx0.val hd8
     have e1:=(hA 9 21 rfl hd9).trans (h.f9 hd9)
     have e2:=(hA 8 20 rfl hd8).trans e8
     have u3:=bx0.cell hd
     have g3:=row_free bx0.row 3
     have bx9:=bx0.store hd8 hd
     clear hA hB hp hu hdf
     go_simp
     rw [← e8]
     exact ⟨undef,{ h with b:=h.b.setCell (Nat.le_refl _) _,f7:=(fun _ h2 => absurd (hd8.symm.trans h2) (by decide)),bx:=(bx9),zc:=((fun h1 => absurd (hd8.symm.trans h1) (by decide))) }⟩
   simp only [putL,Act.put,Nat.reduceAdd,List.setIfInBounds_toArray,List.set_cons_zero,List.set_cons_succ]
   have hbr:=h.b
   have hx1:=h.bx
   obtain ⟨g8,c8,e8⟩:=hx1.val rfl
   have h1:=hx1.row
   rw [if_pos (by rfl),e8] at h1
   have h2:=hx1.own1 rfl
   rw [HT.out,e8] at h2
   have HN:Hid (IntsI w zs (k + 1) W):=Lib.hid ⟨_,h1,h2,(hbr.block _ (Nat.lt_succ_self _)).trans HRES.out,HBE.out.trans (hbr.mono (Nat.le_of_lt (Nat.lt_succ_self _)))⟩
   go_wp2_with fail
   go_roundw
   case rel => exact ⟨k + 1,by omega,by go_num,HN.out⟩
   case measure => simp [intOf]; omega
  ·have hk2:k = zs.length:=by omega
   rw [hk2,List.take_length] at hown
   have hVl:=Lib.hid (Vals.own hown HR.out (by omega))
   have x0:=row_cell hrow (k:=0) rfl
   have x1:=row_cell hrow (k:=1) rfl
   have x2:=row_cell hrow (k:=2) rfl
   have x3:=row_cell hrow (k:=3) rfl
   have y0:=row_cell hres (k:=0) rfl
   have y1:=row_cell hres (k:=1) rfl
   have y2:=row_cell hres (k:=2) rfl
   have y3:=row_cell hres (k:=3) rfl
   have g0:=row_free hres 0
   have g1:=row_free hres 1
   have g2:=row_free hres 2
   have g3:=row_free hres 3
   have hdt:decide ((k:Int) < (zs.length:Int)) = false:=decide_eq_false (by omega)
   obtain ⟨aL,cL,hLe,-⟩:=id hVl.out
   subst hLe
   have hq:=row_set (row_set (row_set (row_set hres 0 (.int .i64 3)) 1 (.int .i64 0)) 2 (.string ⟨#[]⟩)) 3 (.slice aL zs.length cL)
   have HBQ:=Lib.hid ((((hbe.setCell (p:=⟨w.heap.size,0,none⟩) (Nat.le_refl _) (.int .i64 3)).setCell (p:=⟨w.heap.size,1,none⟩) (Nat.le_refl _) (.int .i64 0)).setCell (p:=⟨w.heap.size,2,none⟩) (Nat.le_refl _) (.string ⟨#[]⟩)).setCell (p:=⟨w.heap.size,3,none⟩) (Nat.le_refl _) (.slice aL zs.length cL))
   have hlt2:w.heap.size < w.heap.size + 2:=by omega
   have HVQ:=Lib.hid (Vals.own (own_keep_set (own_keep_set (own_keep_set (own_keep_set hown hlt2 (o:=0) (.int .i64 3)) hlt2 (o:=1) (.int .i64 0)) hlt2 (o:=2) (.string ⟨#[]⟩)) hlt2 (o:=3) (.slice aL zs.length cL)) HR.out (by omega))
   have p0:=row_cell hq (k:=0) (v:=.int .i64 3) rfl
   have p1:=row_cell hq (k:=1) (v:=.int .i64 0) rfl
   have p2:=row_cell hq (k:=2) (v:=.string ⟨#[]⟩) rfl
   have p3:=row_cell hq (k:=3) (v:=.slice aL zs.length cL) rfl
   clear hq hlt2
   clear hown hrow hk2
   go_wp2_with fail
   refine bodyPost_ret (v:=.agg #[.int .i64 3,.int .i64 0,.string ⟨#[]⟩,.slice aL zs.length cL]) ?_ rfl ⟨_,rfl,HVQ.out,HBQ.out⟩
   simp [results,Tryz.results191,go_sem,p0,p1,p2,p3]
end Go.Proofs.YtggnipkfliompaaGreatDoor
