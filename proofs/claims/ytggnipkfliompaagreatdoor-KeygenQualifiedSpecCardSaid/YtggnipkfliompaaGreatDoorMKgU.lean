/- The laws of keygen: the examples hold (sane). -/
import Derived.Test.YtggnipkfliompaaGreatDoorMKgT
import Derived.Test.YtggnipkfliompaaGreatDoorMRdB
import Derived.Test.YtggnipkfliompaaGreatDoorMKgJ
import Derived.Test.YtggnipkfliompaaGreatDoorMKgS
set_option maxHeartbeats 16000000
set_option maxRecDepth 100000
namespace Go.Proofs.YtggnipkfliompaaGreatDoor
open Go.RowKit FP
theorem new1 (w:World) (x:Int) (hx:R64 x):∃ W,W = w.alloc (.cells #[.int .i64 x] 3) ∧ Below w.heap.size w W ∧ Ints W (.slice (some ⟨w.heap.size,0,none⟩) 1 1) [x] ∧ W.heap.size = w.heap.size + 1:=
 ⟨_,rfl,below_new _ _ _,ints_of1 (row_cell (World.alloc_heap_new _ _) rfl) hx (Nat.le_refl _),by simp⟩
theorem new2 (w:World) (x y:Int) (hx:R64 x) (hy:R64 y):∃ W,W = (w.alloc (.cells #[.int .i64 x] 3)).alloc (.cells #[.int .i64 y] 3) ∧ Below w.heap.size w W ∧ Ints W (.slice (some ⟨w.heap.size,0,none⟩) 1 1) [x] ∧ Ints W (.slice (some ⟨w.heap.size + 1,0,none⟩) 1 1) [y]:=by
 obtain ⟨A,hA,hb,hi,hs⟩:=new1 w x hx
 obtain ⟨B,hB,hb2,hi2,-⟩:=new1 A y hy
 exact ⟨B,by rw [hB,hA],hb.trans (hb2.mono hb.size),hi.below hb2,by rw [hs] at hi2; exact hi2⟩
theorem newD (w:World) (d:Dlg) (cv pv:Value) (hr:R64 d.dealer) (hc:Ints w cv d.cs) (hp:Parcels w pv d.ps):∃ W,W = w.alloc (.cells #[.int .i64 d.dealer,cv,pv] 28) ∧ Below w.heap.size w W ∧ W.heap[w.heap.size]? = some (.cells #[.int .i64 d.dealer,cv,pv] 28 (0,0)) ∧ Dlgs W (.slice (some ⟨w.heap.size,0,none⟩) 1 1) [d] (fun _ => (cv,pv)):=by
 have h:=World.alloc_heap_new w (.cells #[.int .i64 d.dealer,cv,pv] 28)
 have hb:=below_new w #[.int .i64 d.dealer,cv,pv] 28
 refine ⟨_,rfl,hb,h,⟨_,1,rfl,Nat.le_refl _,by simp,fun k hk => ?_⟩⟩
 obtain rfl:k = 0:=by simp at hk; omega
 exact ⟨_,_,rfl,row_cell h rfl,row_cell h rfl,row_cell h rfl,hr,hc.below hb,hp.below hb⟩
theorem newK (w:World) (e rv ov cv:Value):∃ W,W = w.alloc (.cells #[e,rv,ov,cv] 64) ∧ Below w.heap.size w W ∧ W.heap[w.heap.size]? = some (.cells #[e,rv,ov,cv] 64 (0,0)):=
 ⟨_,rfl,below_new _ _ _,World.alloc_heap_new _ _⟩
theorem alone37_any (w:World) :
  Calls Tryz.prog 83 #[] w fun r w' => ∃ a c b d,r = .returned (.agg #[.slice a 1 c,.slice b 1 d]) ∧ Rows2 w' (.slice a 1 c) R37 ∧ Ints w' (.slice b 1 d) O37 ∧ Below w.heap.size w w':=by
 have H0:=Lib.hid (show R64 0 from R64.mk (by omega) (by omega))
 have H1:=Lib.hid (show R64 1 from R64.mk (by omega) (by omega))
 go_enter Tryz.func83,Tryz.ntmps83
 go_wp2_with fail
 refine bodyPost_ret (v:=.agg #[.slice (some ⟨w.heap.size + 1 + 1,0,none⟩) 1 1,.slice (some ⟨w.heap.size + 1 + 1 + 1,0,none⟩) 1 1]) (by simp [results,Tryz.results83,go_sem]) rfl ?_
 refine ⟨_,_,_,_,rfl,rows_of1 (r:=.slice (some ⟨w.heap.size + 1,0,none⟩) 1 1) (by simp [go_sem]) (ints_of1 (by simp [go_sem]) H1.out (Nat.le_refl _)) (Nat.le_refl _),ints_of1 (by simp [go_sem]) H0.out (Nat.le_refl _),?_⟩
 repeat (first | exact Below.refl _ _ | refine Below.setCell ?_ (by simp; try omega) _ | refine Below.alloc ?_ (by simp; try omega) _ | refine Below.drew ?_)
theorem sane37_any (w:World) (hG:Glob w) :
  Calls Tryz.prog 24 #[] w fun r w' => r = .returned (.bool true) ∧ Below w.heap.size w w':=by
 have HB:=Lib.hid (Below.refl w.heap.size w)
 have H64:=Lib.hid (fun (z:Int) (h:-2000 ≤ z ∧ z ≤ 2000) => (by unfold R64; omega:R64 z))
 have HG:=Lib.hid (fun W (h:Below w.heap.size w W) => hG.below h)
 clear hG
 go_enter Tryz.func24,Tryz.ntmps24
 go_wp2_with fail
 with_reducible refine (alone37_any _).mono ?_
 rintro e w1 ⟨a1,k1,a2,k2,rfl,hr,ho,hb1⟩
 replace HB:=Lib.hid (HB.out.trans (hb1.mono HB.out.size))
 have HR:=Lib.hid hr
 have HO:=Lib.hid ho
 obtain ⟨W2,hW2,hb2,hr2,-⟩:=box_prog w1 (.slice a1 1 k1) (.slice a2 1 k2) 25
 have HW2:=Lib.hid hW2
 have c0:=row_cell hr2 (k:=0) (v:=.slice a1 1 k1) rfl
 have c1:=row_cell hr2 (k:=1) (v:=.slice a2 1 k2) rfl
 replace HB:=Lib.hid (HB.out.trans (hb2.mono HB.out.size))
 replace HR:=Lib.hid (HR.out.below hb2)
 replace HO:=Lib.hid (HO.out.below hb2)
 clear hb1 hr ho hW2 hb2 hr2
 go_wp2_with (rw [← HW2.out])
 clear HW2
 have HK37:Hid (K37 = [powE 4 7]):=Lib.hid rfl
 have HKR:Hid (R64 (powE 4 7)):=Lib.hid (el_powE el_four _).r64
 with_reducible refine (pow_yes 4 7 _ el_four (H64.out _ (by omega))).mono ?_
 rintro e w3 ⟨rfl,hb3⟩
 replace c0:=below_cell hb3 c0
 replace c1:=below_cell hb3 c1
 replace HR:=Lib.hid (HR.out.below hb3)
 replace HO:=Lib.hid (HO.out.below hb3)
 replace HB:=Lib.hid (HB.out.trans (hb3.mono HB.out.size))
 clear hb3
 generalize powE 4 7 = K at *
 obtain ⟨W4,hW4,hb4,hu4,-⟩:=new1 w3 3 (H64.out _ (by omega))
 have HW4:=Lib.hid hW4
 have hu:=Lib.hid hu4
 have oc0:=c0
 have oc1:=c1
 replace c0:=below_cell hb4 c0
 replace c1:=below_cell hb4 c1
 replace HR:=Lib.hid (HR.out.below hb4)
 replace HO:=Lib.hid (HO.out.below hb4)
 replace HB:=Lib.hid (HB.out.trans (hb4.mono HB.out.size))
 clear hb4
 clear hW4 hu4
 go_wp2_with (rw [← HW4.out])
 clear HW4
 clear oc0 oc1
 with_reducible refine (kDeal_any _ _ _ _ _ R37 O37 [] 0 5 [] [3] _ (HG.out _ HB.out) HR.out HO.out (Ints.nil _ _ _) (H64.out _ (by omega)) (H64.out _ (by omega)) (Ints.nil _ _ _) hu.out).mono ?_
 rintro e w5 ⟨v,rfl,⟨cv,pv,rfl,hdr,hcv,hpv⟩,hb5⟩
 clear hu
 replace c0:=below_cell hb5 c0
 replace c1:=below_cell hb5 c1
 replace HR:=Lib.hid (HR.out.below hb5)
 replace HO:=Lib.hid (HO.out.below hb5)
 replace HB:=Lib.hid (HB.out.trans (hb5.mono HB.out.size))
 clear hb5
 rw [ex37_1.1]
 obtain ⟨ac,cc,rfl,-⟩:=id hcv
 obtain ⟨ap,cp,rfl,-⟩:=id hpv
 obtain ⟨W6,hW6,hbW6,hrW6,-⟩:=newD w5 (kdD R37 O37 [] 0 5 [] [3]) _ _ hdr hcv hpv
 have HW6:=Lib.hid hW6
 have oc0:=c0
 have oc1:=c1
 replace c0:=below_cell hbW6 c0
 replace c1:=below_cell hbW6 c1
 replace HR:=Lib.hid (HR.out.below hbW6)
 replace HO:=Lib.hid (HO.out.below hbW6)
 replace HB:=Lib.hid (HB.out.trans (hbW6.mono HB.out.size))
 clear hbW6
 obtain ⟨W7,hW7,hbW7,hkW7,huW7⟩:=new2 W6 K 3 HKR.out (H64.out _ (by omega))
 have HW7:=Lib.hid hW7
 have hu:=Lib.hid huW7
 have hk:=Lib.hid hkW7
 have pc0:=c0
 have pc1:=c1
 replace c0:=below_cell hbW7 c0
 replace c1:=below_cell hbW7 c1
 replace HR:=Lib.hid (HR.out.below hbW7)
 replace HO:=Lib.hid (HO.out.below hbW7)
 replace HB:=Lib.hid (HB.out.trans (hbW7.mono HB.out.size))
 clear hbW7
 clear hdr hcv hpv hW6 hrW6 hW7 hkW7 huW7
 go_wp2_with (first | rw [← HW7.out] | rw [← HW6.out])
 clear HW6 HW7
 clear pc0 pc1
 clear oc0 oc1
 with_reducible refine (kDeal_any _ _ _ _ _ R37 O37 [K] 2 5 [] [3] _ (HG.out _ HB.out) HR.out HO.out hk.out (H64.out _ (by omega)) (H64.out _ (by omega)) (Ints.nil _ _ _) hu.out).mono ?_
 rintro e w8 ⟨v,rfl,⟨cv,pv,rfl,hdr,hcv,hpv⟩,hb8⟩
 clear hu
 replace c0:=below_cell hb8 c0
 replace c1:=below_cell hb8 c1
 replace HR:=Lib.hid (HR.out.below hb8)
 replace HO:=Lib.hid (HO.out.below hb8)
 replace HB:=Lib.hid (HB.out.trans (hb8.mono HB.out.size))
 clear hb8
 rw [← HK37.out] at hdr hcv hpv ⊢
 rw [ex37_2]
 obtain ⟨ac,cc,rfl,-⟩:=id hcv
 obtain ⟨ap,cp,rfl,-⟩:=id hpv
 clear hk
 rw [show kdD R37 O37 K37 2 5 [] [3] = D37 from rfl] at hdr hcv hpv ⊢
 have HDR:=Lib.hid hdr
 obtain ⟨W9,hW9,hbW9,hrW9,-⟩:=newD w8 D37 _ _ hdr hcv hpv
 have HW9:=Lib.hid hW9
 have HC6:=Lib.hid (hcv.below hbW9)
 have HP6:=Lib.hid (hpv.below hbW9)
 have oc0:=c0
 have oc1:=c1
 replace c0:=below_cell hbW9 c0
 replace c1:=below_cell hbW9 c1
 replace HR:=Lib.hid (HR.out.below hbW9)
 replace HO:=Lib.hid (HO.out.below hbW9)
 replace HB:=Lib.hid (HB.out.trans (hbW9.mono HB.out.size))
 clear hbW9
 have q0:=row_cell hrW9 (k:=0) rfl
 have q1:=row_cell hrW9 (k:=1) rfl
 have q2:=row_cell hrW9 (k:=2) rfl
 have oq0:=q0
 have oq1:=q1
 have oq2:=q2
 obtain ⟨W10,hW10,hbW10,hkW10,huW10⟩:=new2 W9 K 3 HKR.out (H64.out _ (by omega))
 have HW10:=Lib.hid hW10
 have hu:=Lib.hid huW10
 have hk:=Lib.hid hkW10
 have pc0:=c0
 have pc1:=c1
 have pq0:=q0
 have pq1:=q1
 have pq2:=q2
 replace c0:=below_cell hbW10 c0
 replace c1:=below_cell hbW10 c1
 replace q0:=below_cell hbW10 q0
 replace q1:=below_cell hbW10 q1
 replace q2:=below_cell hbW10 q2
 replace HR:=Lib.hid (HR.out.below hbW10)
 replace HO:=Lib.hid (HO.out.below hbW10)
 replace HC6:=Lib.hid (HC6.out.below hbW10)
 replace HP6:=Lib.hid (HP6.out.below hbW10)
 replace HB:=Lib.hid (HB.out.trans (hbW10.mono HB.out.size))
 clear hbW10
 clear hdr hcv hpv hW9 hrW9 hW10 hkW10 huW10
 go_wp2_with (first | rw [← HW10.out] | rw [← HW9.out])
 clear HW9 HW10
 clear pc0 pc1 pq0 pq1 pq2
 clear oc0 oc1 oq0 oq1 oq2
 generalize ac = ac6 at *
 generalize ap = ap6 at *
 generalize cc = cc6 at *
 generalize cp = cp6 at *
 with_reducible refine (kDeal_any _ _ _ _ _ R37 O37 [K] 64 5 [] [3] _ (HG.out _ HB.out) HR.out HO.out hk.out (H64.out _ (by omega)) (H64.out _ (by omega)) (Ints.nil _ _ _) hu.out).mono ?_
 rintro e w11 ⟨v,rfl,⟨cv,pv,rfl,hdr,hcv,hpv⟩,hb11⟩
 clear hu
 replace c0:=below_cell hb11 c0
 replace c1:=below_cell hb11 c1
 replace q0:=below_cell hb11 q0
 replace q1:=below_cell hb11 q1
 replace q2:=below_cell hb11 q2
 replace HR:=Lib.hid (HR.out.below hb11)
 replace HO:=Lib.hid (HO.out.below hb11)
 replace HC6:=Lib.hid (HC6.out.below hb11)
 replace HP6:=Lib.hid (HP6.out.below hb11)
 replace HB:=Lib.hid (HB.out.trans (hb11.mono HB.out.size))
 clear hb11
 rw [← HK37.out] at hdr hcv hpv ⊢
 rw [ex37_3]
 obtain ⟨ac,cc,rfl,-⟩:=id hcv
 obtain ⟨ap,cp,rfl,-⟩:=id hpv
 clear hk
 obtain ⟨W12,hW12,hbW12,hrW12,-⟩:=newD w11 (kdD R37 O37 K37 64 5 [] [3]) _ _ hdr hcv hpv
 have HW12:=Lib.hid hW12
 have oc0:=c0
 have oc1:=c1
 have oq0:=q0
 have oq1:=q1
 have oq2:=q2
 replace c0:=below_cell hbW12 c0
 replace c1:=below_cell hbW12 c1
 replace q0:=below_cell hbW12 q0
 replace q1:=below_cell hbW12 q1
 replace q2:=below_cell hbW12 q2
 replace HR:=Lib.hid (HR.out.below hbW12)
 replace HO:=Lib.hid (HO.out.below hbW12)
 replace HC6:=Lib.hid (HC6.out.below hbW12)
 replace HP6:=Lib.hid (HP6.out.below hbW12)
 replace HB:=Lib.hid (HB.out.trans (hbW12.mono HB.out.size))
 clear hbW12
 obtain ⟨W13,hW13,hbW13,hkW13,huW13⟩:=new2 W12 K 0 HKR.out (H64.out _ (by omega))
 have HW13:=Lib.hid hW13
 have hu:=Lib.hid huW13
 have hk:=Lib.hid hkW13
 have pc0:=c0
 have pc1:=c1
 have pq0:=q0
 have pq1:=q1
 have pq2:=q2
 replace c0:=below_cell hbW13 c0
 replace c1:=below_cell hbW13 c1
 replace q0:=below_cell hbW13 q0
 replace q1:=below_cell hbW13 q1
 replace q2:=below_cell hbW13 q2
 replace HR:=Lib.hid (HR.out.below hbW13)
 replace HO:=Lib.hid (HO.out.below hbW13)
 replace HC6:=Lib.hid (HC6.out.below hbW13)
 replace HP6:=Lib.hid (HP6.out.below hbW13)
 replace HB:=Lib.hid (HB.out.trans (hbW13.mono HB.out.size))
 clear hbW13
 clear hdr hcv hpv hW12 hrW12 hW13 hkW13 huW13
 go_wp2_with (first | rw [← HW13.out] | rw [← HW12.out])
 clear HW12 HW13
 clear pc0 pc1 pq0 pq1 pq2
 clear oc0 oc1 oq0 oq1 oq2
 with_reducible refine (kDeal_any _ _ _ _ _ R37 O37 [K] 2 5 [] [0] _ (HG.out _ HB.out) HR.out HO.out hk.out (H64.out _ (by omega)) (H64.out _ (by omega)) (Ints.nil _ _ _) hu.out).mono ?_
 rintro e w14 ⟨v,rfl,⟨cv,pv,rfl,hdr,hcv,hpv⟩,hb14⟩
 clear hu
 replace c0:=below_cell hb14 c0
 replace c1:=below_cell hb14 c1
 replace q0:=below_cell hb14 q0
 replace q1:=below_cell hb14 q1
 replace q2:=below_cell hb14 q2
 replace HR:=Lib.hid (HR.out.below hb14)
 replace HO:=Lib.hid (HO.out.below hb14)
 replace HC6:=Lib.hid (HC6.out.below hb14)
 replace HP6:=Lib.hid (HP6.out.below hb14)
 replace HB:=Lib.hid (HB.out.trans (hb14.mono HB.out.size))
 clear hb14
 rw [← HK37.out] at hdr hcv hpv ⊢
 rw [ex37_4]
 obtain ⟨ac,cc,rfl,-⟩:=id hcv
 obtain ⟨ap,cp,rfl,-⟩:=id hpv
 clear hk
 obtain ⟨W15,hW15,hbW15,hrW15,-⟩:=newD w14 (kdD R37 O37 K37 2 5 [] [0]) _ _ hdr hcv hpv
 have HW15:=Lib.hid hW15
 have oc0:=c0
 have oc1:=c1
 have oq0:=q0
 have oq1:=q1
 have oq2:=q2
 replace c0:=below_cell hbW15 c0
 replace c1:=below_cell hbW15 c1
 replace q0:=below_cell hbW15 q0
 replace q1:=below_cell hbW15 q1
 replace q2:=below_cell hbW15 q2
 replace HR:=Lib.hid (HR.out.below hbW15)
 replace HO:=Lib.hid (HO.out.below hbW15)
 replace HC6:=Lib.hid (HC6.out.below hbW15)
 replace HP6:=Lib.hid (HP6.out.below hbW15)
 replace HB:=Lib.hid (HB.out.trans (hbW15.mono HB.out.size))
 clear hbW15
 clear hdr hcv hpv hW15 hrW15
 go_wp2_with (rw [← HW15.out])
 clear HW15
 clear oc0 oc1 oq0 oq1 oq2
 with_reducible refine (kright_any _ _ _ _ R37 O37 D37 _ HR.out HO.out HC6.out HP6.out).mono ?_
 rintro e w16 ⟨rfl,hb16⟩
 replace c0:=below_cell hb16 c0
 replace c1:=below_cell hb16 c1
 replace q0:=below_cell hb16 q0
 replace q1:=below_cell hb16 q1
 replace q2:=below_cell hb16 q2
 replace HR:=Lib.hid (HR.out.below hb16)
 replace HO:=Lib.hid (HO.out.below hb16)
 replace HC6:=Lib.hid (HC6.out.below hb16)
 replace HP6:=Lib.hid (HP6.out.below hb16)
 replace HB:=Lib.hid (HB.out.trans (hb16.mono HB.out.size))
 clear hb16
 rw [kri37.1,p37]
 go_wp2_with fail
 with_reducible refine (kright_any _ _ _ _ R37 O37 ⟨0,[],[]⟩ _ HR.out HO.out (Ints.nil _ none 0) (Parcels.nil _ none 0)).mono ?_
 rintro e w17 ⟨rfl,hb17⟩
 replace c0:=below_cell hb17 c0
 replace c1:=below_cell hb17 c1
 replace q0:=below_cell hb17 q0
 replace q1:=below_cell hb17 q1
 replace q2:=below_cell hb17 q2
 replace HR:=Lib.hid (HR.out.below hb17)
 replace HO:=Lib.hid (HO.out.below hb17)
 replace HC6:=Lib.hid (HC6.out.below hb17)
 replace HP6:=Lib.hid (HP6.out.below hb17)
 replace HB:=Lib.hid (HB.out.trans (hb17.mono HB.out.size))
 clear hb17
 rw [kri37.2,p37]
 obtain ⟨W18,hW18,hb18,hk18,-⟩:=new1 w17 K HKR.out
 have HW18:=Lib.hid hW18
 have hk:=Lib.hid hk18
 have oc0:=c0
 have oc1:=c1
 have oq0:=q0
 have oq1:=q1
 have oq2:=q2
 replace c0:=below_cell hb18 c0
 replace c1:=below_cell hb18 c1
 replace q0:=below_cell hb18 q0
 replace q1:=below_cell hb18 q1
 replace q2:=below_cell hb18 q2
 replace HR:=Lib.hid (HR.out.below hb18)
 replace HO:=Lib.hid (HO.out.below hb18)
 replace HC6:=Lib.hid (HC6.out.below hb18)
 replace HP6:=Lib.hid (HP6.out.below hb18)
 replace HB:=Lib.hid (HB.out.trans (hb18.mono HB.out.size))
 clear hb18
 clear hW18 hk18
 go_wp2_with (rw [← HW18.out])
 clear HW18
 clear oc0 oc1 oq0 oq1 oq2
 with_reducible refine (kQualified_any _ _ _ _ _ R37 O37 [K] [] (fun _ => (.slice none 0 0,.slice none 0 0)) [] _ (HG.out _ HB.out) HR.out HO.out hk.out (Dlgs.nil _ none 0 _) (Cmps.nil _ none 0)).mono ?_
 rintro e w19 ⟨v,kv,rfl,hb19,hoff,-⟩
 clear hk
 replace c0:=below_cell hb19 c0
 replace c1:=below_cell hb19 c1
 replace q0:=below_cell hb19 q0
 replace q1:=below_cell hb19 q1
 replace q2:=below_cell hb19 q2
 replace HR:=Lib.hid (HR.out.below hb19)
 replace HO:=Lib.hid (HO.out.below hb19)
 replace HC6:=Lib.hid (HC6.out.below hb19)
 replace HP6:=Lib.hid (HP6.out.below hb19)
 replace HB:=Lib.hid (HB.out.trans (hb19.mono HB.out.size))
 clear hb19
 rw [← HK37.out] at hoff ⊢
 rw [ex37_5] at hoff ⊢
 obtain ⟨rfl,rfl⟩:=hoff (by decide)
 clear hoff
 have hba:=below_new w19 #[.int .i64 0,.slice none 0 0,.slice none 0 0,.slice none 0 0] 64
 have oc0:=c0
 have oc1:=c1
 have oq0:=q0
 have oq1:=q1
 have oq2:=q2
 replace c0:=below_cell hba c0
 replace c1:=below_cell hba c1
 replace q0:=below_cell hba q0
 replace q1:=below_cell hba q1
 replace q2:=below_cell hba q2
 replace HR:=Lib.hid (HR.out.below hba)
 replace HO:=Lib.hid (HO.out.below hba)
 replace HC6:=Lib.hid (HC6.out.below hba)
 replace HP6:=Lib.hid (HP6.out.below hba)
 replace HB:=Lib.hid (HB.out.trans (hba.mono HB.out.size))
 clear hba
 obtain ⟨W20,hW20,hb20,hk20,-⟩:=new1 (w19.alloc (.cells #[.int .i64 0,.slice none 0 0,.slice none 0 0,.slice none 0 0] 64)) K HKR.out
 rw [World.size_alloc] at hk20
 have HW20:=Lib.hid hW20
 have hk:=Lib.hid hk20
 have pc0:=c0
 have pc1:=c1
 have pq0:=q0
 have pq1:=q1
 have pq2:=q2
 replace c0:=below_cell hb20 c0
 replace c1:=below_cell hb20 c1
 replace q0:=below_cell hb20 q0
 replace q1:=below_cell hb20 q1
 replace q2:=below_cell hb20 q2
 replace HR:=Lib.hid (HR.out.below hb20)
 replace HO:=Lib.hid (HO.out.below hb20)
 replace HC6:=Lib.hid (HC6.out.below hb20)
 replace HP6:=Lib.hid (HP6.out.below hb20)
 replace HB:=Lib.hid (HB.out.trans (hb20.mono HB.out.size))
 clear hb20
 obtain ⟨W21,hW21,hb21,-,hd21⟩:=newD W20 D37 _ _ HDR.out HC6.out HP6.out
 have HW21:=Lib.hid hW21
 have hd:=Lib.hid hd21
 replace hk:=Lib.hid (hk.out.below hb21)
 have rc0:=c0
 have rc1:=c1
 have rq0:=q0
 have rq1:=q1
 have rq2:=q2
 replace c0:=below_cell hb21 c0
 replace c1:=below_cell hb21 c1
 replace q0:=below_cell hb21 q0
 replace q1:=below_cell hb21 q1
 replace q2:=below_cell hb21 q2
 replace HR:=Lib.hid (HR.out.below hb21)
 replace HO:=Lib.hid (HO.out.below hb21)
 replace HC6:=Lib.hid (HC6.out.below hb21)
 replace HP6:=Lib.hid (HP6.out.below hb21)
 replace HB:=Lib.hid (HB.out.trans (hb21.mono HB.out.size))
 clear hb21
 clear hW20 hk20 hW21 hd21
 go_wp2_with (first | rw [← HW21.out] | rw [← HW20.out])
 clear HW20 HW21
 clear pc0 pc1 pq0 pq1 pq2
 clear oc0 oc1 oq0 oq1 oq2
 clear rc0 rc1 rq0 rq1 rq2
 with_reducible refine (kQualified_any _ _ _ _ _ R37 O37 [K] [D37] _ [] _ (HG.out _ HB.out) HR.out HO.out hk.out hd.out (Cmps.nil _ none 0)).mono ?_
 rintro e w22 ⟨v,kv,rfl,hb22,-,hon⟩
 clear hk hd
 replace c0:=below_cell hb22 c0
 replace c1:=below_cell hb22 c1
 replace q0:=below_cell hb22 q0
 replace q1:=below_cell hb22 q1
 replace q2:=below_cell hb22 q2
 replace HR:=Lib.hid (HR.out.below hb22)
 replace HO:=Lib.hid (HO.out.below hb22)
 replace HC6:=Lib.hid (HC6.out.below hb22)
 replace HP6:=Lib.hid (HP6.out.below hb22)
 replace HB:=Lib.hid (HB.out.trans (hb22.mono HB.out.size))
 clear hb22
 rw [← HK37.out] at hon ⊢
 rw [ex37_6,qual37] at hon
 rw [ex37_6]
 obtain ⟨hvi,cv,rfl,hci⟩:=hon rfl
 clear hon
 rw [dlr37] at hvi
 rw [com37] at hci
 obtain ⟨va,vc,rfl,-⟩:=id hvi
 obtain ⟨za,zc,rfl,-⟩:=id hci
 simp only [List.length_cons,List.length_nil,Nat.zero_add] at hvi hci ⊢
 have HVI:=Lib.hid hvi
 have HCI:=Lib.hid hci
 clear hvi hci
 obtain ⟨W23,hW23,hb23,hr23⟩:=newK w22 (.int .i64 0) (.slice a1 1 k1) (.slice a2 1 k2) (.slice za 1 zc)
 have HW23:=Lib.hid hW23
 have oc0:=c0
 have oc1:=c1
 have oq0:=q0
 have oq1:=q1
 have oq2:=q2
 replace c0:=below_cell hb23 c0
 replace c1:=below_cell hb23 c1
 replace q0:=below_cell hb23 q0
 replace q1:=below_cell hb23 q1
 replace q2:=below_cell hb23 q2
 replace HR:=Lib.hid (HR.out.below hb23)
 replace HO:=Lib.hid (HO.out.below hb23)
 replace HC6:=Lib.hid (HC6.out.below hb23)
 replace HP6:=Lib.hid (HP6.out.below hb23)
 replace HVI:=Lib.hid (HVI.out.below hb23)
 replace HCI:=Lib.hid (HCI.out.below hb23)
 replace HB:=Lib.hid (HB.out.trans (hb23.mono HB.out.size))
 clear hb23
 have k0_:=row_cell hr23 (k:=0) rfl
 have k1_:=row_cell hr23 (k:=1) rfl
 have k2_:=row_cell hr23 (k:=2) rfl
 have k3_:=row_cell hr23 (k:=3) rfl
 clear hW23 hr23
 go_wp2_with (rw [← HW23.out])
 clear HW23
 clear oc0 oc1 oq0 oq1 oq2
 with_reducible refine (kOwn_any _ _ _ _ R37 O37 1 0 [] [] _ _ (HG.out _ HB.out) HR.out HO.out (H64.out _ (by omega)) (H64.out _ (by omega)) (Ints.nil _ none 0) (Dlgs.nil _ none 0 (fun _ => (.slice none 0 0,.slice none 0 0)))).mono ?_
 rintro e w24 ⟨rfl,hb24⟩
 replace c0:=below_cell hb24 c0
 replace c1:=below_cell hb24 c1
 replace q0:=below_cell hb24 q0
 replace q1:=below_cell hb24 q1
 replace q2:=below_cell hb24 q2
 replace k0_:=below_cell hb24 k0_
 replace k1_:=below_cell hb24 k1_
 replace k2_:=below_cell hb24 k2_
 replace k3_:=below_cell hb24 k3_
 replace HR:=Lib.hid (HR.out.below hb24)
 replace HO:=Lib.hid (HO.out.below hb24)
 replace HC6:=Lib.hid (HC6.out.below hb24)
 replace HP6:=Lib.hid (HP6.out.below hb24)
 replace HVI:=Lib.hid (HVI.out.below hb24)
 replace HCI:=Lib.hid (HCI.out.below hb24)
 replace HB:=Lib.hid (HB.out.trans (hb24.mono HB.out.size))
 clear hb24
 rw [ex37_7.1,ex37_7.2.1,ex37_7.2.2]
 have hba:=below_new w24 #[.int .i64 0,.int .i64 0] 68
 have oc0:=c0
 have oc1:=c1
 have oq0:=q0
 have oq1:=q1
 have oq2:=q2
 have ok0_:=k0_
 have ok1_:=k1_
 have ok2_:=k2_
 have ok3_:=k3_
 replace c0:=below_cell hba c0
 replace c1:=below_cell hba c1
 replace q0:=below_cell hba q0
 replace q1:=below_cell hba q1
 replace q2:=below_cell hba q2
 replace k0_:=below_cell hba k0_
 replace k1_:=below_cell hba k1_
 replace k2_:=below_cell hba k2_
 replace k3_:=below_cell hba k3_
 replace HR:=Lib.hid (HR.out.below hba)
 replace HO:=Lib.hid (HO.out.below hba)
 replace HC6:=Lib.hid (HC6.out.below hba)
 replace HP6:=Lib.hid (HP6.out.below hba)
 replace HVI:=Lib.hid (HVI.out.below hba)
 replace HCI:=Lib.hid (HCI.out.below hba)
 replace HB:=Lib.hid (HB.out.trans (hba.mono HB.out.size))
 clear hba
 have s0_:(w24.alloc (.cells #[.int .i64 0,.int .i64 0] 68)).cell? ⟨w24.heap.size,0,none⟩ = some (.int .i64 0):=row_cell (World.alloc_heap_new _ _) rfl
 have s1_:(w24.alloc (.cells #[.int .i64 0,.int .i64 0] 68)).cell? ⟨w24.heap.size,1,none⟩ = some (.int .i64 0):=row_cell (World.alloc_heap_new _ _) rfl
 obtain ⟨W25,hW25,hb25,hk25,-⟩:=new1 (w24.alloc (.cells #[.int .i64 0,.int .i64 0] 68)) 2 (H64.out _ (by omega))
 rw [World.size_alloc] at hk25
 have HW25:=Lib.hid hW25
 have hk:=Lib.hid hk25
 have pc0:=c0
 have pc1:=c1
 have pq0:=q0
 have pq1:=q1
 have pq2:=q2
 have pk0_:=k0_
 have pk1_:=k1_
 have pk2_:=k2_
 have pk3_:=k3_
 have ps0_:=s0_
 have ps1_:=s1_
 replace c0:=below_cell hb25 c0
 replace c1:=below_cell hb25 c1
 replace q0:=below_cell hb25 q0
 replace q1:=below_cell hb25 q1
 replace q2:=below_cell hb25 q2
 replace k0_:=below_cell hb25 k0_
 replace k1_:=below_cell hb25 k1_
 replace k2_:=below_cell hb25 k2_
 replace k3_:=below_cell hb25 k3_
 replace s0_:=below_cell hb25 s0_
 replace s1_:=below_cell hb25 s1_
 replace HR:=Lib.hid (HR.out.below hb25)
 replace HO:=Lib.hid (HO.out.below hb25)
 replace HC6:=Lib.hid (HC6.out.below hb25)
 replace HP6:=Lib.hid (HP6.out.below hb25)
 replace HVI:=Lib.hid (HVI.out.below hb25)
 replace HCI:=Lib.hid (HCI.out.below hb25)
 replace HB:=Lib.hid (HB.out.trans (hb25.mono HB.out.size))
 clear hb25
 obtain ⟨W26,hW26,hb26,-,hd26⟩:=newD W25 D37 _ _ HDR.out HC6.out HP6.out
 have HW26:=Lib.hid hW26
 have hd:=Lib.hid hd26
 replace hk:=Lib.hid (hk.out.below hb26)
 have rc0:=c0
 have rc1:=c1
 have rq0:=q0
 have rq1:=q1
 have rq2:=q2
 have rk0_:=k0_
 have rk1_:=k1_
 have rk2_:=k2_
 have rk3_:=k3_
 have rs0_:=s0_
 have rs1_:=s1_
 replace c0:=below_cell hb26 c0
 replace c1:=below_cell hb26 c1
 replace q0:=below_cell hb26 q0
 replace q1:=below_cell hb26 q1
 replace q2:=below_cell hb26 q2
 replace k0_:=below_cell hb26 k0_
 replace k1_:=below_cell hb26 k1_
 replace k2_:=below_cell hb26 k2_
 replace k3_:=below_cell hb26 k3_
 replace s0_:=below_cell hb26 s0_
 replace s1_:=below_cell hb26 s1_
 replace HR:=Lib.hid (HR.out.below hb26)
 replace HO:=Lib.hid (HO.out.below hb26)
 replace HC6:=Lib.hid (HC6.out.below hb26)
 replace HP6:=Lib.hid (HP6.out.below hb26)
 replace HVI:=Lib.hid (HVI.out.below hb26)
 replace HCI:=Lib.hid (HCI.out.below hb26)
 replace HB:=Lib.hid (HB.out.trans (hb26.mono HB.out.size))
 clear hb26
 clear hW25 hk25 hW26 hd26
 go_wp2_with (first | rw [← HW26.out] | rw [← HW25.out])
 clear HW25 HW26
 clear oc0 oc1 oq0 oq1 oq2 ok0_ ok1_ ok2_ ok3_ pc0 pc1 pq0 pq1 pq2 pk0_ pk1_ pk2_ pk3_ ps0_ ps1_ rc0 rc1 rq0 rq1 rq2 rk0_ rk1_ rk2_ rk3_ rs0_ rs1_
 with_reducible refine (kOwn_any _ _ _ _ R37 O37 7 0 [2] [D37] _ _ (HG.out _ HB.out) HR.out HO.out (H64.out _ (by omega)) (H64.out _ (by omega)) hk.out hd.out).mono ?_
 rintro e w27 ⟨rfl,hb27⟩
 clear hk hd
 replace c0:=below_cell hb27 c0
 replace c1:=below_cell hb27 c1
 replace q0:=below_cell hb27 q0
 replace q1:=below_cell hb27 q1
 replace q2:=below_cell hb27 q2
 replace k0_:=below_cell hb27 k0_
 replace k1_:=below_cell hb27 k1_
 replace k2_:=below_cell hb27 k2_
 replace k3_:=below_cell hb27 k3_
 replace s0_:=below_cell hb27 s0_
 replace s1_:=below_cell hb27 s1_
 replace HR:=Lib.hid (HR.out.below hb27)
 replace HO:=Lib.hid (HO.out.below hb27)
 replace HC6:=Lib.hid (HC6.out.below hb27)
 replace HP6:=Lib.hid (HP6.out.below hb27)
 replace HVI:=Lib.hid (HVI.out.below hb27)
 replace HCI:=Lib.hid (HCI.out.below hb27)
 replace HB:=Lib.hid (HB.out.trans (hb27.mono HB.out.size))
 clear hb27
 rw [ex37_8.1,ex37_8.2.1,ex37_8.2.2]
 obtain ⟨W28,hW28,hb28,hr28,-⟩:=box_prog w27 (.int .i64 0) (.int .i64 5) 68
 have HW28:=Lib.hid hW28
 have oc0:=c0
 have oc1:=c1
 have oq0:=q0
 have oq1:=q1
 have oq2:=q2
 have ok0_:=k0_
 have ok1_:=k1_
 have ok2_:=k2_
 have ok3_:=k3_
 have os0_:=s0_
 have os1_:=s1_
 replace c0:=below_cell hb28 c0
 replace c1:=below_cell hb28 c1
 replace q0:=below_cell hb28 q0
 replace q1:=below_cell hb28 q1
 replace q2:=below_cell hb28 q2
 replace k0_:=below_cell hb28 k0_
 replace k1_:=below_cell hb28 k1_
 replace k2_:=below_cell hb28 k2_
 replace k3_:=below_cell hb28 k3_
 replace s0_:=below_cell hb28 s0_
 replace s1_:=below_cell hb28 s1_
 replace HR:=Lib.hid (HR.out.below hb28)
 replace HO:=Lib.hid (HO.out.below hb28)
 replace HC6:=Lib.hid (HC6.out.below hb28)
 replace HP6:=Lib.hid (HP6.out.below hb28)
 replace HVI:=Lib.hid (HVI.out.below hb28)
 replace HCI:=Lib.hid (HCI.out.below hb28)
 replace HB:=Lib.hid (HB.out.trans (hb28.mono HB.out.size))
 clear hb28
 have s2_:=row_cell hr28 (k:=0) rfl
 have s3_:=row_cell hr28 (k:=1) rfl
 clear hW28 hr28
 go_wp2_with (rw [← HW28.out])
 clear HW28
 clear oc0 oc1 oq0 oq1 oq2 ok0_ ok1_ ok2_ ok3_ os0_ os1_
 with_reducible refine (kOwn_any _ _ _ _ R37 O37 0 0 [] [] _ _ (HG.out _ HB.out) HR.out HO.out (H64.out _ (by omega)) (H64.out _ (by omega)) (Ints.nil _ none 0) (Dlgs.nil _ none 0 (fun _ => (.slice none 0 0,.slice none 0 0)))).mono ?_
 rintro e w29 ⟨rfl,hb29⟩
 replace c0:=below_cell hb29 c0
 replace c1:=below_cell hb29 c1
 replace q0:=below_cell hb29 q0
 replace q1:=below_cell hb29 q1
 replace q2:=below_cell hb29 q2
 replace k0_:=below_cell hb29 k0_
 replace k1_:=below_cell hb29 k1_
 replace k2_:=below_cell hb29 k2_
 replace k3_:=below_cell hb29 k3_
 replace s0_:=below_cell hb29 s0_
 replace s1_:=below_cell hb29 s1_
 replace s2_:=below_cell hb29 s2_
 replace s3_:=below_cell hb29 s3_
 replace HR:=Lib.hid (HR.out.below hb29)
 replace HO:=Lib.hid (HO.out.below hb29)
 replace HC6:=Lib.hid (HC6.out.below hb29)
 replace HP6:=Lib.hid (HP6.out.below hb29)
 replace HVI:=Lib.hid (HVI.out.below hb29)
 replace HCI:=Lib.hid (HCI.out.below hb29)
 replace HB:=Lib.hid (HB.out.trans (hb29.mono HB.out.size))
 clear hb29
 rw [ex37_9,ex37_9b.1,ex37_9b.2]
 have hba:=below_new w29 #[.int .i64 0,.int .i64 0] 68
 have oc0:=c0
 have oc1:=c1
 have oq0:=q0
 have oq1:=q1
 have oq2:=q2
 have ok0_:=k0_
 have ok1_:=k1_
 have ok2_:=k2_
 have ok3_:=k3_
 have os0_:=s0_
 have os1_:=s1_
 have os2_:=s2_
 have os3_:=s3_
 replace c0:=below_cell hba c0
 replace c1:=below_cell hba c1
 replace q0:=below_cell hba q0
 replace q1:=below_cell hba q1
 replace q2:=below_cell hba q2
 replace k0_:=below_cell hba k0_
 replace k1_:=below_cell hba k1_
 replace k2_:=below_cell hba k2_
 replace k3_:=below_cell hba k3_
 replace s0_:=below_cell hba s0_
 replace s1_:=below_cell hba s1_
 replace s2_:=below_cell hba s2_
 replace s3_:=below_cell hba s3_
 replace HR:=Lib.hid (HR.out.below hba)
 replace HO:=Lib.hid (HO.out.below hba)
 replace HC6:=Lib.hid (HC6.out.below hba)
 replace HP6:=Lib.hid (HP6.out.below hba)
 replace HVI:=Lib.hid (HVI.out.below hba)
 replace HCI:=Lib.hid (HCI.out.below hba)
 replace HB:=Lib.hid (HB.out.trans (hba.mono HB.out.size))
 clear hba
 obtain ⟨W30,hW30,hb30,hk30,-⟩:=new1 (w29.alloc (.cells #[.int .i64 0,.int .i64 0] 68)) 1 (H64.out _ (by omega))
 rw [World.size_alloc] at hk30
 have HW30:=Lib.hid hW30
 have hk:=Lib.hid hk30
 have pc0:=c0
 have pc1:=c1
 have pq0:=q0
 have pq1:=q1
 have pq2:=q2
 have pk0_:=k0_
 have pk1_:=k1_
 have pk2_:=k2_
 have pk3_:=k3_
 have ps0_:=s0_
 have ps1_:=s1_
 have ps2_:=s2_
 have ps3_:=s3_
 replace c0:=below_cell hb30 c0
 replace c1:=below_cell hb30 c1
 replace q0:=below_cell hb30 q0
 replace q1:=below_cell hb30 q1
 replace q2:=below_cell hb30 q2
 replace k0_:=below_cell hb30 k0_
 replace k1_:=below_cell hb30 k1_
 replace k2_:=below_cell hb30 k2_
 replace k3_:=below_cell hb30 k3_
 replace s0_:=below_cell hb30 s0_
 replace s1_:=below_cell hb30 s1_
 replace s2_:=below_cell hb30 s2_
 replace s3_:=below_cell hb30 s3_
 replace HR:=Lib.hid (HR.out.below hb30)
 replace HO:=Lib.hid (HO.out.below hb30)
 replace HC6:=Lib.hid (HC6.out.below hb30)
 replace HP6:=Lib.hid (HP6.out.below hb30)
 replace HVI:=Lib.hid (HVI.out.below hb30)
 replace HCI:=Lib.hid (HCI.out.below hb30)
 replace HB:=Lib.hid (HB.out.trans (hb30.mono HB.out.size))
 clear hb30
 obtain ⟨W31,hW31,hb31,-,hd31⟩:=newD W30 D37 _ _ HDR.out HC6.out HP6.out
 have HW31:=Lib.hid hW31
 have hd:=Lib.hid hd31
 replace hk:=Lib.hid (hk.out.below hb31)
 have rc0:=c0
 have rc1:=c1
 have rq0:=q0
 have rq1:=q1
 have rq2:=q2
 have rk0_:=k0_
 have rk1_:=k1_
 have rk2_:=k2_
 have rk3_:=k3_
 have rs0_:=s0_
 have rs1_:=s1_
 have rs2_:=s2_
 have rs3_:=s3_
 replace c0:=below_cell hb31 c0
 replace c1:=below_cell hb31 c1
 replace q0:=below_cell hb31 q0
 replace q1:=below_cell hb31 q1
 replace q2:=below_cell hb31 q2
 replace k0_:=below_cell hb31 k0_
 replace k1_:=below_cell hb31 k1_
 replace k2_:=below_cell hb31 k2_
 replace k3_:=below_cell hb31 k3_
 replace s0_:=below_cell hb31 s0_
 replace s1_:=below_cell hb31 s1_
 replace s2_:=below_cell hb31 s2_
 replace s3_:=below_cell hb31 s3_
 replace HR:=Lib.hid (HR.out.below hb31)
 replace HO:=Lib.hid (HO.out.below hb31)
 replace HC6:=Lib.hid (HC6.out.below hb31)
 replace HP6:=Lib.hid (HP6.out.below hb31)
 replace HVI:=Lib.hid (HVI.out.below hb31)
 replace HCI:=Lib.hid (HCI.out.below hb31)
 replace HB:=Lib.hid (HB.out.trans (hb31.mono HB.out.size))
 clear hb31
 clear hW30 hk30 hW31 hd31
 go_wp2_with (first | rw [← HW31.out] | rw [← HW30.out])
 clear HW30 HW31
 clear oc0 oc1 oq0 oq1 oq2 ok0_ ok1_ ok2_ ok3_ os0_ os1_ os2_ os3_ pc0 pc1 pq0 pq1 pq2 pk0_ pk1_ pk2_ pk3_ ps0_ ps1_ ps2_ ps3_ rc0 rc1 rq0 rq1 rq2 rk0_ rk1_ rk2_ rk3_ rs0_ rs1_ rs2_ rs3_
 with_reducible refine (kOwn_any _ _ _ _ R37 O37 7 0 [1] [D37] _ _ (HG.out _ HB.out) HR.out HO.out (H64.out _ (by omega)) (H64.out _ (by omega)) hk.out hd.out).mono ?_
 rintro e w32 ⟨rfl,hb32⟩
 clear hk hd
 replace c0:=below_cell hb32 c0
 replace c1:=below_cell hb32 c1
 replace q0:=below_cell hb32 q0
 replace q1:=below_cell hb32 q1
 replace q2:=below_cell hb32 q2
 replace k0_:=below_cell hb32 k0_
 replace k1_:=below_cell hb32 k1_
 replace k2_:=below_cell hb32 k2_
 replace k3_:=below_cell hb32 k3_
 replace s0_:=below_cell hb32 s0_
 replace s1_:=below_cell hb32 s1_
 replace s2_:=below_cell hb32 s2_
 replace s3_:=below_cell hb32 s3_
 replace HR:=Lib.hid (HR.out.below hb32)
 replace HO:=Lib.hid (HO.out.below hb32)
 replace HC6:=Lib.hid (HC6.out.below hb32)
 replace HP6:=Lib.hid (HP6.out.below hb32)
 replace HVI:=Lib.hid (HVI.out.below hb32)
 replace HCI:=Lib.hid (HCI.out.below hb32)
 replace HB:=Lib.hid (HB.out.trans (hb32.mono HB.out.size))
 clear hb32
 rw [ex37_10,ex37_10b.1,ex37_10b.2]
 have hba:=below_new w32 #[.int .i64 0,.int .i64 0] 68
 have oc0:=c0
 have oc1:=c1
 have oq0:=q0
 have oq1:=q1
 have oq2:=q2
 have ok0_:=k0_
 have ok1_:=k1_
 have ok2_:=k2_
 have ok3_:=k3_
 have os0_:=s0_
 have os1_:=s1_
 have os2_:=s2_
 have os3_:=s3_
 replace c0:=below_cell hba c0
 replace c1:=below_cell hba c1
 replace q0:=below_cell hba q0
 replace q1:=below_cell hba q1
 replace q2:=below_cell hba q2
 replace k0_:=below_cell hba k0_
 replace k1_:=below_cell hba k1_
 replace k2_:=below_cell hba k2_
 replace k3_:=below_cell hba k3_
 replace s0_:=below_cell hba s0_
 replace s1_:=below_cell hba s1_
 replace s2_:=below_cell hba s2_
 replace s3_:=below_cell hba s3_
 replace HR:=Lib.hid (HR.out.below hba)
 replace HO:=Lib.hid (HO.out.below hba)
 replace HC6:=Lib.hid (HC6.out.below hba)
 replace HP6:=Lib.hid (HP6.out.below hba)
 replace HVI:=Lib.hid (HVI.out.below hba)
 replace HCI:=Lib.hid (HCI.out.below hba)
 replace HB:=Lib.hid (HB.out.trans (hba.mono HB.out.size))
 clear hba
 go_wp2_with fail
 with_reducible refine (pow_yes 4 5 _ el_four (H64.out _ (by omega))).mono ?_
 rintro e w33 ⟨rfl,hb33⟩
 clear oc0 oc1 oq0 oq1 oq2 ok0_ ok1_ ok2_ ok3_ os0_ os1_ os2_ os3_
 replace c0:=below_cell hb33 c0
 replace c1:=below_cell hb33 c1
 replace q0:=below_cell hb33 q0
 replace q1:=below_cell hb33 q1
 replace q2:=below_cell hb33 q2
 replace k0_:=below_cell hb33 k0_
 replace k1_:=below_cell hb33 k1_
 replace k2_:=below_cell hb33 k2_
 replace k3_:=below_cell hb33 k3_
 replace s0_:=below_cell hb33 s0_
 replace s1_:=below_cell hb33 s1_
 replace s2_:=below_cell hb33 s2_
 replace s3_:=below_cell hb33 s3_
 replace HR:=Lib.hid (HR.out.below hb33)
 replace HO:=Lib.hid (HO.out.below hb33)
 replace HC6:=Lib.hid (HC6.out.below hb33)
 replace HP6:=Lib.hid (HP6.out.below hb33)
 replace HVI:=Lib.hid (HVI.out.below hb33)
 replace HCI:=Lib.hid (HCI.out.below hb33)
 replace HB:=Lib.hid (HB.out.trans (hb33.mono HB.out.size))
 clear hb33
 have HF5:=Lib.hid (el_powE el_four 5).r64
 generalize powE 4 5 = F5 at *
 obtain ⟨W34,hW34,hb34,hk34,-⟩:=new1 w33 2 (H64.out _ (by omega))
 have HW34:=Lib.hid hW34
 have hk:=Lib.hid hk34
 have oc0:=c0
 have oc1:=c1
 have oq0:=q0
 have oq1:=q1
 have oq2:=q2
 have ok0_:=k0_
 have ok1_:=k1_
 have ok2_:=k2_
 have ok3_:=k3_
 have os0_:=s0_
 have os1_:=s1_
 have os2_:=s2_
 have os3_:=s3_
 replace c0:=below_cell hb34 c0
 replace c1:=below_cell hb34 c1
 replace q0:=below_cell hb34 q0
 replace q1:=below_cell hb34 q1
 replace q2:=below_cell hb34 q2
 replace k0_:=below_cell hb34 k0_
 replace k1_:=below_cell hb34 k1_
 replace k2_:=below_cell hb34 k2_
 replace k3_:=below_cell hb34 k3_
 replace s0_:=below_cell hb34 s0_
 replace s1_:=below_cell hb34 s1_
 replace s2_:=below_cell hb34 s2_
 replace s3_:=below_cell hb34 s3_
 replace HR:=Lib.hid (HR.out.below hb34)
 replace HO:=Lib.hid (HO.out.below hb34)
 replace HC6:=Lib.hid (HC6.out.below hb34)
 replace HP6:=Lib.hid (HP6.out.below hb34)
 replace HVI:=Lib.hid (HVI.out.below hb34)
 replace HCI:=Lib.hid (HCI.out.below hb34)
 replace HB:=Lib.hid (HB.out.trans (hb34.mono HB.out.size))
 clear hb34
 clear hW34 hk34
 go_wp2_with (rw [← HW34.out])
 clear HW34
 clear oc0 oc1 oq0 oq1 oq2 ok0_ ok1_ ok2_ ok3_ os0_ os1_ os2_ os3_
 with_reducible refine (rSameInts34_any _ _ [2] [2] _ HVI.out hk.out).mono ?_
 rintro e w35 ⟨rfl,hb35⟩
 rw [sameQ_self]
 clear hk
 replace c0:=below_cell hb35 c0
 replace c1:=below_cell hb35 c1
 replace q0:=below_cell hb35 q0
 replace q1:=below_cell hb35 q1
 replace q2:=below_cell hb35 q2
 replace k0_:=below_cell hb35 k0_
 replace k1_:=below_cell hb35 k1_
 replace k2_:=below_cell hb35 k2_
 replace k3_:=below_cell hb35 k3_
 replace s0_:=below_cell hb35 s0_
 replace s1_:=below_cell hb35 s1_
 replace s2_:=below_cell hb35 s2_
 replace s3_:=below_cell hb35 s3_
 replace HR:=Lib.hid (HR.out.below hb35)
 replace HO:=Lib.hid (HO.out.below hb35)
 replace HC6:=Lib.hid (HC6.out.below hb35)
 replace HP6:=Lib.hid (HP6.out.below hb35)
 replace HVI:=Lib.hid (HVI.out.below hb35)
 replace HCI:=Lib.hid (HCI.out.below hb35)
 replace HB:=Lib.hid (HB.out.trans (hb35.mono HB.out.size))
 clear hb35
 obtain ⟨W36,hW36,hb36,hk36,-⟩:=new1 w35 F5 HF5.out
 have HW36:=Lib.hid hW36
 have hk:=Lib.hid hk36
 have oc0:=c0
 have oc1:=c1
 have oq0:=q0
 have oq1:=q1
 have oq2:=q2
 have ok0_:=k0_
 have ok1_:=k1_
 have ok2_:=k2_
 have ok3_:=k3_
 have os0_:=s0_
 have os1_:=s1_
 have os2_:=s2_
 have os3_:=s3_
 replace c0:=below_cell hb36 c0
 replace c1:=below_cell hb36 c1
 replace q0:=below_cell hb36 q0
 replace q1:=below_cell hb36 q1
 replace q2:=below_cell hb36 q2
 replace k0_:=below_cell hb36 k0_
 replace k1_:=below_cell hb36 k1_
 replace k2_:=below_cell hb36 k2_
 replace k3_:=below_cell hb36 k3_
 replace s0_:=below_cell hb36 s0_
 replace s1_:=below_cell hb36 s1_
 replace s2_:=below_cell hb36 s2_
 replace s3_:=below_cell hb36 s3_
 replace HR:=Lib.hid (HR.out.below hb36)
 replace HO:=Lib.hid (HO.out.below hb36)
 replace HC6:=Lib.hid (HC6.out.below hb36)
 replace HP6:=Lib.hid (HP6.out.below hb36)
 replace HVI:=Lib.hid (HVI.out.below hb36)
 replace HCI:=Lib.hid (HCI.out.below hb36)
 replace HB:=Lib.hid (HB.out.trans (hb36.mono HB.out.size))
 clear hb36
 clear hW36 hk36
 go_wp2_with (rw [← HW36.out])
 clear HW36
 clear oc0 oc1 oq0 oq1 oq2 ok0_ ok1_ ok2_ ok3_ os0_ os1_ os2_ os3_
 with_reducible refine (rSameKey37_any 0 _ _ _ _ _ _ R37 O37 [F5] _ HR.out HO.out HCI.out HR.out HO.out hk.out).mono ?_
 rintro e w37 ⟨rfl,hb37⟩
 replace HB:=Lib.hid (HB.out.trans (hb37.mono HB.out.size))
 clear hb37
 go_wp2_with fail
 go_ret
 exact ⟨rfl,HB.out⟩
end Go.Proofs.YtggnipkfliompaaGreatDoor
