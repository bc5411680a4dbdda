/- The reference of dealing: Public, share, Fits, Few. The reference of dealing: Few. The reference of dealing: Numbers, Product, SameInts, Target. The reference of keygen: SameDealing and SameKey of equal ones; Small, Few. -/
import Derived.Test.YtggnipkfliompaaGreatDoorMLinU
import Derived.Test.YtggnipkfliompaaGreatDoorMKgA
import Derived.Test.YtggnipkfliompaaGreatDoorMCoT
import Derived.Test.YtggnipkfliompaaGreatDoorMPmA
set_option maxHeartbeats 8000000
set_option maxRecDepth 100000
namespace Go.Proofs.YtggnipkfliompaaGreatDoor
open Go.RowKit FP
theorem rshare_any (rv ov:Value) (rows:List (List Int)) (owners:List Int) (r v:Int) (w:World) (hR:Rows2 w rv rows) (hO:Ints w ov owners) :
  Calls Tryz.prog 187 #[.agg #[rv,ov],.agg #[.int .i64 r,.int .i64 v]] w fun e w' => e = .returned (.bool (rightS rows r v)) ∧ Below w.heap.size w w':=by
 obtain ⟨W1,hW1,hb1,hr1,hz⟩:=box_prog w rv ov 25
 obtain ⟨W2,hW2,hb2,hr2,hz2⟩:=box_prog W1 (.int .i64 r) (.int .i64 v) 68
 obtain ⟨a,cap,rfl,-,hlen,-⟩:=id hR
 obtain ⟨a2,cap2,rfl,-,hlen2,-⟩:=id hO
 have hsz:W1.heap.size = w.heap.size + 1:=by rw [hW1]; simp
 have c0:W2.cell? ⟨w.heap.size,0,none⟩ = some (.slice a rows.length cap):=below_cell hb2 (row_cell hr1 rfl)
 have s0:W2.cell? ⟨w.heap.size + 1,0,none⟩ = some (.int .i64 r):=by rw [← hsz]; exact row_cell hr2 rfl
 have s1:W2.cell? ⟨w.heap.size + 1,1,none⟩ = some (.int .i64 v):=by rw [← hsz]; exact row_cell hr2 rfl
 have HW2:Hid ((w.alloc (.cells #[.slice a rows.length cap,.slice a2 owners.length cap2] 25)).alloc (.cells #[.int .i64 r,.int .i64 v] 68) = W2):=Lib.hid (by rw [hW2,hW1])
 have HB:=Lib.hid (hb1.trans (hb2.mono hb1.size))
 clear hR hO hr1 hr2 hW1 hW2 hb1 hb2 hsz hz hz2
 by_cases h0:0 ≤ r
 ·by_cases h1:r < (rows.length:Int)
  ·have HV:=Lib.hid (show rightS rows r v = !oddQ v by unfold rightS; rw [decide_eq_true h0,decide_eq_true h1]; rfl)
   go_enter Tryz.func187,Tryz.ntmps187
   go_wp2_with (rw [HW2.out])
   with_reducible refine (rnumber34_any v _).mono ?_
   rintro e w3 ⟨rfl,rfl⟩
   go_wp2_with fail
   go_ret
   exact ⟨ret_bool HV.out.symm,HB.out⟩
  ·have HV:=Lib.hid (show rightS rows r v = false by unfold rightS; rw [decide_eq_false h1]; simp)
   go_enter Tryz.func187,Tryz.ntmps187
   go_wp2_with (rw [HW2.out])
   go_ret
   exact ⟨ret_bool HV.out.symm,HB.out⟩
 ·have HV:=Lib.hid (show rightS rows r v = false by unfold rightS; rw [decide_eq_false h0]; rfl)
  go_enter Tryz.func187,Tryz.ntmps187
  go_wp2_with (rw [HW2.out])
  go_ret
  exact ⟨ret_bool HV.out.symm,HB.out⟩
theorem rFits_any (rv ov cv:Value) (rows:List (List Int)) (owners cs:List Int) (r v:Int) (w:World) (hR:Rows2 w rv rows) (hO:Ints w ov owners) (hC:Ints w cv cs) (hr:R64 r) (hv:R64 v) :
  Calls Tryz.prog 136 #[.agg #[rv,ov],cv,.agg #[.int .i64 r,.int .i64 v]] w fun e w' => e = .returned (.tuple #[.bool (fitB rows owners cs r v),.int .i64 (fitE rows owners cs r v)]) ∧ Below w.heap.size w w':=by
 obtain ⟨W1,hW1,hb1,hr1,hz⟩:=box_prog w rv ov 25
 obtain ⟨W2,hW2,hb2,hr2,hz2⟩:=box_prog W1 (.int .i64 r) (.int .i64 v) 68
 have hsz:W1.heap.size = w.heap.size + 1:=by rw [hW1]; simp
 have hb:=hb1.trans (hb2.mono hb1.size)
 have HR2:=Lib.hid (hR.below hb)
 have HO2:=Lib.hid (hO.below hb)
 have HC2:=Lib.hid (hC.below hb)
 have HPC:=Lib.hid (rpCheck_any rv ov rows owners W2 HR2.out HO2.out)
 obtain ⟨a,cap,rfl,-,hlen,-⟩:=id hR
 obtain ⟨a2,cap2,rfl,-,hlen2,-⟩:=id hO
 obtain ⟨a3,cap3,rfl,-,hlen3,hcr,-⟩:=id hC
 have c0:W2.cell? ⟨w.heap.size,0,none⟩ = some (.slice a rows.length cap):=below_cell hb2 (row_cell hr1 rfl)
 have c1:W2.cell? ⟨w.heap.size,1,none⟩ = some (.slice a2 owners.length cap2):=below_cell hb2 (row_cell hr1 rfl)
 have s0:W2.cell? ⟨w.heap.size + 1,0,none⟩ = some (.int .i64 r):=by rw [← hsz]; exact row_cell hr2 rfl
 have s1:W2.cell? ⟨w.heap.size + 1,1,none⟩ = some (.int .i64 v):=by rw [← hsz]; exact row_cell hr2 rfl
 have HW2:Hid ((w.alloc (.cells #[.slice a rows.length cap,.slice a2 owners.length cap2] 25)).alloc (.cells #[.int .i64 r,.int .i64 v] 68) = W2):=Lib.hid (by rw [hW2,hW1])
 have HB:=Lib.hid hb
 clear hR hO hC hr1 hr2 hW1 hW2 hb1 hb2 hsz hz hz2 hb hcr
 by_cases hp:progE rows owners = 0
 ·have HE:=Lib.hid (comB_E (cs:=cs) hp)
  have hcq:=(progE_ok hp).cols_le
  have HCM:=Lib.hid (fun W h1 h2 h3 => rcommits_any (.slice a rows.length cap) (.slice a2 owners.length cap2) (.slice a3 cs.length cap3) rows owners cs W h1 h2 h3 hcq)
  rw [hp] at HPC
  clear hp hcq
  cases ec:comB rows cs with
  | false =>
   rw [ec] at HE HCM
   have HV:Hid (fitE rows owners cs r v = 340):=Lib.hid (by unfold fitE; rw [HE.out]; rfl)
   have HW:Hid (fitB rows owners cs r v = false):=Lib.hid (by unfold fitB; rw [HV.out]; rfl)
   clear ec
   go_enter Tryz.func136,Tryz.ntmps136
   go_wp2_with fail
   rw [HW2.out]
   refine HPC.out.mono ?_
   rintro e w3 ⟨rfl,hb3⟩
   have d0:=below_cell hb3 c0
   have d1:=below_cell hb3 c1
   have HR3:=Lib.hid (HR2.out.below hb3)
   have HO3:=Lib.hid (HO2.out.below hb3)
   have HC3:=Lib.hid (HC2.out.below hb3)
   have HB3:=Lib.hid (HB.out.trans (hb3.mono HB.out.size))
   clear hb3
   go_wp2_with fail
   refine (HCM.out _ HR3.out HO3.out HC3.out).mono ?_
   rintro e w4 ⟨rfl,hb4⟩
   go_wp2_with fail
   go_ret2
   exact ⟨by rw [HV.out,HW.out]; rfl,HB3.out.trans (hb4.mono HB3.out.size)⟩
  | true =>
   rw [ec] at HE HCM
   have HD:Hid (dchkE rows owners cs = 0):=Lib.hid (by rw [HE.out]; rfl)
   have HK:=Lib.hid (dchkE_ok HD.out)
   clear ec
   have HFE:=Lib.hid (show fitE rows owners cs r v = if rightS rows r v = true then 0 else 340 by unfold fitE; rw [if_neg (by simp [HD.out])])
   cases er:rightS rows r v with
   | false =>
    have HV:Hid (fitE rows owners cs r v = 340):=Lib.hid (by rw [HFE.out,er]; rfl)
    have HW:Hid (fitB rows owners cs r v = false):=Lib.hid (by unfold fitB; rw [HV.out]; rfl)
    have HRS:=Lib.hid er
    clear er
    go_enter Tryz.func136,Tryz.ntmps136
    go_wp2_with fail
    rw [HW2.out]
    refine HPC.out.mono ?_
    rintro e w3 ⟨rfl,hb3⟩
    have d0:=below_cell hb3 c0
    have d1:=below_cell hb3 c1
    have t0:=below_cell hb3 s0
    have t1:=below_cell hb3 s1
    have HR3:=Lib.hid (HR2.out.below hb3)
    have HO3:=Lib.hid (HO2.out.below hb3)
    have HC3:=Lib.hid (HC2.out.below hb3)
    have HB3:=Lib.hid (HB.out.trans (hb3.mono HB.out.size))
    clear hb3 c0 c1 s0 s1
    go_wp2_with fail
    refine (HCM.out _ HR3.out HO3.out HC3.out).mono ?_
    rintro e w4 ⟨rfl,hb4⟩
    have x0:=below_cell hb4 d0
    have x1:=below_cell hb4 d1
    have v0:=below_cell hb4 t0
    have v1:=below_cell hb4 t1
    have HR4:=Lib.hid (HR3.out.below hb4)
    have HO4:=Lib.hid (HO3.out.below hb4)
    have HB4:=Lib.hid (HB3.out.trans (hb4.mono HB3.out.size))
    clear hb4 d0 d1 t0 t1
    go_wp2_with fail
    refine (rshare_any _ _ rows owners r v _ HR4.out HO4.out).mono ?_
    rintro e w5 ⟨rfl,hb5⟩
    rw [HRS.out]
    go_wp2_with fail
    go_ret2
    exact ⟨by rw [HV.out,HW.out]; rfl,HB4.out.trans (hb5.mono HB4.out.size)⟩
   | true =>
    have HV:Hid (fitE rows owners cs r v = 0):=Lib.hid (by rw [HFE.out,er]; rfl)
    have HRS:=Lib.hid er
    obtain ⟨⟨hg0,hg1⟩,hv0⟩:=rightS_iff.1 er
    obtain ⟨n,hn⟩:∃ n:Nat,r = n:=⟨r.toNat,by omega⟩
    have hlt:n < rows.length:=by omega
    have HW:Hid (fitB rows owners cs r v = (powE 4 v == pubQ (rows.getD n []) cs)):=Lib.hid (by unfold fitB; rw [if_pos HV.out,hn,Int.toNat_natCast])
    have HPB:=Lib.hid (fun W h1 h2 h3 => rpublic0_any (.slice a rows.length cap) (.slice a2 owners.length cap2) (.slice a3 cs.length cap3) rows owners cs n W h1 h2 h3 HK.out hlt)
    obtain ⟨q,hq⟩:∃ q,q = pubQ (rows.getD n []) cs:=⟨_,rfl⟩
    rw [← hq] at HW HPB
    have HPW:=Lib.hid (fun w => rpower34_any 4 v w el_four hv)
    obtain ⟨p,hp4⟩:∃ p,p = powE 4 v:=⟨_,rfl⟩
    rw [← hp4] at HW HPW
    subst hn
    clear er hq hp4 hv0
    go_enter Tryz.func136,Tryz.ntmps136
    go_wp2_with fail
    rw [HW2.out]
    refine HPC.out.mono ?_
    rintro e w3 ⟨rfl,hb3⟩
    have d0:=below_cell hb3 c0
    have d1:=below_cell hb3 c1
    have t0:=below_cell hb3 s0
    have t1:=below_cell hb3 s1
    have HR3:=Lib.hid (HR2.out.below hb3)
    have HO3:=Lib.hid (HO2.out.below hb3)
    have HC3:=Lib.hid (HC2.out.below hb3)
    have HB3:=Lib.hid (HB.out.trans (hb3.mono HB.out.size))
    clear hb3 c0 c1 s0 s1
    go_wp2_with fail
    refine (HCM.out _ HR3.out HO3.out HC3.out).mono ?_
    rintro e w4 ⟨rfl,hb4⟩
    have x0:=below_cell hb4 d0
    have x1:=below_cell hb4 d1
    have v0:=below_cell hb4 t0
    have v1:=below_cell hb4 t1
    have HR4:=Lib.hid (HR3.out.below hb4)
    have HO4:=Lib.hid (HO3.out.below hb4)
    have HC4:=Lib.hid (HC3.out.below hb4)
    have HB4:=Lib.hid (HB3.out.trans (hb4.mono HB3.out.size))
    clear hb4 d0 d1 t0 t1
    go_wp2_with fail
    refine (rshare_any _ _ rows owners n v _ HR4.out HO4.out).mono ?_
    rintro e w5 ⟨rfl,hb5⟩
    rw [HRS.out]
    have d0:=below_cell hb5 x0
    have d1:=below_cell hb5 x1
    have t0:=below_cell hb5 v0
    have t1:=below_cell hb5 v1
    have hbd:Below w5.heap.size w5 w5.drew:=(Below.refl _ _).drew
    have HR5:=Lib.hid ((HR4.out.below hb5).below hbd)
    have HO5:=Lib.hid ((HO4.out.below hb5).below hbd)
    have HC5:=Lib.hid ((HC4.out.below hb5).below hbd)
    have HB5:=Lib.hid ((HB4.out.trans (hb5.mono HB4.out.size)).drew)
    clear hb5 hbd x0 x1 v0 v1
    go_wp2_with fail
    go_region_held3 (fun w' => w'.cell? ⟨w.heap.size,0,none⟩ = some (.slice a rows.length cap) ∧ w'.cell? ⟨w.heap.size,1,none⟩ = some (.slice a2 owners.length cap2) ∧ w'.cell? ⟨w.heap.size + 1,0,none⟩ = some (.int .i64 n) ∧ w'.cell? ⟨w.heap.size + 1,1,none⟩ = some (.int .i64 v)) (first | go_keep | exact ⟨z0,z1,z2,z3⟩)
     (first
      | (go_at_call 148; (with_reducible refine (HPW.out _).mono ?_); rintro e w6 ⟨rfl,rfl⟩)
      | (go_at_call 188; (refine (HPB.out _ HR5.out HO5.out HC5.out).mono ?_); rintro e w6 ⟨rfl,hb6⟩; have z0:=below_cell hb6 d0; have z1:=below_cell hb6 d1; have z2:=below_cell hb6 t0; have z3:=below_cell hb6 t1; have HB6:=Lib.hid (HB5.out.trans (hb6.mono HB5.out.size)); clear hb6))
    all_goals
     go_wp2_with fail
     go_ret2
     exact ⟨by rw [HV.out,HW.out]; rfl,HB6.out⟩
 ·have HV:Hid (fitE rows owners cs r v = progE rows owners):=Lib.hid (by unfold fitE dchkE; rw [if_pos (by rw [if_pos hp]; exact hp),if_pos hp])
  have HW:Hid (fitB rows owners cs r v = false):=Lib.hid (by unfold fitB; rw [HV.out,if_neg hp])
  have h2:(progE rows owners != 0) = true:=bne_iff_ne.2 hp
  go_enter Tryz.func136,Tryz.ntmps136
  go_wp2_with fail
  rw [HW2.out]
  refine HPC.out.mono ?_
  rintro e w3 ⟨rfl,hb3⟩
  go_wp2_with fail
  go_ret2
  exact ⟨by rw [HV.out,HW.out]; rfl,HB.out.trans (hb3.mono HB.out.size)⟩
end Go.Proofs.YtggnipkfliompaaGreatDoor
namespace Go.Proofs.YtggnipkfliompaaGreatDoor
open Go.RowKit FP
end Go.Proofs.YtggnipkfliompaaGreatDoor
namespace Go.Proofs.YtggnipkfliompaaGreatDoor
open Go.RowKit FP
theorem rSameInts34_any (v u:Value) (a b:List Int) (w:World) (hI:Ints w v a) (hJ:Ints w u b) :
  Calls Tryz.prog 35 #[v,u] w fun e w' => e = .returned (.bool (sameQ a b)) ∧ Below w.heap.size w w':=by
 obtain ⟨pa,ca,rfl,ha1,ha2,ha3,hka⟩:=hI
 obtain ⟨pb,cb,rfl,hb1,hb2,hb3,hkb⟩:=hJ
 by_cases hl:a.length = b.length
 ·have hl':((a.length:Int) != (b.length:Int)) = false:=by rw [hl]; simp
  have HL:=Lib.hid hl
  have hb1:a.length ≤ cb:=by omega
  have hcells:∀ k (h:k < a.length),∃ y,y = b[k]'(by rw [← HL.out]; exact h) ∧ ∃ q off,pb = some ⟨q,off,none⟩ ∧ w.cell? ⟨q,off + k,none⟩ = some (.int .i64 y):=fun k h => ⟨_,rfl,hkb k (by omega)⟩
  rw [← hl] at hl' ⊢
  clear hl hb2
  clear hkb
  go_enter Tryz.func35,Tryz.ntmps35
  go_wp2_with fail
  go_loopw [5] (fun i wr => ∃ k:Nat,k ≤ a.length ∧ i = .int .i64 k ∧ Hid (∀ j (h1:j < a.length) (h2:j < b.length),j < k → a[j] = b[j]) ∧ Below w.heap.size w wr) (fun i _ => a.length - (intOf i).toNat)
  case atStart => exact ⟨0,Nat.zero_le _,rfl,Lib.hid fun j _ _ h => absurd h (Nat.not_lt_zero _),Below.refl _ _⟩
  case round =>
   obtain ⟨k,hkl,rfl,HP,hb⟩:=hrel
   by_cases hlt:k < a.length
   ·obtain ⟨p,off,rfl,hc⟩:=hka k hlt
    obtain ⟨y,hy,p',off',rfl,hc'⟩:=hcells k hlt
    have hc:=below_cell hb hc
    have hc':=below_cell hb hc'
    obtain ⟨x,hx⟩:∃ x,x = a[k]:=⟨_,rfl⟩
    rw [← hx] at hc
    have i1:(0:Int) ≤ (k:Int):=by omega
    have i2:(k:Int) < (a.length:Int):=by omega
    have HX:=Lib.hid hx
    have HY:=Lib.hid hy
    clear hcells hka hx hy
    by_cases he:x = y
    ·have he':(x != y) = false:=by simpa using he
     have HN:=Lib.hid (show ∀ j (h1:j < a.length) (h2:j < b.length),j < k + 1 → a[j] = b[j] from fun j h1 h2 h3 => by
      by_cases e:j = k
      ·subst e; rw [← HX.out,← HY.out,he]
      ·exact HP.out j h1 h2 (by omega))
     clear he
     go_wp2_with fail
     go_quiet (fail)
     go_wp2_with fail
     go_roundw
     case rel => exact ⟨k + 1,by omega,by go_num,HN,below_drewN hb _⟩
     case measure => simp [intOf]; omega
    ·have he':(x != y) = true:=by simpa using he
     have HN:=Lib.hid (sameQ_at hlt (by rw [← HL.out]; exact hlt) (by rw [← HX.out,← HY.out]; exact he))
     clear he
     go_wp2_with fail
     go_quiet (fail)
     go_wp2_with fail
     go_ret
     exact ⟨ret_bool HN.out.symm,below_drewN hb _⟩
   ·have HN:=Lib.hid (sameQ_all HL.out fun k h1 h2 => HP.out k h1 h2 (by omega))
    go_wp2_with fail
    go_ret
    exact ⟨ret_bool HN.out.symm,hb⟩
 ·have hl':((a.length:Int) != (b.length:Int)) = true:=by rw [bne_iff_ne]; omega
  have HL:=Lib.hid (sameQ_len hl)
  clear hl
  go_enter Tryz.func35,Tryz.ntmps35
  go_wp2_with fail
  go_ret
  exact ⟨ret_bool HL.out.symm,Below.refl _ _⟩
end Go.Proofs.YtggnipkfliompaaGreatDoor
namespace Go.Proofs.YtggnipkfliompaaGreatDoor
open Go.RowKit FP
theorem sameP_self (r:List (List Int)) (o:List Int):sameP r r o o = true:=by unfold sameP sameQ; rw [decide_eq_true rfl,decide_eq_true rfl]; rfl
theorem sameQ_self (o:List Int):sameQ o o = true:=by unfold sameQ; exact decide_eq_true rfl
theorem rSameKey37_any (ep:Int) (rv ov cv rv2 ov2 cv2:Value) (rows:List (List Int)) (owners cs:List Int) (w:World) (hR:Rows2 w rv rows) (hO:Ints w ov owners) (hC:Ints w cv cs) (hR2:Rows2 w rv2 rows) (hO2:Ints w ov2 owners) (hC2:Ints w cv2 cs) :
  Calls Tryz.prog 36 #[.agg #[.int .i64 ep,rv,ov,cv],.agg #[.int .i64 ep,rv2,ov2,cv2]] w fun e w' => e = .returned (.bool true) ∧ Below w.heap.size w w':=by
 obtain ⟨W0,hW0,hb0,hr0,hs0⟩:∃ W,W = w.alloc (.cells #[.int .i64 ep,rv,ov,cv] 64) ∧ Below w.heap.size w W ∧ W.heap[w.heap.size]? = some (.cells #[.int .i64 ep,rv,ov,cv] 64 (0,0)) ∧ W.heap.size = w.heap.size + 1:=⟨_,rfl,below_new _ _ _,World.alloc_heap_new _ _,by simp⟩
 obtain ⟨W1,hW1,hb1,hr1⟩:∃ W,W = W0.alloc (.cells #[.int .i64 ep,rv2,ov2,cv2] 64) ∧ Below W0.heap.size W0 W ∧ W.heap[W0.heap.size]? = some (.cells #[.int .i64 ep,rv2,ov2,cv2] 64 (0,0)):=⟨_,rfl,below_new _ _ _,World.alloc_heap_new _ _⟩
 have hb:=hb0.trans (hb1.mono hb0.size)
 rw [hs0] at hr1
 have Q0:=Lib.hid ((hb1.block _ (row_lt hr0)).trans hr0)
 have Q1:=Lib.hid hr1
 have HR:=Lib.hid (hR.below hb)
 have HO:=Lib.hid (hO.below hb)
 have HC:=Lib.hid (hC.below hb)
 have HR2:=Lib.hid (hR2.below hb)
 have HO2:=Lib.hid (hO2.below hb)
 have HC2:=Lib.hid (hC2.below hb)
 obtain ⟨a1,k1,rfl,-⟩:=id hR
 obtain ⟨a2,k2,rfl,-⟩:=id hO
 obtain ⟨a3,k3,rfl,-⟩:=id hC
 obtain ⟨a4,k4,rfl,-⟩:=id hR2
 obtain ⟨a5,k5,rfl,-⟩:=id hO2
 obtain ⟨a6,k6,rfl,-⟩:=id hC2
 rw [hW0] at hW1
 have HW:=Lib.hid hW1
 have HB:=Lib.hid hb
 clear hR hO hC hR2 hO2 hC2 hb hb0 hb1 hr0 hr1 hW0 hW1 hs0
 have c0:=row_cell Q0.out (k:=0) (v:=.int .i64 ep) rfl
 have c1:=row_cell Q0.out (k:=1) (v:=.slice a1 rows.length k1) rfl
 have c2:=row_cell Q0.out (k:=2) (v:=.slice a2 owners.length k2) rfl
 have c3:=row_cell Q0.out (k:=3) (v:=.slice a3 cs.length k3) rfl
 have e0:=row_cell Q1.out (k:=0) (v:=.int .i64 ep) rfl
 have e1:=row_cell Q1.out (k:=1) (v:=.slice a4 rows.length k4) rfl
 have e2:=row_cell Q1.out (k:=2) (v:=.slice a5 owners.length k5) rfl
 have e3:=row_cell Q1.out (k:=3) (v:=.slice a6 cs.length k6) rfl
 have HSP:=Lib.hid (sameP_self rows owners)
 have HSQ:=Lib.hid (sameQ_self cs)
 have z1:(ep == ep) = true:=by simp
 go_enter Tryz.func36,Tryz.ntmps36
 go_wp2_with (rw [← HW.out])
 clear HW
 with_reducible refine (rSameP_any _ _ _ _ rows rows owners owners _ HR.out HO.out HR2.out HO2.out).mono ?_
 rintro e w2 ⟨rfl,hb2⟩
 replace c0:=below_cell hb2 c0
 replace c1:=below_cell hb2 c1
 replace c2:=below_cell hb2 c2
 replace c3:=below_cell hb2 c3
 replace e0:=below_cell hb2 e0
 replace e1:=below_cell hb2 e1
 replace e2:=below_cell hb2 e2
 replace e3:=below_cell hb2 e3
 replace HR:=Lib.hid (HR.out.below hb2)
 replace HO:=Lib.hid (HO.out.below hb2)
 replace HC:=Lib.hid (HC.out.below hb2)
 replace HR2:=Lib.hid (HR2.out.below hb2)
 replace HO2:=Lib.hid (HO2.out.below hb2)
 replace HC2:=Lib.hid (HC2.out.below hb2)
 replace HB:=Lib.hid (HB.out.trans (hb2.mono HB.out.size))
 clear hb2
 rw [HSP.out]
 go_wp2_with fail
 with_reducible refine (rSameInts34_any _ _ cs cs _ HC.out HC2.out).mono ?_
 rintro e w3 ⟨rfl,hb3⟩
 replace c0:=below_cell hb3 c0
 replace c1:=below_cell hb3 c1
 replace c2:=below_cell hb3 c2
 replace c3:=below_cell hb3 c3
 replace e0:=below_cell hb3 e0
 replace e1:=below_cell hb3 e1
 replace e2:=below_cell hb3 e2
 replace e3:=below_cell hb3 e3
 replace HR:=Lib.hid (HR.out.below hb3)
 replace HO:=Lib.hid (HO.out.below hb3)
 replace HC:=Lib.hid (HC.out.below hb3)
 replace HR2:=Lib.hid (HR2.out.below hb3)
 replace HO2:=Lib.hid (HO2.out.below hb3)
 replace HC2:=Lib.hid (HC2.out.below hb3)
 replace HB:=Lib.hid (HB.out.trans (hb3.mono HB.out.size))
 clear hb3
 rw [HSQ.out]
 go_wp2_with fail
 go_ret
 exact ⟨rfl,HB.out⟩
theorem rSmall37_any (rv ov:Value) (rows:List (List Int)) (owners:List Int) (w:World) (hR:Rows2 w rv rows) (hO:Ints w ov owners) :
  Calls Tryz.prog 84 #[.agg #[rv,ov]] w fun r w' => (∃ b,r = .returned (.bool b)) ∧ Below w.heap.size w w':=by
 obtain ⟨W1,hW1,hb1,hr1,hz⟩:=box_prog w rv ov 25
 have HR:=Lib.hid (hR.below hb1)
 obtain ⟨a1,k1,rfl,-,hl1,-⟩:=id hR
 obtain ⟨a2,k2,rfl,-,hl2,-⟩:=id hO
 have c0:=row_cell hr1 (k:=0) (v:=.slice a1 rows.length k1) rfl
 have c1:=row_cell hr1 (k:=1) (v:=.slice a2 owners.length k2) rfl
 have HW1:=Lib.hid hW1
 have HB:=Lib.hid hb1
 clear hR hO hb1 hr1 hW1 hz
 go_enter Tryz.func84,Tryz.ntmps84
 go_wp2_with (rw [← HW1.out])
 go_loopw [3] (fun i W => ∃ k:Nat,k ≤ rows.length ∧ i = .int .i64 k ∧ W = W1) (fun i _ => rows.length - (intOf i).toNat)
 case atStart => exact ⟨0,Nat.zero_le _,rfl,rfl⟩
 case round =>
  obtain ⟨k,hkl,rfl,rfl⟩:=hrel
  have i0:(0:Int) ≤ (k:Int):=by omega
  by_cases hin:k < rows.length ∧ k < 70
  ·have i1:(k:Int) < (rows.length:Int):=by omega
   have d1:decide ((k:Int) < (rows.length:Int)) = true:=decide_eq_true i1
   have d2:decide ((k:Int) < 70) = true:=decide_eq_true (by omega)
   obtain ⟨aa,cc,e1,-,-,hk⟩:=HR.out
   obtain ⟨b,off,r,ha,q1,hI⟩:=hk k hin.1
   simp only [Value.slice.injEq] at e1
   obtain ⟨rfl,-,rfl⟩:=e1
   subst ha
   obtain ⟨ra,rc,rfl,-⟩:=id hI
   have hkr:=hin.1
   clear hk hI
   generalize rows[k].length = m at *
   clear hin
   by_cases h1:6 < m
   ·have t1:decide ((6:Int) < (m:Int)) = true:=decide_eq_true (by omega)
    by_cases h2:m ≤ 64
    ·have t2:decide ((m:Int) ≤ 64) = true:=decide_eq_true (by omega)
     go_wp2_with fail
     go_ret
     exact ⟨⟨_,rfl⟩,HB.out⟩
    ·have t2:decide ((m:Int) ≤ 64) = false:=decide_eq_false (by omega)
     by_cases h3:70 < m
     ·have t3:decide ((70:Int) < (m:Int)) = true:=decide_eq_true (by omega)
      go_wp2_with fail
      go_ret
      exact ⟨⟨_,rfl⟩,HB.out⟩
     ·have t3:decide ((70:Int) < (m:Int)) = false:=decide_eq_false (by omega)
      go_wp2_with fail
      go_roundw
      case rel => exact ⟨k + 1,by omega,by go_num,by trivial⟩
      case measure => simp [intOf]; omega
   ·have t1:decide ((6:Int) < (m:Int)) = false:=decide_eq_false (by omega)
    have t3:decide ((70:Int) < (m:Int)) = false:=decide_eq_false (by omega)
    go_wp2_with fail
    go_roundw
    case rel => exact ⟨k + 1,by omega,by go_num,by trivial⟩
    case measure => simp [intOf]; omega
  ·by_cases hlt:k < rows.length
   ·have d1:decide ((k:Int) < (rows.length:Int)) = true:=decide_eq_true (by omega)
    have d2:decide ((k:Int) < 70) = false:=decide_eq_false (by omega)
    clear hin
    by_cases g1:rows.length ≤ 6
    ·have v1:decide ((rows.length:Int) ≤ 6) = true:=decide_eq_true (by omega)
     by_cases g4:owners.length ≤ 70
     ·have v4:decide ((owners.length:Int) ≤ 70) = true:=decide_eq_true (by omega)
      go_wp2_with fail
      go_ret
      exact ⟨⟨_,rfl⟩,HB.out⟩
     ·have v4:decide ((owners.length:Int) ≤ 70) = false:=decide_eq_false (by omega)
      go_wp2_with fail
      go_ret
      exact ⟨⟨_,rfl⟩,HB.out⟩
    ·have v1:decide ((rows.length:Int) ≤ 6) = false:=decide_eq_false (by omega)
     by_cases g2:64 < rows.length
     ·have v2:decide ((64:Int) < (rows.length:Int)) = true:=decide_eq_true (by omega)
      by_cases g3:rows.length ≤ 70
      ·have v3:decide ((rows.length:Int) ≤ 70) = true:=decide_eq_true (by omega)
       by_cases g4:owners.length ≤ 70
       ·have v4:decide ((owners.length:Int) ≤ 70) = true:=decide_eq_true (by omega)
        go_wp2_with fail
        go_ret
        exact ⟨⟨_,rfl⟩,HB.out⟩
       ·have v4:decide ((owners.length:Int) ≤ 70) = false:=decide_eq_false (by omega)
        go_wp2_with fail
        go_ret
        exact ⟨⟨_,rfl⟩,HB.out⟩
      ·have v3:decide ((rows.length:Int) ≤ 70) = false:=decide_eq_false (by omega)
       go_wp2_with fail
       go_ret
       exact ⟨⟨_,rfl⟩,HB.out⟩
     ·have v2:decide ((64:Int) < (rows.length:Int)) = false:=decide_eq_false (by omega)
      go_wp2_with fail
      go_ret
      exact ⟨⟨_,rfl⟩,HB.out⟩
   ·have d1:decide ((k:Int) < (rows.length:Int)) = false:=decide_eq_false (by omega)
    have d1':decide (k < rows.length) = false:=decide_eq_false hlt
    clear hin
    by_cases g1:rows.length ≤ 6
    ·have v1:decide ((rows.length:Int) ≤ 6) = true:=decide_eq_true (by omega)
     by_cases g4:owners.length ≤ 70
     ·have v4:decide ((owners.length:Int) ≤ 70) = true:=decide_eq_true (by omega)
      go_wp2_with fail
      go_ret
      exact ⟨⟨_,rfl⟩,HB.out⟩
     ·have v4:decide ((owners.length:Int) ≤ 70) = false:=decide_eq_false (by omega)
      go_wp2_with fail
      go_ret
      exact ⟨⟨_,rfl⟩,HB.out⟩
    ·have v1:decide ((rows.length:Int) ≤ 6) = false:=decide_eq_false (by omega)
     by_cases g2:64 < rows.length
     ·have v2:decide ((64:Int) < (rows.length:Int)) = true:=decide_eq_true (by omega)
      by_cases g3:rows.length ≤ 70
      ·have v3:decide ((rows.length:Int) ≤ 70) = true:=decide_eq_true (by omega)
       by_cases g4:owners.length ≤ 70
       ·have v4:decide ((owners.length:Int) ≤ 70) = true:=decide_eq_true (by omega)
        go_wp2_with fail
        go_ret
        exact ⟨⟨_,rfl⟩,HB.out⟩
       ·have v4:decide ((owners.length:Int) ≤ 70) = false:=decide_eq_false (by omega)
        go_wp2_with fail
        go_ret
        exact ⟨⟨_,rfl⟩,HB.out⟩
      ·have v3:decide ((rows.length:Int) ≤ 70) = false:=decide_eq_false (by omega)
       go_wp2_with fail
       go_ret
       exact ⟨⟨_,rfl⟩,HB.out⟩
     ·have v2:decide ((64:Int) < (rows.length:Int)) = false:=decide_eq_false (by omega)
      go_wp2_with fail
      go_ret
      exact ⟨⟨_,rfl⟩,HB.out⟩
theorem rFew37_any (rv ov kv lv:Value) (rows:List (List Int)) (owners keys:List Int) (l:List Dlg) (vs:DVals) (ca:Option Addr) (cn cc:Nat) (w:World) (hR:Rows2 w rv rows) (hO:Ints w ov owners) (hK:Ints w kv keys) (hL:Dlgs w lv l vs) (hcn:cn ≤ 17592186044416) :
  Calls Tryz.prog 25 #[.agg #[rv,ov],kv,lv,.slice ca cn cc] w fun r w' => (∃ b,r = .returned (.bool b)) ∧ Below w.heap.size w w':=by
 obtain ⟨W1,hW1,hb1,hr1,hz⟩:=box_prog w rv ov 25
 have HR:=Lib.hid (hR.below hb1)
 have HO:=Lib.hid (hO.below hb1)
 have HL:=Lib.hid (hL.below hb1)
 obtain ⟨a1,k1,rfl,-,hl1,-⟩:=id hR
 obtain ⟨a2,k2,rfl,-,hl2,-⟩:=id hO
 obtain ⟨a3,k3,rfl,-,hl3,-⟩:=id hK
 obtain ⟨a4,k4,rfl,-,hl4,-⟩:=id hL
 have c0:=row_cell hr1 (k:=0) (v:=.slice a1 rows.length k1) rfl
 have c1:=row_cell hr1 (k:=1) (v:=.slice a2 owners.length k2) rfl
 have HW1:=Lib.hid hW1
 have HB:=Lib.hid hb1
 have HSM:=Lib.hid (rSmall37_any _ _ rows owners W1 HR.out HO.out)
 clear hR hO hK hL hb1 hr1 hW1 hz
 go_enter Tryz.func25,Tryz.ntmps25
 go_wp2_with (rw [← HW1.out])
 go_loopw [9] (fun i W => ∃ k:Nat,k ≤ l.length ∧ i = .int .i64 k ∧ W = W1) (fun i _ => l.length - (intOf i).toNat)
 case atStart => exact ⟨0,Nat.zero_le _,rfl,rfl⟩
 case round =>
  obtain ⟨k,hkl,rfl,rfl⟩:=hrel
  have i0:(0:Int) ≤ (k:Int):=by omega
  by_cases hin:k < l.length ∧ k < 70
  ·have i1:(k:Int) < (l.length:Int):=by omega
   have d1:decide ((k:Int) < (l.length:Int)) = true:=decide_eq_true i1
   have d2:decide ((k:Int) < 70) = true:=decide_eq_true (by omega)
   obtain ⟨b,off,ea,hD⟩:=HL.out.at hin.1
   subst ea
   have y1:=hD.c1
   have y2:=hD.c2
   obtain ⟨ac,kc,hac,-⟩:=id hD.cs
   obtain ⟨ap,kp,hap,-⟩:=id hD.ps
   rw [hac] at y1
   rw [hap] at y2
   have hkr:=hin.1
   clear hD hac hap
   generalize l[k].cs.length = m at *
   generalize l[k].ps.length = p at *
   clear hin
   by_cases h1:70 < m
   ·have t1:decide ((70:Int) < (m:Int)) = true:=decide_eq_true (by omega)
    go_wp2_with fail
    go_ret
    exact ⟨⟨_,rfl⟩,HB.out⟩
   ·have t1:decide ((70:Int) < (m:Int)) = false:=decide_eq_false (by omega)
    by_cases h2:70 < p
    ·have t2:decide ((70:Int) < (p:Int)) = true:=decide_eq_true (by omega)
     go_wp2_with fail
     go_ret
     exact ⟨⟨_,rfl⟩,HB.out⟩
    ·have t2:decide ((70:Int) < (p:Int)) = false:=decide_eq_false (by omega)
     go_wp2_with fail
     go_roundw
     case rel => exact ⟨k + 1,by omega,by go_num,by trivial⟩
     case measure => simp [intOf]; omega
  ·by_cases hlt:k < l.length
   ·have d1:decide ((k:Int) < (l.length:Int)) = true:=decide_eq_true (by omega)
    have d2:decide ((k:Int) < 70) = false:=decide_eq_false (by omega)
    clear hin
    go_wp2_with fail
    with_reducible refine HSM.out.mono ?_
    rintro e w2 ⟨⟨b,rfl⟩,hb2⟩
    have HB2:=Lib.hid (HB.out.trans (hb2.mono HB.out.size))
    clear hb2
    cases b with
    | false =>
     go_wp2_with fail
     go_ret
     exact ⟨⟨_,rfl⟩,HB2.out⟩
    | true =>
    by_cases g2:keys.length ≤ 70
    ·have ug2:decide ((keys.length:Int) ≤ 70) = true:=decide_eq_true (by omega)
     by_cases g3:l.length ≤ 5
     ·have ug3:decide ((l.length:Int) ≤ 5) = true:=decide_eq_true (by omega)
      by_cases g6:cn ≤ 8
      ·have ug6:decide ((cn:Int) ≤ 8) = true:=decide_eq_true (by omega)
       go_wp2_with fail
       go_ret
       exact ⟨⟨_,rfl⟩,HB2.out⟩
      ·have ug6:decide ((cn:Int) ≤ 8) = false:=decide_eq_false (by omega)
       by_cases g7:4096 < cn
       ·have ug7:decide ((4096:Int) < (cn:Int)) = true:=decide_eq_true (by omega)
        by_cases g8:cn ≤ 4200
        ·have ug8:decide ((cn:Int) ≤ 4200) = true:=decide_eq_true (by omega)
         go_wp2_with fail
         go_ret
         exact ⟨⟨_,rfl⟩,HB2.out⟩
        ·have ug8:decide ((cn:Int) ≤ 4200) = false:=decide_eq_false (by omega)
         go_wp2_with fail
         go_ret
         exact ⟨⟨_,rfl⟩,HB2.out⟩
       ·have ug7:decide ((4096:Int) < (cn:Int)) = false:=decide_eq_false (by omega)
        go_wp2_with fail
        go_ret
        exact ⟨⟨_,rfl⟩,HB2.out⟩
     ·have ug3:decide ((l.length:Int) ≤ 5) = false:=decide_eq_false (by omega)
      by_cases g4:64 < l.length
      ·have ug4:decide ((64:Int) < (l.length:Int)) = true:=decide_eq_true (by omega)
       by_cases g5:l.length ≤ 70
       ·have ug5:decide ((l.length:Int) ≤ 70) = true:=decide_eq_true (by omega)
        by_cases g6:cn ≤ 8
        ·have ug6:decide ((cn:Int) ≤ 8) = true:=decide_eq_true (by omega)
         go_wp2_with fail
         go_ret
         exact ⟨⟨_,rfl⟩,HB2.out⟩
        ·have ug6:decide ((cn:Int) ≤ 8) = false:=decide_eq_false (by omega)
         by_cases g7:4096 < cn
         ·have ug7:decide ((4096:Int) < (cn:Int)) = true:=decide_eq_true (by omega)
          by_cases g8:cn ≤ 4200
          ·have ug8:decide ((cn:Int) ≤ 4200) = true:=decide_eq_true (by omega)
           go_wp2_with fail
           go_ret
           exact ⟨⟨_,rfl⟩,HB2.out⟩
          ·have ug8:decide ((cn:Int) ≤ 4200) = false:=decide_eq_false (by omega)
           go_wp2_with fail
           go_ret
           exact ⟨⟨_,rfl⟩,HB2.out⟩
         ·have ug7:decide ((4096:Int) < (cn:Int)) = false:=decide_eq_false (by omega)
          go_wp2_with fail
          go_ret
          exact ⟨⟨_,rfl⟩,HB2.out⟩
       ·have ug5:decide ((l.length:Int) ≤ 70) = false:=decide_eq_false (by omega)
        go_wp2_with fail
        go_ret
        exact ⟨⟨_,rfl⟩,HB2.out⟩
      ·have ug4:decide ((64:Int) < (l.length:Int)) = false:=decide_eq_false (by omega)
       go_wp2_with fail
       go_ret
       exact ⟨⟨_,rfl⟩,HB2.out⟩
    ·have ug2:decide ((keys.length:Int) ≤ 70) = false:=decide_eq_false (by omega)
     go_wp2_with fail
     go_ret
     exact ⟨⟨_,rfl⟩,HB2.out⟩
   ·have d1:decide ((k:Int) < (l.length:Int)) = false:=decide_eq_false (by omega)
    have d1':decide (k < l.length) = false:=decide_eq_false hlt
    clear hin
    go_wp2_with fail
    with_reducible refine HSM.out.mono ?_
    rintro e w2 ⟨⟨b,rfl⟩,hb2⟩
    have HB2:=Lib.hid (HB.out.trans (hb2.mono HB.out.size))
    clear hb2
    cases b with
    | false =>
     go_wp2_with fail
     go_ret
     exact ⟨⟨_,rfl⟩,HB2.out⟩
    | true =>
    by_cases g2:keys.length ≤ 70
    ·have ug2:decide ((keys.length:Int) ≤ 70) = true:=decide_eq_true (by omega)
     by_cases g3:l.length ≤ 5
     ·have ug3:decide ((l.length:Int) ≤ 5) = true:=decide_eq_true (by omega)
      by_cases g6:cn ≤ 8
      ·have ug6:decide ((cn:Int) ≤ 8) = true:=decide_eq_true (by omega)
       go_wp2_with fail
       go_ret
       exact ⟨⟨_,rfl⟩,HB2.out⟩
      ·have ug6:decide ((cn:Int) ≤ 8) = false:=decide_eq_false (by omega)
       by_cases g7:4096 < cn
       ·have ug7:decide ((4096:Int) < (cn:Int)) = true:=decide_eq_true (by omega)
        by_cases g8:cn ≤ 4200
        ·have ug8:decide ((cn:Int) ≤ 4200) = true:=decide_eq_true (by omega)
         go_wp2_with fail
         go_ret
         exact ⟨⟨_,rfl⟩,HB2.out⟩
        ·have ug8:decide ((cn:Int) ≤ 4200) = false:=decide_eq_false (by omega)
         go_wp2_with fail
         go_ret
         exact ⟨⟨_,rfl⟩,HB2.out⟩
       ·have ug7:decide ((4096:Int) < (cn:Int)) = false:=decide_eq_false (by omega)
        go_wp2_with fail
        go_ret
        exact ⟨⟨_,rfl⟩,HB2.out⟩
     ·have ug3:decide ((l.length:Int) ≤ 5) = false:=decide_eq_false (by omega)
      by_cases g4:64 < l.length
      ·have ug4:decide ((64:Int) < (l.length:Int)) = true:=decide_eq_true (by omega)
       by_cases g5:l.length ≤ 70
       ·have ug5:decide ((l.length:Int) ≤ 70) = true:=decide_eq_true (by omega)
        by_cases g6:cn ≤ 8
        ·have ug6:decide ((cn:Int) ≤ 8) = true:=decide_eq_true (by omega)
         go_wp2_with fail
         go_ret
         exact ⟨⟨_,rfl⟩,HB2.out⟩
        ·have ug6:decide ((cn:Int) ≤ 8) = false:=decide_eq_false (by omega)
         by_cases g7:4096 < cn
         ·have ug7:decide ((4096:Int) < (cn:Int)) = true:=decide_eq_true (by omega)
          by_cases g8:cn ≤ 4200
          ·have ug8:decide ((cn:Int) ≤ 4200) = true:=decide_eq_true (by omega)
           go_wp2_with fail
           go_ret
           exact ⟨⟨_,rfl⟩,HB2.out⟩
          ·have ug8:decide ((cn:Int) ≤ 4200) = false:=decide_eq_false (by omega)
           go_wp2_with fail
           go_ret
           exact ⟨⟨_,rfl⟩,HB2.out⟩
         ·have ug7:decide ((4096:Int) < (cn:Int)) = false:=decide_eq_false (by omega)
          go_wp2_with fail
          go_ret
          exact ⟨⟨_,rfl⟩,HB2.out⟩
       ·have ug5:decide ((l.length:Int) ≤ 70) = false:=decide_eq_false (by omega)
        go_wp2_with fail
        go_ret
        exact ⟨⟨_,rfl⟩,HB2.out⟩
      ·have ug4:decide ((64:Int) < (l.length:Int)) = false:=decide_eq_false (by omega)
       go_wp2_with fail
       go_ret
       exact ⟨⟨_,rfl⟩,HB2.out⟩
    ·have ug2:decide ((keys.length:Int) ≤ 70) = false:=decide_eq_false (by omega)
     go_wp2_with fail
     go_ret
     exact ⟨⟨_,rfl⟩,HB2.out⟩
end Go.Proofs.YtggnipkfliompaaGreatDoor
