/- The reference of package program: SameInts, Same, Has. The reference of package program: Has, People, Columns, Few; the laws' product. The reference of package program: Few; the laws' product. -/
import Derived.Test.YtggnipkfliompaaGreatDoorMRegF
set_option maxHeartbeats 4000000
set_option maxRecDepth 100000
namespace Go.Proofs.YtggnipkfliompaaGreatDoor
open Go.RowKit FP
theorem rSameInts23_any (v u:Value) (a b:List Int) (w:World) (hI:Ints w v a) (hJ:Ints w u b) :
  Calls Tryz.prog 173 #[v,u] w fun e w' => e = .returned (.bool (sameQ a b)) ∧ Below w.heap.size w w':=by
 obtain ⟨pa,ca,rfl,ha1,ha2,ha3,hka⟩:=hI
 obtain ⟨pb,cb,rfl,hb1,hb2,hb3,hkb⟩:=hJ
 by_cases hl:a.length = b.length
 ·have hl':((a.length:Int) != (b.length:Int)) = false:=by rw [hl]; simp
  have HL:=Lib.hid hl
  have hb1:a.length ≤ cb:=by omega
  have hcells:∀ k (h:k < a.length),∃ y,y = b[k]'(by rw [← HL.out]; exact h) ∧ ∃ q off,pb = some ⟨q,off,none⟩ ∧ w.cell? ⟨q,off + k,none⟩ = some (.int .i64 y):=fun k h => ⟨_,rfl,hkb k (by omega)⟩
  rw [← hl] at hl' ⊢
  clear hl hb2
  clear hkb
  go_enter Tryz.func173,Tryz.ntmps173
  go_wp2_with fail
  go_loopw [5] (fun i wr => ∃ k:Nat,k ≤ a.length ∧ i = .int .i64 k ∧ Hid (∀ j (h1:j < a.length) (h2:j < b.length),j < k → a[j] = b[j]) ∧ Below w.heap.size w wr) (fun i _ => a.length - (intOf i).toNat)
  case atStart => exact ⟨0,Nat.zero_le _,rfl,Lib.hid fun j _ _ h => absurd h (Nat.not_lt_zero _),Below.refl _ _⟩
  case round =>
   obtain ⟨k,hkl,rfl,HP,hb⟩:=hrel
   by_cases hlt:k < a.length
   ·obtain ⟨p,off,rfl,hc⟩:=hka k hlt
    obtain ⟨y,hy,p',off',rfl,hc'⟩:=hcells k hlt
    have hc:=below_cell hb hc
    have hc':=below_cell hb hc'
    obtain ⟨x,hx⟩:∃ x,x = a[k]:=⟨_,rfl⟩
    rw [← hx] at hc
    have i1:(0:Int) ≤ (k:Int):=by omega
    have i2:(k:Int) < (a.length:Int):=by omega
    have HX:=Lib.hid hx
    have HY:=Lib.hid hy
    clear hcells hka hx hy
    by_cases he:x = y
    ·have he':(x != y) = false:=by simpa using he
     have HN:=Lib.hid (show ∀ j (h1:j < a.length) (h2:j < b.length),j < k + 1 → a[j] = b[j] from fun j h1 h2 h3 => by
      by_cases e:j = k
      ·subst e; rw [← HX.out,← HY.out,he]
      ·exact HP.out j h1 h2 (by omega))
     clear he
     go_wp2_with fail
     go_quiet (fail)
     go_wp2_with fail
     go_roundw
     case rel => exact ⟨k + 1,by omega,by go_num,HN,below_drewN hb _⟩
     case measure => simp [intOf]; omega
    ·have he':(x != y) = true:=by simpa using he
     have HN:=Lib.hid (sameQ_at hlt (by rw [← HL.out]; exact hlt) (by rw [← HX.out,← HY.out]; exact he))
     clear he
     go_wp2_with fail
     go_quiet (fail)
     go_wp2_with fail
     go_ret
     exact ⟨ret_bool HN.out.symm,below_drewN hb _⟩
   ·have HN:=Lib.hid (sameQ_all HL.out fun k h1 h2 => HP.out k h1 h2 (by omega))
    go_wp2_with fail
    go_ret
    exact ⟨ret_bool HN.out.symm,hb⟩
 ·have hl':((a.length:Int) != (b.length:Int)) = true:=by rw [bne_iff_ne]; omega
  have HL:=Lib.hid (sameQ_len hl)
  clear hl
  go_enter Tryz.func173,Tryz.ntmps173
  go_wp2_with fail
  go_ret
  exact ⟨ret_bool HL.out.symm,Below.refl _ _⟩
theorem rSame23_is (v u:Value) (a b:List Int) (c:Bool) (w:World) (hI:Ints w v a) (hJ:Ints w u b) (hc:sameQ a b = c) :
  Calls Tryz.prog 173 #[v,u] w fun r w' => r = .returned (.bool c) ∧ Below w.heap.size w w':=
 (rSameInts23_any v u a b w hI hJ).mono fun r w' ⟨h1,h2⟩ => ⟨by rw [h1,hc],h2⟩
theorem Ints.drew {w:World} {v:Value} {zs:List Int} (h:Ints w v zs):Ints w.drew v zs:=h.below (Below.refl _ _).drew
def sameP (rows rows2:List (List Int)) (owners owners2:List Int):Bool:=decide (rows = rows2) && sameQ owners owners2
theorem sameP_len {r s:List (List Int)} {o p:List Int} (h:r.length ≠ s.length):sameP r s o p = false:=by
 unfold sameP
 rw [decide_eq_false (fun e => h (by rw [e]))]; rfl
theorem sameP_own {r s:List (List Int)} {o p:List Int} (h:sameQ o p = false):sameP r s o p = false:=by
 unfold sameP; rw [h,Bool.and_false]
theorem sameP_at {r s:List (List Int)} {o p:List Int} {k:Nat} (h1:k < r.length) (h2:k < s.length) (h:sameQ r[k] s[k] = false):sameP r s o p = false:=by
 unfold sameP
 rw [decide_eq_false (fun e => (of_decide_eq_false h) (by subst e; rfl))]; rfl
theorem sameP_all {r s:List (List Int)} {o p:List Int} (h:r.length = s.length) (ho:sameQ o p = true) (h1:∀ k (h1:k < r.length) (h2:k < s.length),r[k] = s[k]):sameP r s o p = true:=by
 unfold sameP
 rw [decide_eq_true (List.ext_getElem h h1),ho]; rfl
theorem rSameP_any (rv ov rv2 ov2:Value) (r s:List (List Int)) (o p:List Int) (w:World) (hR:Rows2 w rv r) (hO:Ints w ov o) (hS:Rows2 w rv2 s) (hP:Ints w ov2 p) :
  Calls Tryz.prog 110 #[.agg #[rv,ov],.agg #[rv2,ov2]] w fun e w' => e = .returned (.bool (sameP r s o p)) ∧ Below w.heap.size w w':=by
 obtain ⟨W1,hW1,hb1,hr1,hz⟩:=box_prog w rv ov 25
 obtain ⟨W2,hW2,hb2,hr2,hz2⟩:=box_prog W1 rv2 ov2 25
 have hs1:W1.heap.size = w.heap.size + 1:=by rw [hW1]; simp
 have hb:=hb1.trans (hb2.mono hb1.size)
 have HR:=Lib.hid (hR.below hb)
 have HO:=Lib.hid (hO.below hb)
 have HS:=Lib.hid (hS.below hb)
 have HP:=Lib.hid (hP.below hb)
 have hr1':=(hb2.block _ hz).trans hr1
 rw [hs1] at hr2
 obtain ⟨ar,cr,rfl,-,hlr,hkr⟩:=hR
 obtain ⟨ao,co,rfl,-,hlo,-⟩:=hO
 obtain ⟨a5,cs,rfl,-,hls,hks⟩:=hS
 obtain ⟨a6,cp,rfl,-,hlp,-⟩:=hP
 have c0:W2.cell? ⟨w.heap.size,0,none⟩ = some (.slice ar r.length cr):=row_cell hr1' rfl
 have c1:W2.cell? ⟨w.heap.size,1,none⟩ = some (.slice ao o.length co):=row_cell hr1' rfl
 have c2:W2.cell? ⟨w.heap.size + 1,0,none⟩ = some (.slice a5 s.length cs):=row_cell hr2 rfl
 have c3:W2.cell? ⟨w.heap.size + 1,1,none⟩ = some (.slice a6 p.length cp):=row_cell hr2 rfl
 have HB:=Lib.hid hb
 have HW:Hid (W2 = (w.alloc (.cells #[.slice ar r.length cr,.slice ao o.length co] 25)).alloc (.cells #[.slice a5 s.length cs,.slice a6 p.length cp] 25)):=Lib.hid (by rw [hW2,hW1])
 clear hkr hks hr1 hr1' hr2 hb1 hb2 hb hz hz2 hW1 hW2 hs1
 by_cases hl:r.length = s.length
 rotate_left
 ·have hq:((r.length:Int) != (s.length:Int)) = true:=by rw [bne_iff_ne]; omega
  have HV:=Lib.hid (sameP_len (o:=o) (p:=p) hl)
  clear hl
  go_enter Tryz.func110,Tryz.ntmps110
  go_wp2_with (rw [← HW.out])
  go_ret
  exact ⟨ret_bool HV.out.symm,HB.out⟩
 ·have hq:((r.length:Int) != (s.length:Int)) = false:=by rw [hl]; simp
  have HL:=Lib.hid hl
  clear hl
  cases hso:sameQ o p with
  | false =>
   have HV:=Lib.hid (sameP_own (r:=r) (s:=s) hso)
   have HSO:=Lib.hid hso
   clear hso
   go_enter Tryz.func110,Tryz.ntmps110
   go_wp2_with (rw [← HW.out])
   with_reducible refine (rSame23_is _ _ o p false W2 HO.out HP.out HSO.out).mono ?_
   rintro e w3 ⟨rfl,hb3⟩
   have HB3:=Lib.hid (below_later HB.out (Nat.le_refl _) hb3)
   clear hb3
   go_wp2_with fail
   go_ret
   exact ⟨ret_bool HV.out.symm,HB3.out⟩
  | true =>
   have HSO:=Lib.hid hso
   clear hso
   go_enter Tryz.func110,Tryz.ntmps110
   go_wp2_with (rw [← HW.out])
   with_reducible refine (rSame23_is _ _ o p true W2 HO.out HP.out HSO.out).mono ?_
   rintro e w3 ⟨rfl,hb3⟩
   have HB3:=Lib.hid hb3
   have HB4:=Lib.hid (below_later HB.out (Nat.le_refl _) hb3)
   have c0:=below_cell hb3 c0
   have c2:=below_cell hb3 c2
   have HR:=Lib.hid (HR.out.below hb3)
   have HS:=Lib.hid (HS.out.below hb3)
   clear hb3 c1 c3
   go_wp2_with fail
   go_loopw [5] (fun i W => ∃ k:Nat,k ≤ r.length ∧ i = .int .i64 k ∧ Hid (∀ j (h1:j < r.length) (h2:j < s.length),j < k → r[j] = s[j]) ∧ Below w3.heap.size w3 W) (fun i _ => r.length - (intOf i).toNat)
   case atStart => exact ⟨0,Nat.zero_le _,rfl,Lib.hid fun j _ _ h => absurd h (Nat.not_lt_zero _),Below.refl _ _⟩
   case round =>
    obtain ⟨k,hkl,rfl,HPR,hb⟩:=hrel
    have HBW:=Lib.hid hb
    have y0:=below_cell hb c0
    have y2:=below_cell hb c2
    by_cases hlt:k < r.length
    ·obtain ⟨a1,cc1,e1,-,-,hk1⟩:=HR.out
     obtain ⟨b1,o1,v1,ea1,q1,i1⟩:=hk1 k hlt
     simp only [Value.slice.injEq] at e1
     obtain ⟨rfl,-,-⟩:=e1
     subst ea1
     have hls2:k < s.length:=by rw [← HL.out]; exact hlt
     obtain ⟨a2,cc2,e2,-,-,hk2⟩:=HS.out
     obtain ⟨b2,o2,v2,ea2,q2,i2⟩:=hk2 k hls2
     simp only [Value.slice.injEq] at e2
     obtain ⟨rfl,-,-⟩:=e2
     subst ea2
     have y1:=below_cell hb q1
     have y3:=below_cell hb q2
     have HI1:=Lib.hid (i1.below hb)
     have HI2:=Lib.hid (i2.below hb)
     have j0:(0:Int) ≤ (k:Int):=by omega
     have j1:(k:Int) < (r.length:Int):=by omega
     have j2:(k:Int) < (s.length:Int):=by omega
     clear hk1 hk2 i1 i2 q1 q2 hb
     cases he:sameQ r[k] s[k] with
     | false =>
      have HV:=Lib.hid (sameP_at (o:=o) (p:=p) hlt hls2 he)
      have HE:=Lib.hid he
      clear he
      have y0d:wr.drew.cell? ⟨w.heap.size,0,none⟩ = some (.slice (some ⟨b1,o1,none⟩) r.length cr):=y0
      have y1d:wr.drew.cell? ⟨b1,o1 + k,none⟩ = some v1:=y1
      have y2d:wr.drew.cell? ⟨w.heap.size + 1,0,none⟩ = some (.slice (some ⟨b2,o2,none⟩) s.length cs):=y2
      have y3d:wr.drew.cell? ⟨b2,o2 + k,none⟩ = some v2:=y3
      have HBD:=Lib.hid (below_later HB4.out (Nat.le_refl _) HBW.out.drew)
      go_wp2_with fail
      go_region_held3 (fun w' => w'.cell? ⟨w.heap.size,0,none⟩ = some (.slice (some ⟨b1,o1,none⟩) r.length cr) ∧ w'.cell? ⟨w.heap.size + 1,0,none⟩ = some (.slice (some ⟨b2,o2,none⟩) s.length cs) ∧ w'.cell? ⟨b1,o1 + k,none⟩ = some v1 ∧ w'.cell? ⟨b2,o2 + k,none⟩ = some v2) (go_keep)
       ((go_at_call 173; with_reducible refine (rSame23_is _ _ r[k] s[k] false _ HI1.out.drew HI2.out.drew HE.out).mono ?_; rintro e w6 ⟨rfl,hb7⟩; have k0:=below_cell hb7 y0d; have k1:=below_cell hb7 y1d; have k2:=below_cell hb7 y2d; have k3:=below_cell hb7 y3d))
      go_wp2_with fail
      go_ret
      exact ⟨ret_bool HV.out.symm,below_later HBD.out (Nat.le_refl _) hb7⟩
     | true =>
      have HN:=Lib.hid (show ∀ j (h1:j < r.length) (h2:j < s.length),j < k + 1 → r[j] = s[j] from fun j h1 h2 h3 => by
       by_cases e:j = k
       ·subst e; exact of_decide_eq_true he
       ·exact HPR.out j h1 h2 (by omega))
      have HE:=Lib.hid he
      clear he
      have y0d:wr.drew.cell? ⟨w.heap.size,0,none⟩ = some (.slice (some ⟨b1,o1,none⟩) r.length cr):=y0
      have y1d:wr.drew.cell? ⟨b1,o1 + k,none⟩ = some v1:=y1
      have y2d:wr.drew.cell? ⟨w.heap.size + 1,0,none⟩ = some (.slice (some ⟨b2,o2,none⟩) s.length cs):=y2
      have y3d:wr.drew.cell? ⟨b2,o2 + k,none⟩ = some v2:=y3
      have HBD:=Lib.hid HBW.out.drew
      go_wp2_with fail
      go_region_held3 (fun w' => w'.cell? ⟨w.heap.size,0,none⟩ = some (.slice (some ⟨b1,o1,none⟩) r.length cr) ∧ w'.cell? ⟨w.heap.size + 1,0,none⟩ = some (.slice (some ⟨b2,o2,none⟩) s.length cs) ∧ w'.cell? ⟨b1,o1 + k,none⟩ = some v1 ∧ w'.cell? ⟨b2,o2 + k,none⟩ = some v2) (go_keep)
       ((go_at_call 173; with_reducible refine (rSame23_is _ _ r[k] s[k] true _ HI1.out.drew HI2.out.drew HE.out).mono ?_; rintro e w6 ⟨rfl,hb7⟩; have k0:=below_cell hb7 y0d; have k1:=below_cell hb7 y1d; have k2:=below_cell hb7 y2d; have k3:=below_cell hb7 y3d))
      go_wp2_with fail
      go_roundw
      case rel => exact ⟨k + 1,by omega,by go_num,HN,below_later HBD.out (Nat.le_refl _) hb7⟩
      case measure => simp [intOf]; omega
    ·have HV:=Lib.hid (sameP_all (o:=o) (p:=p) HL.out HSO.out fun j h1 h2 => HPR.out j h1 h2 (by omega))
     have HF:=Lib.hid (below_later HB4.out (Nat.le_refl _) HBW.out)
     obtain rfl:k = r.length:=by omega
     clear hb
     go_wp2_with fail
     go_ret
     exact ⟨ret_bool HV.out.symm,HF.out⟩
end Go.Proofs.YtggnipkfliompaaGreatDoor
namespace Go.Proofs.YtggnipkfliompaaGreatDoor
open Go.RowKit FP
theorem rCols_any (rv ov:Value) (rows:List (List Int)) (w:World) (hR:Rows2 w rv rows) (ho:∃ a n c,ov = .slice a n c) :
  Calls Tryz.prog 46 #[.agg #[rv,ov]] w fun e w' => e = .returned (.int .i64 (colsQ rows)) ∧ Below w.heap.size w w':=by
 obtain ⟨oa,on,oc,rfl⟩:=ho
 obtain ⟨W1,hW1,hb1,hr1,hz⟩:=box_prog w rv (.slice oa on oc) 25
 have HR:=Lib.hid (hR.below hb1)
 obtain ⟨a,cap,rfl,-,hlen,-⟩:=id hR
 have c0:W1.cell? ⟨w.heap.size,0,none⟩ = some (.slice a rows.length cap):=row_cell hr1 rfl
 have HB:=Lib.hid hb1
 have HW:=Lib.hid hW1
 clear hR hr1 hb1 hW1 hz
 by_cases h0:rows.length = 0
 ·have hq:((rows.length:Int) == 0) = true:=by rw [h0]; rfl
  have HV:Hid ((1:Int) = (colsQ rows:Int)):=Lib.hid (by obtain rfl:rows = []:=List.length_eq_zero_iff.1 h0; rfl)
  clear h0
  go_enter Tryz.func46,Tryz.ntmps46
  go_wp2_with (rw [← HW.out])
  go_ret
  exact ⟨ret_int HV.out,HB.out⟩
 ·have hq:((rows.length:Int) == 0) = false:=beq_eq_false_iff_ne.2 (by omega)
  obtain ⟨a9,c9,e9,-,-,hk⟩:=HR.out
  obtain ⟨b,off,r,ea,hc,hr⟩:=hk 0 (by omega)
  simp only [Value.slice.injEq] at e9
  obtain ⟨rfl,-,-⟩:=e9
  subst ea
  obtain ⟨a8,c8,rfl,-⟩:=id hr
  have HV:Hid ((rows[0].length:Int) = (colsQ rows:Int)):=Lib.hid (by
   cases rows with
   | nil => exact absurd rfl h0
   | cons x t => rfl)
  rw [Nat.add_zero] at hc
  have i0:(0:Int) < (rows.length:Int):=by omega
  clear hk hr
  generalize rows[0].length = m at *
  go_enter Tryz.func46,Tryz.ntmps46
  go_wp2_with (rw [← HW.out])
  go_ret
  exact ⟨ret_int HV.out,HB.out⟩
end Go.Proofs.YtggnipkfliompaaGreatDoor
namespace Go.Proofs.YtggnipkfliompaaGreatDoor
open Go.RowKit FP
end Go.Proofs.YtggnipkfliompaaGreatDoor
