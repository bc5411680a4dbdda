/- The reference of parcels: what is right; the examples. The reference of keygen: Keys, Fine, Right, Dealers. Package keygen, in plain Lean: what the laws say. Package keygen, in plain Lean: all deal as Deal does. -/
import Derived.Test.YtggnipkfliompaaGreatDoorMParF
import Derived.Test.YtggnipkfliompaaGreatDoorMKgA
import Derived.Test.YtggnipkfliompaaGreatDoorMLinU
import Derived.Test.YtggnipkfliompaaGreatDoorMDeaA
set_option maxHeartbeats 8000000
set_option maxRecDepth 100000
namespace Go.Proofs.YtggnipkfliompaaGreatDoor
open Go.RowKit FP
theorem secret35_any (n:Int) (w:World):Calls Tryz.prog 96 #[.int .i64 n] w fun r w' => r = .returned (.bool (inB n 1 1073741788)) ∧ w = w':=by
 by_cases h1:1 ≤ n
 ·have H:=Lib.hid (show inB n 1 1073741788 = decide (n < 1073741789) by unfold inB; rw [decide_eq_true h1,Bool.true_and,lt_le_dec])
  go_enter Tryz.func96,Tryz.ntmps96
  go_wp2_with fail
  go_ret
  exact ⟨ret_bool H.out.symm,rfl⟩
 ·have H:=Lib.hid (show inB n 1 1073741788 = false by unfold inB; rw [decide_eq_false h1,Bool.false_and])
  go_enter Tryz.func96,Tryz.ntmps96
  go_wp2_with fail
  go_ret
  exact ⟨ret_bool H.out.symm,rfl⟩
theorem number35_any (n:Int) (w:World):Calls Tryz.prog 166 #[.int .i64 n] w fun r w' => r = .returned (.bool (inB n 0 1073741788)) ∧ w = w':=by
 by_cases h1:0 ≤ n
 ·have H:=Lib.hid (show inB n 0 1073741788 = decide (n < 1073741789) by unfold inB; rw [decide_eq_true h1,Bool.true_and,lt_le_dec])
  go_enter Tryz.func166,Tryz.ntmps166
  go_wp2_with fail
  go_ret
  exact ⟨ret_bool H.out.symm,rfl⟩
 ·have H:=Lib.hid (show inB n 0 1073741788 = false by unfold inB; rw [decide_eq_false h1,Bool.false_and])
  go_enter Tryz.func166,Tryz.ntmps166
  go_wp2_with fail
  go_ret
  exact ⟨ret_bool H.out.symm,rfl⟩
theorem person35_any (n:Int) (w:World):Calls Tryz.prog 134 #[.int .i64 n] w fun r w' => r = .returned (.bool (inB n 0 63)) ∧ w = w':=by
 by_cases h1:0 ≤ n
 ·have H:=Lib.hid (show inB n 0 63 = decide (n < 64) by unfold inB; rw [decide_eq_true h1,Bool.true_and,lt_le_64])
  go_enter Tryz.func134,Tryz.ntmps134
  go_wp2_with fail
  go_ret
  exact ⟨ret_bool H.out.symm,rfl⟩
 ·have H:=Lib.hid (show inB n 0 63 = false by unfold inB; rw [decide_eq_false h1,Bool.false_and])
  go_enter Tryz.func134,Tryz.ntmps134
  go_wp2_with fail
  go_ret
  exact ⟨ret_bool H.out.symm,rfl⟩
theorem row35_any (n:Int) (w:World):Calls Tryz.prog 165 #[.int .i64 n] w fun r w' => r = .returned (.bool (inB n 0 63)) ∧ w = w':=by
 by_cases h1:0 ≤ n
 ·have H:=Lib.hid (show inB n 0 63 = decide (n < 64) by unfold inB; rw [decide_eq_true h1,Bool.true_and,lt_le_64])
  go_enter Tryz.func165,Tryz.ntmps165
  go_wp2_with fail
  go_ret
  exact ⟨ret_bool H.out.symm,rfl⟩
 ·have H:=Lib.hid (show inB n 0 63 = false by unfold inB; rw [decide_eq_false h1,Bool.false_and])
  go_enter Tryz.func165,Tryz.ntmps165
  go_wp2_with fail
  go_ret
  exact ⟨ret_bool H.out.symm,rfl⟩
theorem cell_agg3 (w:World) (a b c:Int) (t:TypeId):Below w.heap.size w (w.alloc (.cells #[.int .i64 a,.int .i64 b,.int .i64 c] t)) ∧ (w.alloc (.cells #[.int .i64 a,.int .i64 b,.int .i64 c] t)).cell? ⟨w.heap.size,0,none⟩ = some (.int .i64 a) ∧ (w.alloc (.cells #[.int .i64 a,.int .i64 b,.int .i64 c] t)).cell? ⟨w.heap.size,1,none⟩ = some (.int .i64 b) ∧ (w.alloc (.cells #[.int .i64 a,.int .i64 b,.int .i64 c] t)).cell? ⟨w.heap.size,2,none⟩ = some (.int .i64 c):=by
 have h:=World.alloc_heap_new w (.cells #[.int .i64 a,.int .i64 b,.int .i64 c] t)
 exact ⟨below_new _ _ _,row_cell h rfl,row_cell h rfl,row_cell h rfl⟩
theorem right35_any (row pt c:Int) (w:World) (hp:R64 pt) :
  Calls Tryz.prog 135 #[.agg #[.int .i64 row,.int .i64 pt,.int .i64 c]] w fun r w' => r = .returned (.bool (rightB row pt c)) ∧ Below w.heap.size w w':=by
 obtain ⟨hb,c0,c1,c2⟩:=cell_agg3 w row pt c 49
 have HB:=Lib.hid hb
 clear hb
 go_enter Tryz.func135,Tryz.ntmps135
 go_wp2_with fail
 with_reducible refine (row35_any row _).mono ?_
 rintro r w1 ⟨rfl,rfl⟩
 cases e1:inB row 0 63 with
 | false =>
  have E1:=Lib.hid e1
  clear e1
  go_wp2_with fail
  go_ret
  exact ⟨ret_bool (by unfold rightB; rw [E1.out]; rfl),HB.out⟩
 | true =>
  have E1:=Lib.hid e1
  clear e1
  go_wp2_with fail
  with_reducible refine (rvalid_any _ _ hp).mono ?_
  rintro r w1 ⟨rfl,rfl⟩
  cases e2:elB pt with
  | false =>
   have E2:=Lib.hid e2
   clear e2
   go_wp2_with fail
   go_ret
   exact ⟨ret_bool (by unfold rightB; rw [E1.out,E2.out]; rfl),HB.out⟩
  | true =>
   have E2:=Lib.hid e2
   clear e2
   go_wp2_with fail
   with_reducible refine (number35_any c _).mono ?_
   rintro r w1 ⟨rfl,rfl⟩
   go_wp2_with fail
   go_ret
   exact ⟨ret_bool (by unfold rightB; rw [E1.out,E2.out,Bool.true_and,Bool.true_and]),HB.out⟩
end Go.Proofs.YtggnipkfliompaaGreatDoor
namespace Go.Proofs.YtggnipkfliompaaGreatDoor
open Go.RowKit FP
theorem keys_long {owners keys:List Int} (h:¬ keys.length ≤ 64):keysB owners keys = false:=by unfold keysB; rw [decide_eq_false h]; rfl
theorem keys_odd {owners keys:List Int} {k:Nat} (h:k < keys.length) (ho:oddK keys[k] = true):keysB owners keys = false:=by
 unfold keysB; rw [List.any_eq_true.2 ⟨_,List.getElem_mem h,ho⟩]; simp
theorem keys_miss {owners keys:List Int} {k:Nat} (h:k < owners.length) (ho:missK keys owners[k] = true):keysB owners keys = false:=by
 unfold keysB; rw [List.any_eq_true.2 ⟨_,List.getElem_mem h,ho⟩]; simp
theorem keys_all {owners keys:List Int} (h1:keys.length ≤ 64) (h2:∀ k (h:k < keys.length),oddK keys[k] = false) (h3:∀ k (h:k < owners.length),missK keys owners[k] = false):keysB owners keys = true:=by
 unfold keysB
 rw [decide_eq_true h1,Bool.true_and,Bool.and_eq_true,Bool.not_eq_true',Bool.not_eq_true']
 refine ⟨List.any_eq_false.2 fun x hx => ?_,List.any_eq_false.2 fun x hx => ?_⟩
 ·obtain ⟨k,hk,rfl⟩:=List.getElem_of_mem hx; simp [h2 k hk]
 ·obtain ⟨k,hk,rfl⟩:=List.getElem_of_mem hx; simp [h3 k hk]
theorem rKeys_any (rv ov kv:Value) (owners keys:List Int) (w:World) (hR:∃ a n c,rv = .slice a n c) (hO:Ints w ov owners) (hK:Ints w kv keys) (h0:∀ o ∈ owners,0 ≤ o) :
  Calls Tryz.prog 95 #[.agg #[rv,ov],kv] w fun r w' => r = .returned (.bool (keysB owners keys)) ∧ Below w.heap.size w w':=by
 obtain ⟨W1,hW1,hb1,hr1,hz⟩:=box_prog w rv ov 25
 have HO:=Lib.hid (hO.below hb1)
 have HK:=Lib.hid (hK.below hb1)
 obtain ⟨a1,n1,k1,rfl⟩:=hR
 obtain ⟨a2,k2,rfl,-,hl2,-⟩:=id hO
 obtain ⟨a3,k3,rfl,-,hl3,hr3,-⟩:=id hK
 have c1:=row_cell hr1 (k:=1) (v:=.slice a2 owners.length k2) rfl
 have HW1:=Lib.hid hW1
 have HB:=Lib.hid hb1
 have HR64:=Lib.hid hr3
 have H0:=Lib.hid h0
 have HKL:=Lib.hid (fun h => keys_long (owners:=owners) (keys:=keys) h)
 have HKO:=Lib.hid (fun k h ho => keys_odd (owners:=owners) (keys:=keys) (k:=k) h ho)
 have HKM:=Lib.hid (fun k h ho => keys_miss (owners:=owners) (keys:=keys) (k:=k) h ho)
 have HKA:=Lib.hid (fun h1 h2 h3 => keys_all (owners:=owners) (keys:=keys) h1 h2 h3)
 clear hO hK hb1 hr1 hW1 hz hr3 h0
 by_cases hl:keys.length ≤ 64
 rotate_left
 ·have HV:=Lib.hid (HKL.out hl)
  have d0:decide ((64:Int) < (keys.length:Int)) = true:=decide_eq_true (by omega)
  clear hl
  go_enter Tryz.func95,Tryz.ntmps95
  go_wp2_with (rw [← HW1.out])
  go_ret
  exact ⟨ret_bool HV.out.symm,HB.out⟩
 have HL:=Lib.hid hl
 have d0:decide ((64:Int) < (keys.length:Int)) = false:=decide_eq_false (by omega)
 have d0':decide (64 < keys.length) = false:=decide_eq_false (by omega)
 clear hl
 go_enter Tryz.func95,Tryz.ntmps95
 go_wp2_with (rw [← HW1.out])
 go_loopw [5] (fun i W => ∃ k:Nat,k ≤ keys.length ∧ i = .int .i64 k ∧ Hid (∀ j (h:j < keys.length),j < k → oddK keys[j] = false) ∧ W = W1) (fun i _ => keys.length - (intOf i).toNat)
 case atStart => exact ⟨0,Nat.zero_le _,rfl,Lib.hid (fun j _ h => absurd h (Nat.not_lt_zero j)),rfl⟩
 case round =>
  obtain ⟨k,hkl,rfl,HP,rfl⟩:=hrel
  by_cases hlt:k < keys.length
  ·obtain ⟨-,b1,o1,n2,cc1,e1,q1⟩:=HK.out.get hlt
   simp only [Value.slice.injEq] at e1
   obtain ⟨rfl,-,-⟩:=e1
   rw [nth_at hlt] at q1
   have hx64:R64 keys[k]:=HR64.out _ (List.getElem_mem hlt)
   have HVN:=Lib.hid (fun h => HKO.out k hlt h)
   obtain ⟨x,hx⟩:∃ x,x = keys[k]:=⟨_,rfl⟩
   rw [← hx] at q1 hx64 HVN
   have HX:=Lib.hid hx
   have i0:(0:Int) ≤ (k:Int):=by omega
   have i1:(k:Int) < (keys.length:Int):=by omega
   clear hx
   by_cases hz:x = 0
   ·have e0:(x != 0) = false:=by rw [hz]; rfl
    have HN:=Lib.hid (show ∀ j (h:j < keys.length),j < k + 1 → oddK keys[j] = false from fun j h h1 => by
     by_cases e:j = k
     ·subst e; rw [← HX.out,hz]; rfl
     ·exact HP.out j h (by omega))
    clear hz hx64
    go_wp2_with fail
    go_roundw
    case rel => exact ⟨k + 1,by omega,by go_num,HN,by trivial⟩
    case measure => simp [intOf]; omega
   ·have e0:(x != 0) = true:=bne_iff_ne.2 hz
    have HVA:=Lib.hid (fun w => rvalid_any x w hx64)
    have HOX:Hid (oddK x = !elB x):=Lib.hid (by unfold oddK; rw [beq_eq_false_iff_ne.2 hz]; rfl)
    clear hz hx64
    go_wp2_with fail
    with_reducible refine (HVA.out _).mono ?_
    rintro r w2 ⟨rfl,rfl⟩
    cases he:elB x with
    | true =>
     have HN:=Lib.hid (show ∀ j (h:j < keys.length),j < k + 1 → oddK keys[j] = false from fun j h h1 => by
      by_cases e:j = k
      ·subst e; rw [← HX.out,HOX.out,he]; rfl
      ·exact HP.out j h (by omega))
     clear he
     go_wp2_with fail
     go_roundw
     case rel => exact ⟨k + 1,by omega,by go_num,HN,by trivial⟩
     case measure => simp [intOf]; omega
    | false =>
     have HV:=Lib.hid (HVN.out (by rw [HOX.out,he]; rfl))
     clear he
     go_wp2_with fail
     go_ret
     exact ⟨ret_bool HV.out.symm,HB.out⟩
  ·have hdk:decide (k < keys.length) = false:=decide_eq_false hlt
   have HPA:=Lib.hid (show ∀ j (h:j < keys.length),oddK keys[j] = false from fun j h => HP.out j h (by omega))
   obtain rfl:k = keys.length:=by omega
   clear hlt hkl HP
   go_wp2_with fail
   go_loopw [6] (fun i W => ∃ k:Nat,k ≤ owners.length ∧ i = .int .i64 k ∧ Hid (∀ j (h:j < owners.length),j < k → missK keys owners[j] = false) ∧ W = wr) (fun i _ => owners.length - (intOf i).toNat)
   case atStart => exact ⟨0,Nat.zero_le _,rfl,Lib.hid (fun j _ h => absurd h (Nat.not_lt_zero j)),rfl⟩
   case round =>
    obtain ⟨k,hkl,rfl,HQ,rfl⟩:=hrel
    by_cases hlt:k < owners.length
    ·obtain ⟨-,b1,o1,n2,cc1,e1,q1⟩:=HO.out.get hlt
     simp only [Value.slice.injEq] at e1
     obtain ⟨rfl,-,-⟩:=e1
     rw [nth_at hlt] at q1
     have hx0:0 ≤ owners[k]:=H0.out _ (List.getElem_mem hlt)
     have HVN:=Lib.hid (fun h => HKM.out k hlt h)
     obtain ⟨x,hx⟩:∃ x,x = owners[k]:=⟨_,rfl⟩
     rw [← hx] at q1 hx0 HVN
     have HX:=Lib.hid hx
     have i0:(0:Int) ≤ (k:Int):=by omega
     have i1:(k:Int) < (owners.length:Int):=by omega
     clear hx
     by_cases hge:(keys.length:Int) ≤ x
     ·have HV:=Lib.hid (HVN.out (by unfold missK; rw [decide_eq_true hge]; rfl))
      have t0:decide ((keys.length:Int) ≤ x) = true:=decide_eq_true hge
      clear hge
      go_wp2_with fail
      go_ret
      exact ⟨ret_bool HV.out.symm,HB.out⟩
     have t0:decide ((keys.length:Int) ≤ x) = false:=decide_eq_false hge
     obtain ⟨m,rfl⟩:∃ m:Nat,x = (m:Int):=⟨x.toNat,by omega⟩
     have hm:m < keys.length:=by omega
     obtain ⟨-,b3,o3,n3,cc3,e3,q3⟩:=HK.out.get hm
     simp only [Value.slice.injEq] at e3
     obtain ⟨rfl,-,-⟩:=e3
     have t1:decide (keys.length ≤ m) = false:=decide_eq_false (by omega)
     have HMM:Hid (missK keys (m:Int) = (nth keys m == 0)):=Lib.hid (by unfold missK; rw [t0,Bool.false_or,Int.toNat_natCast])
     have i2:(m:Int) < (keys.length:Int):=by omega
     clear hge
     obtain ⟨y,hy⟩:∃ y,y = nth keys m:=⟨_,rfl⟩
     rw [← hy] at q3 HMM
     clear hy
     by_cases hy0:y = 0
     ·have HV:=Lib.hid (HVN.out (by rw [HMM.out,hy0]; rfl))
      have t2:(y == 0) = true:=beq_iff_eq.2 hy0
      clear hy0
      go_wp2_with fail
      go_ret
      exact ⟨ret_bool HV.out.symm,HB.out⟩
     ·have t2:(y == 0) = false:=beq_eq_false_iff_ne.2 hy0
      have HN:=Lib.hid (show ∀ j (h:j < owners.length),j < k + 1 → missK keys owners[j] = false from fun j h h1 => by
       by_cases e:j = k
       ·subst e; rw [← HX.out,HMM.out,t2]
       ·exact HQ.out j h (by omega))
      clear hy0
      go_wp2_with fail
      go_roundw
      case rel => exact ⟨k + 1,by omega,by go_num,HN,by trivial⟩
      case measure => simp [intOf]; omega
    ·have HV:=Lib.hid (HKA.out HL.out HPA.out (fun j h => HQ.out j h (by omega)))
     have hdk2:decide (k < owners.length) = false:=decide_eq_false hlt
     obtain rfl:k = owners.length:=by omega
     clear hlt hkl
     go_wp2_with fail
     go_ret
     exact ⟨ret_bool HV.out.symm,HB.out⟩
theorem parOk_right {ps:List Pcl} {k:Nat} (hk:k < ps.length) (h64:ps.length ≤ 64):parOk ps k = (ps[k].1 == (k:Int) && rightB ps[k].1 ps[k].2.1 ps[k].2.2):=by
 unfold parOk rightB
 rw [getD_at hk]
 by_cases h:ps[k].1 = (k:Int)
 ·have hi:inB (k:Int) 0 63 = true:=inB_iff.2 (by omega)
  rw [beq_iff_eq.2 h,h,hi]; simp
 ·rw [beq_eq_false_iff_ne.2 h]; simp
theorem fine_com {rows:List (List Int)} {d:Dlg} (h:comB rows d.cs = false):fineB rows d = false:=by unfold fineB; rw [h]; simp
theorem fine_dl2 {rows:List (List Int)} {d:Dlg} (h:inB d.dealer 0 63 = false):fineB rows d = false:=by unfold fineB; rw [h]; rfl
theorem fine_all2 {rows:List (List Int)} {d:Dlg} (h1:inB d.dealer 0 63 = true) (h2:comB rows d.cs = true) (h4:d.ps.length = rows.length) (h5:∀ k,k < d.ps.length → parOk d.ps k = true):fineB rows d = true:=by
 unfold fineB; rw [h1,h2,decide_eq_true h4,parsB_all h5]; rfl
theorem rFine37_any (rv ov cv pv:Value) (rows:List (List Int)) (owners:List Int) (d:Dlg) (w:World) (hR:Rows2 w rv rows) (hO:Ints w ov owners) (hC:Ints w cv d.cs) (hP:Parcels w pv d.ps) (h64:rows.length ≤ 64) (hcq:colsQ rows ≤ 64) :
  Calls Tryz.prog 99 #[.agg #[rv,ov],.agg #[.int .i64 d.dealer,cv,pv]] w fun e w' => e = .returned (.bool (fineB rows d)) ∧ Below w.heap.size w w':=by
 obtain ⟨W0,hW0,hb0,hr0,-⟩:=box_prog w rv ov 25
 have hs0:W0.heap.size = w.heap.size + 1:=by rw [hW0]; simp
 obtain ⟨W1,hW1,hb1,hr1,-⟩:=box36 W0 (.int .i64 d.dealer) cv pv 28
 have hb:=hb0.trans (hb1.mono hb0.size)
 have Q0:=Lib.hid ((hb1.block _ (row_lt hr0)).trans hr0)
 rw [hs0] at hr1
 have Q1:=Lib.hid hr1
 have HR:=Lib.hid (hR.below hb)
 have HO:=Lib.hid (hO.below hb)
 have HC:=Lib.hid (hC.below hb)
 have HP:=Lib.hid (hP.below hb)
 obtain ⟨a1,k1,rfl,-,hl1,-⟩:=id hR
 obtain ⟨a2,k2,rfl,-,hl2,-⟩:=id hO
 obtain ⟨a3,k3,rfl,-,hl3,hcr,-⟩:=id hC
 obtain ⟨a4,k4,rfl,-,hl4,-⟩:=id hP
 rw [hW0] at hW1
 have HW1:=Lib.hid hW1
 have HB:=Lib.hid hb
 have c0:=row_cell Q0.out (k:=0) (v:=.slice a1 rows.length k1) rfl
 have c1:=row_cell Q0.out (k:=1) (v:=.slice a2 owners.length k2) rfl
 have d0:=row_cell Q1.out (k:=0) (v:=.int .i64 d.dealer) rfl
 have d1:=row_cell Q1.out (k:=1) (v:=.slice a3 d.cs.length k3) rfl
 have d2:=row_cell Q1.out (k:=2) (v:=.slice a4 d.ps.length k4) rfl
 have HCM:=Lib.hid (rcommits_any _ _ _ rows owners d.cs W1 HR.out HO.out HC.out hcq)
 have H64:=Lib.hid h64
 have HFD:=Lib.hid (fun h => fine_dl2 (rows:=rows) (d:=d) h)
 have HFC:=Lib.hid (fun h => fine_com (rows:=rows) (d:=d) h)
 have HFP:=Lib.hid (fun h => fine_pl (rows:=rows) (d:=d) h)
 have HFK:=Lib.hid (fun k hk h => fine_par (rows:=rows) (d:=d) (k:=k) hk h)
 have HFA:=Lib.hid (fun h1 h2 h4 h5 => fine_all2 (rows:=rows) (d:=d) h1 h2 h4 h5)
 clear hR hO hC hP hb hb0 hb1 hr0 hr1 hW0 hW1 hs0 hcr h64 hcq
 go_enter Tryz.func99,Tryz.ntmps99
 by_cases h1:d.dealer < 0
 ·have HV:=Lib.hid (HFD.out (inB_false (by omega)))
  have x0:decide (d.dealer < 0) = true:=decide_eq_true h1
  clear h1
  go_wp2_with (rw [← HW1.out])
  go_ret
  exact ⟨ret_bool HV.out.symm,HB.out⟩
 have x0:decide (d.dealer < 0) = false:=decide_eq_false h1
 by_cases h2:64 ≤ d.dealer
 ·have HV:=Lib.hid (HFD.out (inB_false (by omega)))
  have x1:decide (64 ≤ d.dealer) = true:=decide_eq_true h2
  clear h1 h2
  go_wp2_with (rw [← HW1.out])
  go_ret
  exact ⟨ret_bool HV.out.symm,HB.out⟩
 have x1:decide (64 ≤ d.dealer) = false:=decide_eq_false h2
 have HDL:Hid (inB d.dealer 0 63 = true):=Lib.hid (inB_iff.2 (by omega))
 clear h1 h2
 go_wp2_with (rw [← HW1.out])
 with_reducible refine HCM.out.mono ?_
 rintro r w2 ⟨rfl,hb2⟩
 have HB2:=Lib.hid (HB.out.trans (hb2.mono HB.out.size))
 have HP2:=Lib.hid (HP.out.below hb2)
 replace c0:=below_cell hb2 c0
 replace c1:=below_cell hb2 c1
 replace d0:=below_cell hb2 d0
 replace d1:=below_cell hb2 d1
 replace d2:=below_cell hb2 d2
 clear hb2
 cases hc:comB rows d.cs with
 | false =>
  have HV:=Lib.hid (HFC.out hc)
  clear hc
  go_wp2_with fail
  go_ret
  exact ⟨ret_bool HV.out.symm,HB2.out⟩
 | true =>
 have HCO:=Lib.hid hc
 clear hc
 by_cases hpl:d.ps.length = rows.length
 rotate_left
 ·have HV:=Lib.hid (HFP.out hpl)
  have x2:((d.ps.length:Int) != (rows.length:Int)) = true:=bne_iff_ne.2 (by omega)
  clear hpl
  go_wp2_with fail
  go_ret
  exact ⟨ret_bool HV.out.symm,HB2.out⟩
 have x2:((d.ps.length:Int) != (rows.length:Int)) = false:=by rw [hpl]; simp
 have HPL:=Lib.hid hpl
 clear hpl
 go_wp2_with fail
 go_loopw [5] (fun i W => ∃ k:Nat,k ≤ d.ps.length ∧ i = .int .i64 k ∧ Hid (∀ j,j < k → parOk d.ps j = true) ∧ Below w2.heap.size w2 W) (fun i _ => d.ps.length - (intOf i).toNat)
 case atStart => exact ⟨0,Nat.zero_le _,rfl,Lib.hid (fun j h => absurd h (Nat.not_lt_zero j)),Below.refl _ _⟩
 case round =>
  obtain ⟨k,hkl,rfl,HK,hb⟩:=hrel
  have z2:=below_cell hb d2
  by_cases hlt:k < d.ps.length
  ·obtain ⟨xb,xo,hx,y0,y1,y2,hpt⟩:=(HP2.out.below hb).at hlt
   subst hx
   have HPK:=Lib.hid (parOk_right hlt (by have:=HPL.out; have:=H64.out; omega))
   have HVN:=Lib.hid (fun h => HFK.out k hlt h)
   obtain ⟨p0,hp0⟩:∃ x,x = d.ps[k].1:=⟨_,rfl⟩
   obtain ⟨p1,hp1⟩:∃ x,x = d.ps[k].2.1:=⟨_,rfl⟩
   obtain ⟨p2,hp2⟩:∃ x,x = d.ps[k].2.2:=⟨_,rfl⟩
   rw [← hp0] at y0 HPK
   rw [← hp1] at y1 hpt HPK
   rw [← hp2] at y2 HPK
   clear hp0 hp1 hp2
   have HRI:=Lib.hid (fun w => right35_any p0 p1 p2 w hpt)
   have HB3:=Lib.hid hb
   have HB4:=Lib.hid (HB2.out.trans (hb.mono HB2.out.size))
   have i0:(0:Int) ≤ (k:Int):=by omega
   have i1:(k:Int) < (d.ps.length:Int):=by omega
   clear hb hpt
   by_cases e0:p0 = (k:Int)
   rotate_left
   ·have HV:=Lib.hid (HVN.out (by rw [HPK.out,beq_eq_false_iff_ne.2 e0]; rfl))
    have t0:(p0 != (k:Int)) = true:=bne_iff_ne.2 e0
    clear e0
    go_wp2_with fail
    go_ret
    exact ⟨ret_bool HV.out.symm,HB4.out⟩
   have t0:(p0 != (k:Int)) = false:=by rw [e0]; simp
   replace HPK:=Lib.hid (HPK.out.trans (show _ = rightB p0 p1 p2 by rw [beq_iff_eq.2 e0,Bool.true_and]))
   clear e0
   go_wp2_with fail
   with_reducible refine (HRI.out _).mono ?_
   rintro r w5 ⟨rfl,hb5⟩
   have HB5:=Lib.hid (HB3.out.trans (hb5.mono HB3.out.size))
   have HB6:=Lib.hid (HB4.out.trans (hb5.mono HB4.out.size))
   clear hb5
   cases he:rightB p0 p1 p2 with
   | false =>
    have HV:=Lib.hid (HVN.out (by rw [HPK.out,he]))
    clear he
    go_wp2_with fail
    go_ret
    exact ⟨ret_bool HV.out.symm,HB6.out⟩
   | true =>
    have HN:=Lib.hid (show ∀ j,j < k + 1 → parOk d.ps j = true from fun j h => by
     by_cases e:j = k
     ·subst e; rw [HPK.out,he]
     ·exact HK.out j (by omega))
    clear he
    go_wp2_with fail
    go_roundw
    case rel => exact ⟨k + 1,by omega,by go_num,HN,HB5.out⟩
    case measure => simp [intOf]; omega
  ·have HV:=Lib.hid (HFA.out HDL.out HCO.out HPL.out (fun j hj => HK.out j (by omega)))
   go_wp2_with fail
   go_ret
   exact ⟨ret_bool HV.out.symm,HB2.out.trans (hb.mono HB2.out.size)⟩
theorem rDealers37_any (lv:Value) (l:List Dlg) (vs:DVals) (w:World) (hL:Dlgs w lv l vs) :
  Calls Tryz.prog 38 #[lv] w fun e w' => e = .returned (.bool (ordB l)) ∧ Below w.heap.size w w':=by
 have HL:=Lib.hid hL
 obtain ⟨a1,k1,rfl,-,hl1,-⟩:=id hL
 clear hL
 have HBAD:=Lib.hid (fun k h hb => ordB_bad (l:=l) (k:=k) h hb)
 have HALL:=Lib.hid (fun h => ordB_all (l:=l) h)
 have HAT:=Lib.hid (fun k (h:k < l.length) => dlrL_at h)
 generalize ordB l = OB at *
 go_enter Tryz.func38,Tryz.ntmps38
 go_wp2_with fail
 go_loopw [3] (fun i W => ∃ k:Nat,k ≤ l.length ∧ i = .int .i64 ((k:Int) + 1) ∧ Hid (∀ j,j < k → j + 1 < l.length → nth (dlrL l) j < nth (dlrL l) (j + 1)) ∧ Below w.heap.size w W) (fun i _ => l.length + 1 - (intOf i).toNat)
 case atStart => exact ⟨0,Nat.zero_le _,rfl,Lib.hid (fun j h => absurd h (Nat.not_lt_zero j)),Below.refl _ _⟩
 case round =>
  obtain ⟨k,hkl,rfl,HK,hb⟩:=hrel
  by_cases hlt:k + 1 < l.length
  ·obtain ⟨b,off,ha,hA⟩:=HL.out.at (k:=k) (by omega)
   obtain ⟨b2,off2,ha2,hA2⟩:=HL.out.at (k:=k + 1) hlt
   subst ha
   simp only [Option.some.injEq,Addr.mk.injEq] at ha2
   obtain ⟨rfl,rfl,-⟩:=ha2
   have y0:wr.cell? ⟨b,off + k * 3,none⟩ = some (.int .i64 l[k].dealer):=below_cell hb hA.c0
   have y1:wr.cell? ⟨b,off + (k + 1) * 3,none⟩ = some (.int .i64 l[k + 1].dealer):=below_cell hb hA2.c0
   have hx0:=HAT.out k (by omega)
   have hx1:=HAT.out (k + 1) hlt
   obtain ⟨p,hp⟩:∃ p,p = l[k].dealer:=⟨_,rfl⟩
   obtain ⟨q,hq⟩:∃ p,p = l[k + 1].dealer:=⟨_,rfl⟩
   rw [← hp] at y0 hx0
   rw [← hq] at y1 hx1
   have HX:=Lib.hid (And.intro hx0 hx1)
   have HB:=Lib.hid hb
   have i0:(0:Int) ≤ (k:Int):=by omega
   have i1:(k:Int) < (l.length:Int):=by omega
   have i2:(0:Int) ≤ ((k + 1:Nat):Int):=by omega
   have i3:((k:Int) + 1) < (l.length:Int):=by omega
   have i4:(0:Int) ≤ (k:Int) + 1:=by omega
   have w1:IntKind.i64.wrap ((k:Int) + 1 - 1) = (k:Int):=by rw [show (k:Int) + 1 - 1 = (k:Int) by omega]; exact IntWalk.i64_in _ (by omega)
   have e3:((k:Int) + 1).toNat = k + 1:=by omega
   have d3:decide ((k:Int) + 1 < (l.length:Int)) = true:=decide_eq_true i3
   clear hp hq hx0 hx1 hb hA hA2
   by_cases hpq:p < q
   ·have HN:=Lib.hid (show ∀ j,j < k + 1 → j + 1 < l.length → nth (dlrL l) j < nth (dlrL l) (j + 1) from fun j h1 h2 => by
     by_cases e:j = k
     ·subst e; rw [HX.out.1,HX.out.2]; exact hpq
     ·exact HK.out j (by omega) h2)
    have d9:decide (q ≤ p) = false:=decide_eq_false (by omega)
    clear hpq
    go_wp2_with fail
    go_quiet (fail)
    go_wp2_with fail
    go_roundw
    case rel => exact ⟨k + 1,by omega,by go_num,HN,below_drewN HB.out _⟩
    case measure => simp [intOf]; omega
   ·have HV:=Lib.hid (HBAD.out k hlt (by rw [HX.out.1,HX.out.2]; omega))
    have d9:decide (q ≤ p) = true:=decide_eq_true (by omega)
    clear hpq
    go_wp2_with fail
    go_quiet (fail)
    go_wp2_with fail
    go_ret
    exact ⟨ret_bool HV.out.symm,below_drewN HB.out _⟩
  ·have HV:=Lib.hid (HALL.out (fun j hj => HK.out j (by omega) hj))
   have d3:decide ((k:Int) + 1 < (l.length:Int)) = false:=decide_eq_false (by omega)
   go_wp2_with fail
   go_ret
   exact ⟨ret_bool HV.out.symm,hb⟩
end Go.Proofs.YtggnipkfliompaaGreatDoor
namespace Go.Proofs.YtggnipkfliompaaGreatDoor
open Go.RowKit FP
theorem mkV_num (s:Int) (d:Dlg) (row:Int):0 ≤ mkV s d row ∧ mkV s d row < 1073741789:=opnV_num _ _ _ _
section
variable {rows:List (List Int)} {owners keys:List Int} {cl:List Cmp} {l:List Dlg}
theorem qual_mem {d:Dlg} (h:d ∈ qualL rows owners keys cl l):d ∈ l ∧ FineD rows d ∧ ∀ c ∈ cl,kcntB rows owners keys d c = false:=by
 unfold qualL at h
 obtain ⟨h1,h2⟩:=List.mem_filter.1 h
 unfold passB at h2
 rw [Bool.and_eq_true,Bool.not_eq_true'] at h2
 exact ⟨h1,fineB_iff.1 h2.1,fun c hc => by simpa using List.any_eq_false.1 h2.2 c hc⟩
theorem qual_of {d:Dlg} (h:d ∈ l) (hf:FineD rows d) (hc:∀ c ∈ cl,kcntB rows owners keys d c = false):d ∈ qualL rows owners keys cl l:=by
 refine List.mem_filter.2 ⟨h,?_⟩
 unfold passB
 rw [Bool.and_eq_true,Bool.not_eq_true']
 exact ⟨fineB_iff.2 hf,List.any_eq_false.2 fun c h => by simp [hc c h]⟩
theorem qual_all (h:∀ d ∈ l,FineD rows d ∧ ∀ c ∈ cl,kcntB rows owners keys d c = false):qualL rows owners keys cl l = l:=by
 unfold qualL
 refine List.filter_eq_self.2 fun d hd => ?_
 obtain ⟨h1,h2⟩:=h d hd
 exact (List.mem_filter.1 (qual_of (rows:=rows) (owners:=owners) (keys:=keys) (cl:=cl) hd h1 h2)).2
theorem nth_mulL {a b:List Int} {k:Nat} (h:k < a.length):nth (mulL a b) k = nth a k * nth b k % 2147483579:=by unfold mulL; exact nth_map _ _ h
theorem renC_com {n:Nat}:∀ (css:List (List Int)) (cs:List Int),(∀ c ∈ cs,El c) → cs.length = n → (∀ b ∈ css,(∀ c ∈ b,El c) ∧ b.length = n) → (∀ c ∈ renC cs css,El c) ∧ (renC cs css).length = n
 | [],cs,h,hl,_ => ⟨h,hl⟩
 | b :: t,cs,h,hl,ht => by
  obtain ⟨h1,h2⟩:=ht b List.mem_cons_self
  exact renC_com t (mulL cs b) (mulL_el h h1 (by omega)) (by rw [mulL_len]; exact hl) fun e he => ht e (List.mem_cons_of_mem _ he)
theorem comL_com {L:List Dlg} (hL:L ≠ []) (hf:∀ d ∈ L,FineD rows d):(∀ c ∈ comL L,El c) ∧ (comL L).length = colsQ rows:=by
 cases L with
 | nil => exact absurd rfl hL
 | cons d t =>
  have h1:=comB_el (hf d List.mem_cons_self).com
  refine renC_com _ _ h1.1 h1.2 fun b hb => ?_
  obtain ⟨e,he,rfl⟩:=List.mem_map.1 hb
  exact comB_el (hf e (List.mem_cons_of_mem _ he)).com
theorem ord_inj (h:ordB l = true) {d e:Dlg} (hd:d ∈ l) (he:e ∈ l) (hde:d.dealer = e.dealer):d = e:=by
 have hp:=ordB_pair h
 unfold dlrL at hp
 rw [List.pairwise_map] at hp
 obtain ⟨i,hi,rfl⟩:=List.getElem_of_mem hd
 obtain ⟨j,hj,rfl⟩:=List.getElem_of_mem he
 rcases Nat.lt_trichotomy i j with h1 | h1 | h1
 ·have:=(List.pairwise_iff_getElem.1 hp) i j hi hj h1; omega
 ·subst h1; rfl
 ·have:=(List.pairwise_iff_getElem.1 hp) j i hj hi h1; omega
theorem find_at (h:ordB l = true) {d:Dlg} (hd:d ∈ l) (hf:FineD rows d):findD rows l d.dealer = d:=by
 have ha:l.any (isOf rows d.dealer) = true:=List.any_eq_true.2 ⟨d,hd,by unfold isOf; rw [fineB_iff.2 hf]; simp⟩
 obtain ⟨h1,h2,-⟩:=find_of ha
 exact ord_inj h h1 hd h2
theorem ordB_of {L:List Dlg} (h:(dlrL L).Pairwise (· < ·)):ordB L = true:=ordB_all fun k hk => by
 have hl:=dlrL_len L
 rw [nth_at (by omega),nth_at (by omega)]
 exact List.pairwise_iff_getElem.1 h k (k + 1) (by omega) (by omega) (by omega)
theorem ord_sub {L:List Dlg} (h:ordB l = true) (hs:L.Sublist l):ordB L = true:=ordB_of ((ordB_pair h).sublist (hs.map _))
theorem dls_of {L:List Dlg} (h:ordB l = true) (hs:L.Sublist l) (hf:∀ d ∈ L,FineD rows d):allDls rows l (dlrL L) = true:=allDls_all fun k hk => by
 have hl:=dlrL_len L
 have hk2:k < L.length:=by omega
 unfold dlsB
 rw [Bool.and_eq_true]
 constructor
 ·refine List.any_eq_true.2 ⟨L[k],hs.subset (List.getElem_mem hk2),?_⟩
  unfold isOf
  rw [dlrL_at hk2,fineB_iff.2 (hf _ (List.getElem_mem hk2))]; simp
 ·by_cases h0:k = 0
  ·rw [decide_eq_true h0]; rfl
  ·have:=List.pairwise_iff_getElem.1 (ordB_pair (ord_sub h hs)) (k - 1) k (by omega) (by omega) (by omega)
   rw [nth_at (by omega),nth_at (by omega),decide_eq_true this,Bool.or_true]
theorem owS_take {L:List Dlg} (h:ordB l = true) (hs:L.Sublist l) (hf:∀ d ∈ L,FineD rows d) (s row:Int):∀ k,k ≤ L.length → owS rows s row (dlrL L) l k = (L.take k).foldl (fun a d => (a + mkV s d row) % 1073741789) 0
 | 0,_ => by simp [owS]
 | k + 1,hk => by
  have hk2:k < L.length:=by omega
  show (owS rows s row (dlrL L) l k + mkV s (findD rows l (nth (dlrL L) k)) row) % 1073741789 = _
  rw [owS_take h hs hf s row k (by omega),List.take_succ_eq_append_getElem hk2,List.foldl_append,dlrL_at hk2,find_at h (hs.subset (List.getElem_mem hk2)) (hf _ (List.getElem_mem hk2))]
  rfl
theorem owS_all {L:List Dlg} (h:ordB l = true) (hs:L.Sublist l) (hf:∀ d ∈ L,FineD rows d) (s row:Int):owS rows s row (dlrL L) l (dlrL L).length = L.foldl (fun a d => (a + mkV s d row) % 1073741789) 0:=by
 rw [dlrL_len,owS_take h hs hf s row _ (Nat.le_refl _),List.take_length]
theorem quE_of (hp:progE rows owners = 0) (hk:KeysOK owners keys) (h1:l.length ≤ 64) (h2:cl.length ≤ 4096) (ho:ordB l = true) (hq:qualL rows owners keys cl l ≠ []):quE rows owners keys l cl = 0:=by
 unfold quE
 rw [if_neg (by simp [hp]),if_neg (by rw [keysB_iff.2 hk]; simp),if_neg (by omega),if_neg (by rw [ho]; simp),if_neg hq]
end
section
variable {rows:List (List Int)} {owners keys secrets:List Int} {dealer x:Int} {rnd us:List Int}
structure KeysOf (owners secrets keys:List Int):Prop where
 eq:keys = secrets.map (powE 4)
 sec:∀ s ∈ secrets,1 ≤ s ∧ s ≤ 1073741788
 ok:KeysOK owners keys
 own:∀ o ∈ owners,0 ≤ o
def secOf (owners secrets:List Int) (i:Nat):Int:=nth secrets (nth owners i).toNat
theorem KeysOf.at (h:KeysOf owners secrets keys) {i:Nat} (hi:i < owners.length):(nth owners i).toNat < secrets.length ∧ (1 ≤ secOf owners secrets i ∧ secOf owners secrets i ≤ 1073741788) ∧ keyOf owners keys i = powE 4 (secOf owners secrets i):=by
 obtain ⟨h1,-⟩:=h.ok.key h.own hi
 have h2:(nth owners i).toNat < secrets.length:=by rw [h.eq,List.length_map] at h1; exact h1
 refine ⟨h2,h.sec _ (by unfold secOf; rw [nth_at h2]; exact List.getElem_mem h2),?_⟩
 unfold keyOf secOf
 rw [h.eq,nth_mapv h2]
def vsK (rows:List (List Int)) (s:List Int) (i:Nat):Int:=prodQ (rows.getD i []) s
theorem KdOK.sd (h:KdOK rows owners keys dealer x rnd us) (hk:KeysOf owners secrets keys):SD rows owners x rnd dealer (secOf owners secrets) (nth us) (vsK rows (x :: rnd)) where
 ok:=h.ok
 p0:=h.p0
 dl:=h.dl
 hs i hi:=(hk.at (by rw [← h.ok.prog.len]; exact hi)).2.1
 hu i hi:=h.us _ (by rw [nth_at (by rw [h.len]; exact hi)]; exact List.getElem_mem _)
 hv i _:=by have:=prodQ_num (rows.getD i []) (x :: rnd); unfold vsK; omega
theorem kdD_sealD (h:KdOK rows owners keys dealer x rnd us) (hk:KeysOf owners secrets keys):kdD rows owners keys dealer x rnd us = sealD rows (x :: rnd) dealer (secOf owners secrets) (nth us) (vsK rows (x :: rnd)):=by
 unfold kdD
 rw [if_pos (kdE_ok.2 h)]
 unfold sealD sealL
 refine congrArg (Dlg.mk dealer (dealC (x :: rnd))) ?_
 refine List.map_congr_left fun i hi => ?_
 have hi:=List.mem_range.1 hi
 unfold sealK sealP vsK
 rw [(hk.at (by rw [← h.ok.prog.len]; exact hi)).2.2]
theorem KdOK.fine (h:KdOK rows owners keys dealer x rnd us):FineD rows (kdD rows owners keys dealer x rnd us):=by
 unfold kdD
 rw [if_pos (kdE_ok.2 h)]
 refine ⟨h.dl,(com_deal_B h.ok h.p0).1,sealL_len _ _ _ _ _ _ _,fun k hk => ?_⟩
 have hk2:k < rows.length:=by rw [sealL_len] at hk; exact hk
 have e:(sealL rows owners keys dealer us (x :: rnd) rows.length)[k] = sealK rows owners keys dealer us (x :: rnd) k:=by simp [sealL]
 show (sealL rows owners keys dealer us (x :: rnd) rows.length)[k].1 = _ ∧ El (sealL rows owners keys dealer us (x :: rnd) rows.length)[k].2.1 ∧ _
 rw [e]
 refine ⟨rfl,el_powE el_four _,?_⟩
 have:=cipV_num (nth us k) (keyOf owners keys k) dealer (k:Int) (prodQ (rows.getD k []) (x :: rnd))
 show 0 ≤ cipV _ _ _ _ _ ∧ cipV _ _ _ _ _ ≤ _
 omega
theorem kdD_dealer (h:KdOK rows owners keys dealer x rnd us):(kdD rows owners keys dealer x rnd us).dealer = dealer ∧ (kdD rows owners keys dealer x rnd us).cs = dealC (x :: rnd) ∧ (kdD rows owners keys dealer x rnd us).ps.length = rows.length:=by
 unfold kdD; rw [if_pos (kdE_ok.2 h)]; exact ⟨rfl,rfl,sealL_len _ _ _ _ _ _ _⟩
theorem kdD_val (h:KdOK rows owners keys dealer x rnd us) (hk:KeysOf owners secrets keys) {i:Nat} (hi:i < rows.length):mkV (secOf owners secrets i) (kdD rows owners keys dealer x rnd us) (i:Int) = prodQ (rows.getD i []) (x :: rnd):=by
 rw [kdD_sealD h hk,(h.sd hk).mkV hi]; rfl
end
end Go.Proofs.YtggnipkfliompaaGreatDoor
namespace Go.Proofs.YtggnipkfliompaaGreatDoor
open Go.RowKit FP
section
variable {rows:List (List Int)} {owners keys secrets:List Int}
end
end Go.Proofs.YtggnipkfliompaaGreatDoor
