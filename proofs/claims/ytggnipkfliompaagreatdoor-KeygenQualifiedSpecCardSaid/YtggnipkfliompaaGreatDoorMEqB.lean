/- Package equal: Check. Package equal: Check, whole. Package equal: Prove. Package parcels, in plain Lean: pads, conditions, errors. Package complaints: parcels as lists; an append of a parcel. slices.Concat of a number and a list; what a right program is; what is dealt, in plain Lean. -/
import Derived.Test.YtggnipkfliompaaGreatDoorMPow
import Derived.Test.YtggnipkfliompaaGreatDoorMBase
import Derived.Test.YtggnipkfliompaaGreatDoorMLinQ
import Derived.Deep.RegionWith
import Derived.Lib.MinMax
set_option maxHeartbeats 2000000
set_option maxRecDepth 100000
namespace Go.Proofs.YtggnipkfliompaaGreatDoor
open Go.RowKit FP
theorem pair_ints (w:World) (x y:Int) (t:TypeId) (B:Nat) (hB:w.heap.size = B) (hx:R64 x) (hy:R64 y):Ints (w.alloc (.cells #[.int .i64 x,.int .i64 y] t)) (.slice (some ⟨B,0,none⟩) 2 2) [x,y]:=
 ints_made w [x,y] t B hB (by intro z hz; simp at hz; rcases hz with rfl | rfl; exact hx; exact hy) (by simp)
theorem check3_any (pb kb ab db:Nat) (key a d E S:Int) (w:World) (hk:El key) (ha:El a) (hd:El d) (hE:0 ≤ E ∧ E < 1073741789) (hS:0 ≤ S ∧ S < 1073741789)
  (p0:w.cell? ⟨pb,0,none⟩ = some (.int .i64 E)) (p1:w.cell? ⟨pb,1,none⟩ = some (.int .i64 S)) (c0:w.cell? ⟨kb,0,none⟩ = some (.int .i64 key)) (c1:w.cell? ⟨ab,0,none⟩ = some (.int .i64 a)) (c2:w.cell? ⟨db,0,none⟩ = some (.int .i64 d)) (hG:Glob w) :
  Calls Tryz.prog 77 #[.pointer (some ⟨pb,0,none⟩),.pointer (some ⟨kb,0,none⟩),.pointer (some ⟨ab,0,none⟩),.pointer (some ⟨db,0,none⟩)] w fun e w' => e = .returned (.bool (E == chal key a d (rE key E S) (sE a d E S))) ∧ Below w.heap.size w w':=by
 obtain ⟨E1,E2⟩:=hE
 obtain ⟨S1,S2⟩:=hS
 have hE64:R64 (-E):=⟨by omega,by omega⟩
 have hS64:R64 S:=⟨by omega,by omega⟩
 have hwE:=IntWalk.i64_in (-E) (by omega)
 have e1:=el_powE el_four S
 have e2:=el_powE hk (-E)
 have e3:=el_powE ha S
 have e4:=el_powE hd (-E)
 obtain ⟨r,hr⟩:∃ r,r = rE key E S:=⟨_,rfl⟩
 have HR1:Hid (powE 4 S * powE key (-E) % 2147483579 = r):=Lib.hid hr.symm
 obtain ⟨s,hs⟩:∃ s,s = sE a d E S:=⟨_,rfl⟩
 have HR2:Hid (powE a S * powE d (-E) % 2147483579 = s):=Lib.hid hs.symm
 have hrr:R64 r:=by rw [hr]; exact (el_rE hk E S).r64
 have hss:R64 s:=by rw [hs]; exact (el_sE ha hd E S).r64
 rw [← hr,← hs]
 have HC:=Lib.hid (show ∀ z ∈ [key,a,d,r,s],R64 z by intro z hz; simp at hz; rcases hz with rfl | rfl | rfl | rfl | rfl; exact hk.r64; exact ha.r64; exact hd.r64; exact hrr; exact hss)
 clear hr hs
 go_enter Tryz.func77,Tryz.ntmps77
 go_wp2_with fail
 go_region_held3 (fun w' => w'.cell? ⟨pb,0,none⟩ = some (.int .i64 E) ∧ w'.cell? ⟨pb,1,none⟩ = some (.int .i64 S) ∧ w'.cell? ⟨kb,0,none⟩ = some (.int .i64 key) ∧ w'.cell? ⟨ab,0,none⟩ = some (.int .i64 a) ∧ w'.cell? ⟨db,0,none⟩ = some (.int .i64 d)) (go_keep)
  (first
   | (go_at_call 79; (with_reducible refine (epow_any 4 S _ el_four hS64).mono ?_); rintro e w6 ⟨rfl,hb6⟩; have hb6_0:w6.cell? ⟨pb,0,none⟩ = some (.int .i64 E):=below_cell hb6 (by first | assumption | exact below_cell (below_new _ _ _) (by assumption)); have hb6_1:w6.cell? ⟨pb,1,none⟩ = some (.int .i64 S):=below_cell hb6 (by first | assumption | exact below_cell (below_new _ _ _) (by assumption)); have hb6_2:w6.cell? ⟨kb,0,none⟩ = some (.int .i64 key):=below_cell hb6 (by first | assumption | exact below_cell (below_new _ _ _) (by assumption)); have hb6_3:w6.cell? ⟨ab,0,none⟩ = some (.int .i64 a):=below_cell hb6 (by first | assumption | exact below_cell (below_new _ _ _) (by assumption)); have hb6_4:w6.cell? ⟨db,0,none⟩ = some (.int .i64 d):=below_cell hb6 (by first | assumption | exact below_cell (below_new _ _ _) (by assumption)))
   | (go_at_call 79; (with_reducible refine (epow_any key (-E) _ hk hE64).mono ?_); rintro e w7 ⟨rfl,hb7⟩; have hb7_0:w7.cell? ⟨pb,0,none⟩ = some (.int .i64 E):=below_cell hb7 (by first | assumption | exact below_cell (below_new _ _ _) (by assumption)); have hb7_1:w7.cell? ⟨pb,1,none⟩ = some (.int .i64 S):=below_cell hb7 (by first | assumption | exact below_cell (below_new _ _ _) (by assumption)); have hb7_2:w7.cell? ⟨kb,0,none⟩ = some (.int .i64 key):=below_cell hb7 (by first | assumption | exact below_cell (below_new _ _ _) (by assumption)); have hb7_3:w7.cell? ⟨ab,0,none⟩ = some (.int .i64 a):=below_cell hb7 (by first | assumption | exact below_cell (below_new _ _ _) (by assumption)); have hb7_4:w7.cell? ⟨db,0,none⟩ = some (.int .i64 d):=below_cell hb7 (by first | assumption | exact below_cell (below_new _ _ _) (by assumption)))
   | (go_at_call 79; (with_reducible refine (epow_any a S _ ha hS64).mono ?_); rintro e w8 ⟨rfl,hb8⟩; have hb8_0:w8.cell? ⟨pb,0,none⟩ = some (.int .i64 E):=below_cell hb8 (by first | assumption | exact below_cell (below_new _ _ _) (by assumption)); have hb8_1:w8.cell? ⟨pb,1,none⟩ = some (.int .i64 S):=below_cell hb8 (by first | assumption | exact below_cell (below_new _ _ _) (by assumption)); have hb8_2:w8.cell? ⟨kb,0,none⟩ = some (.int .i64 key):=below_cell hb8 (by first | assumption | exact below_cell (below_new _ _ _) (by assumption)); have hb8_3:w8.cell? ⟨ab,0,none⟩ = some (.int .i64 a):=below_cell hb8 (by first | assumption | exact below_cell (below_new _ _ _) (by assumption)); have hb8_4:w8.cell? ⟨db,0,none⟩ = some (.int .i64 d):=below_cell hb8 (by first | assumption | exact below_cell (below_new _ _ _) (by assumption)))
   | (go_at_call 79; (with_reducible refine (epow_any d (-E) _ hd hE64).mono ?_); rintro e w9 ⟨rfl,hb9⟩; have hb9_0:w9.cell? ⟨pb,0,none⟩ = some (.int .i64 E):=below_cell hb9 (by first | assumption | exact below_cell (below_new _ _ _) (by assumption)); have hb9_1:w9.cell? ⟨pb,1,none⟩ = some (.int .i64 S):=below_cell hb9 (by first | assumption | exact below_cell (below_new _ _ _) (by assumption)); have hb9_2:w9.cell? ⟨kb,0,none⟩ = some (.int .i64 key):=below_cell hb9 (by first | assumption | exact below_cell (below_new _ _ _) (by assumption)); have hb9_3:w9.cell? ⟨ab,0,none⟩ = some (.int .i64 a):=below_cell hb9 (by first | assumption | exact below_cell (below_new _ _ _) (by assumption)); have hb9_4:w9.cell? ⟨db,0,none⟩ = some (.int .i64 d):=below_cell hb9 (by first | assumption | exact below_cell (below_new _ _ _) (by assumption)))
   | (go_at_call 78; (refine (emul_two _ (powE 4 S) (powE key (-E)) _ (pair_ints _ _ _ _ _ rfl e1.r64 e2.r64) e1 e2).mono ?_); rintro e w10 ⟨rfl,rfl⟩)
   | (go_at_call 78; (refine (emul_two _ (powE a S) (powE d (-E)) _ (pair_ints _ _ _ _ _ rfl e3.r64 e4.r64) e3 e4).mono ?_); rintro e w11 ⟨rfl,rfl⟩))
 rw [HR1.out,HR2.out]
 clear HR1 HR2 e1 e2 e3 e4 hwE hE64 hS64
 have h1:Below w.heap.size w w6:=(Below.refl _ _).drew.trans hb6
 have h2:=h1.trans (hb7.mono h1.size)
 have h3:=h2.alloc h2.size (.cells #[.int .i64 (powE 4 S),.int .i64 (powE key (-E))] 3)
 have h4:=h3.trans (hb8.mono h3.size)
 have h5:=h4.trans (hb9.mono h4.size)
 have h6:=h5.alloc h5.size (.cells #[.int .i64 (powE a S),.int .i64 (powE d (-E))] 3)
 generalize w9.alloc (.cells #[.int .i64 (powE a S),.int .i64 (powE d (-E))] 3) = W5 at *
 have q0:=below_cell h6 p0
 have q2:=below_cell h6 c0
 have q3:=below_cell h6 c1
 have q4:=below_cell h6 c2
 have hG5:=hG.below h6
 have HG5:Hid (Glob W5.drew):=Lib.hid ⟨hG5.num,hG5.sta⟩
 have H6:=Lib.hid h6
 clear h1 h2 h3 h4 h5 hb6 hb7 hb8 hb9 h6 hG5
 go_wp2_with fail
 go_region_held3 (fun w' => w'.cell? ⟨pb,0,none⟩ = some (.int .i64 E) ∧ w'.cell? ⟨kb,0,none⟩ = some (.int .i64 key) ∧ w'.cell? ⟨ab,0,none⟩ = some (.int .i64 a) ∧ w'.cell? ⟨db,0,none⟩ = some (.int .i64 d)) (go_keep)
  (first
   | (go_at_call 80; (with_reducible refine (challenge_any key a d r s _ HC.out HG5.out).mono ?_); rintro e w12 ⟨rfl,hb12⟩; have t0:=below_cell hb12 q0; have t1:=below_cell hb12 q2; have t2:=below_cell hb12 q3; have t3:=below_cell hb12 q4))
 go_wp2_with fail
 go_ret
 exact ⟨rfl,H6.out.trans (((Below.refl _ _).drew.trans hb12).mono H6.out.size)⟩
end Go.Proofs.YtggnipkfliompaaGreatDoor
namespace Go.Proofs.YtggnipkfliompaaGreatDoor
open Go.RowKit FP
def chkB (key a d E S:Int):Bool:=(elB key && (elB a && elB d)) && ((nQB E && nQB S) && (E == chal key a d (rE key E S) (sE a d E S)))
structure ChkW (w:World) (key a d E S:Int) (W:World):Prop where
 be:Below w.heap.size w W
 k:W.cell? ⟨w.heap.size,0,none⟩ = some (.int .i64 key)
 a:W.cell? ⟨w.heap.size + 1,0,none⟩ = some (.int .i64 a)
 d:W.cell? ⟨w.heap.size + 1 + 1,0,none⟩ = some (.int .i64 d)
 p0:W.cell? ⟨w.heap.size + 1 + 1 + 1,0,none⟩ = some (.int .i64 E)
 p1:W.cell? ⟨w.heap.size + 1 + 1 + 1,1,none⟩ = some (.int .i64 S)
 f0:W.cell? ⟨w.heap.size + 1 + 1 + 1 + 1,0,none⟩ = some (.func (.func 74) #[] #[.pointer (some ⟨w.heap.size,0,none⟩),.pointer (some ⟨w.heap.size + 1,0,none⟩),.pointer (some ⟨w.heap.size + 1 + 1,0,none⟩)])
 f1:W.cell? ⟨w.heap.size + 1 + 1 + 1 + 1,1,none⟩ = some (.func (.func 75) #[] #[.pointer (some ⟨w.heap.size + 1 + 1 + 1,0,none⟩)])
 f2:W.cell? ⟨w.heap.size + 1 + 1 + 1 + 1,2,none⟩ = some (.func (.func 77) #[] #[.pointer (some ⟨w.heap.size + 1 + 1 + 1,0,none⟩),.pointer (some ⟨w.heap.size,0,none⟩),.pointer (some ⟨w.heap.size + 1,0,none⟩),.pointer (some ⟨w.heap.size + 1 + 1,0,none⟩)])
theorem ChkW.below {w:World} {key a d E S:Int} {W W':World} (h:ChkW w key a d E S W) (hb:Below W.heap.size W W'):ChkW w key a d E S W':=
 ⟨h.be.trans (hb.mono h.be.size),below_cell hb h.k,below_cell hb h.a,below_cell hb h.d,below_cell hb h.p0,below_cell hb h.p1,below_cell hb h.f0,below_cell hb h.f1,below_cell hb h.f2⟩
theorem check_any (key a d E S:Int) (w:World) (hk:R64 key) (ha:R64 a) (hd:R64 d) (hE:R64 E) (hS:R64 S) (hG:Glob w) :
  Calls Tryz.prog 22 #[.int .i64 key,.int .i64 a,.int .i64 d,.agg #[.int .i64 E,.int .i64 S]] w fun e w' => e = .returned (.bool (chkB key a d E S)) ∧ Below w.heap.size w w':=by
 have hmf:∀ (fn:Fn) (first cap:Array Value) (w:World),(Instr.makeFunc fn first cap).run Tryz.prog w = .ok (.func fn first cap) w:=fun _ _ _ _ => rfl
 go_enter Tryz.func22,Tryz.ntmps22
 go_wp2_with fail
 have h0:ChkW w key a d E S (((((w.alloc (.cells #[.int .i64 key] 3)).alloc (.cells #[.int .i64 a] 3)).alloc (.cells #[.int .i64 d] 3)).alloc (.cells #[.int .i64 E,.int .i64 S] 32)).alloc (.cells #[.func (.func 74) #[] #[.pointer (some ⟨w.heap.size,0,none⟩),.pointer (some ⟨w.heap.size + 1,0,none⟩),.pointer (some ⟨w.heap.size + 1 + 1,0,none⟩)],.func (.func 75) #[] #[.pointer (some ⟨w.heap.size + 1 + 1 + 1,0,none⟩)],.func (.func 77) #[] #[.pointer (some ⟨w.heap.size + 1 + 1 + 1,0,none⟩),.pointer (some ⟨w.heap.size,0,none⟩),.pointer (some ⟨w.heap.size + 1,0,none⟩),.pointer (some ⟨w.heap.size + 1 + 1,0,none⟩)]] 29)):=by
  refine ⟨by repeat (first | exact Below.refl _ _ | refine Below.alloc ?_ (by simp; try omega) _),?_,?_,?_,?_,?_,?_,?_,?_⟩ <;> simp [go_sem]
 go_loopw [16] (fun i W => ChkW w key a d E S W ∧ ((i = .int .i64 0) ∨ (i = .int .i64 1 ∧ (elB key && (elB a && elB d)) = true) ∨ (i = .int .i64 2 ∧ (elB key && (elB a && elB d)) = true ∧ (nQB E && nQB S) = true) ∨ (i = .int .i64 3 ∧ chkB key a d E S = true))) (fun i _ => 3 - (intOf i).toNat)
 case atStart => exact ⟨h0,.inl rfl⟩
 case round =>
  clear h0
  obtain ⟨hW,hr⟩:=hrel
  obtain ⟨hbe,ck,ca,cd,cp0,cp1,cf0,cf1,cf2⟩:=id hW
  have HW:=Lib.hid hW
  clear hW
  rcases hr with rfl | ⟨rfl,t1⟩ | ⟨rfl,t1,t2⟩ | ⟨rfl,t3⟩
  ·go_wp2_with fail
   refine (check1_any _ _ _ key a d _ hk ha hd ck ca cd).mono ?_
   rintro e w1 ⟨rfl,rfl⟩
   cases e1:(elB key && (elB a && elB d)) with
   | false =>
    have E1:=Lib.hid e1
    clear e1
    go_wp2_with fail
    go_ret
    exact ⟨ret_bool (by unfold chkB; rw [E1.out]; rfl),hbe⟩
   | true =>
    have E1:=Lib.hid e1
    clear e1
    go_wp2_with fail
    go_roundw
    case rel => exact ⟨HW.out,.inr (.inl ⟨rfl,E1.out⟩)⟩
    case measure => simp [intOf]
  ·have T1:=Lib.hid t1
   clear t1
   go_wp2_with fail
   refine (check2_any _ E S _ hE hS cp0 cp1).mono ?_
   rintro e w1 ⟨rfl,rfl⟩
   cases e1:(nQB E && nQB S) with
   | false =>
    have E1:=Lib.hid e1
    clear e1
    go_wp2_with fail
    go_ret
    exact ⟨ret_bool (by unfold chkB; rw [E1.out,T1.out]; rfl),hbe⟩
   | true =>
    have E1:=Lib.hid e1
    clear e1
    go_wp2_with fail
    go_roundw
    case rel => exact ⟨HW.out,.inr (.inr (.inl ⟨rfl,T1.out,E1.out⟩))⟩
    case measure => simp [intOf]
  ·have T1:=Lib.hid t1
   have T2:=Lib.hid t2
   rw [Bool.and_eq_true,Bool.and_eq_true,elB_iff,elB_iff,elB_iff] at t1
   rw [Bool.and_eq_true,nQB_iff,nQB_iff] at t2
   obtain ⟨k1,k2,k3⟩:=t1
   obtain ⟨n1,n2⟩:=t2
   have hGr:=hG.below hbe
   have HC3:=Lib.hid (check3_any _ _ _ _ key a d E S wr k1 k2 k3 n1 n2 cp0 cp1 ck ca cd hGr)
   clear k1 k2 k3 n1 n2 hGr
   go_wp2_with fail
   refine HC3.out.mono ?_
   rintro e w1 ⟨rfl,hb1⟩
   have HCH:=Lib.hid (show chkB key a d E S = (E == chal key a d (rE key E S) (sE a d E S)) by unfold chkB; rw [T1.out,T2.out,Bool.true_and,Bool.true_and])
   cases e1:(E == chal key a d (rE key E S) (sE a d E S)) with
   | false =>
    have E1:=Lib.hid e1
    clear e1
    go_wp2_with fail
    go_ret
    exact ⟨ret_bool (by rw [HCH.out,E1.out]),hbe.trans (hb1.mono hbe.size)⟩
   | true =>
    have E1:=Lib.hid e1
    clear e1
    go_wp2_with fail
    go_roundw
    case rel => exact ⟨HW.out.below hb1,.inr (.inr (.inr ⟨rfl,by rw [HCH.out,E1.out]⟩))⟩
    case measure => simp [intOf]
  ·have T3:=Lib.hid t3
   clear t3
   go_wp2_with fail
   go_ret
   exact ⟨ret_bool T3.out.symm,hbe⟩
end Go.Proofs.YtggnipkfliompaaGreatDoor
namespace Go.Proofs.YtggnipkfliompaaGreatDoor
open Go.RowKit FP
end Go.Proofs.YtggnipkfliompaaGreatDoor
namespace Go.Proofs.YtggnipkfliompaaGreatDoor
open Go.RowKit FP
def tagP:ByteArray:=⟨#[112,97,100]⟩
def padV (d dealer row:Int):Int:=hashG (strB tagP) (encL [d,dealer,row])
theorem padV_num (d dealer row:Int):0 ≤ padV d dealer row ∧ padV d dealer row < 1073741789:=hashG_num _ _
def firstE:List (Bool × Int) → Int
 | [] => 0
 | (true,_) :: l => firstE l
 | (false,e) :: _ => e
def rightB (row pt c:Int):Bool:=inB row 0 63 && (elB pt && inB c 0 1073741788)
theorem rightB_first (row pt c:Int):(firstE [(inB row 0 63,350),(elB pt,350),(inB c 0 1073741788,350)] == 0) = rightB row pt c:=by
 unfold rightB
 cases inB row 0 63 <;> cases elB pt <;> cases inB c 0 1073741788 <;> rfl
def sealE (u key dealer row value:Int):Int:=firstE [(inB u 1 1073741788,110),(elB key,100),(inB dealer 0 63,1),(inB row 0 63,1),(inB value 0 1073741788,350)]
def openE (s dealer row pt c:Int):Int:=firstE [(inB s 1 1073741788,110),(inB dealer 0 63,1),(rightB row pt c,350)]
def withE (d dealer row pt c:Int):Int:=firstE [(elB d,100),(inB dealer 0 63,1),(rightB row pt c,350)]
structure Sealed (u key dealer row value:Int):Prop where
 u:1 ≤ u ∧ u ≤ 1073741788
 key:El key
 dealer:0 ≤ dealer ∧ dealer ≤ 63
 row:0 ≤ row ∧ row ≤ 63
 value:0 ≤ value ∧ value ≤ 1073741788
structure RightP (row pt c:Int):Prop where
 row:0 ≤ row ∧ row ≤ 63
 pt:El pt
 c:0 ≤ c ∧ c ≤ 1073741788
theorem rightB_iff {row pt c:Int}:rightB row pt c = true ↔ RightP row pt c:=by
 unfold rightB
 rw [Bool.and_eq_true,Bool.and_eq_true,inB_iff,elB_iff,inB_iff]
 exact ⟨fun ⟨a,b,c⟩ => ⟨a,b,c⟩,fun ⟨a,b,c⟩ => ⟨a,b,c⟩⟩
theorem sealE_ok {u key dealer row value:Int}:sealE u key dealer row value = 0 ↔ Sealed u key dealer row value:=by
 have h:sealE u key dealer row value = 0 ↔ inB u 1 1073741788 = true ∧ elB key = true ∧ inB dealer 0 63 = true ∧ inB row 0 63 = true ∧ inB value 0 1073741788 = true:=by
  unfold sealE
  cases inB u 1 1073741788 <;> cases elB key <;> cases inB dealer 0 63 <;> cases inB row 0 63 <;> cases inB value 0 1073741788 <;> simp [firstE]
 rw [h,inB_iff,elB_iff,inB_iff,inB_iff,inB_iff]
 exact ⟨fun ⟨a,b,c,d,e⟩ => ⟨a,b,c,d,e⟩,fun ⟨a,b,c,d,e⟩ => ⟨a,b,c,d,e⟩⟩
theorem openE_ok {s dealer row pt c:Int}:openE s dealer row pt c = 0 ↔ (1 ≤ s ∧ s ≤ 1073741788) ∧ (0 ≤ dealer ∧ dealer ≤ 63) ∧ RightP row pt c:=by
 have h:openE s dealer row pt c = 0 ↔ inB s 1 1073741788 = true ∧ inB dealer 0 63 = true ∧ rightB row pt c = true:=by
  unfold openE
  cases inB s 1 1073741788 <;> cases inB dealer 0 63 <;> cases rightB row pt c <;> simp [firstE]
 rw [h,inB_iff,inB_iff,rightB_iff]
theorem withE_ok {d dealer row pt c:Int}:withE d dealer row pt c = 0 ↔ El d ∧ (0 ≤ dealer ∧ dealer ≤ 63) ∧ RightP row pt c:=by
 have h:withE d dealer row pt c = 0 ↔ elB d = true ∧ inB dealer 0 63 = true ∧ rightB row pt c = true:=by
  unfold withE
  cases elB d <;> cases inB dealer 0 63 <;> cases rightB row pt c <;> simp [firstE]
 rw [h,elB_iff,inB_iff,rightB_iff]
def cipV (u key dealer row value:Int):Int:=(value + padV (powE key u) dealer row) % 1073741789
def opnV (d dealer row c:Int):Int:=(c - padV d dealer row + 1073741789) % 1073741789
theorem cipV_num (u key dealer row value:Int):0 ≤ cipV u key dealer row value ∧ cipV u key dealer row value < 1073741789:=by unfold cipV; omega
theorem opnV_num (d dealer row c:Int):0 ≤ opnV d dealer row c ∧ opnV d dealer row c < 1073741789:=by unfold opnV; omega
theorem opnV_cipV {u key dealer row value:Int} (h:0 ≤ value ∧ value ≤ 1073741788):opnV (powE key u) dealer row (cipV u key dealer row value) = value:=by
 unfold opnV cipV
 have:=padV_num (powE key u) dealer row
 omega
theorem point_key (u s:Int):powE (powE 4 u) s = powE (powE 4 s) u:=by
 rw [powE_mul el_four,powE_mul el_four,Int.mul_comm]
end Go.Proofs.YtggnipkfliompaaGreatDoor
namespace Go.Proofs.YtggnipkfliompaaGreatDoor
open Go.RowKit FP
abbrev Pcl:=Int × Int × Int
def parC (p:Pcl):List Value:=[.int .i64 p.1,.int .i64 p.2.1,.int .i64 p.2.2]
def Parcels (w:World) (v:Value) (l:List Pcl):Prop:=
 ∃ a cap,v = .slice a l.length cap ∧ l.length ≤ cap ∧ l.length ≤ 17592186044416 ∧ (∀ p ∈ l,R64 p.1 ∧ R64 p.2.1 ∧ R64 p.2.2) ∧
  ∀ k (h:k < l.length),∃ b off,a = some ⟨b,off,none⟩ ∧ w.cell? ⟨b,off + k * 3,none⟩ = some (.int .i64 l[k].1) ∧ w.cell? ⟨b,off + k * 3 + 1,none⟩ = some (.int .i64 l[k].2.1) ∧ w.cell? ⟨b,off + k * 3 + 2,none⟩ = some (.int .i64 l[k].2.2)
theorem Parcels.below {w w':World} {v:Value} {l:List Pcl} (h:Parcels w v l) (hb:Below w.heap.size w w'):Parcels w' v l:=by
 obtain ⟨a,cap,rfl,hc,hl,hr,hk⟩:=h
 refine ⟨a,cap,rfl,hc,hl,hr,fun k hlt => ?_⟩
 obtain ⟨b,off,ha,h1,h2,h3⟩:=hk k hlt
 exact ⟨b,off,ha,below_cell hb h1,below_cell hb h2,below_cell hb h3⟩
theorem Parcels.nil (w:World) (a:Option Addr) (cap:Nat):Parcels w (.slice a 0 cap) []:=
 ⟨a,cap,rfl,Nat.zero_le _,by simp,by simp,fun k h => absurd h (Nat.not_lt_zero _)⟩
theorem pflat_at:∀ (l:List Pcl) (k j:Nat) (hk:k < l.length),j < 3 → (l.flatMap parC)[k * 3 + j]? = (parC l[k])[j]?
 | [],k,_,hk,_ => absurd hk (Nat.not_lt_zero k)
 | z :: l,0,j,_,hj => by
  rw [List.flatMap_cons,Nat.zero_mul,Nat.zero_add,List.getElem?_append_left (by show j < 3; exact hj)]; rfl
 | z :: l,k + 1,j,hk,hj => by
  rw [List.flatMap_cons,List.getElem?_append_right (by show 3 ≤ _; omega)]
  have e:(k + 1) * 3 + j - (parC z).length = k * 3 + j:=by show (k + 1) * 3 + j - 3 = _; omega
  rw [e,pflat_at l k j (by simpa using hk) hj]; rfl
theorem pflat_size (l:List Pcl):(l.flatMap parC).length = l.length * 3:=by
 induction l with
 | nil => rfl
 | cons z l ih => rw [List.flatMap_cons,List.length_append,ih,List.length_cons]; show 3 + _ = _; omega
theorem pflat_snoc (l:List Pcl) (z:Pcl):(l ++ [z]).flatMap parC = l.flatMap parC ++ parC z:=by rw [List.flatMap_append]; simp
theorem Parcels.own {w:World} {base n:Nat} {v:Value} {l:List Pcl} (h:w.ownsRow base 49 3 v n (l.flatMap parC)) (hr:∀ p ∈ l,R64 p.1 ∧ R64 p.2.1 ∧ R64 p.2.2) (hl:l.length ≤ 1000000):Parcels w v l:=by
 obtain ⟨hn,h⟩:=h
 rw [pflat_size] at hn
 obtain rfl:n = l.length:=by omega
 rcases h with ⟨rfl,h0⟩ | ⟨g,cap,cur,rfl,-,hg,hnc,-,hcs,hcur⟩
 ·exact ⟨none,0,by rw [h0],by omega,by omega,hr,fun k hk => absurd hk (by omega)⟩
 ·refine ⟨some ⟨g,0,none⟩,cap,rfl,hnc,by omega,hr,fun k hk => ⟨g,0,rfl,?_⟩⟩
  have e:∀ j,j < 3 → cur[k * 3 + j]? = (parC l[k])[j]?:=fun j hj => by
   have e2:(cur.toList.take (l.length * 3))[k * 3 + j]? = (parC l[k])[j]?:=by rw [hcur,pflat_at l k j hk hj]
   rw [List.getElem?_take,if_pos (by omega)] at e2
   rw [← Array.getElem?_toList]; exact e2
  rw [Nat.zero_add]
  exact ⟨row_cell hg (e 0 (by omega)),row_cell hg (e 1 (by omega)),row_cell hg (e 2 (by omega))⟩
theorem infoPar:(Tryz.prog.info? 49).map (fun i => (i.zero.map (·.cells.size),i.size,i.bytes)) = some (some 3,3,24):=by kernel_rfl
def numB (ps:List Pcl):Bool:=(List.range ps.length).all fun k => (ps.getD k (0,0,0)).1 == (k:Int)
theorem numB_iff {ps:List Pcl}:numB ps = true ↔ ∀ k (h:k < ps.length),ps[k].1 = (k:Int):=by
 unfold numB
 rw [List.all_eq_true]
 constructor
 ·intro h k hk
  have:=h k (List.mem_range.2 hk)
  rw [List.getD_eq_getElem?_getD,List.getElem?_eq_getElem hk] at this
  simpa using this
 ·intro h k hk
  have hk:=List.mem_range.1 hk
  rw [List.getD_eq_getElem?_getD,List.getElem?_eq_getElem hk]
  simpa using h k hk
theorem numB_bad {ps:List Pcl} {k:Nat} (h:k < ps.length) (hn:ps[k].1 ≠ (k:Int)):numB ps = false:=by
 cases e:numB ps with
 | false => rfl
 | true => exact absurd (numB_iff.1 e k h) hn
end Go.Proofs.YtggnipkfliompaaGreatDoor
namespace Go.Proofs.YtggnipkfliompaaGreatDoor
open Go.RowKit
theorem igrow_made (n:Nat) (h0:0 < n) (hn:n ≤ 35184372088832) (w:World):∃ c w',(Builtin.append_ #[23,3] 23 #[.slice none 0 0,.int .i64 n]).run Tryz.prog w = .ok (.slice (some ⟨w.heap.size,0,none⟩) n c) w' ∧ n ≤ c ∧
  w'.ownsRow w.heap.size 3 1 (.slice (some ⟨w.heap.size,0,none⟩) 0 c) 0 [] ∧ Below w.heap.size w w' ∧ w.heap.size < w'.heap.size:=by
 obtain ⟨i,hi,hz,hs,hb⟩:=info_parts infoInt
 have h:=Lib.run_append_nil_zeros (P:=Tryz.prog) w 23 3 23 3 i (.int .i64 0) .i64 .i64 Tryz.underlying23 Tryz.underlying3 hi hz n h0 (by omega) (by omega) (by rw [hb]; omega)
 have hc:=grownCap_ge w n 0 3
 have hc2:=grownCap_le_maxLen w n 0 3 (by unfold maxLen; omega)
 refine ⟨_,_,h,hc,⟨rfl,.inr ⟨_,_,_,rfl,Nat.le_refl _,World.alloc_heap_new w.drew _,Nat.zero_le _,hc2,?_,by simp⟩⟩,((Below.refl _ _).drew).alloc (Nat.le_refl _) _,by simp⟩
 rw [Array.size_append,size_zeroCells,size_zeroCells]
 show n * 1 + (grownCap w n 0 3 - n) * 1 = _
 omega
def IGrown (n:Nat) (w:World) (e:Ending) (w':World):Prop:=∃ c,e = .returned (.slice (some ⟨w.heap.size,0,none⟩) 0 c) ∧ n ≤ c ∧ w'.ownsRow w.heap.size 3 1 (.slice (some ⟨w.heap.size,0,none⟩) 0 c) 0 [] ∧ Below w.heap.size w w' ∧ w.heap.size < w'.heap.size
theorem igrow_int (n:Nat) (m:Int) (hm:(n:Int) = m) (h0:0 < n) (hn:n ≤ 35184372088832) (w:World) :
  Calls Tryz.prog 204 #[.slice none 0 0,.int .i64 m] w (IGrown n w):=by
 subst hm
 obtain ⟨c,w',hr,hc,ho,hb,hz⟩:=igrow_made n h0 hn w
 have h1:¬ ((n:Int) < 0):=by omega
 have h2:decide ((n:Int) > 0) = true:=decide_eq_true (by omega)
 have HP:Hid (IGrown n w (.returned (.slice (some ⟨w.heap.size,0,none⟩) 0 c)) w'):=Lib.hid ⟨c,rfl,hc,ho,hb,hz⟩
 have HR:=Lib.hid hr
 clear hr ho
 go_enter Tryz.func204,Tryz.ntmps204
 go_wp2_with (at_builtin; refine Lib.wpList_append_run _ rfl _ _ _ _ rfl _ _ rfl rfl _ _ HR.out ?_)
 go_ret
 exact HP.out
theorem own_some {W:World} {base n:Nat} {e:TypeId} {v:Value} {x:Value} {xs:List Value} (h:W.ownsRow base e 1 v n (x :: xs)):∃ g cap,v = .slice (some ⟨g,0,none⟩) n cap ∧ n ≤ cap:=by
 rcases h.2 with ⟨-,h0⟩ | ⟨g,cap,cur,rfl,-,-,hn,-⟩
 ·have:=h.1; rw [h0] at this; simp at this
 ·exact ⟨g,cap,rfl,hn⟩
theorem iconcat_any (sb:Nat) (v1 v2:Value) (x:Int) (l:List Int) (w:World) (h1:Ints w v1 [x]) (h2:Ints w v2 l) (hl:l.length ≤ 1000000) (c0:w.cell? ⟨sb,0,none⟩ = some v1) (c1:w.cell? ⟨sb,1,none⟩ = some v2) :
  Calls Tryz.prog 162 #[.slice (some ⟨sb,0,none⟩) 2 2] w fun e w' => ∃ v',e = .returned v' ∧ Ints w' v' (x :: l) ∧ Below w.heap.size w w':=by
 obtain ⟨a1,k1,e1,-⟩:=id h1
 obtain ⟨a2,k2,e2,-⟩:=id h2
 subst e1
 subst e2
 have H1:=Lib.hid h1
 have H2:=Lib.hid h2
 have HX:Hid (∀ z ∈ x :: l,R64 z):=Lib.hid (by
  obtain ⟨_,_,_,_,_,r1,_⟩:=h1
  obtain ⟨_,_,_,_,_,r2,_⟩:=h2
  intro z hz
  rcases List.mem_cons.1 hz with rfl | hz
  ·exact r1 z (by simp)
  ·exact r2 z hz)
 clear h1 h2
 have p1:0 ≤ (1:Int) + (l.length:Int):=by omega
 have p2:¬ ((1:Int) + (l.length:Int) < 0):=by omega
 go_enter Tryz.func162,Tryz.ntmps162
 go_wp2_with fail
 go_loop [3,11] (fun s i => (i = .int .i64 0 ∧ s = .int .i64 0) ∨ (i = .int .i64 1 ∧ s = .int .i64 1) ∨ (i = .int .i64 2 ∧ s = .int .i64 (1 + l.length:Nat))) (fun _ i => 2 - (intOf i).toNat)
 case atStart => exact .inl ⟨rfl,rfl⟩
 case round =>
  rcases hrel with ⟨rfl,rfl⟩ | ⟨rfl,rfl⟩ | ⟨rfl,rfl⟩
  ·go_wp2_with fail
   go_round
   case rel => exact .inr (.inl ⟨rfl,by go_num⟩)
   case measure => simp [intOf]
  ·go_wp2_with fail
   go_round
   case rel => exact .inr (.inr ⟨rfl,by go_num⟩)
   case measure => simp [intOf]
  ·go_wp2_with fail
   with_reducible refine (igrow_int (1 + l.length) (1 + (l.length:Int)) (by omega) (by omega) (by omega) _).mono ?_
   rintro e w1 ⟨c,rfl,hcc,ho,hb,hz⟩
   have c0':=below_cell hb c0
   have c1':=below_cell hb c1
   have HO:=Lib.hid ho
   have C0:=Lib.hid c0
   have C1:=Lib.hid c1
   clear ho c0 c1
   go_wp2_with fail
   go_loopw [6,27] (fun v i W => Below w.heap.size w W ∧ w.heap.size < W.heap.size ∧ ((i = .int .i64 0 ∧ v = .slice (some ⟨w.heap.size,0,none⟩) 0 c ∧ W.ownsRow w.heap.size 3 1 (.slice (some ⟨w.heap.size,0,none⟩) 0 c) 0 []) ∨ (i = .int .i64 1 ∧ ∃ g cap,v = .slice (some ⟨g,0,none⟩) 1 cap ∧ 1 ≤ cap ∧ W.ownsRow w.heap.size 3 1 (.slice (some ⟨g,0,none⟩) 1 cap) 1 [.int .i64 x]) ∨ (i = .int .i64 2 ∧ W.ownsRow w.heap.size 3 1 v (1 + l.length) ((x :: l).map (Value.int .i64))))) (fun _ i _ => 2 - (intOf i).toNat)
   case atStart => exact ⟨hb,hz,.inl ⟨rfl,rfl,HO.out⟩⟩
   case round =>
    clear c0' c1' hb hz
    obtain ⟨hb,hz,hr⟩:=hrel
    rcases hr with ⟨rfl,rfl,hr⟩ | ⟨rfl,g,cap,rfl,hcap,hr⟩ | ⟨rfl,hr⟩
    ·have q:=below_cell hb C0.out
     have HB:=Lib.hid (H1.out.below hb)
     have HR:=Lib.hid hr
     clear hr
     go_wp2_with (refine app_ints_any rfl _ _ rfl w.heap.size w.heap.size 0 c [] rfl HR.out _ [x] rfl HB.out (by simp) (Nat.zero_le _) (by omega) ?_; intro v8 w8 hown8 hbl8; have HOW:=Lib.hid hown8; have HG:=Lib.hid hbl8; clear hown8 hbl8)
     obtain ⟨g8,cap8,rfl,hc8⟩:=own_some (x:=.int .i64 x) (xs:=[]) HOW.out
     go_roundw
     case rel => exact ⟨hb.trans HG.out,Nat.lt_of_lt_of_le hz HG.out.size,.inr (.inl ⟨rfl,_,_,rfl,hc8,HOW.out⟩)⟩
     case measure => simp [intOf]
    ·have q:=below_cell hb C1.out
     have HB:=Lib.hid (H2.out.below hb)
     have HR:=Lib.hid hr
     clear hr
     go_wp2_with (refine app_ints_any rfl _ _ rfl w.heap.size g 1 cap _ rfl HR.out _ l rfl HB.out (by omega) hcap (by omega) ?_; intro v8 w8 hown8 hbl8; have HOW:=Lib.hid hown8; have HG:=Lib.hid hbl8; clear hown8 hbl8)
     go_roundw
     case rel => exact ⟨hb.trans HG.out,Nat.lt_of_lt_of_le hz HG.out.size,.inr (.inr ⟨rfl,HOW.out⟩)⟩
     case measure => simp [intOf]
    ·have HP:=Lib.hid (Ints.own (zs:=x :: l) hr HX.out (by simp; omega))
     clear hr
     go_wp2_with fail
     go_ret
     exact ⟨_,rfl,HP.out,hb⟩
structure ProgOK (rows:List (List Int)) (owners:List Int):Prop where
 few:rows.length ≤ 64
 len:rows.length = owners.length
 right:Right rows (wide rows)
 pos:rows ≠ [] → 1 ≤ wide rows
 own:∀ o ∈ owners,0 ≤ o ∧ o ≤ 63
theorem rowBad_false {m:Nat} {r:List Int} {o:Int} (h:rowBad m r o = false):r.length ≠ 0 ∧ r.length = m ∧ (0 ≤ o ∧ o ≤ 63) ∧ ∀ z ∈ r,0 ≤ z ∧ z < 1073741789:=by
 unfold rowBad at h
 simp only [Bool.or_eq_false_iff,decide_eq_false_iff_not,Bool.not_eq_false'] at h
 obtain ⟨h0,h1,h2,h3⟩:=h
 refine ⟨h0,by simpa using h1,inB_iff.1 h2,fun z hz => oddQ_num ?_⟩
 cases e:oddQ z with
 | false => rfl
 | true => rw [any_of_mem hz e] at h3; cases h3
where any_of_mem {l:List Int} {z:Int} (hz:z ∈ l) (e:oddQ z = true):l.any oddQ = true:=List.any_eq_true.2 ⟨z,hz,e⟩
theorem progE_ok {rows:List (List Int)} {owners:List Int} (h:progE rows owners = 0):ProgOK rows owners:=by
 unfold progE at h
 split at h
 ·cases h
 ·rename_i h1
  split at h
  ·cases h
  ·rename_i h2
   split at h
   ·cases h
   ·rename_i h3
    have hlen:rows.length = owners.length:=by omega
    have hfew:rows.length ≤ 64:=by
     by_cases hh:64 < rows.length
     ·exact absurd (.inl hh) h1
     ·omega
    have hk:∀ k (hk:k < rows.length),rowBad (wide rows) rows[k] (owners[k]'(by omega)) = false:=fun k hk => by
     cases e:rowBad (wide rows) rows[k] (owners[k]'(by omega)) with
     | false => rfl
     | true =>
      have hz:k < (rows.zip owners).length:=by simp; omega
      exact absurd (List.any_eq_true.2 ⟨(rows.zip owners)[k],List.getElem_mem hz,by rw [zip_at hlen hk]; exact e⟩) h3
    have hs:∀ r ∈ rows,r.length ≤ 64:=fun r hr => by
     by_cases hl:64 < r.length
     ·exact absurd (.inr (List.any_eq_true.2 ⟨r,hr,by simpa [longR] using hl⟩)) h1
     ·omega
    refine ⟨hfew,hlen,⟨hfew,?_,?_,?_⟩,?_,?_⟩
    ·cases rows with
     | nil => exact .inr rfl
     | cons r l => exact .inl (hs r (by simp))
    ·intro r hr
     obtain ⟨k,hk1,rfl⟩:=List.mem_iff_getElem.1 hr
     exact (rowBad_false (hk k hk1)).2.1
    ·intro r hr
     obtain ⟨k,hk1,rfl⟩:=List.mem_iff_getElem.1 hr
     exact (rowBad_false (hk k hk1)).2.2.2
    ·intro hne
     have hk1:0 < rows.length:=List.length_pos_iff.2 hne
     have:=rowBad_false (hk 0 hk1)
     omega
    ·intro o ho
     obtain ⟨k,hk1,rfl⟩:=List.mem_iff_getElem.1 ho
     exact (rowBad_false (hk k (by omega))).2.2.1
theorem ProgOK.cols {rows:List (List Int)} {owners:List Int} (h:ProgOK rows owners):1 ≤ colsQ rows:=by
 unfold colsQ; split
 ·omega
 ·rename_i h0; exact h.pos (fun e => h0 (by rw [e]; rfl))
theorem ProgOK.row {rows:List (List Int)} {owners:List Int} (h:ProgOK rows owners) {k:Nat} (hk:k < rows.length):rows[k].length = colsQ rows:=by
 unfold colsQ; rw [if_neg (by omega)]; exact h.right.len _ (List.getElem_mem hk)
end Go.Proofs.YtggnipkfliompaaGreatDoor
