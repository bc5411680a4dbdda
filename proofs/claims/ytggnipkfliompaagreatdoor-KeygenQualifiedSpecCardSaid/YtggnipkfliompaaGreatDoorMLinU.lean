/- The reference of package linear: Combine. The reference of package linear: Combine, where there are no columns. The program and the reference compute the same. The program's Separate and the reference's compute the same. The examples of the chapter, reckoned. The laws' own functions: right, made, proves. The laws' own functions: made. The laws' examples: sane returns true. What Combine and Separate say: a target is made of rows exactly if no list proves that it is not. Separate's proofs; and the rank, row by row. What the calls give, with their values known: for the laws. The rank, row by row; and that of the columns. Package dealing: the sum of shares. Package dealing: Recover. Dealing: the examples, reckoned; calls whose values are known. The reference of dealing: comparing; the laws' program of one row. The laws of dealing: the program of one row. The laws of dealing: the examples. The laws of dealing: small programs, columns, random numbers. The laws of dealing: every share that was dealt fits, and with no other value. The reference of dealing: Number, power, Commits, public, Public. Package complaints, in plain Lean: what Make and Settle compute. The laws' helpers: the reference's Formed and Commits, the laws' power. Package complaints, in plain Lean: dealings that are sealed. The laws of complaints, in plain Lean: a dealing with a wrong share. Package parcels: the encoding of some integers, pads. -/
import Derived.Test.YtggnipkfliompaaGreatDoorMDeaG
import Derived.Test.YtggnipkfliompaaGreatDoorMEqB
import Derived.Test.YtggnipkfliompaaGreatDoorMCodD
import Derived.Deep.RegionLaw
import Derived.Deep.AppendLies
import Derived.Deep.RegionHeld3
import Derived.BigQuiet
set_option maxHeartbeats 4000000
set_option maxRecDepth 100000
namespace Go.Proofs.YtggnipkfliompaaGreatDoor
open Go.RowKit
end Go.Proofs.YtggnipkfliompaaGreatDoor
namespace Go.Proofs.YtggnipkfliompaaGreatDoor
open Go.RowKit
end Go.Proofs.YtggnipkfliompaaGreatDoor
namespace Go.Proofs.YtggnipkfliompaaGreatDoor
def cv (l:List Int):Nat → Fq:=fun j => cq (nth l j)
end Go.Proofs.YtggnipkfliompaaGreatDoor
namespace Go.Proofs.YtggnipkfliompaaGreatDoor
end Go.Proofs.YtggnipkfliompaaGreatDoor
namespace Go.Proofs.YtggnipkfliompaaGreatDoor
end Go.Proofs.YtggnipkfliompaaGreatDoor
namespace Go.Proofs.YtggnipkfliompaaGreatDoor
open Go.RowKit
end Go.Proofs.YtggnipkfliompaaGreatDoor
namespace Go.Proofs.YtggnipkfliompaaGreatDoor
open Go.RowKit
end Go.Proofs.YtggnipkfliompaaGreatDoor
namespace Go.Proofs.YtggnipkfliompaaGreatDoor
open Go.RowKit
abbrev sl (b n:Nat):Value:=.slice (some ⟨b,0,none⟩) n n
end Go.Proofs.YtggnipkfliompaaGreatDoor
namespace Go.Proofs.YtggnipkfliompaaGreatDoor
def ext (n:Nat) (y:Nat → Fq):Nat → Fq:=fun j => if j = n then -1 else y j
theorem nth_map (n:Nat) (f:Nat → Int) {i:Nat} (hi:i < n):nth ((List.range n).map f) i = f i:=by unfold nth; simp [hi]
end Go.Proofs.YtggnipkfliompaaGreatDoor
namespace Go.Proofs.YtggnipkfliompaaGreatDoor
end Go.Proofs.YtggnipkfliompaaGreatDoor
namespace Go.Proofs.YtggnipkfliompaaGreatDoor
open Go.RowKit
end Go.Proofs.YtggnipkfliompaaGreatDoor
namespace Go.Proofs.YtggnipkfliompaaGreatDoor
end Go.Proofs.YtggnipkfliompaaGreatDoor
namespace Go.Proofs.YtggnipkfliompaaGreatDoor
open Go.RowKit FP
end Go.Proofs.YtggnipkfliompaaGreatDoor
namespace Go.Proofs.YtggnipkfliompaaGreatDoor
open Go.RowKit FP
end Go.Proofs.YtggnipkfliompaaGreatDoor
namespace Go.Proofs.YtggnipkfliompaaGreatDoor
open Go.RowKit FP
end Go.Proofs.YtggnipkfliompaaGreatDoor
namespace Go.Proofs.YtggnipkfliompaaGreatDoor
open Go.RowKit FP
end Go.Proofs.YtggnipkfliompaaGreatDoor
namespace Go.Proofs.YtggnipkfliompaaGreatDoor
open Go.RowKit FP
theorem rows_of1 {w:World} {b c:Nat} {r:Value} {x:List Int} (h:w.cell? ⟨b,0,none⟩ = some r) (hI:Ints w r x) (hc:1 ≤ c):Rows2 w (.slice (some ⟨b,0,none⟩) 1 c) [x]:=
 ⟨_,c,rfl,hc,by simp,fun k hk => ⟨b,0,r,rfl,by obtain rfl:k = 0:=(by simp at hk; omega); exact h,by obtain rfl:k = 0:=(by simp at hk; omega); exact hI⟩⟩
theorem ints_of1 {w:World} {b c:Nat} {x:Int} (h:w.cell? ⟨b,0,none⟩ = some (.int .i64 x)) (hx:R64 x) (hc:1 ≤ c):Ints w (.slice (some ⟨b,0,none⟩) 1 c) [x]:=
 ⟨_,c,rfl,hc,by simp,by simpa using hx,fun k hk => ⟨b,0,rfl,by obtain rfl:k = 0:=(by simp at hk; omega); exact h⟩⟩
end Go.Proofs.YtggnipkfliompaaGreatDoor
namespace Go.Proofs.YtggnipkfliompaaGreatDoor
open Go.RowKit FP
end Go.Proofs.YtggnipkfliompaaGreatDoor
namespace Go.Proofs.YtggnipkfliompaaGreatDoor
open Go.RowKit FP
def Words (w:World) (v:Value) (l:List Int):Prop:=
 ∃ a cap,v = .slice a l.length cap ∧ l.length ≤ cap ∧ l.length ≤ 1000000000000000 ∧ (∀ z ∈ l,0 ≤ z ∧ z < 4294967296) ∧
  ∀ k (h:k < l.length),∃ b off,a = some ⟨b,off,none⟩ ∧ w.cell? ⟨b,off + k,none⟩ = some (.int .u32 l[k])
theorem rcolumns_any (rv ov:Value) (rows:List (List Int)) (owners:List Int) (w:World) (hR:Rows2 w rv rows) (hO:Ints w ov owners) :
  Calls Tryz.prog 105 #[.agg #[rv,ov]] w fun e w' => e = .returned (.int .i64 (colsQ rows)) ∧ Below w.heap.size w w':=by
 obtain ⟨W1,hW1,hb1,hr1,hz⟩:=box_prog w rv ov 25
 have HR1:=Lib.hid (hR.below hb1)
 obtain ⟨a,cap,rfl,-,hlen,-⟩:=id hR
 obtain ⟨a2,cap2,rfl,-,hlen2,-⟩:=id hO
 have c0:W1.cell? ⟨w.heap.size,0,none⟩ = some (.slice a rows.length cap):=rowp_cell hr1 rfl
 have HW1:=Lib.hid hW1
 have HB1:=Lib.hid hb1
 clear hR hO hr1 hW1 hb1
 by_cases h0:rows.length = 0
 ·have HV:=Lib.hid (show colsQ rows = 1 by unfold colsQ; rw [if_pos h0])
  have z0:((rows.length:Int) == 0) = true:=by rw [h0]; rfl
  clear h0
  go_enter Tryz.func105,Tryz.ntmps105
  go_wp2_with fail
  go_ret
  exact ⟨ret_int (by rw [HV.out]; rfl),HW1.out ▸ HB1.out⟩
 ·have HV:=Lib.hid (show colsQ rows = wide rows by unfold colsQ; rw [if_neg h0])
  have z0:((rows.length:Int) == 0) = false:=beq_eq_false_iff_ne.2 (by omega)
  obtain ⟨aa,cc,e1,-,-,hk⟩:=HR1.out
  obtain ⟨b,off,r,ha,q1,hI⟩:=hk 0 (by omega)
  simp only [Value.slice.injEq] at e1
  obtain ⟨rfl,-,rfl⟩:=e1
  subst ha
  rw [Nat.add_zero] at q1
  obtain ⟨ra,rc,rfl,-⟩:=id hI
  rw [wide_at rows (by omega)] at q1
  have i3:(0:Int) < (rows.length:Int):=by omega
  clear hk hI h0
  generalize wide rows = m at *
  go_enter Tryz.func105,Tryz.ntmps105
  go_wp2_with (rw [← HW1.out])
  go_ret
  exact ⟨ret_int (by rw [HV.out]),HB1.out⟩
end Go.Proofs.YtggnipkfliompaaGreatDoor
namespace Go.Proofs.YtggnipkfliompaaGreatDoor
open Go.RowKit FP
theorem nth_mapv {f:Int → Int} {l:List Int} {k:Nat} (h:k < l.length):nth (l.map f) k = f (nth l k):=by
 rw [nth_at (by simpa using h),nth_at h,List.getElem_map]
theorem com_deal {rows:List (List Int)} {owners:List Int} {x:Int} {rnd:List Int} (h:DealOK rows owners x rnd) (hp:progE rows owners = 0):ComOK rows owners (dealC (x :: rnd)):=
 ⟨h.prog,hp,by simp [dealC,← h.len],fun c hc => by
  obtain ⟨n,-,rfl⟩:=List.mem_map.1 hc
  exact el_powE el_four n⟩
theorem dealL_len (rows:List (List Int)) (s:List Int):(dealL rows s).length = rows.length:=by simp [dealL]
theorem dealL_at (rows:List (List Int)) (s:List Int) {k:Nat} (h:k < (dealL rows s).length):(dealL rows s)[k] = ((k:Int),prodQ (rows.getD k []) s):=by
 have e:=dealL_len rows s
 show ((List.range rows.length).map (dealF rows s))[k]'(by simp; omega) = _
 rw [List.getElem_map,List.getElem_range]; rfl
end Go.Proofs.YtggnipkfliompaaGreatDoor
namespace Go.Proofs.YtggnipkfliompaaGreatDoor
open Go.RowKit FP
theorem rnumber34_any (z:Int) (w:World):Calls Tryz.prog 145 #[.int .i64 z] w fun r w' => r = .returned (.bool (!oddQ z)) ∧ w = w':=by
 by_cases h1:0 ≤ z
 ·have H:=Lib.hid (show (!oddQ z) = decide (z < 1073741789) by
   unfold oddQ; rw [decide_eq_false (show ¬ z < 0 by omega),Bool.false_or]
   by_cases h:z < 1073741789
   ·rw [decide_eq_true h,decide_eq_false (show ¬ 1073741789 ≤ z by omega)]; rfl
   ·rw [decide_eq_false h,decide_eq_true (show 1073741789 ≤ z by omega)]; rfl)
  go_enter Tryz.func145,Tryz.ntmps145
  go_wp2_with fail
  go_ret
  exact ⟨ret_bool H.out.symm,rfl⟩
 ·have H:=Lib.hid (show (!oddQ z) = false by unfold oddQ; rw [decide_eq_true (show z < 0 by omega)]; rfl)
  go_enter Tryz.func145,Tryz.ntmps145
  go_wp2_with fail
  go_ret
  exact ⟨ret_bool H.out.symm,rfl⟩
theorem rpower34_any (x n:Int) (w:World) (hx:El x) (hn:R64 n):Calls Tryz.prog 148 #[.int .i64 x,.int .i64 n] w fun r w' => r = .returned (.int .i64 (powE x n)) ∧ w = w':=by
 have HP:=Lib.hid (rpow_yes x n w hx hn)
 clear hx hn
 generalize powE x n = p at *
 go_enter Tryz.func148,Tryz.ntmps148
 go_wp2_with fail
 refine HP.out.mono ?_
 rintro e w1 ⟨rfl,rfl⟩
 go_wp2_with fail
 go_ret
 exact ⟨rfl,rfl⟩
def comB (rows:List (List Int)) (cs:List Int):Bool:=!cs.any notEl && decide (cs.length = colsQ rows)
theorem comB_E {rows:List (List Int)} {owners cs:List Int} (hp:progE rows owners = 0):dchkE rows owners cs = if comB rows cs = true then 0 else 340:=by
 unfold dchkE comB
 rw [if_neg (by simp [hp])]
 by_cases h:cs.length = colsQ rows <;> cases e:cs.any notEl <;> simp [h]
theorem rcommits_any (rv ov cv:Value) (rows:List (List Int)) (owners cs:List Int) (w:World) (hR:Rows2 w rv rows) (hO:Ints w ov owners) (hC:Ints w cv cs) (hcq:colsQ rows ≤ 64) :
  Calls Tryz.prog 168 #[.agg #[rv,ov],cv] w fun r w' => r = .returned (.bool (comB rows cs)) ∧ Below w.heap.size w w':=by
 obtain ⟨W1,hW1,hb1,hr1,hz⟩:=box_prog w rv ov 25
 have HR1:=Lib.hid (hR.below hb1)
 have HO1:=Lib.hid (hO.below hb1)
 have HC1:=Lib.hid (hC.below hb1)
 obtain ⟨a,cap,rfl,-,hlen,-⟩:=id hR
 obtain ⟨a2,cap2,rfl,-,hlen2,-⟩:=id hO
 obtain ⟨a3,cap3,rfl,-,hlen3,hcr,-⟩:=id hC
 have c0:W1.cell? ⟨w.heap.size,0,none⟩ = some (.slice a rows.length cap):=row_cell hr1 rfl
 have c1:W1.cell? ⟨w.heap.size,1,none⟩ = some (.slice a2 owners.length cap2):=row_cell hr1 rfl
 have HW1:=Lib.hid hW1
 have HB1:=Lib.hid hb1
 have HCO:=Lib.hid (fun W h1 h2 => rcolumns_any (.slice a rows.length cap) (.slice a2 owners.length cap2) rows owners W h1 h2)
 have HV:Hid (comB rows cs = (!cs.any notEl && decide (cs.length = colsQ rows))):=Lib.hid rfl
 clear hR hO hC hr1 hW1 hb1 hcr
 obtain ⟨q,hq⟩:∃ q,q = colsQ rows:=⟨_,rfl⟩
 rw [← hq] at hcq HV
 have HCO2:Hid (∀ W,Rows2 W (.slice a rows.length cap) rows → Ints W (.slice a2 owners.length cap2) owners → Calls Tryz.prog 105 #[.agg #[.slice a rows.length cap,.slice a2 owners.length cap2]] W fun e w' => e = .returned (.int .i64 (q:Nat)) ∧ Below W.heap.size W w'):=Lib.hid (by subst hq; exact HCO.out)
 clear HCO hq
 go_enter Tryz.func168,Tryz.ntmps168
 go_wp2_with fail
 rw [← HW1.out]
 go_loopw [5] (fun i W => ∃ k:Nat,k ≤ cs.length ∧ i = .int .i64 k ∧ Hid (∀ z ∈ cs.take k,notEl z = false) ∧ W = W1) (fun i _ => cs.length - (intOf i).toNat)
 case atStart => exact ⟨0,Nat.zero_le _,rfl,Lib.hid (by simp),rfl⟩
 case round =>
  obtain ⟨k,hkl,rfl,HP,rfl⟩:=hrel
  by_cases hlt:k < cs.length
  ·obtain ⟨hr64,b,off,n9,k9,e9,q9⟩:=HC1.out.get hlt
   simp only [Value.slice.injEq] at e9
   obtain ⟨rfl,-,-⟩:=e9
   have i0:(k:Int) < (cs.length:Int):=by omega
   have hnt:nth cs k = cs[k]:=nth_at hlt
   rw [hnt] at q9 hr64
   cases en:notEl cs[k] with
   | true =>
    have HVV:Hid (comB rows cs = false):=Lib.hid (by rw [HV.out,any_here hlt en]; rfl)
    have he:elB cs[k] = false:=by simpa [notEl] using en
    clear en hnt
    generalize cs[k] = z at *
    go_wp2_with fail
    with_reducible refine (rvalid_any z _ hr64).mono ?_
    rintro e w3 ⟨rfl,rfl⟩
    rw [he]
    go_wp2_with fail
    go_ret
    exact ⟨ret_bool HVV.out.symm,HB1.out⟩
   | false =>
    have HN:=Lib.hid (take_next hlt HP.out en)
    have he:elB cs[k] = true:=by simpa [notEl] using en
    clear en hnt
    generalize cs[k] = z at *
    go_wp2_with fail
    with_reducible refine (rvalid_any z _ hr64).mono ?_
    rintro e w3 ⟨rfl,rfl⟩
    rw [he]
    go_wp2_with fail
    go_roundw
    case rel => exact ⟨k + 1,by omega,by go_num,HN,by trivial⟩
    case measure => simp [intOf]; omega
  ·have hdk:decide (k < cs.length) = false:=decide_eq_false hlt
   have HL:=Lib.hid (any_of_take hlt HP.out)
   go_wp2_with fail
   refine (HCO2.out _ HR1.out HO1.out).mono ?_
   rintro e w3 ⟨rfl,hb3⟩
   go_wp2_with fail
   go_ret
   refine ⟨ret_bool ?_,HB1.out.trans (hb3.mono HB1.out.size)⟩
   rw [HV.out,HL.out]
   by_cases h:cs.length = q
   ·simp [h]
   ·simp [h]; omega
theorem rpublic0_any (rv ov cv:Value) (rows:List (List Int)) (owners cs:List Int) (n:Nat) (w:World) (hR:Rows2 w rv rows) (hO:Ints w ov owners) (hC:Ints w cv cs) (hK:ComOK rows owners cs) (hn:n < rows.length) :
  Calls Tryz.prog 188 #[.agg #[rv,ov],cv,.int .i64 n] w fun e w' => e = .returned (.int .i64 (pubQ (rows.getD n []) cs)) ∧ Below w.heap.size w w':=by
 obtain ⟨W1,hW1,hb1,hr1,hz⟩:=box_prog w rv ov 25
 have HR1:=Lib.hid (hR.below hb1)
 have HC1:=Lib.hid (hC.below hb1)
 obtain ⟨a,cap,rfl,-,hlen,-⟩:=id hR
 obtain ⟨a2,cap2,rfl,-,hlen2,-⟩:=id hO
 obtain ⟨a3,cap3,rfl,-,hlen3,hcr,-⟩:=id hC
 have c0:W1.cell? ⟨w.heap.size,0,none⟩ = some (.slice a rows.length cap):=row_cell hr1 rfl
 have HW1:=Lib.hid hW1
 have HB1:=Lib.hid hb1
 have HK:=Lib.hid hK
 have HV:Hid (pubQ (rows.getD n []) cs = pubF rows[n] cs cs.length):=Lib.hid (by rw [getD_at hn]; rfl)
 clear hR hO hC hr1 hW1 hb1 hcr hK
 obtain ⟨row,hrow⟩:∃ row,row = rows[n]:=⟨_,rfl⟩
 rw [← hrow] at HV
 have HROW:=Lib.hid hrow
 clear hrow
 have hn1:(n:Int) < (rows.length:Int):=by omega
 go_enter Tryz.func188,Tryz.ntmps188
 go_wp2_with fail
 rw [← HW1.out]
 go_loopw [7,8] (fun x i W => ∃ j:Nat,j ≤ cs.length ∧ i = .int .i64 j ∧ x = .int .i64 (pubF row cs j) ∧ Below W1.heap.size W1 W) (fun _ i _ => cs.length - (intOf i).toNat)
 case atStart => exact ⟨0,Nat.zero_le _,rfl,rfl,Below.refl _ _⟩
 case round =>
  obtain ⟨j,hjl,rfl,rfl,hb⟩:=hrel
  have f0:=below_cell hb c0
  have HBW:=Lib.hid hb
  by_cases hj:j < cs.length
  ·obtain ⟨aa,cc,e1,-,-,hk⟩:=HR1.out
   obtain ⟨b,off,rr,ha,q1,hI⟩:=hk n hn
   simp only [Value.slice.injEq] at e1
   obtain ⟨rfl,-,rfl⟩:=e1
   subst ha
   have y1:=below_cell hb q1
   have hrl:=HK.out.prog.row hn
   rw [← HROW.out] at hI hrl
   have hj2:j < row.length:=by rw [hrl,← HK.out.len]; exact hj
   obtain ⟨hr2,b2,off2,n2,k2,e2,q2⟩:=(hI.below hb).get hj2
   obtain ⟨hr3,b3,off3,n3,k3,e3,q3⟩:=(HC1.out.below hb).get hj
   obtain ⟨ra,rc,e4,-,-,-,-⟩:=id hI
   rw [e4] at e2 y1
   simp only [Value.slice.injEq] at e2 e3
   obtain ⟨e2,-,-⟩:=e2
   obtain ⟨e3,-,-⟩:=e3
   subst e2 e3
   have hel:El (nth cs j):=HK.out.el _ (by rw [nth_at hj]; exact List.getElem_mem _)
   have hep:=el_pubF (row:=row) HK.out.el j (by omega)
   have HPW:=Lib.hid (fun w => rpower34_any (nth cs j) (nth row j) w hel hr2)
   have HML:=Lib.hid (fun w => rmul_yes (pubF row cs j) (powE (nth cs j) (nth row j)) w hep (el_powE hel _))
   have HNX:=Lib.hid (show pubF row cs (j + 1) = pubF row cs j * powE (nth cs j) (nth row j) % 2147483579 from rfl)
   have i0:0 ≤ (j:Int):=by omega
   have i1:(j:Int) < (row.length:Int):=by omega
   have i2:(j:Int) < (cs.length:Int):=by omega
   have i3:0 ≤ (n:Int):=by omega
   clear hk q1 hI hb e4 hel hep hrl
   generalize pubF row cs j = p1 at *
   generalize powE (nth cs j) (nth row j) = pw at *
   generalize nth cs j = cj at *
   generalize nth row j = rj at *
   generalize hrl2:row.length = rlen at *
   go_wp2_with fail
   go_region_held3 (fun w' => w'.cell? ⟨w.heap.size,0,none⟩ = some (.slice (some ⟨b,off,none⟩) rows.length cap) ∧ w'.cell? ⟨b,off + n,none⟩ = some (.slice (some ⟨b2,off2,none⟩) rlen rc) ∧ w'.cell? ⟨b2,off2 + j,none⟩ = some (.int .i64 rj) ∧ w'.cell? ⟨b3,off3 + j,none⟩ = some (.int .i64 cj)) (go_keep)
    (first
     | (go_at_call 148; (with_reducible refine (HPW.out _).mono ?_); rintro e w2 ⟨rfl,rfl⟩)
     | (go_at_call 107; (with_reducible refine (HML.out _).mono ?_); rintro e w2 ⟨rfl,rfl⟩))
   go_wp2_with fail
   go_roundw
   case rel => exact ⟨j + 1,by omega,by go_num,by rw [HNX.out],below_drewN HBW.out _⟩
   case measure => simp [intOf]; omega
  ·obtain rfl:j = cs.length:=by omega
   have hdk:decide (cs.length < cs.length) = false:=decide_eq_false (by omega)
   clear hb f0
   go_wp2_with fail
   go_ret
   exact ⟨ret_int HV.out.symm,HB1.out.trans (HBW.out.mono HB1.out.size)⟩
end Go.Proofs.YtggnipkfliompaaGreatDoor
namespace Go.Proofs.YtggnipkfliompaaGreatDoor
open Go.RowKit FP
structure Dlg where
 dealer:Int
 cs:List Int
 ps:List Pcl
def comQ (rows:List (List Int)) (d:Dlg):Bool:=inB d.dealer 0 63 && (decide (d.ps.length = rows.length) && (comB rows d.cs && numB d.ps))
def cE (rows:List (List Int)) (owners:List Int) (d:Dlg):Int:=
 if progE rows owners ≠ 0 then progE rows owners else if comQ rows d = true then 0 else 360
structure Complete (rows:List (List Int)) (owners:List Int) (d:Dlg):Prop where
 prog:ProgOK rows owners
 prog0:progE rows owners = 0
 dealer:0 ≤ d.dealer ∧ d.dealer ≤ 63
 len:d.ps.length = rows.length
 com:ComOK rows owners d.cs
 num:∀ k (h:k < d.ps.length),d.ps[k].1 = (k:Int)
theorem comB_ok {rows:List (List Int)} {owners cs:List Int} (hp:progE rows owners = 0) (h:comB rows cs = true):ComOK rows owners cs:=
 dchkE_ok (by rw [comB_E hp,if_pos h])
theorem comB_of {rows:List (List Int)} {owners cs:List Int} (h:ComOK rows owners cs):comB rows cs = true:=by
 have e:=dchkE_of h
 rw [comB_E h.prog0] at e
 cases e2:comB rows cs with
 | true => rfl
 | false => rw [e2] at e; simp at e
theorem cE_ok {rows:List (List Int)} {owners:List Int} {d:Dlg}:cE rows owners d = 0 ↔ Complete rows owners d:=by
 unfold cE
 constructor
 ·intro h
  by_cases hp:progE rows owners = 0
  ·rw [if_neg (by simp [hp])] at h
   have hq:comQ rows d = true:=by
    cases e:comQ rows d with
    | true => rfl
    | false => rw [e] at h; simp at h
   unfold comQ at hq
   rw [Bool.and_eq_true,Bool.and_eq_true,Bool.and_eq_true,decide_eq_true_eq,inB_iff,numB_iff] at hq
   obtain ⟨h1,h2,h3,h4⟩:=hq
   exact ⟨progE_ok hp,hp,h1,h2,comB_ok hp h3,h4⟩
  ·rw [if_pos hp] at h; exact absurd h hp
 ·rintro ⟨-,h0,h1,h2,h3,h4⟩
  rw [if_neg (by simp [h0]),if_pos]
  unfold comQ
  rw [inB_iff.2 h1,decide_eq_true h2,comB_of h3,numB_iff.2 h4]; rfl
def fitV (rows:List (List Int)) (d:Dlg) (row v:Int):Bool:=powE 4 v == pubQ (rows.getD row.toNat []) d.cs
theorem fitE_com {rows:List (List Int)} {owners:List Int} {d:Dlg} (h:Complete rows owners d) {row v:Int} (hr:0 ≤ row ∧ row < (d.ps.length:Int)) (hv:0 ≤ v ∧ v < 1073741789):fitE rows owners d.cs row v = 0:=by
 unfold fitE
 rw [dchkE_of h.com,if_neg (by simp),if_pos]
 rw [rightS_iff]
 have:=h.len
 exact ⟨⟨hr.1,by omega⟩,hv⟩
theorem fitB_com {rows:List (List Int)} {owners:List Int} {d:Dlg} (h:Complete rows owners d) {row v:Int} (hr:0 ≤ row ∧ row < (d.ps.length:Int)) (hv:0 ≤ v ∧ v < 1073741789):fitB rows owners d.cs row v = fitV rows d row v:=by
 unfold fitB fitV
 rw [if_pos (fitE_com h hr hv)]
def parAt (d:Dlg) (row:Int):Pcl:=d.ps.getD row.toNat (0,0,0)
theorem parAt_mem {d:Dlg} {row:Int} (hr:0 ≤ row ∧ row < (d.ps.length:Int)):∃ h:row.toNat < d.ps.length,parAt d row = d.ps[row.toNat]:=by
 have h:row.toNat < d.ps.length:=by omega
 exact ⟨h,by unfold parAt; rw [List.getD_eq_getElem?_getD,List.getElem?_eq_getElem h]; rfl⟩
def mkV (s:Int) (d:Dlg) (row:Int):Int:=opnV (powE (parAt d row).2.1 s) d.dealer (parAt d row).1 (parAt d row).2.2
structure Cmp where
 dealer:Int
 row:Int
 D:Int
 E:Int
 S:Int
def cmpA (c:Cmp):Array Value:=#[.int .i64 c.dealer,.int .i64 c.row,.int .i64 c.D,.int .i64 c.E,.int .i64 c.S]
def cmpV (c:Cmp):Value:=.agg (cmpA c)
def stE (rows:List (List Int)) (owners:List Int) (key:Int) (d:Dlg) (c:Cmp):Int:=
 if cE rows owners d ≠ 0 then cE rows owners d else if c.dealer ≠ d.dealer ∨ c.row < 0 ∨ (d.ps.length:Int) ≤ c.row then 360 else
  if chkB key (parAt d c.row).2.1 c.D c.E c.S = false then 0 else withE c.D d.dealer (parAt d c.row).1 (parAt d c.row).2.1 (parAt d c.row).2.2
def stG (rows:List (List Int)) (owners:List Int) (key:Int) (d:Dlg) (c:Cmp):Int:=
 if stE rows owners key d c ≠ 0 then 0 else if chkB key (parAt d c.row).2.1 c.D c.E c.S = false then 2 else
  if fitV rows d c.row (opnV c.D d.dealer (parAt d c.row).1 (parAt d c.row).2.2) = true then 2 else 1
def DlgV (w:World) (v:Value) (d:Dlg):Prop:=∃ cv pv,v = .agg #[.int .i64 d.dealer,cv,pv] ∧ R64 d.dealer ∧ Ints w cv d.cs ∧ Parcels w pv d.ps
end Go.Proofs.YtggnipkfliompaaGreatDoor
namespace Go.Proofs.YtggnipkfliompaaGreatDoor
open Go.RowKit FP
def formB (key a d E S:Int):Bool:=(elB key && (elB a && elB d)) && (nQB E && nQB S)
theorem chkB_form (key a d E S:Int):chkB key a d E S = (formB key a d E S && (E == chal key a d (rE key E S) (sE a d E S))):=by
 unfold chkB formB; simp only [Bool.and_assoc]
structure Form (key a d E S:Int):Prop where
 k:El key
 a:El a
 d:El d
 E:0 ≤ E ∧ E < 1073741789
 S:0 ≤ S ∧ S < 1073741789
theorem form_iff {key a d E S:Int}:formB key a d E S = true ↔ Form key a d E S:=by
 unfold formB
 rw [Bool.and_eq_true,Bool.and_eq_true,Bool.and_eq_true,Bool.and_eq_true,elB_iff,elB_iff,elB_iff,nQB_iff,nQB_iff]
 exact ⟨fun ⟨⟨a,b,c⟩,d,e⟩ => ⟨a,b,c,d,e⟩,fun ⟨a,b,c,d,e⟩ => ⟨⟨a,b,c⟩,d,e⟩⟩
theorem cell_agg2 (w:World) (E S:Int) (t:TypeId):Below w.heap.size w (w.alloc (.cells #[.int .i64 E,.int .i64 S] t)) ∧ (w.alloc (.cells #[.int .i64 E,.int .i64 S] t)).cell? ⟨w.heap.size,0,none⟩ = some (.int .i64 E) ∧ (w.alloc (.cells #[.int .i64 E,.int .i64 S] t)).cell? ⟨w.heap.size,1,none⟩ = some (.int .i64 S):=by
 have h:=World.alloc_heap_new w (.cells #[.int .i64 E,.int .i64 S] t)
 exact ⟨below_new _ _ _,row_cell h rfl,row_cell h rfl⟩
theorem formed12_any (key a d E S:Int) (w:World) (hk:R64 key) (ha:R64 a) (hd:R64 d) (hE:R64 E) (hS:R64 S) :
  Calls Tryz.prog 141 #[.int .i64 key,.int .i64 a,.int .i64 d,.agg #[.int .i64 E,.int .i64 S]] w fun e w' => e = .returned (.bool (formB key a d E S)) ∧ Below w.heap.size w w':=by
 obtain ⟨E1,E2⟩:=hE
 obtain ⟨S1,S2⟩:=hS
 obtain ⟨hb,c0,c1⟩:=cell_agg2 w E S 32
 have HB:=Lib.hid hb
 clear hb
 go_enter Tryz.func141,Tryz.ntmps141
 go_wp2_with fail
 with_reducible refine (rvalid_any _ _ hk).mono ?_
 rintro e w1 ⟨rfl,rfl⟩
 cases e1:elB key with
 | false =>
  have H1:=Lib.hid e1
  clear e1
  go_wp2_with fail
  go_ret
  exact ⟨ret_bool (by unfold formB; rw [H1.out]; rfl),HB.out⟩
 | true =>
  have H1:=Lib.hid e1
  clear e1
  go_wp2_with fail
  with_reducible refine (rvalid_any _ _ ha).mono ?_
  rintro e w1 ⟨rfl,rfl⟩
  cases e2:elB a with
  | false =>
   have H2:=Lib.hid e2
   clear e2
   go_wp2_with fail
   go_ret
   exact ⟨ret_bool (by unfold formB; rw [H1.out,H2.out]; rfl),HB.out⟩
  | true =>
   have H2:=Lib.hid e2
   clear e2
   go_wp2_with fail
   with_reducible refine (rvalid_any _ _ hd).mono ?_
   rintro e w1 ⟨rfl,rfl⟩
   cases e3:elB d with
   | false =>
    have H3:=Lib.hid e3
    clear e3
    go_wp2_with fail
    go_ret
    exact ⟨ret_bool (by unfold formB; rw [H1.out,H2.out,H3.out]; rfl),HB.out⟩
   | true =>
    have H3:=Lib.hid e3
    clear e3
    have HF:=Lib.hid (show formB key a d E S = (decide (0 ≤ E) && decide (E < 1073741789) && (decide (0 ≤ S) && decide (S < 1073741789))) by unfold formB nQB; rw [H1.out,H2.out,H3.out,Bool.true_and,Bool.true_and,Bool.true_and])
    by_cases h1:0 ≤ E
    ·by_cases h2:E < 1073741789
     ·by_cases h3:0 ≤ S
      ·by_cases h4:S < 1073741789
       ·have HV:=Lib.hid (show formB key a d E S = true by rw [HF.out,decide_eq_true h1,decide_eq_true h2,decide_eq_true h3,decide_eq_true h4]; rfl)
        go_wp2_with fail
        go_ret
        exact ⟨ret_bool HV.out.symm,HB.out⟩
       ·have HV:=Lib.hid (show formB key a d E S = false by rw [HF.out,decide_eq_false h4,Bool.and_false,Bool.and_false])
        go_wp2_with fail
        go_ret
        exact ⟨ret_bool (by rw [HV.out]; exact decide_eq_false (by omega)),HB.out⟩
      ·have HV:=Lib.hid (show formB key a d E S = false by rw [HF.out,decide_eq_false h3,Bool.false_and,Bool.and_false])
       go_wp2_with fail
       go_ret
       exact ⟨ret_bool HV.out.symm,HB.out⟩
     ·have HV:=Lib.hid (show formB key a d E S = false by rw [HF.out,decide_eq_false h2,Bool.and_false,Bool.false_and])
      go_wp2_with fail
      go_ret
      exact ⟨ret_bool HV.out.symm,HB.out⟩
    ·have HV:=Lib.hid (show formB key a d E S = false by rw [HF.out,decide_eq_false h1,Bool.false_and,Bool.false_and])
     go_wp2_with fail
     go_ret
     exact ⟨ret_bool HV.out.symm,HB.out⟩
theorem commits12_any (key a d E S:Int) (w:World) (hf:Form key a d E S) :
  Calls Tryz.prog 142 #[.int .i64 key,.int .i64 a,.int .i64 d,.agg #[.int .i64 E,.int .i64 S]] w fun e w' => e = .returned (.tuple #[.int .i64 (rE key E S),.int .i64 (sE a d E S)]) ∧ Below w.heap.size w w':=by
 obtain ⟨hk,ha,hd,⟨E1,E2⟩,⟨S1,S2⟩⟩:=hf
 have hE64:R64 (-E):=⟨by omega,by omega⟩
 have hS64:R64 S:=⟨by omega,by omega⟩
 have hwE:=IntWalk.i64_in (-E) (by omega)
 have e1:=el_powE el_four S
 have e2:=el_powE hk (-E)
 have e3:=el_powE ha S
 have e4:=el_powE hd (-E)
 have HR1:Hid (powE 4 S * powE key (-E) % 2147483579 = rE key E S):=Lib.hid rfl
 have HR2:Hid (powE a S * powE d (-E) % 2147483579 = sE a d E S):=Lib.hid rfl
 obtain ⟨hb,c0,c1⟩:=cell_agg2 w E S 32
 have HB:=Lib.hid hb
 clear hb
 go_enter Tryz.func142,Tryz.ntmps142
 go_wp2_with fail
 with_reducible refine (rpow_yes 4 S _ el_four hS64).mono ?_
 rintro e w1 ⟨rfl,rfl⟩
 go_wp2_with fail
 with_reducible refine (rpow_yes key (-E) _ hk hE64).mono ?_
 rintro e w1 ⟨rfl,rfl⟩
 go_wp2_with fail
 with_reducible refine (rpow_yes a S _ ha hS64).mono ?_
 rintro e w1 ⟨rfl,rfl⟩
 go_wp2_with fail
 with_reducible refine (rpow_yes d (-E) _ hd hE64).mono ?_
 rintro e w1 ⟨rfl,rfl⟩
 go_wp2_with fail
 with_reducible refine (rmul_yes _ _ _ e1 e2).mono ?_
 rintro e w1 ⟨rfl,rfl⟩
 rw [HR1.out]
 go_wp2_with fail
 with_reducible refine (rmul_yes _ _ _ e3 e4).mono ?_
 rintro e w1 ⟨rfl,rfl⟩
 rw [HR2.out]
 go_wp2_with fail
 go_ret2
 exact ⟨rfl,HB.out⟩
end Go.Proofs.YtggnipkfliompaaGreatDoor
namespace Go.Proofs.YtggnipkfliompaaGreatDoor
open Go.RowKit FP
def sealP (dealer:Int) (ss us vs:Nat → Int) (i:Nat):Pcl:=((i:Int),powE 4 (us i),cipV (us i) (powE 4 (ss i)) dealer (i:Int) (vs i))
def sealD (rows:List (List Int)) (s:List Int) (dealer:Int) (ss us vs:Nat → Int):Dlg:=⟨dealer,dealC s,(List.range rows.length).map (sealP dealer ss us vs)⟩
structure SD (rows:List (List Int)) (owners:List Int) (x:Int) (rnd:List Int) (dealer:Int) (ss us vs:Nat → Int):Prop where
 ok:DealOK rows owners x rnd
 p0:progE rows owners = 0
 dl:0 ≤ dealer ∧ dealer ≤ 63
 hs:∀ i,i < rows.length → 1 ≤ ss i ∧ ss i ≤ 1073741788
 hu:∀ i,i < rows.length → 1 ≤ us i ∧ us i ≤ 1073741788
 hv:∀ i,i < rows.length → 0 ≤ vs i ∧ vs i ≤ 1073741788
section
variable {rows:List (List Int)} {owners:List Int} {x:Int} {rnd:List Int} {dealer:Int} {ss us vs:Nat → Int}
theorem sealD_len:(sealD rows (x :: rnd) dealer ss us vs).ps.length = rows.length:=by unfold sealD; simp
theorem sealD_at {i:Nat} (h:i < (sealD rows (x :: rnd) dealer ss us vs).ps.length):(sealD rows (x :: rnd) dealer ss us vs).ps[i] = sealP dealer ss us vs i:=by
 unfold sealD
 show ((List.range rows.length).map (sealP dealer ss us vs))[i]'(by rw [sealD_len] at h; simpa using h) = _
 rw [List.getElem_map,List.getElem_range]
theorem sealD_par {i:Nat} (h:i < rows.length):parAt (sealD rows (x :: rnd) dealer ss us vs) (i:Int) = sealP dealer ss us vs i:=by
 obtain ⟨h1,e⟩:=parAt_mem (d:=sealD rows (x :: rnd) dealer ss us vs) (row:=(i:Int)) ⟨by omega,by rw [sealD_len]; omega⟩
 rw [e,sealD_at]; rfl
theorem SD.mkV (h:SD rows owners x rnd dealer ss us vs) {i:Nat} (hi:i < rows.length):mkV (ss i) (sealD rows (x :: rnd) dealer ss us vs) (i:Int) = vs i:=by
 unfold Proofs.YtggnipkfliompaaGreatDoor.mkV
 rw [sealD_par hi]
 show opnV (powE (powE 4 (us i)) (ss i)) dealer (i:Int) (cipV (us i) (powE 4 (ss i)) dealer (i:Int) (vs i)) = vs i
 rw [point_key,opnV_cipV (h.hv i hi)]
end
end Go.Proofs.YtggnipkfliompaaGreatDoor
namespace Go.Proofs.YtggnipkfliompaaGreatDoor
open Go.RowKit FP
end Go.Proofs.YtggnipkfliompaaGreatDoor
namespace Go.Proofs.YtggnipkfliompaaGreatDoor
open Go.RowKit FP
theorem integers_any (v:Value) (zs:List Int) (w:World) (hI:Ints w v zs) (hl:zs.length ≤ 1000) :
  Calls Tryz.prog 197 #[v] w fun e w' => ∃ v',e = .returned v' ∧ Byts w' v' (encL zs) ∧ Below w.heap.size w w':=by
 obtain ⟨a,cap,rfl,hcap,hlen,hr,hk⟩:=hI
 have HR:=Lib.hid hr
 have HK:=Lib.hid hk
 clear hr hk
 go_enter Tryz.func197,Tryz.ntmps197
 go_wp2_with fail
 have h00:TextI w zs 0 (w.alloc (.cells #[.int .i64 3,.int .i64 0,.string ⟨#[]⟩,.slice none 0 0] 171)):=⟨_,World.alloc_heap_new _ _,World.ownsRow_nil _ _ _ _,(Below.refl _ _).alloc (Nat.le_refl _) _⟩
 go_loopw [11] (fun i W => ∃ k:Nat,k ≤ zs.length ∧ i = .int .i64 k ∧ TextI w zs k W) (fun i _ => zs.length - (intOf i).toNat)
 case atStart => exact ⟨0,Nat.zero_le _,rfl,h00⟩
 case round =>
  clear h00
  obtain ⟨k,hkl,rfl,L,hrow,hown,hbe⟩:=hrel
  have hbx:=row_lt hrow
  by_cases hlt:k < zs.length
  ·obtain ⟨b,off,rfl,q1⟩:=HK.out k hlt
   have hz:=HR.out _ (List.getElem_mem hlt)
   have c1:=below_cell hbe q1
   have HT:=Lib.hid (show zs.take k ++ [zs[k]] = zs.take (k + 1) from (List.take_succ_eq_append_getElem hlt).symm)
   generalize zs[k] = z at *
   have x3:wr.cell? ⟨w.heap.size,3,none⟩ = some L:=row_cell hrow rfl
   have x0:wr.cell? ⟨w.heap.size,0,none⟩ = some (.int .i64 3):=row_cell hrow rfl
   obtain ⟨W1,hW1,hb1,hr1⟩:=boxed4 wr (.int .i64 1) (.int .i64 z) (.string ⟨#[]⟩) (.slice none 0 0) 171
   have HOW:=Lib.hid (own_keep hown hb1)
   have HCE:Hid (∀ j u,(valC z)[j]? = some u → W1.cell? ⟨wr.heap.size,j,none⟩ = some u):=Lib.hid (fun j u hj => row_cell hr1 (by
    match j with
    | 0 | 1 | 2 | 3 => exact hj
    | n + 4 => simp [valC] at hj))
   have HNE:=Lib.hid (own_ne hown (b:=w.heap.size) (.inr (by omega)))
   have HRW:=Lib.hid ((hb1.block _ hbx).trans hrow)
   have HBX:Hid (w.heap.size < W1.heap.size):=Lib.hid (Nat.lt_of_lt_of_le hbx hb1.size)
   have HB1:=Lib.hid hb1
   have HW1:=Lib.hid hW1
   have hk1:k ≤ 1000:=by omega
   have hbs:w.heap.size + 1 ≤ W1.heap.size:=Nat.lt_of_lt_of_le hbx hb1.size
   have HBS:=Lib.hid hbs
   clear q1 hown hrow hr1 hb1 hW1 hbs
   go_wp2_with (refine app_val rfl _ _ rfl (w.heap.size + 1) _ (zs.take k) _ rfl (HW1.out ▸ HOW.out) wr.heap.size 1 z rfl (HW1.out ▸ HCE.out) (by omega) (HW1.out ▸ HBS.out) ?_; rw [← HW1.out]; intro g8 cap8 w8 h8 o8; have hr8:=(o8.1.block _ HBX.out (fun e => HNE.out e.symm)).trans HRW.out; have y3:w8.cell? ⟨w.heap.size,3,none⟩ = some L:=row_cell hr8 rfl; have f3:=row_free hr8 3; have HR8:=Lib.hid hr8; have H8:=Lib.hid h8; have O8:=Lib.hid o8; clear hr8 h8 o8)
   go_roundw
   case rel => exact ⟨k + 1,by omega,by go_num,_,row_set HR8.out 3 _,by
    have hb8:=own_below HOW.out O8.out.1 HBS.out
    refine own_keep_set ?_ (Nat.lt_succ_self _) _
    rw [← HT.out]; exact H8.out,((hbe.trans (HB1.out.mono hbe.size)).trans (own_below HOW.out O8.out.1 HBS.out |>.mono (Nat.le_succ _))).setCell (Nat.le_refl _) _⟩
   case measure => simp [intOf]; omega
  ·have hk2:k = zs.length:=by omega
   rw [hk2,List.take_length] at hown
   have hVl:=Lib.hid (Vals.own hown HR.out (by omega))
   have x0:wr.cell? ⟨w.heap.size,0,none⟩ = some (.int .i64 3):=row_cell hrow rfl
   have x1:wr.cell? ⟨w.heap.size,1,none⟩ = some (.int .i64 0):=row_cell hrow rfl
   have x2:wr.cell? ⟨w.heap.size,2,none⟩ = some (.string ⟨#[]⟩):=row_cell hrow rfl
   have x3:wr.cell? ⟨w.heap.size,3,none⟩ = some L:=row_cell hrow rfl
   have hdt:decide (k < zs.length) = false:=decide_eq_false hlt
   obtain ⟨aL,cL,hLe,-⟩:=id hVl.out
   subst hLe
   clear hown hrow hk2
   go_wp2_with fail
   refine (encode_any _ zs _ hVl.out).mono ?_
   rintro e w9 ⟨v9,rfl,hv9,hb9⟩
   have HV9:=Lib.hid hv9
   clear hv9
   go_wp2_with fail
   go_ret
   exact ⟨_,rfl,HV9.out,hbe.trans (hb9.mono hbe.size)⟩
theorem pad_any (d dealer row:Int) (w:World) (h:∀ z ∈ [d,dealer,row],R64 z) (hG:Glob w) :
  Calls Tryz.prog 150 #[.int .i64 d,.int .i64 dealer,.int .i64 row] w fun e w' => e = .returned (.int .i64 (padV d dealer row)) ∧ Below w.heap.size w w':=by
 have hI:=Lib.hid (ints_made w [d,dealer,row] 3 w.heap.size rfl h (by simp))
 have hb0:=below_new w #[.int .i64 d,.int .i64 dealer,.int .i64 row] 3
 go_enter Tryz.func150,Tryz.ntmps150
 go_wp2_with fail
 refine (integers_any _ [d,dealer,row] _ hI.out (by simp)).mono ?_
 rintro e w1 ⟨v1,rfl,hv1,hb1⟩
 have hb01:=hb0.trans (hb1.mono hb0.size)
 have HV:=Lib.hid hv1
 clear hv1
 go_wp2_with fail
 refine (hash_any tagP v1 (encL [d,dealer,row]) _ (by decide) HV.out (encL_pos _) (by have:=encL_len h (by simp); simp at this; omega) (hG.below hb01)).mono ?_
 rintro e w2 ⟨rfl,hb2⟩
 go_wp2_with fail
 go_ret
 exact ⟨rfl,hb01.trans (hb2.mono hb01.size)⟩
end Go.Proofs.YtggnipkfliompaaGreatDoor
