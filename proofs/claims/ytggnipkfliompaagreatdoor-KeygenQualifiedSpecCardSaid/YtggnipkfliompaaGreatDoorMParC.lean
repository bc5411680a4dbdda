/- Package parcels: check. Package parcels: Seal, Open, With. Package parcels: right, opened, Seal. -/
import Derived.Test.YtggnipkfliompaaGreatDoorMParB
import Derived.Deep.RegionWith
set_option maxHeartbeats 2000000
set_option maxRecDepth 100000
namespace Go.Proofs.YtggnipkfliompaaGreatDoor
open Go.RowKit FP
def Conds (w:World) (v:Value) (cs:List (Bool × Int)):Prop:=
 ∃ b off c,v = .slice (some ⟨b,off,none⟩) cs.length c ∧ cs.length ≤ c ∧ cs.length ≤ 1000 ∧
  ∀ k (h:k < cs.length),∃ lo f cap,w.cell? ⟨b,off + k * 2,none⟩ = some (.func (.func f) #[] cap) ∧ w.cell? ⟨b,off + k * 2 + 1,none⟩ = some (.int .i64 cs[k].2) ∧ CondF lo w f cap cs[k].1
theorem firstE_none {cs:List (Bool × Int)} (h:∀ x ∈ cs,x.1 = true):firstE cs = 0:=by
 induction cs with
 | nil => rfl
 | cons x l ih =>
  obtain ⟨b,e⟩:=x
  have:b = true:=h (b,e) (by simp)
  subst this
  exact ih (fun y hy => h y (by simp [hy]))
theorem firstE_at {cs:List (Bool × Int)} {k:Nat} (hk:k < cs.length) (h:∀ x ∈ cs.take k,x.1 = true) (hp:cs[k].1 = false):firstE cs = cs[k].2:=by
 induction cs generalizing k with
 | nil => exact absurd hk (Nat.not_lt_zero _)
 | cons x l ih =>
  obtain ⟨b,e⟩:=x
  cases k with
  | zero =>
   have:b = false:=hp
   subst this; rfl
  | succ k =>
   have:b = true:=h (b,e) (by simp)
   subst this
   exact ih (by simpa using hk) (fun y hy => h y (by simp [hy])) hp
theorem unmet_any (f:FuncId) (cap:Array Value) (b:Bool) (e:Int) (lo:Nat) (w:World) (hF:CondF lo w f cap b) :
  Calls Tryz.prog 185 #[.agg #[.func (.func f) #[] cap,.int .i64 e]] w fun r w' => r = .returned (.bool (!b)) ∧ Below w.heap.size w w':=by
 have hE':∀ (args:Array Value) (w:World),(callFunc f args).run Tryz.prog w = .ok (.enter f args) w:=hF.1
 have HB:=Lib.hid (below_new w #[.func (.func f) #[] cap,.int .i64 e] 153)
 have HC:=Lib.hid (hF.2 _ (Keep.below HB.out))
 clear hF
 go_enter Tryz.func185,Tryz.ntmps185
 go_wp2_with fail
 refine HC.out.mono ?_
 rintro r w1 ⟨rfl,hb1⟩
 go_wp2_with fail
 go_ret
 exact ⟨rfl,HB.out.trans (hb1.mono HB.out.size)⟩
def FirstR (cs:List (Bool × Int)) (w:World) (r:Ending) (w':World):Prop:=
 ((∃ f cap,r = .returned (.tuple #[.agg #[.func (.func f) #[] cap,.int .i64 (firstE cs)],.bool true])) ∨ (r = .returned (.tuple #[.agg #[.nilFunc,.int .i64 0],.bool false]) ∧ firstE cs = 0)) ∧ Below w.heap.size w w'
theorem cond_row (w:World) (t:TypeId):∃ W,W = w.alloc (.cells #[.nilFunc,.int .i64 0] t) ∧ Below w.heap.size w W ∧ W.heap[w.heap.size]? = some (.cells #[.nilFunc,.int .i64 0] t (0,0)):=
 ⟨_,rfl,below_new _ _ _,World.alloc_heap_new _ _⟩
theorem first_any (v:Value) (cs:List (Bool × Int)) (w:World) (hC:Conds w v cs) :
  Calls Tryz.prog 184 #[.func (.func 185) #[] #[],v] w (FirstR cs w):=by
 obtain ⟨b,off,c,rfl,hcap,hlen,hk⟩:=hC
 obtain ⟨W1,hW1,hb1,hr1⟩:=cond_row w 153
 have HK:=Lib.hid hk
 have HW1:=Lib.hid hW1
 have HB1:=Lib.hid hb1
 have HR1:=Lib.hid hr1
 have hst:=fun (a:Addr) (fn:Fn) (x y:Array Value) (w:World) => run_store Tryz.prog w a (.func fn x y) .plain rfl
 clear hk hW1 hb1 hr1
 go_enter Tryz.func184,Tryz.ntmps184
 go_wp2_with fail
 rw [← HW1.out]
 go_loopw [10] (fun i W => ∃ k:Nat,k ≤ cs.length ∧ i = .int .i64 k ∧ Hid (∀ x ∈ cs.take k,x.1 = true) ∧ Below W1.heap.size W1 W) (fun i _ => cs.length - (intOf i).toNat)
 case atStart => exact ⟨0,Nat.zero_le _,rfl,Lib.hid (by simp),Below.refl _ _⟩
 case round =>
  obtain ⟨k,hkl,rfl,HP,hb⟩:=hrel
  by_cases hlt:k < cs.length
  ·obtain ⟨lo,f,cap,q1,q2,q3⟩:=HK.out k hlt
   have hb2:=HB1.out.trans (hb.mono HB1.out.size)
   have c1:=below_cell hb2 q1
   have c2:=below_cell hb2 q2
   have HF:=Lib.hid (q3.keep (Keep.below hb2))
   obtain ⟨e,he⟩:∃ e,e = cs[k].2:=⟨_,rfl⟩
   rw [← he] at c2
   have HE:=Lib.hid he
   have hr2:=(hb.block _ (row_lt HR1.out)).trans HR1.out
   have HR2:=Lib.hid hr2
   have HB2:=Lib.hid hb
   have HB3:=Lib.hid (hb.alloc hb.size (.cells #[.func (.func f) #[] cap,.int .i64 e] 153))
   have HU:=Lib.hid (unmet_any f cap cs[k].1 e lo _ (HF.out.keep (Keep.below (below_new wr #[.func (.func f) #[] cap,.int .i64 e] 153))))
   have y0:(wr.alloc (.cells #[.func (.func f) #[] cap,.int .i64 e] 153)).cell? ⟨wr.heap.size,0,none⟩ = some (.func (.func f) #[] cap):=by simp [go_sem]
   have y1:(wr.alloc (.cells #[.func (.func f) #[] cap,.int .i64 e] 153)).cell? ⟨wr.heap.size,1,none⟩ = some (.int .i64 e):=by simp [go_sem]
   have Y0:=Lib.hid y0
   have Y1:=Lib.hid y1
   clear q1 q2 q3 he hr2 hb hb2 y0 y1
   cases hp:cs[k].1 with
   | true =>
    have HN:=Lib.hid (show ∀ x ∈ cs.take (k + 1),x.1 = true by
     rw [List.take_succ_eq_append_getElem hlt]
     intro z hz
     rcases List.mem_append.1 hz with h | h
     ·exact HP.out z h
     ·rw [List.mem_singleton.1 h]; exact hp)
    rw [hp] at HU
    clear hp
    go_wp2_with fail
    refine HU.out.mono ?_
    rintro r w1 ⟨rfl,hb1⟩
    go_wp2_with fail
    go_roundw
    case rel => exact ⟨k + 1,by omega,by go_num,HN,HB3.out.trans (hb1.mono HB3.out.size)⟩
    case measure => simp [intOf]; omega
   | false =>
    have HV:=Lib.hid (show firstE cs = e by rw [HE.out]; exact firstE_at hlt HP.out hp)
    rw [hp] at HU
    clear hp
    go_wp2_with fail
    refine HU.out.mono ?_
    rintro r w1 ⟨rfl,hb1⟩
    have z0:=below_cell hb1 Y0.out
    have z1:=below_cell hb1 Y1.out
    have hr3:=(hb1.block _ (Nat.lt_of_lt_of_le (row_lt HR2.out) (by simp))).trans (((below_new wr #[.func (.func f) #[] cap,.int .i64 e] 153).block _ (row_lt HR2.out)).trans HR2.out)
    have x0:w1.cell? ⟨w.heap.size,0,none⟩ = some .nilFunc:=row_cell hr3 rfl
    have x1:w1.cell? ⟨w.heap.size,1,none⟩ = some (.int .i64 0):=row_cell hr3 rfl
    have f0:=row_free hr3 0
    have f1:=row_free hr3 1
    have HR3:=Lib.hid hr3
    have HB4:=Lib.hid (HB1.out.trans ((HB3.out.trans (hb1.mono HB3.out.size)).mono HB1.out.size))
    clear hr3 hb1
    go_wp2_with fail
    have hr4:=row_set (row_set HR3.out 0 (.func (.func f) #[] cap)) 1 (.int .i64 e)
    have d0:=row_cell hr4 (k:=0) (v:=.func (.func f) #[] cap) rfl
    have d1:=row_cell hr4 (k:=1) (v:=.int .i64 e) rfl
    refine bodyPost_ret (v:=.tuple #[.agg #[.func (.func f) #[] cap,.int .i64 e],.bool true]) (by simp [results,Tryz.results184,go_sem,d0,d1]) rfl ?_
    refine ⟨.inl ⟨f,cap,?_⟩,?_⟩
    ·rw [HV.out]
    ·repeat (first | exact HB4.out | refine Below.setCell ?_ (by simp) _)
  ·have HV:=Lib.hid (show firstE cs = 0 from firstE_none (by have:=HP.out; rwa [List.take_of_length_le (by omega)] at this))
   have hr2:=(hb.block _ (row_lt HR1.out)).trans HR1.out
   have x0:wr.cell? ⟨w.heap.size,0,none⟩ = some .nilFunc:=row_cell hr2 rfl
   have x1:wr.cell? ⟨w.heap.size,1,none⟩ = some (.int .i64 0):=row_cell hr2 rfl
   have f0:=row_free hr2 0
   have f1:=row_free hr2 1
   go_wp2_with fail
   have hr4:=row_set (row_set hr2 0 .nilFunc) 1 (.int .i64 0)
   have d0:=row_cell hr4 (k:=0) (v:=.nilFunc) rfl
   have d1:=row_cell hr4 (k:=1) (v:=.int .i64 0) rfl
   refine bodyPost_ret (v:=.tuple #[.agg #[.nilFunc,.int .i64 0],.bool false]) (by simp [results,Tryz.results184,go_sem,d0,d1]) rfl ?_
   refine ⟨.inr ⟨rfl,HV.out⟩,?_⟩
   have hb3:=HB1.out.trans (hb.mono HB1.out.size)
   repeat (first | exact hb3 | refine Below.setCell ?_ (by simp) _)
theorem pcheck_any (v:Value) (cs:List (Bool × Int)) (w:World) (hC:Conds w v cs) :
  Calls Tryz.prog 128 #[v] w fun r w' => r = .returned (.int .i64 (firstE cs)) ∧ Below w.heap.size w w':=by
 go_enter Tryz.func128,Tryz.ntmps128
 go_wp2_with fail
 refine (first_any v cs w hC).mono ?_
 clear hC
 rintro r w1 ⟨⟨f,cap,rfl⟩ | ⟨rfl,h0⟩,hb⟩
 ·go_wp2_with fail
  go_ret
  exact ⟨rfl,by repeat (first | exact hb | refine Below.setCell ?_ (by simp) _ | refine Below.alloc ?_ hb.size _)⟩
 ·have H0:=Lib.hid h0
  clear h0
  go_wp2_with fail
  go_ret
  exact ⟨ret_int H0.out.symm,by repeat (first | exact hb | refine Below.setCell ?_ (by simp) _ | refine Below.alloc ?_ hb.size _)⟩
end Go.Proofs.YtggnipkfliompaaGreatDoor
namespace Go.Proofs.YtggnipkfliompaaGreatDoor
open Go.RowKit FP
theorem secret_any (n:Int) (w:World) :
  Calls Tryz.prog 129 #[.int .i64 n] w (CondR (inB n 1 1073741788) 110 w):=by
 have hb0:=below_new w #[.nilFunc,.int .i64 0] 153
 go_enter Tryz.func129,Tryz.ntmps129
 go_wp2_with fail
 refine (within_any n 1 1073741788 110 _).mono ?_
 rintro r w1 ⟨f,cap,rfl,hF,hb⟩
 have hr:=(hb.block w.heap.size (by simp)).trans (World.alloc_heap_new w (.cells #[.nilFunc,.int .i64 0] 153))
 have x0:w1.cell? ⟨w.heap.size,0,none⟩ = some .nilFunc:=row_cell hr rfl
 have x1:w1.cell? ⟨w.heap.size,1,none⟩ = some (.int .i64 0):=row_cell hr rfl
 have f0:=row_free hr 0
 have f1:=row_free hr 1
 have hb2:=hb0.trans (hb.mono hb0.size)
 have hr4:=row_set (row_set hr 0 (.func (.func f) #[] cap)) 1 (.int .i64 110)
 have d0:=row_cell hr4 (k:=0) (v:=.func (.func f) #[] cap) rfl
 have d1:=row_cell hr4 (k:=1) (v:=.int .i64 110) rfl
 have HF:=Lib.hid hF
 clear hF hb hb0 hr4
 go_wp2_with fail
 refine bodyPost_ret (v:=.agg #[.func (.func f) #[] cap,.int .i64 110]) (by simp [results,Tryz.results129,go_sem,d0,d1]) rfl ?_
 refine ⟨f,cap,rfl,?_,?_⟩
 ·exact (HF.out.keep (((Keep.refl _ _).setCell (by simp) _).setCell (by simp) _)).low (by simp)
 ·exact (hb2.setCell (Nat.le_refl _) _).setCell (Nat.le_refl _) _
theorem person_any (n:Int) (w:World) :
  Calls Tryz.prog 130 #[.int .i64 n] w (CondR (inB n 0 63) 1 w):=by
 have hb0:=below_new w #[.nilFunc,.int .i64 0] 153
 go_enter Tryz.func130,Tryz.ntmps130
 go_wp2_with fail
 refine (within_any n 0 63 1 _).mono ?_
 rintro r w1 ⟨f,cap,rfl,hF,hb⟩
 have hr:=(hb.block w.heap.size (by simp)).trans (World.alloc_heap_new w (.cells #[.nilFunc,.int .i64 0] 153))
 have x0:w1.cell? ⟨w.heap.size,0,none⟩ = some .nilFunc:=row_cell hr rfl
 have x1:w1.cell? ⟨w.heap.size,1,none⟩ = some (.int .i64 0):=row_cell hr rfl
 have f0:=row_free hr 0
 have f1:=row_free hr 1
 have hb2:=hb0.trans (hb.mono hb0.size)
 have hr4:=row_set (row_set hr 0 (.func (.func f) #[] cap)) 1 (.int .i64 1)
 have d0:=row_cell hr4 (k:=0) (v:=.func (.func f) #[] cap) rfl
 have d1:=row_cell hr4 (k:=1) (v:=.int .i64 1) rfl
 have HF:=Lib.hid hF
 clear hF hb hb0 hr4
 go_wp2_with fail
 refine bodyPost_ret (v:=.agg #[.func (.func f) #[] cap,.int .i64 1]) (by simp [results,Tryz.results130,go_sem,d0,d1]) rfl ?_
 refine ⟨f,cap,rfl,?_,?_⟩
 ·exact (HF.out.keep (((Keep.refl _ _).setCell (by simp) _).setCell (by simp) _)).low (by simp)
 ·exact (hb2.setCell (Nat.le_refl _) _).setCell (Nat.le_refl _) _
theorem conds3 (w:World) (t:TypeId) (B:Nat) (hB:w.heap.size = B) {lo1 lo2 lo3:Nat} {f1 f2 f3:FuncId} {cap1 cap2 cap3:Array Value} {b1 b2 b3:Bool} (e1 e2 e3:Int) (h1:CondF lo1 w f1 cap1 b1) (h2:CondF lo2 w f2 cap2 b2) (h3:CondF lo3 w f3 cap3 b3) :
  Conds (w.alloc (.cells #[.func (.func f1) #[] cap1,.int .i64 e1,.func (.func f2) #[] cap2,.int .i64 e2,.func (.func f3) #[] cap3,.int .i64 e3] t)) (.slice (some ⟨B,0,none⟩) 3 3) [(b1,e1),(b2,e2),(b3,e3)]:=by
 subst hB
 have hr:=World.alloc_heap_new w (.cells #[.func (.func f1) #[] cap1,.int .i64 e1,.func (.func f2) #[] cap2,.int .i64 e2,.func (.func f3) #[] cap3,.int .i64 e3] t)
 have hk:∀ lo,Keep lo w (w.alloc (.cells #[.func (.func f1) #[] cap1,.int .i64 e1,.func (.func f2) #[] cap2,.int .i64 e2,.func (.func f3) #[] cap3,.int .i64 e3] t)):=fun lo => Keep.below (below_new _ _ _)
 refine ⟨_,0,3,rfl,by simp,by simp,fun k hk' => ?_⟩
 match k,hk' with
 | 0,_ => exact ⟨lo1,f1,cap1,row_cell hr rfl,row_cell hr rfl,h1.keep (hk _)⟩
 | 1,_ => exact ⟨lo2,f2,cap2,row_cell hr rfl,row_cell hr rfl,h2.keep (hk _)⟩
 | 2,_ => exact ⟨lo3,f3,cap3,row_cell hr rfl,row_cell hr rfl,h3.keep (hk _)⟩
theorem conds5 (w:World) (t:TypeId) (B:Nat) (hB:w.heap.size = B) {lo1 lo2 lo3 lo4 lo5:Nat} {f1 f2 f3 f4 f5:FuncId} {cap1 cap2 cap3 cap4 cap5:Array Value} {b1 b2 b3 b4 b5:Bool} (e1 e2 e3 e4 e5:Int) (h1:CondF lo1 w f1 cap1 b1) (h2:CondF lo2 w f2 cap2 b2) (h3:CondF lo3 w f3 cap3 b3) (h4:CondF lo4 w f4 cap4 b4) (h5:CondF lo5 w f5 cap5 b5) :
  Conds (w.alloc (.cells #[.func (.func f1) #[] cap1,.int .i64 e1,.func (.func f2) #[] cap2,.int .i64 e2,.func (.func f3) #[] cap3,.int .i64 e3,.func (.func f4) #[] cap4,.int .i64 e4,.func (.func f5) #[] cap5,.int .i64 e5] t)) (.slice (some ⟨B,0,none⟩) 5 5) [(b1,e1),(b2,e2),(b3,e3),(b4,e4),(b5,e5)]:=by
 subst hB
 have hr:=World.alloc_heap_new w (.cells #[.func (.func f1) #[] cap1,.int .i64 e1,.func (.func f2) #[] cap2,.int .i64 e2,.func (.func f3) #[] cap3,.int .i64 e3,.func (.func f4) #[] cap4,.int .i64 e4,.func (.func f5) #[] cap5,.int .i64 e5] t)
 have hk:∀ lo,Keep lo w (w.alloc (.cells #[.func (.func f1) #[] cap1,.int .i64 e1,.func (.func f2) #[] cap2,.int .i64 e2,.func (.func f3) #[] cap3,.int .i64 e3,.func (.func f4) #[] cap4,.int .i64 e4,.func (.func f5) #[] cap5,.int .i64 e5] t)):=fun lo => Keep.below (below_new _ _ _)
 refine ⟨_,0,5,rfl,by simp,by simp,fun k hk' => ?_⟩
 match k,hk' with
 | 0,_ => exact ⟨lo1,f1,cap1,row_cell hr rfl,row_cell hr rfl,h1.keep (hk _)⟩
 | 1,_ => exact ⟨lo2,f2,cap2,row_cell hr rfl,row_cell hr rfl,h2.keep (hk _)⟩
 | 2,_ => exact ⟨lo3,f3,cap3,row_cell hr rfl,row_cell hr rfl,h3.keep (hk _)⟩
 | 3,_ => exact ⟨lo4,f4,cap4,row_cell hr rfl,row_cell hr rfl,h4.keep (hk _)⟩
 | 4,_ => exact ⟨lo5,f5,cap5,row_cell hr rfl,row_cell hr rfl,h5.keep (hk _)⟩
theorem right1_any (xb:Nat) (row pt c:Int) (w:World) (hp:R64 pt) (x0:w.cell? ⟨xb,0,none⟩ = some (.int .i64 row)) (x1:w.cell? ⟨xb,1,none⟩ = some (.int .i64 pt)) (x2:w.cell? ⟨xb,2,none⟩ = some (.int .i64 c)) :
  Calls Tryz.prog 186 #[.pointer (some ⟨xb,0,none⟩)] w fun r w' => r = .returned (.bool (rightB row pt c)) ∧ Below w.heap.size w w':=by
 have HV:=Lib.hid (rightB_first row pt c)
 have hst:=fun (a:Addr) (fn:Fn) (x y:Array Value) (w:World) => run_store Tryz.prog w a (.func fn x y) .plain rfl
 go_enter Tryz.func186,Tryz.ntmps186
 go_wp2_with fail
 go_region_held3 (fun w' => w'.cell? ⟨xb,0,none⟩ = some (.int .i64 row) ∧ w'.cell? ⟨xb,1,none⟩ = some (.int .i64 pt) ∧ w'.cell? ⟨xb,2,none⟩ = some (.int .i64 c)) (go_keep)
  (first
   | (go_at_call 149; (with_reducible refine (within_any row 0 63 350 _).mono ?_); rintro r w1 ⟨f1,cap1,rfl,hF1,hb1⟩; have s10:w1.cell? ⟨xb,0,none⟩ = some (.int .i64 row):=below_cell hb1 (by assumption); have s11:w1.cell? ⟨xb,1,none⟩ = some (.int .i64 pt):=below_cell hb1 (by assumption); have s12:w1.cell? ⟨xb,2,none⟩ = some (.int .i64 c):=below_cell hb1 (by assumption); have HF1:=Lib.hid hF1; clear hF1)
   | (go_at_call 140; (with_reducible refine (element_any pt 350 _ hp).mono ?_); rintro r w2 ⟨f2,cap2,rfl,hF2,hb2⟩; have s20:w2.cell? ⟨xb,0,none⟩ = some (.int .i64 row):=below_cell hb2 (by assumption); have s21:w2.cell? ⟨xb,1,none⟩ = some (.int .i64 pt):=below_cell hb2 (by assumption); have s22:w2.cell? ⟨xb,2,none⟩ = some (.int .i64 c):=below_cell hb2 (by assumption); have HF2:=Lib.hid hF2; clear hF2)
   | (go_at_call 149; (with_reducible refine (within_any c 0 1073741788 350 _).mono ?_); rintro r w3 ⟨f3,cap3,rfl,hF3,hb3⟩; have s30:w3.cell? ⟨xb,0,none⟩ = some (.int .i64 row):=below_cell hb3 (by assumption); have s31:w3.cell? ⟨xb,1,none⟩ = some (.int .i64 pt):=below_cell hb3 (by assumption); have s32:w3.cell? ⟨xb,2,none⟩ = some (.int .i64 c):=below_cell hb3 (by assumption); have HF3:=Lib.hid hF3; clear hF3)
   | (go_at_call 128; (refine (pcheck_any _ _ _ (conds3 _ _ _ rfl 350 350 350 (HF1.out.keep (Keep.below (hb2.trans (hb3.mono hb2.size)))) (HF2.out.keep (Keep.below hb3)) HF3.out)).mono ?_); rintro r w4 ⟨rfl,hb4⟩; have s40:w4.cell? ⟨xb,0,none⟩ = some (.int .i64 row):=below_cell hb4 (below_cell (below_new _ _ _) s30); have s41:w4.cell? ⟨xb,1,none⟩ = some (.int .i64 pt):=below_cell hb4 (below_cell (below_new _ _ _) s31); have s42:w4.cell? ⟨xb,2,none⟩ = some (.int .i64 c):=below_cell hb4 (below_cell (below_new _ _ _) s32)))
 go_wp2_with fail
 go_ret
 refine ⟨ret_bool HV.out,?_⟩
 have h1:Below w.heap.size w w1:=(Below.refl _ _).drew.trans hb1
 have h2:=h1.trans (hb2.mono h1.size)
 have h3:=h2.trans (hb3.mono h2.size)
 have h4:=h3.alloc h3.size (.cells #[.func (.func f1) #[] cap1,.int .i64 350,.func (.func f2) #[] cap2,.int .i64 350,.func (.func f3) #[] cap3,.int .i64 350] 153)
 exact h4.trans (hb4.mono h4.size)
end Go.Proofs.YtggnipkfliompaaGreatDoor
namespace Go.Proofs.YtggnipkfliompaaGreatDoor
open Go.RowKit FP
theorem cells3 (w:World) (a b c:Int) (t:TypeId):∃ W,W = w.alloc (.cells #[.int .i64 a,.int .i64 b,.int .i64 c] t) ∧ Below w.heap.size w W ∧ W.heap[w.heap.size]? = some (.cells #[.int .i64 a,.int .i64 b,.int .i64 c] t (0,0)) ∧ w.heap.size < W.heap.size:=
 ⟨_,rfl,below_new _ _ _,World.alloc_heap_new _ _,by simp [go_sem]⟩
theorem right_any (row pt c:Int) (w:World) (hp:R64 pt) :
  Calls Tryz.prog 131 #[.agg #[.int .i64 row,.int .i64 pt,.int .i64 c]] w (CondR (rightB row pt c) 350 w):=by
 have hmf:∀ (fn:Fn) (first cap:Array Value) (w:World),(Instr.makeFunc fn first cap).run Tryz.prog w = .ok (.func fn first cap) w:=fun _ _ _ _ => rfl
 go_enter Tryz.func131,Tryz.ntmps131
 go_wp2_with fail
 refine bodyPost_ret (v:=.agg #[.func (.func 186) #[] #[.pointer (some ⟨w.heap.size,0,none⟩)],.int .i64 350]) (by simp [results,Tryz.results131,go_sem]) rfl ?_
 refine ⟨_,_,rfl,⟨goes_right1,fun w' hb => ?_⟩,?_⟩
 ·exact right1_any _ row pt c w' hp (hb.cell (Nat.le_refl _) (by simp [go_sem])) (hb.cell (Nat.le_refl _) (by simp [go_sem])) (hb.cell (Nat.le_refl _) (by simp [go_sem]))
 ·repeat (first | exact Below.refl _ _ | refine Below.setCell ?_ (by simp; try omega) _ | refine Below.alloc ?_ (by simp; try omega) _ | refine Below.drew ?_)
theorem opened_any (d dealer row pt c:Int) (w:World) (hd:R64 d) (hl:R64 dealer) (hr:R64 row) (hc:0 ≤ c ∧ c ≤ 1073741788) (hG:Glob w) :
  Calls Tryz.prog 132 #[.int .i64 d,.int .i64 dealer,.agg #[.int .i64 row,.int .i64 pt,.int .i64 c]] w fun r w' => r = .returned (.int .i64 (opnV d dealer row c)) ∧ Below w.heap.size w w':=by
 obtain ⟨W1,hW1,hb1,hr1,hz⟩:=cells3 w row pt c 49
 have HW1:=Lib.hid hW1
 have HB1:=Lib.hid hb1
 have c0:W1.cell? ⟨w.heap.size,0,none⟩ = some (.int .i64 row):=row_cell hr1 rfl
 have c2:W1.cell? ⟨w.heap.size,2,none⟩ = some (.int .i64 c):=row_cell hr1 rfl
 have hg1:=hG.below hb1
 have HG1:Hid (Glob W1.drew):=Lib.hid ⟨hg1.num,hg1.sta⟩
 have HR:Hid (∀ z ∈ [d,dealer,row],R64 z):=Lib.hid (by intro z hz; simp at hz; rcases hz with rfl | rfl | rfl; exact hd; exact hl; exact hr)
 obtain ⟨p1,p2⟩:=padV_num d dealer row
 obtain ⟨k1,k2⟩:=hc
 have HV:Hid ((IntKind.i64.wrap (IntKind.i64.wrap (c - padV d dealer row) + 1073741789)).tmod 1073741789 = opnV d dealer row c):=Lib.hid (by
  rw [IntWalk.i64_in (c - padV d dealer row) (by omega),IntWalk.i64_in (c - padV d dealer row + 1073741789) (by omega),Int.tmod_eq_emod_of_nonneg (by omega)]; rfl)
 clear hW1 hb1 hr1 hg1 hd hl hr hz hG
 go_enter Tryz.func132,Tryz.ntmps132
 go_wp2_with fail
 rw [← HW1.out]
 go_region_held3 (fun w' => w'.cell? ⟨w.heap.size,0,none⟩ = some (.int .i64 row) ∧ w'.cell? ⟨w.heap.size,2,none⟩ = some (.int .i64 c)) (go_keep)
  (first
   | (go_at_call 150; (with_reducible refine (pad_any d dealer row _ HR.out HG1.out).mono ?_); rintro r w2 ⟨rfl,hb2⟩; have s20:w2.cell? ⟨w.heap.size,0,none⟩ = some (.int .i64 row):=below_cell hb2 (by assumption); have s22:w2.cell? ⟨w.heap.size,2,none⟩ = some (.int .i64 c):=below_cell hb2 (by assumption)))
 rw [HV.out]
 clear p1 p2
 go_wp2_with fail
 go_ret
 exact ⟨rfl,HB1.out.trans (((Below.refl _ _).drew.trans hb2).mono HB1.out.size)⟩
theorem seal_yes (u key dealer row value:Int) (w:World) (hS:Sealed u key dealer row value) (hG:Glob w) :
  Calls Tryz.prog 70 #[.int .i64 u,.int .i64 key,.int .i64 dealer,.int .i64 row,.int .i64 value] w fun r w' => r = .returned (.tuple #[.agg #[.int .i64 row,.int .i64 (powE 4 u),.int .i64 (cipV u key dealer row value)],.int .i64 0]) ∧ Below w.heap.size w w':=by
 obtain ⟨W1,hW1,hb1,hr1,hz⟩:=cells3 w 0 0 0 49
 have HW1:=Lib.hid hW1
 have hst:=fun (a:Addr) (fn:Fn) (x y:Array Value) (w:World) => run_store Tryz.prog w a (.func fn x y) .plain rfl
 have HE:Hid (firstE [(inB u 1 1073741788,110),(elB key,100),(inB dealer 0 63,1),(inB row 0 63,1),(inB value 0 1073741788,350)] = 0):=Lib.hid (sealE_ok.2 hS)
 obtain ⟨⟨u1,u2⟩,hk,⟨l1,l2⟩,⟨r1,r2⟩,⟨v1,v2⟩⟩:=hS
 have hu64:R64 u:=⟨by omega,by omega⟩
 have hk64:=hk.r64
 have HPC:Hid (∀ z ∈ [powE key u,dealer,row],R64 z):=Lib.hid (by intro z hz; simp at hz; rcases hz with rfl | rfl | rfl; exact (el_powE hk u).r64; exact ⟨by omega,by omega⟩; exact ⟨by omega,by omega⟩)
 have HCV:Hid ((value + padV (powE key u) dealer row) % 1073741789 = cipV u key dealer row value):=Lib.hid rfl
 clear hW1
 go_enter Tryz.func70,Tryz.ntmps70
 go_wp2_with fail
 rw [← HW1.out]
 with_reducible refine (secret_any u _).mono ?_
 rintro r w2 ⟨f1,cap1,rfl,hF1,hb2⟩
 have HF1:=Lib.hid hF1
 clear hF1
 go_wp2_with fail
 with_reducible refine (element_any key 100 _ hk64).mono ?_
 rintro r w3 ⟨f2,cap2,rfl,hF2,hb3⟩
 have HF2:=Lib.hid hF2
 clear hF2
 go_wp2_with fail
 with_reducible refine (person_any dealer _).mono ?_
 rintro r w4 ⟨f3,cap3,rfl,hF3,hb4⟩
 have HF3:=Lib.hid hF3
 clear hF3
 go_wp2_with fail
 with_reducible refine (within_any row 0 63 1 _).mono ?_
 rintro r w5 ⟨f4,cap4,rfl,hF4,hb5⟩
 have HF4:=Lib.hid hF4
 clear hF4
 go_wp2_with fail
 with_reducible refine (within_any value 0 1073741788 350 _).mono ?_
 rintro r w6 ⟨f5,cap5,rfl,hF5,hb6⟩
 have k5:=hb6
 have k4:=hb5.trans (hb6.mono hb5.size)
 have k3:=hb4.trans (k4.mono hb4.size)
 have k2:=hb3.trans (k3.mono hb3.size)
 have k1:=hb2.trans (k2.mono hb2.size)
 have k7:=k1.alloc k1.size (.cells #[.func (.func f1) #[] cap1,.int .i64 110,.func (.func f2) #[] cap2,.int .i64 100,.func (.func f3) #[] cap3,.int .i64 1,.func (.func f4) #[] cap4,.int .i64 1,.func (.func f5) #[] cap5,.int .i64 350] 153)
 have HC:=Lib.hid (pcheck_any _ _ _ (conds5 w6 153 _ rfl 110 100 1 1 350 (HF1.out.keep (Keep.below k2)) (HF2.out.keep (Keep.below k3)) (HF3.out.keep (Keep.below k4)) (HF4.out.keep (Keep.below k5)) hF5))
 rw [HE.out] at HC
 have K7:=Lib.hid k7
 clear HF1 HF2 HF3 HF4 hF5 hb2 hb3 hb4 hb5 hb6 k1 k2 k3 k4 k5 k7
 go_wp2_with fail
 refine HC.out.mono ?_
 rintro r w8 ⟨rfl,hb8⟩
 have K8:=Lib.hid (K7.out.trans (hb8.mono K7.out.size))
 clear hb8 HC K7
 go_wp2_with fail
 with_reducible refine (pow_yes 4 u _ el_four hu64).mono ?_
 rintro r w9 ⟨rfl,hb9⟩
 have K9:=Lib.hid (K8.out.trans (hb9.mono K8.out.size))
 clear hb9 K8
 go_wp2_with fail
 with_reducible refine (pow_yes key u _ hk hu64).mono ?_
 rintro r w10 ⟨rfl,hb10⟩
 have K10:=Lib.hid (K9.out.trans (hb10.mono K9.out.size))
 have HG10:=Lib.hid (hG.below (hb1.trans (K10.out.mono hb1.size)))
 obtain ⟨p1,p2⟩:=padV_num (powE key u) dealer row
 clear hb10 K9
 go_wp2_with fail
 with_reducible refine (pad_any _ dealer row _ HPC.out HG10.out).mono ?_
 rintro r w11 ⟨rfl,hb11⟩
 have k11:=K10.out.trans (hb11.mono K10.out.size)
 have hr9:=(k11.block _ hz).trans hr1
 have x0:w11.cell? ⟨w.heap.size,0,none⟩ = some (.int .i64 0):=row_cell hr9 rfl
 have x1:w11.cell? ⟨w.heap.size,1,none⟩ = some (.int .i64 0):=row_cell hr9 rfl
 have x2:w11.cell? ⟨w.heap.size,2,none⟩ = some (.int .i64 0):=row_cell hr9 rfl
 have f0:=row_free hr9 0
 have f1':=row_free hr9 1
 have f2':=row_free hr9 2
 have hr10:=row_set (row_set (row_set hr9 0 (.int .i64 row)) 1 (.int .i64 (powE 4 u))) 2 (.int .i64 (cipV u key dealer row value))
 have d0:=row_cell hr10 (k:=0) (v:=.int .i64 row) rfl
 have d1:=row_cell hr10 (k:=1) (v:=.int .i64 (powE 4 u)) rfl
 have d2:=row_cell hr10 (k:=2) (v:=.int .i64 (cipV u key dealer row value)) rfl
 have HB:=Lib.hid (hb1.trans (k11.mono hb1.size))
 rw [← HCV.out] at d0 d1 d2
 clear hr10 hr9 k11 hb11 hr1 hb1 hz K10
 go_wp2_with fail
 refine bodyPost_ret (v:=.tuple #[.agg #[.int .i64 row,.int .i64 (powE 4 u),.int .i64 (cipV u key dealer row value)],.int .i64 0]) (by rw [← HCV.out]; simp [results,Tryz.results70,go_sem,d0,d1,d2]) rfl ⟨rfl,?_⟩
 repeat (first | exact HB.out | refine Below.setCell ?_ (by simp) _)
end Go.Proofs.YtggnipkfliompaaGreatDoor
