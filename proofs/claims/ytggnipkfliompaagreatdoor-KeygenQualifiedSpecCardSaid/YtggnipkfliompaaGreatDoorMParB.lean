/- Package parcels: conditions, and the error of the first that does not hold. Package complaints: an error that ends the work, and is caught. Package complaints: the conditions of check. Package complaints: check. -/
import Derived.Test.YtggnipkfliompaaGreatDoorMLinU
import Derived.Test.YtggnipkfliompaaGreatDoorMBase
import Derived.Laws.EntriesVeiled
set_option maxHeartbeats 4000000
set_option maxRecDepth 100000
namespace Go.Proofs.YtggnipkfliompaaGreatDoor
open Go.RowKit FP
structure Keep (lo:Nat) (w w':World):Prop where
 size:w.heap.size ≤ w'.heap.size
 block:∀ k,lo ≤ k → k < w.heap.size → w'.heap[k]? = w.heap[k]?
theorem Keep.below {lo:Nat} {w w':World} (h:Below w.heap.size w w'):Keep lo w w':=⟨h.size,fun k _ hk => h.block k hk⟩
theorem Keep.trans {lo:Nat} {a b c:World} (h:Keep lo a b) (k:Keep lo b c):Keep lo a c:=
 ⟨Nat.le_trans h.size k.size,fun x h1 h2 => (k.block x h1 (Nat.lt_of_lt_of_le h2 h.size)).trans (h.block x h1 h2)⟩
theorem Keep.low {lo lo':Nat} {w w':World} (h:Keep lo w w') (hl:lo ≤ lo'):Keep lo' w w':=⟨h.size,fun k h1 h2 => h.block k (Nat.le_trans hl h1) h2⟩
theorem Keep.setCell {lo:Nat} {w w':World} (h:Keep lo w w') {b o:Nat} (hb:b < lo) (v:Value):Keep lo w (w'.setCell ⟨b,o,none⟩ v):=
 ⟨by simpa [World.setCell] using h.size,fun k h1 h2 => (Below.heap_setCell _ _ _ _ (by show k ≠ b; omega)).trans (h.block k h1 h2)⟩
theorem Keep.refl (lo:Nat) (w:World):Keep lo w w:=⟨Nat.le_refl _,fun _ _ _ => rfl⟩
theorem Keep.cell {lo:Nat} {w w':World} (h:Keep lo w w') {b o:Nat} {v:Value} (hb:lo ≤ b) (hc:w.cell? ⟨b,o,none⟩ = some v):w'.cell? ⟨b,o,none⟩ = some v:=by
 have:=h.block b hb (lt_of_cell hc)
 unfold World.cell? at hc ⊢
 rw [this]; exact hc
def CondF (lo:Nat) (w:World) (f:FuncId) (cap:Array Value) (b:Bool):Prop:=
 Goes Tryz.prog f ∧ ∀ w',Keep lo w w' → Calls Tryz.prog f cap w' fun e w'' => e = .returned (.bool b) ∧ Below w'.heap.size w' w''
theorem CondF.keep {lo:Nat} {w w':World} {f:FuncId} {cap:Array Value} {b:Bool} (h:CondF lo w f cap b) (hb:Keep lo w w'):CondF lo w' f cap b:=
 ⟨h.1,fun w'' h2 => h.2 w'' (hb.trans h2)⟩
theorem CondF.low {lo lo':Nat} {w:World} {f:FuncId} {cap:Array Value} {b:Bool} (h:CondF lo' w f cap b) (hl:lo ≤ lo'):CondF lo w f cap b:=
 ⟨h.1,fun w'' h2 => h.2 w'' (h2.low hl)⟩
def CondR (b:Bool) (e:Int) (w:World) (r:Ending) (w':World):Prop:=
 ∃ f cap,r = .returned (.agg #[.func (.func f) #[] cap,.int .i64 e]) ∧ CondF w.heap.size w' f cap b ∧ Below w.heap.size w w'
theorem goes_within1:Goes Tryz.prog 196:=goes_of Tryz.func196 (by kernel_rfl) rfl
theorem goes_element1:Goes Tryz.prog 192:=goes_of Tryz.func192 (by kernel_rfl) rfl
theorem goes_right1:Goes Tryz.prog 186:=goes_of Tryz.func186 (by kernel_rfl) rfl
theorem within1_any (lb nb hb:Nat) (n lo hi:Int) (w:World) (c0:w.cell? ⟨lb,0,none⟩ = some (.int .i64 lo)) (c1:w.cell? ⟨nb,0,none⟩ = some (.int .i64 n)) (c2:w.cell? ⟨hb,0,none⟩ = some (.int .i64 hi)) :
  Calls Tryz.prog 196 #[.pointer (some ⟨lb,0,none⟩),.pointer (some ⟨nb,0,none⟩),.pointer (some ⟨hb,0,none⟩)] w fun e w' => e = .returned (.bool (inB n lo hi)) ∧ Below w.heap.size w w':=by
 by_cases h1:lo ≤ n
 ·have H:=Lib.hid (show inB n lo hi = decide (n ≤ hi) by unfold inB; rw [decide_eq_true h1,Bool.true_and])
  go_enter Tryz.func196,Tryz.ntmps196
  go_wp2_with fail
  go_ret
  exact ⟨ret_bool H.out.symm,Below.refl _ _⟩
 ·have H:=Lib.hid (show inB n lo hi = false by unfold inB; rw [decide_eq_false h1,Bool.false_and])
  go_enter Tryz.func196,Tryz.ntmps196
  go_wp2_with fail
  go_ret
  exact ⟨ret_bool H.out.symm,Below.refl _ _⟩
theorem element1_any (nb:Nat) (n:Int) (w:World) (hn:R64 n) (c1:w.cell? ⟨nb,0,none⟩ = some (.int .i64 n)) :
  Calls Tryz.prog 192 #[.pointer (some ⟨nb,0,none⟩)] w fun e w' => e = .returned (.bool (elB n)) ∧ Below w.heap.size w w':=by
 go_enter Tryz.func192,Tryz.ntmps192
 go_wp2_with fail
 with_reducible refine (valid_any _ _ hn).mono ?_
 rintro e w1 ⟨rfl,rfl⟩
 go_wp2_with fail
 go_ret
 exact ⟨rfl,Below.refl _ _⟩
theorem within_any (n lo hi e:Int) (w:World) :
  Calls Tryz.prog 149 #[.int .i64 n,.int .i64 lo,.int .i64 hi,.int .i64 e] w (CondR (inB n lo hi) e w):=by
 have hmf:∀ (fn:Fn) (first cap:Array Value) (w:World),(Instr.makeFunc fn first cap).run Tryz.prog w = .ok (.func fn first cap) w:=fun _ _ _ _ => rfl
 go_enter Tryz.func149,Tryz.ntmps149
 go_wp2_with fail
 refine bodyPost_ret (v:=.agg #[.func (.func 196) #[] #[.pointer (some ⟨w.heap.size + 1,0,none⟩),.pointer (some ⟨w.heap.size,0,none⟩),.pointer (some ⟨w.heap.size + 1 + 1,0,none⟩)],.int .i64 e]) (by simp [results,Tryz.results149,go_sem]) rfl ?_
 refine ⟨_,_,rfl,⟨goes_within1,fun w' hb => ?_⟩,?_⟩
 ·exact within1_any _ _ _ n lo hi w' (hb.cell (by omega) (by simp [go_sem])) (hb.cell (by omega) (by simp [go_sem])) (hb.cell (by omega) (by simp [go_sem]))
 ·repeat (first | exact Below.refl _ _ | refine Below.setCell ?_ (by simp; try omega) _ | refine Below.alloc ?_ (by simp; try omega) _ | refine Below.drew ?_)
theorem element_any (n e:Int) (w:World) (hn:R64 n) :
  Calls Tryz.prog 140 #[.int .i64 n,.int .i64 e] w (CondR (elB n) e w):=by
 have hmf:∀ (fn:Fn) (first cap:Array Value) (w:World),(Instr.makeFunc fn first cap).run Tryz.prog w = .ok (.func fn first cap) w:=fun _ _ _ _ => rfl
 go_enter Tryz.func140,Tryz.ntmps140
 go_wp2_with fail
 refine bodyPost_ret (v:=.agg #[.func (.func 192) #[] #[.pointer (some ⟨w.heap.size,0,none⟩)],.int .i64 e]) (by simp [results,Tryz.results140,go_sem]) rfl ?_
 refine ⟨_,_,rfl,⟨goes_element1,fun w' hb => ?_⟩,?_⟩
 ·exact element1_any _ n w' hn (hb.cell (Nat.le_refl _) (by simp [go_sem]))
 ·repeat (first | exact Below.refl _ _ | refine Below.setCell ?_ (by simp; try omega) _ | refine Below.alloc ?_ (by simp; try omega) _ | refine Below.drew ?_)
end Go.Proofs.YtggnipkfliompaaGreatDoor
namespace Go.Proofs.YtggnipkfliompaaGreatDoor
open Go.RowKit
def stopC (e:Int):Value:=.iface 149 (.agg #[.int .i64 e])
def stopped36 (e:Int):List PanicEntry:=[{ v:=stopC e,recovered:=false }]
theorem cmust_ok (e:Int) (w:World) :
  Calls Tryz.prog 56 #[.bool true,.int .i64 e] w fun r w' => r = .returned (.tuple #[]) ∧ w = w':=by
 go_enter Tryz.func56,Tryz.ntmps56
 go_wp2
 go_end0
 exact ⟨rfl,rfl⟩
theorem cmust_bad (e:Int) (w:World) :
  Calls Tryz.prog 56 #[.bool false,.int .i64 e] w fun r w' => r = .panicked (stopped36 e) ∧ w = w':=by
 go_enter Tryz.func56,Tryz.ntmps56
 go_wp2
 exact ⟨rfl,rfl,rfl⟩
theorem caught36_panicking (b o:Nat) (x e:Int) (older:List PanicEntry) (w:World) (hc:w.cell? ⟨b,o,none⟩ = some (.int .i64 x)) (hz:w.frozen? ⟨b,o,none⟩ = false) (hp:b < w.heap.size) :
  CallsD Tryz.prog 123 #[.pointer (some ⟨b,o,none⟩)] (.panicking ({ v:=stopC e,recovered:=false } :: older)) w fun r u' w' =>
   r = .returned (.tuple #[]) ∧ u' = .panicking ({ v:=stopC e,recovered:=true } :: older) ∧ w' = (w.alloc (.cells #[.int .i64 e] 149)).setCell ⟨b,o,none⟩ (.int .i64 e):=by
 unfold stopC
 have hta:∀ w,(Instr.typeAssert (.iface 149 (.agg #[.int .i64 e])) 20 149 true).run Tryz.prog w = .ok (.tuple #[.agg #[.int .i64 e],.bool true]) w:=fun _ => by kernel_rfl
 have hbn:Below w.heap.size w (w.alloc (.cells #[.int .i64 e] 149)):=(Below.refl _ _).alloc (Nat.le_refl _) _
 have hc1:=below_cell hbn hc
 obtain ⟨W1,hW1⟩:∃ W1,W1 = w.alloc (.cells #[.int .i64 e] 149):=⟨_,rfl⟩
 have hz1:W1.frozen? ⟨b,o,none⟩ = false:=by rw [hW1]; simpa [go_sem,hp] using hz
 have s0:W1.cell? ⟨w.heap.size,0,none⟩ = some (.int .i64 e):=by rw [hW1]; simp [go_sem]
 rw [← hW1] at hc1 ⊢
 have HW1:=Lib.hid hW1
 have hb1:b ≠ w.heap.size:=by omega
 clear hW1 hbn
 refine callsD_of_wpS Tryz.func123 rfl fun c₀ cs hu => ?_
 simp only [Tryz.ntmps123,List.size_toArray,List.length_cons,List.length_nil,Nat.reduceAdd,Nat.reduceSub,Array.replicate_succ,Array.replicate_zero,List.push_toArray,List.append_toArray,List.nil_append,List.cons_append]
 apply wpS_seq
 apply wpS_region
 simp [wpOpsS,go_sem,recoverD,hu,Exit.thenS]
 generalize hc0:({ fn:=c₀.fn,tmps:=c₀.tmps,todo:=c₀.todo,defers:=c₀.defers,mode:=FrameMode.panicking ({ v:=Value.iface 149 (Value.agg #[Value.int IntKind.i64 e]),recovered:=true } :: older),kind:=c₀.kind,roundOf:=c₀.roundOf }:Frame) = c1
 have hm:c1.mode = FrameMode.panicking ({ v:=Value.iface 149 (Value.agg #[Value.int IntKind.i64 e]),recovered:=true } :: older):=by rw [← hc0]
 have HB:=Lib.hid (show ∀ a' w',a'.defers = [] → w' = W1.setCell ⟨b,o,none⟩ (.int .i64 e) → bodyPostS Tryz.prog Tryz.f123 c₀ cs (fun r u' w' => r = Ending.returned (Value.tuple #[]) ∧ u' = FrameMode.panicking ({ v:=Value.iface 149 (Value.agg #[Value.int IntKind.i64 e]),recovered:=true } :: older) ∧ w' = W1.setCell ⟨b,o,none⟩ (.int .i64 e)) .normal a' (c1 :: cs) w' by
  intro a' w' h1 h2
  simp [bodyPostS,results,Tryz.results123,h1,h2,← hc0])
 clear hc0 hu hm
 refine wpS_of_wp ?_
 refine wp_mono (Q:=fun e' a' w' => e' = .normal ∧ a'.defers = [] ∧ w' = W1.setCell ⟨b,o,none⟩ (.int .i64 e)) ?_ ?_
 ·go_wp2_with (rw [← HW1.out])
  all_goals first
   | exact ⟨rfl,rfl,rfl⟩
   | trace_state
 ·rintro e' a' w' ⟨rfl,h1,h2⟩
  exact HB.out a' w' h1 h2
theorem caught36_idle (p:Addr) (w:World) :
  CallsD Tryz.prog 123 #[.pointer (some p)] .returning w fun r u' w' => r = .returned (.tuple #[]) ∧ u' = .returning ∧ w' = w:=by
 refine callsD_of_wpS Tryz.func123 rfl fun c₀ cs hu => ?_
 apply wpS_seq
 apply wpS_region
 simp [wpOpsS,go_sem,recoverD,hu,Tryz.ntmps123,Exit.thenS]
 apply wpS_seq
 apply wpS_region
 simp [wpOpsS,go_sem,Exit.thenS]
 refine wpS_cond (t:=false) (by simp [Act.eval,Array.replicate]) ?_
 simp only [Bool.false_eq_true,if_false]
 refine wpS_of_wp (wp_skip ?_)
 cases c₀
 simp_all [bodyPostS,results,Tryz.results123]
def raised36 (c:Int):Ending:=if c = 0 then .returned (.tuple #[]) else .panicked (stopped36 c)
theorem raised36_zero {c:Int} (h:c = 0):raised36 c = .returned (.tuple #[]):=by rw [raised36,if_pos h]
theorem raised36_not {c:Int} (h:c ≠ 0):raised36 c = .panicked (stopped36 c):=by rw [raised36,if_neg h]
theorem get_ok (x:Int) (w:World) :
  Calls Tryz.prog 57 #[.int .i64 x,.int .i64 0] w fun r w' => r = .returned (.int .i64 x) ∧ w = w':=by
 go_enter Tryz.func57,Tryz.ntmps57
 go_wp2_with fail
 go_ret
 exact ⟨rfl,rfl⟩
theorem get_bad (x e:Int) (w:World) (he:e ≠ 0) :
  Calls Tryz.prog 57 #[.int .i64 x,.int .i64 e] w fun r w' => r = .panicked (stopped36 e) ∧ w = w':=by
 have h0:(e != 0) = true:=bne_iff_ne.2 he
 have h1:(e == 0) = false:=beq_eq_false_iff_ne.2 he
 go_enter Tryz.func57,Tryz.ntmps57
 go_wp2_with fail
 exact ⟨rfl,rfl,rfl⟩
theorem getb_ok (x:Bool) (w:World) :
  Calls Tryz.prog 59 #[.bool x,.int .i64 0] w fun r w' => r = .returned (.bool x) ∧ w = w':=by
 go_enter Tryz.func59,Tryz.ntmps59
 go_wp2_with fail
 go_ret
 exact ⟨rfl,rfl⟩
structure TryF (n:Nat) (R:Int → World → Prop) (r:Ending) (w':World):Prop where
 ex:∃ e,r = raised36 e ∧ R e w'
 box:w'.heap[n]? = some (.cells #[.int .i64 0] 35 (0,0))
structure TryW (n:Nat) (w1 w':World):Prop where
 lt:n < w1.heap.size
 below:∀ n0 w0,n0 ≤ n → Below n0 w0 w1 → Below n0 w0 w'
 block:∀ k,k ≠ n → k < w1.heap.size → w'.heap[k]? = w1.heap[k]?
def TryR (n:Nat) (R:Int → World → Prop) (r:Ending) (w':World):Prop:=
 ∃ e w1,r = .returned (.int .i64 e) ∧ R e w1 ∧ TryW n w1 w'
theorem try_zero {n:Nat} {w1:World} (h:n < w1.heap.size) (v:Value):TryW n w1 (w1.setCell ⟨n,0,none⟩ v):=
 ⟨h,fun _ _ h0 hb => hb.setCell h0 v,fun _ hk _ => Below.heap_setCell _ _ _ _ hk⟩
theorem try_not {n:Nat} {w1:World} (h:n < w1.heap.size) (o:Obj) (v:Value):TryW n w1 ((w1.alloc o).setCell ⟨n,0,none⟩ v):=
 ⟨h,fun _ _ h0 hb => (hb.alloc (Nat.le_trans h0 (Nat.le_of_lt h)) o).setCell h0 v,fun _ hk hl => (Below.heap_setCell _ _ _ _ hk).trans (Below.heap_alloc _ _ _ hl)⟩
theorem attempt_any (f:FuncId) (cap:Array Value) (w:World) (R:Int → World → Prop) (hgo:Goes Tryz.prog f)
  (hF:Calls Tryz.prog f cap (w.alloc (.cells #[.int .i64 0] 35)) (TryF w.heap.size R)) :
  Calls Tryz.prog 53 #[.func (.func f) #[] cap] w (TryR w.heap.size R):=by
 have hE':∀ (args:Array Value) (w:World),(callFunc f args).run Tryz.prog w = .ok (.enter f args) w:=hgo
 have hmf:∀ (fn:Fn) (first cap:Array Value) (w:World),(Instr.makeFunc fn first cap).run Tryz.prog w = .ok (.func fn first cap) w:=fun _ _ _ _ => rfl
 have HF:=Lib.hid hF
 clear hF hgo
 go_enter_defers Tryz.func53,Tryz.ntmps53
 go_wp2_with fail
 refine HF.out.mono ?_
 rintro r w1 ⟨⟨e,rfl,hR⟩,hbx⟩
 have hlt:=row_lt hbx
 have x0:=row_cell hbx (k:=0) rfl
 have f0:=row_free hbx 0
 by_cases he:e = 0
 ·subst he
  rw [raised36_zero rfl]
  go_wp2_with fail
  refine leaves_cons (f:=123) (args:=#[.pointer (some ⟨w.heap.size,0,none⟩)]) (by simp) (by simp [go_sem]) ?_
  refine (caught36_idle _ _).mono ?_
  rintro e u' w'' ⟨rfl,rfl,rfl⟩
  have hx:=World.cell?_setCell_same' w1 ⟨w.heap.size,0,none⟩ (.int .i64 0) (by rw [x0]; rfl)
  simp [Leaves,settle,results,Tryz.results53,go_sem,hx]
  exact ⟨0,w1,rfl,hR,try_zero hlt _⟩
 ·rw [raised36_not he]
  refine leaves_cons (f:=123) (args:=#[.pointer (some ⟨w.heap.size,0,none⟩)]) (by simp) (by simp [go_sem]) ?_
  refine (caught36_panicking w.heap.size 0 0 e [] _ x0 f0 hlt).mono ?_
  rintro r u' w'' ⟨rfl,rfl,rfl⟩
  have hx:((w1.alloc (.cells #[.int .i64 e] 149)).setCell ⟨w.heap.size,0,none⟩ (.int .i64 e)).cell? ⟨w.heap.size,0,none⟩ = some (.int .i64 e):=
   World.cell?_setCell_same' _ _ _ (by rw [below_cell (below_new w1 _ _) x0]; rfl)
  simp [Leaves,settle,results,Tryz.results53,go_sem,hx]
  exact ⟨e,w1,rfl,hR,try_not hlt _ _⟩
end Go.Proofs.YtggnipkfliompaaGreatDoor
namespace Go.Proofs.YtggnipkfliompaaGreatDoor
open Go.RowKit FP
theorem goes_ck1:Goes Tryz.prog 124:=goes_of Tryz.func124 (by kernel_rfl) rfl
theorem goes_ck2:Goes Tryz.prog 125:=goes_of Tryz.func125 (by kernel_rfl) rfl
theorem goes_ck3:Goes Tryz.prog 126:=goes_of Tryz.func126 (by kernel_rfl) rfl
theorem goes_ck4:Goes Tryz.prog 127:=goes_of Tryz.func127 (by kernel_rfl) rfl
theorem ck1_any (db:Nat) (n:Int) (w:World) (c0:w.cell? ⟨db,0,none⟩ = some (.int .i64 n)) :
  Calls Tryz.prog 124 #[.pointer (some ⟨db,0,none⟩)] w fun e w' => e = .returned (.bool (inB n 0 63)) ∧ Below w.heap.size w w':=by
 by_cases h1:0 ≤ n
 ·have H:=Lib.hid (show inB n 0 63 = decide (n < 64) by unfold inB; rw [decide_eq_true h1,Bool.true_and]; exact decide_eq_decide.2 ⟨fun h => by omega,fun h => by omega⟩)
  go_enter Tryz.func124,Tryz.ntmps124
  go_wp2_with fail
  go_ret
  exact ⟨ret_bool H.out.symm,Below.refl _ _⟩
 ·have H:=Lib.hid (show inB n 0 63 = false by unfold inB; rw [decide_eq_false h1,Bool.false_and])
  go_enter Tryz.func124,Tryz.ntmps124
  go_wp2_with fail
  go_ret
  exact ⟨ret_bool H.out.symm,Below.refl _ _⟩
theorem ck2_any (db pb:Nat) (a1 a2:Option Addr) (n1 n2 k1 k2:Nat) (w:World) (c0:w.cell? ⟨db,2,none⟩ = some (.slice a1 n1 k1)) (c1:w.cell? ⟨pb,0,none⟩ = some (.slice a2 n2 k2)) :
  Calls Tryz.prog 125 #[.pointer (some ⟨db,0,none⟩),.pointer (some ⟨pb,0,none⟩)] w fun e w' => e = .returned (.bool (decide (n1 = n2))) ∧ Below w.heap.size w w':=by
 have H:=Lib.hid (show ((n1:Int) == (n2:Int)) = decide (n1 = n2) by
  by_cases h:n1 = n2
  ·rw [h]; simp
  ·rw [decide_eq_false h]; exact beq_eq_false_iff_ne.2 (by omega))
 have H2:=Lib.hid (show (n1 == n2) = decide (n1 = n2) by
  by_cases h:n1 = n2
  ·rw [h]; simp
  ·rw [decide_eq_false h]; exact beq_eq_false_iff_ne.2 h)
 go_enter Tryz.func125,Tryz.ntmps125
 go_wp2_with fail
 go_ret
 exact ⟨ret_bool (by first | exact H2.out | exact H.out),Below.refl _ _⟩
theorem ck3_any (db pb:Nat) (rv ov cv:Value) (rows:List (List Int)) (owners cs:List Int) (w:World) (hp:progE rows owners = 0) (c0:w.cell? ⟨pb,0,none⟩ = some rv) (c1:w.cell? ⟨pb,1,none⟩ = some ov) (c2:w.cell? ⟨db,1,none⟩ = some cv)
  (hR:Rows2 w rv rows) (hO:Ints w ov owners) (hC:Ints w cv cs) :
  Calls Tryz.prog 126 #[.pointer (some ⟨pb,0,none⟩),.pointer (some ⟨db,0,none⟩)] w fun e w' => e = .returned (.bool (comB rows cs)) ∧ Below w.heap.size w w':=by
 have HE:Hid ((pubE rows owners cs (-1) == 1) = comB rows cs):=Lib.hid (by
  unfold pubE
  rw [comB_E hp]
  cases comB rows cs <;> simp)
 have HP:=Lib.hid (fun W h1 h2 h3 => public_any rv ov cv rows owners cs (-1) W h1 h2 h3 (R64.mk (by omega) (by omega)))
 have HR:=Lib.hid hR
 have HO:=Lib.hid hO
 have HC:=Lib.hid hC
 obtain ⟨a1,k1,rfl,-⟩:=id hR
 obtain ⟨a2,k2,rfl,-⟩:=id hO
 obtain ⟨a3,k3,rfl,-⟩:=id hC
 generalize pubE rows owners cs (-1) = e at *
 generalize pubR rows owners cs (-1) = x at *
 clear hR hO hC hp
 go_enter Tryz.func126,Tryz.ntmps126
 go_wp2_with fail
 refine (HP.out _ HR.out HO.out HC.out).mono ?_
 rintro r w1 ⟨rfl,hb⟩
 go_wp2_with fail
 go_ret
 exact ⟨ret_bool HE.out,hb⟩
theorem ck4_any (db:Nat) (pv:Value) (ps:List Pcl) (w:World) (c0:w.cell? ⟨db,2,none⟩ = some pv) (hP:Parcels w pv ps) :
  Calls Tryz.prog 127 #[.pointer (some ⟨db,0,none⟩)] w fun e w' => e = .returned (.bool (numB ps)) ∧ Below w.heap.size w w':=by
 obtain ⟨a,cap,rfl,hcap,hlen,hr,hk⟩:=hP
 have HK:=Lib.hid hk
 clear hk hr
 go_enter Tryz.func127,Tryz.ntmps127
 go_wp2_with fail
 go_loopw [2,3,7] (fun _ _ i wr => ∃ k:Nat,k ≤ ps.length ∧ i = .int .i64 k ∧ Hid (∀ j (h:j < ps.length),j < k → ps[j].1 = (j:Int)) ∧ Below w.heap.size w wr) (fun _ _ i _ => ps.length - (intOf i).toNat)
 case atStart => exact ⟨0,Nat.zero_le _,rfl,Lib.hid (fun j _ h => absurd h (Nat.not_lt_zero j)),Below.refl _ _⟩
 case round =>
  obtain ⟨k,hkl,rfl,HP,hb⟩:=hrel
  by_cases hlt:k < ps.length
  ·obtain ⟨b,off,rfl,q1,q2,q3⟩:=HK.out k hlt
   have y1:=below_cell hb q1
   have y2:=below_cell hb q2
   have y3:=below_cell hb q3
   have HB:=Lib.hid hb
   have HL:=Lib.hid hlt
   generalize hz2:ps[k].2.1 = z2 at *
   generalize hz3:ps[k].2.2 = z3 at *
   generalize hz1:ps[k].1 = z1 at *
   have HZ:=Lib.hid hz1.symm
   clear hz1 hz2 hz3 q1 q2 q3 hb
   by_cases he:z1 = (k:Int)
   ·subst he
    go_wp2_with fail
    go_roundw
    case rel => exact ⟨k + 1,by omega,by go_num,Lib.hid (fun j hj h => by
     by_cases e:j = k
     ·subst e; exact HZ.out.symm
     ·exact HP.out j hj (by omega)),by repeat (first | exact HB.out | refine Below.setCell ?_ HB.out.size _ | refine Below.alloc ?_ HB.out.size _)⟩
    case measure => simp [intOf]; omega
   ·have HN:Hid (numB ps = false):=Lib.hid (numB_bad HL.out (fun h => he (HZ.out.trans h)))
    have d0:(z1 != (k:Int)) = true:=bne_iff_ne.2 he
    have d1:(z1 == (k:Int)) = false:=beq_eq_false_iff_ne.2 he
    clear he
    go_wp2_with fail
    go_ret
    exact ⟨ret_bool HN.out.symm,by repeat (first | exact HB.out | refine Below.setCell ?_ HB.out.size _ | refine Below.alloc ?_ HB.out.size _)⟩
  ·have HN:Hid (numB ps = true):=Lib.hid (numB_iff.2 (fun j hj => HP.out j hj (by omega)))
   go_wp2_with fail
   go_ret
   exact ⟨ret_bool HN.out.symm,hb⟩
end Go.Proofs.YtggnipkfliompaaGreatDoor
namespace Go.Proofs.YtggnipkfliompaaGreatDoor
open Go.RowKit FP
theorem box36 (w:World) (a b c:Value) (t:TypeId):∃ W,W = w.alloc (.cells #[a,b,c] t) ∧ Below w.heap.size w W ∧ W.heap[w.heap.size]? = some (.cells #[a,b,c] t (0,0)) ∧ W.heap.size = w.heap.size + 1:=
 ⟨_,rfl,below_new _ _ _,World.alloc_heap_new _ _,by simp⟩
def CondB (w:World) (f:FuncId) (cap:Array Value) (b:Bool):Prop:=
 Goes Tryz.prog f ∧ ∀ w',Below w.heap.size w w' → Calls Tryz.prog f cap w' fun e w'' => e = .returned (.bool b) ∧ Below w'.heap.size w' w''
theorem CondB.below {w w':World} {f:FuncId} {cap:Array Value} {b:Bool} (h:CondB w f cap b) (hb:Below w.heap.size w w'):CondB w' f cap b:=
 ⟨h.1,fun w'' h2 => h.2 w'' (hb.trans (h2.mono hb.size))⟩
def CondL (w:World) (b:Nat) (cs:List Bool):Prop:=∀ k (h:k < cs.length),∃ f cap,w.cell? ⟨b,k,none⟩ = some (.func (.func f) #[] cap) ∧ CondB w f cap cs[k]
theorem condL4 (w:World) (t:TypeId) {f1 f2 f3 f4:FuncId} {cap1 cap2 cap3 cap4:Array Value} {b1 b2 b3 b4:Bool} (h1:CondB w f1 cap1 b1) (h2:CondB w f2 cap2 b2) (h3:CondB w f3 cap3 b3) (h4:CondB w f4 cap4 b4) :
  CondL (w.alloc (.cells #[.func (.func f1) #[] cap1,.func (.func f2) #[] cap2,.func (.func f3) #[] cap3,.func (.func f4) #[] cap4] t)) w.heap.size [b1,b2,b3,b4]:=by
 have hr:=World.alloc_heap_new w (.cells #[.func (.func f1) #[] cap1,.func (.func f2) #[] cap2,.func (.func f3) #[] cap3,.func (.func f4) #[] cap4] t)
 have hk:=below_new w #[.func (.func f1) #[] cap1,.func (.func f2) #[] cap2,.func (.func f3) #[] cap3,.func (.func f4) #[] cap4] t
 intro k hk'
 match k,hk' with
 | 0,_ => exact ⟨f1,cap1,row_cell hr rfl,h1.below hk⟩
 | 1,_ => exact ⟨f2,cap2,row_cell hr rfl,h2.below hk⟩
 | 2,_ => exact ⟨f3,cap3,row_cell hr rfl,h3.below hk⟩
 | 3,_ => exact ⟨f4,cap4,row_cell hr rfl,h4.below hk⟩
theorem comQ_all {rows:List (List Int)} {d:Dlg}:comQ rows d = [inB d.dealer 0 63,decide (d.ps.length = rows.length),comB rows d.cs,numB d.ps].all id:=by
 unfold comQ; simp
theorem all_at {cs:List Bool} {k:Nat} (hk:k < cs.length) (h:cs[k] = false):cs.all id = false:=by
 cases e:cs.all id with
 | false => rfl
 | true => have:=List.all_eq_true.1 e _ (List.getElem_mem hk); rw [h] at this; cases this
theorem all_take {cs:List Bool} (h:∀ j (hj:j < cs.length),cs[j] = true):cs.all id = true:=
 List.all_eq_true.2 fun x hx => by obtain ⟨j,hj,rfl⟩:=List.getElem_of_mem hx; exact h j hj
theorem check36_any (rv ov cv pv:Value) (rows:List (List Int)) (owners:List Int) (d:Dlg) (w:World) (hR:Rows2 w rv rows) (hO:Ints w ov owners) (hC:Ints w cv d.cs) (hP:Parcels w pv d.ps) :
  Calls Tryz.prog 55 #[.agg #[rv,ov],.agg #[.int .i64 d.dealer,cv,pv]] w fun e w' => e = raised36 (cE rows owners d) ∧ Below w.heap.size w w':=by
 obtain ⟨W0,hW0,hb0,hr0,hs0⟩:=box_prog w rv ov 25
 have hs0:W0.heap.size = w.heap.size + 1:=by rw [hW0]; simp
 obtain ⟨W1,hW1,hb1,hr1,hs1⟩:=box36 W0 (.int .i64 d.dealer) cv pv 28
 have hb:Below w.heap.size w W1:=hb0.trans (hb1.mono hb0.size)
 have Q0:=Lib.hid ((hb1.block _ (row_lt hr0)).trans hr0)
 rw [hs0] at hr1
 have Q1:=Lib.hid hr1
 have HR:=Lib.hid (hR.below hb)
 have HO:=Lib.hid (hO.below hb)
 have HC:=Lib.hid (hC.below hb)
 have HP:=Lib.hid (hP.below hb)
 obtain ⟨a1,k1,rfl,-,hl1,-⟩:=id hR
 obtain ⟨a2,k2,rfl,-,hl2,-⟩:=id hO
 obtain ⟨a3,k3,rfl,-,hl3,-⟩:=id hC
 obtain ⟨a4,k4,rfl,-,hl4,-⟩:=id hP
 rw [hW0] at hW1
 have HW1:=Lib.hid hW1
 have HB:=Lib.hid hb
 have hmf:∀ (fn:Fn) (first cap:Array Value) (w:World),(Instr.makeFunc fn first cap).run Tryz.prog w = .ok (.func fn first cap) w:=fun _ _ _ _ => rfl
 have hst:=fun (a:Addr) (fn:Fn) (x y:Array Value) (w:World) => run_store Tryz.prog w a (.func fn x y) .plain rfl
 clear hR hO hC hP hb hb0 hb1 hr0 hr1 hW0 hW1 hs0 hs1
 have c0:=row_cell Q0.out (k:=0) rfl
 have c1:=row_cell Q0.out (k:=1) rfl
 go_enter Tryz.func55,Tryz.ntmps55
 go_wp2_with (rw [← HW1.out])
 with_reducible refine (pCheck_any _ _ rows owners _ HR.out HO.out).mono ?_
 rintro e w2 ⟨rfl,hb2⟩
 replace HR:=Lib.hid (HR.out.below hb2)
 replace HO:=Lib.hid (HO.out.below hb2)
 replace HC:=Lib.hid (HC.out.below hb2)
 replace HP:=Lib.hid (HP.out.below hb2)
 replace Q0:=Lib.hid ((hb2.block _ (row_lt Q0.out)).trans Q0.out)
 replace Q1:=Lib.hid ((hb2.block _ (row_lt Q1.out)).trans Q1.out)
 replace HB:=Lib.hid (HB.out.trans (hb2.mono HB.out.size))
 clear hb2 c0 c1
 by_cases hp:progE rows owners = 0
 rotate_left
 ·have HV:Hid (cE rows owners d = progE rows owners):=Lib.hid (by unfold cE; rw [if_pos hp])
  have HPN:=Lib.hid hp
  clear hp
  generalize progE rows owners = q at *
  go_wp2_with fail
  with_reducible refine (get_bad 0 q _ HPN.out).mono ?_
  rintro e w3 ⟨rfl,rfl⟩
  go_wp2_with fail
  exact ⟨rfl,by rw [HV.out,raised36_not HPN.out],HB.out⟩
 have HE:Hid (cE rows owners d = if comQ rows d = true then 0 else 360):=Lib.hid (by unfold cE; rw [if_neg (by simp [hp])])
 have HPZ:=Lib.hid hp
 rw [hp]
 clear hp
 go_wp2_with fail
 with_reducible refine (get_ok 0 _).mono ?_
 rintro e w3 ⟨rfl,rfl⟩
 have h1:CondB w2 124 #[.pointer (some ⟨w.heap.size + 1,0,none⟩)] (inB d.dealer 0 63):=⟨goes_ck1,fun w' hk => ck1_any _ _ w' (below_cell hk (row_cell Q1.out rfl))⟩
 have h2:CondB w2 125 #[.pointer (some ⟨w.heap.size + 1,0,none⟩),.pointer (some ⟨w.heap.size,0,none⟩)] (decide (d.ps.length = rows.length)):=⟨goes_ck2,fun w' hk => ck2_any _ _ _ _ _ _ _ _ w' (below_cell hk (row_cell Q1.out rfl)) (below_cell hk (row_cell Q0.out rfl))⟩
 have h3:CondB w2 126 #[.pointer (some ⟨w.heap.size,0,none⟩),.pointer (some ⟨w.heap.size + 1,0,none⟩)] (comB rows d.cs):=⟨goes_ck3,fun w' hk => ck3_any _ _ _ _ _ rows owners d.cs w' HPZ.out (below_cell hk (row_cell Q0.out rfl)) (below_cell hk (row_cell Q0.out rfl)) (below_cell hk (row_cell Q1.out rfl)) (HR.out.below hk) (HO.out.below hk) (HC.out.below hk)⟩
 have h4:CondB w2 127 #[.pointer (some ⟨w.heap.size + 1,0,none⟩)] (numB d.ps):=⟨goes_ck4,fun w' hk => ck4_any _ _ _ w' (below_cell hk (row_cell Q1.out rfl)) (HP.out.below hk)⟩
 have HL:=Lib.hid (condL4 w2 29 h1 h2 h3 h4)
 rw [comQ_all] at HE
 obtain ⟨cs,hcs⟩:∃ cs,cs = [inB d.dealer 0 63,decide (d.ps.length = rows.length),comB rows d.cs,numB d.ps]:=⟨_,rfl⟩
 have hl4:cs.length = 4:=by rw [hcs]; rfl
 rw [← hcs] at HE HL
 obtain ⟨B,hB⟩:∃ B,B = w2.heap.size:=⟨_,rfl⟩
 have HBA:=Lib.hid (below_new w2 #[.func (.func 124) #[] #[.pointer (some ⟨w.heap.size + 1,0,none⟩)],.func (.func 125) #[] #[.pointer (some ⟨w.heap.size + 1,0,none⟩),.pointer (some ⟨w.heap.size,0,none⟩)],.func (.func 126) #[] #[.pointer (some ⟨w.heap.size,0,none⟩),.pointer (some ⟨w.heap.size + 1,0,none⟩)],.func (.func 127) #[] #[.pointer (some ⟨w.heap.size + 1,0,none⟩)]] 29)
 clear h1 h2 h3 h4 hcs
 go_wp2_with fail
 generalize hWA:w2.alloc (.cells #[.func (.func 124) #[] #[.pointer (some ⟨w.heap.size + 1,0,none⟩)],.func (.func 125) #[] #[.pointer (some ⟨w.heap.size + 1,0,none⟩),.pointer (some ⟨w.heap.size,0,none⟩)],.func (.func 126) #[] #[.pointer (some ⟨w.heap.size,0,none⟩),.pointer (some ⟨w.heap.size + 1,0,none⟩)],.func (.func 127) #[] #[.pointer (some ⟨w.heap.size + 1,0,none⟩)]] 29) = WA at *
 have HB2:=Lib.hid (HB.out.trans (HBA.out.mono HB.out.size))
 clear hWA
 go_loopw [5,15] (fun _ i W => ∃ k:Nat,k ≤ 4 ∧ i = .int .i64 k ∧ Hid (∀ j (hj:j < cs.length),j < k → cs[j] = true) ∧ Below WA.heap.size WA W) (fun _ i _ => 4 - (intOf i).toNat)
 case atStart => exact ⟨0,Nat.zero_le _,rfl,Lib.hid (fun j _ h => absurd h (Nat.not_lt_zero j)),Below.refl _ _⟩
 case round =>
  obtain ⟨k,hkl,rfl,HK,hb⟩:=hrel
  by_cases hlt:k < 4
  ·obtain ⟨f,cap,q1,q2⟩:=HL.out k (by omega)
   have c0:=below_cell hb q1
   have HF:=Lib.hid (q2.2 _ hb)
   have hE':∀ (args:Array Value) (w:World),(callFunc f args).run Tryz.prog w = .ok (.enter f args) w:=q2.1
   have HB3:=Lib.hid hb
   clear q1 q2 hb
   have i4:(k:Int) < 4:=by omega
   cases hp:cs[k]'(by omega) with
   | true =>
    rw [hp] at HF
    have HN:=Lib.hid (show ∀ j (hj:j < cs.length),j < k + 1 → cs[j] = true from fun j hj h => by
     by_cases e:j = k
     ·subst e; exact hp
     ·exact HK.out j hj (by omega))
    clear hp
    go_wp2_with fail
    refine HF.out.mono ?_
    rintro e w3 ⟨rfl,hb3⟩
    go_wp2_with fail
    refine (cmust_ok _ _).mono ?_
    rintro e w4 ⟨rfl,rfl⟩
    go_wp2_with fail
    go_roundw
    case rel => exact ⟨k + 1,by omega,by go_num,HN,HB3.out.trans (hb3.mono HB3.out.size)⟩
    case measure => simp [intOf]; omega
   | false =>
    rw [hp] at HF
    have HV:=Lib.hid (HE.out.trans (if_neg (by rw [all_at (by omega) hp]; decide)))
    clear hp
    go_wp2_with fail
    refine HF.out.mono ?_
    rintro e w3 ⟨rfl,hb3⟩
    go_wp2_with fail
    refine (cmust_bad _ _).mono ?_
    rintro e w4 ⟨rfl,rfl⟩
    go_wp2_with fail
    exact ⟨rfl,by rw [HV.out,raised36_not (by decide)],HB2.out.trans ((HB3.out.trans (hb3.mono HB3.out.size)).mono HB2.out.size)⟩
  ·have HV:=Lib.hid (HE.out.trans (if_pos (all_take (fun j hj => HK.out j hj (by omega)))))
   go_wp2_with fail
   go_end0
   exact ⟨by rw [HV.out,raised36_zero rfl],HB2.out.trans (hb.mono HB2.out.size)⟩
end Go.Proofs.YtggnipkfliompaaGreatDoor
