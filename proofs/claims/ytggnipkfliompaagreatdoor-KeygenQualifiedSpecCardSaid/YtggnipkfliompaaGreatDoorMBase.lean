/- The words in which the contracts of this claim are stated: slices of integers that read as lists, worlds that only grew. The functions of package slices that are called at slices of integers. Package linear: the examination of rows, an error that ends the work by a panic, and that is caught. Package linear: Check and examine. A range over a function of this program, in a function that is walked plainly: one law, for a body that goes on or leaves by a jump. A statement whose order of evaluation is left open: where its operations read, compute and call, and at most the last one writes, one walk in the order of the text serves every order. Package linear: the iterator over a row, from a column on. Package field, and its reference: what each function computes. Package linear: tables, and clear. A statement whose order of evaluation is left open: where what an operation finds in memory hangs on what has been carried out, told by a class of worlds that hangs on the set of operations done. Appending one integer to a slice of the call's own. The reduction of a table, as a function on matrices. Package linear: reduce. Package linear: copies of rows. Package linear: turned. Package linear: the rank. Package linear: the rank of any rows. Is a number from one to another one? Blocks that are known whole; rows of the call's own, and what keeps them. -/
import Derived.Test.YtggnipkfliompaaGreatDoorProg
import Derived.WalkKit
import Derived.BigQuiet
import Derived.Lib.Hide
import Derived.RangeFuncFrom
import Derived.RangeFuncLeaves
import Derived.RangeFuncCalls
import Derived.RangeFuncBound
import Derived.OrdersIn
import Derived.Still
import Derived.Shelf.Abstract
import Derived.OwnWalkIn
import Derived.TacticsInMore
import Derived.LoopNIn
import Derived.LoopIn
import Derived.WalkSpells
import Derived.Deep.OwnRows
import Derived.Deep.RegionHeld3
set_option maxHeartbeats 1000000
set_option maxRecDepth 100000
namespace Go.Proofs.YtggnipkfliompaaGreatDoor
open Go.RowKit
theorem ret_int {k:IntKind} {a b:Int} (h:a = b):Ending.returned (.int k a) = .returned (.int k b):=by rw [h]
theorem ret_bool {a b:Bool} (h:a = b):Ending.returned (.bool a) = .returned (.bool b):=by rw [h]
def Goes (P:Program) (f:FuncId):Prop:=∀ (args:Array Value) (w:World),(callFunc f args).run P w = .ok (.enter f args) w
theorem goes_of {P : Program} {f : FuncId} {fn : Func} {c : Code} (hf : P.funcs[f]? = some fn) (hname : (fn.name == "runtime.NumGoroutine") = false) (hb : fn.body = some c) : Goes P f := by
 intro args w
 have h1 : fn.name ≠ "runtime.NumGoroutine" := by simpa using hname
 simp [callFunc,hf,h1,hb,mark]
def R64 (n:Int):Prop:=-9223372036854775808 ≤ n ∧ n ≤ 9223372036854775807
theorem R64.mk {n:Int} (h:-4611686018427387904 ≤ n) (h':n ≤ 4611686018427387904):R64 n:=⟨by omega,by omega⟩
theorem lt_of_cell {w:World} {b o:Nat} {v:Value} (h:w.cell? ⟨b,o,none⟩ = some v):b < w.heap.size:=by
 by_cases hb:b < w.heap.size
 ·exact hb
 ·simp [World.cell?,Array.getElem?_eq_none (Nat.le_of_not_lt hb)] at h
theorem below_cell {w w':World} (h:Below w.heap.size w w') {b o:Nat} {v:Value} (hc:w.cell? ⟨b,o,none⟩ = some v):w'.cell? ⟨b,o,none⟩ = some v:=by
 rw [h.cell (p:=⟨b,o,none⟩) (lt_of_cell hc)]; exact hc
theorem below_later {w a b:World} {B:Nat} (h:Below B w a) (hB:B ≤ w.heap.size) (k:Below a.heap.size a b):Below B w b:=
 h.trans (k.mono (Nat.le_trans hB h.size))
def Ints (w:World) (v:Value) (zs:List Int):Prop:=
 ∃ a cap,v = .slice a zs.length cap ∧ zs.length ≤ cap ∧ zs.length ≤ 17592186044416 ∧ (∀ z ∈ zs,R64 z) ∧
  ∀ k (h:k < zs.length),∃ b off,a = some ⟨b,off,none⟩ ∧ w.cell? ⟨b,off + k,none⟩ = some (.int .i64 zs[k])
theorem Ints.below {w w':World} {v:Value} {zs:List Int} (h:Ints w v zs) (hb:Below w.heap.size w w'):Ints w' v zs:=by
 obtain ⟨a,cap,rfl,hc,hl,hr,hk⟩:=h
 refine ⟨a,cap,rfl,hc,hl,hr,fun k hlt => ?_⟩
 obtain ⟨b,off,ha,hcell⟩:=hk k hlt
 exact ⟨b,off,ha,below_cell hb hcell⟩
theorem Ints.nil (w:World) (a:Option Addr) (cap:Nat):Ints w (.slice a 0 cap) []:=
 ⟨a,cap,rfl,Nat.zero_le _,by simp,by simp,fun k h => absurd h (Nat.not_lt_zero _)⟩
def Rows2 (w:World) (v:Value) (rows:List (List Int)):Prop:=
 ∃ a cap,v = .slice a rows.length cap ∧ rows.length ≤ cap ∧ rows.length ≤ 17592186044416 ∧
  ∀ k (h:k < rows.length),∃ b off r,a = some ⟨b,off,none⟩ ∧ w.cell? ⟨b,off + k,none⟩ = some r ∧ Ints w r rows[k]
theorem Rows2.below {w w':World} {v:Value} {rows:List (List Int)} (h:Rows2 w v rows) (hb:Below w.heap.size w w'):Rows2 w' v rows:=by
 obtain ⟨a,cap,rfl,hc,hl,hk⟩:=h
 refine ⟨a,cap,rfl,hc,hl,fun k hlt => ?_⟩
 obtain ⟨b,off,r,ha,hcell,hr⟩:=hk k hlt
 exact ⟨b,off,r,ha,below_cell hb hcell,hr.below hb⟩
theorem Rows2.nil (w:World) (a:Option Addr) (cap:Nat):Rows2 w (.slice a 0 cap) []:=
 ⟨a,cap,rfl,Nat.zero_le _,by simp,fun k h => absurd h (Nat.not_lt_zero _)⟩
end Go.Proofs.YtggnipkfliompaaGreatDoor
namespace Go.Proofs.YtggnipkfliompaaGreatDoor
open Go.RowKit
def indexI (p:Int → Bool):List Int → Int
 | [] => -1
 | z :: l => if p z then 0 else if indexI p l < 0 then -1 else indexI p l + 1
theorem indexI_lo (p:Int → Bool) (l:List Int):-1 ≤ indexI p l:=by
 induction l with
 | nil => simp [indexI]
 | cons z l ih =>
  unfold indexI
  split
  ·omega
  ·split <;> omega
theorem indexI_none (p:Int → Bool) (l:List Int) (h:∀ z ∈ l,p z = false):indexI p l = -1:=by
 induction l with
 | nil => rfl
 | cons z l ih => unfold indexI; rw [if_neg (by simp [h z]),ih (fun y hy => h y (by simp [hy]))]; rfl
theorem indexI_at (p:Int → Bool) (l:List Int) (k:Nat) (hk:k < l.length) (h:∀ z ∈ l.take k,p z = false) (hp:p l[k] = true):indexI p l = k:=by
 induction l generalizing k with
 | nil => simp at hk
 | cons z l ih =>
  unfold indexI
  cases k with
  | zero => simp at hp; simp [hp]
  | succ k =>
   simp at hp hk
   rw [if_neg (by rw [h z (by simp)]; simp),ih k hk (fun y hy => h y (by simp [hy])) hp,if_neg (by omega)]; rfl
theorem indexI_any (p:Int → Bool) (l:List Int):decide (0 ≤ indexI p l) = l.any p:=by
 by_cases h:l.any p = true
 ·rw [h]
  induction l with
  | nil => simp at h
  | cons z l ih =>
   unfold indexI
   by_cases hz:p z = true
   ·simp [hz]
   ·have h':l.any p = true:=by simpa [hz] using h
    have:=ih h'
    simp at this
    simp [hz]; omega
 ·have h':∀ z ∈ l,p z = false:=by
   intro z hz; simp at h; simpa using h z hz
  rw [indexI_none p l h']; simp at h ⊢; exact h
def Tests (f:FuncId) (cap:Array Value) (w:World) (p:Int → Bool) (zs:List Int):Prop:=
 ∀ z ∈ zs,∀ w',Below w.heap.size w w' → Calls Tryz.prog f (#[.int .i64 z] ++ cap) w' fun e w'' => e = .returned (.bool (p z)) ∧ Below w'.heap.size w' w''
theorem indexFunc_any (f:FuncId) (cap:Array Value) (p:Int → Bool) (v:Value) (zs:List Int) (w:World) (hI:Ints w v zs) (hE:Goes Tryz.prog f) (hT:Tests f cap w p zs) :
  Calls Tryz.prog 164 #[v,.func (.func f) #[] cap] w fun e w' => e = .returned (.int .i64 (indexI p zs)) ∧ Below w.heap.size w w':=by
 obtain ⟨a,cap',rfl,hcap,hlen,hr,hk⟩:=hI
 have HT:=Lib.hid hT
 clear hT
 have hE':∀ (args:Array Value) (w:World),(callFunc f args).run Tryz.prog w = .ok (.enter f args) w:=hE
 clear hE
 go_enter Tryz.func164,Tryz.ntmps164
 go_wp2
 go_loopw [5,8] (fun _ i wr => ∃ k:Nat,k ≤ zs.length ∧ i = .int .i64 k ∧ Hid (∀ z ∈ zs.take k,p z = false) ∧ Below w.heap.size w wr) (fun _ i _ => zs.length - (intOf i).toNat)
 case atStart => exact ⟨0,Nat.zero_le _,rfl,Lib.hid (by simp),Below.refl _ _⟩
 case round =>
  obtain ⟨k,hkl,rfl,HP,hb⟩:=hrel
  by_cases hlt:k < zs.length
  ·obtain ⟨b,off,rfl,hc⟩:=hk k hlt
   have hc':wr.cell? ⟨b,off + k,none⟩ = some (.int .i64 zs[k]):=below_cell hb hc
   clear hk hr hc
   cases hp:p zs[k]
   ·have HN:=Lib.hid (show ∀ z ∈ zs.take (k + 1),p z = false by
     rw [List.take_succ_eq_append_getElem hlt]
     intro z hz
     rcases List.mem_append.1 hz with h | h
     ·exact HP.out z h
     ·rw [List.mem_singleton.1 h]; exact hp)
    have HQ:=Lib.hid hp
    clear hp
    go_wp2_with fail
    refine (HT.out _ (List.getElem_mem hlt) _ hb).mono ?_
    rintro e w1 ⟨rfl,hb1⟩
    rw [HQ.out]
    go_wp2
    go_roundw
    case rel => exact ⟨k + 1,by omega,by go_num,HN,below_later hb (Nat.le_refl _) hb1⟩
    case measure => simp [intOf]; omega
   ·have HQ:=Lib.hid hp
    clear hp
    have HR:=Lib.hid (indexI_at p zs k hlt HP.out HQ.out)
    go_wp2_with fail
    refine (HT.out _ (List.getElem_mem hlt) _ hb).mono ?_
    rintro e w1 ⟨rfl,hb1⟩
    rw [HQ.out]
    go_wp2
    go_ret
    exact ⟨ret_int HR.out.symm,below_later hb (Nat.le_refl _) hb1⟩
  ·have HR:=Lib.hid (indexI_none p zs (by have:=HP.out; rwa [List.take_of_length_le (by omega)] at this))
   go_wp2
   go_ret
   exact ⟨ret_int HR.out.symm,hb⟩
theorem containsFunc_any (f:FuncId) (cap:Array Value) (p:Int → Bool) (v:Value) (zs:List Int) (w:World) (hI:Ints w v zs) (hE:Goes Tryz.prog f) (hT:Tests f cap w p zs) :
  Calls Tryz.prog 93 #[v,.func (.func f) #[] cap] w fun e w' => e = .returned (.bool (zs.any p)) ∧ Below w.heap.size w w':=by
 have H:=Lib.hid (indexI_any p zs)
 have hlo:=indexI_lo p zs
 go_enter Tryz.func93,Tryz.ntmps93
 go_wp2_with (go_at_call 164; refine (indexFunc_any f cap p v zs _ hI hE hT).mono ?_; rintro e w1 ⟨rfl,hb1⟩)
 go_ret
 exact ⟨ret_bool H.out,hb1⟩
end Go.Proofs.YtggnipkfliompaaGreatDoor
namespace Go.Proofs.YtggnipkfliompaaGreatDoor
open Go.RowKit
def thrown (e:Int):List PanicEntry:=[{ v:=.iface 35 (.int .i64 e),recovered:=false }]
def oddQ (z:Int):Bool:=decide (z < 0) || decide (1073741789 ≤ z)
def wide (rows:List (List Int)):Nat:=(rows.head?.map List.length).getD 0
theorem wide_at (rows:List (List Int)) (h:0 < rows.length):rows[0].length = wide rows:=by
 cases rows with
 | nil => simp at h
 | cons r l => rfl
end Go.Proofs.YtggnipkfliompaaGreatDoor
namespace Go.Proofs.YtggnipkfliompaaGreatDoor
open Go.RowKit
end Go.Proofs.YtggnipkfliompaaGreatDoor
namespace Go.Proofs.YtggnipkfliompaaGreatDoor
open Go.RowKit
structure Sim (B:Nat) (W W':World):Prop where
 os:W'.os = W.os
 tape:W'.tape = W.tape
 output:W'.output = W.output
 size:W.heap.size ≤ W'.heap.size
 low:∀ k:Nat,k < B → W'.heap[k]? = W.heap[k]?
 cells:∀ (k:Nat) (o:Obj),W.heap[k]? = some o → o.isCells = true → W'.heap[k]? = some o
theorem sim_trans {B:Nat} {X Y Z:World} (h:Sim B X Y) (k:Sim B Y Z):Sim B X Z:=
 ⟨k.os.trans h.os,k.tape.trans h.tape,k.output.trans h.output,Nat.le_trans h.size k.size,fun i hi => (k.low i hi).trans (h.low i hi),fun i o hi ho => k.cells i o (h.cells i o hi ho) ho⟩
theorem sim_mono {B B':Nat} {X Y:World} (h:Sim B X Y) (hB:B' ≤ B):Sim B' X Y:=
 ⟨h.os,h.tape,h.output,h.size,fun i hi => h.low i (Nat.lt_of_lt_of_le hi hB),h.cells⟩
theorem sim_below {B:Nat} {X Y:World} (h:Sim B X Y):Below B X Y:=⟨h.os,h.tape,h.output,h.size,h.low⟩
theorem sim_alloc {B:Nat} (W:World) (hB:B ≤ W.heap.size) (o:Obj):Sim B W (W.alloc o):=
 ⟨rfl,rfl,rfl,by simp,fun k hk => Below.heap_alloc _ _ _ (by omega),fun k o' hk _ => (Below.heap_alloc W o k (Array.getElem?_eq_some_iff.1 hk).1).trans hk⟩
theorem sim_putObj {B:Nat} {W:World} {l:Nat} {o:Obj} (o':Obj) (hB:B ≤ l) (hl:W.heap[l]? = some o) (ho:o.isCells = false):Sim B W (W.putObj l o'):=
 ⟨rfl,rfl,rfl,by simp,fun k hk => World.putObj_heap_other (by omega),fun k o'' hk hc => by
  by_cases e:k = l
  ·subst e; rw [hl] at hk; cases hk; rw [ho] at hc; cases hc
  ·exact (World.putObj_heap_other e).trans hk⟩
theorem sim_cell {B:Nat} {W W':World} (h:Sim B W W') {a:Addr} {v:Value} (hc:W.cell? a = some v):W'.cell? a = some v:=by
 obtain ⟨o,ho,hi⟩:=cells_of_cell hc
 rw [World.cell?_of_block (w:=W) ((h.cells _ o ho hi).trans ho.symm)]; exact hc
theorem sim_frozen {B:Nat} {W W':World} (h:Sim B W W') {a:Addr} {v:Value} (hc:W.cell? a = some v):W'.frozen? a = W.frozen? a:=by
 obtain ⟨o,ho,hi⟩:=cells_of_cell hc
 exact World.frozen?_of_block (w:=W) ((h.cells _ o ho hi).trans ho.symm)
theorem calls_of_range {P:Program} {f:FuncId} {fn:Func} {c:Code} {args:Array Value} {w:World} {R:Ending → World → Prop}
  (hf:P.funcs[f]? = some fn) (hb:fn.body = some c)
  (h:c.wp P (bodyPostM Fence.wide 0 P fn R) { tmps:=args ++ Array.replicate (fn.ntmps - args.size) undef,defers:=[] } w):Calls P f args w R:=
 (callsIn_wide (n:=0)).1 (callsIn_of_wp_marks hf hb trivial (wpIn_wide.2 h) rfl)
def Marks (B:Nat) (W:World):List Deferred → Prop
 | [] => True
 | d :: ds => (∃ D,d = { target:=.collected D,args:=#[] } ∧ B ≤ D ∧ W.heap[D]? = some (.deferred (some [])) ∧ ∀ d' ∈ ds,d'.target ≠ .collected D) ∧ Marks B W ds
theorem marks_put {B:Nat} {W:World} {D:Nat} {o:Obj}:∀ {ds:List Deferred},Marks B W ds → (∀ d' ∈ ds,d'.target ≠ .collected D) → Marks B (W.putObj D o) ds
 | [],_,_ => trivial
 | d :: ds,⟨⟨D',h1,hB,h2,h3⟩,hr⟩,hn => ⟨⟨D',h1,hB,(World.putObj_heap_other (fun e => hn d (by simp) (by rw [h1,e]))).trans h2,h3⟩,marks_put hr (fun d' hd => hn d' (by simp [hd]))⟩
end Go.Proofs.YtggnipkfliompaaGreatDoor
namespace Go.Proofs.YtggnipkfliompaaGreatDoor
open Go.RowKit
end Go.Proofs.YtggnipkfliompaaGreatDoor
namespace Go.Proofs.YtggnipkfliompaaGreatDoor
open Go.RowKit
attribute [local go_sem] Oper.semAt_some
end Go.Proofs.YtggnipkfliompaaGreatDoor
namespace Go.Proofs.YtggnipkfliompaaGreatDoor
open Go.RowKit
theorem tmod_neg (n:Int) (h:n < 0):n.tmod 1073741789 = -((-n) % 1073741789):=by
 have h1:n.tmod 1073741789 = (-(-n)).tmod 1073741789:=by rw [Int.neg_neg]
 rw [h1,Int.neg_tmod,Int.tmod_eq_emod_of_nonneg (by omega)]
theorem tmod_emod (n:Int):(if n.tmod 1073741789 < 0 then n.tmod 1073741789 + 1073741789 else n.tmod 1073741789) = n % 1073741789:=by
 by_cases h0:0 ≤ n
 ·rw [Int.tmod_eq_emod_of_nonneg h0,if_neg (by omega)]
 ·rw [tmod_neg n (by omega)]; split <;> omega
theorem tmod_lo (n:Int):-1073741789 < n.tmod 1073741789:=by
 by_cases h0:0 ≤ n
 ·rw [Int.tmod_eq_emod_of_nonneg h0]; omega
 ·rw [tmod_neg n (by omega)]; omega
theorem tmod_hi (n:Int):n.tmod 1073741789 < 1073741789:=by
 have h:=tmod_emod n
 generalize n.tmod 1073741789 = t at *
 by_cases hn:t < 0
 ·omega
 ·rw [if_neg hn] at h; omega
theorem mod_any (n:Int) (w:World) (hn:R64 n) :
  Calls Tryz.prog 47 #[.int .i64 n] w fun e w' => e = .returned (.int .i64 (n % 1073741789)) ∧ w = w':=by
 obtain ⟨h1,h2⟩:=hn
 have hm:=Lib.hid (tmod_emod n)
 have hl:=tmod_lo n
 have hh:=tmod_hi n
 by_cases hn:n.tmod 1073741789 < 0
 ·go_enter Tryz.func47,Tryz.ntmps47
  go_wp2
  go_ret
  exact ⟨ret_int (by rw [← hm.out,if_pos hn]),rfl⟩
 ·go_enter Tryz.func47,Tryz.ntmps47
  go_wp2
  go_ret
  exact ⟨ret_int (by rw [← hm.out,if_neg (Int.not_lt.2 hn)]),rfl⟩
theorem lrmod_any (n:Int) (w:World) (hn:R64 n) :
  Calls Tryz.prog 172 #[.int .i64 n] w fun e w' => e = .returned (.int .i64 (n % 1073741789)) ∧ w = w':=by
 obtain ⟨h1,h2⟩:=hn
 have hm:=Lib.hid (tmod_emod n)
 have hl:=tmod_lo n
 have hh:=tmod_hi n
 by_cases hn:n.tmod 1073741789 < 0
 ·go_enter Tryz.func172,Tryz.ntmps172
  go_wp2
  go_ret
  exact ⟨ret_int (by rw [← hm.out,if_pos hn]),rfl⟩
 ·go_enter Tryz.func172,Tryz.ntmps172
  go_wp2
  go_ret
  exact ⟨ret_int (by rw [← hm.out,if_neg (Int.not_lt.2 hn)]),rfl⟩
def sumQ (zs:List Int):Int:=zs.foldl (fun x n => (x + n % 1073741789) % 1073741789) 0
theorem sumQ_snoc (zs:List Int) (z:Int):sumQ (zs ++ [z]) = (sumQ zs + z % 1073741789) % 1073741789:=by simp [sumQ]
theorem sumQ_num (zs:List Int):0 ≤ sumQ zs ∧ sumQ zs < 1073741789:=by
 rcases List.eq_nil_or_concat zs with rfl | ⟨l,z,rfl⟩
 ·simp [sumQ]
 ·rw [List.concat_eq_append,sumQ_snoc]; omega
theorem lsum_any (v:Value) (zs:List Int) (w:World) (hI:Ints w v zs) :
  Calls Tryz.prog 115 #[v] w fun e w' => e = .returned (.int .i64 (sumQ zs)) ∧ w = w':=by
 obtain ⟨a,cap,rfl,hcap,hlen,hr,hk⟩:=hI
 go_enter Tryz.func115,Tryz.ntmps115
 go_wp2
 go_loop [3,8] (fun x i => ∃ k:Nat,k ≤ zs.length ∧ i = .int .i64 k ∧ x = .int .i64 (sumQ (zs.take k))) (fun _ i => zs.length - (intOf i).toNat)
 case atStart => exact ⟨0,Nat.zero_le _,rfl,rfl⟩
 case round =>
  obtain ⟨k,hkl,rfl,rfl⟩:=hrel
  have hs:=sumQ_num (zs.take k)
  by_cases hlt:k < zs.length
  ·obtain ⟨b,off,rfl,hc⟩:=hk k hlt
   have hz:=hr _ (List.getElem_mem hlt)
   have HS:=Lib.hid (show sumQ (zs.take (k + 1)) = (sumQ (zs.take k) + zs[k] % 1073741789) % 1073741789 by
    rw [List.take_succ_eq_append_getElem hlt,sumQ_snoc])
   clear hk hr
   go_wp2_with (go_at_call 47; refine (mod_any _ _ hz).mono ?_; rintro e w' ⟨rfl,rfl⟩)
   go_round
   case rel => exact ⟨k + 1,by omega,by go_num,by rw [HS.out]⟩
   case measure => simp [intOf]; omega
  ·go_wp2
   go_ret
   exact ⟨ret_int (by rw [List.take_of_length_le (by omega)]),rfl⟩
theorem Ints.two (w:World) (a b:Int) (t:TypeId) (ha:R64 a) (hb:R64 b):Ints (w.alloc (.cells #[.int .i64 a,.int .i64 b] t)) (.slice (some ⟨w.heap.size,0,none⟩) 2 2) [a,b]:=by
 refine ⟨_,2,rfl,by simp,by simp,by simp [ha,hb],fun k hk => ⟨_,_,rfl,?_⟩⟩
 rw [World.cell?_alloc_at _ _ _ _ rfl]
 have:k = 0 ∨ k = 1:=by simp at hk; omega
 rcases this with rfl | rfl <;> rfl
theorem add_any (a b:Int) (w:World) (ha:R64 a) (hb:R64 b) :
  Calls Tryz.prog 44 #[.int .i64 a,.int .i64 b] w fun e w' => e = .returned (.int .i64 ((a + b) % 1073741789)) ∧ Below w.heap.size w w':=by
 have H:=Lib.hid (show sumQ [a,b] = (a + b) % 1073741789 by simp [sumQ])
 go_enter Tryz.func44,Tryz.ntmps44
 go_wp2_with (go_at_call 115; refine (lsum_any _ _ _ (Ints.two w a b _ ha hb)).mono ?_; rintro e w' ⟨rfl,rfl⟩)
 go_ret
 exact ⟨ret_int H.out,(Below.refl _ _).alloc (Nat.le_refl _) _⟩
theorem mul_any (a b:Int) (w:World) (ha:R64 a) (hb:R64 b) :
  Calls Tryz.prog 45 #[.int .i64 a,.int .i64 b] w fun e w' => e = .returned (.int .i64 ((a * b) % 1073741789)) ∧ w = w':=by
 have H:=Lib.hid (show (a % 1073741789) * (b % 1073741789) % 1073741789 = (a * b) % 1073741789 from (Int.mul_emod a b _).symm)
 have h1:0 ≤ a % 1073741789 ∧ a % 1073741789 < 1073741789:=by omega
 have h2:0 ≤ b % 1073741789 ∧ b % 1073741789 < 1073741789:=by omega
 have h3:0 ≤ a % 1073741789 * (b % 1073741789):=Int.mul_nonneg h1.1 h2.1
 have h4:a % 1073741789 * (b % 1073741789) ≤ 1073741789 * 1073741789:=Int.mul_le_mul (by omega) (by omega) h2.1 (by omega)
 go_enter Tryz.func45,Tryz.ntmps45
 go_wp2_with fail
 refine (mod_any _ _ ha).mono ?_; rintro e w' ⟨rfl,rfl⟩
 go_wp2_with fail
 refine (mod_any _ _ hb).mono ?_; rintro e w' ⟨rfl,rfl⟩
 go_wp2_with fail
 go_ret
 exact ⟨ret_int H.out,rfl⟩
theorem mod_num (a:Int):0 ≤ a % 1073741789 ∧ a % 1073741789 < 1073741789:=by omega
theorem mod_r64 (a:Int):R64 (a % 1073741789):=by unfold R64; omega
theorem num_r64 {x:Int} (h:0 ≤ x ∧ x < 1073741789):R64 x:=by unfold R64; omega
theorem radd_any (a b:Int) (w:World) (ha:R64 a) (hb:R64 b) :
  Calls Tryz.prog 109 #[.int .i64 a,.int .i64 b] w fun e w' => e = .returned (.int .i64 ((a + b) % 1073741789)) ∧ w = w':=by
 have H:=Lib.hid (show ((a % 1073741789) + (b % 1073741789)) % 1073741789 = (a + b) % 1073741789 by omega)
 have h1:0 ≤ a % 1073741789 ∧ a % 1073741789 < 1073741789:=by omega
 have h2:0 ≤ b % 1073741789 ∧ b % 1073741789 < 1073741789:=by omega
 go_enter Tryz.func109,Tryz.ntmps109
 go_wp2_with fail
 refine (lrmod_any _ _ ha).mono ?_; rintro e w' ⟨rfl,rfl⟩
 go_wp2_with fail
 refine (lrmod_any _ _ hb).mono ?_; rintro e w' ⟨rfl,rfl⟩
 go_wp2_with fail
 go_ret
 exact ⟨ret_int H.out,rfl⟩
end Go.Proofs.YtggnipkfliompaaGreatDoor
namespace Go.Proofs.YtggnipkfliompaaGreatDoor
open Go.RowKit
attribute [local go_sem] Oper.semAt_some
end Go.Proofs.YtggnipkfliompaaGreatDoor
namespace Go.Proofs.YtggnipkfliompaaGreatDoor
open Go.RowKit
end Go.Proofs.YtggnipkfliompaaGreatDoor
namespace Go.Proofs.YtggnipkfliompaaGreatDoor
open Go.RowKit
theorem infoInt:(Tryz.prog.info? 3).map (fun i => (i.zero,i.size,i.bytes)) = some (some (.int .i64 0),1,8):=by kernel_rfl
theorem app_int {ops:Array Oper} {rest:List Oper} {o:Oper} {a:Act} {Q:Exit → Act → World → Prop} {W:World} (hgd:o.guard = none) (s x:Operand) (ho:o.op = .call { callee:=.builtin .append,args:=#[s,x],argTypes:=#[23,23] })
  (base n:Nat) (v:Value) (xs:List Value) (hs:a.eval s = v) (hown:W.ownsRow base 3 1 v n xs) (b c:Nat) (z:Int) (hx:a.eval x = .slice (some ⟨b,0,none⟩) 1 c) (hcell:W.cell? ⟨b,0,none⟩ = some (.int .i64 z)) (hn:n ≤ 1000000) (hbase:base ≤ W.heap.size)
  (h:∀ v' w',w'.ownsRow base 3 1 v' (n + 1) (xs ++ [.int .i64 z]) → W.grownBy w' v.ownBlock → wpList Tryz.prog ops Q rest (a.put o.dst v') w'):wpList Tryz.prog ops Q (o :: rest) a W:=by
 obtain ⟨i0,hi0,hz0,hz1,hz2⟩:=info_parts infoInt
 refine wpList_append_own _ hgd s x 23 ho base 3 i0 (.int .i64 0) 1 8 Tryz.underlying23 hi0 hz0 hz1 hz2 rfl (by decide) v n xs hs hown ⟨b,0,none⟩ 1 c [.int .i64 z] hx rfl ?_ ?_ ?_ ?_ hbase ?_
 ·intro j u hu
  cases j with
  | zero => simp at hu; subst hu; simpa [Addr.add] using hcell
  | succ j => simp at hu
 ·simp [Value.oneCell']
 ·unfold maxLen; omega
 ·omega
 ·intro v' w' h1 h2 _; exact h v' w' h1 h2
theorem app_ints {ops:Array Oper} {rest:List Oper} {o:Oper} {a:Act} {Q:Exit → Act → World → Prop} {W:World} (hgd:o.guard = none) (s x:Operand) (ho:o.op = .call { callee:=.builtin .append,args:=#[s,x],argTypes:=#[23,23] })
  (base n:Nat) (v:Value) (xs:List Value) (hs:a.eval s = v) (hown:W.ownsRow base 3 1 v n xs) (ad:Addr) (c:Nat) (zs:List Int) (hx:a.eval x = .slice (some ad) zs.length c)
  (hcell:∀ j (h:j < zs.length),W.cell? (ad.add j) = some (.int .i64 zs[j])) (hn:n + zs.length ≤ 17592186044416) (hbase:base ≤ W.heap.size)
  (h:∀ v' w',w'.ownsRow base 3 1 v' (n + zs.length) (xs ++ zs.map (Value.int .i64)) → W.grownBy w' v.ownBlock → wpList Tryz.prog ops Q rest (a.put o.dst v') w'):wpList Tryz.prog ops Q (o :: rest) a W:=by
 obtain ⟨i0,hi0,hz0,hz1,hz2⟩:=info_parts infoInt
 refine wpList_append_own _ hgd s x 23 ho base 3 i0 (.int .i64 0) 1 8 Tryz.underlying23 hi0 hz0 hz1 hz2 rfl (by decide) v n xs hs hown ad zs.length c (zs.map (Value.int .i64)) hx (by simp) ?_ ?_ ?_ ?_ hbase ?_
 ·intro j u hu
  rw [List.getElem?_map] at hu
  by_cases hj:j < zs.length
  ·rw [List.getElem?_eq_getElem hj] at hu; simp at hu; rw [← hu]; exact hcell j hj
  ·rw [List.getElem?_eq_none (by omega)] at hu; cases hu
 ·intro u hu
  obtain ⟨z,_,rfl⟩:=List.mem_map.1 hu
  rfl
 ·unfold maxLen; omega
 ·omega
 ·intro v' w' h1 h2 _; exact h v' w' h1 h2
end Go.Proofs.YtggnipkfliompaaGreatDoor
namespace Go.Proofs.YtggnipkfliompaaGreatDoor
end Go.Proofs.YtggnipkfliompaaGreatDoor
namespace Go.Proofs.YtggnipkfliompaaGreatDoor
open Go.RowKit
attribute [local go_sem] Oper.semAt_some
end Go.Proofs.YtggnipkfliompaaGreatDoor
namespace Go.Proofs.YtggnipkfliompaaGreatDoor
open Go.RowKit
theorem clone_any (v:Value) (zs:List Int) (w:World) (hI:Ints w v zs) (hnn:∃ b off n c,v = .slice (some ⟨b,off,none⟩) n c) :
  Calls Tryz.prog 104 #[v] w fun e w' => ∃ v',e = .returned v' ∧ w'.ownsRow w.heap.size 3 1 v' zs.length (zs.map (Value.int .i64)) ∧ Below w.heap.size w w':=by
 obtain ⟨a,cap,rfl,hcap,hlen,hr,hk⟩:=hI
 obtain ⟨b,off,n,c,hnn⟩:=hnn
 obtain rfl:a = some ⟨b,off,none⟩:=by cases hnn; rfl
 clear hnn
 have hcell:∀ j (h:j < zs.length),w.cell? ((⟨b,off,none⟩:Addr).add j) = some (.int .i64 zs[j]):=by
  intro j h
  obtain ⟨b',off',e,hc⟩:=hk j h
  cases e
  unfold Addr.add
  split
  ·rename_i e; subst e; simpa using hc
  ·exact hc
 clear hk
 go_enter Tryz.func104,Tryz.ntmps104
 have hq:(binOp BinOp.eql 23 (.slice (some ⟨b,off,none⟩) zs.length cap) (.slice none 0 0)).run Tryz.prog w = .ok (.bool false) w:=by kernel_rfl
 have hb1:Below w.heap.size w (w.alloc (.cells #[] 3)):=(Below.refl _ _).alloc (Nat.le_refl _) _
 have hcell1:∀ j (h:j < zs.length),(w.alloc (.cells #[] 3)).cell? ((⟨b,off,none⟩:Addr).add j) = some (.int .i64 zs[j]):=fun j h => by
  rw [hb1.cell (p:=(⟨b,off,none⟩:Addr).add j) (by
   obtain ⟨o,ho,-⟩:=cells_of_cell (hcell j h)
   exact (Array.getElem?_eq_some_iff.1 ho).1)]
  exact hcell j h
 have hown1:(w.alloc (.cells #[] 3)).ownsRow w.heap.size 3 1 (.slice (some ⟨w.heap.size,0,none⟩) 0 0) 0 []:=World.ownsRow_lit w #[] 0 (Nat.le_refl _) (by simp) rfl
 go_wp2_with (at_builtin; refine app_ints rfl _ _ rfl w.heap.size 0 _ [] rfl hown1 ⟨b,off,none⟩ cap zs rfl hcell1 (by omega) (by simp) ?_; intro v9 w9 hown9 hgrow9)
 go_ret
 refine ⟨v9,rfl,?_,hb1.grown hgrow9 (by simp) (fun k e => by cases e; exact Nat.le_refl _)⟩
 rw [Nat.zero_add,List.nil_append] at hown9; exact hown9
end Go.Proofs.YtggnipkfliompaaGreatDoor
namespace Go.Proofs.YtggnipkfliompaaGreatDoor
open Go.RowKit
end Go.Proofs.YtggnipkfliompaaGreatDoor
namespace Go.Proofs.YtggnipkfliompaaGreatDoor
open Go.RowKit
end Go.Proofs.YtggnipkfliompaaGreatDoor
namespace Go.Proofs.YtggnipkfliompaaGreatDoor
open Go.RowKit
theorem oddQ_num {z:Int} (h:oddQ z = false):0 ≤ z ∧ z < 1073741789:=by
 simp [oddQ] at h; omega
structure Right (rows:List (List Int)) (m:Nat):Prop where
 few:rows.length ≤ 64
 narrow:m ≤ 64 ∨ rows = []
 len:∀ r ∈ rows,r.length = m
 num:∀ r ∈ rows,∀ z ∈ r,0 ≤ z ∧ z < 1073741789
end Go.Proofs.YtggnipkfliompaaGreatDoor
namespace Go.Proofs.YtggnipkfliompaaGreatDoor
def inB (n lo hi:Int):Bool:=decide (lo ≤ n) && decide (n ≤ hi)
theorem inB_iff {n lo hi:Int}:inB n lo hi = true ↔ lo ≤ n ∧ n ≤ hi:=by unfold inB; rw [Bool.and_eq_true,decide_eq_true_eq,decide_eq_true_eq]
theorem inB_false {n lo hi:Int} (h:¬ (lo ≤ n ∧ n ≤ hi)):inB n lo hi = false:=by
 cases e:inB n lo hi with
 | false => rfl
 | true => exact absurd (inB_iff.1 e) h
theorem lt_le_dec (n:Int):decide (n < 1073741789) = decide (n ≤ 1073741788):=decide_eq_decide.2 (by omega)
theorem lt_le_64 (n:Int):decide (n < 64) = decide (n ≤ 63):=decide_eq_decide.2 (by omega)
end Go.Proofs.YtggnipkfliompaaGreatDoor
namespace Go.Proofs.YtggnipkfliompaaGreatDoor
open Go.RowKit
theorem row_cell {W:World} {b:Nat} {L:Array Value} {t:TypeId} (h:W.heap[b]? = some (.cells L t (0,0))) {k:Nat} {v:Value} (hk:L[k]? = some v):W.cell? ⟨b,k,none⟩ = some v:=by
 simp [World.cell?,h,hk]
theorem row_free {W:World} {b:Nat} {L:Array Value} {t:TypeId} (h:W.heap[b]? = some (.cells L t (0,0))) (k:Nat):W.frozen? ⟨b,k,none⟩ = false:=by
 simp [World.frozen?,h]
theorem row_lt {W:World} {b:Nat} {o:Obj} (h:W.heap[b]? = some o):b < W.heap.size:=(Array.getElem?_eq_some_iff.1 h).1
theorem row_set {W:World} {b:Nat} {L:Array Value} {t:TypeId} (h:W.heap[b]? = some (.cells L t (0,0))) (k:Nat) (v:Value):(W.setCell ⟨b,k,none⟩ v).heap[b]? = some (.cells (L.setIfInBounds k v) t (0,0)):=by
 have hlt:=row_lt h
 have h':W.heap[b] = .cells L t (0,0):=(Array.getElem?_eq_some_iff.1 h).2
 show (W.heap.modify b _)[b]? = _
 rw [Array.getElem?_eq_getElem (by simpa using hlt),Array.getElem_modify_self,h']
 rfl
theorem add_row (b j:Nat):(⟨b,0,none⟩:Addr).add j = ⟨b,j,none⟩:=by
 unfold Addr.add
 by_cases h:j = 0
 ·subst h; rfl
 ·rw [if_neg h,Nat.zero_add]
theorem add_off (b off j:Nat):(⟨b,off,none⟩:Addr).add j = ⟨b,off + j,none⟩:=by
 unfold Addr.add
 by_cases h:j = 0
 ·subst h; rfl
 ·rw [if_neg h]
theorem own_below {W W':World} {base size n:Nat} {e:TypeId} {v:Value} {xs:List Value} (h:W.ownsRow base e size v n xs) (hg:W.grownBy W' v.ownBlock) (hb:base ≤ W.heap.size):Below base W W':=
 ⟨hg.os,hg.tape,hg.output,hg.size,fun k hk => hg.block k (by omega) (by
  rcases h.2 with ⟨rfl,-⟩ | ⟨g,cap,cur,rfl,hg2,-⟩
  ·intro e; cases e
  ·intro e; have e2:k = g:=by injection e
   omega)⟩
def Onto (W:World) (v:Value) (W':World) (v':Value):Prop:=W.grownBy W' v.ownBlock ∧ (v'.ownBlock = v.ownBlock ∨ ∃ g,v'.ownBlock = some g ∧ W.heap.size ≤ g)
theorem Onto.refl (W:World) (v:Value):Onto W v W v:=⟨World.grownBy.refl _ _,.inl rfl⟩
theorem Onto.trans {A B C:World} {a b c:Value} (h:Onto A a B b) (k:Onto B b C c):Onto A a C c:=by
 obtain ⟨hg,ho⟩:=h
 obtain ⟨kg,ko⟩:=k
 refine ⟨⟨kg.os.trans hg.os,kg.tape.trans hg.tape,kg.output.trans hg.output,Nat.le_trans hg.size kg.size,fun k hk hr => (kg.block k (Nat.lt_of_lt_of_le hk hg.size) ?_).trans (hg.block k hk hr)⟩,?_⟩
 ·rcases ho with ho | ⟨g,ho,hge⟩
  ·rw [ho]; exact hr
  ·rw [ho]; intro e; injection e with e; omega
 ·rcases ko with ko | ⟨g,ko,kge⟩
  ·rcases ho with ho | ⟨g,ho,hge⟩
   ·exact .inl (ko.trans ho)
   ·exact .inr ⟨g,ko.trans ho,hge⟩
  ·exact .inr ⟨g,ko,Nat.le_trans hg.size kge⟩
theorem Onto.below {A B:World} (h:Below A.heap.size A B) (v:Value):Onto A v B v:=⟨⟨h.os,h.tape,h.output,h.size,fun k hk _ => h.block k hk⟩,.inl rfl⟩
theorem own_keep {W W':World} {base size n:Nat} {e:TypeId} {v:Value} {xs:List Value} (h:W.ownsRow base e size v n xs) (hb:Below W.heap.size W W'):W'.ownsRow base e size v n xs:=by
 obtain ⟨h1,h2⟩:=h
 refine ⟨h1,?_⟩
 rcases h2 with h2 | ⟨g,cap,cur,a,b,c,d⟩
 ·exact .inl h2
 ·exact .inr ⟨g,cap,cur,a,b,(hb.block g (row_lt c)).trans c,d⟩
theorem own_lt {W:World} {base size n:Nat} {e:TypeId} {v:Value} {xs:List Value} (h:W.ownsRow base e size v n xs):∀ g,v.ownBlock = some g → base ≤ g ∧ g < W.heap.size:=by
 intro g hg
 rcases h.2 with ⟨rfl,-⟩ | ⟨g',cap,cur,rfl,b,c,-⟩
 ·cases hg
 ·have:g' = g:=by injection hg
  subst this
  exact ⟨b,row_lt c⟩
theorem onto_far {W W':World} {v v':Value} (h:Onto W v W' v') {b:Nat} (hb:b < W.heap.size) (hne:v.ownBlock ≠ some b) (k:Nat):W'.cell? ⟨b,k,none⟩ = W.cell? ⟨b,k,none⟩:=
 World.cell?_of_block (w:=W) (h.1.block b hb (fun e => hne e.symm))
theorem own_ne {W:World} {base size n:Nat} {e:TypeId} {v:Value} {xs:List Value} (h:W.ownsRow base e size v n xs) {b:Nat} (hb:W.heap.size ≤ b ∨ b < base):v.ownBlock ≠ some b:=fun e2 => by
 have:=own_lt h b e2
 omega
theorem own_apart {W W':World} {base size n:Nat} {e:TypeId} {v u:Value} {xs:List Value} (h:W.ownsRow base e size v n xs) (hg:W.grownBy W' u.ownBlock) (hne:∀ g,v.ownBlock = some g → u.ownBlock ≠ some g):W'.ownsRow base e size v n xs:=by
 obtain ⟨h1,h2⟩:=h
 refine ⟨h1,?_⟩
 rcases h2 with h2 | ⟨g,cap,cur,rfl,b,c,d⟩
 ·exact .inl h2
 ·refine .inr ⟨g,cap,cur,rfl,b,?_,d⟩
  rw [hg.block g (Array.getElem?_eq_some_iff.1 c).1 (fun e2 => hne g rfl e2.symm)]; exact c
theorem own_low {w:World} {base base' size n:Nat} {e:TypeId} {v:Value} {xs:List Value} (h:w.ownsRow base e size v n xs) (hb:base' ≤ base):w.ownsRow base' e size v n xs:=by
 obtain ⟨h1,h2⟩:=h
 refine ⟨h1,?_⟩
 rcases h2 with h2 | ⟨g,cap,cur,a,c,r⟩
 ·exact .inl h2
 ·exact .inr ⟨g,cap,cur,a,Nat.le_trans hb c,r⟩
theorem own_keep_set {W:World} {base size n b o:Nat} {e:TypeId} {v:Value} {xs:List Value} (h:W.ownsRow base e size v n xs) (hb:b < base) (u:Value):(W.setCell ⟨b,o,none⟩ u).ownsRow base e size v n xs:=by
 obtain ⟨h1,h2⟩:=h
 refine ⟨h1,?_⟩
 rcases h2 with h2 | ⟨g,cap,cur,a,c,d,r⟩
 ·exact .inl h2
 ·exact .inr ⟨g,cap,cur,a,c,(Below.heap_setCell _ _ _ _ (by show g ≠ b; omega)).trans d,r⟩
theorem below_new (w:World) (c:Array Value) (t:TypeId):Below w.heap.size w (w.alloc (.cells c t)):=(Below.refl _ _).alloc (Nat.le_refl _) _
end Go.Proofs.YtggnipkfliompaaGreatDoor
