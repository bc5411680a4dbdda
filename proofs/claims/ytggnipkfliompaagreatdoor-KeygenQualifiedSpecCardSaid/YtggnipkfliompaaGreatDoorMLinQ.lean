/- The reference's reduction: the walk. Package dealing: numbers, columns, products of lists. Package dealing: shares as lists; appends; slices.Concat of a number and a list. SHA-256, in plain Lean: words, the schedule of a block, the rounds. Package digest: rotations, words of bytes. Package digest: a number is written into bytes. -/
import Derived.Test.YtggnipkfliompaaGreatDoorMDeaA
import Derived.Test.YtggnipkfliompaaGreatDoorMBase
import Derived.Deep.AppendSrc
import Derived.Deep.AppendLies
import Derived.Lib.AppendZeros
import Derived.Laws.BitsAllLaws
set_option maxHeartbeats 2000000
set_option maxRecDepth 100000
namespace Go.Proofs.YtggnipkfliompaaGreatDoor
open Go.RowKit
theorem wpList_app_run {P:Program} {ops:Array Oper} {rest:List Oper} {o:Oper} {a:Act} {Q:Exit → Act → World → Prop} {W w':World} (hgd:o.guard = none) (s x:Operand) (t:TypeId)
  (ho:o.op = .call { callee:=.builtin .append,args:=#[s,x],argTypes:=#[t,t] }) (v u v':Value) (hs:a.eval s = v) (hx:a.eval x = u)
  (hr:(Builtin.append_ #[t,t] o.type #[v,u]).run P W = .ok v' w') (h:wpList P ops Q rest (a.put o.dst v') w'):wpList P ops Q (o :: rest) a W:=by
 refine wpList_plain hgd fun K hK => ?_
 unfold Oper.wp execOp
 simp only [ho,resolve,invoke,builtin,Sem.run_bind,Sem.run_pure,Result.andThen_ok,List.map_toArray,List.map_cons,List.map_nil,hs,hx,hr]
 exact hK _ _ h
end Go.Proofs.YtggnipkfliompaaGreatDoor
namespace Go.Proofs.YtggnipkfliompaaGreatDoor
open Go.RowKit
theorem dodd_any (z:Int) (w:World):Calls Tryz.prog 203 #[.int .i64 z] w fun r w' => r = .returned (.bool (oddQ z)) ∧ w = w':=by
 by_cases h1:z < 0
 ·have H:=Lib.hid (show oddQ z = true by simp [oddQ,h1])
  go_enter Tryz.func203,Tryz.ntmps203
  go_wp2_with fail
  go_ret
  exact ⟨ret_bool H.out.symm,rfl⟩
 ·have h2:0 ≤ z:=by omega
  have H:=Lib.hid (show oddQ z = decide (1073741789 ≤ z) by unfold oddQ; rw [decide_eq_false h1,Bool.false_or])
  go_enter Tryz.func203,Tryz.ntmps203
  go_wp2_with fail
  go_ret
  exact ⟨ret_bool H.out.symm,rfl⟩
theorem dodd_tests (w:World) (zs:List Int):Tests 203 #[] w oddQ zs:=
 fun z _ w' _ => (dodd_any z w').mono fun _ _ ⟨h,e⟩ => ⟨h,e ▸ Below.refl _ _⟩
theorem dodd_goes:Goes Tryz.prog 203:=goes_of Tryz.func203 (by kernel_rfl) rfl
theorem numbers_any (v:Value) (zs:List Int) (w:World) (hI:Ints w v zs):Calls Tryz.prog 161 #[v] w fun r w' => r = .returned (.bool (!zs.any oddQ)) ∧ Below w.heap.size w w':=by
 have HC:=Lib.hid (containsFunc_any 203 #[] oddQ v zs w hI dodd_goes (dodd_tests _ _))
 clear hI
 go_enter Tryz.func161,Tryz.ntmps161
 go_wp2_with fail
 refine HC.out.mono ?_
 rintro e w3 ⟨rfl,hb3⟩
 go_wp2_with fail
 go_ret
 exact ⟨rfl,hb3⟩
def colsQ (rows:List (List Int)):Nat:=if rows.length = 0 then 1 else wide rows
theorem columns_any (rv ov:Value) (rows:List (List Int)) (owners:List Int) (w:World) (hR:Rows2 w rv rows) (hO:Ints w ov owners) :
  Calls Tryz.prog 118 #[.agg #[rv,ov]] w fun e w' => e = .returned (.int .i64 (colsQ rows)) ∧ Below w.heap.size w w':=by
 obtain ⟨W1,hW1,hb1,hr1,hz⟩:=box_prog w rv ov 25
 have HR1:=Lib.hid (hR.below hb1)
 obtain ⟨a,cap,rfl,-,hlen,-⟩:=id hR
 obtain ⟨a2,cap2,rfl,-,hlen2,-⟩:=id hO
 have c0:W1.cell? ⟨w.heap.size,0,none⟩ = some (.slice a rows.length cap):=rowp_cell hr1 rfl
 have HW1:=Lib.hid hW1
 have HB1:=Lib.hid hb1
 clear hR hO hr1 hW1 hb1
 by_cases h0:rows.length = 0
 ·have HV:=Lib.hid (show colsQ rows = 1 by unfold colsQ; rw [if_pos h0])
  have z0:((rows.length:Int) == 0) = true:=by rw [h0]; rfl
  clear h0
  go_enter Tryz.func118,Tryz.ntmps118
  go_wp2_with fail
  go_ret
  exact ⟨ret_int (by rw [HV.out]; rfl),HW1.out ▸ HB1.out⟩
 ·have HV:=Lib.hid (show colsQ rows = wide rows by unfold colsQ; rw [if_neg h0])
  have z0:((rows.length:Int) == 0) = false:=beq_eq_false_iff_ne.2 (by omega)
  obtain ⟨aa,cc,e1,-,-,hk⟩:=HR1.out
  obtain ⟨b,off,r,ha,q1,hI⟩:=hk 0 (by omega)
  simp only [Value.slice.injEq] at e1
  obtain ⟨rfl,-,rfl⟩:=e1
  subst ha
  rw [Nat.add_zero] at q1
  obtain ⟨ra,rc,rfl,-⟩:=id hI
  rw [wide_at rows (by omega)] at q1
  have i3:(0:Int) < (rows.length:Int):=by omega
  clear hk hI h0
  generalize wide rows = m at *
  go_enter Tryz.func118,Tryz.ntmps118
  go_wp2_with (rw [← HW1.out])
  go_ret
  exact ⟨ret_int (by rw [HV.out]),HB1.out⟩
theorem times1_any (i:Nat) (n:Int) (bb:Nat) (u:Value) (b:List Int) (w:World) (hc:w.cell? ⟨bb,0,none⟩ = some u) (hJ:Ints w u b) (hi:i < b.length) (hn:R64 n) :
  Calls Tryz.prog 206 #[.int .i64 i,.int .i64 n,.pointer (some ⟨bb,0,none⟩)] w fun e w' => e = .returned (.int .i64 (n * nth b i % 1073741789)) ∧ w = w':=by
 obtain ⟨hr,b0,off,nn,c,rfl,hcell⟩:=hJ.get hi
 obtain ⟨a',c',e',-,hlen,-⟩:=id hJ
 simp only [Value.slice.injEq] at e'
 obtain ⟨-,rfl,rfl⟩:=e'
 have i0:0 ≤ (i:Int):=by omega
 have i1:(i:Int) < (b.length:Int):=by omega
 clear hJ
 generalize nth b i = z at *
 go_enter Tryz.func206,Tryz.ntmps206
 go_wp2_with fail
 with_reducible refine (mul_any n z _ hn hr).mono ?_
 rintro e w3 ⟨rfl,rfl⟩
 go_wp2_with fail
 go_ret
 exact ⟨rfl,rfl⟩
theorem times1_goes:Goes Tryz.prog 206:=goes_of Tryz.func206 (by kernel_rfl) rfl
theorem dsum_any (v u:Value) (a b:List Int) (bb:Nat) (w:World) (hI:Ints w v a) (hJ:Ints w u b) (hl:a.length ≤ b.length) (hc:w.cell? ⟨bb,0,none⟩ = some u) :
  Calls Tryz.prog 205 #[v,.func (.func 206) #[] #[.pointer (some ⟨bb,0,none⟩)]] w fun e w' => e = .returned (.int .i64 (prodQ a b)) ∧ Below w.heap.size w w':=by
 have HA:=Lib.hid (fun k (hk:k < a.length) => hI.get hk)
 obtain ⟨aa,ca,rfl,hcap,hlen,-⟩:=id hI
 have HT:=Lib.hid (fun k (hk:k < a.length) (n:Int) (hn:R64 n) W (hb:Below w.heap.size w W) => times1_any k n bb u b W (below_cell hb hc) (hJ.below hb) (by omega) hn)
 have hE':∀ (args:Array Value) (w:World),(callFunc 206 args).run Tryz.prog w = .ok (.enter 206 args) w:=times1_goes
 clear hI hJ hc
 go_enter Tryz.func205,Tryz.ntmps205
 go_wp2_with fail
 go_loopw [4,9] (fun s i W => ∃ k:Nat,k ≤ a.length ∧ i = .int .i64 k ∧ s = .int .i64 (prodF a b k) ∧ Below w.heap.size w W) (fun _ i _ => a.length - (intOf i).toNat)
 case atStart => exact ⟨0,Nat.zero_le _,rfl,rfl,Below.refl _ _⟩
 case round =>
  obtain ⟨k,hkl,rfl,rfl,hb⟩:=hrel
  have HP:=Lib.hid (prodF_num a b k)
  by_cases hlt:k < a.length
  ·obtain ⟨hr,b0,off,nn,c,e1,hcell⟩:=HA.out k hlt
   simp only [Value.slice.injEq] at e1
   obtain ⟨rfl,-,-⟩:=e1
   have y1:=below_cell hb hcell
   have HT2:=Lib.hid (HT.out k hlt (nth a k) hr wr hb)
   have HS:=Lib.hid (show prodF a b (k + 1) = (prodF a b k + nth a k * nth b k % 1073741789) % 1073741789 from rfl)
   have hp64:R64 (prodF a b k):=num_r64 HP.out
   have hm64:=mod_r64 (nth a k * nth b k)
   generalize nth a k * nth b k % 1073741789 = z at *
   generalize nth a k = x at *
   clear hcell
   go_wp2_with fail
   refine HT2.out.mono ?_
   rintro e w3 ⟨rfl,rfl⟩
   go_wp2_with fail
   with_reducible refine (add_any _ z _ hp64 hm64).mono ?_
   rintro e w3 ⟨rfl,hb3⟩
   go_wp2_with fail
   go_roundw
   case rel => exact ⟨k + 1,by omega,by go_num,by rw [HS.out],hb.trans (hb3.mono hb.size)⟩
   case measure => simp [intOf]; omega
  ·have HV:=Lib.hid (show prodF a b k = prodQ a b by unfold prodQ; rw [show k = a.length by omega])
   go_wp2_with fail
   go_ret
   exact ⟨ret_int HV.out,hb⟩
theorem dtimes_any (v u:Value) (a b:List Int) (w:World) (hI:Ints w v a) (hJ:Ints w u b) (hl:a.length ≤ b.length) :
  Calls Tryz.prog 163 #[v,u] w fun e w' => e = .returned (.int .i64 (prodQ a b)) ∧ Below w.heap.size w w':=by
 have hmf:∀ (fn:Fn) (first cap:Array Value) (w:World),(Instr.makeFunc fn first cap).run Tryz.prog w = .ok (.func fn first cap) w:=fun _ _ _ _ => rfl
 have HB:=Lib.hid ((Below.refl w.heap.size w).alloc (Nat.le_refl _) (.cells #[u] 23))
 have HD:=Lib.hid (dsum_any v u a b w.heap.size _ (hI.below HB.out) (hJ.below HB.out) hl (rowp_cell (World.alloc_heap_new w (.cells #[u] 23)) rfl))
 obtain ⟨aa,ca,rfl,-⟩:=id hI
 obtain ⟨ab,cb,rfl,-⟩:=id hJ
 clear hI hJ
 go_enter Tryz.func163,Tryz.ntmps163
 go_wp2_with fail
 refine HD.out.mono ?_
 rintro e w3 ⟨rfl,hb3⟩
 go_wp2_with fail
 go_ret
 exact ⟨rfl,HB.out.trans (hb3.mono HB.out.size)⟩
end Go.Proofs.YtggnipkfliompaaGreatDoor
namespace Go.Proofs.YtggnipkfliompaaGreatDoor
open Go.RowKit
def shaC (p:Int × Int):List Value:=[.int .i64 p.1,.int .i64 p.2]
def Shares (w:World) (v:Value) (l:List (Int × Int)):Prop:=
 ∃ a cap,v = .slice a l.length cap ∧ l.length ≤ cap ∧ l.length ≤ 17592186044416 ∧ (∀ p ∈ l,R64 p.1 ∧ R64 p.2) ∧
  ∀ k (h:k < l.length),∃ b off,a = some ⟨b,off,none⟩ ∧ w.cell? ⟨b,off + k * 2,none⟩ = some (.int .i64 l[k].1) ∧ w.cell? ⟨b,off + k * 2 + 1,none⟩ = some (.int .i64 l[k].2)
theorem Shares.below {w w':World} {v:Value} {l:List (Int × Int)} (h:Shares w v l) (hb:Below w.heap.size w w'):Shares w' v l:=by
 obtain ⟨a,cap,rfl,hc,hl,hr,hk⟩:=h
 refine ⟨a,cap,rfl,hc,hl,hr,fun k hlt => ?_⟩
 obtain ⟨b,off,ha,h1,h2⟩:=hk k hlt
 exact ⟨b,off,ha,below_cell hb h1,below_cell hb h2⟩
theorem sflat_at:∀ (l:List (Int × Int)) (k j:Nat) (hk:k < l.length),j < 2 → (l.flatMap shaC)[k * 2 + j]? = (shaC l[k])[j]?
 | [],k,_,hk,_ => absurd hk (Nat.not_lt_zero k)
 | z :: l,0,j,_,hj => by
  rw [List.flatMap_cons,Nat.zero_mul,Nat.zero_add,List.getElem?_append_left (by show j < 2; exact hj)]; rfl
 | z :: l,k + 1,j,hk,hj => by
  rw [List.flatMap_cons,List.getElem?_append_right (by show 2 ≤ _; omega)]
  have e:(k + 1) * 2 + j - (shaC z).length = k * 2 + j:=by show (k + 1) * 2 + j - 2 = _; omega
  rw [e,sflat_at l k j (by simpa using hk) hj]; rfl
theorem sflat_size (l:List (Int × Int)):(l.flatMap shaC).length = l.length * 2:=by
 induction l with
 | nil => rfl
 | cons z l ih => rw [List.flatMap_cons,List.length_append,ih,List.length_cons]; show 2 + _ = _; omega
theorem sflat_snoc (l:List (Int × Int)) (z:Int × Int):(l ++ [z]).flatMap shaC = l.flatMap shaC ++ shaC z:=by rw [List.flatMap_append]; simp
theorem Shares.own {w:World} {base n:Nat} {v:Value} {l:List (Int × Int)} (h:w.ownsRow base 68 2 v n (l.flatMap shaC)) (hr:∀ p ∈ l,R64 p.1 ∧ R64 p.2) (hl:l.length ≤ 1000000):Shares w v l:=by
 obtain ⟨hn,h⟩:=h
 rw [sflat_size] at hn
 obtain rfl:n = l.length:=by omega
 rcases h with ⟨rfl,h0⟩ | ⟨g,cap,cur,rfl,-,hg,hnc,-,hcs,hcur⟩
 ·exact ⟨none,0,by rw [h0],by omega,by omega,hr,fun k hk => absurd hk (by omega)⟩
 ·refine ⟨some ⟨g,0,none⟩,cap,rfl,hnc,by omega,hr,fun k hk => ⟨g,0,rfl,?_⟩⟩
  have e:∀ j,j < 2 → cur[k * 2 + j]? = (shaC l[k])[j]?:=fun j hj => by
   have e2:(cur.toList.take (l.length * 2))[k * 2 + j]? = (shaC l[k])[j]?:=by rw [hcur,sflat_at l k j hk hj]
   rw [List.getElem?_take,if_pos (by omega)] at e2
   rw [← Array.getElem?_toList]; exact e2
  rw [Nat.zero_add]
  exact ⟨row_cell hg (e 0 (by omega)),row_cell hg (e 1 (by omega))⟩
theorem infoS:(Tryz.prog.info? 68).map (fun i => (i.zero.map (·.cells.size),i.size,i.bytes)) = some (some 2,2,16):=by kernel_rfl
theorem app_share {ops:Array Oper} {rest:List Oper} {o:Oper} {a:Act} {Q:Exit → Act → World → Prop} {W:World} (hgd:o.guard = none) (s x:Operand) (ho:o.op = .call { callee:=.builtin .append,args:=#[s,x],argTypes:=#[87,87] })
  (base:Nat) (v:Value) (l:List (Int × Int)) (n:Nat) (hs:a.eval s = v) (hown:W.ownsRow base 68 2 v n (l.flatMap shaC)) (b off c:Nat) (z:Int × Int) (hx:a.eval x = .slice (some ⟨b,off,none⟩) 1 c) (h0:W.cell? ⟨b,off,none⟩ = some (.int .i64 z.1)) (h1:W.cell? ⟨b,off + 1,none⟩ = some (.int .i64 z.2)) (hn:n ≤ 1000000) (hbase:base ≤ W.heap.size)
  (h:∀ g cap w',w'.ownsRow base 68 2 (.slice (some ⟨g,0,none⟩) (n + 1) cap) (n + 1) ((l ++ [z]).flatMap shaC) → Onto W v w' (.slice (some ⟨g,0,none⟩) (n + 1) cap) → wpList Tryz.prog ops Q rest (a.put o.dst (.slice (some ⟨g,0,none⟩) (n + 1) cap)) w'):wpList Tryz.prog ops Q (o :: rest) a W:=by
 obtain ⟨i,hi,hzz⟩:=Option.map_eq_some_iff.1 infoS
 simp only [Prod.mk.injEq] at hzz
 obtain ⟨hz,hs1,hb⟩:=hzz
 obtain ⟨zv,hzv,hzs⟩:=Option.map_eq_some_iff.1 hz
 refine wpList_append_lies _ hgd s x 87 ho base 68 i zv 2 16 Tryz.underlying87 hi hzv hs1 hb hzs (by decide) v n (l.flatMap shaC) hs hown ⟨b,off,none⟩ 1 c (shaC z) hx rfl ?_ ?_ (by decide) ?_ ?_ hbase W.heap.size rfl ?_
 ·intro j u hu
  rw [add_off]
  match j with
  | 0 => simp [shaC] at hu; rw [← hu]; exact h0
  | 1 => simp [shaC] at hu; rw [← hu]; exact h1
  | n + 2 => simp [shaC] at hu
 ·intro u hu
  simp only [shaC,List.mem_cons,List.not_mem_nil,or_false] at hu
  rcases hu with rfl | rfl <;> rfl
 ·unfold maxLen; omega
 ·omega
 ·intro g cap w' h1 h2 h3 _
  refine h g cap w' (by rw [sflat_snoc]; exact h1) ⟨h2,?_⟩
  rcases h3 with h3 | h3
  ·exact .inl (h3 ▸ rfl)
  ·exact .inr ⟨g,rfl,by omega⟩
theorem app_ints_any {ops:Array Oper} {rest:List Oper} {o:Oper} {a:Act} {Q:Exit → Act → World → Prop} {W:World} (hgd:o.guard = none) (s x:Operand) (ho:o.op = .call { callee:=.builtin .append,args:=#[s,x],argTypes:=#[23,23] })
  (base g n cap:Nat) (xs:List Value) (hs:a.eval s = .slice (some ⟨g,0,none⟩) n cap) (hown:W.ownsRow base 3 1 (.slice (some ⟨g,0,none⟩) n cap) n xs) (u:Value) (zs:List Int) (hx:a.eval x = u) (hI:Ints W u zs) (hn:n + zs.length ≤ 17592186044416) (hcap:n ≤ cap) (hbase:base ≤ W.heap.size)
  (h:∀ v' w',w'.ownsRow base 3 1 v' (n + zs.length) (xs ++ zs.map (Value.int .i64)) → Below base W w' → wpList Tryz.prog ops Q rest (a.put o.dst v') w'):wpList Tryz.prog ops Q (o :: rest) a W:=by
 obtain ⟨ad,c,rfl,hc,hl,hr,hk⟩:=hI
 cases ad with
 | none =>
  have h0:zs = []:=by
   cases zs with
   | nil => rfl
   | cons z l => obtain ⟨b,off,e,-⟩:=hk 0 (by simp); cases e
  subst h0
  obtain ⟨i0,hi0,hz0,hz1,hz2⟩:=info_parts infoInt
  have hsrc:Src Tryz.prog i0.size 23 (.slice none 0 c) 0 [] W:=Src.ofNil W Tryz.underlying23 c
  have hrun:=run_append_room_src (P:=Tryz.prog) W 23 23 o.type 3 i0 Tryz.underlying23 hi0 g 0 n cap (.slice none 0 c) 0 [] hsrc (by omega) (fun j hj => absurd hj (Nat.not_lt_zero _)) (fun j hj => absurd hj (Nat.not_lt_zero _))
  refine wpList_app_run hgd s x 23 ho _ _ _ hs hx hrun ?_
  refine h _ _ ?_ ?_
  ·simpa [World.setCells] using hown
  ·simpa [World.setCells] using Below.refl base W
 | some ad =>
  refine app_ints hgd s x ho base n _ xs hs hown ad c zs hx ?_ hn hbase ?_
  ·intro j hj
   obtain ⟨b,off,e,hcell⟩:=hk j hj
   injection e with e
   subst e
   rw [add_off]; exact hcell
  ·intro v' w' h1 h2
   exact h v' w' h1 (own_below hown h2 hbase)
theorem Ints.own {w:World} {base n:Nat} {v:Value} {zs:List Int} (h:w.ownsRow base 3 1 v n (zs.map (Value.int .i64))) (hr:∀ z ∈ zs,R64 z) (hl:zs.length ≤ 17592186044416):Ints w v zs:=by
 obtain ⟨hn,h⟩:=h
 rw [List.length_map,Nat.mul_one] at hn
 rcases h with ⟨rfl,rfl⟩ | ⟨g,cap,cur,rfl,-,hg,hnc,-,hcs,hcur⟩
 ·exact ⟨none,0,by rw [hn],by omega,hl,hr,fun k hk => absurd hk (by omega)⟩
 ·subst hn
  refine ⟨some ⟨g,0,none⟩,cap,rfl,hnc,hl,hr,fun k hk => ⟨g,0,rfl,?_⟩⟩
  rw [Nat.zero_add]
  have e:cur.toList[k]? = some (Value.int .i64 zs[k]):=by
   have e2:(cur.toList.take (zs.length * 1))[k]? = some (Value.int .i64 zs[k]):=by rw [hcur,List.getElem?_map,List.getElem?_eq_getElem hk]; rfl
   rwa [List.getElem?_take,if_pos (by omega)] at e2
  exact row_cell hg (by rw [← Array.getElem?_toList]; exact e)
end Go.Proofs.YtggnipkfliompaaGreatDoor
namespace Go.Proofs.YtggnipkfliompaaGreatDoor
def rotr (x n:Nat):Nat:=x * 2 ^ (32 - n) % 4294967296 ||| x / 2 ^ n
theorem or_lt32 {a b:Nat} (ha:a < 4294967296) (hb:b < 4294967296):a ||| b < 4294967296:=Nat.or_lt_two_pow (n:=32) ha hb
theorem xor_lt32 {a b:Nat} (ha:a < 4294967296) (hb:b < 4294967296):a ^^^ b < 4294967296:=Nat.xor_lt_two_pow (n:=32) ha hb
theorem and_lt32 {a b:Nat} (ha:a < 4294967296):a &&& b < 4294967296:=Nat.lt_of_le_of_lt Nat.and_le_left ha
theorem rotr_lt {x n:Nat} (hx:x < 4294967296):rotr x n < 4294967296:=
 or_lt32 (Nat.mod_lt _ (by decide)) (Nat.lt_of_le_of_lt (Nat.div_le_self _ _) hx)
def rot3 (x a b c:Nat):Nat:=(rotr x a ^^^ rotr x b) ^^^ rotr x c
def mix (x a b c:Nat):Nat:=(rotr x a ^^^ rotr x b) ^^^ (x / 2 ^ c)
def add32 (a b:Nat):Nat:=(a + b) % 4294967296
theorem add32_lt (a b:Nat):add32 a b < 4294967296:=Nat.mod_lt _ (by decide)
def wd (a b c d:Nat):Nat:=((a * 256 + b) * 256 + c) * 256 + d
theorem wd_lt {a b c d:Nat} (ha:a < 256) (hb:b < 256) (hc:c < 256) (hd:d < 256):wd a b c d < 4294967296:=by unfold wd; omega
def schd (f:Nat → Nat) (t:Nat):Nat:=
 if h:t < 16 then wd (f (4 * t)) (f (4 * t + 1)) (f (4 * t + 2)) (f (4 * t + 3))
 else add32 (add32 (add32 (schd f (t - 16)) (mix (schd f (t - 15)) 7 18 3)) (schd f (t - 7))) (mix (schd f (t - 2)) 17 19 10)
termination_by t
theorem schd_small (f:Nat → Nat) {t:Nat} (h:t < 16):schd f t = wd (f (4 * t)) (f (4 * t + 1)) (f (4 * t + 2)) (f (4 * t + 3)):=by
 rw [schd,dif_pos h]
theorem schd_great (f:Nat → Nat) {t:Nat} (h:16 ≤ t):schd f t = add32 (add32 (add32 (schd f (t - 16)) (mix (schd f (t - 15)) 7 18 3)) (schd f (t - 7))) (mix (schd f (t - 2)) 17 19 10):=by
 rw [schd,dif_neg (by omega)]
theorem schd_lt {f:Nat → Nat} (hf:∀ k,f k < 256) (t:Nat):schd f t < 4294967296:=by
 by_cases h:t < 16
 ·rw [schd_small f h]; exact wd_lt (hf _) (hf _) (hf _) (hf _)
 ·rw [schd_great f (by omega)]; exact add32_lt _ _
structure St where
 a:Nat
 b:Nat
 c:Nat
 d:Nat
 e:Nat
 f:Nat
 g:Nat
 h:Nat
def St.at (s:St):Nat → Nat
 | 0 => s.a
 | 1 => s.b
 | 2 => s.c
 | 3 => s.d
 | 4 => s.e
 | 5 => s.f
 | 6 => s.g
 | _ => s.h
structure St.Ok (s:St):Prop where
 a:s.a < 4294967296
 b:s.b < 4294967296
 c:s.c < 4294967296
 d:s.d < 4294967296
 e:s.e < 4294967296
 f:s.f < 4294967296
 g:s.g < 4294967296
 h:s.h < 4294967296
def chv (s:St):Nat:=s.g ^^^ (s.e &&& (s.f ^^^ s.g))
def mjv (s:St):Nat:=(s.a &&& s.b) ||| (s.c &&& (s.a ||| s.b))
def t1 (s:St) (k w:Nat):Nat:=add32 (add32 (add32 (add32 s.h (rot3 s.e 6 11 25)) (chv s)) k) w
def t2 (s:St):Nat:=add32 (rot3 s.a 2 13 22) (mjv s)
def St.next (s:St) (k w:Nat):St:=⟨add32 (t1 s k w) (t2 s),s.a,s.b,s.c,add32 s.d (t1 s k w),s.e,s.f,s.g⟩
theorem St.Ok.next {s:St} (h:s.Ok) (k w:Nat):(s.next k w).Ok:=⟨add32_lt _ _,h.a,h.b,h.c,add32_lt _ _,h.e,h.f,h.g⟩
def kNum:List Nat:=[1116352408,1899447441,3049323471,3921009573,961987163,1508970993,2453635748,2870763221,3624381080,310598401,607225278,1426881987,1925078388,2162078206,2614888103,3248222580,3835390401,4022224774,264347078,604807628,770255983,1249150122,1555081692,1996064986,2554220882,2821834349,2952996808,3210313671,3336571891,3584528711,113926993,338241895,666307205,773529912,1294757372,1396182291,1695183700,1986661051,2177026350,2456956037,2730485921,2820302411,3259730800,3345764771,3516065817,3600352804,4094571909,275423344,430227734,506948616,659060556,883997877,958139571,1322822218,1537002063,1747873779,1955562222,2024104815,2227730452,2361852424,2428436474,2756734187,3204031479,3329325298]
def kAt (t:Nat):Nat:=kNum.getD t 0
theorem kNum_all:∀ x ∈ kNum,x < 4294967296:=by decide
theorem kAt_lt (t:Nat):kAt t < 4294967296:=by
 unfold kAt
 rw [List.getD_eq_getElem?_getD]
 cases h:kNum[t]? with
 | none => decide
 | some x => exact kNum_all x (List.mem_of_getElem? h)
def St.rounds (s:St) (f:Nat → Nat):Nat → St
 | 0 => s
 | t + 1 => (s.rounds f t).next (kAt t) (schd f t)
theorem St.Ok.rounds {s:St} (h:s.Ok) (f:Nat → Nat):∀ t,(s.rounds f t).Ok
 | 0 => h
 | t + 1 => (h.rounds f t).next _ _
def St.plus (s v:St):St:=⟨add32 s.a v.a,add32 s.b v.b,add32 s.c v.c,add32 s.d v.d,add32 s.e v.e,add32 s.f v.f,add32 s.g v.g,add32 s.h v.h⟩
theorem St.plus_ok (s v:St):(s.plus v).Ok:=⟨add32_lt _ _,add32_lt _ _,add32_lt _ _,add32_lt _ _,add32_lt _ _,add32_lt _ _,add32_lt _ _,add32_lt _ _⟩
def St.absorb (s:St) (f:Nat → Nat):St:=s.plus (s.rounds f 64)
theorem St.absorb_ok (s:St) (f:Nat → Nat):(s.absorb f).Ok:=St.plus_ok _ _
def st0:St:=⟨1779033703,3144134277,1013904242,2773480762,1359893119,2600822924,528734635,1541459225⟩
theorem st0_ok:st0.Ok:=⟨by decide,by decide,by decide,by decide,by decide,by decide,by decide,by decide⟩
def be8 (n:Nat):List Nat:=[n / 72057594037927936 % 256,n / 281474976710656 % 256,n / 1099511627776 % 256,n / 4294967296 % 256,n / 16777216 % 256,n / 65536 % 256,n / 256 % 256,n % 256]
def be4 (n:Nat):List Nat:=[n / 16777216 % 256,n / 65536 % 256,n / 256 % 256,n % 256]
def zeros (n:Nat):List Nat:=List.replicate n 0
def padN (n:Nat):Nat:=(119 - n % 64) % 64
def padded (b:List Nat):List Nat:=b ++ (128 :: (zeros (padN b.length) ++ be8 (b.length * 8)))
theorem padded_len (b:List Nat):(padded b).length % 64 = 0:=by
 unfold padded zeros be8
 rw [List.length_append,List.length_cons,List.length_append,List.length_replicate]
 simp only [List.length_cons,List.length_nil]
 unfold padN; omega
def blk (p:List Nat) (i:Nat):Nat → Nat:=fun k => p.getD (64 * i + k) 0 % 256
def St.blocks (s:St) (p:List Nat):Nat → St
 | 0 => s
 | i + 1 => (s.blocks p i).absorb (blk p i)
theorem St.Ok.blocks {s:St} (h:s.Ok) (p:List Nat):∀ i,(s.blocks p i).Ok
 | 0 => h
 | _ + 1 => St.absorb_ok _ _
def St.bytes (s:St):List Nat:=be4 s.a ++ be4 s.b ++ be4 s.c ++ be4 s.d ++ be4 s.e ++ be4 s.f ++ be4 s.g ++ be4 s.h
def sha (b:List Nat):List Nat:=(st0.blocks (padded b) ((padded b).length / 64)).bytes
theorem sha_len (b:List Nat):(sha b).length = 32:=rfl
theorem be4_all (n:Nat):∀ x ∈ be4 n,x < 256:=by
 intro x hx
 unfold be4 at hx
 simp only [List.mem_cons,List.not_mem_nil,or_false] at hx
 rcases hx with rfl | rfl | rfl | rfl <;> exact Nat.mod_lt _ (by decide)
theorem sha_all (b:List Nat):∀ x ∈ sha b,x < 256:=by
 intro x hx
 unfold sha St.bytes at hx
 simp only [List.mem_append] at hx
 rcases hx with ((((((h | h) | h) | h) | h) | h) | h) | h <;> exact be4_all _ x h
def shaTag (t b:List Nat):List Nat:=sha (sha t ++ b)
end Go.Proofs.YtggnipkfliompaaGreatDoor
namespace Go.Proofs.YtggnipkfliompaaGreatDoor
open Go.RowKit
theorem rot_or (x n s:Nat) (hx:x < 4294967296) (h:n + s = 32):bits .or .u32 ((x:Int) * 2 ^ s % 4294967296) ((x:Int) / 2 ^ (32 - s)) = ((rotr x n:Nat):Int):=by
 have e1:(x:Int) * 2 ^ s % 4294967296 = ((x * 2 ^ s % 4294967296:Nat):Int):=by rw [Int.natCast_emod,Int.natCast_mul,Int.natCast_pow]; rfl
 have e2:(x:Int) / 2 ^ (32 - s) = ((x / 2 ^ (32 - s):Nat):Int):=by rw [Int.natCast_ediv,Int.natCast_pow]; rfl
 rw [e1,e2,u32_or_nat _ _ (Nat.mod_lt _ (by decide)) (Nat.lt_of_le_of_lt (Nat.div_le_self _ _) hx)]
 obtain rfl:n = 32 - s:=by omega
 unfold rotr
 rw [show 32 - (32 - s) = s by omega]
theorem rot_any (x n:Nat) (m:Int) (hm:m = -(n:Int)) (w:World) (hx:x < 4294967296) (hn:n = 2 ∨ n = 6 ∨ n = 7 ∨ n = 11 ∨ n = 13 ∨ n = 17 ∨ n = 18 ∨ n = 19 ∨ n = 22 ∨ n = 25) :
  Calls Tryz.prog 237 #[.int .u32 x,.int .i64 m] w fun e w' => e = .returned (.int .u32 (rotr x n)) ∧ w = w':=by
 have key:∀ (s:Nat) (hs:n + s = 32) (hn1:1 ≤ n) (hs1:1 ≤ s),bits .and .u64 (IntKind.u64.wrap m) 31 = (s:Int):=by
  intro s hs _ _
  have h1:IntKind.u64.wrap m = ((18446744073709551616 - n:Nat):Int):=by
   rw [IntKind.wrap_u64]; omega
  rw [h1,show (31:Int) = ((31:Nat):Int) from rfl,u64_and_nat _ _ (by omega) (by omega),nat_mask5]
  omega
 obtain ⟨s,hs⟩:∃ s,n + s = 32:=⟨32 - n,by omega⟩
 have hb:=key s hs (by omega) (by omega)
 have s1:1 ≤ s:=by omega
 have s2:s < 32:=by omega
 clear key hm hn
 go_enter Tryz.func237,Tryz.ntmps237
 go_wp2_with fail
 go_ret
 exact ⟨ret_int (rot_or x n s hx hs),rfl⟩
theorem rotated_any (x a b c:Nat) (ia ib ic:Int) (ea:ia = a) (eb:ib = b) (ec:ic = c) (w:World) (hx:x < 4294967296) (h:(a = 6 ∧ b = 11 ∧ c = 25) ∨ (a = 2 ∧ b = 13 ∧ c = 22)) :
  Calls Tryz.prog 238 #[.int .u32 x,.int .i64 ia,.int .i64 ib,.int .i64 ic] w fun e w' => e = .returned (.int .u32 (rot3 x a b c)) ∧ w = w':=by
 subst ea
 subst eb
 subst ec
 have l1:=rotr_lt (n:=a) hx
 have l2:=rotr_lt (n:=b) hx
 have l3:=rotr_lt (n:=c) hx
 have H:=Lib.hid (show bits .xor .u32 (bits .xor .u32 (rotr x a) (rotr x b)) (rotr x c) = ((rot3 x a b c:Nat):Int) by
  rw [u32_xor_nat _ _ l1 l2,u32_xor_nat _ _ (xor_lt32 l1 l2) l3]; rfl)
 have ha:a = 2 ∨ a = 6 ∨ a = 7 ∨ a = 11 ∨ a = 13 ∨ a = 17 ∨ a = 18 ∨ a = 19 ∨ a = 22 ∨ a = 25:=by omega
 have hb:b = 2 ∨ b = 6 ∨ b = 7 ∨ b = 11 ∨ b = 13 ∨ b = 17 ∨ b = 18 ∨ b = 19 ∨ b = 22 ∨ b = 25:=by omega
 have hc:c = 2 ∨ c = 6 ∨ c = 7 ∨ c = 11 ∨ c = 13 ∨ c = 17 ∨ c = 18 ∨ c = 19 ∨ c = 22 ∨ c = 25:=by omega
 have a9:a ≤ 40:=by omega
 have b9:b ≤ 40:=by omega
 have c9:c ≤ 40:=by omega
 clear h
 have ha:=Lib.hid ha
 have hb:=Lib.hid hb
 have hc:=Lib.hid hc
 go_enter Tryz.func238,Tryz.ntmps238
 go_wp2_with fail
 with_reducible refine (rot_any x a _ rfl _ hx ha.out).mono ?_
 rintro e w1 ⟨rfl,rfl⟩
 go_wp2_with fail
 with_reducible refine (rot_any x b _ rfl _ hx hb.out).mono ?_
 rintro e w1 ⟨rfl,rfl⟩
 go_wp2_with fail
 with_reducible refine (rot_any x c _ rfl _ hx hc.out).mono ?_
 rintro e w1 ⟨rfl,rfl⟩
 go_wp2_with fail
 go_ret
 exact ⟨ret_int H.out,rfl⟩
def Byts (w:World) (v:Value) (bs:List Nat):Prop:=
 ∃ a cap,v = .slice a bs.length cap ∧ bs.length ≤ cap ∧ bs.length ≤ 17592186044416 ∧ (∀ x ∈ bs,x < 256) ∧
  ∀ k (h:k < bs.length),∃ b off,a = some ⟨b,off,none⟩ ∧ w.cell? ⟨b,off + k,none⟩ = some (.int .u8 (bs[k]:Nat))
theorem u32_join8' (n c:Nat) (hn:n < 16777216) (hc:c < 256):bits .or .u32 ((n:Int) * 256) (c:Int) = ((n * 256 + c:Nat):Int):=by
 have e1:(n:Int) * 256 = ((n * 256:Nat):Int):=by omega
 rw [e1,u32_or_nat _ _ (by omega) (by omega),nat_join 8 (n * 256) c (by omega) hc]
theorem u32_joinI (n:Int) (c:Nat) (h0:0 ≤ n) (hn:n < 16777216) (hc:c < 256):bits .or .u32 (n * 256) (c:Int) = n * 256 + (c:Int):=by
 obtain ⟨m,rfl⟩:=Int.eq_ofNat_of_zero_le h0
 exact (u32_join8' m c (by omega) hc).trans (by omega)
theorem val_u32 {a b:Int} (h:a = b):Value.int .u32 a = .int .u32 b:=by rw [h]
theorem word_any (a:Addr) (b off n cap:Nat) (ha:a = ⟨b,off,none⟩) (hn:4 ≤ n) (hcap:n ≤ cap) (f:Nat → Nat) (hf:∀ k,f k < 256) (w:World)
  (hc:∀ k,k < 4 → w.cell? ⟨b,off + k,none⟩ = some (.int .u8 (f k:Nat))) :
  Calls Tryz.prog 236 #[.slice (some a) n cap] w fun e w' => e = .returned (.int .u32 (wd (f 0) (f 1) (f 2) (f 3):Nat)) ∧ w = w':=by
 subst ha
 have f0:=hf 0
 have f1:=hf 1
 have f2:=hf 2
 have f3:=hf 3
 have c0:=hc 0 (by omega)
 have c1:=hc 1 (by omega)
 have c2:=hc 2 (by omega)
 have c3:=hc 3 (by omega)
 clear hc hf
 rw [Nat.add_zero] at c0
 go_enter Tryz.func236,Tryz.ntmps236
 go_wp2_with fail
 go_loop [2,8] (fun x i => (i = .int .i64 0 ∧ x = .int .u32 0) ∨ (i = .int .i64 1 ∧ x = .int .u32 (f 0)) ∨ (i = .int .i64 2 ∧ x = .int .u32 (f 0 * 256 + f 1:Nat)) ∨ (i = .int .i64 3 ∧ x = .int .u32 ((f 0 * 256 + f 1) * 256 + f 2:Nat)) ∨ (i = .int .i64 4 ∧ x = .int .u32 (wd (f 0) (f 1) (f 2) (f 3):Nat))) (fun _ i => 4 - (intOf i).toNat)
 case atStart => exact .inl ⟨rfl,rfl⟩
 case round =>
  rcases hrel with ⟨rfl,rfl⟩ | ⟨rfl,rfl⟩ | ⟨rfl,rfl⟩ | ⟨rfl,rfl⟩ | ⟨rfl,rfl⟩
  ·go_wp2_with fail
   go_round
   case rel => exact .inr (.inl ⟨rfl,by rw [show (0:Int) = ((0:Nat):Int) from rfl,u32_or_nat _ _ (by omega) (by omega),Nat.zero_or]⟩)
   case measure => simp [intOf]
  ·go_wp2_with fail
   go_round
   case rel => exact .inr (.inr (.inl ⟨rfl,val_u32 (by rw [u32_joinI _ _ (by omega) (by omega) f1]; omega)⟩))
   case measure => simp [intOf]
  ·go_wp2_with fail
   go_round
   case rel => exact .inr (.inr (.inr (.inl ⟨rfl,val_u32 (by rw [u32_joinI _ _ (by omega) (by omega) f2]; omega)⟩)))
   case measure => simp [intOf]
  ·go_wp2_with fail
   go_round
   case rel => exact .inr (.inr (.inr (.inr ⟨rfl,val_u32 (by rw [u32_joinI _ _ (by omega) (by omega) f3]; unfold wd; omega)⟩)))
   case measure => simp [intOf]
  ·go_wp2_with fail
   go_ret
   exact ⟨rfl,rfl⟩
end Go.Proofs.YtggnipkfliompaaGreatDoor
namespace Go.Proofs.YtggnipkfliompaaGreatDoor
open Go.RowKit
theorem cell_other {W:World} {b o b' o':Nat} {u:Value} (h:b ≠ b' ∨ o ≠ o'):(W.setCell ⟨b,o,none⟩ u).cell? ⟨b',o',none⟩ = W.cell? ⟨b',o',none⟩:=by
 have hne:(⟨b,o,none⟩:Addr) ≠ ⟨b',o',none⟩:=by
  intro e
  have e1:b = b':=congrArg Addr.block e
  have e2:o = o':=congrArg Addr.off e
  rcases h with h | h
  ·exact h e1
  ·exact h e2
 simp [World.cell?_setCell_other,hne]
def putN (w:World) (b off L n:Nat):Nat → World
 | 0 => w
 | j + 1 => (putN w b off L n j).setCell ⟨b,off + (L - 1 - j),none⟩ (.int .u8 ((n / 2 ^ (8 * j) % 256:Nat):Int))
structure Room (w:World) (b off L:Nat):Prop where
 cell:∀ k,k < L → ∃ v,w.cell? ⟨b,off + k,none⟩ = some v
 free:∀ k,k < L → w.frozen? ⟨b,off + k,none⟩ = false
theorem putN_frozen (w:World) (b off L n:Nat) (a:Addr):∀ j,(putN w b off L n j).frozen? a = w.frozen? a
 | 0 => rfl
 | j + 1 => by rw [putN,World.frozen?_setCell]; exact putN_frozen w b off L n a j
theorem putN_other (w:World) (b off L n:Nat) {b' o:Nat} (h:b' ≠ b ∨ o < off ∨ off + L ≤ o):∀ j,j ≤ L → (putN w b off L n j).cell? ⟨b',o,none⟩ = w.cell? ⟨b',o,none⟩
 | 0,_ => rfl
 | j + 1,hj => by
  rw [putN,cell_other]
  ·exact putN_other w b off L n h j (by omega)
  ·rcases h with h | h | h
   ·exact .inl (fun e => h e.symm)
   ·exact .inr (by omega)
   ·exact .inr (by omega)
theorem putN_old {w:World} {b off L n:Nat} {k:Nat}:∀ j,j ≤ L → k < L - j → (putN w b off L n j).cell? ⟨b,off + k,none⟩ = w.cell? ⟨b,off + k,none⟩
 | 0,_,_ => rfl
 | j + 1,_,hk => by
  rw [putN,cell_other (.inr (by omega))]
  exact putN_old j (by omega) (by omega)
theorem putN_new {w:World} {b off L n:Nat} (hR:Room w b off L) {k:Nat} (hk:k < L):∀ j,j ≤ L → L - j ≤ k → (putN w b off L n j).cell? ⟨b,off + k,none⟩ = some (.int .u8 ((n / 2 ^ (8 * (L - 1 - k)) % 256:Nat):Int))
 | 0,_,h => by omega
 | j + 1,hj,h => by
  rw [putN]
  by_cases e:k = L - 1 - j
  ·subst e
   rw [show L - 1 - (L - 1 - j) = j by omega]
   obtain ⟨v,hv⟩:=hR.cell (L - 1 - j) hk
   exact World.cell?_setCell_same' _ _ _ (by rw [putN_old j (by omega) (by omega),hv]; rfl)
  ·rw [cell_other (.inr (by omega))]
   exact putN_new hR hk j (by omega) (by omega)
theorem putN_below {w0 w:World} {b off L n B:Nat} (h:Below B w0 w) (hb:B ≤ b):∀ j,Below B w0 (putN w b off L n j)
 | 0 => h
 | j + 1 => by rw [putN]; exact (putN_below h hb j).setCell hb _
theorem u64_shr_byte (n j:Nat):IntKind.u8.wrap ((n:Int) / 2 ^ (8 * j)) = ((n / 2 ^ (8 * j) % 256:Nat):Int):=by
 rw [IntKind.wrap_u8',Int.natCast_emod,Int.natCast_ediv,Int.natCast_pow]; rfl
theorem put_any (b off L cap n:Nat) (w:World) (hL:L ≤ 8) (hcap:L ≤ cap) (_hn:n < 18446744073709551616) (hR:Room w b off L) :
  Calls Tryz.prog 218 #[.slice (some ⟨b,off,none⟩) L cap,.int .u64 n] w fun e w' => e = .returned (.tuple #[]) ∧ w' = putN w b off L n L:=by
 go_enter Tryz.func218,Tryz.ntmps218
 go_wp2_with fail
 go_loopw [7] (fun i W => ∃ j:Nat,j ≤ L ∧ i = .int .i64 j ∧ W = putN w b off L n j) (fun i _ => L - (intOf i).toNat)
 case atStart => exact ⟨0,Nat.zero_le _,rfl,rfl⟩
 case round =>
  obtain ⟨j,hj,rfl,hW⟩:=hrel
  by_cases hlt:j < L
  ·obtain ⟨v,hv⟩:=hR.cell (L - 1 - j) (by omega)
   have hcl:wr.cell? ⟨b,off + (L - 1 - j),none⟩ = some v:=by rw [hW,putN_old j hj (by omega)]; exact hv
   have hfr:wr.frozen? ⟨b,off + (L - 1 - j),none⟩ = false:=by rw [hW,putN_frozen]; exact hR.free _ (by omega)
   have HW:=Lib.hid hW
   clear hW
   have hlL:decide (j < L) = true:=decide_eq_true hlt
   have e1:((L:Int) - 1 - (j:Int)).toNat = L - 1 - j:=by omega
   have e2:0 ≤ (L:Int) - 1 - (j:Int):=by omega
   have e3:(L:Int) - 1 - (j:Int) < L:=by omega
   go_wp2_with fail
   go_roundw
   case rel => exact ⟨j + 1,by omega,by go_num,by rw [putN,← u64_shr_byte n j,IntKind.wrap_u8',HW.out]⟩
   case measure => simp [intOf]; omega
  ·obtain rfl:j = L:=by omega
   have HW:=Lib.hid hW
   clear hW
   go_wp2_with fail
   go_end0
   exact ⟨rfl,HW.out⟩
end Go.Proofs.YtggnipkfliompaaGreatDoor
