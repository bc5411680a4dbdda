/- Package group: squares, least and Pow; and the reference's Pow and Mul. Package group: Pow of what is no element, Mul; and the reference's Pow and Mul. Package group: Hash. Package equal: powers, products and challenges. The generator of the group, and what a proof of equality commits to. -/
import Derived.Test.YtggnipkfliompaaGreatDoorMGroup
import Derived.Test.YtggnipkfliompaaGreatDoorMCodD
import Derived.Test.YtggnipkfliompaaGreatDoorMFp
import Derived.Shelf.Abstract
import Derived.OwnWalkIn
import Derived.TacticsInMore
import Derived.LoopNIn
import Derived.LoopIn
set_option maxHeartbeats 2000000
set_option maxRecDepth 100000
namespace Go.Proofs.YtggnipkfliompaaGreatDoor
open Go.RowKit FP
attribute [local go_sem] Oper.semAt_some
def sqN (a:Int):Nat → Int
 | 0 => a
 | j + 1 => sqN a j * sqN a j % 2147483579
def kN (n:Nat):Nat → Nat
 | 0 => n
 | j + 1 => kN n j / 2
def cN (a:Int) (n:Nat):Nat → Int
 | 0 => 1
 | j + 1 => if kN n j % 2 = 1 then cN a n j * sqN a j % 2147483579 else cN a n j
def blen (n:Nat):Nat:=if h:n = 0 then 0 else blen (n / 2) + 1
theorem kN_shift (n:Nat):∀ j,kN n (j + 1) = kN (n / 2) j
 | 0 => rfl
 | j + 1 => by rw [kN,kN_shift n j]; rfl
theorem kN_pos:∀ (j n:Nat),j < blen n → 0 < kN n j
 | 0,n,h => by
  rw [blen] at h
  by_cases e:n = 0
  ·rw [dif_pos e] at h; omega
  ·show 0 < n; omega
 | j + 1,n,h => by
  rw [blen] at h
  by_cases e:n = 0
  ·rw [dif_pos e] at h; omega
  ·rw [dif_neg e] at h
   rw [kN_shift]; exact kN_pos j (n / 2) (by omega)
theorem kN_end (n:Nat):kN n (blen n) = 0:=by
 induction n using Nat.strongRecOn with
 | ind n ih =>
  rw [blen]
  by_cases e:n = 0
  ·rw [dif_pos e]; exact e
  ·rw [dif_neg e,kN_shift]; exact ih (n / 2) (by omega)
theorem kN_le (n:Nat):∀ j,kN n j ≤ n
 | 0 => Nat.le_refl _
 | j + 1 => by have:=kN_le n j; rw [kN]; omega
theorem sqN_num {a:Int} (ha:0 ≤ a ∧ a < 2147483579):∀ j,0 ≤ sqN a j ∧ sqN a j < 2147483579
 | 0 => ha
 | j + 1 => by rw [sqN]; omega
theorem cN_num {a:Int} {n:Nat}:∀ j,0 ≤ cN a n j ∧ cN a n j < 2147483579
 | 0 => by rw [cN]; omega
 | j + 1 => by
  rw [cN]
  split
  ·omega
  ·exact cN_num j
theorem cN_inv (a:Int) (n:Nat):∀ j,(cN a n j * sqN a j ^ kN n j) % 2147483579 = powP a n
 | 0 => by rw [cN,sqN,kN,Int.one_mul]; rfl
 | j + 1 => by
  rw [cN,sqN,kN,← cN_inv a n j]
  rcases Nat.mod_two_eq_zero_or_one (kN n j) with h | h
  ·rw [if_neg (by omega),mp_even _ _ _ h]
  ·rw [if_pos h,mp_odd _ _ _ h]
theorem cN_end (a:Int) (n:Nat):cN a n (blen n) = powP a n:=by
 have h:=cN_inv a n (blen n)
 have h2:=cN_num (a:=a) (n:=n) (blen n)
 rw [kN_end,Int.pow_zero,Int.mul_one] at h; omega
theorem i64_and1 (k:Nat) (h:k < 9223372036854775808):bits .and .i64 (k:Int) 1 = ((k % 2:Nat):Int):=by
 show IntKind.i64.wrap ((BitVec.ofInt 64 (k:Int) &&& BitVec.ofInt 64 (1:Int)).toNat:Int) = _
 rw [BitVec.toNat_and,ofInt_u64 k (by omega),show (BitVec.ofInt 64 (1:Int)).toNat = 1 from rfl,nat_mask1,IntKind.wrap_i64]
 omega
structure SqI (ab nb:Nat) (a:Int) (n:Nat) (j:Nat) (W:World):Prop where
 ca:W.cell? ⟨ab,0,none⟩ = some (.int .i64 (sqN a j))
 cn:W.cell? ⟨nb,0,none⟩ = some (.int .i64 (kN n j))
 fa:W.frozen? ⟨ab,0,none⟩ = false
 fn:W.frozen? ⟨nb,0,none⟩ = false
def sqT (ab nb:Nat) (a:Int) (n:Nat) (j:Nat) (W:World):World:=(W.setCell ⟨ab,0,none⟩ (.int .i64 (sqN a (j + 1)))).setCell ⟨nb,0,none⟩ (.int .i64 (kN n (j + 1)))
theorem setc_other {W:World} {b o b' o':Nat} {u:Value} (h:b ≠ b' ∨ o ≠ o'):(W.setCell ⟨b,o,none⟩ u).cell? ⟨b',o',none⟩ = W.cell? ⟨b',o',none⟩:=by
 have hne:(⟨b,o,none⟩:Addr) ≠ ⟨b',o',none⟩:=by
  intro e
  have e1:b = b':=congrArg Addr.block e
  have e2:o = o':=congrArg Addr.off e
  rcases h with h | h
  ·exact h e1
  ·exact h e2
 simp [World.cell?_setCell_other,hne]
theorem sqT_next {ab nb:Nat} (hne:ab ≠ nb) {a:Int} {n j:Nat} {W:World} (h:SqI ab nb a n j W):SqI ab nb a n (j + 1) (sqT ab nb a n j W) where
 ca:=by
  unfold sqT
  rw [setc_other (.inl (fun e => hne e.symm))]
  exact World.cell?_setCell_same' _ _ _ (by rw [h.ca]; rfl)
 cn:=by
  unfold sqT
  exact World.cell?_setCell_same' _ _ _ (by rw [setc_other (.inl hne),h.cn]; rfl)
 fa:=by unfold sqT; rw [World.frozen?_setCell,World.frozen?_setCell]; exact h.fa
 fn:=by unfold sqT; rw [World.frozen?_setCell,World.frozen?_setCell]; exact h.fn
theorem sqT_others {ab nb:Nat} {a:Int} {n j:Nat} (W:World):KeepsOthers W (sqT ab nb a n j W):=by
 unfold sqT; exact (KeepsOthers.setCell _ _ _).trans (KeepsOthers.setCell _ _ _)
theorem squares1_iterates (ab nb:Nat) (hne:ab ≠ nb) (a:Int) (ha:0 ≤ a ∧ a < 2147483579) (n:Nat) (hn:n < 2147483579) (I M:Nat → World → Prop) (hI:∀ j W,I j W → SqI ab nb a n j W) (hM:∀ j W,M j W → SqI ab nb a n j W) :
  Iterates3 Tryz.prog 151 #[.pointer (some ⟨nb,0,none⟩),.pointer (some ⟨ab,0,none⟩)] (blen n) (fun j => #[.int .i64 (sqN a j),.bool (decide (kN n j % 2 = 1))]) I M (sqT ab nb a n):=by
 intro l J K Jx W hJ hK hT hY h0
 refine callsIn_of_wp Tryz.func151 rfl trivial ?_ rfl
 simp only [Tryz.ntmps151,List.size_toArray,List.length_cons,List.length_nil,Nat.reduceAdd,Nat.reduceSub,Array.replicate_succ,Array.replicate_zero,List.push_toArray,List.append_toArray,List.nil_append,List.cons_append]
 have hR0:=hJ 0 W h0
 gi_wp2
 gi_loopw [] (fun wr => ∃ j:Nat,j ≤ blen n ∧ J j wr) (fun wr => (intOf ((wr.cell? ⟨nb,0,none⟩).getD undef)).toNat)
 case atStart => exact ⟨0,Nat.zero_le _,h0⟩
 case round =>
  obtain ⟨j,hj,hJj⟩:=hrel
  obtain ⟨hca,hcn,hfa,hfn⟩:=hI j wr (hJ j wr hJj)
  have hk:=kN_le n j
  by_cases hlt:j < blen n
  ·have hp:=kN_pos j n hlt
   have hp2:decide ((kN n j:Int) > 0) = true:=by simp; omega
   have hb2:(bits .and .i64 (kN n j:Int) 1 == 1) = decide (kN n j % 2 = 1):=by
    rw [i64_and1 _ (by omega),Bool.eq_iff_iff,beq_iff_eq,decide_eq_true_eq]; omega
   have hs:=sqN_num ha j
   obtain ⟨s1,s2⟩:=hs
   obtain ⟨q1,q2⟩:=mp_prod (sqN_num ha j) (sqN_num ha j)
   obtain ⟨fn,tmps,assign,body,hy,hR⟩:=hY j wr hJj hlt
   gi_wp2
   refine ⟨rfl,hR.mono ?_⟩
   rintro e W3 (⟨rfl,hK3⟩ | ⟨rfl,hJx3⟩)
   ·obtain ⟨hca3,hcn3,hfa3,hfn3⟩:=hM j W3 (hK j W3 hK3)
    have hcn4:(W3.setCell ⟨ab,0,none⟩ (.int .i64 (sqN a j * sqN a j % 2147483579))).cell? ⟨nb,0,none⟩ = some (.int .i64 (kN n j)):=by
     rw [setc_other (.inl hne)]; exact hcn3
    have hnx:=Lib.hid (hT j W3 hK3)
    have hcnH:=Lib.hid hcn
    clear hy hcn hca hfa hfn
    gi_wp2
    go_roundw
    case rel => exact ⟨j + 1,by omega,hnx.out⟩
    case measure =>
     have e1:(sqT ab nb a n j W3).cell? ⟨nb,0,none⟩ = some (.int .i64 (kN n (j + 1))):=(sqT_next hne (hM j W3 (hK j W3 hK3))).cn
     show (intOf (((sqT ab nb a n j W3).cell? ⟨nb,0,none⟩).getD undef)).toNat < _
     rw [e1,hcnH.out]
     show (Int.toNat (kN n j / 2:Nat)) < Int.toNat (kN n j:Nat)
     omega
   ·clear hy
    gi_wp2
    refine bodyPost_ret (results_none rfl _ _ _) rfl ?_
    exact ⟨⟨_,rfl⟩,.inr ⟨j + 1,by omega,hJx3⟩⟩
  ·obtain rfl:j = blen n:=by omega
   rw [kN_end] at hcn
   gi_wp2
   go_end0
   exact ⟨⟨_,rfl⟩,.inl hJj⟩
theorem squares_any (a n:Int) (w:World) :
  Calls Tryz.prog 72 #[.int .i64 a,.int .i64 n] w fun e w' =>
   e = .returned (.func (.func 151) #[] #[.pointer (some ⟨w.heap.size + 1,0,none⟩),.pointer (some ⟨w.heap.size,0,none⟩)]) ∧ w' = (w.alloc (.cells #[.int .i64 a] 3)).alloc (.cells #[.int .i64 n] 3):=by
 have hmf:∀ (fn:Fn) (first cap:Array Value) (w:World),(Instr.makeFunc fn first cap).run Tryz.prog w = .ok (.func fn first cap) w:=fun _ _ _ _ => rfl
 go_enter Tryz.func72,Tryz.ntmps72
 go_wp2
 go_ret
 exact ⟨rfl,rfl⟩
theorem Ints.one (w:World) (a:Int) (t:TypeId) (ha:R64 a):Ints (w.alloc (.cells #[.int .i64 a] t)) (.slice (some ⟨w.heap.size,0,none⟩) 1 1) [a]:=by
 refine ⟨_,1,rfl,by simp,by simp,by simp [ha],fun k hk => ⟨_,_,rfl,?_⟩⟩
 rw [World.cell?_alloc_at _ _ _ _ rfl]
 have:k = 0:=by simp at hk; omega
 subst this; rfl
theorem qmod_lo (n:Int):-1073741789 < n.tmod 1073741789 ∧ n.tmod 1073741789 < 1073741789:=by
 by_cases h0:0 ≤ n
 ·rw [Int.tmod_eq_emod_of_nonneg h0]; omega
 ·have h1:n.tmod 1073741789 = -((-n) % 1073741789):=by
   have h1:n.tmod 1073741789 = (-(-n)).tmod 1073741789:=by rw [Int.neg_neg]
   rw [h1,Int.neg_tmod,Int.tmod_eq_emod_of_nonneg (by omega)]
  rw [h1]; omega
theorem qmod_add (n:Int):(n.tmod 1073741789 + 1073741789) % 1073741789 = n % 1073741789:=by
 by_cases h0:0 ≤ n
 ·rw [Int.tmod_eq_emod_of_nonneg h0]; omega
 ·have h1:n.tmod 1073741789 = -((-n) % 1073741789):=by
   have h1:n.tmod 1073741789 = (-(-n)).tmod 1073741789:=by rw [Int.neg_neg]
   rw [h1,Int.neg_tmod,Int.tmod_eq_emod_of_nonneg (by omega)]
  rw [h1]; omega
theorem least_one (v:Value) (n:Int) (w:World) (hI:Ints w v [n]) :
  Calls Tryz.prog 73 #[v] w fun e w' => e = .returned (.int .i64 (ex n:Nat)) ∧ w = w':=by
 obtain ⟨a,cap,rfl,hcap,hlen,hr,hk⟩:=hI
 obtain ⟨n1,n2⟩:R64 n:=hr n (by simp)
 obtain ⟨b,off,rfl,hc⟩:=hk 0 (by simp)
 have hq:=qmod_lo n
 have HE:=Lib.hid (show (n.tmod 1073741789 + 1073741789) % 1073741789 = ((ex n:Nat):Int) by rw [qmod_add,ex_cast])
 have hq1:0 ≤ n.tmod 1073741789 + 1073741789:=by omega
 have hc0:w.cell? ⟨b,off,none⟩ = some (.int .i64 n):=hc
 clear hk hr hc
 go_enter Tryz.func73,Tryz.ntmps73
 go_wp2
 go_loop [3,8] (fun x i => (i = .int .i64 0 ∧ x = .int .i64 1) ∨ (i = .int .i64 1 ∧ x = .int .i64 (ex n:Nat))) (fun _ i => 1 - (intOf i).toNat)
 case atStart => exact .inl ⟨rfl,rfl⟩
 case round =>
  rcases hrel with ⟨rfl,rfl⟩ | ⟨rfl,rfl⟩
  ·go_wp2
   go_round
   case rel => exact .inr ⟨by go_num,by rw [← HE.out]⟩
   case measure => simp [intOf]
  ·go_wp2
   go_ret
   exact ⟨rfl,rfl⟩
structure PowI (w:World) (c:Int) (ab nb:Nat) (a:Int) (n:Nat) (j:Nat) (W:World):Prop where
 sq:SqI ab nb a n j W
 cc:W.cell? ⟨w.heap.size,0,none⟩ = some (.int .i64 c)
 fc:W.frozen? ⟨w.heap.size,0,none⟩ = false
 be:Below w.heap.size w W
theorem sqI_sim {ab nb:Nat} {a:Int} {n j D:Nat} {W W':World} (h:SqI ab nb a n j W) (hs:Sim D W W'):SqI ab nb a n j W':=
 ⟨sim_cell hs h.ca,sim_cell hs h.cn,by rw [sim_frozen hs h.ca]; exact h.fa,by rw [sim_frozen hs h.cn]; exact h.fn⟩
theorem powI_sim {w:World} {c:Int} {ab nb:Nat} {a:Int} {n j D:Nat} {W W':World} (h:PowI w c ab nb a n j W) (hs:Sim D W W') (hD:w.heap.size ≤ D):PowI w c ab nb a n j W':=
 ⟨sqI_sim h.sq hs,sim_cell hs h.cc,by rw [sim_frozen hs h.cc]; exact h.fc,h.be.trans (sim_below (sim_mono hs hD))⟩
theorem Ints.one_at (w:World) (B:Nat) (hB:w.heap.size = B) (a:Int) (t:TypeId) (ha:R64 a):Ints (w.alloc (.cells #[.int .i64 a] t)) (.slice (some ⟨B,0,none⟩) 1 1) [a]:=by
 subst hB; exact Ints.one w a t ha
theorem box4 (w:World) (a b c d:Value) (ta tb tc td:TypeId):∃ W,W = ((((w.alloc (.cells #[a] ta)).alloc (.cells #[b] tb)).alloc (.cells #[c] tc)).alloc (.cells #[d] td)) ∧
  Below w.heap.size w W ∧ W.heap.size = w.heap.size + 1 + 1 + 1 + 1 ∧ W.cell? ⟨w.heap.size,0,none⟩ = some a ∧ W.cell? ⟨w.heap.size + 1 + 1,0,none⟩ = some c ∧ W.cell? ⟨w.heap.size + 1 + 1 + 1,0,none⟩ = some d ∧
  W.frozen? ⟨w.heap.size,0,none⟩ = false ∧ W.frozen? ⟨w.heap.size + 1 + 1,0,none⟩ = false ∧ W.frozen? ⟨w.heap.size + 1 + 1 + 1,0,none⟩ = false:=by
 refine ⟨_,rfl,((((Below.refl _ _).alloc (Nat.le_refl _) _).alloc (by simp) _).alloc (by simp; omega) _).alloc (by simp; omega) _,by simp,?_,?_,?_,?_,?_,?_⟩ <;> simp [go_sem]
theorem pow_yes (a n:Int) (w:World) (ha:El a) (hn:R64 n) :
  Calls Tryz.prog 21 #[.int .i64 a,.int .i64 n] w fun e w' => e = .returned (.tuple #[.int .i64 (powE a n),.int .i64 0]) ∧ Below w.heap.size w w':=by
 have hb:=Lib.hid (elB_iff.2 ha)
 have a1:=ha.lo
 have a2:=ha.hi
 have hr:R64 a:=⟨by omega,by omega⟩
 refine calls_of_range Tryz.func21 rfl ?_
 simp only [Tryz.ntmps21,List.size_toArray,List.length_cons,List.length_nil,Nat.reduceAdd,Nat.reduceSub,Array.replicate_succ,Array.replicate_zero,List.push_toArray,List.append_toArray,List.nil_append,List.cons_append]
 go_wp2_with fail
 with_reducible refine (valid_any _ _ hr).mono ?_
 rintro e w1 ⟨rfl,rfl⟩
 rw [hb.out]
 go_wp2_with fail
 with_reducible refine (least_one _ n _ (Ints.one_at _ _ (by simp) _ _ hn)).mono ?_
 rintro e w1 ⟨rfl,rfl⟩
 go_wp2_with fail
 with_reducible refine (squares_any _ _ _).mono ?_
 rintro e w4 ⟨rfl,hw4⟩
 obtain ⟨W,hW,hb4,hs4,q1,q2,q3,f1,f2,f3⟩:=box4 w (.int .i64 1) (.int .i64 n) (.int .i64 a) (.int .i64 (ex n:Nat)) 3 3 3 3
 obtain rfl:w4 = W:=hw4.trans hW.symm
 clear hw4 hW
 have hsn:=sqN_num (a:=a) ⟨by omega,a2⟩
 have hel:=ex_lt n
 go_wp2_with fail
 refine wp_range3 (gf:=151) (lb:=#[.pointer (some ⟨w.heap.size + 1 + 1 + 1,0,none⟩),.pointer (some ⟨w.heap.size + 1 + 1,0,none⟩)]) (N:=blen (ex n)) (encs:=fun j => #[.int .i64 (sqN a j),.bool (decide (kN (ex n) j % 2 = 1))]) rfl (goes_of Tryz.func151 (by kernel_rfl) rfl) (fun _ => rfl)
  (fun j => PowI w (cN a (ex n) j) (w.heap.size + 1 + 1) (w.heap.size + 1 + 1 + 1) a (ex n) j) (fun j => PowI w (cN a (ex n) (j + 1)) (w.heap.size + 1 + 1) (w.heap.size + 1 + 1 + 1) a (ex n) j) (sqT (w.heap.size + 1 + 1) (w.heap.size + 1 + 1 + 1) a (ex n)) (fun _ _ _ => False) ?seq ?simI (fun _ _ _ _ h _ => h) ?simM ?hT ⟨⟨q2,q3,f2,f3⟩,q1,f1,hb4⟩
  (fun j t => (((t.setIfInBounds 16 (.int .i64 (sqN a j))).setIfInBounds 17 (.bool (decide (kN (ex n) j % 2 = 1)))).setIfInBounds 6 (.int .i64 (sqN a j))).setIfInBounds 7 (.bool (decide (kN (ex n) j % 2 = 1)))) ?assign ?body ?done (fun _ _ _ _ _ _ h => h.elim)
 case seq => exact squares1_iterates _ _ (by omega) a ⟨by omega,a2⟩ (ex n) (by omega) _ _ (fun j W h => h.sq) (fun j W h => h.sq)
 case simI => exact fun j W W' h hs => powI_sim h hs hb4.size
 case simM => exact fun j W W' h hs => powI_sim h hs hb4.size
 case hT =>
  intro j W h
  refine ⟨⟨sqT_next (by omega) h.sq,?_,?_,?_⟩,sqT_others W⟩
  ·unfold sqT; rw [setc_other (.inl (by omega)),setc_other (.inl (by omega))]; exact h.cc
  ·unfold sqT; rw [World.frozen?_setCell,World.frozen?_setCell]; exact h.fc
  ·unfold sqT; exact (h.be.setCell (by simp; omega) _).setCell (by simp; omega) _
 case assign =>
  intro l j W K hK
  gi_wp2
  exact hK
 case body =>
  intro l j W hI hlt
  simp only [List.setIfInBounds_toArray,List.set_cons_succ,List.set_cons_zero]
  obtain ⟨hsq,hcc,hfc,hbe⟩:=hI
  obtain ⟨s1,s2⟩:=hsn j
  obtain ⟨c1,c2⟩:=cN_num (a:=a) (n:=ex n) j
  obtain ⟨q1',q2'⟩:=mp_prod ⟨c1,c2⟩ ⟨s1,s2⟩
  clear hlt
  by_cases hb2:kN (ex n) j % 2 = 1
  ·have HC:=Lib.hid (show cN a (ex n) (j + 1) = cN a (ex n) j * sqN a j % 2147483579 by rw [cN,if_pos hb2])
   have hbt:decide (kN (ex n) j % 2 = 1) = true:=decide_eq_true hb2
   clear hb2
   rw [hbt]
   gi_wp2
   refine ⟨KeepsOthers.setCell _ _ _,⟨⟨?_,?_,?_,?_⟩,?_,?_,?_⟩⟩
   ·rw [setc_other (.inl (by omega))]; exact hsq.ca
   ·rw [setc_other (.inl (by omega))]; exact hsq.cn
   ·rw [World.frozen?_setCell]; exact hsq.fa
   ·rw [World.frozen?_setCell]; exact hsq.fn
   ·rw [HC.out]; exact World.cell?_setCell_same' _ _ _ (by rw [hcc]; rfl)
   ·rw [World.frozen?_setCell]; exact hfc
   ·exact hbe.setCell (by simp) _
  ·have HC:=Lib.hid (show cN a (ex n) (j + 1) = cN a (ex n) j by rw [cN,if_neg hb2])
   have hbt:decide (kN (ex n) j % 2 = 1) = false:=decide_eq_false hb2
   clear hb2
   rw [hbt]
   gi_wp2
   exact ⟨KeepsOthers.refl _,⟨hsq,by rw [HC.out]; exact hcc,hfc,hbe⟩⟩
 case done =>
  intro D W hD hI hDW hO
  have hcc:=hI.cc
  rw [cN_end] at hcc
  have hfc:=hI.fc
  have hbe:=hI.be
  go_wp2_with fail
  refine leaves_marks3 (B:=w.heap.size) (v:=.tuple #[.int .i64 (powP a (ex n)),.int .i64 0]) (fun W => W.cell? ⟨w.heap.size,0,none⟩ = some (.int .i64 (powP a (ex n)))) ?_ ?_ ?_ _ _ ⟨⟨D,rfl,Nat.le_trans hb4.size hD,?_,fun _ h => by cases h⟩,trivial⟩ ?_ ⟨rfl,?_⟩
  ·intro W1 h1
   simp [results,Tryz.results21,go_sem,h1]
  ·exact fun W1 W2 h hs => sim_cell hs h
  ·rintro W1 W2 ⟨h1,h2⟩ hs
   exact ⟨h1,h2.trans (sim_below hs)⟩
  ·exact (KeepsOthers.setCell _ _ _).same _ _ hDW rfl
  ·exact World.cell?_setCell_same' _ _ _ (by rw [hcc]; rfl)
  ·exact hbe.setCell (by simp) _
end Go.Proofs.YtggnipkfliompaaGreatDoor
namespace Go.Proofs.YtggnipkfliompaaGreatDoor
open Go.RowKit FP
theorem El.r64 {a:Int} (h:El a):R64 a:=⟨by have:=h.lo; omega,by have:=h.hi; omega⟩
theorem el_prod {a b:Int} (ha:El a) (hb:El b):0 ≤ a * b ∧ a * b ≤ 4611685721957729241:=mp_prod ha.num hb.num
theorem mul_yes (a b:Int) (w:World) (ha:El a) (hb:El b) :
  Calls Tryz.prog 40 #[.int .i64 a,.int .i64 b] w fun e w' => e = .returned (.tuple #[.int .i64 (a * b % 2147483579),.int .i64 0]) ∧ w = w':=by
 have h1:=Lib.hid (elB_iff.2 ha)
 have h2:=Lib.hid (elB_iff.2 hb)
 obtain ⟨q1,q2⟩:=el_prod ha hb
 have r1:=ha.r64
 have r2:=hb.r64
 clear ha hb
 go_enter Tryz.func40,Tryz.ntmps40
 go_wp2_with fail
 with_reducible refine (valid_any _ _ r1).mono ?_
 rintro e w1 ⟨rfl,rfl⟩
 rw [h1.out]
 go_wp2_with fail
 with_reducible refine (valid_any _ _ r2).mono ?_
 rintro e w1 ⟨rfl,rfl⟩
 rw [h2.out]
 go_wp2_with fail
 go_ret2
 exact ⟨rfl,rfl⟩
theorem rmul_yes (a b:Int) (w:World) (ha:El a) (hb:El b) :
  Calls Tryz.prog 107 #[.int .i64 a,.int .i64 b] w fun e w' => e = .returned (.tuple #[.int .i64 (a * b % 2147483579),.int .i64 0]) ∧ w = w':=by
 have h1:=Lib.hid (elB_iff.2 ha)
 have h2:=Lib.hid (elB_iff.2 hb)
 obtain ⟨q1,q2⟩:=el_prod ha hb
 have r1:=ha.r64
 have r2:=hb.r64
 clear ha hb
 go_enter Tryz.func107,Tryz.ntmps107
 go_wp2_with fail
 with_reducible refine (rvalid_any _ _ r1).mono ?_
 rintro e w1 ⟨rfl,rfl⟩
 rw [h1.out]
 go_wp2_with fail
 with_reducible refine (rvalid_any _ _ r2).mono ?_
 rintro e w1 ⟨rfl,rfl⟩
 rw [h2.out]
 go_wp2_with fail
 go_ret2
 exact ⟨rfl,rfl⟩
theorem ex_tmod (n:Int):(if n.tmod 1073741789 < 0 then n.tmod 1073741789 + 1073741789 else n.tmod 1073741789) = (ex n:Nat):=by
 rw [ex_cast]
 by_cases h0:0 ≤ n
 ·rw [Int.tmod_eq_emod_of_nonneg h0,if_neg (by omega)]
 ·have h1:n.tmod 1073741789 = -((-n) % 1073741789):=by
   have h1:n.tmod 1073741789 = (-(-n)).tmod 1073741789:=by rw [Int.neg_neg]
   rw [h1,Int.neg_tmod,Int.tmod_eq_emod_of_nonneg (by omega)]
  rw [h1]; split <;> omega
theorem exponent_any (n:Int) (w:World) (hn:R64 n) :
  Calls Tryz.prog 175 #[.int .i64 n] w fun e w' => e = .returned (.int .i64 (ex n:Nat)) ∧ w = w':=by
 obtain ⟨h1,h2⟩:=hn
 have hm:=Lib.hid (ex_tmod n)
 obtain ⟨hl,hh⟩:=qmod_lo n
 by_cases hn:n.tmod 1073741789 < 0
 ·go_enter Tryz.func175,Tryz.ntmps175
  go_wp2
  go_ret
  exact ⟨ret_int (by rw [← hm.out,if_pos hn]),rfl⟩
 ·go_enter Tryz.func175,Tryz.ntmps175
  go_wp2
  go_ret
  exact ⟨ret_int (by rw [← hm.out,if_neg (Int.not_lt.2 hn)]),rfl⟩
theorem rpow_yes (a n:Int) (w:World) (ha:El a) (hn:R64 n) :
  Calls Tryz.prog 111 #[.int .i64 a,.int .i64 n] w fun e w' => e = .returned (.tuple #[.int .i64 (powE a n),.int .i64 0]) ∧ w = w':=by
 have h1:=Lib.hid (elB_iff.2 ha)
 have hx:=ex_lt n
 go_enter Tryz.func111,Tryz.ntmps111
 go_wp2_with fail
 with_reducible refine (rvalid_any _ _ ha.r64).mono ?_
 rintro e w1 ⟨rfl,rfl⟩
 rw [h1.out]
 go_wp2_with fail
 with_reducible refine (exponent_any _ _ hn).mono ?_
 rintro e w1 ⟨rfl,rfl⟩
 go_wp2_with fail
 with_reducible refine (rpower_any a (ex n) _ ha.num (by omega)).mono ?_
 rintro e w1 ⟨rfl,rfl⟩
 go_wp2_with fail
 go_ret2
 exact ⟨rfl,rfl⟩
end Go.Proofs.YtggnipkfliompaaGreatDoor
namespace Go.Proofs.YtggnipkfliompaaGreatDoor
open Go.RowKit
def dd (d:Nat → Nat) (k:Nat):Nat:=if k = 0 then d 0 % 128 else d k
def hn (d:Nat → Nat):Nat → Nat
 | 0 => 0
 | k + 1 => hn d k * 256 + dd d k
theorem dd_lt {d:Nat → Nat} (hd:∀ k,d k < 256) (k:Nat):dd d k < 256:=by unfold dd; have:=hd k; split <;> omega
theorem hn_lt {d:Nat → Nat} (hd:∀ k,d k < 256):∀ k,k ≤ 7 → hn d k < 36028797018963968
 | 0,_ => by rw [hn]; omega
 | k + 1,h => by
  have h0:dd d 0 < 128:=by unfold dd; rw [if_pos rfl]; exact Nat.mod_lt _ (by decide)
  have h1:=dd_lt hd 1; have h2:=dd_lt hd 2; have h3:=dd_lt hd 3; have h4:=dd_lt hd 4; have h5:=dd_lt hd 5; have h6:=dd_lt hd 6
  match k,h with
  | 0,_ | 1,_ | 2,_ | 3,_ | 4,_ | 5,_ | 6,_ => simp only [hn]; omega
theorem hn_8 {d:Nat → Nat} (hd:∀ k,d k < 256):hn d 8 < 9223372036854775808:=by
 have h:=hn_lt hd 7 (Nat.le_refl 7)
 have h2:=dd_lt hd 7
 show hn d 7 * 256 + dd d 7 < _
 omega
def byAt (l:List Nat) (k:Nat):Nat:=l.getD k 0
theorem byAt_lt {l:List Nat} (h:∀ x ∈ l,x < 256) (k:Nat):byAt l k < 256:=by
 unfold byAt
 rw [List.getD_eq_getElem?_getD]
 cases e:l[k]? with
 | none => decide
 | some x => exact h x (List.mem_of_getElem? e)
def hashG (t b:List Nat):Int:=(hn (byAt (shaTag t b)) 8:Nat) % 1073741789
theorem hashG_num (t b:List Nat):0 ≤ hashG t b ∧ hashG t b < 1073741789:=by unfold hashG; omega
theorem i64_join8 (n c:Nat) (hn:n < 36028797018963968) (hc:c < 256):bits .or .i64 ((n:Int) * 256) (c:Int) = ((n * 256 + c:Nat):Int):=by
 have e1:(n:Int) * 256 = ((n * 256:Nat):Int):=by omega
 have hx:n * 256 ||| c < 2 ^ 63:=Nat.or_lt_two_pow (by omega) (by omega)
 rw [e1]
 show IntKind.i64.wrap ((BitVec.ofInt 64 ((n * 256:Nat):Int) ||| BitVec.ofInt 64 (c:Int)).toNat:Int) = _
 rw [BitVec.toNat_or,ofInt_u64 (n * 256) (by omega),ofInt_u64 c (by omega),IntKind.wrap_i64,← nat_join 8 (n * 256) c (by omega) hc]
 omega
theorem u8_and127 (c:Nat) (hc:c < 256):bits .and .u8 (c:Int) 127 = ((c % 128:Nat):Int):=by
 rw [show (127:Int) = ((127:Nat):Int) from rfl,u8_and_nat c 127 hc (by omega),nat_mask7]
theorem dig_cell {W:World} {b:Nat} {l:List Nat} (h:W.rangeAt b 0 (l.map byteV)) {k:Nat} (hk:k < l.length):W.cell? ⟨b,k,none⟩ = some (.int .u8 (byAt l k:Nat)):=by
 have:=h k (byteV (byAt l k)) (by rw [List.getElem?_map,List.getElem?_eq_getElem hk]; unfold byAt; rw [List.getD_eq_getElem?_getD,List.getElem?_eq_getElem hk]; rfl)
 rwa [Nat.zero_add] at this
theorem hash_any (s:ByteArray) (v:Value) (bs:List Nat) (w:World) (hs:s.size ≤ 17592186044416) (hI:Byts w v bs) (h0:0 < bs.length) (hl:bs.length ≤ 8796093022208) (hG:Glob w) :
  Calls Tryz.prog 81 #[.string s,v] w fun e w' => e = .returned (.int .i64 (hashG (strB s) bs)) ∧ Below w.heap.size w w':=by
 have HT:=Lib.hid (tagged_any s v bs w hs hI h0 hl hG)
 clear hI
 go_enter Tryz.func81,Tryz.ntmps81
 go_wp2_with fail
 refine HT.out.mono ?_
 rintro e W1 ⟨rfl,hb1⟩
 have hln:(shaTag (strB s) bs).length = 32:=sha_len _
 have hall:∀ x ∈ shaTag (strB s) bs,x < 256:=sha_all _
 have HH:=Lib.hid (show hashG (strB s) bs = (hn (byAt (shaTag (strB s) bs)) 8:Nat) % 1073741789 from rfl)
 generalize shaTag (strB s) bs = D at *
 have h32:(D.map byteV).length = 32:=by rw [List.length_map,hln]
 have h1L:(D.map byteV).toArray.all (·.oneCell') = true:=all_oneCell_toArray (fun v hv => by obtain ⟨x,-,rfl⟩:=List.mem_map.1 hv; rfl)
 obtain ⟨W2,hW2,hrg,hb3,hz3⟩:=stored W1 (D.map byteV) h32
 simp only [z32] at hW2
 obtain ⟨T,hT⟩:∃ T,D.map byteV = T:=⟨_,rfl⟩
 have hfr:∀ k,W2.frozen? ⟨W1.heap.size,k,none⟩ = false:=fun k => by
  rw [hW2,World.frozen?_setCells]; exact World.frozen?_alloc_at _ _ _ _ rfl
 have hcl:∀ k,k < 32 → W2.cell? ⟨W1.heap.size,k,none⟩ = some (.int .u8 (byAt D k:Nat)):=fun k hk => dig_cell hrg (by omega)
 rw [hT] at h32 h1L hW2
 rw [hT]
 have HW2:=Lib.hid hW2
 have H32A:Hid (T.toArray.size = 32):=Lib.hid (by simpa using h32)
 have HI1:=Lib.hid (infoDg.trans (congrArg some (show 32 = T.toArray.size by simpa using h32.symm)))
 have H1L:=Lib.hid h1L
 have hb4:=hb1.trans (hb3.mono hb1.size)
 have hc0:=hcl 0 (by omega)
 have hf0:=hfr 0
 have hd0:=byAt_lt hall 0
 have HA:=Lib.hid (u8_and127 (byAt D 0) hd0)
 have HCL:=Lib.hid hcl
 have HFR:=Lib.hid hfr
 clear hT h32 h1L hW2 hcl hfr hrg hln hb3 hz3
 go_wp2_with (refine wpList_store_mid rfl 167 (.tmp 5) (.tmp 9) rfl W1.heap.size 0 T.toArray rfl rfl (there_new _ _ _ H32A.out.symm) HI1.out H1L.out ?_; rw [show T.toArray.toList = T from rfl,← HW2.out])
 have hcl3:∀ k,k < 8 → (W2.setCell ⟨W1.heap.size,0,none⟩ (.int .u8 (bits .and .u8 (byAt D 0:Nat) 127))).cell? ⟨W1.heap.size,k,none⟩ = some (.int .u8 (dd (byAt D) k:Nat)):=fun k hk => by
  unfold dd
  by_cases e:k = 0
  ·subst e; rw [if_pos rfl,HA.out]; exact World.cell?_setCell_same' _ _ _ (by rw [hc0]; rfl)
  ·rw [if_neg e,cell_other (.inr (fun e2 => e e2.symm))]; exact HCL.out k (by omega)
 have hb5:Below w.heap.size w (W2.setCell ⟨W1.heap.size,0,none⟩ (.int .u8 (bits .and .u8 (byAt D 0:Nat) 127))):=hb4.setCell hb1.size _
 generalize W2.setCell ⟨W1.heap.size,0,none⟩ (.int .u8 (bits .and .u8 (byAt D 0:Nat) 127)) = W3 at *
 clear hc0 hf0 hb4
 generalize bits .and .u8 (byAt D 0:Nat) 127 = z0 at *
 go_loop [4,14] (fun n i => ∃ k:Nat,k ≤ 8 ∧ i = .int .i64 k ∧ n = .int .i64 (hn (byAt D) k:Nat)) (fun _ i => 8 - (intOf i).toNat)
 case atStart => exact ⟨0,by omega,rfl,rfl⟩
 case round =>
  obtain ⟨k,hk,rfl,rfl⟩:=hrel
  by_cases hlt:k < 8
  ·have hck:=hcl3 k hlt
   have hl1:=hn_lt (byAt_lt hall) k (by omega)
   have hl2:=dd_lt (byAt_lt hall) k
   have HN:=Lib.hid (show hn (byAt D) (k + 1) = hn (byAt D) k * 256 + dd (byAt D) k from rfl)
   have HJ:=Lib.hid (i64_join8 _ _ hl1 hl2)
   generalize hn (byAt D) k = x at *
   generalize dd (byAt D) k = y at *
   have k0:0 ≤ (k:Int):=by omega
   have k1:(k:Int) < 8:=by omega
   have k2:(k:Int) < 32:=by omega
   clear hcl3
   go_wp2_with fail
   go_round
   case rel => exact ⟨k + 1,by omega,by go_num,by rw [HJ.out,HN.out]⟩
   case measure => simp [intOf]; omega
  ·have hk8:k = 8:=by omega
   have hl8:=hn_8 (byAt_lt hall)
   have HK:=Lib.hid (show (hn (byAt D) k:Nat) = hn (byAt D) 8 by rw [hk8])
   have hdt:decide ((k:Int) < 8) = false:=decide_eq_false (by omega)
   have hl9:hn (byAt D) k < 9223372036854775808:=by rw [hk8]; exact hl8
   clear hk8 hcl3 hl8 hlt
   generalize hn (byAt D) k = x at *
   go_wp2_with fail
   go_ret
   exact ⟨ret_int (by rw [HH.out,HK.out]),hb5⟩
end Go.Proofs.YtggnipkfliompaaGreatDoor
namespace Go.Proofs.YtggnipkfliompaaGreatDoor
open Go.RowKit FP
theorem epow_any (a n:Int) (w:World) (ha:El a) (hn:R64 n) :
  Calls Tryz.prog 79 #[.int .i64 a,.int .i64 n] w fun e w' => e = .returned (.int .i64 (powE a n)) ∧ Below w.heap.size w w':=by
 go_enter Tryz.func79,Tryz.ntmps79
 go_wp2_with fail
 with_reducible refine (pow_yes a n _ ha hn).mono ?_
 rintro e w1 ⟨rfl,hb⟩
 go_wp2_with fail
 go_ret
 exact ⟨rfl,hb⟩
theorem emul_two (v:Value) (a b:Int) (w:World) (hI:Ints w v [a,b]) (ha:El a) (hb:El b) :
  Calls Tryz.prog 78 #[v] w fun e w' => e = .returned (.int .i64 (a * b % 2147483579)) ∧ w = w':=by
 obtain ⟨ad,cap,rfl,hcap,hlen,-,hk⟩:=hI
 obtain ⟨bb,off,rfl,c0⟩:=hk 0 (by simp)
 obtain ⟨b2,o2,he,c1⟩:=hk 1 (by simp)
 cases he
 have c0':w.cell? ⟨bb,off,none⟩ = some (.int .i64 a):=c0
 have c1':w.cell? ⟨bb,off + 1,none⟩ = some (.int .i64 b):=c1
 have a1:=ha.num
 have HA:Hid (1 * a % 2147483579 = a):=Lib.hid (by rw [Int.one_mul,Int.emod_eq_of_lt a1.1 a1.2])
 clear hk c0 c1 a1
 have HEA:=Lib.hid ha
 have HEB:=Lib.hid hb
 go_enter Tryz.func78,Tryz.ntmps78
 go_wp2_with fail
 go_loop [3,8] (fun x i => (i = .int .i64 0 ∧ x = .int .i64 1) ∨ (i = .int .i64 1 ∧ x = .int .i64 a) ∨ (i = .int .i64 2 ∧ x = .int .i64 (a * b % 2147483579))) (fun _ i => 2 - (intOf i).toNat)
 case atStart => exact .inl ⟨rfl,rfl⟩
 case round =>
  rcases hrel with ⟨rfl,rfl⟩ | ⟨rfl,rfl⟩ | ⟨rfl,rfl⟩
  ·go_wp2_with fail
   with_reducible refine (mul_yes 1 a _ el_one HEA.out).mono ?_
   rintro e w1 ⟨rfl,rfl⟩
   rw [HA.out]
   go_wp2_with fail
   go_round
   case rel => exact .inr (.inl ⟨rfl,rfl⟩)
   case measure => simp [intOf]
  ·go_wp2_with fail
   with_reducible refine (mul_yes a b _ HEA.out HEB.out).mono ?_
   rintro e w1 ⟨rfl,rfl⟩
   go_wp2_with fail
   go_round
   case rel => exact .inr (.inr ⟨rfl,rfl⟩)
   case measure => simp [intOf]
  ·go_wp2_with fail
   go_ret
   exact ⟨rfl,rfl⟩
def tagE:ByteArray:=⟨#[101,113,117,97,108]⟩
def chal (key a d r s:Int):Int:=hashG (strB tagE) (encL [key,a,d,r,s])
theorem ints_made (w:World) (zs:List Int) (t:TypeId) (B:Nat) (hB:w.heap.size = B) (hr:∀ z ∈ zs,R64 z) (hl:zs.length ≤ 1000):Ints (w.alloc (.cells (zs.map (Value.int .i64)).toArray t)) (.slice (some ⟨B,0,none⟩) zs.length zs.length) zs:=by
 subst hB
 refine ⟨_,_,rfl,Nat.le_refl _,by omega,hr,fun k hk => ⟨_,_,rfl,?_⟩⟩
 rw [Nat.zero_add]
 exact row_cell (World.alloc_heap_new w _) (by simp [hk])
theorem challenge_any (key a d r s:Int) (w:World) (h:∀ z ∈ [key,a,d,r,s],R64 z) (hG:Glob w) :
  Calls Tryz.prog 80 #[.int .i64 key,.int .i64 a,.int .i64 d,.int .i64 r,.int .i64 s] w fun e w' => e = .returned (.int .i64 (chal key a d r s)) ∧ Below w.heap.size w w':=by
 have hI:=Lib.hid (ints_made w [key,a,d,r,s] 3 w.heap.size rfl h (by simp))
 have hb0:=below_new w #[.int .i64 key,.int .i64 a,.int .i64 d,.int .i64 r,.int .i64 s] 3
 go_enter Tryz.func80,Tryz.ntmps80
 go_wp2_with fail
 refine (text_any _ [key,a,d,r,s] _ hI.out (by simp)).mono ?_
 rintro e w1 ⟨v1,rfl,hv1,hb1⟩
 have hb01:=hb0.trans (hb1.mono hb0.size)
 have HV:=Lib.hid hv1
 clear hv1
 go_wp2_with fail
 refine (hash_any tagE v1 (encL [key,a,d,r,s]) _ (by decide) HV.out (encL_pos _) (by have:=encL_len h (by simp); simp at this; omega) (hG.below hb01)).mono ?_
 rintro e w2 ⟨rfl,hb2⟩
 go_wp2_with fail
 go_ret
 exact ⟨rfl,hb01.trans (hb2.mono hb01.size)⟩
def nQB (n:Int):Bool:=decide (0 ≤ n) && decide (n < 1073741789)
theorem nQB_iff {n:Int}:nQB n = true ↔ 0 ≤ n ∧ n < 1073741789:=by unfold nQB; rw [Bool.and_eq_true,decide_eq_true_eq,decide_eq_true_eq]
theorem inOrder_any (n:Int) (w:World) (hn:R64 n) :
  Calls Tryz.prog 76 #[.int .i64 n] w fun e w' => e = .returned (.bool (nQB n)) ∧ w = w':=by
 obtain ⟨n1,n2⟩:=hn
 by_cases h1:0 ≤ n
 ·have H:=Lib.hid (show nQB n = decide (n < 1073741789) by unfold nQB; rw [decide_eq_true h1,Bool.true_and])
  go_enter Tryz.func76,Tryz.ntmps76
  go_wp2_with fail
  go_ret
  exact ⟨ret_bool H.out.symm,rfl⟩
 ·have H:=Lib.hid (show nQB n = false by unfold nQB; rw [decide_eq_false h1,Bool.false_and])
  go_enter Tryz.func76,Tryz.ntmps76
  go_wp2_with fail
  go_ret
  exact ⟨ret_bool H.out.symm,rfl⟩
theorem check1_any (kb ab db:Nat) (key a d:Int) (w:World) (hk:R64 key) (ha:R64 a) (hd:R64 d) (c0:w.cell? ⟨kb,0,none⟩ = some (.int .i64 key)) (c1:w.cell? ⟨ab,0,none⟩ = some (.int .i64 a)) (c2:w.cell? ⟨db,0,none⟩ = some (.int .i64 d)) :
  Calls Tryz.prog 74 #[.pointer (some ⟨kb,0,none⟩),.pointer (some ⟨ab,0,none⟩),.pointer (some ⟨db,0,none⟩)] w fun e w' => e = .returned (.bool (elB key && (elB a && elB d))) ∧ w = w':=by
 go_enter Tryz.func74,Tryz.ntmps74
 go_wp2_with fail
 with_reducible refine (valid_any _ _ hk).mono ?_
 rintro e w1 ⟨rfl,rfl⟩
 cases e1:elB key with
 | false =>
  have E1:=Lib.hid e1
  clear e1
  go_wp2_with fail
  go_ret
  exact ⟨ret_bool (by rw [E1.out]; rfl),rfl⟩
 | true =>
  have E1:=Lib.hid e1
  clear e1
  go_wp2_with fail
  with_reducible refine (valid_any _ _ ha).mono ?_
  rintro e w1 ⟨rfl,rfl⟩
  cases e2:elB a with
  | false =>
   have E2:=Lib.hid e2
   clear e2
   go_wp2_with fail
   go_ret
   exact ⟨ret_bool (by rw [E1.out,E2.out]; rfl),rfl⟩
  | true =>
   have E2:=Lib.hid e2
   clear e2
   go_wp2_with fail
   with_reducible refine (valid_any _ _ hd).mono ?_
   rintro e w1 ⟨rfl,rfl⟩
   go_wp2_with fail
   go_ret
   exact ⟨ret_bool (by rw [E1.out,E2.out,Bool.true_and,Bool.true_and]),rfl⟩
theorem check2_any (pb:Nat) (E S:Int) (w:World) (hE:R64 E) (hS:R64 S) (c0:w.cell? ⟨pb,0,none⟩ = some (.int .i64 E)) (c1:w.cell? ⟨pb,1,none⟩ = some (.int .i64 S)) :
  Calls Tryz.prog 75 #[.pointer (some ⟨pb,0,none⟩)] w fun e w' => e = .returned (.bool (nQB E && nQB S)) ∧ w = w':=by
 go_enter Tryz.func75,Tryz.ntmps75
 go_wp2_with fail
 with_reducible refine (inOrder_any _ _ hE).mono ?_
 rintro e w1 ⟨rfl,rfl⟩
 cases e1:nQB E with
 | false =>
  have E1:=Lib.hid e1
  clear e1
  go_wp2_with fail
  go_ret
  exact ⟨ret_bool (by rw [E1.out]; rfl),rfl⟩
 | true =>
  have E1:=Lib.hid e1
  clear e1
  go_wp2_with fail
  with_reducible refine (inOrder_any _ _ hS).mono ?_
  rintro e w1 ⟨rfl,rfl⟩
  go_wp2_with fail
  go_ret
  exact ⟨ret_bool (by rw [E1.out,Bool.true_and]),rfl⟩
end Go.Proofs.YtggnipkfliompaaGreatDoor
namespace Go.Proofs.YtggnipkfliompaaGreatDoor
open FP
theorem el_four:El 4:=by
 refine el_of (by omega) ?_
 have e:cp 4 = cp 2 * cp 2:=by rw [← cp_mul]; rfl
 have h2:cp 2 ≠ 0:=fun h => by rw [cp_zero] at h; exact absurd h (by decide)
 obtain ⟨n,hn,hq⟩:∃ n:Nat,n + 1 + 1 = 2147483579 ∧ nQ + nQ = n + 1:=⟨2147483577,rfl,rfl⟩
 rw [e,fp_prod,← fp_add,hq,FP.pow_s]
 exact FP.fermat_n n hn h2
def rE (key E S:Int):Int:=powE 4 S * powE key (-E) % 2147483579
def sE (a d E S:Int):Int:=powE a S * powE d (-E) % 2147483579
theorem el_rE {key:Int} (h:El key) (E S:Int):El (rE key E S):=el_mul (el_powE el_four _) (el_powE h _)
theorem el_sE {a d:Int} (ha:El a) (hd:El d) (E S:Int):El (sE a d E S):=el_mul (el_powE ha _) (el_powE hd _)
end Go.Proofs.YtggnipkfliompaaGreatDoor
