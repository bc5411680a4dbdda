/- Layer 10, and its reference: what the functions on elements compute. A range over a function of this program whose iterator changes variables of its own between two rounds. -/
import Derived.Test.YtggnipkfliompaaGreatDoorMBase
import Derived.Test.YtggnipkfliompaaGreatDoorMFp
set_option maxHeartbeats 2000000
set_option maxRecDepth 100000
namespace Go.Proofs.YtggnipkfliompaaGreatDoor
open Go.RowKit FP
theorem mp_l (a b:Int):(a % 2147483579 * b) % 2147483579 = (a * b) % 2147483579:=by rw [Int.mul_emod,Int.emod_emod,← Int.mul_emod]
theorem mp_r (a b:Int):(a * (b % 2147483579)) % 2147483579 = (a * b) % 2147483579:=by rw [Int.mul_emod,Int.emod_emod,← Int.mul_emod]
theorem mp_pow (a:Int) (n:Nat):(a % 2147483579) ^ n % 2147483579 = a ^ n % 2147483579:=by
 induction n with
 | zero => rw [Int.pow_zero,Int.pow_zero]
 | succ n ih => rw [Int.pow_succ,Int.pow_succ,mp_r,Int.mul_emod,ih,← Int.mul_emod]
theorem mp_half (s:Int) (left:Nat):s ^ left = (s * s) ^ (left / 2) * s ^ (left % 2):=by
 have:s * s = s ^ 2:=by rw [Int.pow_succ,Int.pow_succ,Int.pow_zero,Int.one_mul]
 rw [this,← Int.pow_mul,← Int.pow_add]; congr 1; omega
theorem mp_odd (x s:Int) (left:Nat) (h:left % 2 = 1):((x * s) % 2147483579 * ((s * s) % 2147483579) ^ (left / 2)) % 2147483579 = (x * s ^ left) % 2147483579:=by
 rw [mp_l,Int.mul_emod,mp_pow,← Int.mul_emod,mp_half s left,h,Int.pow_succ,Int.pow_zero,Int.one_mul,Int.mul_assoc,Int.mul_comm s]
theorem mp_even (x s:Int) (left:Nat) (h:left % 2 = 0):(x * ((s * s) % 2147483579) ^ (left / 2)) % 2147483579 = (x * s ^ left) % 2147483579:=by
 rw [Int.mul_emod,mp_pow,← Int.mul_emod,mp_half s left,h,Int.pow_zero,Int.mul_one]
theorem mp_num (a:Int):0 ≤ a % 2147483579 ∧ a % 2147483579 < 2147483579:=by omega
theorem mp_prod {a b:Int} (ha:0 ≤ a ∧ a < 2147483579) (hb:0 ≤ b ∧ b < 2147483579):0 ≤ a * b ∧ a * b ≤ 4611685721957729241:=by
 have h3:0 ≤ a * b:=Int.mul_nonneg ha.1 hb.1
 have h4:a * b ≤ 2147483578 * 2147483578:=Int.mul_le_mul (by omega) (by omega) hb.1 (by omega)
 omega
theorem rpower_any (a:Int) (n:Nat) (w:World) (ha:0 ≤ a ∧ a < 2147483579) (hn:n < 2147483579) :
  Calls Tryz.prog 174 #[.int .i64 a,.int .i64 n] w fun e w' => e = .returned (.int .i64 (powP a n)) ∧ w = w':=by
 go_enter Tryz.func174,Tryz.ntmps174
 go_wp2
 go_loop [0,1,5] (fun s l c => ∃ (s' c':Int) (k:Nat),s = .int .i64 s' ∧ l = .int .i64 k ∧ c = .int .i64 c' ∧ k ≤ n ∧ (0 ≤ s' ∧ s' < 2147483579) ∧ (0 ≤ c' ∧ c' < 2147483579) ∧ Hid ((c' * s' ^ k) % 2147483579 = powP a n)) (fun _ l _ => (intOf l).toNat)
 case atStart => exact ⟨a,1,n,rfl,rfl,rfl,Nat.le_refl _,ha,by omega,Lib.hid (by rw [Int.one_mul]; rfl)⟩
 case round =>
  obtain ⟨s',c',k,rfl,rfl,rfl,hk,hs,hc,HP⟩:=hrel
  have hss:=mp_prod hs hs
  have hcs:=mp_prod hc hs
  have hsn:=mp_num (s' * s')
  have hcn:=mp_num (c' * s')
  have hs2:=hs
  have hc2:=hc
  obtain ⟨s1,s2⟩:=hs
  obtain ⟨c1,c2⟩:=hc
  obtain ⟨q1,q2⟩:=hss
  obtain ⟨q3,q4⟩:=hcs
  by_cases h0:k = 0
  ·subst h0
   go_wp2
   go_ret
   exact ⟨ret_int (by rw [← HP.out,Int.pow_zero,Int.mul_one,Int.emod_eq_of_lt c1 c2]),rfl⟩
  ·have hk0:decide ((k:Int) > 0) = true:=by simp; omega
   rcases Nat.mod_two_eq_zero_or_one k with h2 | h2
   ·have hk2:((k:Int) % 2 == 1) = false:=by rw [beq_eq_false_iff_ne]; omega
    go_wp2
    go_round
    case rel => exact ⟨(s' * s') % 2147483579,c',k / 2,rfl,by go_num,rfl,by omega,hsn,hc2,Lib.hid (by rw [mp_even c' s' k h2]; exact HP.out)⟩
    case measure => simp [intOf]; omega
   ·have hk2:((k:Int) % 2 == 1) = true:=by rw [beq_iff_eq]; omega
    go_wp2
    go_round
    case rel => exact ⟨(s' * s') % 2147483579,(c' * s') % 2147483579,k / 2,rfl,by go_num,rfl,by omega,hsn,hcn,Lib.hid (by rw [mp_odd c' s' k h2]; exact HP.out)⟩
    case measure => simp [intOf]; omega
theorem powP_nQ (x:Int):powP x ((1073741789:Nat)) = powP x nQ:=rfl
theorem rvalid_any (x:Int) (w:World) (hx:R64 x) :
  Calls Tryz.prog 143 #[.int .i64 x] w fun e w' => e = .returned (.bool (elB x)) ∧ w = w':=by
 obtain ⟨x1,x2⟩:=hx
 have H:=Lib.hid (show elB x = (decide (1 ≤ x) && (decide (x < 2147483579) && (powP x nQ == 1))) from rfl)
 by_cases h1:1 ≤ x
 ·by_cases h2:x < 2147483579
  ·have hp:=powP_num x nQ
   have K:=Lib.hid (show elB x = (powP x nQ == 1) by rw [H.out,decide_eq_true h1,decide_eq_true h2]; rfl)
   clear H
   go_enter Tryz.func143,Tryz.ntmps143
   go_wp2_with fail
   refine (rpower_any x 1073741789 _ ⟨by omega,h2⟩ (by omega)).mono ?_; rintro e w' ⟨rfl,rfl⟩
   rw [powP_nQ]
   go_wp2_with fail
   go_ret
   exact ⟨ret_bool K.out.symm,rfl⟩
  ·have K:=Lib.hid (show elB x = false by rw [H.out,decide_eq_false h2,Bool.false_and,Bool.and_false])
   have h2':decide (x < 2147483579) = false:=decide_eq_false h2
   clear H h2
   go_enter Tryz.func143,Tryz.ntmps143
   go_wp2_with fail
   go_ret
   exact ⟨ret_bool K.out.symm,rfl⟩
 ·have K:=Lib.hid (show elB x = false by rw [H.out,decide_eq_false h1,Bool.false_and])
  clear H
  go_enter Tryz.func143,Tryz.ntmps143
  go_wp2_with fail
  go_ret
  exact ⟨ret_bool K.out.symm,rfl⟩
theorem elB_vJ {k:Nat} (h0:0 < k) (h1:k < 2147483579):elB k = vJ k 2147483579:=by
 have e:=euler (a:=k) (h:=nQ) rfl h0 h1
 have n0:FP.natq k = cp (k:Int):=rfl
 rw [n0,← powP_one] at e
 unfold elB vJ
 rw [decide_eq_true (by omega),decide_eq_true (by omega),Bool.true_and,Bool.true_and]
 rw [Bool.eq_iff_iff,beq_iff_eq,decide_eq_true_eq]; exact e
theorem cop_P {k:Nat} (h0:0 < k) (h1:k < 2147483579):Nat.Coprime k 2147483579:=
 (FP.prime_cop (fun hd => by have:=Nat.le_of_dvd h0 hd; omega)).symm
theorem valid_any (x:Int) (w:World) (hx:R64 x) :
  Calls Tryz.prog 71 #[.int .i64 x] w fun e w' => e = .returned (.bool (elB x)) ∧ w = w':=by
 by_cases h1:x < 1
 ·have K:=Lib.hid (show elB x = false by unfold elB; rw [decide_eq_false (by omega),Bool.false_and])
  obtain ⟨x1,x2⟩:=hx
  go_enter Tryz.func71,Tryz.ntmps71
  go_wp2_with fail
  go_step3
  go_wp2_with fail
  try rw [Exit.noGoto_ret]
  go_ret
  exact ⟨ret_bool K.out.symm,rfl⟩
 by_cases h2:2147483579 ≤ x
 ·have K:=Lib.hid (show elB x = false by unfold elB; rw [decide_eq_false (p:=x < 2147483579) (by omega),Bool.false_and,Bool.and_false])
  obtain ⟨x1,x2⟩:=hx
  go_enter Tryz.func71,Tryz.ntmps71
  go_wp2_with fail
  go_step3
  go_wp2_with fail
  try rw [Exit.noGoto_ret]
  go_ret
  exact ⟨ret_bool K.out.symm,rfl⟩
 obtain ⟨k,rfl⟩:=Int.eq_ofNat_of_zero_le (show 0 ≤ x by omega)
 have hT:=Lib.hid (elB_vJ (k:=k) (by omega) (by omega))
 have hC:=cop_P (k:=k) (by omega) (by omega)
 generalize elB (k:Int) = T at *
 have g1:1 ≤ k:=by omega
 have g2:k < 2147483579:=by omega
 clear h1 h2 hx
 go_enter Tryz.func71,Tryz.ntmps71
 go_wp2_with fail
 go_step3
 go_wp2_with fail
 go_step3
 go_wp2_with fail
 go_loop [0,3,4] (fun x n s => ∃ (y m:Nat) (b:Bool),x = .int .i64 y ∧ n = .int .i64 m ∧ s = .bool b ∧ 1 ≤ y ∧ y < 2147483579 ∧ 1 ≤ m ∧ m ≤ 2147483579 ∧ m % 2 = 1 ∧ Nat.Coprime y m ∧ Hid ((vJ y m == b) = T)) (fun x _ _ => (intOf x).toNat)
 case atStart => exact ⟨k,2147483579,true,rfl,rfl,rfl,g1,g2,by omega,by omega,by omega,hC,Lib.hid (by rw [hT.out]; cases vJ k 2147483579 <;> rfl)⟩
 case round =>
  obtain ⟨y,m,b,rfl,rfl,rfl,hy1,hy2,hm1,hm2,hm3,hc,HT⟩:=hrel
  by_cases e1:y = 1
  ·subst e1
   have HT2:=Lib.hid (show b = T by rw [← HT.out,vJ_one]; cases b <;> rfl)
   go_wp2
   try rw [Exit.noGoto_ret]
   go_ret
   exact ⟨ret_bool HT2.out,rfl⟩
  ·have e2:decide ((y:Int) > 1) = true:=by simp; omega
   go_wp2_with fail
   go_loop [0,4] (fun x s => ∃ (z:Nat) (c:Bool),x = .int .i64 z ∧ s = .bool c ∧ 1 ≤ z ∧ z ≤ y ∧ Nat.Coprime z m ∧ Hid ((vJ z m == c) = T)) (fun x _ => (intOf x).toNat)
   case atStart => exact ⟨y,b,rfl,rfl,hy1,Nat.le_refl _,hc,HT⟩
   case round =>
    obtain ⟨z,c,rfl,rfl,hz1,hz2,hcz,HZ⟩:=hrel
    rcases Nat.mod_two_eq_zero_or_one z with h2 | h2
    ·obtain ⟨u,rfl⟩:∃ u,z = 2 * u:=⟨z / 2,by omega⟩
     have f2:(((2 * u:Nat):Int) % 2 == 0) = true:=by rw [beq_iff_eq]; omega
     have hJ:=Lib.hid (vJ_two hm3 hcz)
     have hcu:Nat.Coprime u m:=Nat.Coprime.coprime_mul_left hcz
     by_cases h3:m % 8 = 3
     ·have f3:((m:Int) % 8 == 3) = true:=by rw [beq_iff_eq]; omega
      have HN:=Lib.hid (show (vJ u m == !c) = T by
       rw [← HZ.out,hJ.out,decide_eq_true h3]; cases vJ u m <;> cases c <;> rfl)
      clear h3
      go_wp2
      go_round
      case rel => exact ⟨u,!c,by go_num,rfl,by omega,by omega,hcu,HN⟩
      case measure => simp [intOf]; omega
     ·have f3:((m:Int) % 8 == 3) = false:=by rw [beq_eq_false_iff_ne]; omega
      by_cases h5:m % 8 = 5
      ·have f5:((m:Int) % 8 == 5) = true:=by rw [beq_iff_eq]; omega
       have HN:=Lib.hid (show (vJ u m == !c) = T by
        rw [← HZ.out,hJ.out,decide_eq_true h5,Bool.or_true]; cases vJ u m <;> cases c <;> rfl)
       clear h3 h5
       go_wp2
       go_round
       case rel => exact ⟨u,!c,by go_num,rfl,by omega,by omega,hcu,HN⟩
       case measure => simp [intOf]; omega
      ·have f5:((m:Int) % 8 == 5) = false:=by rw [beq_eq_false_iff_ne]; omega
       have HN:=Lib.hid (show (vJ u m == c) = T by
        rw [← HZ.out,hJ.out,decide_eq_false h3,decide_eq_false h5]; cases vJ u m <;> cases c <;> rfl)
       clear h3 h5
       go_wp2
       go_round
       case rel => exact ⟨u,c,by go_num,rfl,by omega,by omega,hcu,HN⟩
       case measure => simp [intOf]; omega
    ·have f2:((z:Int) % 2 == 0) = false:=by rw [beq_eq_false_iff_ne]; omega
     by_cases e3:z = 1
     ·subst e3
      have HT2:=Lib.hid (show c = T by rw [← HZ.out,vJ_one]; cases c <;> rfl)
      go_wp2
      try rw [Exit.noGoto_ret]
      go_ret
      exact ⟨ret_bool HT2.out,rfl⟩
     ·have f1:((z:Int) == 1) = false:=by rw [beq_eq_false_iff_ne]; omega
      have hJ:=Lib.hid (vJ_swap h2 hm3 hcz)
      have hcn:Nat.Coprime (m % z) z:=by
       have:=Nat.Coprime.symm hcz
       unfold Nat.Coprime at this ⊢
       rw [← this,← Nat.gcd_rec,Nat.gcd_comm]
      have hpos:1 ≤ m % z:=by
       by_cases e:m % z = 0
       ·rw [e] at hcn; simp at hcn; exact absurd hcn e3
       ·omega
      have hlt:m % z < z:=Nat.mod_lt _ (by omega)
      have hz0:(z:Int) ≠ 0:=by omega
      by_cases h3:z % 4 = 3
      ·have f3:((z:Int) % 4 == 3) = true:=by rw [beq_iff_eq]; omega
       by_cases h4:m % 4 = 3
       ·have f4:((m:Int) % 4 == 3) = true:=by rw [beq_iff_eq]; omega
        have HN:=Lib.hid (show (vJ (m % z) z == !c) = T by
         rw [← HZ.out,hJ.out,decide_eq_true h3,decide_eq_true h4]; cases vJ z m <;> cases c <;> rfl)
        clear h3 h4
        go_wp2
        go_round
        case rel => exact ⟨m % z,z,!c,by go_num,rfl,rfl,hpos,by omega,by omega,by omega,h2,hcn,HN⟩
        case measure => simp [intOf]; omega
       ·have f4:((m:Int) % 4 == 3) = false:=by rw [beq_eq_false_iff_ne]; omega
        have HN:=Lib.hid (show (vJ (m % z) z == c) = T by
         rw [← HZ.out,hJ.out,decide_eq_true h3,decide_eq_false h4]; cases vJ z m <;> cases c <;> rfl)
        clear h3 h4
        go_wp2
        go_round
        case rel => exact ⟨m % z,z,c,by go_num,rfl,rfl,hpos,by omega,by omega,by omega,h2,hcn,HN⟩
        case measure => simp [intOf]; omega
      ·have f3:((z:Int) % 4 == 3) = false:=by rw [beq_eq_false_iff_ne]; omega
       have HN:=Lib.hid (show (vJ (m % z) z == c) = T by
        rw [← HZ.out,hJ.out,decide_eq_false h3]; cases vJ z m <;> cases c <;> rfl)
       clear h3
       go_wp2
       go_round
       case rel => exact ⟨m % z,z,c,by go_num,rfl,rfl,hpos,by omega,by omega,by omega,h2,hcn,HN⟩
       case measure => simp [intOf]; omega
end Go.Proofs.YtggnipkfliompaaGreatDoor
namespace Go.Proofs.YtggnipkfliompaaGreatDoor
open Go.RowKit
def rangePost3 (M:Nat → World → Prop) (Ix:Code → Nat → World → Prop) (j:Nat) (W:World):Exit → Act → World → Prop
 | .normal,_,W' => KeepsOthers W W' ∧ M j W'
 | .ret,_,W' => KeepsOthers W W' ∧ Ix .ret (j + 1) W'
 | .exit id,_,W' => KeepsOthers W W' ∧ Ix (.exit id) (j + 1) W'
 | .goto t,_,W' => KeepsOthers W W' ∧ Ix (.goto t) (j + 1) W'
 | .panic _,_,_ => False
 | .outgrown,_,_ => False
def Iterates3 (P:Program) (gf:FuncId) (lb:Array Value) (N:Nat) (encs:Nat → Array Value) (I M:Nat → World → Prop) (T:Nat → World → World):Prop:=
 ∀ (l:Nat) (J K Jx:Nat → World → Prop) (W:World),(∀ j W1,J j W1 → I j W1) → (∀ j W1,K j W1 → M j W1) → (∀ j W1,K j W1 → J (j + 1) (T j W1)) →
  (∀ j W1,J j W1 → j < N → YieldAt Fence.wide 0 P l (encs j) W1 fun e W' => (e = .returned (.bool true) ∧ K j W') ∨ (e = .returned (.bool false) ∧ Jx (j + 1) W')) →
  J 0 W → CallsIn Fence.wide 0 P gf (#[.func (.yield l) #[] #[]] ++ lb) W fun e W' => (∃ v,e = .returned v) ∧ (J N W' ∨ (∃ j,j ≤ N ∧ Jx j W'))
theorem wp_range3 {P:Program} {g:Operand} {ps:Array Tmp} {assign body:Code} {Q:Exit → Act → World → Prop} {a:Act} {w:World}
  {gf:FuncId} {lb:Array Value} (hg:a.eval g = .func (.func gf) #[] lb) (eg:Goes P gf)
  {N:Nat} {encs:Nat → Array Value} (hps:∀ j,(encs j).size = ps.size)
  (I M:Nat → World → Prop) (T:Nat → World → World) (Ix:Code → Nat → World → Prop) (hseq:Iterates3 P gf lb N encs I M T)
  (hI:∀ j W W',I j W → Sim w.heap.size W W' → I j W') (hIx:∀ c j W W',Ix c j W → Sim w.heap.size W W' → Ix c j W')
  (hM:∀ j W W',M j W → Sim w.heap.size W W' → M j W') (hT:∀ j W,M j W → I (j + 1) (T j W) ∧ KeepsOthers W (T j W))
  (h0:I 0 w) (f:Nat → Array Value → Array Value)
  (hassign:∀ (l j:Nat) (W:World) (K:Act → World → Prop),K { tmps:=f j a.tmps,defers:=[] } W →
   assign.wpIn (Fence.wide.inRound l) 0 P (Exit.then K (fun _ _ _ => False)) { tmps:=(ps.zip (encs j)).foldl (fun t (p,v) => t.setIfInBounds p v) a.tmps,defers:=[] } W)
  (hbody:∀ (l j:Nat) (W:World),I j W → j < N → body.wpIn (Fence.wide.inRound l) 0 P (rangePost3 M Ix j W) { tmps:=f j a.tmps,defers:=[] } W)
  (hdone:∀ (D:Nat) (W:World),w.heap.size ≤ D → I N W → W.heap[D]? = some (.deferred (some [])) → KeepsOthers w W → Q .normal { a with defers:={ target:=.collected D,args:=#[] } :: a.defers } W)
  (hstop:∀ (D:Nat) (c:Code) (j:Nat) (W:World),w.heap.size ≤ D → j ≤ N → Ix c j W → W.heap[D]? = some (.deferred (some [])) → KeepsOthers w W → c.wp P Q { a with defers:={ target:=.collected D,args:=#[] } :: a.defers } W) :
  (Code.rangeFunc g ps assign body).wp P Q a w:=by
 refine (wpIn_wide (n:=0)).1 (wpIn_rangeFunc ?_)
 intro fn hfn
 obtain ⟨rec,hrec⟩:∃ rec:LoopState → Option Code → Loop,rec = fun st pe => { state:=st,pending:=pe,fn,tmps:=a.tmps,params:=ps,assign,body,defers:=w.heap.size }:=⟨_,rfl⟩
 obtain ⟨W1,hW1⟩:∃ W1,(w.alloc (.deferred (some []))).alloc (.loop (rec .ready none)) = W1:=⟨_,rfl⟩
 have hL1:W1.heap[w.heap.size + 1]? = some (.loop (rec .ready none)):=by
  rw [← hW1]; have:=World.alloc_heap_new (w.alloc (.deferred (some []))) (.loop (rec .ready none)); rwa [World.size_alloc] at this
 have hK1:W1.heap[w.heap.size]? = some (.deferred (some [])):=by
  rw [← hW1]; exact (Below.heap_alloc _ _ _ (by simp)).trans (World.alloc_heap_new w _)
 have hS1:Sim w.heap.size w W1:=by
  rw [← hW1]; exact sim_trans (sim_alloc _ (Nat.le_refl _) _) (sim_alloc _ (by simp) _)
 have hO1:KeepsOthers w W1:=by rw [← hW1]; exact (KeepsOthers.alloc _ _).trans (KeepsOthers.alloc _ _)
 refine ⟨w.heap.size + 1,[{ target:=.collected w.heap.size,args:=#[] }],W1,{ target:=.fn (.func gf) lb,args:=#[.func (.yield (w.heap.size + 1)) #[] #[]] },W1,gf,
  #[.func (.yield (w.heap.size + 1)) #[] #[]] ++ lb,W1,?_,?_,fun _ _ => trivial,?_,fun h => by simp [Fence.wide] at h,?_⟩
 ·rw [← hW1,hrec]; exact run_enterLoop_outer _ _ _ _ _
 ·simp only [resolve,hg]
  simp [go_sem]
 ·have eg':∀ (args:Array Value) (w:World),(callFunc gf args).run P w = .ok (.enter gf args) w:=eg
  simp [invoke,go_sem,eg']
 ·have others:∀ {A B:World} (_:KeepsOthers w A) (_:∀ k o,k < w.heap.size → A.heap[k]? = some o → o.isCells = false → B.heap[k]? = some o) (_:A.heap.size ≤ B.heap.size),KeepsOthers w B:=
   fun {A B} h1 h2 h3 => ⟨Nat.le_trans h1.size h3,fun k o hk ho => h2 k o (Array.getElem?_eq_some_iff.1 hk).1 (h1.same k o hk ho) ho⟩
  have put:∀ {A:World} {l:Nat} (o':Obj),w.heap.size ≤ l → KeepsOthers w A → KeepsOthers w (A.putObj l o'):=fun {A l} o' hl h =>
   others h (fun k o hk ho _ => (World.putObj_heap_other (by omega)).trans ho) (by simp)
  refine (hseq (w.heap.size + 1)
   (fun j W => I j W ∧ W.heap[w.heap.size + 1]? = some (.loop (rec .ready none)) ∧ W.heap[w.heap.size]? = some (.deferred (some [])) ∧ KeepsOthers w W)
   (fun j W => M j W ∧ W.heap[w.heap.size + 1]? = some (.loop (rec .ready none)) ∧ W.heap[w.heap.size]? = some (.deferred (some [])) ∧ KeepsOthers w W)
   (fun j W => ∃ c,Ix c j W ∧ W.heap[w.heap.size + 1]? = some (.loop (rec .done (some c))) ∧ W.heap[w.heap.size]? = some (.deferred (some [])) ∧ KeepsOthers w W)
   W1 (fun j W h => h.1) (fun j W h => h.1) (fun j W h => ⟨(hT j W h.1).1,(hT j W h.1).2.same _ _ h.2.1 rfl,(hT j W h.1).2.same _ _ h.2.2.1 rfl,h.2.2.2.trans (hT j W h.1).2⟩) ?_ ⟨hI _ _ _ h0 hS1,hL1,hK1,hO1⟩).mono ?_
  ·rintro j W ⟨hi,hl,hk,ho⟩ hlen
   have hlt:w.heap.size + 1 < W.heap.size:=(Array.getElem?_eq_some_iff.1 hl).1
   have hy:=run_yield (P:=P) (args:=encs j) hl (by rw [hrec]; exact hps j)
   rw [hrec] at hy
   refine ⟨fn,_,assign,body,hy,roundIn_of_wpIn hfn (hassign _ j W _ ⟨_,run_beginRound hl (by rw [hrec]),?_⟩)⟩
   have hl2:(W.putObj (w.heap.size + 1) (.loop { rec .ready none with state:=.busy })).heap[w.heap.size + 1]? = some (.loop { rec .ready none with state:=.busy }):=World.putObj_heap_same hlt
   have hk2:(W.putObj (w.heap.size + 1) (.loop { rec .ready none with state:=.busy })).heap[w.heap.size]? = some (.deferred (some [])):=(World.putObj_heap_other (by omega)).trans hk
   have ho2:=put (.loop { rec .ready none with state:=.busy }) (by omega) ho (l:=w.heap.size + 1)
   refine wpIn_mono (hbody _ j _ (hI _ _ _ hi (sim_putObj _ (by omega) hl rfl)) hlen) ?_
   have fin:∀ (jump:Option Code) (W3:World),KeepsOthers (W.putObj (w.heap.size + 1) (.loop { rec .ready none with state:=.busy })) W3 →
     (Instr.endRound (w.heap.size + 1) jump).run P W3 = .ok (.bool jump.isNone) (W3.putObj (w.heap.size + 1) (.loop (rec (if jump.isNone then .ready else .done) jump))) ∧
     Sim w.heap.size W3 (W3.putObj (w.heap.size + 1) (.loop (rec (if jump.isNone then .ready else .done) jump))) ∧
     (W3.putObj (w.heap.size + 1) (.loop (rec (if jump.isNone then .ready else .done) jump))).heap[w.heap.size + 1]? = some (.loop (rec (if jump.isNone then .ready else .done) jump)) ∧
     (W3.putObj (w.heap.size + 1) (.loop (rec (if jump.isNone then .ready else .done) jump))).heap[w.heap.size]? = some (.deferred (some [])) ∧
     KeepsOthers w (W3.putObj (w.heap.size + 1) (.loop (rec (if jump.isNone then .ready else .done) jump))):=fun jump W3 hk3 => by
    have hl3:=hk3.same _ _ hl2 rfl
    have:=run_endRound (P:=P) jump hl3
    rw [hrec] at this ⊢
    exact ⟨this,sim_putObj _ (by omega) hl3 rfl,World.putObj_heap_same (Array.getElem?_eq_some_iff.1 hl3).1,(World.putObj_heap_other (by omega)).trans (hk3.same _ _ hk2 rfl),
     put _ (by omega) (ho2.trans hk3)⟩
   rintro e a3 W3 hp
   cases e with
   | normal =>
    obtain ⟨hk3,hi3⟩:=hp
    obtain ⟨hr,hs,hl4,hk4,ho4⟩:=fin none W3 hk3
    exact ⟨_,_,hr,.inl ⟨rfl,hM _ _ _ hi3 hs,hl4,hk4,ho4⟩⟩
   | ret =>
    obtain ⟨hk3,hi3⟩:=hp
    obtain ⟨hr,hs,hl4,hk4,ho4⟩:=fin (some .ret) W3 hk3
    exact ⟨_,_,hr,.inr ⟨rfl,.ret,hIx _ _ _ _ hi3 hs,hl4,hk4,ho4⟩⟩
   | exit id =>
    obtain ⟨hk3,hi3⟩:=hp
    obtain ⟨hr,hs,hl4,hk4,ho4⟩:=fin (some (.exit id)) W3 hk3
    exact ⟨_,_,hr,.inr ⟨rfl,.exit id,hIx _ _ _ _ hi3 hs,hl4,hk4,ho4⟩⟩
   | goto t =>
    obtain ⟨hk3,hi3⟩:=hp
    obtain ⟨hr,hs,hl4,hk4,ho4⟩:=fin (some (.goto t)) W3 hk3
    exact ⟨_,_,hr,.inr ⟨rfl,.goto t,hIx _ _ _ _ hi3 hs,hl4,hk4,ho4⟩⟩
   | panic ch => exact hp.elim
   | outgrown => exact hp.elim
  ·rintro e W2 ⟨⟨v,rfl⟩,(⟨hi,hl,hk,ho⟩ | ⟨j,hj,c,hi,hl,hk,ho⟩)⟩
   ·exact ⟨none,_,by have:=run_endLoop (P:=P) hl (by rw [hrec]; simp); rw [hrec] at this; exact this,
     hdone _ _ (Nat.le_refl _) (hI _ _ _ hi (sim_putObj _ (by omega) hl rfl)) ((World.putObj_heap_other (by omega)).trans hk) (put _ (by omega) ho)⟩
   ·exact ⟨some c,_,by have:=run_endLoop (P:=P) hl (by rw [hrec]; simp); rw [hrec] at this; exact this,
     wpIn_wide.2 (hstop _ c j _ (Nat.le_refl _) hj (hIx _ _ _ _ hi (sim_putObj _ (by omega) hl rfl)) ((World.putObj_heap_other (by omega)).trans hk) (put _ (by omega) ho))⟩
theorem leaves_marks3 {P:Program} {fn:Func} {tmps:Array Value} {R:Ending → World → Prop} {B:Nat} {v:Value} (C:World → Prop) (hres:∀ w,C w → (results fn tmps).run P w = .ok v w) (hC:∀ w w',C w → Sim B w w' → C w') (hR:∀ w w',R (.returned v) w → Sim B w w' → R (.returned v) w') :
  ∀ (ds:List Deferred) (w:World),Marks B w ds → C w → R (.returned v) w → LeavesInM Fence.wide 0 P fn tmps R ds .returning w
 | [],w,_,hc,h => ⟨v,hres w hc,h⟩
 | d :: ds,w,⟨⟨D,h1,hB,h2,h3⟩,hr⟩,hc,h => by
  subst h1
  refine ⟨by simp,.inl ⟨D,_,rfl,run_takeDeferred h2,?_⟩⟩
  exact leaves_marks3 C hres hC hR ds _ (marks_put hr h3) (hC _ _ hc (sim_putObj _ hB h2 rfl)) (hR _ _ h (sim_putObj _ hB h2 rfl))
end Go.Proofs.YtggnipkfliompaaGreatDoor
