/- The reference of digest: a block, the schedule. -/
import Derived.Test.YtggnipkfliompaaGreatDoorMRefE
import Derived.Test.YtggnipkfliompaaGreatDoorMRegF
import Derived.Test.YtggnipkfliompaaGreatDoorMDeaA
set_option maxHeartbeats 16000000
set_option maxRecDepth 100000
namespace Go.Proofs.YtggnipkfliompaaGreatDoor
open Go.RowKit
theorem ch_eq (e f g:Nat) (he:e < 4294967296) (hg:g < 4294967296):(e &&& f) ^^^ ((4294967295 - e) &&& g) = g ^^^ (e &&& (f ^^^ g)):=by
 apply Nat.eq_of_testBit_eq
 intro i
 have hn:(4294967295 - e).testBit i = (decide (i < 32) && !e.testBit i):=by
  have h:=Nat.testBit_two_pow_sub_succ (n:=32) (x:=e) he i
  rw [show 2 ^ 32 - (e + 1) = 4294967295 - e by omega] at h
  exact h
 simp only [Nat.testBit_xor,Nat.testBit_and,hn]
 by_cases hi:i < 32
 ·rw [decide_eq_true hi]
  cases e.testBit i <;> cases f.testBit i <;> cases g.testBit i <;> rfl
 ·have hgi:g.testBit i = false:=Nat.testBit_lt_two_pow (Nat.lt_of_lt_of_le hg (Nat.pow_le_pow_right (n:=2) (by omega) (Nat.le_of_not_lt hi)))
  have hei:e.testBit i = false:=Nat.testBit_lt_two_pow (Nat.lt_of_lt_of_le he (Nat.pow_le_pow_right (n:=2) (by omega) (Nat.le_of_not_lt hi)))
  rw [hgi,hei]
  simp
theorem not_eq (e:Nat) (he:e < 4294967296):4294967295 ^^^ e = 4294967295 - e:=by
 apply Nat.eq_of_testBit_eq
 intro i
 have hn:(4294967295 - e).testBit i = (decide (i < 32) && !e.testBit i):=by
  have h:=Nat.testBit_two_pow_sub_succ (n:=32) (x:=e) he i
  rw [show 2 ^ 32 - (e + 1) = 4294967295 - e by omega] at h
  exact h
 have hm:(4294967295:Nat).testBit i = decide (i < 32):=Nat.testBit_two_pow_sub_one 32 i
 rw [Nat.testBit_xor,hn,hm]
 by_cases hi:i < 32
 ·rw [decide_eq_true hi]; cases e.testBit i <;> rfl
 ·have hei:e.testBit i = false:=Nat.testBit_lt_two_pow (Nat.lt_of_lt_of_le he (Nat.pow_le_pow_right (n:=2) (by omega) (Nat.le_of_not_lt hi)))
  rw [hei,decide_eq_false hi]; rfl
theorem not_val (e:Nat) (he:e < 4294967296):bits .xor .u32 (if IntKind.u32.signed = true then -1 else IntKind.u32.max) (e:Int) = ((4294967295 - e:Nat):Int):=by
 have h:(if IntKind.u32.signed = true then -1 else IntKind.u32.max) = ((4294967295:Nat):Int):=rfl
 rw [h,u32_xor_nat _ _ (by decide) he,not_eq e he]
theorem mj_eq (a b c:Nat):((a &&& b) ^^^ (a &&& c)) ^^^ (b &&& c) = (a &&& b) ||| (c &&& (a ||| b)):=by
 apply Nat.eq_of_testBit_eq
 intro i
 simp only [Nat.testBit_xor,Nat.testBit_and,Nat.testBit_or]
 cases a.testBit i <;> cases b.testBit i <;> cases c.testBit i <;> rfl
theorem run_slice_w (b o n c t:Nat) (hk:4 * t + 4 ≤ n) (hc:n ≤ c) (w:World):(Instr.slice 117 (.slice (some ⟨b,o,none⟩) n c) (some (.int .i64 (4 * (t:Int)))) (some (.int .i64 (4 * (t:Int) + 4))) none).run Tryz.prog w = .ok (.slice (some ⟨b,o + 4 * t,none⟩) 4 (c - 4 * t)) w:=by
 have hu:Tryz.prog.underlying 117 = some (.slice (Tryz.prog.elem 117)):=Tryz.underlying117
 have hs:(sizeOf (Tryz.prog.elem 117)).run Tryz.prog w = .ok 1 w:=by rfl
 rw [run_slice_lh _ _ _ _ _ hu .i64 .i64 (4 * (t:Int)) (4 * (t:Int) + 4) (by omega) (by omega) (by omega),hs]
 have h1:(4 * (t:Int) + 4).toNat = 4 * t + 4:=by omega
 have h2:(4 * (t:Int)).toNat = 4 * t:=by omega
 simp only [Result.andThen,h1,h2]
 unfold sliced
 rw [if_neg (by omega:¬ c = 4 * t),Nat.mul_one,Option.map_some,add_off,Nat.add_sub_cancel_left]
theorem wds_start {W:World} {b N:Nat} {g g':Nat → Nat} (h:Wds W b N g):Wds W.drew b N (if false = true then g' else g):=by rw [if_neg (by decide)]; exact ⟨h.cell,h.free⟩
theorem rorB_any (x n:Nat) (w:World) (hx:x < 4294967296) (hn:n = 2 ∨ n = 6 ∨ n = 7 ∨ n = 11 ∨ n = 13 ∨ n = 17 ∨ n = 18 ∨ n = 19 ∨ n = 22 ∨ n = 25) :
  Calls Tryz.prog 241 #[.int .u32 x,.int .i64 n] w fun e w' => e = .returned (.int .u32 (rotr x n)) ∧ Below w.heap.size w w':=
 (ror_any x n w hx hn).mono fun _ _ ⟨e,m,h⟩ => ⟨e,by rw [h]; exact below_drewN (Below.refl _ _) m⟩
theorem wordB_any (b off n cap:Nat) (hn:4 ≤ n) (hcap:n ≤ cap) (f:Nat → Nat) (hf:∀ k,f k < 256) (w:World) (hc:∀ k,k < 4 → w.cell? ⟨b,off + k,none⟩ = some (.int .u8 (f k:Nat))) :
  Calls Tryz.prog 240 #[.slice (some ⟨b,off,none⟩) n cap] w fun e w' => e = .returned (.int .u32 (wd (f 0) (f 1) (f 2) (f 3):Nat)) ∧ Below w.heap.size w w':=
 (rword_any ⟨b,off,none⟩ b off n cap rfl hn hcap f hf w hc).mono fun _ _ ⟨e,m,h⟩ => ⟨e,by rw [h]; exact below_drewN (Below.refl _ _) m⟩
theorem z64_rep:z64 = Array.replicate 64 (.int .u32 0):=rfl
theorem z64_at {k:Nat} (hk:k < 64):z64.toList[k]? = some (.int .u32 ((0:Nat):Int)):=by
 rw [Array.getElem?_toList,z64_rep,Array.getElem?_replicate,if_pos hk]; rfl
theorem frozen_setCells (b:Nat) (a:Addr):∀ (L:List Value) (o:Nat) (w:World),(w.setCells b o L).frozen? a = w.frozen? a
 | [],_,_ => rfl
 | v :: L,o,w => by rw [World.setCells,frozen_setCells b a L (o + 1),World.frozen?_setCell]
theorem put_wds (w:World) (t:TypeId):Wds ((w.alloc (.cells z64 t)).setCells w.heap.size 0 z64.toList) w.heap.size 64 (fun _ => 0) where
 cell k hk:=by
  have h:=World.rangeAt_setCells_same (w.alloc (.cells z64 t)) w.heap.size 0 z64.toList (there_new _ _ _ rfl) k _ (z64_at hk)
  rwa [Nat.zero_add] at h
 free k _:=by rw [frozen_setCells]; exact row_free (World.alloc_heap_new w (.cells z64 t)) k
theorem put_wds2 (w:World) (t:TypeId) (T:List Nat) (hT:T.length = 64):Wds ((w.alloc (.cells z64 t)).setCells w.heap.size 0 (T.map wordV)) w.heap.size 64 (fun k => T.getD k 0) where
 cell k hk:=by
  have h:=World.rangeAt_setCells_same (w.alloc (.cells z64 t)) w.heap.size 0 (T.map wordV) (by rw [List.length_map,hT]; exact there_new _ _ _ rfl) k (wordV (T.getD k 0)) (by
   rw [List.getElem?_map,List.getD_eq_getElem?_getD,List.getElem?_eq_getElem (by omega)]; rfl)
  rwa [Nat.zero_add] at h
 free k _:=by rw [frozen_setCells]; exact row_free (World.alloc_heap_new w (.cells z64 t)) k
theorem z64_one:z64.all (·.oneCell') = true:=by
 rw [z64_rep,Array.all_replicate]; rfl
structure FBl11 (w0:World) (wb:Nat) (gg:Nat → Nat) (t:Nat) (x:Nat) (y:Nat) (z:Nat) (u:Nat) (r7:Nat) (r18:Nat) (r17:Nat) (r19:Nat) (c1:Nat) (c2:Nat) (c3:Nat) (c4:Nat) (c5:Nat) (d1:Nat) (d2:Nat) (d3:Nat) (c6:Nat) (done:Nat → Bool) (v:Nat → Value) (w:World):Prop where
 b:Below wb w0 w
 f0:done 0 = true → v 0 = .int .i64 (t:Int)
 f1:done 1 = true → v 1 = .int .i64 (t:Int)
 f2:done 2 = true → v 2 = .int .i64 ((t:Int) - 16)
 f3:done 3 = true → v 3 = .pointer (some ⟨wb,t - 16,none⟩)
 f4:done 4 = true → v 4 = .int .u32 (z:Int)
 f5:done 5 = true → v 5 = .int .u32 (x:Int)
 f6:done 6 = true → v 6 = .int .u32 (r7:Int)
 f7:done 7 = true → v 7 = .int .u32 (x:Int)
 f8:done 8 = true → v 8 = .int .u32 (r18:Int)
 f9:done 9 = true → v 9 = .int .u32 (c1:Int)
 f10:done 10 = true → v 10 = .int .u32 (x:Int)
 f11:done 11 = true → v 11 = .int .u32 (c2:Int)
 f12:done 12 = true → v 12 = .int .u32 (c3:Int)
 f13:done 13 = true → v 13 = .int .u32 (c4:Int)
 f14:done 14 = true → v 14 = .int .i64 (t:Int)
 f15:done 15 = true → v 15 = .int .i64 ((t:Int) - 7)
 f16:done 16 = true → v 16 = .pointer (some ⟨wb,t - 7,none⟩)
 f17:done 17 = true → v 17 = .int .u32 (u:Int)
 f18:done 18 = true → v 18 = .int .u32 (c5:Int)
 f19:done 19 = true → v 19 = .int .u32 (y:Int)
 f20:done 20 = true → v 20 = .int .u32 (r17:Int)
 f21:done 21 = true → v 21 = .int .u32 (y:Int)
 f22:done 22 = true → v 22 = .int .u32 (r19:Int)
 f23:done 23 = true → v 23 = .int .u32 (d1:Int)
 f24:done 24 = true → v 24 = .int .u32 (y:Int)
 f25:done 25 = true → v 25 = .int .u32 (d2:Int)
 f26:done 26 = true → v 26 = .int .u32 (d3:Int)
 f27:done 27 = true → v 27 = .int .u32 (c6:Int)
 f28:done 28 = true → v 28 = .pointer (some ⟨wb,t,none⟩)
 wd:Wds w wb 64 (if done 29 = true then upd gg t c6 else gg)
structure FBl13 (w0:World) (bb:Nat) (sa:Nat) (sb:Nat) (sc:Nat) (sd:Nat) (se:Nat) (sf:Nat) (sg:Nat) (sh:Nat) (done:Nat → Bool) (v:Nat → Value) (w:World):Prop where
 b:Below w0.heap.size w0 w
 f0:done 0 = true → v 0 = .pointer (some ⟨bb,0,none⟩)
 f1:done 1 = true → v 1 = .int .u32 (sa:Int)
 f2:done 2 = true → v 2 = .pointer (some ⟨bb,1,none⟩)
 f3:done 3 = true → v 3 = .int .u32 (sb:Int)
 f4:done 4 = true → v 4 = .pointer (some ⟨bb,2,none⟩)
 f5:done 5 = true → v 5 = .int .u32 (sc:Int)
 f6:done 6 = true → v 6 = .pointer (some ⟨bb,3,none⟩)
 f7:done 7 = true → v 7 = .int .u32 (sd:Int)
 f8:done 8 = true → v 8 = .pointer (some ⟨bb,4,none⟩)
 f9:done 9 = true → v 9 = .int .u32 (se:Int)
 f10:done 10 = true → v 10 = .pointer (some ⟨bb,5,none⟩)
 f11:done 11 = true → v 11 = .int .u32 (sf:Int)
 f12:done 12 = true → v 12 = .pointer (some ⟨bb,6,none⟩)
 f13:done 13 = true → v 13 = .int .u32 (sg:Int)
 f14:done 14 = true → v 14 = .pointer (some ⟨bb,7,none⟩)
 f15:done 15 = true → v 15 = .int .u32 (sh:Int)
 f16:done 16 = true → v 16 = .int .u32 (sa:Int)
 f17:done 17 = true → v 17 = .int .u32 (sb:Int)
 f18:done 18 = true → v 18 = .int .u32 (sc:Int)
 f19:done 19 = true → v 19 = .int .u32 (sd:Int)
 f20:done 20 = true → v 20 = .int .u32 (se:Int)
 f21:done 21 = true → v 21 = .int .u32 (sf:Int)
 f22:done 22 = true → v 22 = .int .u32 (sg:Int)
 f23:done 23 = true → v 23 = .int .u32 (sh:Int)
structure FBl17 (w0:World) (wb:Nat) (kb:Nat) (t:Nat) (ve:Nat) (vf:Nat) (vg:Nat) (vh:Nat) (r6:Nat) (r11:Nat) (r25:Nat) (x1:Nat) (x2:Nat) (y1:Nat) (y2:Nat) (y3:Nat) (y4:Nat) (y5:Nat) (y6:Nat) (kk:Nat) (y7:Nat) (ww:Nat) (y8:Nat) (done:Nat → Bool) (v:Nat → Value) (w:World):Prop where
 b:Below w0.heap.size w0 w
 f0:done 0 = true → v 0 = .int .u32 (vh:Int)
 f1:done 1 = true → v 1 = .int .u32 (ve:Int)
 f2:done 2 = true → v 2 = .int .u32 (r6:Int)
 f3:done 3 = true → v 3 = .int .u32 (ve:Int)
 f4:done 4 = true → v 4 = .int .u32 (r11:Int)
 f5:done 5 = true → v 5 = .int .u32 (x1:Int)
 f6:done 6 = true → v 6 = .int .u32 (ve:Int)
 f7:done 7 = true → v 7 = .int .u32 (r25:Int)
 f8:done 8 = true → v 8 = .int .u32 (x2:Int)
 f9:done 9 = true → v 9 = .int .u32 (y1:Int)
 f10:done 10 = true → v 10 = .int .u32 (ve:Int)
 f11:done 11 = true → v 11 = .int .u32 (vf:Int)
 f12:done 12 = true → v 12 = .int .u32 (y2:Int)
 f13:done 13 = true → v 13 = .int .u32 (ve:Int)
 f14:done 14 = true → v 14 = .int .u32 (y3:Int)
 f15:done 15 = true → v 15 = .int .u32 (vg:Int)
 f16:done 16 = true → v 16 = .int .u32 (y4:Int)
 f17:done 17 = true → v 17 = .int .u32 (y5:Int)
 f18:done 18 = true → v 18 = .int .u32 (y6:Int)
 f19:done 19 = true → v 19 = .int .i64 (t:Int)
 f20:done 20 = true → v 20 = .pointer (some ⟨kb,t,none⟩)
 f21:done 21 = true → v 21 = .int .u32 (kk:Int)
 f22:done 22 = true → v 22 = .int .u32 (y7:Int)
 f23:done 23 = true → v 23 = .int .i64 (t:Int)
 f24:done 24 = true → v 24 = .pointer (some ⟨wb,t,none⟩)
 f25:done 25 = true → v 25 = .int .u32 (ww:Int)
 f26:done 26 = true → v 26 = .int .u32 (y8:Int)
 f27:done 27 = true → v 27 = .int .u32 (y8:Int)
theorem rblock_any (s:St) (hs:s.Ok) (b off n cap:Nat) (f:Nat → Nat) (hf:∀ k,f k < 256) (hn:64 ≤ n) (hcap:n ≤ cap) (w:World) (hc:∀ k,k < 64 → w.cell? ⟨b,off + k,none⟩ = some (.int .u8 (f k:Nat))) :
  Calls Tryz.prog 231 #[.agg (stA s),.slice (some ⟨b,off,none⟩) n cap] w fun e w' => e = .returned (.agg (stA (s.absorb f))) ∧ Below w.heap.size w w':=by
 have HS:=Lib.hid hs
 have HF:=Lib.hid hf
 have HC:=Lib.hid (fun W (h:Below w.heap.size w W) k (hk:k < 64) => below_cell h (hc k hk))
 have HNC:=Lib.hid (And.intro hn hcap)
 clear hs hf hc hn hcap
 obtain ⟨W0,hW0⟩:∃ W,W = w.alloc (.cells (stA s) 220):=⟨_,rfl⟩
 have hs0:W0.heap.size = w.heap.size + 1:=by rw [hW0]; simp
 have hr0:W0.heap[w.heap.size]? = some (.cells (stA s) 220 (0,0)):=by rw [hW0]; exact World.alloc_heap_new _ _
 have hb0:Below w.heap.size w W0:=by rw [hW0]; exact below_new _ _ _
 obtain ⟨W1,hW1⟩:∃ W,W = W0.alloc (.cells #[.int .u32 0,.int .u32 0,.int .u32 0,.int .u32 0,.int .u32 0,.int .u32 0,.int .u32 0,.int .u32 0] 220):=⟨_,rfl⟩
 have hs1:W1.heap.size = w.heap.size + 2:=by rw [hW1]; simp [hs0]
 have hb1:Below W0.heap.size W0 W1:=by rw [hW1]; exact below_new _ _ _
 have hr1:W1.heap[w.heap.size + 1]? = some (.cells #[.int .u32 0,.int .u32 0,.int .u32 0,.int .u32 0,.int .u32 0,.int .u32 0,.int .u32 0,.int .u32 0] 220 (0,0)):=by rw [hW1,← hs0]; exact World.alloc_heap_new _ _
 obtain ⟨W2,hW2⟩:∃ W,W = W1.alloc (.cells z64 238):=⟨_,rfl⟩
 obtain ⟨W3,hW3⟩:∃ W,W = W2.setCells (w.heap.size + 2) 0 z64.toList:=⟨_,rfl⟩
 have hwd:Wds W3 (w.heap.size + 2) 64 (fun _ => 0):=by rw [hW3,hW2,← hs1]; exact put_wds W1 _
 have hb3:Below W1.heap.size W1 W3:=by rw [hW3,hW2,← hs1]; exact below_setCells (Nat.le_refl _) _ _ _ (below_new _ _ _)
 have hth:W2.there (w.heap.size + 2) 0 64:=by rw [hW2,← hs1]; exact there_new _ _ _ rfl
 have Q0:=Lib.hid ((hb3.block _ (by omega)).trans ((hb1.block _ (row_lt hr0)).trans hr0))
 have Q1:=Lib.hid ((hb3.block _ (row_lt hr1)).trans hr1)
 have HB3:=Lib.hid (hb0.trans ((hb1.trans (hb3.mono hb1.size)).mono hb0.size))
 have HWD:=Lib.hid hwd
 have HTH:=Lib.hid hth
 have HZ3:=Lib.hid (show W3.heap.size = w.heap.size + 3 by rw [hW3,setCells_size,hW2]; simp [hs1])
 rw [hW0] at hW1
 have HW1:=Lib.hid hW1
 simp only [z64] at hW2
 have HW2:=Lib.hid hW2
 have HW3:=Lib.hid hW3
 have HZ1:=Lib.hid hs1
 clear hW0 hs0 hr0 hb0 hW1 hs1 hb1 hr1 hW2 hW3 hwd hb3 hth
 go_enter Tryz.func231,Tryz.ntmps231
 go_wp2_with (first
  | rw [← HW1.out]
  | (rw [← HW2.out]; rw [HZ1.out])
  | (refine wpList_store_mid rfl 238 (.tmp 5) (.tmp 22) rfl (w.heap.size + 2) 0 z64 rfl rfl HTH.out infoK z64_one ?_; rw [← HW3.out]))
 go_loopw [6] (fun i W => ∃ t:Nat,t ≤ 16 ∧ i = .int .i64 t ∧ Below (w.heap.size + 2) W3 W ∧ Wds W (w.heap.size + 2) 64 (sch0 f t)) (fun i _ => 16 - (intOf i).toNat)
 case atStart => exact ⟨0,Nat.zero_le _,rfl,Below.refl _ _,HWD.out.congr (fun k _ => by unfold sch0; rw [if_neg (Nat.not_lt_zero _)])⟩
 case round =>
  obtain ⟨t,ht,rfl,hb,hwd⟩:=hrel
  have HBT:=Lib.hid hb
  have HW:=Lib.hid hwd
  have HBW:=Lib.hid (HB3.out.trans (hb.mono (by omega)))
  by_cases hlt:t < 16
  ·have HSL:=Lib.hid (fun W => run_slice_w b off n cap t (by have:=HNC.out; omega) HNC.out.2 W)
   have HWO:=Lib.hid (fun W (h:Below w.heap.size w W) => wordB_any b (off + 4 * t) 4 (cap - 4 * t) (Nat.le_refl _) (by have:=HNC.out; omega) (fun k => f (4 * t + k)) (fun k => HF.out _) W (fun k hk => by rw [Nat.add_assoc]; exact HC.out W h (4 * t + k) (by omega)))
   have HV:Hid (wd (f (4 * t + 0)) (f (4 * t + 1)) (f (4 * t + 2)) (f (4 * t + 3)) = schd f t):=Lib.hid (schd_small f hlt).symm
   have d0:decide ((t:Int) < 16) = true:=decide_eq_true (by omega)
   have w1:IntKind.i64.wrap (4 * (t:Int)) = 4 * (t:Int):=IntWalk.i64_in _ (by omega)
   have w2:IntKind.i64.wrap (4 * (t:Int) + 4) = 4 * (t:Int) + 4:=IntWalk.i64_in _ (by omega)
   have hsl:=HSL.out
   clear hb hwd
   go_wp2_with fail
   with_reducible refine (HWO.out _ HBW.out).mono ?_
   rintro e w5 ⟨rfl,hb5⟩
   have hlt5:w.heap.size + 2 < wr.heap.size:=by have:=HZ3.out; have:=HBT.out.size; omega
   have HW5:=Lib.hid (HW.out.below hb5 hlt5)
   have cw:=HW5.out.cell t (by omega)
   have fw:=HW5.out.free t (by omega)
   have HB5:=Lib.hid (HBT.out.trans (hb5.mono (Nat.le_of_lt hlt5)))
   rw [HV.out]
   have j0:0 ≤ (t:Int):=by omega
   have j1:(t:Int) < 64:=by omega
   clear hb5 hlt5 hsl w1 w2 HWO HSL HV
   obtain ⟨x,hx⟩:∃ x,x = schd f t:=⟨_,rfl⟩
   rw [← hx]
   have HX:=Lib.hid hx
   clear hx
   go_wp2_with fail
   go_roundw
   case rel => exact ⟨t + 1,by omega,by go_num,HB5.out.setCell (Nat.le_refl _) _,by rw [← sch0_upd,← HX.out]; exact HW5.out.set (by omega)⟩
   case measure => simp [intOf]; omega
  ·obtain rfl:t = 16:=by omega
   have d0:decide (((16:Nat):Int) < 16) = false:=by decide
   clear hb hwd
   go_wp2_with fail
   go_loopw [7,8,9] (fun i _ _ W => ∃ t:Nat,16 ≤ t ∧ t ≤ 64 ∧ i = .int .i64 t ∧ Below (w.heap.size + 2) W3 W ∧ Wds W (w.heap.size + 2) 64 (sch0 f t)) (fun i _ _ _ => 64 - (intOf i).toNat)
   case atStart => exact ⟨16,Nat.le_refl _,by omega,rfl,HBT.out,HW.out⟩
   case round =>
    obtain ⟨t,ht1,ht2,rfl,hb,hwd⟩:=hrel
    have HBT:=Lib.hid hb
    have HW:=Lib.hid hwd
    have HBW:=Lib.hid (HB3.out.trans (hb.mono (by omega)))
    by_cases hlt:t < 64
    ·have d0:decide ((t:Int) < 64) = true:=decide_eq_true (by omega)
     have HLT:=Lib.hid (show w.heap.size + 2 < wr.heap.size by have:=HZ3.out; have:=HBT.out.size; omega)
     obtain ⟨x,hx⟩:∃ x,x = schd f (t - 15):=⟨_,rfl⟩
     obtain ⟨y,hy⟩:∃ x,x = schd f (t - 2):=⟨_,rfl⟩
     obtain ⟨z,hz⟩:∃ x,x = schd f (t - 16):=⟨_,rfl⟩
     obtain ⟨u,hu⟩:∃ x,x = schd f (t - 7):=⟨_,rfl⟩
     have sl:∀ k,k < t → sch0 f t k = schd f k:=fun k hk => if_pos hk
     have hx32:x < 4294967296:=by rw [hx]; exact schd_lt HF.out _
     have hy32:y < 4294967296:=by rw [hy]; exact schd_lt HF.out _
     have HGZ:Hid (sch0 f t (t - 16) = z):=Lib.hid (by rw [hz]; exact sl _ (by omega))
     have HGU:Hid (sch0 f t (t - 7) = u):=Lib.hid (by rw [hu]; exact sl _ (by omega))
     have cx:=HW.out.cell (t - 15) (by omega)
     have cy:=HW.out.cell (t - 2) (by omega)
     rw [sl _ (by omega),← hx] at cx
     rw [sl _ (by omega),← hy] at cy
     have HSC:Hid (schd f t = add32 (add32 (add32 z (mix x 7 18 3)) u) (mix y 17 19 10)):=Lib.hid (by rw [hx,hy,hz,hu]; exact schd_great f ht1)
     obtain ⟨r7,e7⟩:∃ r,r = rotr x 7:=⟨_,rfl⟩
     obtain ⟨r18,e18⟩:∃ r,r = rotr x 18:=⟨_,rfl⟩
     obtain ⟨r17,e17⟩:∃ r,r = rotr y 17:=⟨_,rfl⟩
     obtain ⟨r19,e19⟩:∃ r,r = rotr y 19:=⟨_,rfl⟩
     have HR7:=Lib.hid (fun W => show Calls Tryz.prog 241 #[.int .u32 (x:Int),.int .i64 7] W (fun e w' => e = .returned (.int .u32 (r7:Int)) ∧ Below W.heap.size W w') from by rw [e7]; exact rorB_any x 7 W hx32 (by omega))
     have HR18:=Lib.hid (fun W => show Calls Tryz.prog 241 #[.int .u32 (x:Int),.int .i64 18] W (fun e w' => e = .returned (.int .u32 (r18:Int)) ∧ Below W.heap.size W w') from by rw [e18]; exact rorB_any x 18 W hx32 (by omega))
     have HR17:=Lib.hid (fun W => show Calls Tryz.prog 241 #[.int .u32 (y:Int),.int .i64 17] W (fun e w' => e = .returned (.int .u32 (r17:Int)) ∧ Below W.heap.size W w') from by rw [e17]; exact rorB_any y 17 W hy32 (by omega))
     have HR19:=Lib.hid (fun W => show Calls Tryz.prog 241 #[.int .u32 (y:Int),.int .i64 19] W (fun e w' => e = .returned (.int .u32 (r19:Int)) ∧ Below W.heap.size W w') from by rw [e19]; exact rorB_any y 19 W hy32 (by omega))
     have l7:r7 < 4294967296:=by rw [e7]; exact rotr_lt hx32
     have l18:r18 < 4294967296:=by rw [e18]; exact rotr_lt hx32
     have l17:r17 < 4294967296:=by rw [e17]; exact rotr_lt hy32
     have l19:r19 < 4294967296:=by rw [e19]; exact rotr_lt hy32
     obtain ⟨c1,e1⟩:∃ r,r = r7 ^^^ r18:=⟨_,rfl⟩
     obtain ⟨c2,e2⟩:∃ r,r = x / 2 ^ 3:=⟨_,rfl⟩
     obtain ⟨c3,e3⟩:∃ r,r = c1 ^^^ c2:=⟨_,rfl⟩
     obtain ⟨c4,e4⟩:∃ r,r = add32 z c3:=⟨_,rfl⟩
     obtain ⟨c5,e5⟩:∃ r,r = add32 c4 u:=⟨_,rfl⟩
     obtain ⟨d1,f1⟩:∃ r,r = r17 ^^^ r19:=⟨_,rfl⟩
     obtain ⟨d2,f2⟩:∃ r,r = y / 2 ^ 10:=⟨_,rfl⟩
     obtain ⟨d3,f3⟩:∃ r,r = d1 ^^^ d2:=⟨_,rfl⟩
     obtain ⟨c6,e6⟩:∃ r,r = add32 c5 d3:=⟨_,rfl⟩
     have HC6:Hid (schd f t = c6):=Lib.hid (by rw [HSC.out,e6,e5,e4,e3,f3,e1,e2,f1,f2,e7,e18,e17,e19]; rfl)
     have m9:bits .xor .u32 (r7:Int) (r18:Int) = (c1:Int):=by rw [e1]; exact u32_xor_nat _ _ l7 l18
     have m11:(x:Int) / 8 = (c2:Int):=by rw [e2]; omega
     have m12:bits .xor .u32 (c1:Int) (c2:Int) = (c3:Int):=by rw [e3]; exact u32_xor_nat _ _ (by rw [e1]; exact xor_lt32 l7 l18) (by rw [e2]; omega)
     have m13:IntKind.u32.wrap ((z:Int) + (c3:Int)) = (c4:Int):=by rw [e4]; exact add32_wrap _ _
     have n13:((z:Int) + (c3:Int)) % 4294967296 = (c4:Int):=by rw [e4]; exact add32_mod _ _
     have m18:IntKind.u32.wrap ((c4:Int) + (u:Int)) = (c5:Int):=by rw [e5]; exact add32_wrap _ _
     have n18:((c4:Int) + (u:Int)) % 4294967296 = (c5:Int):=by rw [e5]; exact add32_mod _ _
     have m23:bits .xor .u32 (r17:Int) (r19:Int) = (d1:Int):=by rw [f1]; exact u32_xor_nat _ _ l17 l19
     have m25:(y:Int) / 1024 = (d2:Int):=by rw [f2]; omega
     have m26:bits .xor .u32 (d1:Int) (d2:Int) = (d3:Int):=by rw [f3]; exact u32_xor_nat _ _ (by rw [f1]; exact xor_lt32 l17 l19) (by rw [f2]; omega)
     have m27:IntKind.u32.wrap ((c5:Int) + (d3:Int)) = (c6:Int):=by rw [e6]; exact add32_wrap _ _
     have n27:((c5:Int) + (d3:Int)) % 4294967296 = (c6:Int):=by rw [e6]; exact add32_mod _ _
     have w15:((t:Int) - 15).toNat = t - 15:=by omega
     have w2':((t:Int) - 2).toNat = t - 2:=by omega
     have w16:((t:Int) - 16).toNat = t - 16:=by omega
     have w7:((t:Int) - 7).toNat = t - 7:=by omega
     have v15:0 ≤ (t:Int) - 15 ∧ (t:Int) - 15 < 64:=by omega
     have v2:0 ≤ (t:Int) - 2 ∧ (t:Int) - 2 < 64:=by omega
     have v16:0 ≤ (t:Int) - 16 ∧ (t:Int) - 16 < 64:=by omega
     have v7:0 ≤ (t:Int) - 7 ∧ (t:Int) - 7 < 64:=by omega
     have j0:0 ≤ (t:Int) ∧ (t:Int) < 64:=by omega
     have p16:IntKind.i64.wrap ((t:Int) - 16) = (t:Int) - 16:=IntWalk.i64_in _ (by omega)
     have p7:IntKind.i64.wrap ((t:Int) - 7) = (t:Int) - 7:=IntWalk.i64_in _ (by omega)
     have k16:(16:Int) ≤ (t:Int):=by omega
     have k7:(7:Int) ≤ (t:Int):=by omega
     obtain ⟨v15,u15⟩:=v15
     obtain ⟨v2,u2⟩:=v2
     obtain ⟨v16,u16⟩:=v16
     obtain ⟨v7,u7⟩:=v7
     obtain ⟨j0,j1⟩:=j0
     clear e7 e18 e17 e19 e1 e2 e3 e4 e5 e6 f1 f2 f3 hx hy hz hu sl l7 l18 l17 l19 hx32 hy32 hb hwd HSC
     go_wp2_with fail
     clear cx cy w15 w2' v15 u15 v2 u2
     refine wp_region_flowsG (by kernel_rfl) (by kernel_rfl) (by kernel_rfl) (by kernel_rfl) (fun done v W => FBl11 wr ((w.heap.size + 2)) ((sch0 f t)) (t) (x) (y) (z) (u) (r7) (r18) (r17) (r19) (c1) (c2) (c3) (c4) (c5) (d1) (d2) (d3) (c6) done v W) (fun v => ?_) ?_ (fun v W h => ?_)
     ·exact ⟨(Below.refl _ _).drew,(fun h => by cases h),(fun h => by cases h),(fun h => by cases h),(fun h => by cases h),(fun h => by cases h),(fun h => by cases h),(fun h => by cases h),(fun h => by cases h),(fun h => by cases h),(fun h => by cases h),(fun h => by cases h),(fun h => by cases h),(fun h => by cases h),(fun h => by cases h),(fun h => by cases h),(fun h => by cases h),(fun h => by cases h),(fun h => by cases h),(fun h => by cases h),(fun h => by cases h),(fun h => by cases h),(fun h => by cases h),(fun h => by cases h),(fun h => by cases h),(fun h => by cases h),(fun h => by cases h),(fun h => by cases h),(fun h => by cases h),(fun h => by cases h),(wds_start HW.out)⟩
     ·refine ⟨?_,?_,?_,?_,?_,?_,?_,?_,?_,?_,?_,?_,?_,?_,?_,?_,?_,?_,?_,?_,?_,?_,?_,?_,?_,?_,?_,?_,?_,?_,trivial⟩
      ·intro done v W A h hd hp hu hA hB hdf
       have e0:A.tmps[7]?.getD undef = .int .i64 (t:Int):=hB 7 rfl
       clear hA hB hp hu hdf
       go_simp
       exact ⟨_,rfl,{ h with f0:=(fun _ => rfl) }⟩
      ·intro done v W A h hd hp hu hA hB hdf
       have e0:A.tmps[7]?.getD undef = .int .i64 (t:Int):=hB 7 rfl
       clear hA hB hp hu hdf
       go_simp
       exact ⟨_,rfl,{ h with f1:=(fun _ => rfl) }⟩
      ·intro done v W A h hd hp hu hA hB hdf
       have hd1:done 1 = true:=hp 1 rfl
       have e0:=(hA 1 50 rfl hd1).trans (h.f1 hd1)
       clear hA hB hp hu hdf
       go_simp
       exact ⟨_,rfl,{ h with f2:=(fun _ => rfl) }⟩
      ·intro done v W A h hd hp hu hA hB hdf
       have hd2:done 2 = true:=hp 2 rfl
       have e0:A.tmps[5]?.getD undef = .pointer (some ⟨(w.heap.size + 2),0,none⟩):=hB 5 rfl
       have e1:=(hA 2 51 rfl hd2).trans (h.f2 hd2)
       clear hA hB hp hu hdf
       go_simp
       exact ⟨_,rfl,{ h with f3:=(fun _ => rfl) }⟩
      ·intro done v W A h hd hp hu hA hB hdf
       have n29_4:done 29 = false:=flow_not (fun hj => hu 29 4 rfl (hj)) hd
       have hd3:done 3 = true:=hp 3 rfl
       have e0:=(hA 3 52 rfl hd3).trans (h.f3 hd3)
       have wd_:=h.wd
       rw [if_neg (by rw [n29_4]; decide)] at wd_
       have y0_:=wd_.cell (t - 16) (by omega)
       rw [HGZ.out] at y0_
       clear hA hB hp hu hdf
       go_simp
       exact ⟨_,rfl,{ h with f4:=(fun _ => rfl) }⟩
      ·intro done v W A h hd hp hu hA hB hdf
       have e0:A.tmps[8]?.getD undef = .int .u32 (x:Int):=hB 8 rfl
       clear hA hB hp hu hdf
       go_simp
       exact ⟨_,rfl,{ h with f5:=(fun _ => rfl) }⟩
      ·intro done v W A h hd hp hu hA hB hdf
       have hd5:done 5 = true:=hp 5 rfl
       have e0:=(hA 5 54 rfl hd5).trans (h.f5 hd5)
       clear hA hB hp hu hdf
       go_simp
       with_reducible refine (HR7.out W).mono ?_
       rintro e wq ⟨rfl,hb⟩
       exact ⟨_,rfl,{ h with b:=h.b.trans (hb.mono (Nat.le_of_lt (Nat.lt_of_lt_of_le HLT.out h.b.size))),f6:=(fun _ => rfl),wd:=(h.wd.below hb (Nat.lt_of_lt_of_le HLT.out h.b.size)) }⟩
      ·intro done v W A h hd hp hu hA hB hdf
       have e0:A.tmps[8]?.getD undef = .int .u32 (x:Int):=hB 8 rfl
       clear hA hB hp hu hdf
       go_simp
       exact ⟨_,rfl,{ h with f7:=(fun _ => rfl) }⟩
      ·intro done v W A h hd hp hu hA hB hdf
       have hd7:done 7 = true:=hp 7 rfl
       have e0:=(hA 7 56 rfl hd7).trans (h.f7 hd7)
       clear hA hB hp hu hdf
       go_simp
       with_reducible refine (HR18.out W).mono ?_
       rintro e wq ⟨rfl,hb⟩
       exact ⟨_,rfl,{ h with b:=h.b.trans (hb.mono (Nat.le_of_lt (Nat.lt_of_lt_of_le HLT.out h.b.size))),f8:=(fun _ => rfl),wd:=(h.wd.below hb (Nat.lt_of_lt_of_le HLT.out h.b.size)) }⟩
      ·intro done v W A h hd hp hu hA hB hdf
       have hd6:done 6 = true:=hp 6 rfl
       have hd8:done 8 = true:=hp 8 rfl
       have e0:=(hA 6 55 rfl hd6).trans (h.f6 hd6)
       have e1:=(hA 8 57 rfl hd8).trans (h.f8 hd8)
       clear hA hB hp hu hdf
       go_simp
       exact ⟨_,rfl,{ h with f9:=(fun _ => rfl) }⟩
      ·intro done v W A h hd hp hu hA hB hdf
       have e0:A.tmps[8]?.getD undef = .int .u32 (x:Int):=hB 8 rfl
       clear hA hB hp hu hdf
       go_simp
       exact ⟨_,rfl,{ h with f10:=(fun _ => rfl) }⟩
      ·intro done v W A h hd hp hu hA hB hdf
       have hd10:done 10 = true:=hp 10 rfl
       have e0:=(hA 10 59 rfl hd10).trans (h.f10 hd10)
       clear hA hB hp hu hdf
       go_simp
       exact ⟨_,rfl,{ h with f11:=(fun _ => rfl) }⟩
      ·intro done v W A h hd hp hu hA hB hdf
       have hd9:done 9 = true:=hp 9 rfl
       have hd11:done 11 = true:=hp 11 rfl
       have e0:=(hA 9 58 rfl hd9).trans (h.f9 hd9)
       have e1:=(hA 11 60 rfl hd11).trans (h.f11 hd11)
       clear hA hB hp hu hdf
       go_simp
       exact ⟨_,rfl,{ h with f12:=(fun _ => rfl) }⟩
      ·intro done v W A h hd hp hu hA hB hdf
       have hd4:done 4 = true:=hp 4 rfl
       have hd12:done 12 = true:=hp 12 rfl
       have e0:=(hA 4 53 rfl hd4).trans (h.f4 hd4)
       have e1:=(hA 12 61 rfl hd12).trans (h.f12 hd12)
       clear hA hB hp hu hdf
       go_simp
       exact ⟨_,rfl,{ h with f13:=(fun _ => rfl) }⟩
      ·intro done v W A h hd hp hu hA hB hdf
       have e0:A.tmps[7]?.getD undef = .int .i64 (t:Int):=hB 7 rfl
       clear hA hB hp hu hdf
       go_simp
       exact ⟨_,rfl,{ h with f14:=(fun _ => rfl) }⟩
      ·intro done v W A h hd hp hu hA hB hdf
       have hd14:done 14 = true:=hp 14 rfl
       have e0:=(hA 14 63 rfl hd14).trans (h.f14 hd14)
       clear hA hB hp hu hdf
       go_simp
       exact ⟨_,rfl,{ h with f15:=(fun _ => rfl) }⟩
      ·intro done v W A h hd hp hu hA hB hdf
       have hd15:done 15 = true:=hp 15 rfl
       have e0:A.tmps[5]?.getD undef = .pointer (some ⟨(w.heap.size + 2),0,none⟩):=hB 5 rfl
       have e1:=(hA 15 64 rfl hd15).trans (h.f15 hd15)
       clear hA hB hp hu hdf
       go_simp
       exact ⟨_,rfl,{ h with f16:=(fun _ => rfl) }⟩
      ·intro done v W A h hd hp hu hA hB hdf
       have n29_17:done 29 = false:=flow_not (fun hj => hu 29 17 rfl (hj)) hd
       have hd16:done 16 = true:=hp 16 rfl
       have e0:=(hA 16 65 rfl hd16).trans (h.f16 hd16)
       have wd_:=h.wd
       rw [if_neg (by rw [n29_17]; decide)] at wd_
       have y0_:=wd_.cell (t - 7) (by omega)
       rw [HGU.out] at y0_
       clear hA hB hp hu hdf
       go_simp
       exact ⟨_,rfl,{ h with f17:=(fun _ => rfl) }⟩
      ·intro done v W A h hd hp hu hA hB hdf
       have hd13:done 13 = true:=hp 13 rfl
       have hd17:done 17 = true:=hp 17 rfl
       have e0:=(hA 13 62 rfl hd13).trans (h.f13 hd13)
       have e1:=(hA 17 66 rfl hd17).trans (h.f17 hd17)
       clear hA hB hp hu hdf
       go_simp
       exact ⟨_,rfl,{ h with f18:=(fun _ => rfl) }⟩
      ·intro done v W A h hd hp hu hA hB hdf
       have e0:A.tmps[9]?.getD undef = .int .u32 (y:Int):=hB 9 rfl
       clear hA hB hp hu hdf
       go_simp
       exact ⟨_,rfl,{ h with f19:=(fun _ => rfl) }⟩
      ·intro done v W A h hd hp hu hA hB hdf
       have hd19:done 19 = true:=hp 19 rfl
       have e0:=(hA 19 68 rfl hd19).trans (h.f19 hd19)
       clear hA hB hp hu hdf
       go_simp
       with_reducible refine (HR17.out W).mono ?_
       rintro e wq ⟨rfl,hb⟩
       exact ⟨_,rfl,{ h with b:=h.b.trans (hb.mono (Nat.le_of_lt (Nat.lt_of_lt_of_le HLT.out h.b.size))),f20:=(fun _ => rfl),wd:=(h.wd.below hb (Nat.lt_of_lt_of_le HLT.out h.b.size)) }⟩
      ·intro done v W A h hd hp hu hA hB hdf
       have e0:A.tmps[9]?.getD undef = .int .u32 (y:Int):=hB 9 rfl
       clear hA hB hp hu hdf
       go_simp
       exact ⟨_,rfl,{ h with f21:=(fun _ => rfl) }⟩
      ·intro done v W A h hd hp hu hA hB hdf
       have hd21:done 21 = true:=hp 21 rfl
       have e0:=(hA 21 70 rfl hd21).trans (h.f21 hd21)
       clear hA hB hp hu hdf
       go_simp
       with_reducible refine (HR19.out W).mono ?_
       rintro e wq ⟨rfl,hb⟩
       exact ⟨_,rfl,{ h with b:=h.b.trans (hb.mono (Nat.le_of_lt (Nat.lt_of_lt_of_le HLT.out h.b.size))),f22:=(fun _ => rfl),wd:=(h.wd.below hb (Nat.lt_of_lt_of_le HLT.out h.b.size)) }⟩
      ·intro done v W A h hd hp hu hA hB hdf
       have hd20:done 20 = true:=hp 20 rfl
       have hd22:done 22 = true:=hp 22 rfl
       have e0:=(hA 20 69 rfl hd20).trans (h.f20 hd20)
       have e1:=(hA 22 71 rfl hd22).trans (h.f22 hd22)
       clear hA hB hp hu hdf
       go_simp
       exact ⟨_,rfl,{ h with f23:=(fun _ => rfl) }⟩
      ·intro done v W A h hd hp hu hA hB hdf
       have e0:A.tmps[9]?.getD undef = .int .u32 (y:Int):=hB 9 rfl
       clear hA hB hp hu hdf
       go_simp
       exact ⟨_,rfl,{ h with f24:=(fun _ => rfl) }⟩
      ·intro done v W A h hd hp hu hA hB hdf
       have hd24:done 24 = true:=hp 24 rfl
       have e0:=(hA 24 73 rfl hd24).trans (h.f24 hd24)
       clear hA hB hp hu hdf
       go_simp
       exact ⟨_,rfl,{ h with f25:=(fun _ => rfl) }⟩
      ·intro done v W A h hd hp hu hA hB hdf
       have hd23:done 23 = true:=hp 23 rfl
       have hd25:done 25 = true:=hp 25 rfl
       have e0:=(hA 23 72 rfl hd23).trans (h.f23 hd23)
       have e1:=(hA 25 74 rfl hd25).trans (h.f25 hd25)
       clear hA hB hp hu hdf
       go_simp
       exact ⟨_,rfl,{ h with f26:=(fun _ => rfl) }⟩
      ·intro done v W A h hd hp hu hA hB hdf
       have hd18:done 18 = true:=hp 18 rfl
       have hd26:done 26 = true:=hp 26 rfl
       have e0:=(hA 18 67 rfl hd18).trans (h.f18 hd18)
       have e1:=(hA 26 75 rfl hd26).trans (h.f26 hd26)
       clear hA hB hp hu hdf
       go_simp
       exact ⟨_,rfl,{ h with f27:=(fun _ => rfl) }⟩
      ·intro done v W A h hd hp hu hA hB hdf
       have hd0:done 0 = true:=hp 0 rfl
       have e0:A.tmps[5]?.getD undef = .pointer (some ⟨(w.heap.size + 2),0,none⟩):=hB 5 rfl
       have e1:=(hA 0 49 rfl hd0).trans (h.f0 hd0)
       clear hA hB hp hu hdf
       go_simp
       exact ⟨_,rfl,{ h with f28:=(fun _ => rfl) }⟩
      ·intro done v W A h hd hp hu hA hB hdf
       have hd27:done 27 = true:=hp 27 rfl
       have hd28:done 28 = true:=hp 28 rfl
       have wd_:=h.wd
       simp only [hd,Bool.false_eq_true,if_false] at wd_
       have cw:=wd_.cell t (by omega)
       have fw:=wd_.free t (by omega)
       have e1:=(hA 28 77 rfl hd28).trans (h.f28 hd28)
       have e2:=(hA 27 76 rfl hd27).trans (h.f27 hd27)
       have nw:=wd_.set (i:=t) (u:=c6) (by omega)
       clear hA hB hp hu hdf
       go_simp
       exact ⟨undef,{ h with b:=h.b.setCell (Nat.le_refl _) _,wd:=((by rw [if_pos (by rfl)]; exact nw)) }⟩
     simp only [putL,Act.put,Nat.reduceAdd,List.setIfInBounds_toArray,List.set_cons_zero,List.set_cons_succ]
     have hbr:=h.b
     have hwd2:Wds W (w.heap.size + 2) 64 (upd (sch0 f t) t c6):=by have e:=h.wd; rwa [if_pos (by rfl)] at e
     have HW2:=Lib.hid hwd2
     have HBR:=Lib.hid hbr
     clear hwd2 hbr h
     go_wp2_with fail
     go_roundw
     case rel => exact ⟨t + 1,by omega,by omega,by go_num,HBT.out.trans HBR.out,by rw [← sch0_upd,HC6.out]; exact HW2.out⟩
     case measure => simp [intOf]; omega
    ·obtain rfl:t = 64:=by omega
     have d0:decide (((64:Nat):Int) < 64) = false:=by decide
     clear hb hwd
     go_wp2_with fail
     with_reducible refine (rnumbers_any _).mono ?_
     rintro e w4 ⟨rfl,hb4⟩
     obtain ⟨T,hT⟩:∃ T,T = kNum.map wordV:=⟨_,rfl⟩
     have hTl:T.length = 64:=by rw [hT]; rfl
     have H1:=Lib.hid (show T.toArray.all (·.oneCell') = true by rw [hT]; exact wordV_one _)
     have HI:=Lib.hid (infoK.trans (congrArg some (show 64 = T.toArray.size by simpa using hTl.symm)))
     have HTL:=Lib.hid hTl
     obtain ⟨W5,hW5⟩:∃ W,W = w4.alloc (.cells z64 238):=⟨_,rfl⟩
     obtain ⟨W6,hW6⟩:∃ W,W = W5.setCells w4.heap.size 0 T:=⟨_,rfl⟩
     have hth5:W5.there w4.heap.size 0 64:=by rw [hW5]; exact there_new _ _ _ rfl
     have hwk:Wds W6 w4.heap.size 64 kAt:=by rw [hW6,hW5,hT]; exact (put_wds2 w4 _ kNum rfl).congr (fun k _ => rfl)
     have hb6:Below w4.heap.size w4 W6:=by rw [hW6,hW5]; exact below_setCells (Nat.le_refl _) _ _ _ (below_new _ _ _)
     have hlt4:w.heap.size + 2 < wr.heap.size:=by have:=HZ3.out; have:=HBT.out.size; omega
     have hb46:=hb4.trans (hb6.mono hb4.size)
     have hww:Wds W6 (w.heap.size + 2) 64 (sch0 f 64):=HW.out.below hb46 hlt4
     have hq0:=(hb46.block _ (by omega)).trans ((HBT.out.block _ (by omega)).trans Q0.out)
     have Q61:=Lib.hid ((hb46.block _ (by omega)).trans ((HBT.out.block _ (by omega)).trans Q1.out))
     have HKL:=Lib.hid (show w.heap.size + 2 < w4.heap.size ∧ W6.heap.size = w4.heap.size + 1 from ⟨Nat.lt_of_lt_of_le hlt4 hb4.size,by rw [hW6,setCells_size,hW5]; simp⟩)
     have HWK:=Lib.hid hwk
     have HWW:=Lib.hid hww
     have HB6:=Lib.hid (HBW.out.trans (hb46.mono HBW.out.size))
     have HTH5:=Lib.hid hth5
     have Q6:=Lib.hid hq0
     rw [← hT]
     simp only [z64] at hW5
     have HW5:=Lib.hid hW5
     have HW6:=Lib.hid hW6
     obtain ⟨kb,hkb⟩:∃ k,k = w4.heap.size:=⟨_,rfl⟩
     have HKB:=Lib.hid hkb
     clear hT hTl hW5 hW6 hth5 hwk hb6 hlt4 hb46 hww hq0 hb4 HW HBW Q0 HWD hkb HBT
     go_wp2_with (first
      | rw [← HW5.out]
      | (refine wpList_store_mid rfl 238 (.tmp 10) (.tmp 78) rfl w4.heap.size 0 T.toArray rfl rfl (by rw [show T.toArray.size = 64 by simpa using HTL.out]; exact HTH5.out) HI.out H1.out ?_; rw [show T.toArray.toList = T from rfl,← HW6.out]))
     rw [← HKB.out] at HKL HWK ⊢
     clear HKB HTH5 H1 HI HTL HW5 HW6
     have q0:=row_cell Q6.out (k:=0) (v:=.int .u32 (s.a:Int)) rfl
     have q1:=row_cell Q6.out (k:=1) (v:=.int .u32 (s.b:Int)) rfl
     have q2:=row_cell Q6.out (k:=2) (v:=.int .u32 (s.c:Int)) rfl
     have q3:=row_cell Q6.out (k:=3) (v:=.int .u32 (s.d:Int)) rfl
     have q4:=row_cell Q6.out (k:=4) (v:=.int .u32 (s.e:Int)) rfl
     have q5:=row_cell Q6.out (k:=5) (v:=.int .u32 (s.f:Int)) rfl
     have q6:=row_cell Q6.out (k:=6) (v:=.int .u32 (s.g:Int)) rfl
     have q7:=row_cell Q6.out (k:=7) (v:=.int .u32 (s.h:Int)) rfl
     refine wp_region_flowsG (by kernel_rfl) (by kernel_rfl) (by kernel_rfl) (by kernel_rfl) (fun done v W => FBl13 W6 (w.heap.size) (s.a) (s.b) (s.c) (s.d) (s.e) (s.f) (s.g) (s.h) done v W) (fun v => ?_) ?_ (fun v W h => ?_)
     ·exact ⟨(Below.refl _ _).drew,(fun h => by cases h),(fun h => by cases h),(fun h => by cases h),(fun h => by cases h),(fun h => by cases h),(fun h => by cases h),(fun h => by cases h),(fun h => by cases h),(fun h => by cases h),(fun h => by cases h),(fun h => by cases h),(fun h => by cases h),(fun h => by cases h),(fun h => by cases h),(fun h => by cases h),(fun h => by cases h),(fun h => by cases h),(fun h => by cases h),(fun h => by cases h),(fun h => by cases h),(fun h => by cases h),(fun h => by cases h),(fun h => by cases h),(fun h => by cases h)⟩
     ·refine ⟨?_,?_,?_,?_,?_,?_,?_,?_,?_,?_,?_,?_,?_,?_,?_,?_,?_,?_,?_,?_,?_,?_,?_,?_,trivial⟩
      ·intro done v W A h hd hp hu hA hB hdf
       have e0:A.tmps[2]?.getD undef = .pointer (some ⟨w.heap.size,0,none⟩):=hB 2 rfl
       clear hA hB hp hu hdf
       go_simp
       exact ⟨_,rfl,{ h with f0:=(fun _ => rfl) }⟩
      ·intro done v W A h hd hp hu hA hB hdf
       have hd0:done 0 = true:=hp 0 rfl
       have e0:=(hA 0 79 rfl hd0).trans (h.f0 hd0)
       have y0_:=below_cell h.b q0
       clear hA hB hp hu hdf
       go_simp
       exact ⟨_,rfl,{ h with f1:=(fun _ => rfl) }⟩
      ·intro done v W A h hd hp hu hA hB hdf
       have e0:A.tmps[2]?.getD undef = .pointer (some ⟨w.heap.size,0,none⟩):=hB 2 rfl
       clear hA hB hp hu hdf
       go_simp
       exact ⟨_,rfl,{ h with f2:=(fun _ => rfl) }⟩
      ·intro done v W A h hd hp hu hA hB hdf
       have hd2:done 2 = true:=hp 2 rfl
       have e0:=(hA 2 81 rfl hd2).trans (h.f2 hd2)
       have y0_:=below_cell h.b q1
       clear hA hB hp hu hdf
       go_simp
       exact ⟨_,rfl,{ h with f3:=(fun _ => rfl) }⟩
      ·intro done v W A h hd hp hu hA hB hdf
       have e0:A.tmps[2]?.getD undef = .pointer (some ⟨w.heap.size,0,none⟩):=hB 2 rfl
       clear hA hB hp hu hdf
       go_simp
       exact ⟨_,rfl,{ h with f4:=(fun _ => rfl) }⟩
      ·intro done v W A h hd hp hu hA hB hdf
       have hd4:done 4 = true:=hp 4 rfl
       have e0:=(hA 4 83 rfl hd4).trans (h.f4 hd4)
       have y0_:=below_cell h.b q2
       clear hA hB hp hu hdf
       go_simp
       exact ⟨_,rfl,{ h with f5:=(fun _ => rfl) }⟩
      ·intro done v W A h hd hp hu hA hB hdf
       have e0:A.tmps[2]?.getD undef = .pointer (some ⟨w.heap.size,0,none⟩):=hB 2 rfl
       clear hA hB hp hu hdf
       go_simp
       exact ⟨_,rfl,{ h with f6:=(fun _ => rfl) }⟩
      ·intro done v W A h hd hp hu hA hB hdf
       have hd6:done 6 = true:=hp 6 rfl
       have e0:=(hA 6 85 rfl hd6).trans (h.f6 hd6)
       have y0_:=below_cell h.b q3
       clear hA hB hp hu hdf
       go_simp
       exact ⟨_,rfl,{ h with f7:=(fun _ => rfl) }⟩
      ·intro done v W A h hd hp hu hA hB hdf
       have e0:A.tmps[2]?.getD undef = .pointer (some ⟨w.heap.size,0,none⟩):=hB 2 rfl
       clear hA hB hp hu hdf
       go_simp
       exact ⟨_,rfl,{ h with f8:=(fun _ => rfl) }⟩
      ·intro done v W A h hd hp hu hA hB hdf
       have hd8:done 8 = true:=hp 8 rfl
       have e0:=(hA 8 87 rfl hd8).trans (h.f8 hd8)
       have y0_:=below_cell h.b q4
       clear hA hB hp hu hdf
       go_simp
       exact ⟨_,rfl,{ h with f9:=(fun _ => rfl) }⟩
      ·intro done v W A h hd hp hu hA hB hdf
       have e0:A.tmps[2]?.getD undef = .pointer (some ⟨w.heap.size,0,none⟩):=hB 2 rfl
       clear hA hB hp hu hdf
       go_simp
       exact ⟨_,rfl,{ h with f10:=(fun _ => rfl) }⟩
      ·intro done v W A h hd hp hu hA hB hdf
       have hd10:done 10 = true:=hp 10 rfl
       have e0:=(hA 10 89 rfl hd10).trans (h.f10 hd10)
       have y0_:=below_cell h.b q5
       clear hA hB hp hu hdf
       go_simp
       exact ⟨_,rfl,{ h with f11:=(fun _ => rfl) }⟩
      ·intro done v W A h hd hp hu hA hB hdf
       have e0:A.tmps[2]?.getD undef = .pointer (some ⟨w.heap.size,0,none⟩):=hB 2 rfl
       clear hA hB hp hu hdf
       go_simp
       exact ⟨_,rfl,{ h with f12:=(fun _ => rfl) }⟩
      ·intro done v W A h hd hp hu hA hB hdf
       have hd12:done 12 = true:=hp 12 rfl
       have e0:=(hA 12 91 rfl hd12).trans (h.f12 hd12)
       have y0_:=below_cell h.b q6
       clear hA hB hp hu hdf
       go_simp
       exact ⟨_,rfl,{ h with f13:=(fun _ => rfl) }⟩
      ·intro done v W A h hd hp hu hA hB hdf
       have e0:A.tmps[2]?.getD undef = .pointer (some ⟨w.heap.size,0,none⟩):=hB 2 rfl
       clear hA hB hp hu hdf
       go_simp
       exact ⟨_,rfl,{ h with f14:=(fun _ => rfl) }⟩
      ·intro done v W A h hd hp hu hA hB hdf
       have hd14:done 14 = true:=hp 14 rfl
       have e0:=(hA 14 93 rfl hd14).trans (h.f14 hd14)
       have y0_:=below_cell h.b q7
       clear hA hB hp hu hdf
       go_simp
       exact ⟨_,rfl,{ h with f15:=(fun _ => rfl) }⟩
      ·intro done v W A h hd hp hu hA hB hdf
       have hd1:done 1 = true:=hp 1 rfl
       have e0:=(hA 1 80 rfl hd1).trans (h.f1 hd1)
       clear hA hB hp hu hdf
       go_simp
       exact ⟨_,rfl,{ h with f16:=(fun _ => rfl) }⟩
      ·intro done v W A h hd hp hu hA hB hdf
       have hd3:done 3 = true:=hp 3 rfl
       have e0:=(hA 3 82 rfl hd3).trans (h.f3 hd3)
       clear hA hB hp hu hdf
       go_simp
       exact ⟨_,rfl,{ h with f17:=(fun _ => rfl) }⟩
      ·intro done v W A h hd hp hu hA hB hdf
       have hd5:done 5 = true:=hp 5 rfl
       have e0:=(hA 5 84 rfl hd5).trans (h.f5 hd5)
       clear hA hB hp hu hdf
       go_simp
       exact ⟨_,rfl,{ h with f18:=(fun _ => rfl) }⟩
      ·intro done v W A h hd hp hu hA hB hdf
       have hd7:done 7 = true:=hp 7 rfl
       have e0:=(hA 7 86 rfl hd7).trans (h.f7 hd7)
       clear hA hB hp hu hdf
       go_simp
       exact ⟨_,rfl,{ h with f19:=(fun _ => rfl) }⟩
      ·intro done v W A h hd hp hu hA hB hdf
       have hd9:done 9 = true:=hp 9 rfl
       have e0:=(hA 9 88 rfl hd9).trans (h.f9 hd9)
       clear hA hB hp hu hdf
       go_simp
       exact ⟨_,rfl,{ h with f20:=(fun _ => rfl) }⟩
      ·intro done v W A h hd hp hu hA hB hdf
       have hd11:done 11 = true:=hp 11 rfl
       have e0:=(hA 11 90 rfl hd11).trans (h.f11 hd11)
       clear hA hB hp hu hdf
       go_simp
       exact ⟨_,rfl,{ h with f21:=(fun _ => rfl) }⟩
      ·intro done v W A h hd hp hu hA hB hdf
       have hd13:done 13 = true:=hp 13 rfl
       have e0:=(hA 13 92 rfl hd13).trans (h.f13 hd13)
       clear hA hB hp hu hdf
       go_simp
       exact ⟨_,rfl,{ h with f22:=(fun _ => rfl) }⟩
      ·intro done v W A h hd hp hu hA hB hdf
       have hd15:done 15 = true:=hp 15 rfl
       have e0:=(hA 15 94 rfl hd15).trans (h.f15 hd15)
       clear hA hB hp hu hdf
       go_simp
       exact ⟨_,rfl,{ h with f23:=(fun _ => rfl) }⟩
     simp only [putL,Act.put,Nat.reduceAdd,List.setIfInBounds_toArray,List.set_cons_zero,List.set_cons_succ]
     rw [h.f16 rfl]
     rw [h.f17 rfl]
     rw [h.f18 rfl]
     rw [h.f19 rfl]
     rw [h.f20 rfl]
     rw [h.f21 rfl]
     rw [h.f22 rfl]
     rw [h.f23 rfl]
     have hbr:=h.b
     have HBR:=Lib.hid hbr
     clear hbr h q0 q1 q2 q3 q4 q5 q6 q7
     go_wp2_with fail
     go_loopw [11,12,13,14,15,16,17,18,19,20,21] (fun va vb vc vd ve vf vg vh i _ _ W' => ∃ (t pa pb pc pd pe pf pg ph:Nat),t ≤ 64 ∧ s.rounds f t = ⟨pa,pb,pc,pd,pe,pf,pg,ph⟩ ∧ i = .int .i64 t ∧ va = .int .u32 (pa:Int) ∧ vb = .int .u32 (pb:Int) ∧ vc = .int .u32 (pc:Int) ∧ vd = .int .u32 (pd:Int) ∧ ve = .int .u32 (pe:Int) ∧ vf = .int .u32 (pf:Int) ∧ vg = .int .u32 (pg:Int) ∧ vh = .int .u32 (ph:Int) ∧ Below W6.heap.size W6 W') (fun _ _ _ _ _ _ _ _ i _ _ _ => 64 - (intOf i).toNat)
     case atStart => exact ⟨0,s.a,s.b,s.c,s.d,s.e,s.f,s.g,s.h,Nat.zero_le _,rfl,rfl,rfl,rfl,rfl,rfl,rfl,rfl,rfl,rfl,HBR.out⟩
     case round =>
      obtain ⟨t,va,vb,vc,vd,ve,vf,vg,vh,ht,hV,rfl,rfl,rfl,rfl,rfl,rfl,rfl,rfl,rfl,hb⟩:=hrel
      have ok:=HS.out.rounds f t
      rw [hV] at ok
      obtain ⟨oa,ob,oc,od,oe,of,og,oh⟩:=ok
      replace oa:va < 4294967296:=oa
      replace ob:vb < 4294967296:=ob
      replace oc:vc < 4294967296:=oc
      replace od:vd < 4294967296:=od
      replace oe:ve < 4294967296:=oe
      replace of:vf < 4294967296:=of
      replace og:vg < 4294967296:=og
      replace oh:vh < 4294967296:=oh
      have HV:=Lib.hid hV
      have HBL:=Lib.hid hb
      have HKD:=Lib.hid (HWK.out.below hb (by have:=HKL.out; omega))
      have HWD:=Lib.hid (HWW.out.below hb (by have:=HKL.out; omega))
      by_cases hlt:t < 64
      ·have d0:decide ((t:Int) < 64) = true:=decide_eq_true (by omega)
       have qk:=HKD.out.cell t hlt
       have qw:=HWD.out.cell t hlt
       rw [show sch0 f 64 t = schd f t from if_pos hlt] at qw
       obtain ⟨kk,ekk⟩:∃ x,x = kAt t:=⟨_,rfl⟩
       obtain ⟨ww,eww⟩:∃ x,x = schd f t:=⟨_,rfl⟩
       rw [← ekk] at qk
       rw [← eww] at qw
       obtain ⟨r6,er6⟩:∃ r,r = rotr ve 6:=⟨_,rfl⟩
       have HR6:=Lib.hid (fun W => show Calls Tryz.prog 241 #[.int .u32 (ve:Int),.int .i64 6] W (fun e w' => e = .returned (.int .u32 (r6:Int)) ∧ Below W.heap.size W w') from by rw [er6]; exact rorB_any ve 6 W oe (by omega))
       have lr6:r6 < 4294967296:=by rw [er6]; exact rotr_lt oe
       obtain ⟨r11,er11⟩:∃ r,r = rotr ve 11:=⟨_,rfl⟩
       have HR11:=Lib.hid (fun W => show Calls Tryz.prog 241 #[.int .u32 (ve:Int),.int .i64 11] W (fun e w' => e = .returned (.int .u32 (r11:Int)) ∧ Below W.heap.size W w') from by rw [er11]; exact rorB_any ve 11 W oe (by omega))
       have lr11:r11 < 4294967296:=by rw [er11]; exact rotr_lt oe
       obtain ⟨r25,er25⟩:∃ r,r = rotr ve 25:=⟨_,rfl⟩
       have HR25:=Lib.hid (fun W => show Calls Tryz.prog 241 #[.int .u32 (ve:Int),.int .i64 25] W (fun e w' => e = .returned (.int .u32 (r25:Int)) ∧ Below W.heap.size W w') from by rw [er25]; exact rorB_any ve 25 W oe (by omega))
       have lr25:r25 < 4294967296:=by rw [er25]; exact rotr_lt oe
       obtain ⟨r2,er2⟩:∃ r,r = rotr va 2:=⟨_,rfl⟩
       have HR2:=Lib.hid (fun W => show Calls Tryz.prog 241 #[.int .u32 (va:Int),.int .i64 2] W (fun e w' => e = .returned (.int .u32 (r2:Int)) ∧ Below W.heap.size W w') from by rw [er2]; exact rorB_any va 2 W oa (by omega))
       have lr2:r2 < 4294967296:=by rw [er2]; exact rotr_lt oa
       obtain ⟨r13,er13⟩:∃ r,r = rotr va 13:=⟨_,rfl⟩
       have HR13:=Lib.hid (fun W => show Calls Tryz.prog 241 #[.int .u32 (va:Int),.int .i64 13] W (fun e w' => e = .returned (.int .u32 (r13:Int)) ∧ Below W.heap.size W w') from by rw [er13]; exact rorB_any va 13 W oa (by omega))
       have lr13:r13 < 4294967296:=by rw [er13]; exact rotr_lt oa
       obtain ⟨r22,er22⟩:∃ r,r = rotr va 22:=⟨_,rfl⟩
       have HR22:=Lib.hid (fun W => show Calls Tryz.prog 241 #[.int .u32 (va:Int),.int .i64 22] W (fun e w' => e = .returned (.int .u32 (r22:Int)) ∧ Below W.heap.size W w') from by rw [er22]; exact rorB_any va 22 W oa (by omega))
       have lr22:r22 < 4294967296:=by rw [er22]; exact rotr_lt oa
       obtain ⟨x1,ex1⟩:∃ r,r = r6 ^^^ r11:=⟨_,rfl⟩
       have lx1:x1 < 4294967296:=by rw [ex1]; exact xor_lt32 lr6 lr11
       have mx1:bits .xor .u32 (r6:Int) (r11:Int) = (x1:Int):=by rw [ex1]; exact u32_xor_nat _ _ lr6 lr11
       obtain ⟨x2,ex2⟩:∃ r,r = x1 ^^^ r25:=⟨_,rfl⟩
       have lx2:x2 < 4294967296:=by rw [ex2]; exact xor_lt32 lx1 lr25
       have mx2:bits .xor .u32 (x1:Int) (r25:Int) = (x2:Int):=by rw [ex2]; exact u32_xor_nat _ _ lx1 lr25
       obtain ⟨y1,ey1⟩:∃ r,r = add32 vh x2:=⟨_,rfl⟩
       have my1:IntKind.u32.wrap ((vh:Int) + (x2:Int)) = (y1:Int):=by rw [ey1]; exact add32_wrap _ _
       have ny1:((vh:Int) + (x2:Int)) % 4294967296 = (y1:Int):=by rw [ey1]; exact add32_mod _ _
       obtain ⟨y2,ey2⟩:∃ r,r = ve &&& vf:=⟨_,rfl⟩
       have ly2:y2 < 4294967296:=by rw [ey2]; exact and_lt32 oe
       have my2:bits .and .u32 (ve:Int) (vf:Int) = (y2:Int):=by rw [ey2]; exact u32_and_nat _ _ oe of
       obtain ⟨y3,ey3⟩:∃ r,r = 4294967295 - ve:=⟨_,rfl⟩
       have ly3:y3 < 4294967296:=by rw [ey3]; omega
       have my3:bits .xor .u32 (if IntKind.u32.signed = true then -1 else IntKind.u32.max) (ve:Int) = (y3:Int):=by rw [ey3]; exact not_val ve oe
       obtain ⟨y4,ey4⟩:∃ r,r = y3 &&& vg:=⟨_,rfl⟩
       have ly4:y4 < 4294967296:=by rw [ey4]; exact and_lt32 ly3
       have my4:bits .and .u32 (y3:Int) (vg:Int) = (y4:Int):=by rw [ey4]; exact u32_and_nat _ _ ly3 og
       obtain ⟨y5,ey5⟩:∃ r,r = y2 ^^^ y4:=⟨_,rfl⟩
       have ly5:y5 < 4294967296:=by rw [ey5]; exact xor_lt32 ly2 ly4
       have my5:bits .xor .u32 (y2:Int) (y4:Int) = (y5:Int):=by rw [ey5]; exact u32_xor_nat _ _ ly2 ly4
       obtain ⟨y6,ey6⟩:∃ r,r = add32 y1 y5:=⟨_,rfl⟩
       have my6:IntKind.u32.wrap ((y1:Int) + (y5:Int)) = (y6:Int):=by rw [ey6]; exact add32_wrap _ _
       have ny6:((y1:Int) + (y5:Int)) % 4294967296 = (y6:Int):=by rw [ey6]; exact add32_mod _ _
       obtain ⟨y7,ey7⟩:∃ r,r = add32 y6 kk:=⟨_,rfl⟩
       have my7:IntKind.u32.wrap ((y6:Int) + (kk:Int)) = (y7:Int):=by rw [ey7]; exact add32_wrap _ _
       have ny7:((y6:Int) + (kk:Int)) % 4294967296 = (y7:Int):=by rw [ey7]; exact add32_mod _ _
       obtain ⟨y8,ey8⟩:∃ r,r = add32 y7 ww:=⟨_,rfl⟩
       have my8:IntKind.u32.wrap ((y7:Int) + (ww:Int)) = (y8:Int):=by rw [ey8]; exact add32_wrap _ _
       have ny8:((y7:Int) + (ww:Int)) % 4294967296 = (y8:Int):=by rw [ey8]; exact add32_mod _ _
       obtain ⟨u1,eu1⟩:∃ r,r = r2 ^^^ r13:=⟨_,rfl⟩
       have lu1:u1 < 4294967296:=by rw [eu1]; exact xor_lt32 lr2 lr13
       have mu1:bits .xor .u32 (r2:Int) (r13:Int) = (u1:Int):=by rw [eu1]; exact u32_xor_nat _ _ lr2 lr13
       obtain ⟨u2,eu2⟩:∃ r,r = u1 ^^^ r22:=⟨_,rfl⟩
       have lu2:u2 < 4294967296:=by rw [eu2]; exact xor_lt32 lu1 lr22
       have mu2:bits .xor .u32 (u1:Int) (r22:Int) = (u2:Int):=by rw [eu2]; exact u32_xor_nat _ _ lu1 lr22
       obtain ⟨u3,eu3⟩:∃ r,r = va &&& vb:=⟨_,rfl⟩
       have lu3:u3 < 4294967296:=by rw [eu3]; exact and_lt32 oa
       have mu3:bits .and .u32 (va:Int) (vb:Int) = (u3:Int):=by rw [eu3]; exact u32_and_nat _ _ oa ob
       obtain ⟨u4,eu4⟩:∃ r,r = va &&& vc:=⟨_,rfl⟩
       have lu4:u4 < 4294967296:=by rw [eu4]; exact and_lt32 oa
       have mu4:bits .and .u32 (va:Int) (vc:Int) = (u4:Int):=by rw [eu4]; exact u32_and_nat _ _ oa oc
       obtain ⟨u5,eu5⟩:∃ r,r = u3 ^^^ u4:=⟨_,rfl⟩
       have lu5:u5 < 4294967296:=by rw [eu5]; exact xor_lt32 lu3 lu4
       have mu5:bits .xor .u32 (u3:Int) (u4:Int) = (u5:Int):=by rw [eu5]; exact u32_xor_nat _ _ lu3 lu4
       obtain ⟨u6,eu6⟩:∃ r,r = vb &&& vc:=⟨_,rfl⟩
       have lu6:u6 < 4294967296:=by rw [eu6]; exact and_lt32 ob
       have mu6:bits .and .u32 (vb:Int) (vc:Int) = (u6:Int):=by rw [eu6]; exact u32_and_nat _ _ ob oc
       obtain ⟨u7,eu7⟩:∃ r,r = u5 ^^^ u6:=⟨_,rfl⟩
       have lu7:u7 < 4294967296:=by rw [eu7]; exact xor_lt32 lu5 lu6
       have mu7:bits .xor .u32 (u5:Int) (u6:Int) = (u7:Int):=by rw [eu7]; exact u32_xor_nat _ _ lu5 lu6
       obtain ⟨u8,eu8⟩:∃ r,r = add32 u2 u7:=⟨_,rfl⟩
       have mu8:IntKind.u32.wrap ((u2:Int) + (u7:Int)) = (u8:Int):=by rw [eu8]; exact add32_wrap _ _
       have nu8:((u2:Int) + (u7:Int)) % 4294967296 = (u8:Int):=by rw [eu8]; exact add32_mod _ _
       obtain ⟨z1,ez1⟩:∃ r,r = add32 vd y8:=⟨_,rfl⟩
       have mz1:IntKind.u32.wrap ((vd:Int) + (y8:Int)) = (z1:Int):=by rw [ez1]; exact add32_wrap _ _
       have nz1:((vd:Int) + (y8:Int)) % 4294967296 = (z1:Int):=by rw [ez1]; exact add32_mod _ _
       obtain ⟨z2,ez2⟩:∃ r,r = add32 y8 u8:=⟨_,rfl⟩
       have mz2:IntKind.u32.wrap ((y8:Int) + (u8:Int)) = (z2:Int):=by rw [ez2]; exact add32_wrap _ _
       have nz2:((y8:Int) + (u8:Int)) % 4294967296 = (z2:Int):=by rw [ez2]; exact add32_mod _ _
       have hch:y5 = chv ⟨va,vb,vc,vd,ve,vf,vg,vh⟩:=by rw [ey5,ey2,ey4,ey3]; exact ch_eq ve vf vg oe og
       have hmj:u7 = mjv ⟨va,vb,vc,vd,ve,vf,vg,vh⟩:=by rw [eu7,eu5,eu3,eu4,eu6]; exact mj_eq va vb vc
       have ht1:y8 = t1 ⟨va,vb,vc,vd,ve,vf,vg,vh⟩ (kAt t) (schd f t):=by rw [ey8,ey7,ey6,ey1,hch,ekk,eww,ex2,ex1,er6,er11,er25]; rfl
       have ht2:u8 = t2 ⟨va,vb,vc,vd,ve,vf,vg,vh⟩:=by rw [eu8,hmj,eu2,eu1,er2,er13,er22]; rfl
       have HNX:Hid (s.rounds f (t + 1) = ⟨z2,va,vb,vc,z1,ve,vf,vg⟩):=Lib.hid (by
        show (s.rounds f t).next (kAt t) (schd f t) = _
        rw [hV,ez2,ez1,ht1,ht2]; rfl)
       have j0:0 ≤ (t:Int):=by omega
       have j1:(t:Int) < 64:=by omega
       clear hV hb hch hmj ht1 ht2 ekk eww er6 er11 er25 er2 er13 er22 ex1 ex2 ey1 ey2 ey3 ey4 ey5 ey6 ey7 ey8 eu1 eu2 eu3 eu4 eu5 eu6 eu7 eu8 ez1 ez2 lr6 lr11 lr25 lr2 lr13 lr22 lx1 lx2 ly2 ly3 ly4 ly5 lu1 lu2 lu3 lu4 lu5 lu6 lu7 oa ob oc od oe of og oh
       go_wp2_with fail
       refine wp_region_flowsG (by kernel_rfl) (by kernel_rfl) (by kernel_rfl) (by kernel_rfl) (fun done v W => FBl17 wr ((w.heap.size + 2)) (kb) (t) (ve) (vf) (vg) (vh) (r6) (r11) (r25) (x1) (x2) (y1) (y2) (y3) (y4) (y5) (y6) (kk) (y7) (ww) (y8) done v W) (fun v => ?_) ?_ (fun v W h => ?_)
       ·exact ⟨(Below.refl _ _).drew,(fun h => by cases h),(fun h => by cases h),(fun h => by cases h),(fun h => by cases h),(fun h => by cases h),(fun h => by cases h),(fun h => by cases h),(fun h => by cases h),(fun h => by cases h),(fun h => by cases h),(fun h => by cases h),(fun h => by cases h),(fun h => by cases h),(fun h => by cases h),(fun h => by cases h),(fun h => by cases h),(fun h => by cases h),(fun h => by cases h),(fun h => by cases h),(fun h => by cases h),(fun h => by cases h),(fun h => by cases h),(fun h => by cases h),(fun h => by cases h),(fun h => by cases h),(fun h => by cases h),(fun h => by cases h),(fun h => by cases h)⟩
       ·refine ⟨?_,?_,?_,?_,?_,?_,?_,?_,?_,?_,?_,?_,?_,?_,?_,?_,?_,?_,?_,?_,?_,?_,?_,?_,?_,?_,?_,?_,trivial⟩
        ·intro done v W A h hd hp hu hA hB hdf
         have e0:A.tmps[18]?.getD undef = .int .u32 (vh:Int):=hB 18 rfl
         clear hA hB hp hu hdf
         go_simp
         exact ⟨_,rfl,{ h with f0:=(fun _ => rfl) }⟩
        ·intro done v W A h hd hp hu hA hB hdf
         have e0:A.tmps[15]?.getD undef = .int .u32 (ve:Int):=hB 15 rfl
         clear hA hB hp hu hdf
         go_simp
         exact ⟨_,rfl,{ h with f1:=(fun _ => rfl) }⟩
        ·intro done v W A h hd hp hu hA hB hdf
         have hd1:done 1 = true:=hp 1 rfl
         have e0:=(hA 1 100 rfl hd1).trans (h.f1 hd1)
         clear hA hB hp hu hdf
         go_simp
         with_reducible refine (HR6.out W).mono ?_
         rintro e wq ⟨rfl,hb⟩
         exact ⟨_,rfl,{ h with b:=h.b.trans (hb.mono h.b.size),f2:=(fun _ => rfl) }⟩
        ·intro done v W A h hd hp hu hA hB hdf
         have e0:A.tmps[15]?.getD undef = .int .u32 (ve:Int):=hB 15 rfl
         clear hA hB hp hu hdf
         go_simp
         exact ⟨_,rfl,{ h with f3:=(fun _ => rfl) }⟩
        ·intro done v W A h hd hp hu hA hB hdf
         have hd3:done 3 = true:=hp 3 rfl
         have e0:=(hA 3 102 rfl hd3).trans (h.f3 hd3)
         clear hA hB hp hu hdf
         go_simp
         with_reducible refine (HR11.out W).mono ?_
         rintro e wq ⟨rfl,hb⟩
         exact ⟨_,rfl,{ h with b:=h.b.trans (hb.mono h.b.size),f4:=(fun _ => rfl) }⟩
        ·intro done v W A h hd hp hu hA hB hdf
         have hd2:done 2 = true:=hp 2 rfl
         have hd4:done 4 = true:=hp 4 rfl
         have e0:=(hA 2 101 rfl hd2).trans (h.f2 hd2)
         have e1:=(hA 4 103 rfl hd4).trans (h.f4 hd4)
         clear hA hB hp hu hdf
         go_simp
         exact ⟨_,rfl,{ h with f5:=(fun _ => rfl) }⟩
        ·intro done v W A h hd hp hu hA hB hdf
         have e0:A.tmps[15]?.getD undef = .int .u32 (ve:Int):=hB 15 rfl
         clear hA hB hp hu hdf
         go_simp
         exact ⟨_,rfl,{ h with f6:=(fun _ => rfl) }⟩
        ·intro done v W A h hd hp hu hA hB hdf
         have hd6:done 6 = true:=hp 6 rfl
         have e0:=(hA 6 105 rfl hd6).trans (h.f6 hd6)
         clear hA hB hp hu hdf
         go_simp
         with_reducible refine (HR25.out W).mono ?_
         rintro e wq ⟨rfl,hb⟩
         exact ⟨_,rfl,{ h with b:=h.b.trans (hb.mono h.b.size),f7:=(fun _ => rfl) }⟩
        ·intro done v W A h hd hp hu hA hB hdf
         have hd5:done 5 = true:=hp 5 rfl
         have hd7:done 7 = true:=hp 7 rfl
         have e0:=(hA 5 104 rfl hd5).trans (h.f5 hd5)
         have e1:=(hA 7 106 rfl hd7).trans (h.f7 hd7)
         clear hA hB hp hu hdf
         go_simp
         exact ⟨_,rfl,{ h with f8:=(fun _ => rfl) }⟩
        ·intro done v W A h hd hp hu hA hB hdf
         have hd0:done 0 = true:=hp 0 rfl
         have hd8:done 8 = true:=hp 8 rfl
         have e0:=(hA 0 99 rfl hd0).trans (h.f0 hd0)
         have e1:=(hA 8 107 rfl hd8).trans (h.f8 hd8)
         clear hA hB hp hu hdf
         go_simp
         exact ⟨_,rfl,{ h with f9:=(fun _ => rfl) }⟩
        ·intro done v W A h hd hp hu hA hB hdf
         have e0:A.tmps[15]?.getD undef = .int .u32 (ve:Int):=hB 15 rfl
         clear hA hB hp hu hdf
         go_simp
         exact ⟨_,rfl,{ h with f10:=(fun _ => rfl) }⟩
        ·intro done v W A h hd hp hu hA hB hdf
         have e0:A.tmps[16]?.getD undef = .int .u32 (vf:Int):=hB 16 rfl
         clear hA hB hp hu hdf
         go_simp
         exact ⟨_,rfl,{ h with f11:=(fun _ => rfl) }⟩
        ·intro done v W A h hd hp hu hA hB hdf
         have hd10:done 10 = true:=hp 10 rfl
         have hd11:done 11 = true:=hp 11 rfl
         have e0:=(hA 10 109 rfl hd10).trans (h.f10 hd10)
         have e1:=(hA 11 110 rfl hd11).trans (h.f11 hd11)
         clear hA hB hp hu hdf
         go_simp
         exact ⟨_,rfl,{ h with f12:=(fun _ => rfl) }⟩
        ·intro done v W A h hd hp hu hA hB hdf
         have e0:A.tmps[15]?.getD undef = .int .u32 (ve:Int):=hB 15 rfl
         clear hA hB hp hu hdf
         go_simp
         exact ⟨_,rfl,{ h with f13:=(fun _ => rfl) }⟩
        ·intro done v W A h hd hp hu hA hB hdf
         have hd13:done 13 = true:=hp 13 rfl
         have e0:=(hA 13 112 rfl hd13).trans (h.f13 hd13)
         clear hA hB hp hu hdf
         go_simp
         exact ⟨_,rfl,{ h with f14:=(fun _ => rfl) }⟩
        ·intro done v W A h hd hp hu hA hB hdf
         have e0:A.tmps[17]?.getD undef = .int .u32 (vg:Int):=hB 17 rfl
         clear hA hB hp hu hdf
         go_simp
         exact ⟨_,rfl,{ h with f15:=(fun _ => rfl) }⟩
        ·intro done v W A h hd hp hu hA hB hdf
         have hd14:done 14 = true:=hp 14 rfl
         have hd15:done 15 = true:=hp 15 rfl
         have e0:=(hA 14 113 rfl hd14).trans (h.f14 hd14)
         have e1:=(hA 15 114 rfl hd15).trans (h.f15 hd15)
         clear hA hB hp hu hdf
         go_simp
         exact ⟨_,rfl,{ h with f16:=(fun _ => rfl) }⟩
        ·intro done v W A h hd hp hu hA hB hdf
         have hd12:done 12 = true:=hp 12 rfl
         have hd16:done 16 = true:=hp 16 rfl
         have e0:=(hA 12 111 rfl hd12).trans (h.f12 hd12)
         have e1:=(hA 16 115 rfl hd16).trans (h.f16 hd16)
         clear hA hB hp hu hdf
         go_simp
         exact ⟨_,rfl,{ h with f17:=(fun _ => rfl) }⟩
        ·intro done v W A h hd hp hu hA hB hdf
         have hd9:done 9 = true:=hp 9 rfl
         have hd17:done 17 = true:=hp 17 rfl
         have e0:=(hA 9 108 rfl hd9).trans (h.f9 hd9)
         have e1:=(hA 17 116 rfl hd17).trans (h.f17 hd17)
         clear hA hB hp hu hdf
         go_simp
         exact ⟨_,rfl,{ h with f18:=(fun _ => rfl) }⟩
        ·intro done v W A h hd hp hu hA hB hdf
         have e0:A.tmps[19]?.getD undef = .int .i64 (t:Int):=hB 19 rfl
         clear hA hB hp hu hdf
         go_simp
         exact ⟨_,rfl,{ h with f19:=(fun _ => rfl) }⟩
        ·intro done v W A h hd hp hu hA hB hdf
         have hd19:done 19 = true:=hp 19 rfl
         have e0:A.tmps[10]?.getD undef = .pointer (some ⟨kb,0,none⟩):=hB 10 rfl
         have e1:=(hA 19 118 rfl hd19).trans (h.f19 hd19)
         clear hA hB hp hu hdf
         go_simp
         exact ⟨_,rfl,{ h with f20:=(fun _ => rfl) }⟩
        ·intro done v W A h hd hp hu hA hB hdf
         have hd20:done 20 = true:=hp 20 rfl
         have e0:=(hA 20 119 rfl hd20).trans (h.f20 hd20)
         have y0_:=below_cell h.b qk
         clear hA hB hp hu hdf
         go_simp
         exact ⟨_,rfl,{ h with f21:=(fun _ => rfl) }⟩
        ·intro done v W A h hd hp hu hA hB hdf
         have hd18:done 18 = true:=hp 18 rfl
         have hd21:done 21 = true:=hp 21 rfl
         have e0:=(hA 18 117 rfl hd18).trans (h.f18 hd18)
         have e1:=(hA 21 120 rfl hd21).trans (h.f21 hd21)
         clear hA hB hp hu hdf
         go_simp
         exact ⟨_,rfl,{ h with f22:=(fun _ => rfl) }⟩
        ·intro done v W A h hd hp hu hA hB hdf
         have e0:A.tmps[19]?.getD undef = .int .i64 (t:Int):=hB 19 rfl
         clear hA hB hp hu hdf
         go_simp
         exact ⟨_,rfl,{ h with f23:=(fun _ => rfl) }⟩
        ·intro done v W A h hd hp hu hA hB hdf
         have hd23:done 23 = true:=hp 23 rfl
         have e0:A.tmps[5]?.getD undef = .pointer (some ⟨(w.heap.size + 2),0,none⟩):=hB 5 rfl
         have e1:=(hA 23 122 rfl hd23).trans (h.f23 hd23)
         clear hA hB hp hu hdf
         go_simp
         exact ⟨_,rfl,{ h with f24:=(fun _ => rfl) }⟩
        ·intro done v W A h hd hp hu hA hB hdf
         have hd24:done 24 = true:=hp 24 rfl
         have e0:=(hA 24 123 rfl hd24).trans (h.f24 hd24)
         have y0_:=below_cell h.b qw
         clear hA hB hp hu hdf
         go_simp
         exact ⟨_,rfl,{ h with f25:=(fun _ => rfl) }⟩
        ·intro done v W A h hd hp hu hA hB hdf
         have hd22:done 22 = true:=hp 22 rfl
         have hd25:done 25 = true:=hp 25 rfl
         have e0:=(hA 22 121 rfl hd22).trans (h.f22 hd22)
         have e1:=(hA 25 124 rfl hd25).trans (h.f25 hd25)
         clear hA hB hp hu hdf
         go_simp
         exact ⟨_,rfl,{ h with f26:=(fun _ => rfl) }⟩
        ·intro done v W A h hd hp hu hA hB hdf
         have hd26:done 26 = true:=hp 26 rfl
         have e0:=(hA 26 125 rfl hd26).trans (h.f26 hd26)
         clear hA hB hp hu hdf
         go_simp
         exact ⟨_,rfl,{ h with f27:=(fun _ => rfl) }⟩
       simp only [putL,Act.put,Nat.reduceAdd,List.setIfInBounds_toArray,List.set_cons_zero,List.set_cons_succ]
       rw [h.f27 rfl]
       have hbr:=h.b
       have HBR2:=Lib.hid hbr
       clear hbr h qk qw
       go_wp2_with fail
       with_reducible refine (HR2.out _).mono ?_
       rintro e x02 ⟨rfl,hx2⟩
       go_wp2_with fail
       with_reducible refine (HR13.out _).mono ?_
       rintro e x13 ⟨rfl,hx13⟩
       go_wp2_with fail
       with_reducible refine (HR22.out _).mono ?_
       rintro e x22 ⟨rfl,hx22⟩
       go_wp2_with fail
       go_roundw
       case rel => exact ⟨t + 1,z2,va,vb,vc,z1,ve,vf,vg,by omega,HNX.out,by go_num,rfl,rfl,rfl,rfl,rfl,rfl,rfl,rfl,(HBL.out.trans (HBR2.out.mono HBL.out.size)).trans ((hx2.trans ((hx13.trans (hx22.mono hx13.size)).mono hx2.size)).mono (HBL.out.trans (HBR2.out.mono HBL.out.size)).size)⟩
       case measure => simp [intOf]; omega
      ·obtain rfl:t = 64:=by omega
       have d0:decide (((64:Nat):Int) < 64) = false:=by decide
       have K0:=Lib.hid ((HBL.out.block _ (by have:=HKL.out; omega)).trans Q6.out)
       have K1:=Lib.hid ((HBL.out.block _ (by have:=HKL.out; omega)).trans Q61.out)
       have q0:=row_cell K0.out (k:=0) (v:=.int .u32 (s.a:Int)) rfl
       have z0:=row_cell K1.out (k:=0) (v:=.int .u32 0) rfl
       have f0:=row_free K1.out 0
       obtain ⟨pa,epa⟩:∃ r,r = add32 s.a va:=⟨_,rfl⟩
       have mpa:IntKind.u32.wrap ((s.a:Int) + (va:Int)) = (pa:Int):=by rw [epa]; exact add32_wrap _ _
       have npa:((s.a:Int) + (va:Int)) % 4294967296 = (pa:Int):=by rw [epa]; exact add32_mod _ _
       have q1:=row_cell K0.out (k:=1) (v:=.int .u32 (s.b:Int)) rfl
       have z1:=row_cell K1.out (k:=1) (v:=.int .u32 0) rfl
       have f1:=row_free K1.out 1
       obtain ⟨pb,epb⟩:∃ r,r = add32 s.b vb:=⟨_,rfl⟩
       have mpb:IntKind.u32.wrap ((s.b:Int) + (vb:Int)) = (pb:Int):=by rw [epb]; exact add32_wrap _ _
       have npb:((s.b:Int) + (vb:Int)) % 4294967296 = (pb:Int):=by rw [epb]; exact add32_mod _ _
       have q2:=row_cell K0.out (k:=2) (v:=.int .u32 (s.c:Int)) rfl
       have z2:=row_cell K1.out (k:=2) (v:=.int .u32 0) rfl
       have f2:=row_free K1.out 2
       obtain ⟨pc,epc⟩:∃ r,r = add32 s.c vc:=⟨_,rfl⟩
       have mpc:IntKind.u32.wrap ((s.c:Int) + (vc:Int)) = (pc:Int):=by rw [epc]; exact add32_wrap _ _
       have npc:((s.c:Int) + (vc:Int)) % 4294967296 = (pc:Int):=by rw [epc]; exact add32_mod _ _
       have q3:=row_cell K0.out (k:=3) (v:=.int .u32 (s.d:Int)) rfl
       have z3:=row_cell K1.out (k:=3) (v:=.int .u32 0) rfl
       have f3:=row_free K1.out 3
       obtain ⟨pd,epd⟩:∃ r,r = add32 s.d vd:=⟨_,rfl⟩
       have mpd:IntKind.u32.wrap ((s.d:Int) + (vd:Int)) = (pd:Int):=by rw [epd]; exact add32_wrap _ _
       have npd:((s.d:Int) + (vd:Int)) % 4294967296 = (pd:Int):=by rw [epd]; exact add32_mod _ _
       have q4:=row_cell K0.out (k:=4) (v:=.int .u32 (s.e:Int)) rfl
       have z4:=row_cell K1.out (k:=4) (v:=.int .u32 0) rfl
       have f4:=row_free K1.out 4
       obtain ⟨pe,epe⟩:∃ r,r = add32 s.e ve:=⟨_,rfl⟩
       have mpe:IntKind.u32.wrap ((s.e:Int) + (ve:Int)) = (pe:Int):=by rw [epe]; exact add32_wrap _ _
       have npe:((s.e:Int) + (ve:Int)) % 4294967296 = (pe:Int):=by rw [epe]; exact add32_mod _ _
       have q5:=row_cell K0.out (k:=5) (v:=.int .u32 (s.f:Int)) rfl
       have z5:=row_cell K1.out (k:=5) (v:=.int .u32 0) rfl
       have f5:=row_free K1.out 5
       obtain ⟨pf,epf⟩:∃ r,r = add32 s.f vf:=⟨_,rfl⟩
       have mpf:IntKind.u32.wrap ((s.f:Int) + (vf:Int)) = (pf:Int):=by rw [epf]; exact add32_wrap _ _
       have npf:((s.f:Int) + (vf:Int)) % 4294967296 = (pf:Int):=by rw [epf]; exact add32_mod _ _
       have q6:=row_cell K0.out (k:=6) (v:=.int .u32 (s.g:Int)) rfl
       have z6:=row_cell K1.out (k:=6) (v:=.int .u32 0) rfl
       have f6:=row_free K1.out 6
       obtain ⟨pg,epg⟩:∃ r,r = add32 s.g vg:=⟨_,rfl⟩
       have mpg:IntKind.u32.wrap ((s.g:Int) + (vg:Int)) = (pg:Int):=by rw [epg]; exact add32_wrap _ _
       have npg:((s.g:Int) + (vg:Int)) % 4294967296 = (pg:Int):=by rw [epg]; exact add32_mod _ _
       have q7:=row_cell K0.out (k:=7) (v:=.int .u32 (s.h:Int)) rfl
       have z7:=row_cell K1.out (k:=7) (v:=.int .u32 0) rfl
       have f7:=row_free K1.out 7
       obtain ⟨ph,eph⟩:∃ r,r = add32 s.h vh:=⟨_,rfl⟩
       have mph:IntKind.u32.wrap ((s.h:Int) + (vh:Int)) = (ph:Int):=by rw [eph]; exact add32_wrap _ _
       have nph:((s.h:Int) + (vh:Int)) % 4294967296 = (ph:Int):=by rw [eph]; exact add32_mod _ _
       have HR:Hid (stA (s.absorb f) = #[.int .u32 (pa:Int),.int .u32 (pb:Int),.int .u32 (pc:Int),.int .u32 (pd:Int),.int .u32 (pe:Int),.int .u32 (pf:Int),.int .u32 (pg:Int),.int .u32 (ph:Int)]):=Lib.hid (by
        show stA (s.plus (s.rounds f 64)) = _
        rw [hV,epa,epb,epc,epd,epe,epf,epg,eph]; rfl)
       obtain ⟨Wf,hWf⟩:∃ W,W = ((((((((wr.setCell ⟨w.heap.size + 1,0,none⟩ (.int .u32 (pa:Int))).setCell ⟨w.heap.size + 1,1,none⟩ (.int .u32 (pb:Int))).setCell ⟨w.heap.size + 1,2,none⟩ (.int .u32 (pc:Int))).setCell ⟨w.heap.size + 1,3,none⟩ (.int .u32 (pd:Int))).setCell ⟨w.heap.size + 1,4,none⟩ (.int .u32 (pe:Int))).setCell ⟨w.heap.size + 1,5,none⟩ (.int .u32 (pf:Int))).setCell ⟨w.heap.size + 1,6,none⟩ (.int .u32 (pg:Int))).setCell ⟨w.heap.size + 1,7,none⟩ (.int .u32 (ph:Int))):=⟨_,rfl⟩
       have qf:Wf.heap[w.heap.size + 1]? = some (.cells #[.int .u32 (pa:Int),.int .u32 (pb:Int),.int .u32 (pc:Int),.int .u32 (pd:Int),.int .u32 (pe:Int),.int .u32 (pf:Int),.int .u32 (pg:Int),.int .u32 (ph:Int)] 220 (0,0)):=by rw [hWf]; exact (row_set (row_set (row_set (row_set (row_set (row_set (row_set (row_set K1.out 0 (.int .u32 (pa:Int))) 1 (.int .u32 (pb:Int))) 2 (.int .u32 (pc:Int))) 3 (.int .u32 (pd:Int))) 4 (.int .u32 (pe:Int))) 5 (.int .u32 (pf:Int))) 6 (.int .u32 (pg:Int))) 7 (.int .u32 (ph:Int)))
       have HBF:Hid (Below w.heap.size w Wf):=Lib.hid (by rw [hWf]; exact (((((((((HB6.out.trans (HBL.out.mono HB6.out.size)).setCell (Nat.le_succ _) _).setCell (Nat.le_succ _) _).setCell (Nat.le_succ _) _).setCell (Nat.le_succ _) _).setCell (Nat.le_succ _) _).setCell (Nat.le_succ _) _).setCell (Nat.le_succ _) _).setCell (Nat.le_succ _) _))
       have y0:=row_cell qf (k:=0) (v:=.int .u32 (pa:Int)) rfl
       have y1:=row_cell qf (k:=1) (v:=.int .u32 (pb:Int)) rfl
       have y2:=row_cell qf (k:=2) (v:=.int .u32 (pc:Int)) rfl
       have y3:=row_cell qf (k:=3) (v:=.int .u32 (pd:Int)) rfl
       have y4:=row_cell qf (k:=4) (v:=.int .u32 (pe:Int)) rfl
       have y5:=row_cell qf (k:=5) (v:=.int .u32 (pf:Int)) rfl
       have y6:=row_cell qf (k:=6) (v:=.int .u32 (pg:Int)) rfl
       have y7:=row_cell qf (k:=7) (v:=.int .u32 (ph:Int)) rfl
       have HWf:=Lib.hid hWf
       clear hWf qf hV hb epa epb epc epd epe epf epg eph oa ob oc od oe of og oh
       go_wp2_with (rw [← HWf.out])
       refine bodyPost_ret (v:=.agg #[.int .u32 (pa:Int),.int .u32 (pb:Int),.int .u32 (pc:Int),.int .u32 (pd:Int),.int .u32 (pe:Int),.int .u32 (pf:Int),.int .u32 (pg:Int),.int .u32 (ph:Int)]) (by simp [results,Tryz.results231,go_sem,y0,y1,y2,y3,y4,y5,y6,y7]) rfl ?_
       exact ⟨by rw [HR.out],HBF.out⟩
end Go.Proofs.YtggnipkfliompaaGreatDoor
