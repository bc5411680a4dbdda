/- The reference of digest: ror, word. The reference of digest: numbers. The reference of digest: padded. -/
import Derived.Test.YtggnipkfliompaaGreatDoorMDigD
import Derived.Test.YtggnipkfliompaaGreatDoorMCodD
import Derived.BigQuiet
import Derived.Great.BuildSlice
set_option maxHeartbeats 4000000
set_option maxRecDepth 100000
namespace Go.Proofs.YtggnipkfliompaaGreatDoor
open Go.RowKit
theorem ror_any (x n:Nat) (w:World) (hx:x < 4294967296) (hn:n = 2 ∨ n = 6 ∨ n = 7 ∨ n = 11 ∨ n = 13 ∨ n = 17 ∨ n = 18 ∨ n = 19 ∨ n = 22 ∨ n = 25) :
  Calls Tryz.prog 241 #[.int .u32 x,.int .i64 n] w fun e w' => e = .returned (.int .u32 (rotr x n)) ∧ ∃ m,w' = w.drewN m:=by
 obtain ⟨s,hs⟩:∃ s,n + s = 32:=⟨32 - n,by omega⟩
 have s1:1 ≤ s:=by omega
 have s2:s < 32:=by omega
 have e1:(32:Int) - (n:Int) = s:=by omega
 have n1:(0:Int) ≤ n:=by omega
 have n2:n < 32:=by omega
 have HO:Hid (bits .or .u32 ((x:Int) / 2 ^ n) ((x:Int) * 2 ^ s % 4294967296) = ((rotr x n:Nat):Int)):=Lib.hid (by
  have h:=rot_or x n s hx hs
  rw [show 32 - s = n by omega] at h
  rw [← h]
  have e1:(x:Int) * 2 ^ s % 4294967296 = ((x * 2 ^ s % 4294967296:Nat):Int):=by rw [Int.natCast_emod,Int.natCast_mul,Int.natCast_pow]; rfl
  have e2:(x:Int) / 2 ^ n = ((x / 2 ^ n:Nat):Int):=by rw [Int.natCast_ediv,Int.natCast_pow]; rfl
  have h1:x * 2 ^ s % 4294967296 < 4294967296:=Nat.mod_lt _ (by decide)
  have h2:x / 2 ^ n < 4294967296:=Nat.lt_of_le_of_lt (Nat.div_le_self _ _) hx
  rw [e1,e2,u32_or_nat _ _ h2 h1,u32_or_nat _ _ h1 h2,Nat.or_comm])
 clear hn
 go_enter Tryz.func241,Tryz.ntmps241
 go_wp2_with fail
 go_quiet (fail)
 go_wp2_with fail
 go_ret
 exact ⟨ret_int HO.out,⟨_,rfl⟩⟩
theorem word_or (g0 g1 g2 g3:Nat) (h0:g0 < 256) (h1:g1 < 256) (h2:g2 < 256) (h3:g3 < 256) :
  bits .or .u32 (bits .or .u32 (bits .or .u32 ((g0:Int) * 16777216) ((g1:Int) * 65536)) ((g2:Int) * 256)) (g3:Int) = ((wd g0 g1 g2 g3:Nat):Int):=by
 have e0:(g0:Int) * 16777216 = ((g0 * 16777216:Nat):Int):=by omega
 have e1:(g1:Int) * 65536 = ((g1 * 65536:Nat):Int):=by omega
 have e2:(g2:Int) * 256 = ((g2 * 256:Nat):Int):=by omega
 rw [e0,e1,e2,u32_or_nat _ _ (by omega) (by omega),nat_join 24 (g0 * 16777216) (g1 * 65536) (by omega) (by omega),
  u32_or_nat _ _ (by omega) (by omega),nat_join 16 (g0 * 16777216 + g1 * 65536) (g2 * 256) (by omega) (by omega),
  u32_or_nat _ _ (by omega) (by omega),nat_join 8 (g0 * 16777216 + g1 * 65536 + g2 * 256) g3 (by omega) (by omega)]
 unfold wd
 omega
theorem rword_any (a:Addr) (b off n cap:Nat) (ha:a = ⟨b,off,none⟩) (hn:4 ≤ n) (_hcap:n ≤ cap) (f:Nat → Nat) (hf:∀ k,f k < 256) (w:World)
  (hc:∀ k,k < 4 → w.cell? ⟨b,off + k,none⟩ = some (.int .u8 (f k:Nat))) :
  Calls Tryz.prog 240 #[.slice (some a) n cap] w fun e w' => e = .returned (.int .u32 (wd (f 0) (f 1) (f 2) (f 3):Nat)) ∧ ∃ m,w' = w.drewN m:=by
 subst ha
 have f0:=hf 0
 have f1:=hf 1
 have f2:=hf 2
 have f3:=hf 3
 have c0:=hc 0 (by omega)
 have c1:=hc 1 (by omega)
 have c2:=hc 2 (by omega)
 have c3:=hc 3 (by omega)
 clear hc hf
 rw [Nat.add_zero] at c0
 generalize f 0 = g0 at *
 generalize f 1 = g1 at *
 generalize f 2 = g2 at *
 generalize f 3 = g3 at *
 have HO:=Lib.hid (word_or g0 g1 g2 g3 f0 f1 f2 f3)
 have k0:IntKind.u32.wrap (g0:Int) = g0:=by rw [IntKind.wrap_u32]; omega
 have k1:IntKind.u32.wrap (g1:Int) = g1:=by rw [IntKind.wrap_u32]; omega
 have k2:IntKind.u32.wrap (g2:Int) = g2:=by rw [IntKind.wrap_u32]; omega
 have k3:IntKind.u32.wrap (g3:Int) = g3:=by rw [IntKind.wrap_u32]; omega
 go_enter Tryz.func240,Tryz.ntmps240
 go_wp2_with fail
 go_quiet (fail)
 go_wp2_with fail
 go_ret
 exact ⟨ret_int HO.out,⟨_,rfl⟩⟩
end Go.Proofs.YtggnipkfliompaaGreatDoor
namespace Go.Proofs.YtggnipkfliompaaGreatDoor
open Go.RowKit
def wordV (x:Nat):Value:=.int .u32 (x:Int)
theorem infoK:(Tryz.prog.info? 238).map (·.size) = some 64:=by kernel_rfl
theorem infoKz:((Tryz.prog.info? 238).bind (·.zero)).map (·.cells.size) = some 64:=by kernel_rfl
theorem infoU1:(Tryz.prog.info? 42).map (·.size) = some 1:=by kernel_rfl
def kInts:List Int:=kNum.map fun (n:Nat) => (n:Int)
theorem kInts_map:kInts.map (Value.int .u32) = kNum.map wordV:=by unfold kInts; rw [List.map_map]; rfl
theorem wordV_one (l:List Nat):((l.map wordV).toArray).all (·.oneCell') = true:=all_oneCell_toArray (fun v hv => by obtain ⟨x,-,rfl⟩:=List.mem_map.1 hv; rfl)
def z64:Array Value:=#[.int .u32 0,.int .u32 0,.int .u32 0,.int .u32 0,.int .u32 0,.int .u32 0,.int .u32 0,.int .u32 0,.int .u32 0,.int .u32 0,.int .u32 0,.int .u32 0,.int .u32 0,.int .u32 0,.int .u32 0,.int .u32 0,.int .u32 0,.int .u32 0,.int .u32 0,.int .u32 0,.int .u32 0,.int .u32 0,.int .u32 0,.int .u32 0,.int .u32 0,.int .u32 0,.int .u32 0,.int .u32 0,.int .u32 0,.int .u32 0,.int .u32 0,.int .u32 0,.int .u32 0,.int .u32 0,.int .u32 0,.int .u32 0,.int .u32 0,.int .u32 0,.int .u32 0,.int .u32 0,.int .u32 0,.int .u32 0,.int .u32 0,.int .u32 0,.int .u32 0,.int .u32 0,.int .u32 0,.int .u32 0,.int .u32 0,.int .u32 0,.int .u32 0,.int .u32 0,.int .u32 0,.int .u32 0,.int .u32 0,.int .u32 0,.int .u32 0,.int .u32 0,.int .u32 0,.int .u32 0,.int .u32 0,.int .u32 0,.int .u32 0,.int .u32 0]
theorem rnumbers_any (w:World) :
  Calls Tryz.prog 242 #[] w fun e w' => e = .returned (.agg (kNum.map wordV).toArray) ∧ Below w.heap.size w w':=by
 obtain ⟨T,hT⟩:∃ T,T = kNum.map wordV:=⟨_,rfl⟩
 have hTl:T.length = 64:=by rw [hT]; rfl
 have H1:=Lib.hid (show T.toArray.all (·.oneCell') = true by rw [hT]; exact wordV_one _)
 have HI:=Lib.hid (infoK.trans (congrArg some (show 64 = T.toArray.size by simpa using hTl.symm)))
 have HI2:=Lib.hid (infoK.trans (congrArg some hTl.symm))
 have HK:Hid (kInts.map (Value.int .u32) = T):=Lib.hid (by rw [hT]; exact kInts_map)
 have HTL:=Lib.hid hTl
 rw [← hT]
 clear hT hTl
 have hb:Below w.heap.size w (w.alloc (.cells z64 238)):=(Below.refl _ _).alloc (Nat.le_refl _) _
 have hth:(w.alloc (.cells z64 238)).there w.heap.size 0 64:=there_new _ _ _ rfl
 have HB:=Lib.hid hb
 have HTH:=Lib.hid hth
 clear hb hth
 go_enter Tryz.func242,Tryz.ntmps242
 obtain ⟨W1,hW1⟩:∃ W,W = w.alloc (.cells z64 238):=⟨_,rfl⟩
 rw [← hW1] at HB HTH
 simp only [z64] at hW1
 have HW1:=Lib.hid hW1
 clear hW1
 go_wp2_with (first
  | rw [← HW1.out]
  | (refine wpList_buildFlatArrTo rfl 238 42 64 _ rfl .u32 kInts _ rfl Tryz.underlying238 infoU1 infoKz (by kernel_rfl) ?_; rw [HK.out])
  | (refine wpList_store_mid rfl 238 (.tmp 0) (.tmp 1) rfl w.heap.size 0 T.toArray rfl rfl (by rw [show T.toArray.size = 64 by simpa using HTL.out]; exact HTH.out) HI.out H1.out ?_))
 have hr:=World.rangeAt_setCells_same W1 w.heap.size 0 T (by rw [HTL.out]; exact HTH.out)
 have hld:=run_loadVar_mid (P:=Tryz.prog) _ w.heap.size 0 238 T _ hr Tryz.underlying238 rfl HI2.out
 refine bodyPost_ret (v:=.agg T.toArray) ?_ rfl ⟨rfl,below_setCells (Nat.le_refl _) _ _ _ HB.out⟩
 exact results_cell1_of rfl rfl hld
end Go.Proofs.YtggnipkfliompaaGreatDoor
namespace Go.Proofs.YtggnipkfliompaaGreatDoor
open Go.RowKit
theorem padded_size (b:List Nat):(padded b).length = b.length + 1 + padN b.length + 8:=by
 unfold padded zeros be8
 rw [List.length_append,List.length_cons,List.length_append,List.length_replicate]
 simp only [List.length_cons,List.length_nil]
 omega
theorem padded_all (b:List Nat) (h:∀ x ∈ b,x < 256):∀ x ∈ padded b,x < 256:=fun x hx => by
 unfold padded at hx
 rcases List.mem_append.1 hx with hx | hx
 ·exact h x hx
 ·rcases List.mem_cons.1 hx with rfl | hx
  ·omega
  ·rcases List.mem_append.1 hx with hx | hx
   ·unfold zeros at hx
    rw [List.eq_of_mem_replicate hx]; omega
   ·simp only [be8,List.mem_cons,List.not_mem_nil,or_false] at hx
    rcases hx with rfl | rfl | rfl | rfl | rfl | rfl | rfl | rfl <;> exact Nat.mod_lt _ (by decide)
theorem padded_next (b:List Nat) (m:Nat) (hm:m < (padded b).length):(padded b).take (m + 1) = (padded b).take m ++ [(padded b).getD m 0]:=by
 rw [List.take_succ_eq_append_getElem hm,List.getD_eq_getElem?_getD,List.getElem?_eq_getElem hm]; rfl
theorem padded_take (b:List Nat):(padded b).take b.length = b:=by
 unfold padded
 rw [List.take_append_of_le_length (Nat.le_refl _),List.take_length]
theorem byte_lit (w:World) (x:Nat) (hx:x < 256) (B:Nat) (hB:w.heap.size = B):Byts (w.alloc (.cells #[.int .u8 (x:Int)] 5)) (.slice (some ⟨B,0,none⟩) 1 1) [x]:=by
 subst hB
 have h:=World.alloc_heap_new w (.cells #[.int .u8 (x:Int)] 5)
 refine ⟨_,_,rfl,Nat.le_refl _,by simp,fun y hy => by simp at hy; omega,fun k hk => ⟨w.heap.size,0,rfl,?_⟩⟩
 simp only [List.length_cons,List.length_nil] at hk
 obtain rfl:k = 0:=by omega
 exact row_cell h rfl
theorem own_formB {W:World} {base size n:Nat} {e:TypeId} {v:Value} {xs:List Value} (h:W.ownsRow base e size v n xs) (hn:0 < n):∃ g cap,v = .slice (some ⟨g,0,none⟩) n cap:=by
 rcases h.2 with ⟨rfl,h0⟩ | ⟨g,cap,cur,rfl,-⟩
 ·omega
 ·exact ⟨g,cap,rfl⟩
theorem own_fromB {W:World} {base size n b0:Nat} {e:TypeId} {v:Value} {xs:List Value} (h:W.ownsRow base e size v n xs) (hb:b0 ≤ base):∀ b,v.ownBlock = some b → b0 ≤ b:=fun b e1 => by
 rcases h.2 with ⟨rfl,-⟩ | ⟨g,cap,cur,rfl,hg,-⟩
 ·cases e1
 ·simp only [Value.ownBlock,Option.some.injEq] at e1
  omega
theorem pad_stop {n m:Nat} (h1:n + 1 ≤ m) (h2:m ≤ n + 1 + padN n):m % 64 = 56 ↔ m = n + 1 + padN n:=by unfold padN at *; omega
theorem rpadded_any (v:Value) (bs:List Nat) (w:World) (hI:Byts w v bs) (h0:0 < bs.length) (hl:bs.length ≤ 8796093022208) :
  Calls Tryz.prog 230 #[v] w fun e w' => ∃ v',e = .returned v' ∧ Byts w' v' (padded bs) ∧ (∀ b,v'.ownBlock = some b → w.heap.size ≤ b) ∧ Below w.heap.size w w':=by
 have HI:=Lib.hid hI
 obtain ⟨av,cv,rfl,-⟩:=id hI
 have HALL:Hid (∀ x ∈ padded bs,x < 256):=Lib.hid (by obtain ⟨_,_,_,_,_,h5,_⟩:=hI; exact padded_all bs h5)
 clear hI
 obtain ⟨W1,hW1⟩:∃ W,W = w.alloc (.cells #[] 5):=⟨_,rfl⟩
 have H1:Hid (W1.ownsRow w.heap.size 5 1 (.slice (some ⟨w.heap.size,0,none⟩) 0 0) 0 []):=Lib.hid (by rw [hW1]; exact World.ownsRow_made _ #[] 0 (Nat.le_refl _) (by unfold maxLen; omega) rfl)
 have HB1:=Lib.hid (show Below w.heap.size w W1 by rw [hW1]; exact below_new _ _ _)
 have HI1:=Lib.hid (HI.out.below HB1.out)
 have HW1:=Lib.hid hW1
 clear hW1
 have HPS:=Lib.hid (padded_size bs)
 have HPT:=Lib.hid (padded_take bs)
 have HPM:=Lib.hid (pad_mark bs)
 have HPN:=Lib.hid (fun m hm => padded_next bs m hm)
 have HPZ:=Lib.hid (fun i h h2 => pad_zero bs (i:=i) h h2)
 have HPE:=Lib.hid (fun j (h:j < 8) => pad_size bs h)
 have HST:=Lib.hid (fun m h1 h2 => pad_stop (n:=bs.length) (m:=m) h1 h2)
 have hpn:padN bs.length < 64:=Nat.mod_lt _ (by decide)
 obtain ⟨pn,hpnn⟩:∃ pn,pn = padN bs.length:=⟨_,rfl⟩
 rw [← hpnn] at HPS HPZ HPE HST hpn
 clear hpnn
 obtain ⟨P,hP⟩:∃ P,P = padded bs:=⟨_,rfl⟩
 rw [← hP] at HALL HPS HPT HPM HPN HPZ HPE ⊢
 clear hP
 obtain ⟨n,hn⟩:∃ n,n = bs.length:=⟨_,rfl⟩
 have HN:=Lib.hid hn
 rw [← hn] at HI HI1 HPS HPT HPM HPZ HPE HST h0 hl ⊢
 clear hn
 go_enter Tryz.func230,Tryz.ntmps230
 go_wp2_with (first
  | rw [← HW1.out]
  | (refine app_bytes rfl _ _ rfl w.heap.size 0 (.slice (some ⟨w.heap.size,0,none⟩) 0 0) (.slice av n cv) [] rfl H1.out bs rfl HI1.out (by have:=HN.out; omega) (by have:=HN.out; omega) HB1.out.size ?_; intro v2 w2 h2 g2; have hb2:=own_below H1.out g2 HB1.out.size; rw [Nat.zero_add,List.nil_append,← HN.out,← HPT.out] at h2; obtain ⟨q2,d2,rfl⟩:=own_formB h2 h0; have hn2:=below_new w2 #[.int .u8 ((128:Nat):Int)] 5; have hbw:=HB1.out.trans hb2; have H2:=Lib.hid (own_keep h2 hn2); have HB2:=Lib.hid (hbw.trans (hn2.mono hbw.size)); have HY:=Lib.hid (byte_lit w2 128 (by omega) _ rfl); clear h2 g2 hb2 hn2 hbw)
  | (refine app_bytes rfl _ _ rfl w.heap.size n (.slice (some ⟨q2,0,none⟩) n d2) (.slice (some ⟨w2.heap.size,0,none⟩) 1 1) ((P.take n).map byteV) rfl H2.out [128] rfl HY.out (by decide) (by show n + 1 ≤ _; omega) HB2.out.size ?_; intro v3 w3 h3 g3; have hb3:=own_below H2.out g3 HB2.out.size; have HB3:=Lib.hid (HB2.out.trans hb3); have H3:=Lib.hid (show w3.ownsRow w.heap.size 5 1 v3 (n + 1) ((P.take (n + 1)).map byteV) by rw [HPN.out n (by have:=HPS.out; omega),HPM.out,List.map_append]; exact h3); clear h3 g3 hb3))
 go_loopw [3] (fun C W => ∃ m:Nat,n + 1 ≤ m ∧ m ≤ n + 1 + pn ∧ W.ownsRow w.heap.size 5 1 C m ((P.take m).map byteV) ∧ Below w.heap.size w W) (fun C _ => n + 1 + pn - lenOf C)
 case atStart => exact ⟨n + 1,Nat.le_refl _,by omega,H3.out,HB3.out⟩
 case round =>
  obtain ⟨m,hm1,hm2,ho,hb⟩:=hrel
  obtain ⟨g,cap,rfl⟩:=own_formB ho (by omega)
  have HO:=Lib.hid ho
  have HB:=Lib.hid hb
  obtain ⟨r,hr⟩:∃ r:Int,r = ((m % 64:Nat):Int):=⟨_,rfl⟩
  have t0:(m:Int).tmod 64 = r:=by rw [hr,Int.tmod_eq_emod_of_nonneg (by omega)]; omega
  have t1:(m:Int) % 64 = r:=by rw [hr]; omega
  by_cases hm:m = n + 1 + pn
  ·have d0:(r != 56) = false:=bne_eq_false_iff_eq.2 (by have:=(HST.out m hm1 hm2).2 hm; omega)
   have hn8:IntKind.u64.wrap (n:Int) = (n:Int):=by simp [IntKind.wrap,IntKind.bits,IntKind.signed]; omega
   have hn9:IntKind.u64.wrap ((n:Int) * 8) = ((n * 8:Nat):Int):=by simp [IntKind.wrap,IntKind.bits,IntKind.signed]; omega
   obtain ⟨N,hNN⟩:∃ N,N = n * 8:=⟨_,rfl⟩
   rw [← hNN] at hn9 HPE
   have hN64:N < 18446744073709551616:=by omega
   have HM:=Lib.hid hm
   clear hr hNN ho hb hm1 hm2 hm
   go_wp2_with fail
   go_loopw [3,5] (fun C i W => ∃ r:Nat,r ≤ 8 ∧ i = .int .i64 ((r:Int) - 1) ∧ W.ownsRow w.heap.size 5 1 C (n + 1 + pn + 8 - r) ((P.take (n + 1 + pn + 8 - r)).map byteV) ∧ Below w.heap.size w W) (fun _ i _ => (intOf i + 1).toNat)
   case atStart => exact ⟨8,Nat.le_refl _,rfl,by rw [Nat.add_sub_cancel,← HM.out]; exact HO.out,HB.out⟩
   case round =>
    obtain ⟨r,hr8,rfl,ho,hb⟩:=hrel
    have HO:=Lib.hid ho
    have HB:=Lib.hid hb
    cases r with
    | zero =>
     have HBY:Hid (Byts wr u3 P):=Lib.hid (Byts.own (base:=w.heap.size) (n:=P.length) (by rw [Nat.sub_zero,← HPS.out,List.take_length] at ho; exact ho) HALL.out (by have:=HPS.out; omega))
     have HFR:=Lib.hid (own_fromB HO.out (Nat.le_refl _))
     clear ho hb
     go_wp2_with fail
     go_ret
     exact ⟨_,rfl,HBY.out,HFR.out,HB.out⟩
    | succ s =>
     have e0:(((s + 1:Nat):Int) - 1) = (s:Int):=by omega
     rw [e0]
     clear e0
     obtain ⟨m,hm⟩:∃ m,m = n + 1 + pn + 8 - (s + 1):=⟨_,rfl⟩
     rw [← hm] at ho
     obtain ⟨g2,cap2,rfl⟩:=own_formB ho (by omega)
     have hx:P.getD m 0 = N / 2 ^ (8 * s) % 256:=by
      have h1:=HPE.out (7 - s) (by omega)
      rw [show n + 1 + pn + (7 - s) = m by omega,show 7 - (7 - s) = s by omega] at h1
      exact h1
     obtain ⟨x,hxx⟩:∃ x,x = N / 2 ^ (8 * s) % 256:=⟨_,rfl⟩
     have hx256:x < 256:=by rw [hxx]; exact Nat.mod_lt _ (by decide)
     rw [← hxx] at hx
     have u1:IntKind.u8.wrap ((N:Int) / 2 ^ (8 * s)) = (x:Int):=by rw [hxx]; exact u64_shr_byte N s
     have s7:s ≤ 7:=by omega
     have HX:=Lib.hid hx
     have HM2:=Lib.hid (show m + 1 = n + 1 + pn + 8 - s ∧ m < P.length by have:=HPS.out; omega)
     have hn2:=below_new wr #[.int .u8 (x:Int)] 5
     have H2:=Lib.hid (own_keep ho hn2)
     have HB2:=Lib.hid (hb.trans (hn2.mono hb.size))
     have HY:=Lib.hid (byte_lit wr x hx256 _ rfl)
     have HML:=Lib.hid (show m ≤ 17592186044416 by omega)
     clear hxx hx hm ho hb hn2
     go_wp2_with (refine app_bytes rfl _ _ rfl w.heap.size m (.slice (some ⟨g2,0,none⟩) m cap2) (.slice (some ⟨wr.heap.size,0,none⟩) 1 1) ((P.take m).map byteV) rfl H2.out [x] rfl HY.out (Nat.succ_pos 0) (by show m + 1 ≤ _; have:=HML.out; omega) HB2.out.size ?_; intro v3 w3 h3 g3; have hb3:=own_below H2.out g3 HB2.out.size; have HB3:=Lib.hid (HB2.out.trans hb3); have H3:=Lib.hid (show w3.ownsRow w.heap.size 5 1 v3 (m + 1) ((P.take (m + 1)).map byteV) by rw [HPN.out m HM2.out.2,HX.out,List.map_append]; exact h3); clear h3 g3 hb3)
     go_roundw
     case rel => exact ⟨s,by omega,by go_num,by rw [← HM2.out.1]; exact H3.out,HB3.out⟩
     case measure => first | (simp [intOf]; done) | (simp [intOf]; omega)
  ·have d0:(r != 56) = true:=bne_iff_ne.2 (by intro h; apply hm; apply (HST.out m hm1 hm2).1; omega)
   have hn2:=below_new wr #[.int .u8 ((0:Nat):Int)] 5
   have H2:=Lib.hid (own_keep ho hn2)
   have HB2:=Lib.hid (hb.trans (hn2.mono hb.size))
   have HY:=Lib.hid (byte_lit wr 0 (by omega) _ rfl)
   have HM:=Lib.hid hm
   clear hr ho hb hn2 hm
   go_wp2_with (refine app_bytes rfl _ _ rfl w.heap.size m (.slice (some ⟨g,0,none⟩) m cap) (.slice (some ⟨wr.heap.size,0,none⟩) 1 1) ((P.take m).map byteV) rfl H2.out [0] rfl HY.out (by decide) (by show m + 1 ≤ _; omega) HB2.out.size ?_; intro v3 w3 h3 g3; have hb3:=own_below H2.out g3 HB2.out.size; have HB3:=Lib.hid (HB2.out.trans hb3); have H3:=Lib.hid (show w3.ownsRow w.heap.size 5 1 v3 (m + 1) ((P.take (m + 1)).map byteV) by rw [HPN.out m (by have:=HPS.out; omega),HPZ.out m (by omega) (by have:=HM.out; omega),List.map_append]; exact h3); clear h3 g3 hb3)
   go_roundw
   case rel => exact ⟨m + 1,by omega,by have:=HM.out; omega,H3.out,HB3.out⟩
   case measure =>
    obtain ⟨g',cap',e⟩:=own_formB H3.out (by omega)
    rw [e]
    show n + 1 + pn - (m + 1) < n + 1 + pn - m
    have:=HM.out; omega
end Go.Proofs.YtggnipkfliompaaGreatDoor
