/- The references' small functions: numerals, unsigned, mod. The reference of codec: lists of integers are well-formed, and not deep. The reference of codec: the bytes of lists of integers. The reference of codec: Encode at lists of integers, Int. The reference of parcels: Pad. -/
import Derived.Test.YtggnipkfliompaaGreatDoorMCodD
import Derived.Test.YtggnipkfliompaaGreatDoorMDigD
import Derived.Test.YtggnipkfliompaaGreatDoorMRefI
import Derived.Test.YtggnipkfliompaaGreatDoorMLinU
import Derived.Lib.MinMax
set_option maxHeartbeats 2000000
set_option maxRecDepth 100000
namespace Go.Proofs.YtggnipkfliompaaGreatDoor
open Go.RowKit
theorem own_one (W:World) (v:Value) (t:TypeId):(W.alloc (.cells #[v] t)).ownsRow W.heap.size t 1 (.slice (some ⟨W.heap.size,0,none⟩) 1 1) 1 [v]:=by
 refine ⟨rfl,.inr ⟨W.heap.size,1,#[v],rfl,Nat.le_refl _,World.alloc_heap_new _ _,Nat.le_refl _,?_,?_,?_⟩⟩ <;> first | rfl | decide | (unfold maxLen; omega)
theorem runsigned_any (n:Int) (w:World) (hn:R64 n) :
  Calls Tryz.prog 235 #[.int .i64 n] w fun e w' => e = .returned (.int .u64 (zig n:Nat)) ∧ w = w':=by
 obtain ⟨h1,h2⟩:=hn
 by_cases h0:0 ≤ n
 ·have H:Hid (2 * n = (zig n:Nat)):=Lib.hid (by unfold zig; rw [if_pos h0]; omega)
  go_enter Tryz.func235,Tryz.ntmps235
  go_wp2_with fail
  go_ret
  exact ⟨ret_int H.out,rfl⟩
 ·have H:Hid (2 * (-(n + 1)) + 1 = (zig n:Nat)):=Lib.hid (by unfold zig; rw [if_neg h0]; omega)
  go_enter Tryz.func235,Tryz.ntmps235
  go_wp2_with fail
  go_ret
  exact ⟨ret_int H.out,rfl⟩
def Fresh (w:World) (bs:List Nat) (e:Ending) (w':World):Prop:=∃ v,e = .returned v ∧ w'.ownsRow w.heap.size 5 1 v bs.length (bs.map byteV) ∧ Below w.heap.size w w'
theorem rnumeral_any (u:Nat):∀ (w:World),u < 18446744073709551616 → Calls Tryz.prog 234 #[.int .u64 u] w (Fresh w (num u)):=by
 induction u using Nat.strongRecOn with
 | ind u ih =>
  intro w hu
  by_cases h:u < 128
  ·have hd:decide ((u:Int) < 128) = true:=decide_eq_true (by omega)
   have HO:=Lib.hid (own_one w (byteV u) 5)
   have HB:=Lib.hid (below_one w (byteV u) 5)
   have HN:=Lib.hid (num_small h)
   have he:(u:Int) % 256 = u:=by omega
   clear ih
   go_enter Tryz.func234,Tryz.ntmps234
   go_wp2_with fail
   go_ret
   refine ⟨_,rfl,?_,HB.out⟩
   rw [HN.out]
   exact HO.out
  ·have hd:decide ((u:Int) < 128) = false:=decide_eq_false (by omega)
   have e1:((u / 128:Nat):Int) = (u:Int) / 128:=by omega
   have e2:((u % 128 + 128:Nat):Int) = (u:Int) % 128 + 128:=by omega
   have HI:=Lib.hid (fun w => ih (u / 128) (by omega) w (by omega))
   rw [e1] at HI
   have HN:=Lib.hid (num_great (u:=u) (by omega))
   have HL:=Lib.hid (num_ten (u:=u / 128) (by omega))
   have HP:=Lib.hid (num_pos (u / 128))
   have HA:=Lib.hid (num_all (u / 128))
   have hbv:byteV (u % 128 + 128) = .int .u8 ((u:Int) % 128 + 128):=by rw [← e2]; rfl
   obtain ⟨W1,hW1⟩:∃ W1,W1 = w.alloc (.cells #[.int .u8 ((u:Int) % 128 + 128)] 5):=⟨_,rfl⟩
   have hO:=own_one w (byteV (u % 128 + 128)) 5
   have hB:=below_one w (byteV (u % 128 + 128)) 5
   rw [hbv,← hW1] at hO hB
   rw [← hbv] at hO
   have HO:=Lib.hid hO
   have HB:=Lib.hid hB
   have HW1:=Lib.hid hW1
   clear ih e1 e2 hbv hO hB hW1
   go_enter Tryz.func234,Tryz.ntmps234
   go_wp2_with fail
   rw [← HW1.out]
   refine (HI.out W1).mono ?_
   rintro e w2 ⟨v2,rfl,ho2,hb2⟩
   have HY:=Lib.hid (Byts.own ho2 HA.out (by have:=HL.out; omega))
   have HO2:=Lib.hid (own_keep HO.out hb2)
   have HB2:=Lib.hid (HB.out.trans (hb2.mono HB.out.size))
   clear ho2 hb2 HO
   go_wp2_with (refine app_bytes rfl _ _ rfl w.heap.size 1 _ _ [byteV (u % 128 + 128)] rfl HO2.out (num (u / 128)) rfl HY.out HP.out (by have:=HL.out; omega) HB2.out.size ?_; intro v8 w8 h8 o8; have H8:=Lib.hid h8; have O8:=Lib.hid o8; clear h8 o8)
   go_ret
   refine ⟨_,rfl,?_,HB2.out.trans (own_below HO2.out O8.out HB2.out.size)⟩
   rw [HN.out,List.length_cons,List.map_cons,Nat.add_comm]
   exact H8.out
end Go.Proofs.YtggnipkfliompaaGreatDoor
namespace Go.Proofs.YtggnipkfliompaaGreatDoor
open Go.RowKit
theorem rformed_int (n:Int) (w:World) :
  Calls Tryz.prog 232 #[vInt n] w fun e w' => e = .returned (.bool true) ∧ Below w.heap.size w w':=by
 unfold vInt
 go_enter Tryz.func232,Tryz.ntmps232
 go_wp2_with fail
 go_ret
 exact ⟨rfl,(Below.refl _ _).alloc (Nat.le_refl _) _⟩
theorem rdepth_int (n:Int) (w:World) :
  Calls Tryz.prog 233 #[vInt n] w fun e w' => e = .returned (.int .i64 0) ∧ Below w.heap.size w w':=by
 unfold vInt
 go_enter Tryz.func233,Tryz.ntmps233
 go_wp2_with fail
 go_ret
 exact ⟨rfl,(Below.refl _ _).alloc (Nat.le_refl _) _⟩
theorem rformed_list (v:Value) (zs:List Int) (w:World) (hV:Vals w v zs) :
  Calls Tryz.prog 232 #[vList v] w fun e w' => e = .returned (.bool true) ∧ Below w.heap.size w w':=by
 obtain ⟨a,cap,rfl,hcap,hlen,hr,-⟩:=id hV
 obtain ⟨W1,hW1,hb1,hr1⟩:=boxed4 w (.int .i64 3) (.int .i64 0) (.string ⟨#[]⟩) (.slice a zs.length cap) 171
 obtain ⟨a',cap',e',-,-,-,hk⟩:=hV.below hb1
 obtain ⟨rfl,-,rfl⟩:a = a' ∧ True ∧ cap = cap':=by simp at e'; exact ⟨e'.1,trivial,e'.2⟩
 have HK:=Lib.hid hk
 have HW1:=Lib.hid hW1
 have HB1:=Lib.hid hb1
 have HR1:=Lib.hid hr1
 clear hk hr hW1 hb1 hr1 e' hV
 unfold vList
 go_enter Tryz.func232,Tryz.ntmps232
 go_wp2_with fail
 rw [← HW1.out]
 go_loopw [3] (fun i W => ∃ k:Nat,k ≤ zs.length ∧ i = .int .i64 k ∧ Below W1.heap.size W1 W) (fun i _ => zs.length - (intOf i).toNat)
 case atStart => exact ⟨0,Nat.zero_le _,rfl,Below.refl _ _⟩
 case round =>
  obtain ⟨k,hkl,rfl,hb⟩:=hrel
  have x1:=below_cell hb (row_cell HR1.out (k:=1) rfl)
  have x2:=below_cell hb (row_cell HR1.out (k:=2) rfl)
  have x3:=below_cell hb (row_cell HR1.out (k:=3) rfl)
  by_cases hlt:k < zs.length
  ·obtain ⟨b,off,rfl,q1,q2,q3,q4⟩:=HK.out k hlt
   have c1:=below_cell hb q1
   have c2:=below_cell hb q2
   have c3:=below_cell hb q3
   have c4:=below_cell hb q4
   generalize zs[k] = z at *
   clear q1 q2 q3 q4
   go_wp2_with fail
   refine (rformed_int z _).mono ?_
   rintro e w1 ⟨rfl,hb1⟩
   go_wp2_with fail
   go_roundw
   case rel => exact ⟨k + 1,by omega,by go_num,hb.trans (hb1.mono hb.size)⟩
   case measure => simp [intOf]; omega
  ·obtain rfl:k = zs.length:=by omega
   go_wp2_with fail
   go_ret
   exact ⟨rfl,HB1.out.trans (hb.mono HB1.out.size)⟩
theorem rdepth_list (v:Value) (zs:List Int) (w:World) (hV:Vals w v zs) :
  Calls Tryz.prog 233 #[vList v] w fun e w' => e = .returned (.int .i64 1) ∧ Below w.heap.size w w':=by
 obtain ⟨a,cap,rfl,hcap,hlen,hr,-⟩:=id hV
 obtain ⟨W1,hW1,hb1,hr1⟩:=boxed4 w (.int .i64 3) (.int .i64 0) (.string ⟨#[]⟩) (.slice a zs.length cap) 171
 obtain ⟨a',cap',e',-,-,-,hk⟩:=hV.below hb1
 obtain ⟨rfl,-,rfl⟩:a = a' ∧ True ∧ cap = cap':=by simp at e'; exact ⟨e'.1,trivial,e'.2⟩
 have HK:=Lib.hid hk
 have HW1:=Lib.hid hW1
 have HB1:=Lib.hid hb1
 have HR1:=Lib.hid hr1
 clear hk hr hW1 hb1 hr1 e' hV
 unfold vList
 go_enter Tryz.func233,Tryz.ntmps233
 go_wp2_with fail
 rw [← HW1.out]
 go_loopw [3,4] (fun d i W => ∃ k:Nat,k ≤ zs.length ∧ i = .int .i64 k ∧ d = .int .i64 0 ∧ Below W1.heap.size W1 W) (fun _ i _ => zs.length - (intOf i).toNat)
 case atStart => exact ⟨0,Nat.zero_le _,rfl,rfl,Below.refl _ _⟩
 case round =>
  obtain ⟨k,hkl,rfl,rfl,hb⟩:=hrel
  have x1:=below_cell hb (row_cell HR1.out (k:=1) rfl)
  have x2:=below_cell hb (row_cell HR1.out (k:=2) rfl)
  have x3:=below_cell hb (row_cell HR1.out (k:=3) rfl)
  by_cases hlt:k < zs.length
  ·obtain ⟨b,off,rfl,q1,q2,q3,q4⟩:=HK.out k hlt
   have c1:=below_cell hb q1
   have c2:=below_cell hb q2
   have c3:=below_cell hb q3
   have c4:=below_cell hb q4
   generalize zs[k] = z at *
   clear q1 q2 q3 q4
   go_wp2_with fail
   refine (rdepth_int z _).mono ?_
   rintro e w1 ⟨rfl,hb1⟩
   go_wp2_with fail
   go_roundw
   case rel => exact ⟨k + 1,by omega,by go_num,rfl,hb.trans (hb1.mono hb.size)⟩
   case measure => simp [intOf]; omega
  ·obtain rfl:k = zs.length:=by omega
   go_wp2_with fail
   go_ret
   exact ⟨rfl,HB1.out.trans (hb.mono HB1.out.size)⟩
theorem rcheck_list (v:Value) (zs:List Int) (w:World) (hV:Vals w v zs) :
  Calls Tryz.prog 215 #[vList v] w fun e w' => e = .returned (.int .i64 0) ∧ Below w.heap.size w w':=by
 obtain ⟨a,cap,rfl,hcap,hlen,hr,-⟩:=id hV
 obtain ⟨W1,hW1,hb1,hr1⟩:=boxed4 w (.int .i64 3) (.int .i64 0) (.string ⟨#[]⟩) (.slice a zs.length cap) 171
 have hV1:=hV.below hb1
 have HF:=Lib.hid (rformed_list _ zs W1 hV1)
 have HD:=Lib.hid (fun W' (h:Below W1.heap.size W1 W') => rdepth_list _ zs W' (hV1.below h))
 have HW1:=Lib.hid hW1
 have HB1:=Lib.hid hb1
 have x0:W1.cell? ⟨w.heap.size,0,none⟩ = some (.int .i64 3):=row_cell hr1 rfl
 have x1:W1.cell? ⟨w.heap.size,1,none⟩ = some (.int .i64 0):=row_cell hr1 rfl
 have x2:W1.cell? ⟨w.heap.size,2,none⟩ = some (.string ⟨#[]⟩):=row_cell hr1 rfl
 have x3:W1.cell? ⟨w.heap.size,3,none⟩ = some (.slice a zs.length cap):=row_cell hr1 rfl
 clear hW1 hb1 hr1 hV hV1
 unfold vList at HF HD ⊢
 go_enter Tryz.func215,Tryz.ntmps215
 go_wp2_with fail
 rw [← HW1.out]
 refine HF.out.mono ?_
 rintro e w1 ⟨rfl,hb2⟩
 have y0:=below_cell hb2 x0
 have y1:=below_cell hb2 x1
 have y2:=below_cell hb2 x2
 have y3:=below_cell hb2 x3
 have HB2:=Lib.hid hb2
 clear x0 x1 x2 x3 hb2
 go_wp2_with fail
 refine (HD.out _ HB2.out).mono ?_
 rintro e w2 ⟨rfl,hb3⟩
 go_wp2_with fail
 go_ret
 exact ⟨rfl,HB1.out.trans ((HB2.out.trans (hb3.mono HB2.out.size)).mono HB1.out.size)⟩
end Go.Proofs.YtggnipkfliompaaGreatDoor
namespace Go.Proofs.YtggnipkfliompaaGreatDoor
open Go.RowKit
theorem rencode_int (n:Int) (w:World) (hn:R64 n) :
  Calls Tryz.prog 216 #[vInt n] w (Fresh w (encI n)):=by
 obtain ⟨W1,hW1,hb1,hr1⟩:=boxed4 w (.int .i64 1) (.int .i64 n) (.string ⟨#[]⟩) (.slice none 0 0) 171
 have x1:W1.cell? ⟨w.heap.size,1,none⟩ = some (.int .i64 n):=row_cell hr1 rfl
 obtain ⟨W2,hW2⟩:∃ W2,W2 = W1.alloc (.cells #[.int .u8 1] 5):=⟨_,rfl⟩
 have hO:=own_one W1 (byteV 1) 5
 have hB:=below_one W1 (byteV 1) 5
 rw [show byteV 1 = .int .u8 1 from rfl,← hW2] at hO hB
 have x2:=below_cell hB x1
 have HO:=Lib.hid (show W2.ownsRow W1.heap.size 5 1 (.slice (some ⟨W1.heap.size,0,none⟩) 1 1) 1 [byteV 1] from hO)
 have HB:=Lib.hid hB
 have HB1:=Lib.hid hb1
 have hz:W1.heap.size = w.heap.size + 1:=by rw [hW1]; simp [go_sem]
 have HZ:=Lib.hid hz
 have HU:=Lib.hid (zig_lt hn)
 have HW:Hid ((w.alloc (.cells #[.int .i64 1,.int .i64 n,.string ⟨#[]⟩,.slice none 0 0] 171)).alloc (.cells #[.int .u8 1] 5) = W2):=Lib.hid (by rw [hW2,hW1])
 clear hW1 hb1 hr1 x1 hW2 hO hB hz
 unfold vInt
 go_enter Tryz.func216,Tryz.ntmps216
 go_wp2_with fail
 with_reducible refine (runsigned_any n _ hn).mono ?_
 rintro e w1 ⟨rfl,rfl⟩
 go_wp2_with fail
 rw [HW.out]
 refine (rnumeral_any (zig n) W2 HU.out).mono ?_
 rintro e w2 ⟨v2,rfl,ho2,hb2⟩
 have HY:=Lib.hid (Byts.own ho2 (num_all _) (by have:=num_ten HU.out; omega))
 have HO2:=Lib.hid (own_keep HO.out hb2)
 have HB2:=Lib.hid (HB.out.trans (hb2.mono HB.out.size))
 have HL:=Lib.hid (num_ten HU.out)
 clear ho2 hb2 HO
 go_wp2_with (refine app_bytes rfl _ _ rfl W1.heap.size 1 _ _ [byteV 1] (by first | rfl | (rw [HZ.out]; rfl)) HO2.out (num (zig n)) rfl HY.out (num_pos _) (by have:=HL.out; omega) HB2.out.size ?_; intro v8 w8 h8 o8; have H8:=Lib.hid h8; have O8:=Lib.hid o8; clear h8 o8)
 go_ret
 refine ⟨_,rfl,?_,HB1.out.trans ((HB2.out.trans (own_below HO2.out O8.out HB2.out.size)).mono HB1.out.size)⟩
 have h:=own_low H8.out HB1.out.size
 rw [show 1 + (num (zig n)).length = (encI n).length from by unfold encI; rw [List.length_cons,Nat.add_comm]] at h
 exact h
def preL (zs:List Int) (k:Nat):List Nat:=3 :: (num zs.length ++ (zs.take k).flatMap encI)
theorem preL_0 (zs:List Int):preL zs 0 = [3] ++ num zs.length:=by unfold preL; simp
theorem preL_s (zs:List Int) {k:Nat} (h:k < zs.length):preL zs k ++ encI zs[k] = preL zs (k + 1):=by
 have:=enc_list_s [] zs.length zs h
 simpa [preL] using this
theorem preL_all (zs:List Int):preL zs zs.length = encL zs:=by unfold preL encL; rw [List.take_length]
theorem preL_len (zs:List Int) (k:Nat) (h:∀ z ∈ zs,R64 z) (hl:zs.length ≤ 1000000):(preL zs k).length ≤ 11000011:=by
 unfold preL
 rw [List.length_cons,List.length_append]
 have h1:=flat_len (zs.take k) (fun z hz => h z (List.mem_of_mem_take hz))
 have h2:=num_ten (u:=zs.length) (by omega)
 have h3:(zs.take k).length ≤ zs.length:=by rw [List.length_take]; omega
 omega
theorem rencode_list (v:Value) (zs:List Int) (w:World) (hV:Vals w v zs) :
  Calls Tryz.prog 216 #[vList v] w (Fresh w (encL zs)):=by
 obtain ⟨a,cap,rfl,hcap,hlen,hr,-⟩:=id hV
 obtain ⟨W1,hW1,hb1,hr1⟩:=boxed4 w (.int .i64 3) (.int .i64 0) (.string ⟨#[]⟩) (.slice a zs.length cap) 171
 have x1:W1.cell? ⟨w.heap.size,3,none⟩ = some (.slice a zs.length cap):=row_cell hr1 rfl
 obtain ⟨W2,hW2⟩:∃ W2,W2 = W1.alloc (.cells #[.int .u8 3] 5):=⟨_,rfl⟩
 have hO:=own_one W1 (byteV 3) 5
 have hB:=below_one W1 (byteV 3) 5
 rw [show byteV 3 = .int .u8 3 from rfl,← hW2] at hO hB
 have x2:=below_cell hB x1
 have HO:=Lib.hid (show W2.ownsRow W1.heap.size 5 1 (.slice (some ⟨W1.heap.size,0,none⟩) 1 1) 1 [byteV 3] from hO)
 obtain ⟨a',cap',e',-,-,-,hk⟩:=hV.below hb1
 obtain ⟨rfl,-,rfl⟩:a = a' ∧ True ∧ cap = cap':=by simp at e'; exact ⟨e'.1,trivial,e'.2⟩
 have HK:=Lib.hid hk
 have HR:=Lib.hid hr
 have HX1:=Lib.hid x1
 have HB:=Lib.hid hB
 have HB1:=Lib.hid hb1
 have HZ:=Lib.hid (show W1.heap.size = w.heap.size + 1 by rw [hW1]; simp [go_sem])
 have HW:Hid ((w.alloc (.cells #[.int .i64 3,.int .i64 0,.string ⟨#[]⟩,.slice a zs.length cap] 171)).alloc (.cells #[.int .u8 3] 5) = W2):=Lib.hid (by rw [hW2,hW1])
 have HPL:=Lib.hid (fun k => preL_len zs k hr hlen)
 have hcv:IntKind.u64.wrap ((zs.length:Nat):Int) = zs.length:=by rw [IntKind.wrap_u64]; omega
 clear hW1 hb1 hr1 x1 hW2 hO hB hk hr e' hV
 unfold vList
 go_enter Tryz.func216,Tryz.ntmps216
 go_wp2_with fail
 rw [HW.out]
 refine (rnumeral_any zs.length W2 (by omega)).mono ?_
 rintro e w2 ⟨v2,rfl,ho2,hb2⟩
 have HY:=Lib.hid (Byts.own ho2 (num_all _) (by have:=num_ten (u:=zs.length) (by omega); omega))
 have HO2:=Lib.hid (own_keep HO.out hb2)
 have HB2:=Lib.hid (HB.out.trans (hb2.mono HB.out.size))
 have HL:=Lib.hid (num_ten (u:=zs.length) (by omega))
 clear ho2 hb2 HO x2
 go_wp2_with (refine app_bytes rfl _ _ rfl W1.heap.size 1 _ _ [byteV 3] (by first | rfl | (rw [HZ.out]; rfl)) HO2.out (num zs.length) rfl HY.out (num_pos _) (by have:=HL.out; omega) HB2.out.size ?_; intro v8 w8 h8 o8; have H8:=Lib.hid h8; have O8:=Lib.hid o8; clear h8 o8)
 have h00:w8.ownsRow W1.heap.size 5 1 v8 (preL zs 0).length ((preL zs 0).map byteV):=by
  rw [preL_0,List.length_append,List.map_append]; exact H8.out
 have hb00:=HB2.out.trans (own_below HO2.out O8.out HB2.out.size)
 go_loopw [3,4] (fun L i W => ∃ k:Nat,k ≤ zs.length ∧ i = .int .i64 k ∧ W.ownsRow W1.heap.size 5 1 L (preL zs k).length ((preL zs k).map byteV) ∧ Below W1.heap.size W1 W) (fun _ i _ => zs.length - (intOf i).toNat)
 case atStart => exact ⟨0,Nat.zero_le _,rfl,h00,hb00⟩
 case round =>
  clear h00 hb00
  obtain ⟨k,hkl,rfl,hown,hb⟩:=hrel
  have x3:=below_cell hb HX1.out
  by_cases hlt:k < zs.length
  ·obtain ⟨b,off,rfl,q1,q2,q3,q4⟩:=HK.out k hlt
   have hz:=HR.out _ (List.getElem_mem hlt)
   have HPS:=Lib.hid (preL_s zs hlt)
   have c1:=below_cell hb q1
   have c2:=below_cell hb q2
   have c3:=below_cell hb q3
   have c4:=below_cell hb q4
   generalize zs[k] = z at *
   have HOW:=Lib.hid hown
   have HBB:=Lib.hid hb
   clear q1 q2 q3 q4 hown
   go_wp2_with fail
   refine (rencode_int z _ hz).mono ?_
   rintro e w3 ⟨v3,rfl,ho3,hb3⟩
   have HY3:=Lib.hid (Byts.own ho3 (encI_all z) (by have:=encI_len hz; omega))
   have HO3:=Lib.hid (own_keep HOW.out hb3)
   have HB3:=Lib.hid (HBB.out.trans (hb3.mono HBB.out.size))
   have x4:=below_cell hb3 x3
   have HL3:=Lib.hid (encI_len hz)
   have HP3:Hid (0 < (encI z).length):=Lib.hid (by unfold encI; simp)
   clear ho3 hb3 x3 c1 c2 c3 c4
   go_wp2_with (refine app_bytes rfl _ _ rfl W1.heap.size (preL zs k).length _ _ _ rfl HO3.out (encI z) rfl HY3.out HP3.out (by have:=HL3.out; have:=HPL.out k; omega) HB3.out.size ?_; intro v9 w9 h9 o9; have H9:=Lib.hid h9; have O9:=Lib.hid o9; clear h9 o9)
   go_roundw
   case rel => exact ⟨k + 1,by omega,by go_num,by rw [← HPS.out,List.length_append,List.map_append]; exact H9.out,HB3.out.trans (own_below HO3.out O9.out HB3.out.size)⟩
   case measure => simp [intOf]; omega
  ·obtain rfl:k = zs.length:=by omega
   rw [preL_all] at hown
   have HOW:=Lib.hid (own_low hown HB1.out.size)
   have HBB:=Lib.hid (HB1.out.trans (hb.mono HB1.out.size))
   clear hown hb
   go_wp2_with fail
   go_ret
   exact ⟨_,rfl,HOW.out,HBB.out⟩
end Go.Proofs.YtggnipkfliompaaGreatDoor
namespace Go.Proofs.YtggnipkfliompaaGreatDoor
open Go.RowKit
theorem rEncode_any (lv:Value) (zs:List Int) (w:World) (hV:Vals w lv zs) :
  Calls Tryz.prog 190 #[vList lv] w (Encoded w zs):=by
 obtain ⟨a,cap,rfl,hcap,hlen,hr,-⟩:=id hV
 obtain ⟨W1,hW1,hb1,hr1⟩:=boxed4 w (.int .i64 3) (.int .i64 0) (.string ⟨#[]⟩) (.slice a zs.length cap) 171
 have hV1:=hV.below hb1
 have HF:=Lib.hid (rcheck_list _ zs W1 hV1)
 have HD:=Lib.hid (fun W' (h:Below W1.heap.size W1 W') => rencode_list _ zs W' (hV1.below h))
 have HW1:=Lib.hid hW1
 have HB1:=Lib.hid hb1
 have HEL:Hid ((encL zs).length ≤ 11000011):=Lib.hid (by have:=encL_len hr hlen; omega)
 have x0:W1.cell? ⟨w.heap.size,0,none⟩ = some (.int .i64 3):=row_cell hr1 rfl
 have x1:W1.cell? ⟨w.heap.size,1,none⟩ = some (.int .i64 0):=row_cell hr1 rfl
 have x2:W1.cell? ⟨w.heap.size,2,none⟩ = some (.string ⟨#[]⟩):=row_cell hr1 rfl
 have x3:W1.cell? ⟨w.heap.size,3,none⟩ = some (.slice a zs.length cap):=row_cell hr1 rfl
 clear hW1 hb1 hr1 hV hV1 hr
 unfold vList at HF HD ⊢
 go_enter Tryz.func190,Tryz.ntmps190
 go_wp2_with fail
 rw [← HW1.out]
 refine HF.out.mono ?_
 rintro e w1 ⟨rfl,hb2⟩
 have y0:=below_cell hb2 x0
 have y1:=below_cell hb2 x1
 have y2:=below_cell hb2 x2
 have y3:=below_cell hb2 x3
 have HB2:=Lib.hid hb2
 clear x0 x1 x2 x3 hb2
 go_wp2_with fail
 refine (HD.out _ HB2.out).mono ?_
 rintro e w2 ⟨v2,rfl,ho2,hb3⟩
 have HY:=Lib.hid (Byts.own ho2 (encL_all zs) (by have:=HEL.out; omega))
 clear ho2
 go_wp2_with fail
 go_ret2
 exact ⟨_,rfl,HY.out,HB1.out.trans ((HB2.out.trans (hb3.mono HB2.out.size)).mono HB1.out.size)⟩
theorem rInt_any (n:Int) (w:World) :
  Calls Tryz.prog 194 #[.int .i64 n] w fun e w' => e = .returned (vInt n) ∧ Below w.heap.size w w':=by
 unfold vInt
 go_enter Tryz.func194,Tryz.ntmps194
 go_wp2_with fail
 refine bodyPost_ret (v:=.agg #[.int .i64 1,.int .i64 n,.string ⟨#[]⟩,.slice none 0 0]) (by simp [results,Tryz.results194,go_sem]) rfl ⟨rfl,?_⟩
 exact (Below.refl _ _).alloc (Nat.le_refl _) _
theorem step_app_val {ops:Array Oper} {o:Oper} {a:Act} {K:Act → World → Prop} {Q:Exit → Act → World → Prop} {E:Prop} {W:World} (hgd:o.guard = none) (s x:Operand) (ho:o.op = .call { callee:=.builtin .append,args:=#[s,x],argTypes:=#[169,169] })
  (base:Nat) (v:Value) (zs:List Int) (n:Nat) (hs:a.eval s = v) (hown:W.ownsRow base 171 4 v n (zs.flatMap valC)) (b c:Nat) (z:Int) (hx:a.eval x = .slice (some ⟨b,0,none⟩) 1 c) (hcell:∀ j u,(valC z)[j]? = some u → W.cell? ⟨b,j,none⟩ = some u) (hn:n ≤ 1000000) (hbase:base ≤ W.heap.size)
  (h:∀ g cap w',w'.ownsRow base 171 4 (.slice (some ⟨g,0,none⟩) (n + 1) cap) (n + 1) ((zs ++ [z]).flatMap valC) → Onto W v w' (.slice (some ⟨g,0,none⟩) (n + 1) cap) → K (a.put o.dst (.slice (some ⟨g,0,none⟩) (n + 1) cap)) w') :
  if Region.wanted o (yielded ops a.tmps) = true then Oper.wp Tryz.prog o a W K Q else E:=by
 obtain ⟨i,hi,hzz⟩:=Option.map_eq_some_iff.1 infoV
 simp only [Prod.mk.injEq] at hzz
 obtain ⟨hz,hs1,hb⟩:=hzz
 obtain ⟨zv,hzv,hzs⟩:=Option.map_eq_some_iff.1 hz
 refine step_append_lies _ hgd s x 169 ho base 171 i zv 4 56 Tryz.underlying169 hi hzv hs1 hb hzs (by decide) v n (zs.flatMap valC) hs hown ⟨b,0,none⟩ 1 c (valC z) hx rfl ?_ ?_ (by decide) ?_ ?_ hbase W.heap.size rfl ?_
 ·intro j u hu
  rw [add_row]; exact hcell j u hu
 ·intro u hu
  simp only [valC,List.mem_cons,List.not_mem_nil,or_false] at hu
  rcases hu with rfl | rfl | rfl | rfl <;> rfl
 ·unfold maxLen; omega
 ·omega
 ·intro g cap w' h1 h2 h3 _
  refine h g cap w' (by rw [flat_snoc]; exact h1) ⟨h2,?_⟩
  rcases h3 with h3 | h3
  ·exact .inl (h3 ▸ rfl)
  ·exact .inr ⟨g,rfl,by omega⟩
end Go.Proofs.YtggnipkfliompaaGreatDoor
namespace Go.Proofs.YtggnipkfliompaaGreatDoor
open Go.RowKit
theorem rList_any (a:Option Addr) (n c:Nat) (w:World) :
  Calls Tryz.prog 193 #[.slice a n c] w fun e w' => e = .returned (vList (.slice a n c)) ∧ Below w.heap.size w w':=by
 unfold vList
 go_enter Tryz.func193,Tryz.ntmps193
 go_wp2_with fail
 refine bodyPost_ret (v:=.agg #[.int .i64 3,.int .i64 0,.string ⟨#[]⟩,.slice a n c]) (by simp [results,Tryz.results193,go_sem]) rfl ⟨rfl,?_⟩
 exact (Below.refl _ _).alloc (Nat.le_refl _) _
theorem vals_made3 (w:World) (x y z:Int) (t:TypeId) (hx:R64 x) (hy:R64 y) (hz:R64 z) :
  Vals (w.alloc (.cells #[.int .i64 1,.int .i64 x,.string ⟨#[]⟩,.slice none 0 0,.int .i64 1,.int .i64 y,.string ⟨#[]⟩,.slice none 0 0,.int .i64 1,.int .i64 z,.string ⟨#[]⟩,.slice none 0 0] t)) (.slice (some ⟨w.heap.size,0,none⟩) 3 3) [x,y,z]:=by
 have h:=World.alloc_heap_new w (.cells #[.int .i64 1,.int .i64 x,.string ⟨#[]⟩,.slice none 0 0,.int .i64 1,.int .i64 y,.string ⟨#[]⟩,.slice none 0 0,.int .i64 1,.int .i64 z,.string ⟨#[]⟩,.slice none 0 0] t)
 refine ⟨_,_,rfl,Nat.le_refl _,by simp,fun q hq => ?_,fun k hk => ⟨w.heap.size,0,rfl,?_⟩⟩
 ·simp only [List.mem_cons,List.not_mem_nil,or_false] at hq
  rcases hq with rfl | rfl | rfl <;> assumption
 ·match k,hk with
  | 0,_ | 1,_ | 2,_ => exact ⟨row_cell h rfl,row_cell h rfl,row_cell h rfl,row_cell h rfl⟩
theorem rpad_any (d dealer row:Int) (w:World) (h:∀ z ∈ [d,dealer,row],R64 z) :
  Calls Tryz.prog 144 #[.int .i64 d,.int .i64 dealer,.int .i64 row] w fun e w' => e = .returned (.int .i64 (padV d dealer row)) ∧ Below w.heap.size w w':=by
 go_enter Tryz.func144,Tryz.ntmps144
 go_wp2_with fail
 refine (rInt_any d _).mono ?_
 rintro e w1 ⟨rfl,hb1⟩
 go_wp2_with fail
 refine (rInt_any dealer _).mono ?_
 rintro e w2 ⟨rfl,hb2⟩
 go_wp2_with fail
 refine (rInt_any row _).mono ?_
 rintro e w3 ⟨rfl,hb3⟩
 have hb13:=hb1.trans ((hb2.trans (hb3.mono hb2.size)).mono hb1.size)
 obtain ⟨W4,hW4⟩:∃ W,W = w3.alloc (.cells #[.int .i64 1,.int .i64 d,.string ⟨#[]⟩,.slice none 0 0,.int .i64 1,.int .i64 dealer,.string ⟨#[]⟩,.slice none 0 0,.int .i64 1,.int .i64 row,.string ⟨#[]⟩,.slice none 0 0] 171):=⟨_,rfl⟩
 have hb4:Below w3.heap.size w3 W4:=by rw [hW4]; exact below_new _ _ _
 have HVA:=Lib.hid (show Vals W4 (.slice (some ⟨w3.heap.size,0,none⟩) 3 3) [d,dealer,row] by rw [hW4]; exact vals_made3 w3 d dealer row _ (h _ (by simp)) (h _ (by simp)) (h _ (by simp)))
 have HB4:=Lib.hid (hb13.trans (hb4.mono hb13.size))
 have HW4:=Lib.hid hW4
 clear hb1 hb2 hb3 hb13 hW4 hb4
 unfold vInt
 go_wp2_with (rw [← HW4.out])
 refine (rList_any _ _ _ _).mono ?_
 rintro e w5 ⟨rfl,hb5⟩
 have HV5:=Lib.hid (HVA.out.below hb5)
 have HB5:=Lib.hid (HB4.out.trans (hb5.mono HB4.out.size))
 clear hb5
 go_wp2_with fail
 refine (rEncode_any _ [d,dealer,row] _ HV5.out).mono ?_
 rintro e w6 ⟨v6,rfl,hv6,hb6⟩
 have HV6:=Lib.hid hv6
 have HB6:=Lib.hid (HB5.out.trans (hb6.mono HB5.out.size))
 clear hv6 hb6
 go_wp2_with fail
 refine (rhash_any tagP v6 (encL [d,dealer,row]) _ (by decide) (by decide) HV6.out (encL_pos _) (by have:=encL_len h (by simp); simp at this; omega)).mono ?_
 rintro e w7 ⟨rfl,hb7⟩
 go_wp2_with fail
 go_ret
 exact ⟨rfl,HB6.out.trans (hb7.mono HB6.out.size)⟩
end Go.Proofs.YtggnipkfliompaaGreatDoor
