/- slices.Grow and slices.Concat, at bytes. Package codec: numbers as numerals. Package codec: values that are lists of integers are well-formed. Package codec: integers and lists of integers are written. -/
import Derived.Test.YtggnipkfliompaaGreatDoorMDigD
import Derived.Lib.AppendZeros
import Derived.Deep.AppendLies
import Derived.Lib.Zigzag
import Derived.Deep.RegionHeld3
set_option maxHeartbeats 2000000
set_option maxRecDepth 100000
namespace Go.Proofs.YtggnipkfliompaaGreatDoor
open Go.RowKit
theorem grow_made (n:Nat) (h0:0 < n) (hn:n ≤ 35184372088832) (w:World):∃ c w',(Builtin.append_ #[117,3] 117 #[.slice none 0 0,.int .i64 n]).run Tryz.prog w = .ok (.slice (some ⟨w.heap.size,0,none⟩) n c) w' ∧ n ≤ c ∧
  w'.ownsRow w.heap.size 5 1 (.slice (some ⟨w.heap.size,0,none⟩) 0 c) 0 [] ∧ Below w.heap.size w w' ∧ w.heap.size < w'.heap.size:=by
 obtain ⟨i,hi,hzz⟩:=Option.map_eq_some_iff.1 infoB
 simp only [Prod.mk.injEq] at hzz
 obtain ⟨hz,hs,hb⟩:=hzz
 have h:=Lib.run_append_nil_zeros (P:=Tryz.prog) w 117 3 117 5 i (.int .u8 0) .i64 .i64 Tryz.underlying117 Tryz.underlying3 hi hz n h0 (by omega) (by omega) (by rw [hb]; omega)
 have hc:=grownCap_ge w n 0 5
 have hc2:=grownCap_le_maxLen w n 0 5 (by unfold maxLen; omega)
 refine ⟨_,_,h,hc,⟨rfl,.inr ⟨_,_,_,rfl,Nat.le_refl _,World.alloc_heap_new w.drew _,Nat.zero_le _,hc2,?_,by simp⟩⟩,((Below.refl _ _).drew).alloc (Nat.le_refl _) _,by simp⟩
 rw [Array.size_append,size_zeroCells,size_zeroCells]
 show n * 1 + (grownCap w n 0 5 - n) * 1 = _
 omega
def Grown0 (n:Nat) (w:World) (e:Ending) (w':World):Prop:=∃ c,e = .returned (.slice (some ⟨w.heap.size,0,none⟩) 0 c) ∧ n ≤ c ∧ w'.ownsRow w.heap.size 5 1 (.slice (some ⟨w.heap.size,0,none⟩) 0 c) 0 [] ∧ Below w.heap.size w w' ∧ w.heap.size < w'.heap.size
theorem grow_nil (n:Nat) (h0:0 < n) (hn:n ≤ 35184372088832) (w:World) :
  Calls Tryz.prog 219 #[.slice none 0 0,.int .i64 n] w (Grown0 n w):=by
 obtain ⟨c,w',hr,hc,ho,hb,hz⟩:=grow_made n h0 hn w
 have h1:¬ ((n:Int) < 0):=by omega
 have h2:decide ((n:Int) > 0) = true:=decide_eq_true (by omega)
 have HP:Hid (Grown0 n w (.returned (.slice (some ⟨w.heap.size,0,none⟩) 0 c)) w'):=Lib.hid ⟨c,rfl,hc,ho,hb,hz⟩
 have HR:=Lib.hid hr
 clear hr ho
 go_enter Tryz.func219,Tryz.ntmps219
 go_wp2_with (at_builtin; refine Lib.wpList_append_run _ rfl _ _ _ _ rfl _ _ rfl rfl _ _ HR.out ?_)
 go_ret
 exact HP.out
theorem grow_int (n:Nat) (m:Int) (hm:(n:Int) = m) (h0:0 < n) (hn:n ≤ 35184372088832) (w:World) :
  Calls Tryz.prog 219 #[.slice none 0 0,.int .i64 m] w (Grown0 n w):=by
 subst hm; exact grow_nil n h0 hn w
theorem app_bytes {ops:Array Oper} {rest:List Oper} {o:Oper} {a:Act} {Q:Exit → Act → World → Prop} {W:World} (hgd:o.guard = none) (s x:Operand) (ho:o.op = .call { callee:=.builtin .append,args:=#[s,x],argTypes:=#[117,117] })
  (base n:Nat) (v u:Value) (xs:List Value) (hs:a.eval s = v) (hown:W.ownsRow base 5 1 v n xs) (ys:List Nat) (hx:a.eval x = u) (hy:Byts W u ys) (h0:0 < ys.length) (hn:n + ys.length ≤ 70368744177664) (hbase:base ≤ W.heap.size)
  (h:∀ v' w',w'.ownsRow base 5 1 v' (n + ys.length) (xs ++ ys.map byteV) → W.grownBy w' v.ownBlock → wpList Tryz.prog ops Q rest (a.put o.dst v') w'):wpList Tryz.prog ops Q (o :: rest) a W:=by
 obtain ⟨i,hi,hzz⟩:=Option.map_eq_some_iff.1 infoB
 simp only [Prod.mk.injEq] at hzz
 obtain ⟨hz,hs1,hb⟩:=hzz
 obtain ⟨ao,cap,rfl,hcap,hlen,hall,hk⟩:=hy
 obtain ⟨b,off,rfl,-⟩:=hk 0 h0
 refine wpList_append_own _ hgd s x 117 ho base 5 i (.int .u8 0) 1 1 Tryz.underlying117 hi hz hs1 hb rfl (by decide) v n xs hs hown ⟨b,off,none⟩ ys.length cap (ys.map byteV) hx (by simp) ?_ ?_ ?_ ?_ hbase ?_
 ·intro j t ht
  rw [List.getElem?_map] at ht
  by_cases hj:j < ys.length
  ·obtain ⟨b',off',he,hc⟩:=hk j hj
   cases he
   rw [List.getElem?_eq_getElem hj] at ht; simp at ht; rw [← ht,add_off]; exact hc
  ·rw [List.getElem?_eq_none (by omega)] at ht; cases ht
 ·intro t ht
  obtain ⟨z,_,rfl⟩:=List.mem_map.1 ht
  rfl
 ·unfold maxLen; omega
 ·omega
 ·intro v' w' h1 h2 _; exact h v' w' h1 h2
theorem Byts.own {w:World} {base n:Nat} {v:Value} {bs:List Nat} (h:w.ownsRow base 5 1 v n (bs.map byteV)) (hb:∀ x ∈ bs,x < 256) (hl:bs.length ≤ 17592186044416):Byts w v bs:=by
 obtain ⟨hn,h⟩:=h
 rw [List.length_map,Nat.mul_one] at hn
 rcases h with ⟨rfl,rfl⟩ | ⟨g,cap,cur,rfl,-,hg,hnc,-,hcs,hcur⟩
 ·exact ⟨none,0,by rw [hn],by omega,hl,hb,fun k hk => absurd hk (by omega)⟩
 ·subst hn
  refine ⟨some ⟨g,0,none⟩,cap,rfl,hnc,hl,hb,fun k hk => ⟨g,0,rfl,?_⟩⟩
  rw [Nat.zero_add]
  have e:cur.toList[k]? = some (byteV bs[k]):=by
   have e2:(cur.toList.take (bs.length * 1))[k]? = some (byteV bs[k]):=by rw [hcur,List.getElem?_map,List.getElem?_eq_getElem hk]; rfl
   rwa [List.getElem?_take,if_pos (by omega)] at e2
  exact row_cell hg (by rw [← Array.getElem?_toList]; exact e)
theorem concat_two (sb:Nat) (v1 v2:Value) (xs ys:List Nat) (w:World) (hx:Byts w v1 xs) (hy:Byts w v2 ys) (h1:0 < xs.length) (h2:0 < ys.length) (hl:xs.length + ys.length ≤ 17592186044416)
  (c0:w.cell? ⟨sb,0,none⟩ = some v1) (c1:w.cell? ⟨sb,1,none⟩ = some v2) :
  Calls Tryz.prog 199 #[.slice (some ⟨sb,0,none⟩) 2 2] w fun e w' => ∃ v',e = .returned v' ∧ Byts w' v' (xs ++ ys) ∧ Below w.heap.size w w':=by
 obtain ⟨a1,k1,e1,hx1⟩:=id hx
 obtain ⟨a2,k2,e2,hy1⟩:=id hy
 subst e1
 subst e2
 have p1:0 ≤ (xs.length:Int) + ys.length:=by omega
 clear hx1 hy1
 have HX:=Lib.hid hx
 have HY:=Lib.hid hy
 clear hx hy
 go_enter Tryz.func199,Tryz.ntmps199
 go_wp2_with fail
 go_loop [3,11] (fun s i => (i = .int .i64 0 ∧ s = .int .i64 0) ∨ (i = .int .i64 1 ∧ s = .int .i64 xs.length) ∨ (i = .int .i64 2 ∧ s = .int .i64 (xs.length + ys.length:Nat))) (fun _ i => 2 - (intOf i).toNat)
 case atStart => exact .inl ⟨rfl,rfl⟩
 case round =>
  rcases hrel with ⟨rfl,rfl⟩ | ⟨rfl,rfl⟩ | ⟨rfl,rfl⟩
  ·go_wp2_with fail
   go_round
   case rel => exact .inr (.inl ⟨rfl,by go_num⟩)
   case measure => simp [intOf]
  ·go_wp2_with fail
   go_round
   case rel => exact .inr (.inr ⟨rfl,by go_num⟩)
   case measure => simp [intOf]
  ·go_wp2_with fail
   with_reducible refine (grow_int (xs.length + ys.length) ((xs.length:Int) + ys.length) (by omega) (by omega) (by omega) _).mono ?_
   rintro e w1 ⟨c,rfl,-,ho,hb,hz⟩
   have c0':=below_cell hb c0
   have c1':=below_cell hb c1
   have HO:=Lib.hid ho
   have C0:=Lib.hid c0
   have C1:=Lib.hid c1
   clear ho c0 c1
   go_wp2_with fail
   go_loopw [6,27] (fun v i W => Below w.heap.size w W ∧ w.heap.size < W.heap.size ∧ ((i = .int .i64 0 ∧ W.ownsRow w.heap.size 5 1 v 0 []) ∨ (i = .int .i64 1 ∧ W.ownsRow w.heap.size 5 1 v xs.length (xs.map byteV)) ∨ (i = .int .i64 2 ∧ W.ownsRow w.heap.size 5 1 v (xs.length + ys.length) (xs.map byteV ++ ys.map byteV)))) (fun _ i _ => 2 - (intOf i).toNat)
   case atStart => exact ⟨hb,hz,.inl ⟨rfl,HO.out⟩⟩
   case round =>
    clear c0' c1' hb hz
    obtain ⟨hb,hz,hr⟩:=hrel
    rcases hr with ⟨rfl,hr⟩ | ⟨rfl,hr⟩ | ⟨rfl,hr⟩
    ·have q:=below_cell hb C0.out
     have hB:=HX.out.below hb
     have HB:=Lib.hid hB
     have HR:=Lib.hid hr
     clear hB hr
     go_wp2_with (refine app_bytes rfl _ _ rfl w.heap.size 0 _ _ [] rfl HR.out xs rfl HB.out h1 (by omega) (by omega) ?_; intro v8 w8 hown8 hgr8; have HOW:=Lib.hid hown8; have HG:=Lib.hid hgr8; clear hown8 hgr8)
     go_roundw
     case rel => exact ⟨hb.trans (own_below HR.out HG.out (by omega)),Nat.lt_of_lt_of_le hz HG.out.size,.inr (.inl ⟨rfl,by have:=HOW.out; rwa [Nat.zero_add,List.nil_append] at this⟩)⟩
     case measure => simp [intOf]
    ·have q:=below_cell hb C1.out
     have hB:=HY.out.below hb
     have HB:=Lib.hid hB
     have HR:=Lib.hid hr
     clear hB hr
     go_wp2_with (refine app_bytes rfl _ _ rfl w.heap.size xs.length _ _ (xs.map byteV) rfl HR.out ys rfl HB.out h2 (by omega) (by omega) ?_; intro v8 w8 hown8 hgr8; have HOW:=Lib.hid hown8; have HG:=Lib.hid hgr8; clear hown8 hgr8)
     go_roundw
     case rel => exact ⟨hb.trans (own_below HR.out HG.out (by omega)),Nat.lt_of_lt_of_le hz HG.out.size,.inr (.inr ⟨rfl,HOW.out⟩)⟩
     case measure => simp [intOf]
    ·have HP:=Lib.hid (Byts.own (bs:=xs ++ ys) (v:=u6) (by rw [List.map_append]; exact hr) (fun x hx => by
      rcases List.mem_append.1 hx with hx | hx
      ·obtain ⟨_,_,_,_,_,h,_⟩:=HX.out; exact h x hx
      ·obtain ⟨_,_,_,_,_,h,_⟩:=HY.out; exact h x hx) (by rw [List.length_append]; exact hl))
     clear hr
     go_wp2_with fail
     go_ret
     exact ⟨_,rfl,HP.out,hb⟩
end Go.Proofs.YtggnipkfliompaaGreatDoor
namespace Go.Proofs.YtggnipkfliompaaGreatDoor
open Go.RowKit
def num (u:Nat):List Nat:=if h:u < 128 then [u] else (u % 128 + 128) :: num (u / 128)
termination_by u
def zig (n:Int):Nat:=if 0 ≤ n then (2 * n).toNat else (-2 * n - 1).toNat
def encI (n:Int):List Nat:=1 :: num (zig n)
def encL (zs:List Int):List Nat:=3 :: (num zs.length ++ zs.flatMap encI)
theorem num_small {u:Nat} (h:u < 128):num u = [u]:=by rw [num,dif_pos h]
theorem num_great {u:Nat} (h:128 ≤ u):num u = (u % 128 + 128) :: num (u / 128):=by rw [num,dif_neg (by omega)]
theorem num_all (u:Nat):∀ x ∈ num u,x < 256:=by
 induction u using Nat.strongRecOn with
 | ind u ih =>
  by_cases h:u < 128
  ·rw [num_small h]; intro x hx; simp at hx; omega
  ·rw [num_great (by omega)]
   intro x hx
   rcases List.mem_cons.1 hx with rfl | hx
   ·omega
   ·exact ih (u / 128) (by omega) x hx
theorem num_len:∀ (k u:Nat),u < 128 ^ (k + 1) → (num u).length ≤ k + 1
 | 0,u,h => by rw [num_small (by simpa using h)]; simp
 | k + 1,u,h => by
  by_cases h1:u < 128
  ·rw [num_small h1]; simp
  ·rw [num_great (by omega),List.length_cons]
   have:=num_len k (u / 128) (by rw [Nat.pow_succ] at h; omega)
   omega
theorem num_ten {u:Nat} (h:u < 18446744073709551616):(num u).length ≤ 10:=num_len 9 u (by omega)
theorem num_pos (u:Nat):0 < (num u).length:=by rw [num]; split <;> simp
theorem zig_lt {n:Int} (h:R64 n):zig n < 18446744073709551616:=by unfold zig; obtain ⟨h1,h2⟩:=h; split <;> omega
theorem encI_all (n:Int):∀ x ∈ encI n,x < 256:=by
 intro x hx
 rcases List.mem_cons.1 hx with rfl | hx
 ·decide
 ·exact num_all _ x hx
theorem encI_len {n:Int} (h:R64 n):(encI n).length ≤ 11:=by unfold encI; rw [List.length_cons]; have:=num_ten (zig_lt h); omega
theorem encL_all (zs:List Int):∀ x ∈ encL zs,x < 256:=by
 intro x hx
 unfold encL at hx
 rcases List.mem_cons.1 hx with rfl | hx
 ·decide
 ·rcases List.mem_append.1 hx with hx | hx
  ·exact num_all _ x hx
  ·obtain ⟨n,-,hn⟩:=List.mem_flatMap.1 hx
   exact encI_all n x hn
theorem flat_len:∀ (zs:List Int),(∀ z ∈ zs,R64 z) → (zs.flatMap encI).length ≤ 11 * zs.length
 | [],_ => by simp
 | z :: zs,h => by
  rw [List.flatMap_cons,List.length_append,List.length_cons]
  have h1:=encI_len (h z (by simp))
  have h2:=flat_len zs (fun x hx => h x (by simp [hx]))
  omega
theorem encL_len {zs:List Int} (h:∀ z ∈ zs,R64 z) (hl:zs.length ≤ 1000000):(encL zs).length ≤ 11 * zs.length + 11:=by
 unfold encL
 rw [List.length_cons,List.length_append]
 have h1:=flat_len zs h
 have h2:=num_ten (u:=zs.length) (by omega)
 omega
theorem encL_pos (zs:List Int):0 < (encL zs).length:=by unfold encL; simp
theorem unsigned_any (n:Int) (w:World) (hn:R64 n) :
  Calls Tryz.prog 223 #[.int .i64 n] w fun e w' => e = .returned (.int .u64 (zig n:Nat)) ∧ w = w':=by
 obtain ⟨h1,h2⟩:=hn
 by_cases h0:0 ≤ n
 ·have e2:n / 9223372036854775808 = 0:=by omega
  have H:Hid (bits .xor .u64 (n * 2) 0 = (zig n:Nat)):=Lib.hid (by
   have e:n * 2 = ((zig n:Nat):Int):=by unfold zig; rw [if_pos h0]; omega
   rw [e,show (0:Int) = ((0:Nat):Int) from rfl,u64_xor_nat _ _ (zig_lt ⟨h1,h2⟩) (by omega),Nat.xor_zero])
  go_enter Tryz.func223,Tryz.ntmps223
  go_wp2_with fail
  go_ret
  exact ⟨ret_int H.out,rfl⟩
 ·have e2:n / 9223372036854775808 = -1:=by omega
  go_enter Tryz.func223,Tryz.ntmps223
  have H:Hid (bits .xor .u64 (IntKind.u64.wrap (IntKind.u64.wrap n * 2)) (IntKind.u64.wrap (-1)) = (zig n:Nat)):=Lib.hid (by
   have e1:IntKind.u64.wrap (IntKind.u64.wrap n * 2) = ((18446744073709551615 - zig n:Nat):Int):=by
    have h3:=zig_lt ⟨h1,h2⟩
    have h4:((zig n:Nat):Int) = -2 * n - 1:=by unfold zig; rw [if_neg h0]; omega
    rw [IntKind.wrap_u64,IntKind.wrap_u64]; omega
   have e3:IntKind.u64.wrap (-1) = ((2 ^ 64 - 1:Nat):Int):=by rw [IntKind.wrap_u64]; omega
   have h3:=zig_lt ⟨h1,h2⟩
   rw [e1,e3,u64_xor_nat _ _ (by omega) (by omega),Nat.xor_comm,Lib.xor_ones64 _ (by omega)]
   omega)
  go_wp2_with fail
  go_ret
  exact ⟨ret_int H.out,rfl⟩
theorem onto_below {W W':World} {v v':Value} {base size n:Nat} {e:TypeId} {xs:List Value} (h:W.ownsRow base e size v n xs) (ho:Onto W v W' v') (hb:base ≤ W.heap.size):Below base W W':=own_below h ho.1 hb
theorem app_byte {ops:Array Oper} {rest:List Oper} {o:Oper} {a:Act} {Q:Exit → Act → World → Prop} {W:World} (hgd:o.guard = none) (s x:Operand) (ho:o.op = .call { callee:=.builtin .append,args:=#[s,x],argTypes:=#[117,117] })
  (base:Nat) (v:Value) (xs:List Nat) (n:Nat) (hn0:xs.length = n) (hs:a.eval s = v) (hown:W.ownsRow base 5 1 v n (xs.map byteV)) (b c y:Nat) (hx:a.eval x = .slice (some ⟨b,0,none⟩) 1 c) (hcell:W.cell? ⟨b,0,none⟩ = some (byteV y)) (hn:n ≤ 17592186044416) (hbase:base ≤ W.heap.size)
  (h:∀ v' w',w'.ownsRow base 5 1 v' (n + 1) ((xs ++ [y]).map byteV) → Onto W v w' v' → wpList Tryz.prog ops Q rest (a.put o.dst v') w'):wpList Tryz.prog ops Q (o :: rest) a W:=by
 obtain ⟨i,hi,hzz⟩:=Option.map_eq_some_iff.1 infoB
 simp only [Prod.mk.injEq] at hzz
 obtain ⟨hz,hs1,hb⟩:=hzz
 refine wpList_append_lies _ hgd s x 117 ho base 5 i (.int .u8 0) 1 1 Tryz.underlying117 hi hz hs1 hb rfl (by decide) v n (xs.map byteV) hs hown ⟨b,0,none⟩ 1 c [byteV y] hx rfl ?_ ?_ (by decide) ?_ ?_ hbase W.heap.size rfl ?_
 ·intro j u hu
  cases j with
  | zero => simp at hu; subst hu; rw [add_off]; exact hcell
  | succ j => simp at hu
 ·intro u hu; simp at hu; subst hu; rfl
 ·unfold maxLen; omega
 ·omega
 ·intro g cap w' h1 h2 h3 _
  refine h _ w' (by rw [List.map_append]; exact h1) ⟨h2,?_⟩
  rcases h3 with h3 | h3
  ·exact .inl (h3 ▸ rfl)
  ·exact .inr ⟨g,rfl,by omega⟩
theorem below_one (W:World) (v:Value) (t:TypeId):Below W.heap.size W (W.alloc (.cells #[v] t)):=(Below.refl _ _).alloc (Nat.le_refl _) _
theorem new_one (W:World) (v:Value) (t:TypeId):(W.alloc (.cells #[v] t)).cell? ⟨W.heap.size,0,none⟩ = some v:=row_cell (World.alloc_heap_new W _) rfl
theorem or_128:∀ x,x < 256 → x ||| 128 = x % 128 + 128:=by decide +kernel
theorem byte_or (u:Nat):bits .or .u8 ((u:Int) % 256) 128 = ((u % 128 + 128:Nat):Int):=by
 rw [show (u:Int) % 256 = ((u % 256:Nat):Int) by omega,show (128:Int) = ((128:Nat):Int) from rfl,u8_or_nat _ _ (by omega) (by omega),or_128 _ (by omega)]
 congr 2
 omega
def Wrote (base:Nat) (w:World) (v:Value) (ys:List Nat) (e:Ending) (w':World):Prop:=∃ v',e = .returned v' ∧ w'.ownsRow base 5 1 v' ys.length (ys.map byteV) ∧ Onto w v w' v'
theorem numeral_any (base:Nat) (v:Value) (xs:List Nat) (u:Nat) (w:World) (hown:w.ownsRow base 5 1 v xs.length (xs.map byteV)) (hbase:base ≤ w.heap.size) (hu:u < 18446744073709551616) (hl:xs.length ≤ 8796093022208) :
  Calls Tryz.prog 222 #[v,.int .u64 u] w (Wrote base w v (xs ++ num u)):=by
 have hten:=num_ten hu
 have HU:=Lib.hid hu
 clear hu
 have HO:=Lib.hid hown
 clear hown
 go_enter Tryz.func222,Tryz.ntmps222
 go_wp2_with fail
 go_loopw [0,1] (fun b x W => ∃ (ys:List Nat) (t:Nat),x = .int .u64 t ∧ t ≤ u ∧ ys ++ num t = xs ++ num u ∧ W.ownsRow base 5 1 b ys.length (ys.map byteV) ∧ Onto w v W b) (fun _ x _ => (intOf x).toNat)
 case atStart => exact ⟨xs,u,rfl,Nat.le_refl _,rfl,HO.out,Onto.refl _ _⟩
 case round =>
  obtain ⟨ys,t,rfl,htu,hyt,hoy,hon⟩:=hrel
  have hyl:ys.length + (num t).length = xs.length + (num u).length:=by rw [← List.length_append,← List.length_append,hyt]
  have htp:=num_pos t
  have HYT:=Lib.hid hyt
  have hbr:base ≤ wr.heap.size:=Nat.le_trans hbase hon.1.size
  have HOY:=Lib.hid hoy
  clear hyt hoy
  by_cases hlt:t < 128
  ·have hnt:=num_small hlt
   have hge:decide ((t:Int) ≥ 128) = false:=decide_eq_false (by omega)
   have HNT:=Lib.hid hnt
   clear hnt
   have HK:=Lib.hid (own_keep HOY.out (below_one wr (.int .u8 (t:Int)) 5))
   have HC:=Lib.hid (new_one wr (.int .u8 (t:Int)) 5)
   have HB:=Lib.hid (Nat.le_trans hbr (below_one wr (.int .u8 (t:Int)) 5).size)
   go_wp2_with (refine app_byte rfl _ _ rfl base _ ys _ rfl rfl HK.out wr.heap.size 1 t rfl HC.out (by omega) HB.out ?_; intro v8 w8 h8 o8; have H8:=Lib.hid h8; have O8:=Lib.hid o8; clear h8 o8)
   go_ret
   exact ⟨_,rfl,by have e:=HYT.out; rw [HNT.out] at e; rw [← e,List.length_append]; exact H8.out,hon.trans ((Onto.below (below_one wr _ _) _).trans O8.out)⟩
  ·have hnt:=num_great (u:=t) (by omega)
   have hge:decide ((t:Int) ≥ 128) = true:=decide_eq_true (by omega)
   have HNT:=Lib.hid hnt
   have hyl2:(num t).length = (num (t / 128)).length + 1:=by rw [hnt,List.length_cons]
   clear hnt
   have HV:=Lib.hid (byte_or t)
   have HK:=Lib.hid (own_keep HOY.out (below_one wr (.int .u8 (bits .or .u8 ((t:Int) % 256) 128)) 5))
   have HC:Hid ((wr.alloc (.cells #[.int .u8 (bits .or .u8 ((t:Int) % 256) 128)] 5)).cell? ⟨wr.heap.size,0,none⟩ = some (byteV (t % 128 + 128))):=Lib.hid (by rw [new_one,HV.out]; rfl)
   have HB:=Lib.hid (Nat.le_trans hbr (below_one wr (.int .u8 (bits .or .u8 ((t:Int) % 256) 128)) 5).size)
   go_wp2_with (refine app_byte rfl _ _ rfl base _ ys _ rfl rfl HK.out wr.heap.size 1 (t % 128 + 128) rfl HC.out (by omega) HB.out ?_; intro v8 w8 h8 o8; have H8:=Lib.hid h8; have O8:=Lib.hid o8; clear h8 o8)
   go_roundw
   case rel => exact ⟨ys ++ [t % 128 + 128],t / 128,by go_num,by omega,by have e:=HYT.out; rw [HNT.out] at e; rw [← e,List.append_assoc]; rfl,by rw [List.length_append]; exact H8.out,hon.trans ((Onto.below (below_one wr _ _) _).trans O8.out)⟩
   case measure => simp [intOf]; omega
end Go.Proofs.YtggnipkfliompaaGreatDoor
namespace Go.Proofs.YtggnipkfliompaaGreatDoor
open Go.RowKit
def vInt (n:Int):Value:=.agg #[.int .i64 1,.int .i64 n,.string ⟨#[]⟩,.slice none 0 0]
def vList (v:Value):Value:=.agg #[.int .i64 3,.int .i64 0,.string ⟨#[]⟩,v]
def Vals (w:World) (v:Value) (zs:List Int):Prop:=
 ∃ a cap,v = .slice a zs.length cap ∧ zs.length ≤ cap ∧ zs.length ≤ 1000000 ∧ (∀ z ∈ zs,R64 z) ∧
  ∀ k (h:k < zs.length),∃ b off,a = some ⟨b,off,none⟩ ∧ w.cell? ⟨b,off + k * 4,none⟩ = some (.int .i64 1) ∧ w.cell? ⟨b,off + k * 4 + 1,none⟩ = some (.int .i64 zs[k]) ∧
   w.cell? ⟨b,off + k * 4 + 2,none⟩ = some (.string ⟨#[]⟩) ∧ w.cell? ⟨b,off + k * 4 + 3,none⟩ = some (.slice none 0 0)
theorem Vals.below {w w':World} {v:Value} {zs:List Int} (h:Vals w v zs) (hb:Below w.heap.size w w'):Vals w' v zs:=by
 obtain ⟨a,cap,rfl,hc,hl,hr,hk⟩:=h
 refine ⟨a,cap,rfl,hc,hl,hr,fun k hlt => ?_⟩
 obtain ⟨b,off,ha,h1,h2,h3,h4⟩:=hk k hlt
 exact ⟨b,off,ha,below_cell hb h1,below_cell hb h2,below_cell hb h3,below_cell hb h4⟩
theorem below_pair (w:World) (c d:Array Value) (t u:TypeId):Below w.heap.size w ((w.alloc (.cells c t)).alloc (.cells d u)):=((Below.refl _ _).alloc (Nat.le_refl _) _).alloc (by simp) _
theorem formed_int (n:Int) (w:World) (hn:R64 n) :
  Calls Tryz.prog 220 #[vInt n] w fun e w' => e = .returned (.tuple #[.int .i64 0,.bool true]) ∧ Below w.heap.size w w':=by
 obtain ⟨n1,n2⟩:=hn
 unfold vInt
 by_cases h0:n = 0
 ·subst h0
  go_enter Tryz.func220,Tryz.ntmps220
  go_wp2_with fail
  go_ret2
  exact ⟨rfl,below_pair w _ _ _ _⟩
 ·have hz:(n == 0) = false:=by simpa using h0
  go_enter Tryz.func220,Tryz.ntmps220
  go_wp2_with fail
  go_ret2
  exact ⟨rfl,below_pair w _ _ _ _⟩
theorem formed_list (v:Value) (zs:List Int) (w:World) (hV:Vals w v zs) :
  Calls Tryz.prog 220 #[vList v] w fun e w' => e = .returned (.tuple #[.int .i64 1,.bool true]) ∧ Below w.heap.size w w':=by
 obtain ⟨a,cap,rfl,hcap,hlen,hr,hk⟩:=hV
 have HK:=Lib.hid hk
 have HR:=Lib.hid hr
 clear hk hr
 unfold vList
 go_enter Tryz.func220,Tryz.ntmps220
 go_wp2_with fail
 go_loopw [2,57] (fun d i W => ∃ k:Nat,k ≤ zs.length ∧ i = .int .i64 k ∧ d = .int .i64 0 ∧ Below w.heap.size w W) (fun _ i _ => zs.length - (intOf i).toNat)
 case atStart => exact ⟨0,Nat.zero_le _,rfl,rfl,below_pair w _ _ _ _⟩
 case round =>
  obtain ⟨k,hkl,rfl,rfl,hb⟩:=hrel
  by_cases hlt:k < zs.length
  ·obtain ⟨b,off,rfl,q1,q2,q3,q4⟩:=HK.out k hlt
   have hz:=HR.out _ (List.getElem_mem hlt)
   have c1:=below_cell hb q1
   have c2:=below_cell hb q2
   have c3:=below_cell hb q3
   have c4:=below_cell hb q4
   generalize zs[k] = z at *
   clear q1 q2 q3 q4
   go_wp2_with fail
   refine (formed_int z _ hz).mono ?_
   rintro e w1 ⟨rfl,hb1⟩
   go_wp2_with fail
   go_roundw
   case rel => exact ⟨k + 1,by omega,by go_num,rfl,hb.trans (((Below.refl _ _).alloc (Nat.le_refl _) _ |>.trans (hb1.mono (by simp))).mono hb.size)⟩
   case measure => simp [intOf]; omega
  ·obtain rfl:k = zs.length:=by omega
   go_wp2_with fail
   go_ret2
   exact ⟨rfl,hb⟩
theorem check_list (v:Value) (zs:List Int) (w:World) (hV:Vals w v zs) :
  Calls Tryz.prog 200 #[vList v] w fun e w' => e = .returned (.int .i64 0) ∧ Below w.heap.size w w':=by
 have hb0:Below w.heap.size w (w.alloc (.cells #[.int .i64 3,.int .i64 0,.string ⟨#[]⟩,v] 171)):=(Below.refl _ _).alloc (Nat.le_refl _) _
 have HF:=Lib.hid (formed_list v zs _ (hV.below hb0))
 obtain ⟨a,cap,rfl,-⟩:=hV
 unfold vList at HF ⊢
 go_enter Tryz.func200,Tryz.ntmps200
 go_wp2_with fail
 refine HF.out.mono ?_
 rintro e w1 ⟨rfl,hb1⟩
 go_wp2_with fail
 go_ret
 exact ⟨rfl,hb0.trans (hb1.mono hb0.size)⟩
end Go.Proofs.YtggnipkfliompaaGreatDoor
namespace Go.Proofs.YtggnipkfliompaaGreatDoor
open Go.RowKit
structure Wtr (B:Nat) (W:World):Prop where
 int:W.cell? ⟨B,1,none⟩ = some (.func (.func 221) #[] #[])
 list:W.cell? ⟨B,3,none⟩ = some (.func (.func 225) #[] #[.pointer (some ⟨B + 1,0,none⟩)])
 var:W.cell? ⟨B + 1,0,none⟩ = some (.pointer (some ⟨B,0,none⟩))
theorem newWriter_any (w:World) :
  Calls Tryz.prog 201 #[] w fun e w' => e = .returned (.pointer (some ⟨w.heap.size,0,none⟩)) ∧ Wtr w.heap.size w' ∧ Below w.heap.size w w':=by
 have hmf:∀ (fn:Fn) (first cap:Array Value) (w:World),(Instr.makeFunc fn first cap).run Tryz.prog w = .ok (.func fn first cap) w:=fun _ _ _ _ => rfl
 have hA:((w.alloc (.cells #[Value.nilFunc,Value.nilFunc,Value.nilFunc,Value.nilFunc] 229)).alloc (.cells #[.pointer (some ⟨w.heap.size,0,none⟩)] 205)).heap[w.heap.size]? = some (.cells #[Value.nilFunc,Value.nilFunc,Value.nilFunc,Value.nilFunc] 229 (0,0)):=
  (Below.heap_alloc _ _ _ (by simp)).trans (World.alloc_heap_new w _)
 have c1:=row_cell hA (k:=1) rfl
 have c2:=row_cell hA (k:=2) rfl
 have c3:=row_cell hA (k:=3) rfl
 have f1:=row_free hA 1
 have f2:=row_free hA 2
 have f3:=row_free hA 3
 have HA:=Lib.hid hA
 clear hA
 have hst:=fun (a:Addr) (fn:Fn) (x y:Array Value) (w:World) => run_store Tryz.prog w a (.func fn x y) .plain rfl
 go_enter Tryz.func201,Tryz.ntmps201
 go_wp2_with fail
 go_ret
 refine ⟨rfl,⟨?_,?_,?_⟩,?_⟩
 ·simp [go_sem]
 ·simp [go_sem]
 ·simp [go_sem]
 ·repeat (first | exact Below.refl _ _ | refine Below.setCell ?_ (by simp) _ | refine Below.alloc ?_ (by simp) _ | refine Below.drew ?_)
theorem step_app_byte {ops:Array Oper} {o:Oper} {a:Act} {K:Act → World → Prop} {Q:Exit → Act → World → Prop} {E:Prop} {W:World} (hgd:o.guard = none) (s x:Operand) (ho:o.op = .call { callee:=.builtin .append,args:=#[s,x],argTypes:=#[117,117] })
  (base:Nat) (v:Value) (xs:List Nat) (n:Nat) (hs:a.eval s = v) (hown:W.ownsRow base 5 1 v n (xs.map byteV)) (b c y:Nat) (hx:a.eval x = .slice (some ⟨b,0,none⟩) 1 c) (hcell:W.cell? ⟨b,0,none⟩ = some (byteV y)) (hn:n ≤ 17592186044416) (hbase:base ≤ W.heap.size)
  (h:∀ v' w',w'.ownsRow base 5 1 v' (n + 1) ((xs ++ [y]).map byteV) → Onto W v w' v' → K (a.put o.dst v') w') :
  if Region.wanted o (yielded ops a.tmps) = true then Oper.wp Tryz.prog o a W K Q else E:=by
 obtain ⟨i,hi,hzz⟩:=Option.map_eq_some_iff.1 infoB
 simp only [Prod.mk.injEq] at hzz
 obtain ⟨hz,hs1,hb⟩:=hzz
 refine step_append_lies _ hgd s x 117 ho base 5 i (.int .u8 0) 1 1 Tryz.underlying117 hi hz hs1 hb rfl (by decide) v n (xs.map byteV) hs hown ⟨b,0,none⟩ 1 c [byteV y] hx rfl ?_ ?_ (by decide) ?_ ?_ hbase W.heap.size rfl ?_
 ·intro j u hu
  cases j with
  | zero => simp at hu; subst hu; rw [add_off]; exact hcell
  | succ j => simp at hu
 ·intro u hu; simp at hu; subst hu; rfl
 ·unfold maxLen; omega
 ·omega
 ·intro g cap w' h1 h2 h3 _
  refine h _ w' (by rw [List.map_append]; exact h1) ⟨h2,?_⟩
  rcases h3 with h3 | h3
  ·exact .inl (h3 ▸ rfl)
  ·exact .inr ⟨g,rfl,by omega⟩
theorem enc_snoc (xs:List Nat) (n:Int):xs ++ [1] ++ num (zig n) = xs ++ encI n:=by rw [List.append_assoc]; rfl
theorem write_int (base:Nat) (v:Value) (xs:List Nat) (n:Int) (w:World) (hn:R64 n) (hown:w.ownsRow base 5 1 v xs.length (xs.map byteV)) (hbase:base ≤ w.heap.size) (hl:xs.length ≤ 1099511627776) :
  Calls Tryz.prog 221 #[v,vInt n] w (Wrote base w v (xs ++ encI n)):=by
 unfold vInt
 have HO:=Lib.hid hown
 have HNE:=Lib.hid (own_ne hown (.inl (Nat.le_refl w.heap.size)))
 clear hown
 go_enter Tryz.func221,Tryz.ntmps221
 go_wp2_with fail
 go_region_law (first
  | (refine step_app_byte rfl _ _ rfl base _ xs _ rfl (own_keep HO.out (by repeat (first | exact Below.refl _ _ | refine Below.drew ?_ | refine Below.alloc ?_ (by simp) _))) (w.heap.size + 1) 1 1 rfl (by simp [go_sem,byteV]) (by omega) (by simp; omega) ?_; intro v8 w8 h8 o8; have hq:w8.cell? ⟨w.heap.size,1,none⟩ = some (.int .i64 n):=(onto_far o8 (by simp; omega) HNE.out 1).trans (by simp [go_sem]); have H8:=Lib.hid h8; have O8:=Lib.hid o8; clear h8 o8)
  | (go_simp; go_at_call 223; with_reducible refine (unsigned_any n _ hn).mono ?_; rintro e w1 ⟨rfl,rfl⟩)
  | (go_simp; go_at_call 222; refine (numeral_any base _ (xs ++ [1]) (zig n) _ (by rw [List.length_append]; exact H8.out) (Nat.le_trans (by simp; omega) O8.out.1.size) (zig_lt hn) (by rw [List.length_append]; simp; omega)).mono ?_; rintro e w1 ⟨v9,rfl,h9,o9⟩; have H9:=Lib.hid h9; have O9:=Lib.hid o9; clear h9 o9))
 all_goals
  go_wp2_with fail
  go_ret
  exact ⟨_,rfl,(enc_snoc xs n) ▸ H9.out,(Onto.below (by repeat (first | exact Below.refl _ _ | refine Below.drew ?_ | refine Below.alloc ?_ (by simp) _)) v).trans (O8.out.trans O9.out)⟩
end Go.Proofs.YtggnipkfliompaaGreatDoor
