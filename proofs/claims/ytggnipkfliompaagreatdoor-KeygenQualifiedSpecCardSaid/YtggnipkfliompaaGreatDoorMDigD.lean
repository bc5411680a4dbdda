/- Package digest: Sum. -/
import Derived.Test.YtggnipkfliompaaGreatDoorMDigC
import Derived.Deep.MidRow
set_option maxHeartbeats 2000000
set_option maxRecDepth 100000
namespace Go.Proofs.YtggnipkfliompaaGreatDoor
open Go.RowKit
structure Glob (w:World):Prop where
 num:∀ k,k < 64 → w.cell? ⟨1,k,none⟩ = some (.int .u32 (kAt k))
 sta:∀ k,k < 8 → w.cell? ⟨0,k,none⟩ = some (.int .u32 (st0.at k:Nat))
theorem Glob.below {w W:World} (h:Glob w) (hb:Below w.heap.size w W):Glob W:=
 ⟨fun k hk => below_cell hb (h.num k hk),fun k hk => below_cell hb (h.sta k hk)⟩
theorem Byts.below {w w':World} {v:Value} {bs:List Nat} (h:Byts w v bs) (hb:Below w.heap.size w w'):Byts w' v bs:=by
 obtain ⟨a,cap,rfl,hc,hl,hr,hk⟩:=h
 refine ⟨a,cap,rfl,hc,hl,hr,fun k hlt => ?_⟩
 obtain ⟨b,off,ha,hcell⟩:=hk k hlt
 exact ⟨b,off,ha,below_cell hb hcell⟩
theorem Byts.at {w:World} {b off n cap:Nat} {bs:List Nat} (h:Byts w (.slice (some ⟨b,off,none⟩) n cap) bs):∀ k (hk:k < bs.length),w.cell? ⟨b,off + k,none⟩ = some (.int .u8 (bs[k]:Nat)):=by
 obtain ⟨a,c,he,-,-,-,hk⟩:=h
 injection he with e1 e2 e3
 subst e1
 intro k hlt
 obtain ⟨b',o',e,hc⟩:=hk k hlt
 cases e; exact hc
theorem Byts.drop {w:World} {b off n cap:Nat} {bs:List Nat} (h:Byts w (.slice (some ⟨b,off,none⟩) n cap) bs) (j:Nat) (hj:j ≤ bs.length) (a:Option Addr) (c:Nat) (hc:bs.length - j ≤ c)
  (ha:j < bs.length → a = some ⟨b,off + j,none⟩):Byts w (.slice a (bs.drop j).length c) (bs.drop j):=by
 have hat:=h.at
 obtain ⟨a',cap',he,h1,h2,h3,-⟩:=h
 refine ⟨a,c,rfl,by rw [List.length_drop]; exact hc,by rw [List.length_drop]; omega,fun x hx => h3 x (List.mem_of_mem_drop hx),fun k hk => ?_⟩
 rw [List.length_drop] at hk
 refine ⟨b,off + j,ha (by omega),?_⟩
 rw [List.getElem_drop,Nat.add_assoc]; exact hat (j + k) (by omega)
def z32:Array Value:=#[.int .u8 0,.int .u8 0,.int .u8 0,.int .u8 0,.int .u8 0,.int .u8 0,.int .u8 0,.int .u8 0,.int .u8 0,.int .u8 0,.int .u8 0,.int .u8 0,.int .u8 0,.int .u8 0,.int .u8 0,.int .u8 0,.int .u8 0,.int .u8 0,.int .u8 0,.int .u8 0,.int .u8 0,.int .u8 0,.int .u8 0,.int .u8 0,.int .u8 0,.int .u8 0,.int .u8 0,.int .u8 0,.int .u8 0,.int .u8 0,.int .u8 0,.int .u8 0]
theorem Byts.len {w:World} {a:Option Addr} {n cap:Nat} {bs:List Nat} (h:Byts w (.slice a n cap) bs):n = bs.length ∧ n ≤ cap:=by
 obtain ⟨a',c,he,hc,-⟩:=h
 injection he with e1 e2 e3
 omega
theorem Byts.next64 {w:World} {bb off m c1:Nat} {bs:List Nat} {i:Nat} (h:Byts w (.slice (some ⟨bb,off,none⟩) m c1) (bs.drop (64 * i))) (hm:64 ≤ m) (a:Option Addr) (c:Nat) (hc:m - 64 ≤ c)
  (ha:64 < m → a = some ⟨bb,off + 64,none⟩):Byts w (.slice a (m - 64) c) (bs.drop (64 * (i + 1))):=by
 obtain ⟨hl,-⟩:=h.len
 have h2:=h.drop 64 (by omega) a c (by omega) (fun hh => ha (by omega))
 rw [List.drop_drop] at h2
 rw [show 64 * (i + 1) = 64 * i + 64 by omega]
 have e:(bs.drop (64 * i + 64)).length = m - 64:=by rw [hl,List.length_drop,List.length_drop]; omega
 rwa [e] at h2
structure SumI (w:World) (p:List Nat) (i:Nat) (W:World):Prop where
 be:Below w.heap.size w W
 rr:W.heap[w.heap.size]? = some (.cells z32 167 (0,0))
 st:Wds W (w.heap.size + 1) 8 (st0.blocks p i).at
theorem SumI.next {w:World} {p:List Nat} {i:Nat} {W W1:World} (h:SumI w p i W) (hg:W.grownBy W1 (some (w.heap.size + 1))) (hs:Wds W1 (w.heap.size + 1) 8 (st0.blocks p (i + 1)).at):SumI w p (i + 1) W1 where
 be:=⟨hg.os.trans h.be.os,hg.tape.trans h.be.tape,hg.output.trans h.be.output,Nat.le_trans h.be.size hg.size,fun k hk => (hg.block k (Nat.lt_of_lt_of_le hk h.be.size) (by intro e; injection e with e; omega)).trans (h.be.block k hk)⟩
 rr:=(hg.block _ (row_lt h.rr) (by intro e; injection e with e; omega)).trans h.rr
 st:=hs
theorem sum_start (w:World) (p:List Nat):SumI w p 0 ((w.alloc (.cells z32 167)).alloc (.cells (stA st0) 221)) where
 be:=((Below.refl _ _).alloc (Nat.le_refl _) _).alloc (by simp) _
 rr:=by
  refine (Below.heap_alloc _ _ _ (by simp)).trans (World.alloc_heap_new w _)
 st:=by
  have h:((w.alloc (.cells z32 167)).alloc (.cells (stA st0) 221)).heap[w.heap.size + 1]? = some (.cells (stA st0) 221 (0,0)):=by
   have:=World.alloc_heap_new (w.alloc (.cells z32 167)) (.cells (stA st0) 221)
   rwa [World.size_alloc] at this
  exact ⟨fun k hk => row_cell h (stA_at st0 hk),fun k _ => row_free h k⟩
theorem SumI.below {w:World} {p:List Nat} {i B:Nat} {W W1:World} (h:SumI w p i W) (hb:Below B W W1) (hB:w.heap.size + 1 < B):SumI w p i W1 where
 be:=h.be.trans (hb.mono (by omega))
 rr:=(hb.block _ (by omega)).trans h.rr
 st:=h.st.below hb hB
def byteV (x:Nat):Value:=.int .u8 (x:Int)
theorem infoB:(Tryz.prog.info? 5).map (fun i => (i.zero,i.size,i.bytes)) = some (some (.int .u8 0),1,1):=by kernel_rfl
theorem made_rep (z:Value) (n:Nat):madeCells #[z] n = (List.replicate n z).toArray:=by
 apply Array.ext
 ·rw [size_madeCells]; simp
 ·intro i h1 h2
  simp [madeCells,Nat.mod_one]
theorem mk128 (wr:World):∃ W2,(Instr.makeSlice 117 (.int .i64 64) (.int .i64 128)).run Tryz.prog wr = .ok (.slice (some ⟨wr.heap.size,0,none⟩) 64 128) W2 ∧
  W2.heap[wr.heap.size]? = some (.cells (List.replicate 128 (Value.int .u8 0)).toArray 5 (0,0)) ∧ Below wr.heap.size wr W2 ∧ wr.heap.size < W2.heap.size:=by
 obtain ⟨i,hi,hzz⟩:=Option.map_eq_some_iff.1 infoB
 simp only [Prod.mk.injEq] at hzz
 obtain ⟨hz,hs,hb⟩:=hzz
 have h:=run_make (P:=Tryz.prog) wr 117 5 i (.int .u8 0) Tryz.underlying117 hi hz .i64 .i64 64 128 (by omega) (by omega) (by rw [hb]; decide) (by omega)
 refine ⟨_,h,?_,(Below.refl _ _).alloc (Nat.le_refl _) _,by simp⟩
 rw [World.alloc_heap_new,hs]
 exact congrArg (fun x => some (Obj.cells x 5 (0,0))) (made_rep (.int .u8 0) 128)
def lenOf:Value → Nat
 | .slice _ n _ => n
 | _ => 0
theorem end_cells {W4:World} {E:Nat} {X:List Value} {T:List Nat} (hX:T.map byteV = X)
  (h:W4.heap[E]? = some (.cells (splice (List.replicate 128 (Value.int .u8 0)) 0 X).toArray 5 (0,0))) :
  (∀ k,W4.frozen? ⟨E,k,none⟩ = false) ∧ ∀ k,k < 128 → W4.cell? ⟨E,k,none⟩ = some (.int .u8 ((if h:k < T.length then T[k] else 0:Nat):Int)):=by
 refine ⟨fun k => row_free h k,fun k hk => row_cell h ?_⟩
 rw [List.getElem?_toArray]
 unfold splice
 rw [List.take_zero,List.nil_append,← hX]
 by_cases hkT:k < T.length
 ·rw [List.getElem?_append_left (by rw [List.length_map]; exact hkT),List.getElem?_map,List.getElem?_eq_getElem hkT,dif_pos hkT]; rfl
 ·rw [List.getElem?_append_right (by rw [List.length_map]; omega),dif_neg hkT,List.getElem?_drop,List.getElem?_replicate,if_pos (by rw [List.length_map]; omega)]; rfl
def TailI (E L:Nat) (p:List Nat) (i:Nat) (W:World):Prop:=∀ k,k < L → W.cell? ⟨E,k,none⟩ = some (.int .u8 (p.getD (64 * i + k) 0 % 256:Nat))
theorem tail_made {W4:World} {E L:Nat} {bs T:List Nat} {i:Nat} (hbs:∀ x ∈ bs,x < 256) (hi:i = bs.length / 64) (hT:bs.drop (64 * i) = T) (hL:tailL bs.length = L)
  (hf:∀ k,W4.frozen? ⟨E,k,none⟩ = false) (h:∀ k,k < 128 → W4.cell? ⟨E,k,none⟩ = some (.int .u8 ((if h:k < T.length then T[k] else 0:Nat):Int))) :
  TailI E L (padded bs) i (putN (W4.setCell ⟨E,T.length,none⟩ (.int .u8 128)) E (L - 8) 8 (bs.length * 8) 8):=by
 subst hi
 subst hT
 subst hL
 have hTl:(bs.drop (64 * (bs.length / 64))).length = bs.length % 64:=by rw [List.length_drop]; omega
 have hL:tailL bs.length = 64 ∨ tailL bs.length = 128:=by unfold tailL; split <;> simp
 have hL2:bs.length % 64 < tailL bs.length - 8:=by unfold tailL; split <;> omega
 intro k hk
 have hcs:∀ k,k < 128 → (W4.setCell ⟨E,(bs.drop (64 * (bs.length / 64))).length,none⟩ (.int .u8 128)).cell? ⟨E,k,none⟩ =
   if k = bs.length % 64 then some (.int .u8 128) else W4.cell? ⟨E,k,none⟩:=fun k hk => by
  rw [hTl]
  by_cases e:k = bs.length % 64
  ·subst e; rw [if_pos rfl]; exact World.cell?_setCell_same' _ _ _ (by rw [h _ hk]; rfl)
  ·rw [if_neg e]; exact cell_other (.inr (fun e2 => e e2.symm))
 rw [tail_at bs hk]
 by_cases h3:k < tailL bs.length - 8
 ·rw [putN_other _ _ _ _ _ (.inr (.inl h3)) 8 (Nat.le_refl _),hcs k (by omega)]
  by_cases h1:k < bs.length % 64
  ·have hb:=hbs _ (List.getElem_mem (show 64 * (bs.length / 64) + k < bs.length by omega))
   rw [if_neg (by omega),dif_pos h1,h k (by omega),dif_pos (by omega),List.getElem_drop,Nat.mod_eq_of_lt hb]
  ·rw [dif_neg h1]
   by_cases h2:k = bs.length % 64
   ·rw [if_pos h2,if_pos h2]; rfl
   ·rw [if_neg h2,if_neg h2,if_pos h3,h k (by omega),dif_neg (by omega)]
 ·rw [dif_neg (by omega),if_neg (by omega),if_neg h3,Nat.mod_mod]
  have hR:Room (W4.setCell ⟨E,(bs.drop (64 * (bs.length / 64))).length,none⟩ (.int .u8 128)) E (tailL bs.length - 8) 8:=by
   refine ⟨fun j hj => ?_,fun j hj => by rw [World.frozen?_setCell]; exact hf _⟩
   rw [hcs _ (by omega)]
   split
   ·exact ⟨_,rfl⟩
   ·exact ⟨_,h _ (by omega)⟩
  have:=putN_new (n:=bs.length * 8) hR (k:=k - (tailL bs.length - 8)) (by omega) 8 (Nat.le_refl _) (by omega)
  rw [show tailL bs.length - 8 + (k - (tailL bs.length - 8)) = k by omega] at this
  exact this
theorem end_room {W4:World} {E o:Nat} {T:List Nat} (h:(∀ k,W4.frozen? ⟨E,k,none⟩ = false) ∧ ∀ k,k < 128 → W4.cell? ⟨E,k,none⟩ = some (.int .u8 ((if h:k < T.length then T[k] else 0:Nat):Int))) (ho:o + 8 ≤ 128) :
  Room (W4.setCell ⟨E,T.length,none⟩ (.int .u8 128)) E o 8:=by
 refine ⟨fun j hj => ?_,fun j hj => by rw [World.frozen?_setCell]; exact h.1 _⟩
 by_cases e:o + j = T.length
 ·rw [← e]; exact ⟨_,World.cell?_setCell_same' _ _ _ (by rw [h.2 _ (by omega)]; rfl)⟩
 ·rw [cell_other (.inr (fun e2 => e e2.symm))]; exact ⟨_,h.2 _ (by omega)⟩
theorem put_int (b off L cap n:Nat) (m:Int) (hm:(n:Int) = m) (w:World) (hL:L ≤ 8) (hcap:L ≤ cap) (hn:n < 18446744073709551616) (hR:Room w b off L) :
  Calls Tryz.prog 218 #[.slice (some ⟨b,off,none⟩) L cap,.int .u64 m] w fun e w' => e = .returned (.tuple #[]) ∧ w' = putN w b off L n L:=by
 subst hm; exact put_any b off L cap n w hL hcap hn hR
inductive EndR:Nat → Nat → Value → Nat → Prop
 | a0 {E:Nat}:EndR 128 E (.slice (some ⟨E,0,none⟩) 128 128) 0
 | a1 {E:Nat}:EndR 128 E (.slice (some ⟨E,64,none⟩) 64 64) 1
 | a2 {E:Nat}:EndR 128 E (.slice (some ⟨E,64,none⟩) 0 0) 2
 | b0 {E:Nat}:EndR 64 E (.slice (some ⟨E,0,none⟩) 64 128) 0
 | b1 {E:Nat}:EndR 64 E (.slice (some ⟨E,64,none⟩) 0 64) 1
theorem tail_blk {E L:Nat} {p:List Nat} {i j:Nat} {W:World} (h:TailI E L p i W) (hj:64 * j + 64 ≤ L):∀ k,k < 64 → W.cell? ⟨E,64 * j + k,none⟩ = some (.int .u8 (blk p (i + j) k:Nat)):=fun k hk => by
 rw [h (64 * j + k) (by omega)]
 unfold blk
 rw [show 64 * (i + j) + k = 64 * i + (64 * j + k) by omega]
theorem TailI.grown {E L S:Nat} {p:List Nat} {i:Nat} {W W1:World} (h:TailI E L p i W) (hg:W.grownBy W1 (some S)) (hE:E < W.heap.size) (hne:S ≠ E):TailI E L p i W1:=fun k hk => by
 rw [World.cell?_of_block (w:=W) (hg.block E hE (by intro e; injection e with e; omega))]; exact h k hk
theorem sum_end {bs:List Nat} {i L J:Nat} (hi:i = bs.length / 64) (hL:tailL bs.length = L) (hJ:L = 64 * J):sha bs = (st0.blocks (padded bs) (i + J)).bytes:=by
 have e:(padded bs).length / 64 = i + J:=by rw [padded_blocks,hL,hi,hJ]; omega
 unfold sha; rw [e]
def dv (V:St) (j:Nat):Nat:=V.bytes.getD j 0
theorem dv_at (V:St) {k j:Nat} (hk:k < 8) (hj:j < 4):dv V (4 * k + j) = V.at k / 2 ^ (8 * (4 - 1 - j)) % 256:=by
 unfold dv; rw [List.getD_eq_getElem?_getD,bytes_at V hk hj]; rfl
structure OutI (w:World) (V:St) (k:Nat) (W:World):Prop where
 be:Below w.heap.size w W
 cl:∀ j,j < 32 → W.cell? ⟨w.heap.size,j,none⟩ = some (.int .u8 ((if j < 4 * k then dv V j else 0:Nat):Int))
 fr:∀ j,j < 32 → W.frozen? ⟨w.heap.size,j,none⟩ = false
theorem z32_at {j:Nat} (h:j < 32):z32[j]? = some (.int .u8 0):=by
 have e:z32 = (List.replicate 32 (Value.int .u8 0)).toArray:=rfl
 rw [e,List.getElem?_toArray,List.getElem?_replicate,if_pos h]
theorem OutI.room {w:World} {V:St} {k:Nat} {W:World} (h:OutI w V k W) (hk:k < 8):Room W w.heap.size (4 * k) 4:=
 ⟨fun j hj => ⟨_,h.cl (4 * k + j) (by omega)⟩,fun j hj => h.fr (4 * k + j) (by omega)⟩
theorem OutI.next {w:World} {V:St} {k:Nat} {W:World} (h:OutI w V k W) (hk:k < 8):OutI w V (k + 1) (putN W w.heap.size (4 * k) 4 (V.at k) 4) where
 be:=putN_below h.be (Nat.le_refl _) 4
 cl:=fun j hj => by
  by_cases h1:j < 4 * k
  ·rw [putN_other _ _ _ _ _ (.inr (.inl h1)) 4 (Nat.le_refl _),h.cl j hj,if_pos h1,if_pos (by omega)]
  ·by_cases h2:j < 4 * (k + 1)
   ·have e:=putN_new (n:=V.at k) (h.room hk) (k:=j - 4 * k) (by omega) 4 (Nat.le_refl _) (by omega)
    rw [show 4 * k + (j - 4 * k) = j by omega] at e
    rw [e,if_pos h2,← dv_at V hk (show j - 4 * k < 4 by omega),show 4 * k + (j - 4 * k) = j by omega]
   ·rw [putN_other _ _ _ _ _ (.inr (.inr (by omega))) 4 (Nat.le_refl _),h.cl j hj,if_neg h1,if_neg h2]
 fr:=fun j hj => by rw [putN_frozen]; exact h.fr j hj
theorem run_index_stA (V:St) (k:Nat) (hk:k < 8) (w:World):(Instr.index 221 (.agg (stA V)) (.int .i64 k)).run Tryz.prog w = .ok (.int .u32 (V.at k:Nat)) w:=by
 have h:=Tryz.underlying221
 match k,hk with
 | 0,_ | 1,_ | 2,_ | 3,_ | 4,_ | 5,_ | 6,_ | 7,_ => simp [Instr.index,run_underlying h,asIntOf,go_sem,stA,St.at]
theorem results_cell1 {fn:Func} {p:Tmp} {ty:TypeId} (h:fn.results = #[.cell p ty]) (tmps:Array Value) (P:Program) (w:World) :
  (results fn tmps).run P w = ((asAddr (tmps.getD p undef)).run P w).andThen fun a w₁ => (loadVar ty a).run P w₁:=by
 simp only [results,h]
 simp [Sem.run_bind,Result.andThen]
theorem results_cell1_of {fn:Func} {p:Tmp} {ty:TypeId} {tmps:Array Value} {P:Program} {w:World} {a:Addr} {v:Value} (h:fn.results = #[.cell p ty]) (hp:tmps.getD p undef = .pointer (some a)) (hld:(loadVar ty a).run P w = .ok v w) :
  (results fn tmps).run P w = .ok v w:=by
 rw [results_cell1 h,hp]
 simp [asAddr,Result.andThen,hld]
theorem infoDg:(Tryz.prog.info? 167).map (·.size) = some 32:=by kernel_rfl
theorem bytes_range {w:World} {R:Nat} {V:St} {W:World} (h:OutI w V 8 W) (hR:R = w.heap.size):W.rangeAt R 0 (V.bytes.map byteV):=fun j v hj => by
 obtain ⟨h1,h2⟩:=List.getElem?_eq_some_iff.1 hj
 rw [List.length_map,show V.bytes.length = 32 from rfl] at h1
 rw [Nat.zero_add,hR,h.cl j h1,if_pos (by omega),← h2,List.getElem_map]
 unfold dv
 rw [List.getD_eq_getElem?_getD,List.getElem?_eq_getElem (show j < V.bytes.length from h1)]; rfl
theorem run_slice4 (R k:Nat) (hk:k < 8) (w:World):(Instr.sliceAt 167 (.pointer (some ⟨R,0,none⟩)) (some (.int .i64 (4 * (k:Int)))) (some (.int .i64 (4 * (k:Int) + 4))) none).run Tryz.prog w = .ok (.slice (some ⟨R,4 * k,none⟩) 4 (32 - 4 * k)) w:=by
 match k,hk with
 | 0,_ | 1,_ | 2,_ | 3,_ | 4,_ | 5,_ | 6,_ | 7,_ => simp [go_sem]
theorem below_setCells {B b:Nat} {w0:World} (hb:B ≤ b):∀ (L:List Value) (o:Nat) (w:World),Below B w0 w → Below B w0 (w.setCells b o L)
 | [],_,_,h => h
 | v :: L,o,w,h => by rw [World.setCells]; exact below_setCells hb L (o + 1) _ (h.setCell hb _)
theorem SumI.fin {w:World} {bs:List Nat} {i L J:Nat} {W:World} (h:SumI w (padded bs) (i + J) W) (hi:i = bs.length / 64) (hL:tailL bs.length = L) (hJ:L = 64 * J) :
  ∃ V:St,V.Ok ∧ Hid (sha bs = V.bytes) ∧ OutI w V 0 W ∧ W.cell? ⟨w.heap.size + 1,0,none⟩ = some (.int .u32 (V.a:Nat)) ∧ W.cell? ⟨w.heap.size + 1,1,none⟩ = some (.int .u32 (V.b:Nat)) ∧
   W.cell? ⟨w.heap.size + 1,2,none⟩ = some (.int .u32 (V.c:Nat)) ∧ W.cell? ⟨w.heap.size + 1,3,none⟩ = some (.int .u32 (V.d:Nat)) ∧ W.cell? ⟨w.heap.size + 1,4,none⟩ = some (.int .u32 (V.e:Nat)) ∧
   W.cell? ⟨w.heap.size + 1,5,none⟩ = some (.int .u32 (V.f:Nat)) ∧ W.cell? ⟨w.heap.size + 1,6,none⟩ = some (.int .u32 (V.g:Nat)) ∧ W.cell? ⟨w.heap.size + 1,7,none⟩ = some (.int .u32 (V.h:Nat)):=by
 have hs:=sum_end hi hL hJ
 have ho:=st0_ok.blocks (padded bs) (i + J)
 obtain ⟨hbe,hrr,hst⟩:=h
 revert hs ho hst
 generalize st0.blocks (padded bs) (i + J) = V
 intro hs ho hst
 exact ⟨V,ho,hs,⟨hbe,fun j hj => row_cell hrr ((z32_at hj).trans (by rw [if_neg (by omega)]; rfl)),fun j _ => row_free hrr j⟩,hst.cell 0 (by omega),hst.cell 1 (by omega),hst.cell 2 (by omega),hst.cell 3 (by omega),hst.cell 4 (by omega),hst.cell 5 (by omega),hst.cell 6 (by omega),hst.cell 7 (by omega)⟩
theorem sum_any (v:Value) (bs:List Nat) (w:World) (hI:Byts w v bs) (hG:Glob w) :
  Calls Tryz.prog 198 #[v] w fun e w' => e = .returned (.agg ((sha bs).map byteV).toArray) ∧ Below w.heap.size w w':=by
 have hI0:=Lib.hid hI
 obtain ⟨a,cap,rfl,hcap,hlen,hall,hk⟩:=hI
 clear hk
 have g0:=hG.sta 0 (by omega)
 have g1:=hG.sta 1 (by omega)
 have g2:=hG.sta 2 (by omega)
 have g3:=hG.sta 3 (by omega)
 have g4:=hG.sta 4 (by omega)
 have g5:=hG.sta 5 (by omega)
 have g6:=hG.sta 6 (by omega)
 have g7:=hG.sta 7 (by omega)
 simp only [St.at] at g0 g1 g2 g3 g4 g5 g6 g7
 have hz0:0 < w.heap.size:=lt_of_cell g0
 have hmf:∀ (fn:Fn) (first cap:Array Value) (w:World),(Instr.makeFunc fn first cap).run Tryz.prog w = .ok (.func fn first cap) w:=fun _ _ _ _ => rfl
 go_enter Tryz.func198,Tryz.ntmps198
 go_wp2_with fail
 have hnew:∃ W,W = (w.alloc (.cells z32 167)).alloc (.cells (stA st0) 221) ∧ SumI w (padded bs) 0 W:=
  ⟨_,rfl,sum_start w _⟩
 obtain ⟨W3,hW3,hS3⟩:=hnew
 simp only [stA,z32] at hW3
 rw [← hW3]
 clear hW3 g0 g1 g2 g3 g4 g5 g6 g7 hz0
 go_loopw [5] (fun rv W => ∃ i:Nat,64 * i ≤ bs.length ∧ Byts w rv (bs.drop (64 * i)) ∧ SumI w (padded bs) i W) (fun rv _ => lenOf rv)
 case atStart => exact ⟨0,by omega,by rw [Nat.mul_zero,List.drop_zero]; exact hI0.out,hS3⟩
 case round =>
  clear hS3
  obtain ⟨i,hi,hT,hS⟩:=hrel
  have hTL:(bs.drop (64 * i)).length = bs.length - 64 * i:=List.length_drop
  by_cases hm:64 ≤ (bs.drop (64 * i)).length
  ·obtain ⟨a1,c1,rfl,hc1,hl1,hall1,hk1⟩:=id hT
   obtain ⟨bb,off,rfl,-⟩:=hk1 0 (by omega)
   have hat:=hT.at
   clear hk1
   have HT:=Lib.hid hT
   clear hT
   have hblk:∀ k,k < 64 → wr.cell? ⟨bb,off + k,none⟩ = some (.int .u8 (blk (padded bs) i k:Nat)):=fun k hk => by
    rw [hS.be.cell (p:=⟨bb,off + k,none⟩) (lt_of_cell (hat k (by omega))),hat k (by omega),blk_low bs hall (by omega),List.getElem_drop]
   have hAll:=Lib.hid hall
   clear hat hall1 hall
   have hgl:=hG.below hS.be
   have HTL:=Lib.hid hTL
   have hm3:(bs.drop (64 * i)).length ≤ bs.length:=by omega
   clear hTL
   have HB:=Lib.hid hblk
   clear hblk
   have hm2:64 ≤ c1:=by omega
   generalize hm0:(bs.drop (64 * i)).length = m at *
   have HM:=Lib.hid hm0
   clear hm0
   have hge:decide ((m:Int) ≥ 64) = true:=decide_eq_true (by omega)
   by_cases hcc:c1 = 64
   ·subst hcc
    obtain rfl:m = 64:=by omega
    clear hm hm2
    go_wp2_with fail
    with_reducible refine (absorb_any (w.heap.size + 1) bb off 64 64 (st0.blocks (padded bs) i) (blk (padded bs) i) (blk_lt _ _) (st0_ok.blocks _ _) _ (Nat.le_refl _) (Nat.le_refl _) hS.st.cell hS.st.free HB.out hgl.num).mono ?_
    rintro e W1 ⟨rfl,hgr,hwd⟩
    go_wp2_with fail
    go_roundw
    case rel => exact ⟨i + 1,by have:=HTL.out; have:=HM.out; omega,HT.out.next64 (Nat.le_refl _) _ _ (by omega) (fun h => absurd h (Nat.lt_irrefl _)),hS.next hgr hwd⟩
    case measure => simp [lenOf]
   ·have hcl:64 < c1:=by omega
    clear hcc
    go_wp2_with fail
    with_reducible refine (absorb_any (w.heap.size + 1) bb off 64 c1 (st0.blocks (padded bs) i) (blk (padded bs) i) (blk_lt _ _) (st0_ok.blocks _ _) _ (Nat.le_refl _) hm2 hS.st.cell hS.st.free HB.out hgl.num).mono ?_
    rintro e W1 ⟨rfl,hgr,hwd⟩
    go_wp2_with fail
    go_roundw
    case rel => exact ⟨i + 1,by have:=HTL.out; have:=HM.out; omega,HT.out.next64 hm _ _ (by omega) (fun _ => rfl),hS.next hgr hwd⟩
    case measure => simp [lenOf]; omega
  ·obtain ⟨a1,c1,rfl,hc1,hl1,hall1,hk1⟩:=id hT
   have hdi:i = bs.length / 64:=by omega
   have hmm:(bs.drop (64 * i)).length = bs.length % 64:=by omega
   have hHk:=Lib.hid hk1
   clear hk1 hall1 hTL
   have hge:decide (((bs.drop (64 * i)).length:Int) ≥ 64) = false:=decide_eq_false (by omega)
   have hm64:(bs.drop (64 * i)).length < 64:=by omega
   have HMM:=Lib.hid hmm
   have HDI:=Lib.hid hdi
   have hgl:=hG.below hS.be
   clear hmm hdi hm hT
   obtain ⟨T,hTe⟩:∃ T,bs.drop (64 * i) = T:=⟨_,rfl⟩
   have HTE:=Lib.hid hTe
   rw [hTe] at hHk hge hm64 HMM hc1 hl1
   rw [hTe]
   clear hTe
   obtain ⟨W2,hmk,hE2,hB2,hz2⟩:=mk128 wr
   have hw2:w.heap.size + 1 < wr.heap.size:=lt_of_cell (hS.st.cell 0 (by omega))
   have hS2:SumI w (padded bs) i W2:=hS.below hB2 hw2
   have hsrc:0 < (T.map byteV).length → ∃ ad,a1 = some ad ∧ ∀ j v,(T.map byteV)[j]? = some v → W2.cell? (ad.add j) = some v:=fun h0 => by
    rw [List.length_map] at h0
    obtain ⟨b,off,he,hc0⟩:=hHk.out 0 h0
    refine ⟨_,he,fun j v hj => ?_⟩
    obtain ⟨hjl,hjv⟩:=List.getElem?_eq_some_iff.1 hj
    rw [List.length_map] at hjl
    obtain ⟨b',off',he',hc⟩:=hHk.out j hjl
    rw [he] at he'
    cases he'
    rw [add_off,hB2.cell (p:=⟨b,off + j,none⟩) (Nat.lt_of_lt_of_le (lt_of_cell hc) hS.be.size),hS.be.cell (p:=⟨b,off + j,none⟩) (lt_of_cell hc),hc,← hjv,List.getElem_map]; rfl
   have HSRC:=Lib.hid hsrc
   have hmin:(T.map byteV).length = Nat.min T.length 64:=by rw [List.length_map]; exact (Nat.min_eq_left (Nat.le_of_lt hm64)).symm
   have HMIN:=Lib.hid hmin
   have hfit:0 + (T.map byteV).length ≤ (List.replicate 128 (Value.int .u8 0)).length:=by rw [List.length_map,List.length_replicate]; omega
   have h1c:∀ v ∈ T.map byteV,v.oneCell' = true:=fun v hv => by
    obtain ⟨x,-,rfl⟩:=List.mem_map.1 hv; rfl
   have HFIT:=Lib.hid hfit
   have H1C:=Lib.hid h1c
   have hsL:(T.map byteV).length = T.length:=List.length_map ..
   have HSL:=Lib.hid hsL
   obtain ⟨X,hX⟩:∃ X,T.map byteV = X:=⟨_,rfl⟩
   have HX:=Lib.hid hX
   clear hsrc hmin hfit h1c hsL
   rw [hX] at HSRC HMIN HFIT H1C HSL
   have HE2:=Lib.hid hE2
   clear hX hE2
   generalize hE:wr.heap.size = E at *
   have HE:=Lib.hid hE
   clear hE
   by_cases h55:55 < T.length
   ·have HL:=Lib.hid (show tailL bs.length = 128 by have:=HMM.out; unfold tailL; rw [if_pos (by omega)])
    have d55:decide ((T.length:Int) > 55) = true:=decide_eq_true (by omega)
    have hTl:T.length < 128:=by omega
    clear h55
    go_wp2_with (with_reducible refine wpList_copy_splice rfl (.tmp 22) (.tmp 23) 117 117 rfl 5 (by kernel_rfl) (by kernel_rfl) _ _ _ _ _ _ rfl rfl E 0 (List.replicate 128 (Value.int .u8 0)) 5 HE2.out X HMIN.out (fun h => ⟨rfl,HSRC.out h⟩) HFIT.out H1C.out E W2 (Below.refl _ _) (Nat.le_refl _) ?_; intro W4 HG hB4; have hec:=end_cells HX.out HG.out; have hec1:=hec.2 T.length hTl; have hec2:=hec.1 T.length; have HEC:=Lib.hid hec; clear hec)
    have hB5:Below E W2 (putN (W4.setCell ⟨E,T.length,none⟩ (.int .u8 128)) E 120 8 (bs.length * 8) 8):=putN_below (hB4.setCell (Nat.le_refl _) _) (Nat.le_refl _) 8
    with_reducible refine (put_int E 120 8 8 (bs.length * 8) ((bs.length:Int) * 8) (by omega) _ (by omega) (by omega) (by omega) (end_room HEC.out (by omega))).mono ?_
    rintro e W5 ⟨rfl,hW5⟩
    rw [← hW5] at hB5
    have hT5:TailI E 128 (padded bs) i W5:=by
     rw [hW5]; exact tail_made hall HDI.out HTE.out HL.out HEC.out.1 HEC.out.2
    have hS5:SumI w (padded bs) (i + 0) W5:=hS2.below hB5 hw2
    have hE5:E < W5.heap.size:=Nat.lt_of_lt_of_le hz2 hB5.size
    clear hec1 hec2 HEC HG hB4 hB5 hS2 hW5 hmk hB2 hS
    go_wp2_with fail
    go_loopw [6] (fun v W => ∃ j,EndR 128 E v j ∧ SumI w (padded bs) (i + j) W ∧ TailI E 128 (padded bs) i W ∧ E < W.heap.size) (fun v _ => lenOf v)
    case atStart => exact ⟨0,.a0,hS5,hT5,hE5⟩
    case round =>
     clear hS5 hT5 hE5
     obtain ⟨j,hR,hS5,hT5,hE5⟩:=hrel
     rcases hR with _ | _ | _ | _ | _
     ·go_wp2_with fail
      have hbk:∀ k,k < 64 → wr.cell? ⟨E,0 + k,none⟩ = some (.int .u8 (blk (padded bs) (i + 0) k:Nat)):=tail_blk (j:=0) hT5 (by omega)
      with_reducible refine (absorb_any (w.heap.size + 1) E 0 64 128 (st0.blocks (padded bs) (i + 0)) (blk (padded bs) (i + 0)) (blk_lt _ _) (st0_ok.blocks _ _) _ (Nat.le_refl _) (by omega) hS5.st.cell hS5.st.free hbk (hG.below hS5.be).num).mono ?_
      rintro e W6 ⟨rfl,hgr,hwd⟩
      have hS6:=hS5.next hgr hwd
      have hT6:=hT5.grown hgr hE5 (by omega)
      have hE6:=Nat.lt_of_lt_of_le hE5 hgr.size
      clear hgr hwd
      go_wp2_with fail
      go_roundw
      case rel => exact ⟨1,.a1,hS6,hT6,hE6⟩
      case measure => simp [lenOf]
     ·go_wp2_with fail
      have hbk:∀ k,k < 64 → wr.cell? ⟨E,64 + k,none⟩ = some (.int .u8 (blk (padded bs) (i + 1) k:Nat)):=tail_blk (j:=1) hT5 (by omega)
      with_reducible refine (absorb_any (w.heap.size + 1) E 64 64 64 (st0.blocks (padded bs) (i + 1)) (blk (padded bs) (i + 1)) (blk_lt _ _) (st0_ok.blocks _ _) _ (Nat.le_refl _) (by omega) hS5.st.cell hS5.st.free hbk (hG.below hS5.be).num).mono ?_
      rintro e W6 ⟨rfl,hgr,hwd⟩
      have hS6:=hS5.next hgr hwd
      have hT6:=hT5.grown hgr hE5 (by omega)
      have hE6:=Nat.lt_of_lt_of_le hE5 hgr.size
      clear hgr hwd
      go_wp2_with fail
      go_roundw
      case rel => exact ⟨2,.a2,hS6,hT6,hE6⟩
      case measure => simp [lenOf]
     ·obtain ⟨V,hVo,HV,hO,s0,s1,s2,s3,s4,s5,s6,s7⟩:=hS5.fin (J:=2) HDI.out HL.out rfl
      clear hS5 hT5
      go_wp2_with fail
      have hstA:(#[.int .u32 (V.a:Nat),.int .u32 (V.b:Nat),.int .u32 (V.c:Nat),.int .u32 (V.d:Nat),.int .u32 (V.e:Nat),.int .u32 (V.f:Nat),.int .u32 (V.g:Nat),.int .u32 (V.h:Nat)]:Array Value) = stA V:=rfl
      rw [hstA]
      clear hstA s0 s1 s2 s3 s4 s5 s6 s7 hE5
      go_loopw [54] (fun x W => ∃ k:Nat,k ≤ 8 ∧ x = .int .i64 k ∧ OutI w V k W) (fun x _ => 8 - (intOf x).toNat)
      case atStart => exact ⟨0,by omega,rfl,hO⟩
      case round =>
       clear hO
       obtain ⟨k,hk,rfl,hO⟩:=hrel
       by_cases hlt:k < 8
       ·have hix:=run_index_stA V k hlt wr
        have hx:=at_lt hVo hlt
        have hnx:=Lib.hid (hO.next hlt)
        have hrm:=hO.room hlt
        generalize V.at k = x at *
        have k0:0 ≤ (k:Int):=by omega
        have k1:(k:Int) < 8:=by omega
        have e1:((4:Int) * (k:Int)).toNat = 4 * k:=by omega
        have e2:((4:Int) * (k:Int) + 4).toNat = 4 * k + 4:=by omega
        have e3:4 * k + 4 - 4 * k = 4:=by omega
        clear hO
        have hsl:=run_slice4 w.heap.size k hlt wr
        go_wp2_with fail
        with_reducible refine (put_int w.heap.size (4 * k) 4 (32 - 4 * k) x _ rfl _ (by omega) (by omega) (by omega) hrm).mono ?_
        rintro e W7 ⟨rfl,hW7⟩
        have hO7:OutI w V (k + 1) W7:=by rw [hW7]; exact hnx.out
        clear hW7 hix hrm hsl
        go_wp2_with fail
        go_roundw
        case rel => exact ⟨k + 1,by omega,by go_num,hO7⟩
        case measure => simp [intOf]; omega
       ·have hO:OutI w V 8 wr:=by rwa [show k = 8 by omega] at hO
        have hdt:decide ((k:Int) < 8) = false:=decide_eq_false (by omega)
        clear hlt hk
        have hrg:=bytes_range hO rfl
        have hbe:=hO.be
        have hth:wr.there w.heap.size 0 32:=fun j hj => by rw [Nat.zero_add]; exact ⟨by rw [hO.cl j hj]; rfl,hO.fr j hj⟩
        have h1L:(V.bytes.map byteV).toArray.all (·.oneCell') = true:=all_oneCell_toArray (fun v hv => by obtain ⟨x,-,rfl⟩:=List.mem_map.1 hv; rfl)
        have h32:(V.bytes.map byteV).length = 32:=rfl
        have HV3:Hid ((sha bs).map byteV = V.bytes.map byteV):=Lib.hid (by rw [HV.out])
        generalize V.bytes.map byteV = L at *
        have HRG:=Lib.hid hrg
        have HTH:=Lib.hid hth
        have H1L:=Lib.hid h1L
        have HI:=Lib.hid (infoDg.trans (congrArg some h32.symm))
        have HI2:=Lib.hid (infoDg.trans (congrArg some (show 32 = L.toArray.size by simpa using h32.symm)))
        have HT2:Hid (wr.there w.heap.size 0 L.toArray.size):=Lib.hid (by rw [show L.toArray.size = 32 by simpa using h32]; exact hth)
        have HT3:Hid (wr.there w.heap.size 0 L.length):=Lib.hid (by rw [h32]; exact hth)
        clear hrg hth h1L h32 hO
        go_wp2_with (first
         | (with_reducible refine wpList_load_mid rfl 167 (.tmp 2) rfl w.heap.size 0 rfl L _ HRG.out Tryz.underlying167 rfl HI.out ?_)
         | (with_reducible refine wpList_store_mid rfl 167 (.tmp 2) (.tmp 68) rfl w.heap.size 0 L.toArray rfl rfl HT2.out HI2.out H1L.out ?_))
        have hLL:L.toArray.toList = L:=rfl
        have hW8:(wr.setCells w.heap.size 0 L.toArray.toList).rangeAt w.heap.size 0 L:=by rw [hLL]; exact World.rangeAt_setCells_same _ _ _ _ HT3.out
        have hld:=run_loadVar_mid (P:=Tryz.prog) _ w.heap.size 0 167 L _ hW8 Tryz.underlying167 rfl HI.out
        refine bodyPost_ret (v:=.agg L.toArray) ?_ rfl ⟨by rw [HV3.out],below_setCells (Nat.le_refl _) _ _ _ hbe⟩
        exact results_cell1_of rfl rfl hld
   ·have HL:=Lib.hid (show tailL bs.length = 64 by have:=HMM.out; unfold tailL; rw [if_neg (by omega)])
    have d55:decide ((T.length:Int) > 55) = false:=decide_eq_false (by omega)
    have hTl:T.length < 128:=by omega
    clear h55
    go_wp2_with (with_reducible refine wpList_copy_splice rfl (.tmp 22) (.tmp 23) 117 117 rfl 5 (by kernel_rfl) (by kernel_rfl) _ _ _ _ _ _ rfl rfl E 0 (List.replicate 128 (Value.int .u8 0)) 5 HE2.out X HMIN.out (fun h => ⟨rfl,HSRC.out h⟩) HFIT.out H1C.out E W2 (Below.refl _ _) (Nat.le_refl _) ?_; intro W4 HG hB4; have hec:=end_cells HX.out HG.out; have hec1:=hec.2 T.length hTl; have hec2:=hec.1 T.length; have HEC:=Lib.hid hec; clear hec)
    have hB5:Below E W2 (putN (W4.setCell ⟨E,T.length,none⟩ (.int .u8 128)) E 56 8 (bs.length * 8) 8):=putN_below (hB4.setCell (Nat.le_refl _) _) (Nat.le_refl _) 8
    with_reducible refine (put_int E 56 8 72 (bs.length * 8) ((bs.length:Int) * 8) (by omega) _ (by omega) (by omega) (by omega) (end_room HEC.out (by omega))).mono ?_
    rintro e W5 ⟨rfl,hW5⟩
    rw [← hW5] at hB5
    have hT5:TailI E 64 (padded bs) i W5:=by
     rw [hW5]; exact tail_made hall HDI.out HTE.out HL.out HEC.out.1 HEC.out.2
    have hS5:SumI w (padded bs) (i + 0) W5:=hS2.below hB5 hw2
    have hE5:E < W5.heap.size:=Nat.lt_of_lt_of_le hz2 hB5.size
    clear hec1 hec2 HEC HG hB4 hB5 hS2 hW5 hmk hB2 hS
    go_wp2_with fail
    go_loopw [6] (fun v W => ∃ j,EndR 64 E v j ∧ SumI w (padded bs) (i + j) W ∧ TailI E 64 (padded bs) i W ∧ E < W.heap.size) (fun v _ => lenOf v)
    case atStart => exact ⟨0,.b0,hS5,hT5,hE5⟩
    case round =>
     clear hS5 hT5 hE5
     obtain ⟨j,hR,hS5,hT5,hE5⟩:=hrel
     rcases hR with _ | _ | _ | _ | _
     ·go_wp2_with fail
      have hbk:∀ k,k < 64 → wr.cell? ⟨E,0 + k,none⟩ = some (.int .u8 (blk (padded bs) (i + 0) k:Nat)):=tail_blk (j:=0) hT5 (by omega)
      with_reducible refine (absorb_any (w.heap.size + 1) E 0 64 128 (st0.blocks (padded bs) (i + 0)) (blk (padded bs) (i + 0)) (blk_lt _ _) (st0_ok.blocks _ _) _ (Nat.le_refl _) (by omega) hS5.st.cell hS5.st.free hbk (hG.below hS5.be).num).mono ?_
      rintro e W6 ⟨rfl,hgr,hwd⟩
      have hS6:=hS5.next hgr hwd
      have hT6:=hT5.grown hgr hE5 (by omega)
      have hE6:=Nat.lt_of_lt_of_le hE5 hgr.size
      clear hgr hwd
      go_wp2_with fail
      go_roundw
      case rel => exact ⟨1,.b1,hS6,hT6,hE6⟩
      case measure => simp [lenOf]
     ·obtain ⟨V,hVo,HV,hO,s0,s1,s2,s3,s4,s5,s6,s7⟩:=hS5.fin (J:=1) HDI.out HL.out rfl
      clear hS5 hT5
      go_wp2_with fail
      have hstA:(#[.int .u32 (V.a:Nat),.int .u32 (V.b:Nat),.int .u32 (V.c:Nat),.int .u32 (V.d:Nat),.int .u32 (V.e:Nat),.int .u32 (V.f:Nat),.int .u32 (V.g:Nat),.int .u32 (V.h:Nat)]:Array Value) = stA V:=rfl
      rw [hstA]
      clear hstA s0 s1 s2 s3 s4 s5 s6 s7 hE5
      go_loopw [54] (fun x W => ∃ k:Nat,k ≤ 8 ∧ x = .int .i64 k ∧ OutI w V k W) (fun x _ => 8 - (intOf x).toNat)
      case atStart => exact ⟨0,by omega,rfl,hO⟩
      case round =>
       clear hO
       obtain ⟨k,hk,rfl,hO⟩:=hrel
       by_cases hlt:k < 8
       ·have hix:=run_index_stA V k hlt wr
        have hx:=at_lt hVo hlt
        have hnx:=Lib.hid (hO.next hlt)
        have hrm:=hO.room hlt
        generalize V.at k = x at *
        have k0:0 ≤ (k:Int):=by omega
        have k1:(k:Int) < 8:=by omega
        have e1:((4:Int) * (k:Int)).toNat = 4 * k:=by omega
        have e2:((4:Int) * (k:Int) + 4).toNat = 4 * k + 4:=by omega
        have e3:4 * k + 4 - 4 * k = 4:=by omega
        clear hO
        have hsl:=run_slice4 w.heap.size k hlt wr
        go_wp2_with fail
        with_reducible refine (put_int w.heap.size (4 * k) 4 (32 - 4 * k) x _ rfl _ (by omega) (by omega) (by omega) hrm).mono ?_
        rintro e W7 ⟨rfl,hW7⟩
        have hO7:OutI w V (k + 1) W7:=by rw [hW7]; exact hnx.out
        clear hW7 hix hrm hsl
        go_wp2_with fail
        go_roundw
        case rel => exact ⟨k + 1,by omega,by go_num,hO7⟩
        case measure => simp [intOf]; omega
       ·have hO:OutI w V 8 wr:=by rwa [show k = 8 by omega] at hO
        have hdt:decide ((k:Int) < 8) = false:=decide_eq_false (by omega)
        clear hlt hk
        have hrg:=bytes_range hO rfl
        have hbe:=hO.be
        have hth:wr.there w.heap.size 0 32:=fun j hj => by rw [Nat.zero_add]; exact ⟨by rw [hO.cl j hj]; rfl,hO.fr j hj⟩
        have h1L:(V.bytes.map byteV).toArray.all (·.oneCell') = true:=all_oneCell_toArray (fun v hv => by obtain ⟨x,-,rfl⟩:=List.mem_map.1 hv; rfl)
        have h32:(V.bytes.map byteV).length = 32:=rfl
        have HV3:Hid ((sha bs).map byteV = V.bytes.map byteV):=Lib.hid (by rw [HV.out])
        generalize V.bytes.map byteV = L at *
        have HRG:=Lib.hid hrg
        have HTH:=Lib.hid hth
        have H1L:=Lib.hid h1L
        have HI:=Lib.hid (infoDg.trans (congrArg some h32.symm))
        have HI2:=Lib.hid (infoDg.trans (congrArg some (show 32 = L.toArray.size by simpa using h32.symm)))
        have HT2:Hid (wr.there w.heap.size 0 L.toArray.size):=Lib.hid (by rw [show L.toArray.size = 32 by simpa using h32]; exact hth)
        have HT3:Hid (wr.there w.heap.size 0 L.length):=Lib.hid (by rw [h32]; exact hth)
        clear hrg hth h1L h32 hO
        go_wp2_with (first
         | (with_reducible refine wpList_load_mid rfl 167 (.tmp 2) rfl w.heap.size 0 rfl L _ HRG.out Tryz.underlying167 rfl HI.out ?_)
         | (with_reducible refine wpList_store_mid rfl 167 (.tmp 2) (.tmp 68) rfl w.heap.size 0 L.toArray rfl rfl HT2.out HI2.out H1L.out ?_))
        have hLL:L.toArray.toList = L:=rfl
        have hW8:(wr.setCells w.heap.size 0 L.toArray.toList).rangeAt w.heap.size 0 L:=by rw [hLL]; exact World.rangeAt_setCells_same _ _ _ _ HT3.out
        have hld:=run_loadVar_mid (P:=Tryz.prog) _ w.heap.size 0 167 L _ hW8 Tryz.underlying167 rfl HI.out
        refine bodyPost_ret (v:=.agg L.toArray) ?_ rfl ⟨by rw [HV3.out],below_setCells (Nat.le_refl _) _ _ _ hbe⟩
        exact results_cell1_of rfl rfl hld
end Go.Proofs.YtggnipkfliompaaGreatDoor
