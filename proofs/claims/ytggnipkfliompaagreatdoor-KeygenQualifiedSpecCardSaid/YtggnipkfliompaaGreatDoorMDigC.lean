/- Package digest: a block is absorbed. SHA-256, in plain Lean: the last blocks. -/
import Derived.Test.YtggnipkfliompaaGreatDoorMLinQ
import Derived.Test.YtggnipkfliompaaGreatDoorMBase
import Derived.Deep.RegionHeld3
import Derived.IntWalk
import Derived.Laws.CopyOwn
import Derived.RangeFuncCalls
import Derived.Shelf.Abstract
set_option maxHeartbeats 1000000
set_option maxRecDepth 100000
namespace Go.Proofs.YtggnipkfliompaaGreatDoor
open Go.RowKit
structure Wds (W:World) (b N:Nat) (g:Nat → Nat):Prop where
 cell:∀ k,k < N → W.cell? ⟨b,k,none⟩ = some (.int .u32 (g k:Nat))
 free:∀ k,k < N → W.frozen? ⟨b,k,none⟩ = false
def upd (g:Nat → Nat) (i u:Nat):Nat → Nat:=fun k => if k = i then u else g k
theorem Wds.set {W:World} {b N:Nat} {g:Nat → Nat} (h:Wds W b N g) {i u:Nat} (hi:i < N):Wds (W.setCell ⟨b,i,none⟩ (.int .u32 (u:Nat))) b N (upd g i u) where
 cell:=fun k hk => by
  unfold upd
  by_cases e:k = i
  ·subst e; rw [if_pos rfl]; exact World.cell?_setCell_same' _ _ _ (by rw [h.cell k hk]; rfl)
  ·rw [if_neg e,cell_other (.inr (fun e2 => e e2.symm))]; exact h.cell k hk
 free:=fun k hk => by rw [World.frozen?_setCell]; exact h.free k hk
theorem Wds.congr {W:World} {b N:Nat} {g g':Nat → Nat} (h:Wds W b N g) (e:∀ k,k < N → g k = g' k):Wds W b N g':=
 ⟨fun k hk => by rw [← e k hk]; exact h.cell k hk,h.free⟩
theorem Wds.set_other {W:World} {b b' o N:Nat} {g:Nat → Nat} (h:Wds W b N g) (hb:b' ≠ b) (u:Value):Wds (W.setCell ⟨b',o,none⟩ u) b N g:=
 ⟨fun k hk => by rw [cell_other (.inl hb)]; exact h.cell k hk,fun k hk => by rw [World.frozen?_setCell]; exact h.free k hk⟩
theorem Wds.alloc {W:World} {b N:Nat} {g:Nat → Nat} (h:Wds W b N g) (hb:b < W.heap.size) (o:Obj):Wds (W.alloc o) b N g:=
 have k:=(Below.refl W.heap.size W).alloc (Nat.le_refl _) o
 ⟨fun i hi => by rw [k.cell (p:=⟨b,i,none⟩) hb]; exact h.cell i hi,fun i hi => by rw [k.frozen (p:=⟨b,i,none⟩) hb]; exact h.free i hi⟩
theorem rep_cell (w:World) (n:Nat) (v:Value) (t:TypeId) {k:Nat} (hk:k < n):(w.alloc (.cells (Array.replicate n v) t)).cell? ⟨w.heap.size,k,none⟩ = some v:=by
 rw [World.cell?_alloc_at _ _ _ _ rfl]
 simp [hk]
theorem rep_wds (w:World) (n:Nat) (t:TypeId):Wds (w.alloc (.cells (Array.replicate n (.int .u32 0)) t)) w.heap.size n (fun _ => 0):=
 ⟨fun _ hk => rep_cell w n _ t hk,fun k _ => by simp [go_sem]⟩
def sch0 (f:Nat → Nat) (t:Nat):Nat → Nat:=fun k => if k < t then schd f k else 0
theorem sch0_upd (f:Nat → Nat) (t:Nat):upd (sch0 f t) t (schd f t) = sch0 f (t + 1):=by
 funext k; unfold upd sch0
 by_cases e:k = t
 ·subst e; rw [if_pos rfl,if_pos (by omega)]
 ·rw [if_neg e]
  by_cases e2:k < t
  ·rw [if_pos e2,if_pos (by omega)]
  ·rw [if_neg e2,if_neg (by omega)]
structure SchI (w:World) (f:Nat → Nat) (t:Nat) (W:World):Prop where
 be:Below w.heap.size w W
 wd:Wds W w.heap.size 64 (sch0 f t)
theorem SchI.drew {w:World} {f:Nat → Nat} {t:Nat} {W:World} (h:SchI w f t W):SchI w f t W.drew:=⟨h.be.drew,⟨h.wd.cell,h.wd.free⟩⟩
theorem SchI.next {w:World} {f:Nat → Nat} {t:Nat} {W:World} (h:SchI w f t W) (ht:t < 64):SchI w f (t + 1) (W.setCell ⟨w.heap.size,t,none⟩ (.int .u32 (schd f t:Nat))):=
 ⟨h.be.setCell (Nat.le_refl _) _,by rw [← sch0_upd]; exact h.wd.set ht⟩
theorem add32_wrap (a b:Nat):IntKind.u32.wrap ((a:Int) + (b:Int)) = ((add32 a b:Nat):Int):=by
 rw [IntKind.wrap_u32']; unfold add32; omega
theorem mix_val (x a b c:Nat) (d:Int) (hd:(d:Int) = ((2 ^ c:Nat):Int)) (hx:x < 4294967296):bits .xor .u32 (bits .xor .u32 (rotr x a:Nat) (rotr x b:Nat)) ((x:Int) / d) = ((mix x a b c:Nat):Int):=by
 have e:(x:Int) / d = ((x / 2 ^ c:Nat):Int):=by rw [hd,Int.natCast_ediv]
 rw [e,u32_xor_nat _ _ (rotr_lt hx) (rotr_lt hx),u32_xor_nat _ _ (xor_lt32 (rotr_lt hx) (rotr_lt hx)) (Nat.lt_of_le_of_lt (Nat.div_le_self _ _) hx)]; rfl
theorem sch_val (x y z u:Nat) (hx:x < 4294967296) (hy:y < 4294967296) :
  IntKind.u32.wrap (IntKind.u32.wrap (IntKind.u32.wrap ((z:Int) + bits .xor .u32 (bits .xor .u32 (rotr x 7:Nat) (rotr x 18:Nat)) ((x:Int) / 8)) + (u:Int)) + bits .xor .u32 (bits .xor .u32 (rotr y 17:Nat) (rotr y 19:Nat)) ((y:Int) / 1024)) =
   ((add32 (add32 (add32 z (mix x 7 18 3)) u) (mix y 17 19 10):Nat):Int):=by
 rw [mix_val x 7 18 3 8 rfl hx,mix_val y 17 19 10 1024 rfl hy,add32_wrap,add32_wrap,add32_wrap]
theorem sch_val2 (x y z u:Nat) (hx:x < 4294967296) (hy:y < 4294967296) :
  ((((z:Int) + bits .xor .u32 (bits .xor .u32 (rotr x 7:Nat) (rotr x 18:Nat)) ((x:Int) / 8)) % 4294967296 + (u:Int)) % 4294967296 + bits .xor .u32 (bits .xor .u32 (rotr y 17:Nat) (rotr y 19:Nat)) ((y:Int) / 1024)) % 4294967296 =
   ((add32 (add32 (add32 z (mix x 7 18 3)) u) (mix y 17 19 10):Nat):Int):=by
 have h:=sch_val x y z u hx hy
 rwa [IntKind.wrap_u32',IntKind.wrap_u32',IntKind.wrap_u32'] at h
theorem t1_val (s:St) (hs:s.Ok) (k w:Nat) :
  IntKind.u32.wrap (IntKind.u32.wrap (IntKind.u32.wrap (IntKind.u32.wrap ((s.h:Int) + (rot3 s.e 6 11 25:Nat)) + bits .xor .u32 (s.g:Int) (bits .and .u32 (s.e:Int) (bits .xor .u32 (s.f:Int) (s.g:Int)))) + (k:Int)) + (w:Int)) = ((t1 s k w:Nat):Int):=by
 rw [u32_xor_nat _ _ hs.f hs.g,u32_and_nat _ _ hs.e (xor_lt32 hs.f hs.g),u32_xor_nat _ _ hs.g (and_lt32 hs.e),add32_wrap,add32_wrap,add32_wrap,add32_wrap]; rfl
theorem t2_val (s:St) (hs:s.Ok) :
  IntKind.u32.wrap ((rot3 s.a 2 13 22:Nat) + bits .or .u32 (bits .and .u32 (s.a:Int) (s.b:Int)) (bits .and .u32 (s.c:Int) (bits .or .u32 (s.a:Int) (s.b:Int)))) = ((t2 s:Nat):Int):=by
 rw [u32_and_nat _ _ hs.a hs.b,u32_or_nat _ _ hs.a hs.b,u32_and_nat _ _ hs.c (or_lt32 hs.a hs.b),u32_or_nat _ _ (and_lt32 hs.a) (and_lt32 hs.c),add32_wrap]; rfl
def stA (s:St):Array Value:=#[.int .u32 s.a,.int .u32 s.b,.int .u32 s.c,.int .u32 s.d,.int .u32 s.e,.int .u32 s.f,.int .u32 s.g,.int .u32 s.h]
def stL7 (s:St):List Value:=[.int .u32 s.a,.int .u32 s.b,.int .u32 s.c,.int .u32 s.d,.int .u32 s.e,.int .u32 s.f,.int .u32 s.g]
theorem stL7_at {s:St} {j:Nat} {v:Value} (h:(stL7 s)[j]? = some v):(stA s)[j]? = some v:=by
 unfold stL7 at h
 match j with
 | 0 | 1 | 2 | 3 | 4 | 5 | 6 => exact h
 | n + 7 => simp at h
theorem stL7_one (s:St):∀ v ∈ stL7 s,v.oneCell' = true:=by
 intro v hv
 unfold stL7 at hv
 simp only [List.mem_cons,List.not_mem_nil,or_false] at hv
 rcases hv with rfl | rfl | rfl | rfl | rfl | rfl | rfl <;> rfl
theorem row_copied {W:World} {b:Nat} {s:St} {t:TypeId} (h:W.heap[b]? = some (.cells (splice (stA s).toList 1 (stL7 s)).toArray t (0,0))) :
  W.heap[b]? = some (.cells #[.int .u32 s.a,.int .u32 s.a,.int .u32 s.b,.int .u32 s.c,.int .u32 s.d,.int .u32 s.e,.int .u32 s.f,.int .u32 s.g] t (0,0)):=h
structure RndI (w:World) (vb:Nat) (s:St) (f:Nat → Nat) (t:Nat) (W:World):Prop where
 be:Below w.heap.size w W
 sc:Wds W w.heap.size 64 (schd f)
 vs:W.heap[vb]? = some (.cells (stA (s.rounds f t)) 221 (0,0))
 hv:w.heap.size < vb
theorem Wds.below {W W':World} {b B N:Nat} {g:Nat → Nat} (h:Wds W b N g) (hb:Below B W W') (hB:b < B):Wds W' b N g:=
 ⟨fun k hk => by rw [hb.cell (p:=⟨b,k,none⟩) hB]; exact h.cell k hk,fun k hk => by rw [hb.frozen (p:=⟨b,k,none⟩) hB]; exact h.free k hk⟩
theorem stA_at (s:St) {i:Nat} (h:i < 8):(stA s)[i]? = some (.int .u32 (s.at i:Nat)):=by
 match i,h with
 | 0,_ | 1,_ | 2,_ | 3,_ | 4,_ | 5,_ | 6,_ | 7,_ => rfl
theorem plus_at (s v:St) {i:Nat} (h:i < 8):(s.plus v).at i = add32 (s.at i) (v.at i):=by
 match i,h with
 | 0,_ | 1,_ | 2,_ | 3,_ | 4,_ | 5,_ | 6,_ | 7,_ => rfl
theorem at_lt {s:St} (h:s.Ok) {i:Nat} (hi:i < 8):s.at i < 4294967296:=by
 match i,hi with
 | 0,_ => exact h.a
 | 1,_ => exact h.b
 | 2,_ => exact h.c
 | 3,_ => exact h.d
 | 4,_ => exact h.e
 | 5,_ => exact h.f
 | 6,_ => exact h.g
 | 7,_ => exact h.h
theorem grownBy_set {w W:World} {r o:Nat} (h:w.grownBy W (some r)) (u:Value):w.grownBy (W.setCell ⟨r,o,none⟩ u) (some r):=
 ⟨h.os,h.tape,h.output,by simp [World.setCell]; exact h.size,fun k hk hr => (Below.heap_setCell _ _ _ _ (fun e => hr (by rw [e]))).trans (h.block k hk hr)⟩
theorem grownBy_of_below {w W:World} {B:Nat} {r:Option Nat} (hb:Below B w W) (hB:w.heap.size ≤ B):w.grownBy W r:=
 ⟨hb.os,hb.tape,hb.output,hb.size,fun k hk _ => hb.block k (Nat.lt_of_lt_of_le hk hB)⟩
structure EndI (w:World) (sb vb:Nat) (s V:St) (i:Nat) (W:World):Prop where
 gr:w.grownBy W (some sb)
 vs:W.heap[vb]? = some (.cells (stA V) 221 (0,0))
 st:Wds W sb 8 (fun k => if k < i then add32 (s.at k) (V.at k) else s.at k)
theorem EndI.next {w:World} {sb vb:Nat} {s V:St} {i:Nat} {W:World} (h:EndI w sb vb s V i W) (hi:i < 8) (hne:sb ≠ vb):EndI w sb vb s V (i + 1) (W.setCell ⟨sb,i,none⟩ (.int .u32 (add32 (s.at i) (V.at i):Nat))) where
 gr:=grownBy_set h.gr _
 vs:=(Below.heap_setCell _ _ _ _ (fun e => hne e.symm)).trans h.vs
 st:=(h.st.set hi).congr fun k _ => by
  unfold upd
  by_cases e:k = i
  ·subst e; rw [if_pos rfl,if_pos (by omega)]
  ·rw [if_neg e]
   show (if k < i then add32 (s.at k) (V.at k) else s.at k) = if k < i + 1 then add32 (s.at k) (V.at k) else s.at k
   by_cases e2:k < i
   ·rw [if_pos e2,if_pos (by omega)]
   ·rw [if_neg e2,if_neg (by omega)]
theorem EndI.drew {w:World} {sb vb:Nat} {s V:St} {i:Nat} {W:World} (h:EndI w sb vb s V i W):EndI w sb vb s V i W.drew:=
 ⟨⟨h.gr.os,h.gr.tape,h.gr.output,h.gr.size,h.gr.block⟩,h.vs,⟨h.st.cell,h.st.free⟩⟩
theorem add32_mod (a b:Nat):((a:Int) + (b:Int)) % 4294967296 = ((add32 a b:Nat):Int):=by rw [← add32_wrap,IntKind.wrap_u32']
theorem rnd_step {w wr w4:World} {vb r k m p q:Nat} {s σ:St} {f:Nat → Nat} (hbe:Below w.heap.size w wr) (hwd:Wds wr w.heap.size 64 (schd f)) (hv:w.heap.size < vb) (hB4:Below vb wr w4)
  (HR:w4.heap[vb]? = some (.cells #[.int .u32 σ.a,.int .u32 σ.a,.int .u32 σ.b,.int .u32 σ.c,.int .u32 σ.d,.int .u32 σ.e,.int .u32 σ.f,.int .u32 σ.g] 221 (0,0)))
  (hn:s.rounds f (r + 1) = σ.next k m) (hp:t1 σ k m = p) (hq:t2 σ = q) :
  RndI w vb s f (r + 1) ((w4.setCell ⟨vb,4,none⟩ (.int .u32 (((σ.d:Int) + (p:Int)) % 4294967296))).setCell ⟨vb,0,none⟩ (.int .u32 (((p:Int) + (q:Int)) % 4294967296))) where
 be:=((hbe.trans (hB4.mono (Nat.le_of_lt hv))).setCell (Nat.le_of_lt hv) _).setCell (Nat.le_of_lt hv) _
 sc:=((hwd.below hB4 hv).set_other (by omega) _).set_other (by omega) _
 vs:=by
  refine (row_set (row_set HR 4 _) 0 _).trans ?_
  rw [add32_mod,add32_mod,hn,← hp,← hq]; rfl
 hv:=hv
theorem absorb_any (sb bb boff n cap:Nat) (s:St) (f:Nat → Nat) (hf:∀ k,f k < 256) (hs:s.Ok) (w:World) (hn:64 ≤ n) (hcap:n ≤ cap)
  (hS:∀ i,i < 8 → w.cell? ⟨sb,i,none⟩ = some (.int .u32 (s.at i:Nat)))
  (hF:∀ i,i < 8 → w.frozen? ⟨sb,i,none⟩ = false)
  (hB:∀ k,k < 64 → w.cell? ⟨bb,boff + k,none⟩ = some (.int .u8 (f k)))
  (hK:∀ k,k < 64 → w.cell? ⟨1,k,none⟩ = some (.int .u32 (kAt k))) :
  Calls Tryz.prog 217 #[.pointer (some ⟨sb,0,none⟩),.slice (some ⟨bb,boff,none⟩) n cap] w fun e w' => e = .returned (.tuple #[]) ∧ w.grownBy w' (some sb) ∧ Wds w' sb 8 (s.absorb f).at:=by
 go_enter Tryz.func217,Tryz.ntmps217
 go_wp2_with fail
 go_loopw [14] (fun i W => ∃ t:Nat,t ≤ 16 ∧ i = .int .i64 t ∧ SchI w f t W) (fun i _ => 16 - (intOf i).toNat)
 case atStart => exact ⟨0,Nat.zero_le _,rfl,⟨(Below.refl _ _).alloc (Nat.le_refl _) _,(rep_wds w 64 _).congr (fun k _ => by unfold sch0; rw [if_neg (Nat.not_lt_zero k)])⟩⟩
 case round =>
  obtain ⟨t,ht,rfl,hI⟩:=hrel
  by_cases hlt:t < 16
  ·have hb2:=hI.be
   have hfr:=hI.wd.free t (by omega)
   have hcl:=hI.wd.cell t (by omega)
   have e1:((4:Int) * (t:Int)).toNat = 4 * t:=by omega
   have e2:(4:Int) * (t:Int) ≤ n:=by omega
   have hlt2:decide ((t:Int) < 16) = true:=decide_eq_true (by omega)
   have HW:=Lib.hid (show schd f t = wd (f (4 * t + 0)) (f (4 * t + 1)) (f (4 * t + 2)) (f (4 * t + 3)) from schd_small f hlt)
   go_wp2_with fail
   with_reducible refine (word_any _ bb (boff + 4 * t) _ _ rfl (by omega) (by omega) (fun k => f (4 * t + k)) (fun _ => hf _) _ (fun k hk => ?_)).mono ?_
   ·rw [Nat.add_assoc,hb2.cell (p:=⟨bb,boff + (4 * t + k),none⟩) (lt_of_cell (hB (4 * t + k) (by omega)))]
    exact hB (4 * t + k) (by omega)
   rintro e w1 ⟨rfl,rfl⟩
   rw [← HW.out]
   go_wp2_with fail
   go_roundw
   case rel => exact ⟨t + 1,by omega,by go_num,hI.next (by omega)⟩
   case measure => simp [intOf]; omega
  ·have hI:SchI w f 16 wr:=by rwa [show t = 16 by omega] at hI
   have hdt:decide ((t:Int) < 16) = false:=decide_eq_false (by omega)
   clear hlt ht
   go_wp2_with fail
   go_loopw [6] (fun i W => ∃ t:Nat,16 ≤ t ∧ t ≤ 64 ∧ i = .int .i64 t ∧ SchI w f t W) (fun i _ => 64 - (intOf i).toNat)
   case atStart => exact ⟨16,by omega,by omega,rfl,hI⟩
   case round =>
    obtain ⟨t,ht1,ht2,rfl,hI⟩:=hrel
    by_cases hlt:t < 64
    ·have hI2:=hI.drew
     have hI3:=hI2.drew
     have hx:wr.cell? ⟨w.heap.size,t - 15,none⟩ = some (.int .u32 (schd f (t - 15):Nat)):=by
      have:=hI.wd.cell (t - 15) (by omega); unfold sch0 at this; rwa [if_pos (by omega)] at this
     have hy:wr.cell? ⟨w.heap.size,t - 2,none⟩ = some (.int .u32 (schd f (t - 2):Nat)):=by
      have:=hI.wd.cell (t - 2) (by omega); unfold sch0 at this; rwa [if_pos (by omega)] at this
     have hz:wr.cell? ⟨w.heap.size,t - 16,none⟩ = some (.int .u32 (schd f (t - 16):Nat)):=by
      have:=hI.wd.cell (t - 16) (by omega); unfold sch0 at this; rwa [if_pos (by omega)] at this
     have hu:wr.cell? ⟨w.heap.size,t - 7,none⟩ = some (.int .u32 (schd f (t - 7):Nat)):=by
      have:=hI.wd.cell (t - 7) (by omega); unfold sch0 at this; rwa [if_pos (by omega)] at this
     have HW:=Lib.hid (schd_great f ht1)
     have lx:=schd_lt hf (t - 15)
     have ly:=schd_lt hf (t - 2)
     have lz:=schd_lt hf (t - 16)
     have lu:=schd_lt hf (t - 7)
     generalize schd f (t - 15) = x at *
     generalize schd f (t - 2) = y at *
     generalize schd f (t - 16) = z at *
     generalize schd f (t - 7) = u at *
     have e15:((t:Int) - 15).toNat = t - 15:=by omega
     have e2:((t:Int) - 2).toNat = t - 2:=by omega
     have e16:((t:Int) - 16).toNat = t - 16:=by omega
     have e7:((t:Int) - 7).toNat = t - 7:=by omega
     have b15:0 ≤ (t:Int) - 15:=by omega
     have b2:0 ≤ (t:Int) - 2:=by omega
     have b16:0 ≤ (t:Int) - 16:=by omega
     have b7:0 ≤ (t:Int) - 7:=by omega
     have d15:(t:Int) - 15 < 64:=by omega
     have d2:(t:Int) - 2 < 64:=by omega
     have d16:(t:Int) - 16 < 64:=by omega
     have d7:(t:Int) - 7 < 64:=by omega
     have dt:(t:Int) < 64:=by omega
     have hxd:wr.drew.cell? ⟨w.heap.size,t - 15,none⟩ = some (.int .u32 x):=hx
     have hyd:wr.drew.cell? ⟨w.heap.size,t - 2,none⟩ = some (.int .u32 y):=hy
     have c15:15 ≤ (t:Int):=by omega
     have c2:2 ≤ (t:Int):=by omega
     have c16:16 ≤ (t:Int):=by omega
     have c7:7 ≤ (t:Int):=by omega
     have w15:=IntWalk.i64_in ((t:Int) - 15) (by omega)
     have w2:=IntWalk.i64_in ((t:Int) - 2) (by omega)
     have w16:=IntWalk.i64_in ((t:Int) - 16) (by omega)
     have w7:=IntWalk.i64_in ((t:Int) - 7) (by omega)
     go_wp2_with fail
     go_region_held3 (fun w' => w'.cell? ⟨w.heap.size,t - 15,none⟩ = some (.int .u32 x) ∧ w'.cell? ⟨w.heap.size,t - 2,none⟩ = some (.int .u32 y)) (go_keep) (fail)
     rename_i hHeld
     clear hHeld hxd hyd w15 w2
     have htc:=hI.wd.cell t hlt
     have htf:=hI.wd.free t hlt
     have htcd:wr.drew.drew.cell? ⟨w.heap.size,t,none⟩ = some (.int .u32 (sch0 f t t:Nat)):=htc
     have htfd:wr.drew.drew.frozen? ⟨w.heap.size,t,none⟩ = false:=htf
     have hs1:∀ v,(wr.setCell ⟨w.heap.size,t,none⟩ v).cell? ⟨w.heap.size,t - 16,none⟩ = some (.int .u32 z):=fun v => by rw [cell_other (.inr (by omega))]; exact hz
     have hs2:∀ v,(wr.setCell ⟨w.heap.size,t,none⟩ v).cell? ⟨w.heap.size,t - 7,none⟩ = some (.int .u32 u):=fun v => by rw [cell_other (.inr (by omega))]; exact hu
     have hzd:wr.drew.drew.cell? ⟨w.heap.size,t - 16,none⟩ = some (.int .u32 z):=hz
     have hud:wr.drew.drew.cell? ⟨w.heap.size,t - 7,none⟩ = some (.int .u32 u):=hu
     go_wp2_with fail
     go_region_held3 (fun w' => w'.cell? ⟨w.heap.size,t - 16,none⟩ = some (.int .u32 z) ∧ w'.cell? ⟨w.heap.size,t - 7,none⟩ = some (.int .u32 u)) (first | go_keep | exact ⟨hs1 _,hs2 _⟩)
      (first
       | (go_at_call 237; with_reducible refine (rot_any x 7 (-7) rfl _ lx (by decide)).mono ?_; rintro e w6 ⟨rfl,rfl⟩)
       | (go_at_call 237; with_reducible refine (rot_any x 18 (-18) rfl _ lx (by decide)).mono ?_; rintro e w6 ⟨rfl,rfl⟩)
       | (go_at_call 237; with_reducible refine (rot_any y 17 (-17) rfl _ ly (by decide)).mono ?_; rintro e w6 ⟨rfl,rfl⟩)
       | (go_at_call 237; with_reducible refine (rot_any y 19 (-19) rfl _ ly (by decide)).mono ?_; rintro e w6 ⟨rfl,rfl⟩))
     have HV:=Lib.hid ((sch_val2 x y z u lx ly).trans (congrArg Nat.cast HW.out.symm))
     go_wp2_with fail
     go_roundw
     case rel => exact ⟨t + 1,by omega,by omega,by go_num,by rw [HV.out]; exact (hI.next hlt).drew.drew⟩
     case measure => simp [intOf]; omega
    ·have hI:SchI w f 64 wr:=by rwa [show t = 64 by omega] at hI
     have hdt:decide ((t:Int) < 64) = false:=decide_eq_false (by omega)
     clear hlt ht1 ht2
     obtain ⟨hbe,hwd⟩:=hI
     have hsb:=lt_of_cell (hS 0 (by omega))
     have s0:=below_cell hbe (hS 0 (by omega))
     have s1:=below_cell hbe (hS 1 (by omega))
     have s2:=below_cell hbe (hS 2 (by omega))
     have s3:=below_cell hbe (hS 3 (by omega))
     have s4:=below_cell hbe (hS 4 (by omega))
     have s5:=below_cell hbe (hS 5 (by omega))
     have s6:=below_cell hbe (hS 6 (by omega))
     have s7:=below_cell hbe (hS 7 (by omega))
     simp only [St.at] at s0 s1 s2 s3 s4 s5 s6 s7
     have hwz:w.heap.size < wr.heap.size:=lt_of_cell (hwd.cell 0 (by omega))
     go_wp2_with fail
     have hnew:∃ W,W = wr.alloc (.cells (stA s) 221) ∧ Below w.heap.size w W ∧ Wds W w.heap.size 64 (schd f) ∧ W.heap[wr.heap.size]? = some (.cells (stA s) 221 (0,0)):=
      ⟨_,rfl,hbe.alloc (Nat.le_of_lt hwz) _,(hwd.congr (fun k hk => by unfold sch0; rw [if_pos hk])).alloc hwz _,World.alloc_heap_new _ _⟩
     obtain ⟨W3,hW3,g1,g2,g3⟩:=hnew
     simp only [stA] at hW3
     rw [← hW3]
     generalize wr.heap.size = vb at *
     clear hW3 s0 s1 s2 s3 s4 s5 s6 s7 hbe hwd
     go_loopw [69] (fun i W => ∃ t:Nat,t ≤ 64 ∧ i = .int .i64 t ∧ RndI w vb s f t W) (fun i _ => 64 - (intOf i).toNat)
     case atStart => exact ⟨0,by omega,rfl,⟨g1,g2,g3,hwz⟩⟩
     case round =>
      clear g1 g2 g3
      obtain ⟨r,hr,rfl,hI⟩:=hrel
      by_cases hlt:r < 64
      ·obtain ⟨hbe,hwd,hvs,hv⟩:=hI
       have HN:=Lib.hid (show s.rounds f (r + 1) = (s.rounds f r).next (kAt r) (schd f r) from rfl)
       have hok:=hs.rounds f r
       have hkc:=below_cell hbe (hK r hlt)
       have hwc:=hwd.cell r hlt
       have lk:=kAt_lt r
       have lw:=schd_lt hf r
       obtain ⟨σ,hσ⟩:∃ σ,s.rounds f r = σ:=⟨_,rfl⟩
       rw [hσ] at hvs hok HN
       have HSG:=Lib.hid hσ
       clear hσ
       generalize kAt r = kr at *
       generalize schd f r = sr at *
       have HP:=Lib.hid (t1_val σ hok kr sr)
       have HQ:=Lib.hid (t2_val σ hok)
       have p9:t1 σ kr sr < 4294967296:=add32_lt _ _
       have q9:t2 σ < 4294967296:=add32_lt _ _
       have hok2:=Lib.hid hok
       obtain ⟨la,lb,lc,ld,le,lf,lg,lh⟩:=hok
       have v0:wr.cell? ⟨vb,0,none⟩ = some (.int .u32 σ.a):=row_cell hvs rfl
       have v1:wr.cell? ⟨vb,1,none⟩ = some (.int .u32 σ.b):=row_cell hvs rfl
       have v2:wr.cell? ⟨vb,2,none⟩ = some (.int .u32 σ.c):=row_cell hvs rfl
       have v3:wr.cell? ⟨vb,3,none⟩ = some (.int .u32 σ.d):=row_cell hvs rfl
       have v4:wr.cell? ⟨vb,4,none⟩ = some (.int .u32 σ.e):=row_cell hvs rfl
       have v5:wr.cell? ⟨vb,5,none⟩ = some (.int .u32 σ.f):=row_cell hvs rfl
       have v6:wr.cell? ⟨vb,6,none⟩ = some (.int .u32 σ.g):=row_cell hvs rfl
       have v7:wr.cell? ⟨vb,7,none⟩ = some (.int .u32 σ.h):=row_cell hvs rfl
       have r0:0 ≤ (r:Int):=by omega
       have r1:(r:Int) < 64:=by omega
       go_wp2_with fail
       go_region_held3 (fun w' => w'.cell? ⟨vb,4,none⟩ = some (.int .u32 σ.e) ∧ w'.cell? ⟨vb,5,none⟩ = some (.int .u32 σ.f) ∧ w'.cell? ⟨vb,6,none⟩ = some (.int .u32 σ.g) ∧ w'.cell? ⟨vb,7,none⟩ = some (.int .u32 σ.h) ∧ w'.cell? ⟨1,r,none⟩ = some (.int .u32 kr) ∧ w'.cell? ⟨w.heap.size,r,none⟩ = some (.int .u32 sr)) (first | go_keep | exact ⟨v4,v5,v6,v7,hkc,hwc⟩)
        (first
         | (go_at_call 238; with_reducible refine (rotated_any σ.e 6 11 25 6 11 25 rfl rfl rfl _ le (by decide)).mono ?_; rintro e w6 ⟨rfl,rfl⟩))
       rw [HP.out]
       clear HP
       generalize hp:t1 σ kr sr = p at *
       rename_i hHeld
       clear hHeld hkc hwc
       have HPS:=Lib.hid hp
       clear hp
       go_wp2_with fail
       go_region_held3 (fun w' => w'.cell? ⟨vb,0,none⟩ = some (.int .u32 σ.a) ∧ w'.cell? ⟨vb,1,none⟩ = some (.int .u32 σ.b) ∧ w'.cell? ⟨vb,2,none⟩ = some (.int .u32 σ.c)) (first | go_keep | exact ⟨v0,v1,v2⟩)
        (first
         | (go_at_call 238; with_reducible refine (rotated_any σ.a 2 13 22 2 13 22 rfl rfl rfl _ la (by decide)).mono ?_; rintro e w6 ⟨rfl,rfl⟩))
       rw [HQ.out]
       clear HQ
       generalize hq:t2 σ = q at *
       rename_i hHeld
       clear hHeld v0 v1 v2 v3 v4 v5 v6 v7
       have HQS:=Lib.hid hq
       clear hq
       have hsrc:∀ (j:Nat) v,(stL7 σ)[j]? = some v → wr.drew.drew.drew.cell? ((⟨vb,0,none⟩:Addr).add j) = some v:=fun j v hj => by
        rw [add_row]
        exact row_cell (W:=wr) hvs (stL7_at hj)
       have hvs2:wr.drew.drew.drew.heap[vb]? = some (.cells (stA σ).toList.toArray 221 (0,0)):=hvs
       have hbd:Below vb wr wr.drew.drew.drew:=(Below.refl _ _).drew.drew.drew
       go_wp2_with fail
       go_region_law (refine step_copy_splice rfl (.tmp 116) (.tmp 117) 242 242 rfl 42 (by kernel_rfl) (by kernel_rfl) _ _ _ _ _ _ rfl rfl vb 1 (stA σ).toList 221 hvs2 (stL7 σ) rfl (fun _ => ⟨rfl,_,rfl,hsrc⟩) (Nat.le_refl 8) (stL7_one σ) vb wr hbd (Nat.le_refl _) ?_; intro w4 HG hB4)
       have HR:=row_copied HG.out
       have hbv:=hB4
       clear HG hsrc hvs2 hbd hvs
       have x4:w4.cell? ⟨vb,4,none⟩ = some (.int .u32 σ.d):=row_cell HR rfl
       have x0:w4.cell? ⟨vb,0,none⟩ = some (.int .u32 σ.a):=row_cell HR rfl
       have z4:=row_free HR 4
       have z0:=row_free HR 0
       have HR:=Lib.hid HR
       clear hok2
       go_wp2_with fail
       go_roundw
       case rel => exact ⟨r + 1,by omega,by go_num,rnd_step hbe hwd hv hB4 HR.out HN.out HPS.out HQS.out⟩
       case measure => simp [intOf]; omega
      ·have hI:RndI w vb s f 64 wr:=by rwa [show r = 64 by omega] at hI
       have hdt:decide ((r:Int) < 64) = false:=decide_eq_false (by omega)
       clear hlt hr
       have hsv:sb ≠ vb:=by omega
       have hE:EndI w sb vb s (s.rounds f 64) 0 wr:=⟨grownBy_of_below hI.be (Nat.le_refl _),hI.vs,⟨fun k hk => by rw [if_neg (Nat.not_lt_zero k)]; exact below_cell hI.be (hS k hk),fun k hk => by rw [hI.be.frozen (p:=⟨sb,k,none⟩) hsb]; exact hF k hk⟩⟩
       have hVo:=hs.rounds f 64
       have HF:=Lib.hid (show s.absorb f = s.plus (s.rounds f 64) from rfl)
       generalize s.rounds f 64 = V at *
       clear hI
       go_wp2_with fail
       go_loopw [129] (fun i W => ∃ k:Nat,k ≤ 8 ∧ i = .int .i64 k ∧ EndI w sb vb s V k W) (fun i _ => 8 - (intOf i).toNat)
       case atStart => exact ⟨0,by omega,rfl,hE⟩
       case round =>
        clear hE
        obtain ⟨k,hk,rfl,hE⟩:=hrel
        by_cases hlt:k < 8
        ·have cs:=hE.st.cell k hlt
         have cf:=hE.st.free k hlt
         simp only [if_neg (Nat.lt_irrefl k)] at cs
         have cv:=row_cell hE.vs (stA_at V hlt)
         have hx:=at_lt hs hlt
         have hy:=at_lt hVo hlt
         have HA:=Lib.hid (add32_mod (s.at k) (V.at k))
         have HA2:=Lib.hid (add32_wrap (s.at k) (V.at k))
         have hnx:=Lib.hid (hE.next hlt hsv)
         generalize s.at k = x at *
         generalize V.at k = y at *
         have k0:0 ≤ (k:Int):=by omega
         have k1:(k:Int) < 8:=by omega
         clear hF hS hB hK
         go_wp2_with fail
         go_region_with (fail)
         all_goals
          go_wp2_with fail
          go_roundw
          case rel => exact ⟨k + 1,by omega,by go_num,by (first | rw [HA.out] | rw [HA2.out]); exact hnx.out.drew⟩
          case measure => simp [intOf]; omega
        ·have hE:EndI w sb vb s V 8 wr:=by rwa [show k = 8 by omega] at hE
         have hdt:decide ((k:Int) < 8) = false:=decide_eq_false (by omega)
         clear hlt hk
         go_wp2_with fail
         go_end0
         exact ⟨rfl,hE.gr,hE.st.congr fun i hi => by rw [if_pos hi,HF.out,plus_at s V hi]⟩
end Go.Proofs.YtggnipkfliompaaGreatDoor
namespace Go.Proofs.YtggnipkfliompaaGreatDoor
theorem be8_at (n:Nat) {j:Nat} (h:j < 8):(be8 n)[j]? = some (n / 2 ^ (8 * (7 - j)) % 256):=by
 match j,h with
 | 0,_ | 1,_ | 2,_ | 3,_ | 4,_ | 5,_ | 6,_ => rfl
 | 7,_ => show some (n % 256) = some (n / 2 ^ (8 * (7 - 7)) % 256); simp
theorem be4_at (n:Nat) {j:Nat} (h:j < 4):(be4 n)[j]? = some (n / 2 ^ (8 * (3 - j)) % 256):=by
 match j,h with
 | 0,_ | 1,_ | 2,_ => rfl
 | 3,_ => show some (n % 256) = some (n / 2 ^ (8 * (3 - 3)) % 256); simp
def tailL (n:Nat):Nat:=if n % 64 > 55 then 128 else 64
theorem padded_len2 (b:List Nat):(padded b).length = 64 * (b.length / 64) + tailL b.length:=by
 unfold padded zeros be8 padN tailL
 rw [List.length_append,List.length_cons,List.length_append,List.length_replicate]
 simp only [List.length_cons,List.length_nil]
 split <;> omega
theorem padded_blocks (b:List Nat):(padded b).length / 64 = b.length / 64 + tailL b.length / 64:=by
 rw [padded_len2]; unfold tailL; split <;> omega
theorem pad_low (b:List Nat) {i:Nat} (h:i < b.length):(padded b).getD i 0 = b[i]:=by
 unfold padded
 rw [List.getD_eq_getElem?_getD,List.getElem?_append_left h,List.getElem?_eq_getElem h]; rfl
theorem pad_mark (b:List Nat):(padded b).getD b.length 0 = 128:=by
 unfold padded
 rw [List.getD_eq_getElem?_getD,List.getElem?_append_right (Nat.le_refl _),Nat.sub_self]; rfl
theorem pad_zero (b:List Nat) {i:Nat} (h:b.length < i) (h2:i < b.length + 1 + padN b.length):(padded b).getD i 0 = 0:=by
 unfold padded
 rw [List.getD_eq_getElem?_getD,List.getElem?_append_right (by omega)]
 obtain ⟨j,hj⟩:∃ j,i - b.length = j + 1:=⟨i - b.length - 1,by omega⟩
 rw [hj,List.getElem?_cons_succ,List.getElem?_append_left (by unfold zeros; rw [List.length_replicate]; omega)]
 unfold zeros
 rw [List.getElem?_replicate]
 split <;> rfl
theorem pad_size (b:List Nat) {j:Nat} (h:j < 8):(padded b).getD (b.length + 1 + padN b.length + j) 0 = b.length * 8 / 2 ^ (8 * (7 - j)) % 256:=by
 unfold padded
 rw [List.getD_eq_getElem?_getD,List.getElem?_append_right (by omega)]
 have e:b.length + 1 + padN b.length + j - b.length = (padN b.length + j) + 1:=by omega
 rw [e,List.getElem?_cons_succ,List.getElem?_append_right (by unfold zeros; rw [List.length_replicate]; omega)]
 unfold zeros
 rw [List.length_replicate,Nat.add_sub_cancel_left,be8_at _ h]; rfl
theorem tail_end (b:List Nat):b.length + 1 + padN b.length + 8 = 64 * (b.length / 64) + tailL b.length:=by
 unfold padN tailL; split <;> omega
theorem tail_at (b:List Nat) {k:Nat} (hk:k < tailL b.length) :
  (padded b).getD (64 * (b.length / 64) + k) 0 =
   if h:k < b.length % 64 then b[64 * (b.length / 64) + k]'(by omega) else if k = b.length % 64 then 128 else if k < tailL b.length - 8 then 0
   else b.length * 8 / 2 ^ (8 * (8 - 1 - (k - (tailL b.length - 8)))) % 256:=by
 have he:=tail_end b
 have hl:64 ≤ tailL b.length:=by unfold tailL; split <;> omega
 by_cases h1:k < b.length % 64
 ·rw [dif_pos h1]; exact pad_low b _
 ·rw [dif_neg h1]
  by_cases h2:k = b.length % 64
  ·rw [if_pos h2]
   have:64 * (b.length / 64) + k = b.length:=by omega
   rw [this]; exact pad_mark b
  ·rw [if_neg h2]
   by_cases h3:k < tailL b.length - 8
   ·rw [if_pos h3]; exact pad_zero b (by omega) (by omega)
   ·rw [if_neg h3]
    have e:64 * (b.length / 64) + k = b.length + 1 + padN b.length + (k - (tailL b.length - 8)):=by omega
    rw [e,pad_size b (by omega)]
theorem blk_low (b:List Nat) (hb:∀ x ∈ b,x < 256) {i k:Nat} (h:64 * i + k < b.length):blk (padded b) i k = b[64 * i + k]:=by
 unfold blk
 rw [pad_low b h,Nat.mod_eq_of_lt (hb _ (List.getElem_mem h))]
theorem blk_lt (p:List Nat) (i k:Nat):blk p i k < 256:=Nat.mod_lt _ (by decide)
theorem bytes_at (s:St) {i j:Nat} (hi:i < 8) (hj:j < 4):s.bytes[4 * i + j]? = some (s.at i / 2 ^ (8 * (4 - 1 - j)) % 256):=by
 rw [show 4 - 1 - j = 3 - j by omega]
 have e:=be4_at (s.at i) hj
 rw [← e]
 match i,hi,j,hj with
 | 0,_,0,_ | 0,_,1,_ | 0,_,2,_ | 0,_,3,_ => rfl
 | 1,_,0,_ | 1,_,1,_ | 1,_,2,_ | 1,_,3,_ => rfl
 | 2,_,0,_ | 2,_,1,_ | 2,_,2,_ | 2,_,3,_ => rfl
 | 3,_,0,_ | 3,_,1,_ | 3,_,2,_ | 3,_,3,_ => rfl
 | 4,_,0,_ | 4,_,1,_ | 4,_,2,_ | 4,_,3,_ => rfl
 | 5,_,0,_ | 5,_,1,_ | 5,_,2,_ | 5,_,3,_ => rfl
 | 6,_,0,_ | 6,_,1,_ | 6,_,2,_ | 6,_,3,_ => rfl
 | 7,_,0,_ | 7,_,1,_ | 7,_,2,_ | 7,_,3,_ => rfl
end Go.Proofs.YtggnipkfliompaaGreatDoor
