/- The reference of digest: Sum. The reference of digest: Tagged. The reference of group: Hash. -/
import Derived.Test.YtggnipkfliompaaGreatDoorMRefH
import Derived.Test.YtggnipkfliompaaGreatDoorMPow
set_option maxHeartbeats 16000000
set_option maxRecDepth 100000
namespace Go.Proofs.YtggnipkfliompaaGreatDoor
open Go.RowKit
theorem put8_below {n0 B:Nat} {w0 W:World} (hb:Below n0 w0 W) (hB:n0 ≤ B) (a b c d e f g h:Value):Below n0 w0 ((((((((W.setCell ⟨B,0,none⟩ a).setCell ⟨B,1,none⟩ b).setCell ⟨B,2,none⟩ c).setCell ⟨B,3,none⟩ d).setCell ⟨B,4,none⟩ e).setCell ⟨B,5,none⟩ f).setCell ⟨B,6,none⟩ g).setCell ⟨B,7,none⟩ h):=
 (((((((hb.setCell hB _).setCell hB _).setCell hB _).setCell hB _).setCell hB _).setCell hB _).setCell hB _).setCell hB _
theorem put8_other {B K:Nat} {W:World} (hk:K ≠ B) (a b c d e f g h:Value):((((((((W.setCell ⟨B,0,none⟩ a).setCell ⟨B,1,none⟩ b).setCell ⟨B,2,none⟩ c).setCell ⟨B,3,none⟩ d).setCell ⟨B,4,none⟩ e).setCell ⟨B,5,none⟩ f).setCell ⟨B,6,none⟩ g).setCell ⟨B,7,none⟩ h).heap[K]? = W.heap[K]?:=by
 rw [Below.heap_setCell _ _ _ _ hk,Below.heap_setCell _ _ _ _ hk,Below.heap_setCell _ _ _ _ hk,Below.heap_setCell _ _ _ _ hk,Below.heap_setCell _ _ _ _ hk,Below.heap_setCell _ _ _ _ hk,Below.heap_setCell _ _ _ _ hk,Below.heap_setCell _ _ _ _ hk]
theorem run_slice64 (b o n c m:Nat) (hk:m + 64 ≤ n) (hc:n ≤ c) (w:World):(Instr.slice 117 (.slice (some ⟨b,o,none⟩) n c) (some (.int .i64 (m:Int))) (some (.int .i64 ((m:Int) + 64))) none).run Tryz.prog w = .ok (.slice (some ⟨b,o + m,none⟩) 64 (c - m)) w:=by
 have hu:Tryz.prog.underlying 117 = some (.slice (Tryz.prog.elem 117)):=Tryz.underlying117
 have hs:(sizeOf (Tryz.prog.elem 117)).run Tryz.prog w = .ok 1 w:=by rfl
 rw [run_slice_lh _ _ _ _ _ hu .i64 .i64 (m:Int) ((m:Int) + 64) (by omega) (by omega) (by omega),hs]
 have h1:((m:Int) + 64).toNat = m + 64:=by omega
 have h2:((m:Int)).toNat = m:=by omega
 simp only [Result.andThen,h1,h2]
 unfold sliced
 rw [if_neg (by omega:¬ c = m),Nat.mul_one,Option.map_some,add_off,Nat.add_sub_cancel_left]
theorem z32_rep:z32 = Array.replicate 32 (.int .u8 0):=rfl
theorem z32_one:z32.all (·.oneCell') = true:=by
 rw [z32_rep,Array.all_replicate]; rfl
theorem infoZ32:(Tryz.prog.info? 167).map (·.size) = some z32.size:=infoDg
structure FSm6 (w0:World) (st8:Nat) (g:Nat) (off:Nat) (L:Nat) (cap:Nat) (m:Nat) (ua:Nat) (ub:Nat) (uc:Nat) (ud:Nat) (ue:Nat) (uf:Nat) (ug:Nat) (uh:Nat) (va:Nat) (vb:Nat) (vc:Nat) (vd:Nat) (ve:Nat) (vf:Nat) (vg:Nat) (vh:Nat) (done:Nat → Bool) (v:Nat → Value) (w:World):Prop where
 b:Below st8 w0 w
 f0:done 0 = true → v 0 = .agg #[.int .u32 (ua:Int),.int .u32 (ub:Int),.int .u32 (uc:Int),.int .u32 (ud:Int),.int .u32 (ue:Int),.int .u32 (uf:Int),.int .u32 (ug:Int),.int .u32 (uh:Int)]
 f1:done 1 = true → v 1 = .slice (some ⟨g,off,none⟩) L cap
 f2:done 2 = true → v 2 = .int .i64 (m:Int)
 f3:done 3 = true → v 3 = .int .i64 (m:Int)
 f4:done 4 = true → v 4 = .int .i64 ((m:Int) + 64)
 f5:done 5 = true → v 5 = .slice (some ⟨g,off + m,none⟩) 64 (cap - m)
 f6:done 6 = true → v 6 = .agg #[.int .u32 (va:Int),.int .u32 (vb:Int),.int .u32 (vc:Int),.int .u32 (vd:Int),.int .u32 (ve:Int),.int .u32 (vf:Int),.int .u32 (vg:Int),.int .u32 (vh:Int)]
 bx8:w.heap[st8]? = some (.cells (if done 7 = true then #[.int .u32 (va:Int),.int .u32 (vb:Int),.int .u32 (vc:Int),.int .u32 (vd:Int),.int .u32 (ve:Int),.int .u32 (vf:Int),.int .u32 (vg:Int),.int .u32 (vh:Int)] else #[.int .u32 (ua:Int),.int .u32 (ub:Int),.int .u32 (uc:Int),.int .u32 (ud:Int),.int .u32 (ue:Int),.int .u32 (uf:Int),.int .u32 (ug:Int),.int .u32 (uh:Int)]) 220 (0,0))
 bq:done 7 = false → Below w0.heap.size w0 w
 ot:∀ k,k ≠ st8 → k < w0.heap.size → w.heap[k]? = w0.heap[k]?
theorem rsum_any (v:Value) (bs:List Nat) (w:World) (hI:Byts w v bs) (h0:0 < bs.length) (hl:bs.length ≤ 8796093022208) :
  Calls Tryz.prog 214 #[v] w fun e w' => e = .returned (.agg ((sha bs).map byteV).toArray) ∧ Below w.heap.size w w':=by
 obtain ⟨W0,hW0⟩:∃ W,W = w.alloc (.cells z32 167):=⟨_,rfl⟩
 have hs0:W0.heap.size = w.heap.size + 1:=by rw [hW0]; simp
 have hr0:W0.heap[w.heap.size]? = some (.cells z32 167 (0,0)):=by rw [hW0]; exact World.alloc_heap_new _ _
 have hb0:Below w.heap.size w W0:=by rw [hW0]; exact below_new _ _ _
 obtain ⟨W1,hW1⟩:∃ W,W = W0.alloc (.cells #[.int .u32 1779033703,.int .u32 3144134277,.int .u32 1013904242,.int .u32 2773480762,.int .u32 1359893119,.int .u32 2600822924,.int .u32 528734635,.int .u32 1541459225] 220):=⟨_,rfl⟩
 have hs1:W1.heap.size = w.heap.size + 2:=by rw [hW1]; simp [hs0]
 have hb1:Below W0.heap.size W0 W1:=by rw [hW1]; exact below_new _ _ _
 have hr1:W1.heap[w.heap.size + 1]? = some (.cells (stA st0) 220 (0,0)):=by rw [hW1,← hs0]; exact World.alloc_heap_new _ _
 have HB1:=Lib.hid (hb0.trans (hb1.mono hb0.size))
 have Q0:=Lib.hid ((hb1.block _ (row_lt hr0)).trans hr0)
 have Q1:=Lib.hid hr1
 have HI1:=Lib.hid (hI.below HB1.out)
 have HZ1:=Lib.hid hs1
 obtain ⟨av,cv,rfl,-⟩:=id hI
 rw [hW0] at hW1
 simp only [z32] at hW1
 have HW1:=Lib.hid hW1
 clear hI hW0 hs0 hr0 hb0 hW1 hs1 hb1 hr1
 go_enter Tryz.func214,Tryz.ntmps214
 go_wp2_with (rw [← HW1.out])
 with_reducible refine (rpadded_any _ bs _ HI1.out h0 hl).mono ?_
 rintro e w2 ⟨pv,rfl,hp,hfr,hb2⟩
 obtain ⟨P,hP⟩:∃ P,P = padded bs:=⟨_,rfl⟩
 have HPL:Hid (P.length % 64 = 0):=Lib.hid (by rw [hP]; exact padded_len bs)
 have HSH:Hid (sha bs = (st0.blocks P (P.length / 64)).bytes):=Lib.hid (by rw [hP]; rfl)
 have hpos:0 < P.length:=by rw [hP,padded_size]; omega
 rw [← hP] at hp
 clear hP
 obtain ⟨pa,cap,rfl,hpc,hpl,hpall,hpk⟩:=id hp
 obtain ⟨g,off,rfl,qg⟩:=hpk 0 hpos
 have HGE:=Lib.hid (show w.heap.size + 1 < g ∧ g < w2.heap.size from ⟨by have:=hfr g rfl; have:=HZ1.out; omega,by
  unfold World.cell? at qg
  by_cases hb:g < w2.heap.size
  ·exact hb
  ·have e:w2.heap[g]? = none:=Array.getElem?_eq_none (Nat.le_of_not_lt hb)
   simp only [e] at qg
   cases qg⟩)
 have HPK:Hid (∀ j (hj:j < P.length),w2.cell? ⟨g,off + j,none⟩ = some (.int .u8 (P[j]:Nat))):=Lib.hid (fun j hj => by
  obtain ⟨b',o',e',q'⟩:=hpk j hj
  simp only [Option.some.injEq,Addr.mk.injEq,and_true] at e'
  obtain ⟨rfl,rfl⟩:=e'
  exact q')
 have HPA:=Lib.hid hpall
 obtain ⟨L,hL⟩:∃ L,L = P.length:=⟨_,rfl⟩
 rw [← hL] at hpc hpl HPL HSH
 have HL:=Lib.hid hL
 rw [← hL]
 have R0:=Lib.hid ((hb2.block _ (row_lt Q0.out)).trans Q0.out)
 have R1:=Lib.hid ((hb2.block _ (row_lt Q1.out)).trans Q1.out)
 have HB2:=Lib.hid (HB1.out.trans (hb2.mono HB1.out.size))
 have HZ2:=Lib.hid (show w.heap.size + 2 ≤ w2.heap.size by have:=HZ1.out; have:=hb2.size; omega)
 clear hp hfr hb2 hL hpall hpk qg hpos HI1 Q0 Q1 HB1 HW1
 go_wp2_with fail
 go_loopw [5] (fun i W => ∃ k:Nat,64 * k ≤ L ∧ i = .int .i64 ((64 * k:Nat):Int) ∧ Below (w.heap.size + 1) w2 W ∧ W.heap[w.heap.size + 1]? = some (.cells (stA (st0.blocks P k)) 220 (0,0)) ∧ ∀ q,q ≠ w.heap.size + 1 → q < w2.heap.size → W.heap[q]? = w2.heap[q]?) (fun i _ => L - (intOf i).toNat)
 case atStart => exact ⟨0,Nat.zero_le _,rfl,Below.refl _ _,R1.out,fun _ _ _ => rfl⟩
 case round =>
  obtain ⟨k,hkl,rfl,hb,hq,hot⟩:=hrel
  have HBK1:=Lib.hid hb
  have HQ:=Lib.hid hq
  have HOT:=Lib.hid hot
  by_cases hlt:64 * k < L
  ·have hlt2:64 * k + 64 ≤ L:=by have:=HPL.out; omega
   have hgw:wr.heap[g]? = w2.heap[g]?:=hot g (by have:=HGE.out; omega) HGE.out.2
   have HCL:Hid (∀ j,j < 64 → wr.cell? ⟨g,off + 64 * k + j,none⟩ = some (.int .u8 (blk P k j:Nat))):=Lib.hid (fun j hj => by
    have h1:=HPK.out (64 * k + j) (by have:=HL.out; omega)
    rw [World.cell?_of_block (w:=w2) hgw,Nat.add_assoc,h1]
    unfold blk
    rw [List.getD_eq_getElem?_getD,List.getElem?_eq_getElem (by have:=HL.out; omega)]
    rw [Option.getD_some,Nat.mod_eq_of_lt (HPA.out _ (List.getElem_mem _))])
   obtain ⟨⟨ua,ub,uc,ud,ue,uf,ug,uh⟩,hV⟩:∃ V,V = st0.blocks P k:=⟨_,rfl⟩
   obtain ⟨⟨va,vb,vc,vd,ve,vf,vg,vh⟩,hN⟩:∃ V,V = st0.blocks P (k + 1):=⟨_,rfl⟩
   have hok:=st0_ok.blocks P k
   rw [← hV] at hok hq
   have habs:St.absorb ⟨ua,ub,uc,ud,ue,uf,ug,uh⟩ (blk P k) = ⟨va,vb,vc,vd,ve,vf,vg,vh⟩:=by rw [hN,hV]; rfl
   have HLT:=Lib.hid (show w.heap.size + 1 < wr.heap.size from row_lt hq)
   obtain ⟨m,hm⟩:∃ m,m = 64 * k:=⟨_,rfl⟩
   rw [← hm] at hlt hlt2 HCL ⊢
   have HBK:=Lib.hid (fun W (h:Below wr.heap.size wr W) => show Calls Tryz.prog 231 #[.agg #[.int .u32 (ua:Int),.int .u32 (ub:Int),.int .u32 (uc:Int),.int .u32 (ud:Int),.int .u32 (ue:Int),.int .u32 (uf:Int),.int .u32 (ug:Int),.int .u32 (uh:Int)],.slice (some ⟨g,off + m,none⟩) 64 (cap - m)] W (fun e w' => e = .returned (.agg #[.int .u32 (va:Int),.int .u32 (vb:Int),.int .u32 (vc:Int),.int .u32 (vd:Int),.int .u32 (ve:Int),.int .u32 (vf:Int),.int .u32 (vg:Int),.int .u32 (vh:Int)]) ∧ Below W.heap.size W w') from
    (rblock_any ⟨ua,ub,uc,ud,ue,uf,ug,uh⟩ hok g (off + m) 64 (cap - m) (blk P k) (fun j => blk_lt P k j) (Nat.le_refl _) (by omega) W (fun j hj => below_cell h (HCL.out j hj))).mono fun _ _ ⟨e,h2⟩ => ⟨e.trans (by rw [habs]; rfl),h2⟩)
   have HNX:Hid (stA (st0.blocks P (k + 1)) = #[.int .u32 (va:Int),.int .u32 (vb:Int),.int .u32 (vc:Int),.int .u32 (vd:Int),.int .u32 (ve:Int),.int .u32 (vf:Int),.int .u32 (vg:Int),.int .u32 (vh:Int)]):=Lib.hid (by rw [← hN]; rfl)
   have QS:=Lib.hid (show wr.heap[w.heap.size + 1]? = some (.cells #[.int .u32 (ua:Int),.int .u32 (ub:Int),.int .u32 (uc:Int),.int .u32 (ud:Int),.int .u32 (ue:Int),.int .u32 (uf:Int),.int .u32 (ug:Int),.int .u32 (uh:Int)] 220 (0,0)) from hq)
   have hsl:=fun W => run_slice64 g off L cap m hlt2 hpc W
   have d0:decide ((m:Int) < (L:Int)) = true:=decide_eq_true (by omega)
   have d1:decide (m < L) = true:=decide_eq_true hlt
   have HM:=Lib.hid hm
   have w1:IntKind.i64.wrap ((m:Int) + 64) = (m:Int) + 64:=IntWalk.i64_in _ (by omega)
   clear hb hq hot hgw hV hN hok habs hm HCL
   go_wp2_with fail
   refine wp_region_flowsG (by kernel_rfl) (by kernel_rfl) (by kernel_rfl) (by kernel_rfl) (fun done v W => FSm6 wr ((w.heap.size + 1)) (g) (off) (L) (cap) (m) (ua) (ub) (uc) (ud) (ue) (uf) (ug) (uh) (va) (vb) (vc) (vd) (ve) (vf) (vg) (vh) done v W) (fun v => ?_) ?_ (fun v W h => ?_)
   ·exact ⟨(Below.refl _ _).drew,(fun h => by cases h),(fun h => by cases h),(fun h => by cases h),(fun h => by cases h),(fun h => by cases h),(fun h => by cases h),(fun h => by cases h),(by rw [if_neg (by decide)]; exact QS.out),(fun _ => (Below.refl _ _).drew),(fun _ _ _ => rfl)⟩
   ·refine ⟨?_,?_,?_,?_,?_,?_,?_,?_,trivial⟩
    ·intro done v W A h hd hp hu hA hB hdf
     have n7_0:done 7 = false:=flow_not (fun hj => hu 7 0 rfl (hj)) hd
     have e0:A.tmps[3]?.getD undef = .pointer (some ⟨(w.heap.size + 1),0,none⟩):=hB 3 rfl
     have sb_:=h.bx8
     rw [if_neg (by rw [n7_0]; decide)] at sb_
     have y0_:=row_cell sb_ (k:=0) rfl
     have y1_:=row_cell sb_ (k:=1) rfl
     have y2_:=row_cell sb_ (k:=2) rfl
     have y3_:=row_cell sb_ (k:=3) rfl
     have y4_:=row_cell sb_ (k:=4) rfl
     have y5_:=row_cell sb_ (k:=5) rfl
     have y6_:=row_cell sb_ (k:=6) rfl
     have y7_:=row_cell sb_ (k:=7) rfl
     clear hA hB hp hu hdf
     go_simp
     exact ⟨_,rfl,{ h with f0:=(fun _ => rfl) }⟩
    ·intro done v W A h hd hp hu hA hB hdf
     have e0:A.tmps[4]?.getD undef = .slice (some ⟨g,off,none⟩) L cap:=hB 4 rfl
     clear hA hB hp hu hdf
     go_simp
     exact ⟨_,rfl,{ h with f1:=(fun _ => rfl) }⟩
    ·intro done v W A h hd hp hu hA hB hdf
     have e0:A.tmps[5]?.getD undef = .int .i64 (m:Int):=hB 5 rfl
     clear hA hB hp hu hdf
     go_simp
     exact ⟨_,rfl,{ h with f2:=(fun _ => rfl) }⟩
    ·intro done v W A h hd hp hu hA hB hdf
     have e0:A.tmps[5]?.getD undef = .int .i64 (m:Int):=hB 5 rfl
     clear hA hB hp hu hdf
     go_simp
     exact ⟨_,rfl,{ h with f3:=(fun _ => rfl) }⟩
    ·intro done v W A h hd hp hu hA hB hdf
     have hd3:done 3 = true:=hp 3 rfl
     have e0:=(hA 3 20 rfl hd3).trans (h.f3 hd3)
     clear hA hB hp hu hdf
     go_simp
     exact ⟨_,rfl,{ h with f4:=(fun _ => rfl) }⟩
    ·intro done v W A h hd hp hu hA hB hdf
     have hd1:done 1 = true:=hp 1 rfl
     have hd2:done 2 = true:=hp 2 rfl
     have hd4:done 4 = true:=hp 4 rfl
     have e0:=(hA 1 18 rfl hd1).trans (h.f1 hd1)
     have e1:=(hA 2 19 rfl hd2).trans (h.f2 hd2)
     have e2:=(hA 4 21 rfl hd4).trans (h.f4 hd4)
     clear hA hB hp hu hdf
     go_simp
     exact ⟨_,rfl,{ h with f5:=(fun _ => rfl) }⟩
    ·intro done v W A h hd hp hu hA hB hdf
     have n7_6:done 7 = false:=flow_not (fun hj => hu 7 6 rfl (hj)) hd
     have hd0:done 0 = true:=hp 0 rfl
     have hd5:done 5 = true:=hp 5 rfl
     have e0:=(hA 0 17 rfl hd0).trans (h.f0 hd0)
     have e1:=(hA 5 22 rfl hd5).trans (h.f5 hd5)
     clear hA hB hp hu hdf
     go_simp
     with_reducible refine (HBK.out W (h.bq n7_6)).mono ?_
     rintro e wq ⟨rfl,hb⟩
     exact ⟨_,rfl,{ h with b:=h.b.trans (hb.mono (Nat.le_trans (Nat.le_of_lt HLT.out) h.b.size)),f6:=(fun _ => rfl),bx8:=((hb.block _ (row_lt h.bx8)).trans h.bx8),bq:=((fun h1 => (h.bq h1).trans (hb.mono (h.bq h1).size))),ot:=((fun k h1 h2 => (hb.block k (Nat.lt_of_lt_of_le h2 h.b.size)).trans (h.ot k h1 h2))) }⟩
    ·intro done v W A h hd hp hu hA hB hdf
     have hd6:done 6 = true:=hp 6 rfl
     have sb_:=h.bx8
     simp only [hd,Bool.false_eq_true,if_false] at sb_
     have e1:A.tmps[3]?.getD undef = .pointer (some ⟨w.heap.size + 1,0,none⟩):=hB 3 rfl
     have e2:=(hA 6 23 rfl hd6).trans (h.f6 hd6)
     have u0_:=row_cell sb_ (k:=0) rfl
     have u1_:=row_cell sb_ (k:=1) rfl
     have u2_:=row_cell sb_ (k:=2) rfl
     have u3_:=row_cell sb_ (k:=3) rfl
     have u4_:=row_cell sb_ (k:=4) rfl
     have u5_:=row_cell sb_ (k:=5) rfl
     have u6_:=row_cell sb_ (k:=6) rfl
     have u7_:=row_cell sb_ (k:=7) rfl
     have g0_:=row_free sb_ 0
     have g1_:=row_free sb_ 1
     have g2_:=row_free sb_ 2
     have g3_:=row_free sb_ 3
     have g4_:=row_free sb_ 4
     have g5_:=row_free sb_ 5
     have g6_:=row_free sb_ 6
     have g7_:=row_free sb_ 7
     have qn:=(row_set (row_set (row_set (row_set (row_set (row_set (row_set (row_set sb_ 0 (.int .u32 (va:Int))) 1 (.int .u32 (vb:Int))) 2 (.int .u32 (vc:Int))) 3 (.int .u32 (vd:Int))) 4 (.int .u32 (ve:Int))) 5 (.int .u32 (vf:Int))) 6 (.int .u32 (vg:Int))) 7 (.int .u32 (vh:Int)))
     clear hA hB hp hu hdf
     go_simp
     exact ⟨undef,{ h with b:=put8_below h.b (Nat.le_refl _) _ _ _ _ _ _ _ _,bx8:=((by rw [if_pos (by rfl)]; exact qn)),bq:=((fun h1 => by cases h1)),ot:=((fun k h1 h2 => (put8_other h1 _ _ _ _ _ _ _ _).trans (h.ot k h1 h2))) }⟩
   simp only [putL,Act.put,Nat.reduceAdd,List.setIfInBounds_toArray,List.set_cons_zero,List.set_cons_succ]
   have hbr:=h.b
   have hbx:=h.bx8
   rw [if_pos (by rfl),← HNX.out] at hbx
   have HBX:=Lib.hid hbx
   have HBR:=Lib.hid hbr
   have HOO:=Lib.hid h.ot
   clear hbx hbr h hsl
   go_wp2_with fail
   go_roundw
   case rel => exact ⟨k + 1,by have:=HM.out; omega,by have:=HM.out; go_num,HBK1.out.trans HBR.out,HBX.out,fun q h1 h2 => (HOO.out q h1 (Nat.lt_of_lt_of_le h2 HBK1.out.size)).trans (HOT.out q h1 h2)⟩
   case measure => simp [intOf]; omega
  ·have hk64:L / 64 = k:=by have:=HPL.out; omega
   have HSV:Hid (sha bs = (st0.blocks P k).bytes):=Lib.hid (by rw [HSH.out,hk64])
   obtain ⟨V,hV⟩:∃ V,V = st0.blocks P k:=⟨_,rfl⟩
   have HOK:=Lib.hid (show V.Ok by rw [hV]; exact st0_ok.blocks P k)
   rw [← hV] at hq HSV
   have d0:decide (((64 * k:Nat):Int) < (L:Int)) = false:=decide_eq_false (by omega)
   have d1:decide (64 * k < L) = false:=decide_eq_false hlt
   obtain ⟨m,hm⟩:∃ m,m = 64 * k:=⟨_,rfl⟩
   rw [← hm] at d0 d1 ⊢
   obtain ⟨W5,hW5⟩:∃ W,W = wr.alloc (.cells z32 167):=⟨_,rfl⟩
   obtain ⟨W6,hW6⟩:∃ W,W = W5.setCells wr.heap.size 0 z32.toList:=⟨_,rfl⟩
   have hth5:W5.there wr.heap.size 0 32:=by rw [hW5]; exact there_new _ _ _ rfl
   have hb6:Below wr.heap.size wr W6:=by rw [hW6,hW5]; exact below_setCells (Nat.le_refl _) _ _ _ (below_new _ _ _)
   have hc6:∀ q,q < 32 → W6.cell? ⟨wr.heap.size,q,none⟩ = some (.int .u8 ((0:Nat):Int)) ∧ W6.frozen? ⟨wr.heap.size,q,none⟩ = false:=fun q hq => by
    have h:=World.rangeAt_setCells_same W5 wr.heap.size 0 z32.toList hth5 q (.int .u8 0) (by rw [Array.getElem?_toList]; exact z32_at hq)
    rw [Nat.zero_add,← hW6] at h
    refine ⟨h,?_⟩
    rw [hW6,frozen_setCells,hW5]
    exact row_free (World.alloc_heap_new wr (.cells z32 167)) q
   have hlt1:w.heap.size + 1 < wr.heap.size:=row_lt hq
   have QV:=Lib.hid ((hb6.block _ hlt1).trans hq)
   have QR:=Lib.hid ((hb6.block _ (by omega)).trans ((hot _ (by omega) (by have:=HZ2.out; omega)).trans R0.out))
   have HBF:=Lib.hid ((HB2.out.trans ((hb.mono (Nat.le_succ _)))).trans (hb6.mono (by omega)))
   have HLT1:=Lib.hid hlt1
   have HC6:=Lib.hid hc6
   have HTH5:=Lib.hid hth5
   have HW6:=Lib.hid hW6
   simp only [z32] at hW5
   have HW5:=Lib.hid hW5
   obtain ⟨dB,hdB⟩:∃ d,d = wr.heap.size:=⟨_,rfl⟩
   have HDB:=Lib.hid hdB
   have HD6:=Lib.hid (show dB < W6.heap.size by rw [hdB,hW6,setCells_size]; rw [HW5.out]; simp)
   clear hk64 hV hm hW5 hW6 hth5 hb6 hc6 hlt1 hb hq hot hdB hlt
   go_wp2_with (first
    | rw [← HW5.out]
    | (refine wpList_store_mid rfl 167 (.tmp 6) (.tmp 24) rfl wr.heap.size 0 z32 rfl rfl HTH5.out infoZ32 z32_one ?_; rw [← HW6.out]))
   rw [← HDB.out] at HC6 HLT1 ⊢
   clear d0 d1 HW5 HW6 HTH5
   go_loopw [7] (fun i W => ∃ t:Nat,t ≤ 32 ∧ i = .int .i64 (t:Int) ∧ Below dB W6 W ∧ ∀ q,q < 32 → W.cell? ⟨dB,q,none⟩ = some (.int .u8 ((if q < t then dv V q else 0:Nat):Int)) ∧ W.frozen? ⟨dB,q,none⟩ = false) (fun i _ => 32 - (intOf i).toNat)
   case atStart => exact ⟨0,Nat.zero_le _,rfl,Below.refl _ _,fun q hq => by rw [if_neg (Nat.not_lt_zero _)]; exact HC6.out q hq⟩
   case round =>
    obtain ⟨t,ht,rfl,hb,hc⟩:=hrel
    have HBT:=Lib.hid hb
    have HCT:=Lib.hid hc
    by_cases hlt:t < 32
    ·have hqv:=(hb.block _ (show w.heap.size + 1 < dB from HLT1.out)).trans QV.out
     obtain ⟨qd,hqd⟩:∃ q,q = t / 4:=⟨_,rfl⟩
     obtain ⟨rm,hrm⟩:∃ r,r = t % 4:=⟨_,rfl⟩
     obtain ⟨x,hx⟩:∃ x,x = V.at qd:=⟨_,rfl⟩
     have qs:wr.cell? ⟨w.heap.size + 1,qd,none⟩ = some (.int .u32 (x:Int)):=by rw [hx]; exact row_cell hqv (stA_at V (by omega))
     obtain ⟨sh,hsh⟩:∃ r,r = 8 * (4 - 1 - rm):=⟨_,rfl⟩
     obtain ⟨y,hy⟩:∃ y,y = x / 2 ^ sh % 256:=⟨_,rfl⟩
     have HDV:Hid (dv V t = y):=Lib.hid (by
      have e:=dv_at V (k:=qd) (j:=rm) (by omega) (by omega)
      rw [show 4 * qd + rm = t by omega] at e
      rw [e,hy,hsh,hx])
     have t1:(t:Int) / 4 = (qd:Int):=by omega
     have t2:(t:Int).tdiv 4 = (qd:Int):=by rw [Int.tdiv_eq_ediv_of_nonneg (by omega)]; omega
     have t3:(t:Int) % 4 = (rm:Int):=by omega
     have t4:(t:Int).tmod 4 = (rm:Int):=by rw [Int.tmod_eq_emod_of_nonneg (by omega)]; omega
     have t5:(24:Int) - 8 * (rm:Int) = (sh:Int):=by omega
     have t6:IntKind.u8.wrap ((x:Int) / 2 ^ sh) = (y:Int):=by rw [hy,IntKind.wrap_u8',Int.natCast_emod,Int.natCast_ediv,Int.natCast_pow]; rfl
     have s1:sh < 32:=by omega
     have q1:(qd:Int) < 8:=by omega
     have q2:0 ≤ (qd:Int):=by omega
     have j1:(t:Int) < 32:=by omega
     have j0:0 ≤ (t:Int):=by omega
     have d0:decide ((t:Int) < 32) = true:=decide_eq_true j1
     obtain ⟨cd,fd⟩:=hc t hlt
     clear hb hc hqv hqd hrm hx hsh hy
     go_wp2_with fail
     go_roundw
     case rel =>
      refine ⟨t + 1,by omega,by go_num,HBT.out.setCell (Nat.le_refl _) _,fun q hq => ?_⟩
      obtain ⟨c1,c2⟩:=HCT.out q hq
      refine ⟨?_,by rw [World.frozen?_setCell]; exact c2⟩
      by_cases e:q = t
      ·subst e
       rw [if_pos (Nat.lt_succ_self _),HDV.out]
       exact World.cell?_setCell_same' _ _ _ (by rw [c1]; rfl)
      ·rw [cell_other (.inr (fun e2 => e e2.symm)),c1]
       by_cases h3:q < t
       ·rw [if_pos h3,if_pos (by omega)]
       ·rw [if_neg h3,if_neg (by omega)]
     case measure => simp [intOf]; omega
    ·obtain rfl:t = 32:=by omega
     have d0:decide (((32:Nat):Int) < 32) = false:=by decide
     obtain ⟨U,hU⟩:∃ U,U = (sha bs).map byteV:=⟨_,rfl⟩
     have hUl:U.length = 32:=by rw [hU,List.length_map,sha_len]
     have hrg:wr.rangeAt dB 0 U:=fun j v hj => by
      obtain ⟨h1,h2⟩:=List.getElem?_eq_some_iff.1 hj
      rw [hUl] at h1
      rw [Nat.zero_add,(hc j h1).1,if_pos h1,← h2]
      subst hU
      rw [List.getElem_map]
      unfold dv
      rw [List.getD_eq_getElem?_getD,← HSV.out,List.getElem?_eq_getElem (by rw [sha_len]; exact h1)]; rfl
     have hth:wr.there w.heap.size 0 32:=there_row ((hb.block _ (show w.heap.size < dB by have:=HLT1.out; omega)).trans QR.out) (Nat.le_refl 32)
     have HRG:=Lib.hid hrg
     have H1U:=Lib.hid (show U.toArray.all (·.oneCell') = true from all_oneCell_toArray (fun v hv => by rw [hU] at hv; obtain ⟨x,-,rfl⟩:=List.mem_map.1 hv; rfl))
     have HI1:=Lib.hid (infoDg.trans (congrArg some (show 32 = U.toArray.size by simpa using hUl.symm)))
     have HI2:=Lib.hid (infoDg.trans (congrArg some hUl.symm))
     have HTA:=Lib.hid (show wr.there w.heap.size 0 U.toArray.size by rw [show U.toArray.size = 32 by simpa using hUl]; exact hth)
     have HTL:=Lib.hid (show wr.there w.heap.size 0 U.length by rw [hUl]; exact hth)
     have HU:=Lib.hid hU
     have HBX:=Lib.hid (HBF.out.trans (hb.mono (by have:=HLT1.out; omega)))
     clear hU hUl hrg hth hb hc hlt
     go_wp2_with (first
      | (refine wpList_load_mid rfl 167 (.tmp 6) rfl dB 0 rfl U _ HRG.out Tryz.underlying167 rfl HI2.out ?_)
      | (refine wpList_store_mid rfl 167 (.tmp 2) (.tmp 41) rfl w.heap.size 0 U.toArray rfl rfl HTA.out HI1.out H1U.out ?_))
     have hr:=World.rangeAt_setCells_same wr w.heap.size 0 U HTL.out
     have hld:=run_loadVar_mid (P:=Tryz.prog) _ w.heap.size 0 167 U _ hr Tryz.underlying167 rfl HI2.out
     refine bodyPost_ret (v:=.agg U.toArray) ?_ rfl ⟨by rw [HU.out],below_setCells (Nat.le_refl _) _ _ _ HBX.out⟩
     exact results_cell1_of rfl rfl hld
end Go.Proofs.YtggnipkfliompaaGreatDoor
namespace Go.Proofs.YtggnipkfliompaaGreatDoor
open Go.RowKit
theorem rtagged_any (s:ByteArray) (v:Value) (bs:List Nat) (w:World) (hs0:0 < s.size) (hs:s.size ≤ 8796093022208) (hI:Byts w v bs) (h0:0 < bs.length) (hl:bs.length ≤ 4398046511104) :
  Calls Tryz.prog 189 #[.string s,v] w fun e w' => e = .returned (.agg ((shaTag (strB s) bs).map byteV).toArray) ∧ Below w.heap.size w w':=by
 have hcv:=fun w => Lib.run_convert_string_bytes (P:=Tryz.prog) w 9 117 5 s Tryz.underlying9 Tryz.underlying117 Tryz.underlying5
 obtain ⟨av,cv,rfl,-⟩:=id hI
 have HI:=Lib.hid hI
 clear hI
 go_enter Tryz.func189,Tryz.ntmps189
 go_wp2_with fail
 have hA:Below w.heap.size w (w.alloc (.cells z32 167)):=(Below.refl _ _).alloc (Nat.le_refl _) _
 have hB:Below w.heap.size w (Lib.bytesWorld (w.alloc (.cells z32 167)) 5 s):=hA.trans ((conv_below _ s).mono (by simp))
 have hR:(Lib.bytesWorld (w.alloc (.cells z32 167)) 5 s).heap[w.heap.size]? = some (.cells z32 167 (0,0)):=((conv_below _ s).block _ (by simp)).trans (World.alloc_heap_new _ _)
 have hC:=conv_at (w.alloc (.cells z32 167)) (w.heap.size + 1) (by simp) s (by omega)
 refine (rsum_any _ (strB s) _ hC (by rw [strB_len]; exact hs0) (by rw [strB_len]; exact hs)).mono ?_
 rintro e W1 ⟨rfl,hb1⟩
 have hb2:=hB.trans (hb1.mono hB.size)
 have hr2:=(hb1.block _ (row_lt hR)).trans hR
 clear hA hB hR hb1 hcv
 have h32:((sha (strB s)).map byteV).length = 32:=by rw [List.length_map,sha_len]
 have h1L:((sha (strB s)).map byteV).toArray.all (·.oneCell') = true:=all_oneCell_toArray (fun v hv => by obtain ⟨x,-,rfl⟩:=List.mem_map.1 hv; rfl)
 obtain ⟨T,hT⟩:∃ T,(sha (strB s)).map byteV = T:=⟨_,rfl⟩
 rw [hT] at h32 h1L
 rw [hT]
 have HT:=Lib.hid hT
 have H32:=Lib.hid h32
 have H1L:=Lib.hid h1L
 have HI1:=Lib.hid (infoDg.trans (congrArg some (show 32 = T.toArray.size by simpa using h32.symm)))
 have H32A:Hid (T.toArray.size = 32):=Lib.hid (by simpa using h32)
 clear hT h32 h1L
 obtain ⟨W2,hW2,hrg,hb3,hz3⟩:=stored W1 T H32.out
 have hb4:Below w.heap.size w W2:=hb2.trans (hb3.mono hb2.size)
 have hr4:=(hb3.block _ (row_lt hr2)).trans hr2
 have hx2:Byts W2 (.slice (some ⟨W1.heap.size,0,none⟩) 32 32) (sha (strB s)):=range_byts (by rw [HT.out]; exact hrg) (sha_all _) (sha_len _) (by omega)
 obtain ⟨W3,hW3⟩:∃ W,W = W2.alloc (.cells #[] 5):=⟨_,rfl⟩
 have hb5:Below W2.heap.size W2 W3:=by rw [hW3]; exact below_new _ _ _
 have H3:Hid (W3.ownsRow W2.heap.size 5 1 (.slice (some ⟨W2.heap.size,0,none⟩) 0 0) 0 []):=Lib.hid (by rw [hW3]; exact World.ownsRow_made _ #[] 0 (Nat.le_refl _) (by unfold maxLen; omega) rfl)
 have HX3:=Lib.hid (hx2.below hb5)
 have HB5:=Lib.hid (hb4.trans (hb5.mono hb4.size))
 have HY3:=Lib.hid (HI.out.below HB5.out)
 have HS5:=Lib.hid hb5.size
 have HR5:=Lib.hid ((hb5.block _ (row_lt hr4)).trans hr4)
 have HSZ:=Lib.hid (show w.heap.size < W2.heap.size from row_lt hr4)
 simp only [z32] at hW2
 have HW2:=Lib.hid hW2
 have HW3:=Lib.hid hW3
 obtain ⟨hh,hhh⟩:∃ l,l = sha (strB s):=⟨_,rfl⟩
 have HH32:Hid (hh.length = 32):=Lib.hid (by rw [hhh]; exact sha_len _)
 have HHA:Hid (∀ x ∈ hh,x < 256):=Lib.hid (by rw [hhh]; exact sha_all _)
 have HST:Hid (shaTag (strB s) bs = sha (hh ++ bs)):=Lib.hid (by rw [hhh]; rfl)
 rw [← hhh] at HX3
 clear hhh hW2 hrg hb2 hr2 hb3 hz3 hb4 hr4 hx2 hW3 hb5
 have hlb:=HI.out.len.1
 have HBA:Hid (∀ x ∈ bs,x < 256):=Lib.hid (by obtain ⟨_,_,_,_,_,h5,_⟩:=HI.out; exact h5)
 go_wp2_with (first
  | (refine wpList_store_mid rfl 167 (.tmp 5) (.tmp 8) rfl W1.heap.size 0 T.toArray rfl rfl (there_new _ _ _ H32A.out.symm) HI1.out H1L.out ?_; rw [show T.toArray.toList = T from rfl,← HW2.out])
  | rw [← HW3.out]
  | (refine app_bytes rfl _ _ rfl W2.heap.size 0 (.slice (some ⟨W2.heap.size,0,none⟩) 0 0) (.slice (some ⟨W1.heap.size,0,none⟩) 32 32) [] rfl H3.out hh rfl HX3.out (by rw [HH32.out]; omega) (by rw [HH32.out]; omega) HS5.out ?_; intro v4 w4 h4 g4; have hb6:=own_below H3.out g4 HS5.out; have HB6:=Lib.hid hb6; have H4:=Lib.hid (show w4.ownsRow W2.heap.size 5 1 v4 32 (hh.map byteV) by rw [← HH32.out,← Nat.zero_add hh.length]; exact h4); have HS6:=Lib.hid (Nat.le_trans HS5.out hb6.size); have HY4:=Lib.hid (HI.out.below ((HB5.out.trans (hb6.mono (Nat.le_of_lt HSZ.out))))); clear h4 g4 hb6)
  | (refine app_bytes rfl _ _ rfl W2.heap.size 32 v4 (.slice av bs.length cv) (hh.map byteV) rfl H4.out bs rfl HY4.out h0 (by omega) HS6.out ?_; intro v5 w5 h5 g5; have hb7:=own_below H4.out g5 HS6.out; have HB7:=Lib.hid (HB6.out.trans hb7); have H5:=Lib.hid (show w5.ownsRow W2.heap.size 5 1 v5 (32 + bs.length) ((hh ++ bs).map byteV) by rw [List.map_append]; exact h5); clear h5 g5 hb7))
 have hx5:Byts w5 v5 (hh ++ bs):=Byts.own H5.out (fun x hx => (List.mem_append.1 hx).elim (HHA.out x) (HBA.out x)) (by rw [List.length_append,HH32.out]; omega)
 have HB8:=Lib.hid (HB5.out.trans (HB7.out.mono (Nat.le_of_lt HSZ.out)))
 have hr8:=(HB7.out.block _ HSZ.out).trans HR5.out
 refine (rsum_any v5 (hh ++ bs) _ hx5 (by rw [List.length_append,HH32.out]; omega) (by rw [List.length_append,HH32.out]; omega)).mono ?_
 rintro e W5 ⟨rfl,hb9⟩
 have hb10:=HB8.out.trans (hb9.mono HB8.out.size)
 have hr10:=(hb9.block _ (row_lt hr8)).trans hr8
 have hth:=there_row hr10 (n:=32) (Nat.le_refl 32)
 have g32:((sha (hh ++ bs)).map byteV).length = 32:=by rw [List.length_map,sha_len]
 have g1L:((sha (hh ++ bs)).map byteV).toArray.all (·.oneCell') = true:=all_oneCell_toArray (fun v hv => by obtain ⟨x,-,rfl⟩:=List.mem_map.1 hv; rfl)
 have HSH:Hid ((shaTag (strB s) bs).map byteV = (sha (hh ++ bs)).map byteV):=Lib.hid (by rw [HST.out])
 obtain ⟨U,hU⟩:∃ U,(sha (hh ++ bs)).map byteV = U:=⟨_,rfl⟩
 rw [hU] at g32 g1L HSH
 rw [hU]
 have G1L:=Lib.hid g1L
 have GI1:=Lib.hid (infoDg.trans (congrArg some (show 32 = U.toArray.size by simpa using g32.symm)))
 have GI2:=Lib.hid (infoDg.trans (congrArg some g32.symm))
 have GTH:Hid (W5.there w.heap.size 0 U.toArray.size):=Lib.hid (by rw [show U.toArray.size = 32 by simpa using g32]; exact hth)
 have GTH2:Hid (W5.there w.heap.size 0 U.length):=Lib.hid (by rw [g32]; exact hth)
 clear hU g32 g1L hth hr8 hb9 hr10 hx5
 go_wp2_with (refine wpList_store_mid rfl 167 (.tmp 4) (.tmp 14) rfl w.heap.size 0 U.toArray rfl rfl GTH.out GI1.out G1L.out ?_)
 have hLL:U.toArray.toList = U:=rfl
 have hW8:(W5.setCells w.heap.size 0 U.toArray.toList).rangeAt w.heap.size 0 U:=by rw [hLL]; exact World.rangeAt_setCells_same _ _ _ _ GTH2.out
 have hld:=run_loadVar_mid (P:=Tryz.prog) _ w.heap.size 0 167 U _ hW8 Tryz.underlying167 rfl GI2.out
 refine bodyPost_ret (v:=.agg U.toArray) ?_ rfl ⟨by rw [HSH.out],below_setCells (Nat.le_refl _) _ _ _ hb10⟩
 exact results_cell1_of rfl rfl hld
end Go.Proofs.YtggnipkfliompaaGreatDoor
namespace Go.Proofs.YtggnipkfliompaaGreatDoor
open Go.RowKit
theorem rhash_any (s:ByteArray) (v:Value) (bs:List Nat) (w:World) (hs0:0 < s.size) (hs:s.size ≤ 8796093022208) (hI:Byts w v bs) (h0:0 < bs.length) (hl:bs.length ≤ 4398046511104) :
  Calls Tryz.prog 137 #[.string s,v] w fun e w' => e = .returned (.int .i64 (hashG (strB s) bs)) ∧ Below w.heap.size w w':=by
 have HT:=Lib.hid (rtagged_any s v bs w hs0 hs hI h0 hl)
 clear hI
 go_enter Tryz.func137,Tryz.ntmps137
 go_wp2_with fail
 refine HT.out.mono ?_
 rintro e W1 ⟨rfl,hb1⟩
 have hln:(shaTag (strB s) bs).length = 32:=sha_len _
 have hall:∀ x ∈ shaTag (strB s) bs,x < 256:=sha_all _
 have HH:=Lib.hid (show hashG (strB s) bs = (hn (byAt (shaTag (strB s) bs)) 8:Nat) % 1073741789 from rfl)
 generalize shaTag (strB s) bs = D at *
 have h32:(D.map byteV).length = 32:=by rw [List.length_map,hln]
 have h1L:(D.map byteV).toArray.all (·.oneCell') = true:=all_oneCell_toArray (fun v hv => by obtain ⟨x,-,rfl⟩:=List.mem_map.1 hv; rfl)
 obtain ⟨W2,hW2,hrg,hb3,hz3⟩:=stored W1 (D.map byteV) h32
 simp only [z32] at hW2
 obtain ⟨T,hT⟩:∃ T,D.map byteV = T:=⟨_,rfl⟩
 have hcl:∀ k,k < 32 → W2.cell? ⟨W1.heap.size,k,none⟩ = some (.int .u8 (byAt D k:Nat)):=fun k hk => dig_cell hrg (by omega)
 rw [hT] at h32 h1L hW2
 rw [hT]
 have HW2:=Lib.hid hW2
 have H32A:Hid (T.toArray.size = 32):=Lib.hid (by simpa using h32)
 have HI1:=Lib.hid (infoDg.trans (congrArg some (show 32 = T.toArray.size by simpa using h32.symm)))
 have H1L:=Lib.hid h1L
 have HB4:=Lib.hid (hb1.trans (hb3.mono hb1.size))
 have hc0:=hcl 0 (by omega)
 have HAL:=Lib.hid (fun k => byAt_lt hall k)
 have HCL:=Lib.hid hcl
 obtain ⟨b0,hb0⟩:∃ b,b = byAt D 0:=⟨_,rfl⟩
 rw [← hb0] at hc0
 have hb256:b0 < 256:=by rw [hb0]; exact HAL.out 0
 obtain ⟨n1,hn1⟩:∃ n,n = hn (byAt D) 1:=⟨_,rfl⟩
 have e1:n1 = b0 % 128:=by rw [hn1,hb0]; show 0 * 256 + dd (byAt D) 0 = _; unfold dd; rw [if_pos rfl]; omega
 have m1:(b0:Int) % 128 = (n1:Int):=by omega
 have m2:(b0:Int).tmod 128 = (n1:Int):=by rw [Int.tmod_eq_emod_of_nonneg (by omega)]; omega
 have HN1:=Lib.hid hn1
 clear hT h32 h1L hW2 hcl hrg hln hb3 hz3 hb0 hn1 e1 hb1
 go_wp2_with (first
  | (refine wpList_store_mid rfl 167 (.tmp 5) (.tmp 10) rfl W1.heap.size 0 T.toArray rfl rfl (there_new _ _ _ H32A.out.symm) HI1.out H1L.out ?_; rw [show T.toArray.toList = T from rfl,← HW2.out])
  | fail)
 clear m1 m2 hc0
 go_loopw [6,7] (fun n i W => ∃ k:Nat,1 ≤ k ∧ k ≤ 8 ∧ i = .int .i64 k ∧ n = .int .i64 (hn (byAt D) k:Nat) ∧ W = W2) (fun _ i _ => 8 - (intOf i).toNat)
 case atStart => exact ⟨1,Nat.le_refl _,by omega,rfl,by rw [HN1.out],rfl⟩
 case round =>
  obtain ⟨k,hk1,hk,rfl,rfl,rfl⟩:=hrel
  by_cases hlt:k < 8
  ·have hck:=HCL.out k (by omega)
   have hl1:=hn_lt HAL.out k (by omega)
   have hl2:=HAL.out k
   have HN:=Lib.hid (show hn (byAt D) (k + 1) = hn (byAt D) k * 256 + byAt D k by
    show hn (byAt D) k * 256 + dd (byAt D) k = _
    unfold dd; rw [if_neg (by omega)])
   generalize hn (byAt D) k = x at *
   generalize byAt D k = y at *
   have k0:0 ≤ (k:Int):=by omega
   have k1:(k:Int) < 32:=by omega
   have d0:decide ((k:Int) < 8) = true:=decide_eq_true (by omega)
   have w1:IntKind.i64.wrap ((x:Int) * 256) = (x:Int) * 256:=IntWalk.i64_in _ (by omega)
   have w2:IntKind.i64.wrap ((x:Int) * 256 + (y:Int)) = (x:Int) * 256 + (y:Int):=IntWalk.i64_in _ (by omega)
   have w3:IntKind.i64.wrap (y:Int) = (y:Int):=IntWalk.i64_in _ (by omega)
   go_wp2_with fail
   go_roundw
   case rel => exact ⟨k + 1,by omega,by omega,by go_num,by rw [HN.out]; go_num,by trivial⟩
   case measure => simp [intOf]; omega
  ·obtain rfl:k = 8:=by omega
   have hl8:=hn_8 HAL.out
   have d0:decide (((8:Nat):Int) < 8) = false:=by decide
   obtain ⟨x,hx⟩:∃ x,x = hn (byAt D) 8:=⟨_,rfl⟩
   rw [← hx] at hl8 HH ⊢
   have m2:(x:Int).tmod 1073741789 = (x:Int) % 1073741789:=Int.tmod_eq_emod_of_nonneg (by omega)
   clear hx
   go_wp2_with fail
   go_ret
   exact ⟨by rw [HH.out]; first | rfl | (congr 3; omega),HB4.out⟩
end Go.Proofs.YtggnipkfliompaaGreatDoor
