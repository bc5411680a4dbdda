/- Package keygen: errors that end the work, keys, right dealings, order. A range over a function of this program whose iterator lays new memory between two rounds, and whose body may turn maps: of what is no cell it keeps loops and what is deferred. Package keygen: slices of dealings; Right, ordered, the iterator of right dealings. -/
import Derived.Test.YtggnipkfliompaaGreatDoorMParF
import Derived.Test.YtggnipkfliompaaGreatDoorMParB
import Derived.Test.YtggnipkfliompaaGreatDoorMBase
import Derived.Test.YtggnipkfliompaaGreatDoorMDeaG
import Derived.Deep.CutRange
import Derived.Deep.DeepCutAuto
set_option maxHeartbeats 8000000
set_option maxRecDepth 100000
namespace Go.Proofs.YtggnipkfliompaaGreatDoor
open Go.RowKit FP
def belowB (n lim:Int):Bool:=decide (0 ≤ n) && decide (n < lim)
theorem below_in {n lim:Int}:belowB n (lim + 1) = inB n 0 lim:=by
 unfold belowB inB
 congr 1
 exact decide_eq_decide.2 (by omega)
theorem kbelow_any (n lim:Int) (w:World):Calls Tryz.prog 90 #[.int .i64 n,.int .i64 lim] w fun r w' => r = .returned (.bool (belowB n lim)) ∧ w = w':=by
 by_cases h1:0 ≤ n
 ·have H:=Lib.hid (show belowB n lim = decide (n < lim) by unfold belowB; rw [decide_eq_true h1,Bool.true_and])
  go_enter Tryz.func90,Tryz.ntmps90
  go_wp2_with fail
  go_ret
  exact ⟨ret_bool H.out.symm,rfl⟩
 ·have H:=Lib.hid (show belowB n lim = false by unfold belowB; rw [decide_eq_false h1,Bool.false_and])
  go_enter Tryz.func90,Tryz.ntmps90
  go_wp2_with fail
  go_ret
  exact ⟨ret_bool H.out.symm,rfl⟩
theorem kmust_ok (x:Int) (w:World):Calls Tryz.prog 86 #[.int .i64 x,.int .i64 0] w fun r w' => r = .returned (.int .i64 x) ∧ w = w':=by
 go_enter Tryz.func86,Tryz.ntmps86
 go_wp2_with fail
 go_ret
 exact ⟨rfl,rfl⟩
theorem kmust_bad (x e:Int) (w:World) (he:e ≠ 0):Calls Tryz.prog 86 #[.int .i64 x,.int .i64 e] w fun r w' => r = .panicked (thrown e) ∧ w = w':=by
 have d0:(e != 0) = true:=bne_iff_ne.2 he
 clear he
 go_enter Tryz.func86,Tryz.ntmps86
 go_wp2_with fail
 exact ⟨rfl,rfl,rfl⟩
theorem kneed_ok (e:Int) (w:World):Calls Tryz.prog 88 #[.bool true,.int .i64 e] w fun r w' => r = .returned (.tuple #[]) ∧ w = w':=by
 go_enter Tryz.func88,Tryz.ntmps88
 go_wp2_with fail
 go_end0
 exact ⟨rfl,rfl⟩
theorem kneed_bad (e:Int) (w:World) (he:e ≠ 0):Calls Tryz.prog 88 #[.bool false,.int .i64 e] w fun r w' => r = .panicked (thrown e) ∧ w = w':=by
 have HE:=Lib.hid he
 clear he
 go_enter Tryz.func88,Tryz.ntmps88
 go_wp2_with fail
 with_reducible refine (kmust_bad 0 e _ HE.out).mono ?_
 rintro r w2 ⟨rfl,rfl⟩
 go_wp2_with fail
 exact ⟨rfl,rfl,rfl⟩
theorem kmustp_ok (a b c:Int) (w:World):Calls Tryz.prog 94 #[.agg #[.int .i64 a,.int .i64 b,.int .i64 c],.int .i64 0] w fun r w' => r = .returned (.agg #[.int .i64 a,.int .i64 b,.int .i64 c]) ∧ Below w.heap.size w w':=by
 obtain ⟨W1,hW1,hb1,hr1,hs1⟩:=box36 w (.int .i64 a) (.int .i64 b) (.int .i64 c) 49
 obtain ⟨W2,hW2,hb2,hr2,hs2⟩:=box36 W1 (.int .i64 0) (.int .i64 0) (.int .i64 0) 49
 have Q1:=Lib.hid ((hb2.block _ (row_lt hr1)).trans hr1)
 rw [hs1] at hr2
 have Q2:=Lib.hid hr2
 rw [hW1] at hW2
 have HW2:=Lib.hid hW2
 have HB:=Lib.hid (hb1.trans (hb2.mono hb1.size))
 clear hW1 hW2 hb1 hb2 hr1 hr2 hs1 hs2
 have c0:=row_cell Q1.out (k:=0) (v:=.int .i64 a) rfl
 have c1:=row_cell Q1.out (k:=1) (v:=.int .i64 b) rfl
 have c2:=row_cell Q1.out (k:=2) (v:=.int .i64 c) rfl
 have d0:=row_cell Q2.out (k:=0) (v:=.int .i64 0) rfl
 have d1:=row_cell Q2.out (k:=1) (v:=.int .i64 0) rfl
 have d2:=row_cell Q2.out (k:=2) (v:=.int .i64 0) rfl
 have f0:=row_free Q2.out 0
 have f1:=row_free Q2.out 1
 have f2:=row_free Q2.out 2
 have hq:=row_set (row_set (row_set Q2.out 0 (.int .i64 a)) 1 (.int .i64 b)) 2 (.int .i64 c)
 have e0:=row_cell hq (k:=0) (v:=.int .i64 a) rfl
 have e1:=row_cell hq (k:=1) (v:=.int .i64 b) rfl
 have e2:=row_cell hq (k:=2) (v:=.int .i64 c) rfl
 clear hq
 go_enter Tryz.func94,Tryz.ntmps94
 go_wp2_with (rw [← HW2.out])
 refine bodyPost_ret (v:=.agg #[.int .i64 a,.int .i64 b,.int .i64 c]) (by simp [results,Tryz.results94,go_sem,e0,e1,e2]) rfl ⟨rfl,?_⟩
 exact ((HB.out.setCell (by simp only; omega) _).setCell (by simp only; omega) _).setCell (by simp only; omega) _
theorem caughtK_panicking (p:Addr) (x e:Int) (older:List PanicEntry) (w:World) (hc:w.cell? p = some (.int .i64 x)) (hz:w.frozen? p = false) :
  CallsD Tryz.prog 85 #[.pointer (some p)] (.panicking ({ v:=.iface 35 (.int .i64 e),recovered:=false } :: older)) w fun r u' w' =>
   r = .returned (.tuple #[]) ∧ u' = .panicking ({ v:=.iface 35 (.int .i64 e),recovered:=true } :: older) ∧ w' = w.setCell p (.int .i64 e):=by
 have hta:∀ w,(Instr.typeAssert (.iface 35 (.int .i64 e)) 20 35 true).run Tryz.prog w = .ok (.tuple #[.int .i64 e,.bool true]) w:=fun _ => by kernel_rfl
 refine callsD_of_wpS Tryz.func85 rfl fun c₀ cs hu => ?_
 simp only [Tryz.ntmps85,List.size_toArray,List.length_cons,List.length_nil,Nat.reduceAdd,Nat.reduceSub,Array.replicate_succ,Array.replicate_zero,List.push_toArray,List.append_toArray,List.nil_append,List.cons_append]
 apply wpS_seq
 apply wpS_region
 simp [wpOpsS,go_sem,recoverD,hu,Exit.thenS]
 generalize hc0:({ fn:=c₀.fn,tmps:=c₀.tmps,todo:=c₀.todo,defers:=c₀.defers,mode:=FrameMode.panicking ({ v:=Value.iface 35 (Value.int IntKind.i64 e),recovered:=true } :: older),kind:=c₀.kind,roundOf:=c₀.roundOf }:Frame) = c1
 have hm:c1.mode = FrameMode.panicking ({ v:=Value.iface 35 (Value.int IntKind.i64 e),recovered:=true } :: older):=by rw [← hc0]
 have HB:=Lib.hid (show ∀ a' w',a'.defers = [] → w' = w.setCell p (.int .i64 e) → bodyPostS Tryz.prog Tryz.f85 c₀ cs (fun r u' w' => r = Ending.returned (Value.tuple #[]) ∧ u' = FrameMode.panicking ({ v:=Value.iface 35 (Value.int IntKind.i64 e),recovered:=true } :: older) ∧ w' = w.setCell p (Value.int IntKind.i64 e)) .normal a' (c1 :: cs) w' by
  intro a' w' h1 h2
  simp [bodyPostS,results,Tryz.results85,h1,h2,← hc0])
 clear hc0 hu hm
 refine wpS_of_wp ?_
 refine wp_mono (Q:=fun e' a' w' => e' = .normal ∧ a'.defers = [] ∧ w' = w.setCell p (.int .i64 e)) ?_ ?_
 ·go_wp2
 ·rintro e' a' w' ⟨rfl,h1,h2⟩
  exact HB.out a' w' h1 h2
theorem caughtK_idle (p:Addr) (w:World) :
  CallsD Tryz.prog 85 #[.pointer (some p)] .returning w fun r u' w' => r = .returned (.tuple #[]) ∧ u' = .returning ∧ w' = w:=by
 refine callsD_of_wpS Tryz.func85 rfl fun c₀ cs hu => ?_
 apply wpS_seq
 apply wpS_region
 simp [wpOpsS,go_sem,recoverD,hu,Tryz.ntmps85,Exit.thenS]
 apply wpS_seq
 apply wpS_region
 simp [wpOpsS,go_sem,Exit.thenS]
 refine wpS_cond (t:=false) (by simp [Act.eval,Array.replicate]) ?_
 simp only [Bool.false_eq_true,if_false]
 refine wpS_of_wp (wp_skip ?_)
 cases c₀
 simp_all [bodyPostS,results,Tryz.results85]
theorem koddK_any (z:Int) (w:World) (hz:R64 z):Calls Tryz.prog 159 #[.int .i64 z] w fun r w' => r = .returned (.bool (oddK z)) ∧ w = w':=by
 by_cases h0:z = 0
 ·have H:=Lib.hid (show oddK z = false by unfold oddK; rw [h0]; rfl)
  have d0:(z != 0) = false:=by rw [h0]; rfl
  clear h0
  go_enter Tryz.func159,Tryz.ntmps159
  go_wp2_with fail
  go_ret
  exact ⟨ret_bool H.out.symm,rfl⟩
 ·have H:=Lib.hid (show oddK z = !elB z by unfold oddK; rw [beq_eq_false_iff_ne.2 h0]; rfl)
  have d0:(z != 0) = true:=bne_iff_ne.2 h0
  have HV:=Lib.hid (fun w => valid_any z w hz)
  clear h0 hz
  go_enter Tryz.func159,Tryz.ntmps159
  go_wp2_with fail
  with_reducible refine (HV.out _).mono ?_
  rintro r w1 ⟨rfl,rfl⟩
  go_wp2_with fail
  go_ret
  exact ⟨ret_bool H.out.symm,rfl⟩
theorem koddK_tests (w:World) (zs:List Int) (hr:∀ z ∈ zs,R64 z):Tests 159 #[] w oddK zs:=
 fun z hz w' _ => (koddK_any z w' (hr z hz)).mono fun _ _ ⟨h,e⟩ => ⟨h,e ▸ Below.refl _ _⟩
theorem koddK_goes:Goes Tryz.prog 159:=goes_of Tryz.func159 (by kernel_rfl) rfl
theorem kmissK_any (kb:Nat) (kv:Value) (keys:List Int) (o:Int) (w:World) (c0:w.cell? ⟨kb,0,none⟩ = some kv) (hK:Ints w kv keys) (ho:0 ≤ o):Calls Tryz.prog 160 #[.int .i64 o,.pointer (some ⟨kb,0,none⟩)] w fun r w' => r = .returned (.bool (missK keys o)) ∧ w = w':=by
 obtain ⟨a,cap,rfl,-,-,-,hk⟩:=hK
 by_cases h0:(keys.length:Int) ≤ o
 ·have H:=Lib.hid (show missK keys o = true by unfold missK; rw [decide_eq_true h0,Bool.true_or])
  have d0:decide ((keys.length:Int) ≤ o) = true:=decide_eq_true h0
  clear h0 hk ho
  go_enter Tryz.func160,Tryz.ntmps160
  go_wp2_with fail
  go_ret
  exact ⟨ret_bool H.out.symm,rfl⟩
 ·have d0:decide ((keys.length:Int) ≤ o) = false:=decide_eq_false h0
  obtain ⟨k,rfl⟩:∃ k:Nat,o = (k:Int):=⟨o.toNat,by omega⟩
  have hk2:k < keys.length:=by omega
  obtain ⟨b,off,rfl,q1⟩:=hk k hk2
  have H:=Lib.hid (show missK keys (k:Int) = (keys[k] == 0) by unfold missK; rw [d0,Bool.false_or,Int.toNat_natCast,nth_at hk2])
  have i0:(0:Int) ≤ (k:Int):=ho
  have i1:(k:Int) < (keys.length:Int):=by omega
  have d1:decide (keys.length ≤ k) = false:=decide_eq_false (by omega)
  clear hk h0 ho
  generalize keys[k] = x at *
  clear hk2
  go_enter Tryz.func160,Tryz.ntmps160
  go_wp2_with fail
  go_ret
  exact ⟨ret_bool H.out.symm,rfl⟩
theorem kmissK_tests (kb:Nat) (kv:Value) (keys:List Int) (w:World) (zs:List Int) (c0:w.cell? ⟨kb,0,none⟩ = some kv) (hK:Ints w kv keys) (hr:∀ z ∈ zs,0 ≤ z):Tests 160 #[.pointer (some ⟨kb,0,none⟩)] w (missK keys) zs:=
 fun z hz w' hb => (kmissK_any kb kv keys z w' (below_cell hb c0) (hK.below hb) (hr z hz)).mono fun _ _ ⟨h,e⟩ => ⟨h,e ▸ Below.refl _ _⟩
theorem kmissK_goes:Goes Tryz.prog 160:=goes_of Tryz.func160 (by kernel_rfl) rfl
theorem isKeys_any (rv ov kv:Value) (owners keys:List Int) (w:World) (hR:∃ a n c,rv = .slice a n c) (hO:Ints w ov owners) (hK:Ints w kv keys) (h0:∀ o ∈ owners,0 ≤ o) :
  Calls Tryz.prog 89 #[.agg #[rv,ov],kv] w fun r w' => r = .returned (.bool (keysB owners keys)) ∧ Below w.heap.size w w':=by
 obtain ⟨W0,hW0,hb0,hr0,hz⟩:=box_prog w rv ov 25
 have hs0:W0.heap.size = w.heap.size + 1:=by rw [hW0]; simp
 obtain ⟨W1,hW1⟩:∃ W,W = W0.alloc (.cells #[kv] 23):=⟨_,rfl⟩
 have hb1:Below W0.heap.size W0 W1:=by rw [hW1]; exact below_new _ _ _
 have hr1:W1.heap[w.heap.size + 1]? = some (.cells #[kv] 23 (0,0)):=by rw [hW1,← hs0]; exact World.alloc_heap_new _ _
 have hb:=hb0.trans (hb1.mono hb0.size)
 have HO:=Lib.hid (hO.below hb)
 have HK:=Lib.hid (hK.below hb)
 obtain ⟨a1,n1,k1,rfl⟩:=hR
 obtain ⟨a2,k2,rfl,-,hl2,-⟩:=id hO
 obtain ⟨a3,k3,rfl,-,hl3,hr3,-⟩:=id hK
 have c1:=row_cell ((hb1.block _ (row_lt hr0)).trans hr0) (k:=1) (v:=.slice a2 owners.length k2) rfl
 have z0:=row_cell hr1 (k:=0) (v:=.slice a3 keys.length k3) rfl
 rw [hW0] at hW1
 have HW1:=Lib.hid hW1
 have HB:=Lib.hid hb
 have HT1:=Lib.hid (containsFunc_any 159 #[] oddK _ keys W1 HK.out koddK_goes (koddK_tests _ _ hr3))
 have HT2:=Lib.hid (fun ww (hk:Below W1.heap.size W1 ww) => containsFunc_any 160 #[.pointer (some ⟨w.heap.size + 1,0,none⟩)] (missK keys) _ owners ww (HO.out.below hk) kmissK_goes (kmissK_tests _ _ keys ww owners (below_cell hk z0) (HK.out.below hk) h0))
 have hmf:∀ (fn:Fn) (first cap:Array Value) (w:World),(Instr.makeFunc fn first cap).run Tryz.prog w = .ok (.func fn first cap) w:=fun _ _ _ _ => rfl
 clear hO hK hb hb0 hb1 hr0 hr1 hW0 hW1 hs0 hz hr3 h0
 by_cases hl:keys.length ≤ 64
 rotate_left
 ·have H:=Lib.hid (show keysB owners keys = false by unfold keysB; rw [decide_eq_false hl,Bool.false_and])
  have d0:decide ((keys.length:Int) ≤ 64) = false:=decide_eq_false (by omega)
  clear hl
  go_enter Tryz.func89,Tryz.ntmps89
  go_wp2_with (rw [← HW1.out])
  go_ret
  exact ⟨ret_bool H.out.symm,HB.out⟩
 have H:=Lib.hid (show keysB owners keys = (!keys.any oddK && !owners.any (missK keys)) by unfold keysB; rw [decide_eq_true hl,Bool.true_and])
 have d0:decide ((keys.length:Int) ≤ 64) = true:=decide_eq_true (by omega)
 clear hl
 generalize owners.any (missK keys) = q2 at *
 cases hq:keys.any oddK with
 | true =>
  rw [hq] at HT1
  replace H:=Lib.hid (H.out.trans (show _ = false by simp [hq]))
  clear hq
  go_enter Tryz.func89,Tryz.ntmps89
  go_wp2_with (rw [← HW1.out])
  refine HT1.out.mono ?_
  rintro r w2 ⟨rfl,hb2⟩
  go_wp2_with fail
  go_ret
  exact ⟨ret_bool H.out.symm,HB.out.trans (hb2.mono HB.out.size)⟩
 | false =>
  rw [hq] at HT1
  replace H:=Lib.hid (H.out.trans (show _ = !q2 by simp [hq]))
  clear hq
  go_enter Tryz.func89,Tryz.ntmps89
  go_wp2_with (rw [← HW1.out])
  refine HT1.out.mono ?_
  rintro r w2 ⟨rfl,hb2⟩
  have c1':=below_cell hb2 c1
  have HB2:=Lib.hid hb2
  clear hb2
  go_wp2_with fail
  refine (HT2.out _ HB2.out).mono ?_
  rintro r w3 ⟨rfl,hb3⟩
  go_wp2_with fail
  go_ret
  have hbb:=HB.out.trans (HB2.out.mono HB.out.size)
  exact ⟨ret_bool H.out.symm,hbb.trans (hb3.mono hbb.size)⟩
theorem kfine1_any (z:Int) (w:World) (hz:R64 z):Calls Tryz.prog 167 #[.int .i64 z] w fun r w' => r = .returned (.bool (notEl z)) ∧ w = w':=by
 have HV:=Lib.hid (fun w => valid_any z w hz)
 clear hz
 go_enter Tryz.func167,Tryz.ntmps167
 go_wp2_with fail
 with_reducible refine (HV.out _).mono ?_
 rintro r w1 ⟨rfl,rfl⟩
 go_wp2_with fail
 go_ret
 exact ⟨rfl,rfl⟩
theorem kfine1_tests (w:World) (zs:List Int) (hr:∀ z ∈ zs,R64 z):Tests 167 #[] w notEl zs:=
 fun z hz w' _ => (kfine1_any z w' (hr z hz)).mono fun _ _ ⟨h,e⟩ => ⟨h,e ▸ Below.refl _ _⟩
theorem kfine1_goes:Goes Tryz.prog 167:=goes_of Tryz.func167 (by kernel_rfl) rfl
theorem fine_dl {rows:List (List Int)} {d:Dlg} (h:belowB d.dealer 64 = false):fineB rows d = false:=by
 unfold fineB
 rw [← below_in (n:=d.dealer) (lim:=63),show (63:Int) + 1 = 64 from rfl,h]; rfl
theorem fine_len {rows:List (List Int)} {d:Dlg} (h:d.cs.length ≠ colsQ rows):fineB rows d = false:=by
 unfold fineB comB
 rw [decide_eq_false h,Bool.and_false]; simp
theorem fine_el {rows:List (List Int)} {d:Dlg} (h:d.cs.any notEl = true):fineB rows d = false:=by
 unfold fineB comB
 rw [h]; simp
theorem fine_pl {rows:List (List Int)} {d:Dlg} (h:d.ps.length ≠ rows.length):fineB rows d = false:=by
 unfold fineB
 rw [decide_eq_false h]; simp
theorem fine_par {rows:List (List Int)} {d:Dlg} {k:Nat} (hk:k < d.ps.length) (h:parOk d.ps k = false):fineB rows d = false:=by
 unfold fineB
 rw [parsB_bad hk h]; simp
theorem fine_all {rows:List (List Int)} {d:Dlg} (h1:belowB d.dealer 64 = true) (h2:d.cs.length = colsQ rows) (h3:d.cs.any notEl = false) (h4:d.ps.length = rows.length) (h5:∀ k,k < d.ps.length → parOk d.ps k = true):fineB rows d = true:=by
 unfold fineB comB
 rw [← below_in (n:=d.dealer) (lim:=63),show (63:Int) + 1 = 64 from rfl,h1,h3,decide_eq_true h2,decide_eq_true h4,parsB_all h5]; rfl
theorem kfine_any (rv ov cv pv:Value) (rows:List (List Int)) (d:Dlg) (w:World) (hR:Rows2 w rv rows) (ho:∃ a n c,ov = .slice a n c) (hC:Ints w cv d.cs) (hP:Parcels w pv d.ps) :
  Calls Tryz.prog 98 #[.agg #[rv,ov],.agg #[.int .i64 d.dealer,cv,pv]] w fun e w' => e = .returned (.bool (fineB rows d)) ∧ Below w.heap.size w w':=by
 obtain ⟨W0,hW0,hb0,hr0,-⟩:=box_prog w rv ov 25
 have hs0:W0.heap.size = w.heap.size + 1:=by rw [hW0]; simp
 obtain ⟨W1,hW1,hb1,hr1,-⟩:=box36 W0 (.int .i64 d.dealer) cv pv 28
 have hb:=hb0.trans (hb1.mono hb0.size)
 have Q0:=Lib.hid ((hb1.block _ (row_lt hr0)).trans hr0)
 rw [hs0] at hr1
 have Q1:=Lib.hid hr1
 have HR:=Lib.hid (hR.below hb)
 have HC:=Lib.hid (hC.below hb)
 have HP:=Lib.hid (hP.below hb)
 obtain ⟨a1,k1,rfl,-,hl1,-⟩:=id hR
 obtain ⟨a2,n2,k2,rfl⟩:=ho
 obtain ⟨a3,k3,rfl,-,hl3,hcr,-⟩:=id hC
 obtain ⟨a4,k4,rfl,-,hl4,-⟩:=id hP
 rw [hW0] at hW1
 have HW1:=Lib.hid hW1
 have HB:=Lib.hid hb
 have c0:=row_cell Q0.out (k:=0) (v:=.slice a1 rows.length k1) rfl
 have d0:=row_cell Q1.out (k:=0) (v:=.int .i64 d.dealer) rfl
 have d1:=row_cell Q1.out (k:=1) (v:=.slice a3 d.cs.length k3) rfl
 have d2:=row_cell Q1.out (k:=2) (v:=.slice a4 d.ps.length k4) rfl
 have HCF:=Lib.hid (containsFunc_any 167 #[] notEl _ d.cs W1 HC.out kfine1_goes (kfine1_tests _ _ hcr))
 have HPO:=Lib.hid (fun k (h:k < d.ps.length) => HP.out.at h)
 clear hR hC hP hb hb0 hb1 hr0 hr1 hW0 hW1 hs0 hcr
 go_enter Tryz.func98,Tryz.ntmps98
 go_upto_if 12 with (rw [← HW1.out])
 go_cut [5] from 13 to 17 (fun n W => n = .int .i64 (colsQ rows:Nat) ∧ W = W1)
 case first =>
  by_cases h0:rows.length = 0
  ·have HV:=Lib.hid (show colsQ rows = 1 by unfold colsQ; rw [if_pos h0])
   have hd:decide ((rows.length:Int) > 0) = false:=decide_eq_false (by omega)
   go_wp2_with fail
   go_meet
   exact ⟨by rw [HV.out]; rfl,rfl⟩
  ·have HV:=Lib.hid (show colsQ rows = wide rows by unfold colsQ; rw [if_neg h0])
   have hd:decide ((rows.length:Int) > 0) = true:=decide_eq_true (by omega)
   have i3:(0:Int) < (rows.length:Int):=by omega
   have i4:0 < rows.length:=by omega
   obtain ⟨aa,cc,e1,-,-,hk⟩:=HR.out
   obtain ⟨b,off,r,ha,q1,hI⟩:=hk 0 (by omega)
   simp only [Value.slice.injEq] at e1
   obtain ⟨rfl,-,rfl⟩:=e1
   subst ha
   rw [Nat.add_zero] at q1
   obtain ⟨ra,rc,rfl,-⟩:=id hI
   rw [wide_at rows (by omega)] at q1
   clear hk hI h0
   generalize wide rows = m at *
   go_wp2_with fail
   go_meet
   exact ⟨by rw [HV.out],rfl⟩
 case rest =>
  obtain ⟨rfl,rfl⟩:=hcut
  have HFD:=Lib.hid (fun h => fine_dl (rows:=rows) (d:=d) h)
  have HFL:=Lib.hid (fun h => fine_len (rows:=rows) (d:=d) h)
  have HFE:=Lib.hid (fun h => fine_el (rows:=rows) (d:=d) h)
  have HFP:=Lib.hid (fun h => fine_pl (rows:=rows) (d:=d) h)
  have HFK:=Lib.hid (fun k hk h => fine_par (rows:=rows) (d:=d) (k:=k) hk h)
  have HFA:=Lib.hid (fun h1 h2 h3 h4 h5 => fine_all (rows:=rows) (d:=d) h1 h2 h3 h4 h5)
  have HKB:=Lib.hid (fun w => kbelow_any d.dealer 64 w)
  cases hdl:belowB d.dealer 64 with
  | false =>
   rw [hdl] at HKB
   have HV:=Lib.hid (HFD.out hdl)
   clear hdl
   go_wp2_with fail
   with_reducible refine (HKB.out _).mono ?_
   rintro r w2 ⟨rfl,rfl⟩
   go_wp2_with fail
   go_ret
   exact ⟨ret_bool HV.out.symm,HB.out⟩
  | true =>
  rw [hdl] at HKB
  by_cases hcl:d.cs.length = colsQ rows
  rotate_left
  ·have HV:=Lib.hid (HFL.out hcl)
   have x1:((d.cs.length:Int) != ((colsQ rows:Nat):Int)) = true:=bne_iff_ne.2 (by omega)
   clear hcl hdl
   go_wp2_with fail
   with_reducible refine (HKB.out _).mono ?_
   rintro r w2 ⟨rfl,rfl⟩
   go_wp2_with fail
   go_ret
   exact ⟨ret_bool HV.out.symm,HB.out⟩
  have x1:((d.cs.length:Int) != ((colsQ rows:Nat):Int)) = false:=by rw [hcl]; simp
  have HCL:=Lib.hid hcl
  have HDL:=Lib.hid hdl
  clear hcl hdl
  go_wp2_with fail
  with_reducible refine (HKB.out _).mono ?_
  rintro r w2 ⟨rfl,rfl⟩
  cases hel:d.cs.any notEl with
  | true =>
   rw [hel] at HCF
   have HV:=Lib.hid (HFE.out hel)
   clear hel
   go_wp2_with fail
   with_reducible refine HCF.out.mono ?_
   rintro r w2 ⟨rfl,hb2⟩
   have HB2:=Lib.hid (HB.out.trans (hb2.mono HB.out.size))
   clear hb2
   go_wp2_with fail
   go_ret
   exact ⟨ret_bool HV.out.symm,HB2.out⟩
  | false =>
  rw [hel] at HCF
  have HEL:=Lib.hid hel
  clear hel
  go_wp2_with fail
  with_reducible refine HCF.out.mono ?_
  rintro r w2 ⟨rfl,hb2⟩
  have HB2:=Lib.hid (HB.out.trans (hb2.mono HB.out.size))
  have HP2:=Lib.hid (HP.out.below hb2)
  replace c0:=below_cell hb2 c0
  replace d0:=below_cell hb2 d0
  replace d1:=below_cell hb2 d1
  replace d2:=below_cell hb2 d2
  clear hb2
  by_cases hpl:d.ps.length = rows.length
  rotate_left
  ·have HV:=Lib.hid (HFP.out hpl)
   have x2:((d.ps.length:Int) != (rows.length:Int)) = true:=bne_iff_ne.2 (by omega)
   clear hpl
   go_wp2_with fail
   go_ret
   exact ⟨ret_bool HV.out.symm,HB2.out⟩
  have x2:((d.ps.length:Int) != (rows.length:Int)) = false:=by rw [hpl]; simp
  have HPL:=Lib.hid hpl
  clear hpl
  go_wp2_with fail
  go_loopw [7,8,47] (fun _ _ i W => ∃ k:Nat,k ≤ d.ps.length ∧ i = .int .i64 k ∧ Hid (∀ j,j < k → parOk d.ps j = true) ∧ Below w2.heap.size w2 W) (fun _ _ i _ => d.ps.length - (intOf i).toNat)
  case atStart => exact ⟨0,Nat.zero_le _,rfl,Lib.hid (fun j h => absurd h (Nat.not_lt_zero j)),Below.refl _ _⟩
  case round =>
   obtain ⟨k,hkl,rfl,HK,hb⟩:=hrel
   by_cases hlt:k < d.ps.length
   ·obtain ⟨xb,xo,hx,y0,y1,y2,hpt⟩:=(HP2.out.below hb).at hlt
    subst hx
    have HPK:=Lib.hid (show parOk d.ps k = (d.ps[k].1 == (k:Int) && (elB d.ps[k].2.1 && inB d.ps[k].2.2 0 1073741788)) by unfold parOk; rw [getD_at hlt])
    have HVN:=Lib.hid (fun h => HFK.out k hlt h)
    obtain ⟨p0,hp0⟩:∃ x,x = d.ps[k].1:=⟨_,rfl⟩
    obtain ⟨p1,hp1⟩:∃ x,x = d.ps[k].2.1:=⟨_,rfl⟩
    obtain ⟨p2,hp2⟩:∃ x,x = d.ps[k].2.2:=⟨_,rfl⟩
    rw [← hp0] at y0 HPK
    rw [← hp1] at y1 hpt HPK
    rw [← hp2] at y2 HPK
    clear hp0 hp1 hp2
    have HVA:=Lib.hid (fun w => valid_any p1 w hpt)
    have HBL:=Lib.hid (fun w => kbelow_any p2 1073741789 w)
    rw [show belowB p2 1073741789 = inB p2 0 1073741788 by have:=below_in (n:=p2) (lim:=1073741788); simpa using this] at HBL
    obtain ⟨W5,hW5,hb5,hr5,hs5⟩:=box36 wr (.int .i64 p0) (.int .i64 p1) (.int .i64 p2) 49
    have HW5:=Lib.hid hW5
    have s0:=row_cell hr5 (k:=0) (v:=.int .i64 p0) rfl
    have s1:=row_cell hr5 (k:=1) (v:=.int .i64 p1) rfl
    have s2:=row_cell hr5 (k:=2) (v:=.int .i64 p2) rfl
    have HB3:=Lib.hid (hb.trans (hb5.mono hb.size))
    have HB4:=Lib.hid (HB2.out.trans (HB3.out.mono HB2.out.size))
    have i0:(0:Int) ≤ (k:Int):=by omega
    have i1:(k:Int) < (d.ps.length:Int):=by omega
    clear hW5 hb5 hr5 hb hpt hs5
    by_cases e0:p0 = (k:Int)
    rotate_left
    ·have HV:=Lib.hid (HVN.out (by rw [HPK.out,beq_eq_false_iff_ne.2 e0]; rfl))
     have t0:(p0 != (k:Int)) = true:=bne_iff_ne.2 e0
     clear e0
     go_wp2_with (rw [← HW5.out])
     go_ret
     exact ⟨ret_bool HV.out.symm,HB4.out⟩
    have t0:(p0 != (k:Int)) = false:=by rw [e0]; simp
    replace HPK:=Lib.hid (HPK.out.trans (show _ = (elB p1 && inB p2 0 1073741788) by rw [beq_iff_eq.2 e0,Bool.true_and]))
    clear e0
    go_wp2_with (rw [← HW5.out])
    with_reducible refine (HVA.out _).mono ?_
    rintro r w5 ⟨rfl,rfl⟩
    cases he1:elB p1 with
    | false =>
     have HV:=Lib.hid (HVN.out (by rw [HPK.out,he1]; rfl))
     clear he1
     go_wp2_with fail
     go_ret
     exact ⟨ret_bool HV.out.symm,HB4.out⟩
    | true =>
     replace HPK:=Lib.hid (HPK.out.trans (show _ = inB p2 0 1073741788 by rw [he1,Bool.true_and]))
     clear he1
     go_wp2_with fail
     with_reducible refine (HBL.out _).mono ?_
     rintro r w5 ⟨rfl,rfl⟩
     cases he2:inB p2 0 1073741788 with
     | false =>
      have HV:=Lib.hid (HVN.out (by rw [HPK.out,he2]))
      clear he2
      go_wp2_with fail
      go_ret
      exact ⟨ret_bool HV.out.symm,HB4.out⟩
     | true =>
      have HN:=Lib.hid (show ∀ j,j < k + 1 → parOk d.ps j = true from fun j h => by
       by_cases e:j = k
       ·subst e; rw [HPK.out,he2]
       ·exact HK.out j (by omega))
      clear he2
      go_wp2_with fail
      go_roundw
      case rel => exact ⟨k + 1,by omega,by go_num,HN,HB3.out⟩
      case measure => simp [intOf]; omega
   ·have HV:=Lib.hid (HFA.out HDL.out HCL.out HEL.out HPL.out (fun j hj => HK.out j (by omega)))
    go_wp2_with fail
    go_ret
    exact ⟨ret_bool HV.out.symm,HB2.out.trans (hb.mono HB2.out.size)⟩
end Go.Proofs.YtggnipkfliompaaGreatDoor
namespace Go.Proofs.YtggnipkfliompaaGreatDoor
open Go.RowKit
def _root_.Go.Obj.isLoop:Obj → Bool
 | .loop _ => true
 | .deferred _ => true
 | _ => false
structure KeepsL (W W':World):Prop where
 size:W.heap.size ≤ W'.heap.size
 same:∀ (k:Nat) (o:Obj),W.heap[k]? = some o → o.isLoop = true → W'.heap[k]? = some o
theorem KeepsL.refl (W:World):KeepsL W W:=⟨Nat.le_refl _,fun _ _ h _ => h⟩
theorem KeepsL.trans {A B C:World} (h:KeepsL A B) (k:KeepsL B C):KeepsL A C:=
 ⟨Nat.le_trans h.size k.size,fun i o hi ho => k.same i o (h.same i o hi ho) ho⟩
theorem KeepsL.alloc (W:World) (o:Obj):KeepsL W (W.alloc o):=
 ⟨by simp,fun k o' hk _ => (Below.heap_alloc W o k (Array.getElem?_eq_some_iff.1 hk).1).trans hk⟩
theorem isLoop_cells {o:Obj} (h:o.isLoop = true):o.isCells = false:=by
 cases o <;> first | rfl | cases h
theorem keeps_l {W W':World} (h:KeepsOthers W W'):KeepsL W W':=⟨h.size,fun k o hk ho => h.same k o hk (isLoop_cells ho)⟩
theorem keepsL_of_below {W W':World} (hb:Below W.heap.size W W'):KeepsL W W':=keeps_l (keeps_of_below hb)
def rangePost7 (I:Nat → World → Prop) (Ix:Code → Nat → World → Prop) (j:Nat) (W:World):Exit → Act → World → Prop
 | .normal,_,W' => KeepsL W W' ∧ I (j + 1) W'
 | .ret,_,W' => KeepsL W W' ∧ Ix .ret (j + 1) W'
 | .exit id,_,W' => KeepsL W W' ∧ Ix (.exit id) (j + 1) W'
 | .goto t,_,W' => KeepsL W W' ∧ Ix (.goto t) (j + 1) W'
 | .panic _,_,_ => False
 | .outgrown,_,_ => False
end Go.Proofs.YtggnipkfliompaaGreatDoor
namespace Go.Proofs.YtggnipkfliompaaGreatDoor
open Go.RowKit FP
structure DlgAt (w:World) (b off:Nat) (d:Dlg) (cv pv:Value):Prop where
 c0:w.cell? ⟨b,off,none⟩ = some (.int .i64 d.dealer)
 c1:w.cell? ⟨b,off + 1,none⟩ = some cv
 c2:w.cell? ⟨b,off + 2,none⟩ = some pv
 r:R64 d.dealer
 cs:Ints w cv d.cs
 ps:Parcels w pv d.ps
theorem DlgAt.below {w w':World} {b off:Nat} {d:Dlg} {cv pv:Value} (h:DlgAt w b off d cv pv) (hb:Below w.heap.size w w'):DlgAt w' b off d cv pv:=
 ⟨below_cell hb h.c0,below_cell hb h.c1,below_cell hb h.c2,h.r,h.cs.below hb,h.ps.below hb⟩
abbrev DVals:=Nat → Value × Value
def Dlgs (w:World) (v:Value) (l:List Dlg) (vs:DVals):Prop:=
 ∃ a cap,v = .slice a l.length cap ∧ l.length ≤ cap ∧ l.length ≤ 17592186044416 ∧ ∀ k (h:k < l.length),∃ b off,a = some ⟨b,off,none⟩ ∧ DlgAt w b (off + k * 3) l[k] (vs k).1 (vs k).2
theorem Dlgs.below {w w':World} {v:Value} {l:List Dlg} {vs:DVals} (h:Dlgs w v l vs) (hb:Below w.heap.size w w'):Dlgs w' v l vs:=by
 obtain ⟨a,cap,rfl,hc,hl,hk⟩:=h
 exact ⟨a,cap,rfl,hc,hl,fun k hlt => by
  obtain ⟨b,off,ha,hd⟩:=hk k hlt
  exact ⟨b,off,ha,hd.below hb⟩⟩
theorem Dlgs.at {w:World} {a:Option Addr} {n c:Nat} {l:List Dlg} {vs:DVals} (h:Dlgs w (.slice a n c) l vs) {k:Nat} (hk:k < l.length):∃ b off,a = some ⟨b,off,none⟩ ∧ DlgAt w b (off + k * 3) l[k] (vs k).1 (vs k).2:=by
 obtain ⟨a',cap,h1,-,-,h5⟩:=h
 cases h1
 exact h5 k hk
theorem Dlgs.nil (w:World) (a:Option Addr) (cap:Nat) (vs:DVals):Dlgs w (.slice a 0 cap) [] vs:=
 ⟨a,cap,rfl,Nat.zero_le _,by simp,fun k h => absurd h (Nat.not_lt_zero _)⟩
def kriB (rows:List (List Int)) (owners:List Int) (d:Dlg):Bool:=if progE rows owners = 0 then fineB rows d else false
theorem kright_any (rv ov cv pv:Value) (rows:List (List Int)) (owners:List Int) (d:Dlg) (w:World) (hR:Rows2 w rv rows) (hO:Ints w ov owners) (hC:Ints w cv d.cs) (hP:Parcels w pv d.ps) :
  Calls Tryz.prog 28 #[.agg #[rv,ov],.agg #[.int .i64 d.dealer,cv,pv]] w fun e w' => e = .returned (.tuple #[.bool (kriB rows owners d),.int .i64 (progE rows owners)]) ∧ Below w.heap.size w w':=by
 obtain ⟨W0,hW0,hb0,hr0,-⟩:=box_prog w rv ov 25
 have hs0:W0.heap.size = w.heap.size + 1:=by rw [hW0]; simp
 obtain ⟨W1,hW1,hb1,hr1,-⟩:=box36 W0 (.int .i64 d.dealer) cv pv 28
 have hb:=hb0.trans (hb1.mono hb0.size)
 have Q0:=Lib.hid ((hb1.block _ (row_lt hr0)).trans hr0)
 rw [hs0] at hr1
 have Q1:=Lib.hid hr1
 have HR:=Lib.hid (hR.below hb)
 have HO:=Lib.hid (hO.below hb)
 have HC:=Lib.hid (hC.below hb)
 have HP:=Lib.hid (hP.below hb)
 obtain ⟨a1,k1,rfl,-,hl1,-⟩:=id hR
 obtain ⟨a2,k2,rfl,-,hl2,-⟩:=id hO
 obtain ⟨a3,k3,rfl,-,hl3,hcr,-⟩:=id hC
 obtain ⟨a4,k4,rfl,-,hl4,-⟩:=id hP
 rw [hW0] at hW1
 have HW1:=Lib.hid hW1
 have HB:=Lib.hid hb
 have c0:=row_cell Q0.out (k:=0) (v:=.slice a1 rows.length k1) rfl
 have c1:=row_cell Q0.out (k:=1) (v:=.slice a2 owners.length k2) rfl
 have d0:=row_cell Q1.out (k:=0) (v:=.int .i64 d.dealer) rfl
 have d1:=row_cell Q1.out (k:=1) (v:=.slice a3 d.cs.length k3) rfl
 have d2:=row_cell Q1.out (k:=2) (v:=.slice a4 d.ps.length k4) rfl
 clear hR hO hC hP hb hb0 hb1 hr0 hr1 hW0 hW1 hs0 hcr
 go_enter Tryz.func28,Tryz.ntmps28
 go_wp2_with (rw [← HW1.out])
 with_reducible refine (pCheck_any _ _ rows owners _ HR.out HO.out).mono ?_
 rintro e w2 ⟨rfl,hb2⟩
 replace c0:=below_cell hb2 c0
 replace c1:=below_cell hb2 c1
 replace d0:=below_cell hb2 d0
 replace d1:=below_cell hb2 d1
 replace d2:=below_cell hb2 d2
 replace HR:=Lib.hid (HR.out.below hb2)
 replace HO:=Lib.hid (HO.out.below hb2)
 replace HC:=Lib.hid (HC.out.below hb2)
 replace HP:=Lib.hid (HP.out.below hb2)
 replace HB:=Lib.hid (HB.out.trans (hb2.mono HB.out.size))
 clear hb2
 by_cases hp:progE rows owners = 0
 rotate_left
 ·have d9:(progE rows owners != 0) = true:=bne_iff_ne.2 hp
  have HV:Hid (kriB rows owners d = false):=Lib.hid (by unfold kriB; rw [if_neg hp])
  clear hp
  obtain ⟨q,hq⟩:∃ q,q = progE rows owners:=⟨_,rfl⟩
  have HQ:=Lib.hid hq
  rw [← hq] at d9 ⊢
  clear hq
  go_wp2_with fail
  go_ret2
  exact ⟨by rw [HV.out,HQ.out]; rfl,HB.out⟩
 ·have HV:Hid (kriB rows owners d = fineB rows d):=Lib.hid (by unfold kriB; rw [if_pos hp])
  have HP0:=Lib.hid hp
  rw [hp]
  clear hp
  go_wp2_with fail
  with_reducible refine (kfine_any _ _ _ _ rows d _ HR.out ⟨_,_,_,rfl⟩ HC.out HP.out).mono ?_
  rintro e w3 ⟨rfl,hb3⟩
  replace c0:=below_cell hb3 c0
  replace c1:=below_cell hb3 c1
  replace d0:=below_cell hb3 d0
  replace d1:=below_cell hb3 d1
  replace d2:=below_cell hb3 d2
  replace HR:=Lib.hid (HR.out.below hb3)
  replace HO:=Lib.hid (HO.out.below hb3)
  replace HC:=Lib.hid (HC.out.below hb3)
  replace HP:=Lib.hid (HP.out.below hb3)
  replace HB:=Lib.hid (HB.out.trans (hb3.mono HB.out.size))
  clear hb3
  go_wp2_with fail
  go_ret2
  exact ⟨by rw [HV.out,HP0.out]; rfl,HB.out⟩
theorem ordered_any (lv:Value) (l:List Dlg) (vs:DVals) (w:World) (hL:Dlgs w lv l vs) :
  Calls Tryz.prog 100 #[lv] w fun e w' => e = .returned (.bool (ordB l)) ∧ Below w.heap.size w w':=by
 have HL:=Lib.hid hL
 obtain ⟨a1,k1,rfl,-,hl1,-⟩:=id hL
 clear hL
 have HBAD:=Lib.hid (fun k h hb => ordB_bad (l:=l) (k:=k) h hb)
 have HALL:=Lib.hid (fun h => ordB_all (l:=l) h)
 have HAT:=Lib.hid (fun k (h:k < l.length) => dlrL_at h)
 generalize ordB l = OB at *
 go_enter Tryz.func100,Tryz.ntmps100
 go_wp2_with fail
 go_loopw [3] (fun i W => ∃ k:Nat,k ≤ l.length ∧ i = .int .i64 ((k:Int) + 1) ∧ Hid (∀ j,j < k → j + 1 < l.length → nth (dlrL l) j < nth (dlrL l) (j + 1)) ∧ Below w.heap.size w W) (fun i _ => l.length + 1 - (intOf i).toNat)
 case atStart => exact ⟨0,Nat.zero_le _,rfl,Lib.hid (fun j h => absurd h (Nat.not_lt_zero j)),Below.refl _ _⟩
 case round =>
  obtain ⟨k,hkl,rfl,HK,hb⟩:=hrel
  by_cases hlt:k + 1 < l.length
  ·obtain ⟨b,off,ha,hA⟩:=HL.out.at (k:=k) (by omega)
   obtain ⟨b2,off2,ha2,hA2⟩:=HL.out.at (k:=k + 1) hlt
   subst ha
   simp only [Option.some.injEq,Addr.mk.injEq] at ha2
   obtain ⟨rfl,rfl,-⟩:=ha2
   have y0:wr.cell? ⟨b,off + k * 3,none⟩ = some (.int .i64 l[k].dealer):=below_cell hb hA.c0
   have y1:wr.cell? ⟨b,off + (k + 1) * 3,none⟩ = some (.int .i64 l[k + 1].dealer):=below_cell hb hA2.c0
   have hx0:=HAT.out k (by omega)
   have hx1:=HAT.out (k + 1) hlt
   obtain ⟨p,hp⟩:∃ p,p = l[k].dealer:=⟨_,rfl⟩
   obtain ⟨q,hq⟩:∃ p,p = l[k + 1].dealer:=⟨_,rfl⟩
   rw [← hp] at y0 hx0
   rw [← hq] at y1 hx1
   have HX:=Lib.hid (And.intro hx0 hx1)
   have HB:=Lib.hid hb
   have i0:(0:Int) ≤ (k:Int):=by omega
   have i1:(k:Int) < (l.length:Int):=by omega
   have i2:(0:Int) ≤ ((k + 1:Nat):Int):=by omega
   have i3:((k:Int) + 1) < (l.length:Int):=by omega
   have i4:(0:Int) ≤ (k:Int) + 1:=by omega
   have w1:IntKind.i64.wrap ((k:Int) + 1 - 1) = (k:Int):=by rw [show (k:Int) + 1 - 1 = (k:Int) by omega]; exact IntWalk.i64_in _ (by omega)
   have e3:((k:Int) + 1).toNat = k + 1:=by omega
   have d3:decide ((k:Int) + 1 < (l.length:Int)) = true:=decide_eq_true i3
   clear hp hq hx0 hx1 hb hA hA2
   by_cases hpq:p < q
   ·have HN:=Lib.hid (show ∀ j,j < k + 1 → j + 1 < l.length → nth (dlrL l) j < nth (dlrL l) (j + 1) from fun j h1 h2 => by
     by_cases e:j = k
     ·subst e; rw [HX.out.1,HX.out.2]; exact hpq
     ·exact HK.out j (by omega) h2)
    have d9:decide (q ≤ p) = false:=decide_eq_false (by omega)
    clear hpq
    go_wp2_with fail
    go_quiet (fail)
    go_wp2_with fail
    go_roundw
    case rel => exact ⟨k + 1,by omega,by go_num,HN,below_drewN HB.out _⟩
    case measure => simp [intOf]; omega
   ·have HV:=Lib.hid (HBAD.out k hlt (by rw [HX.out.1,HX.out.2]; omega))
    have d9:decide (q ≤ p) = true:=decide_eq_true (by omega)
    clear hpq
    go_wp2_with fail
    go_quiet (fail)
    go_wp2_with fail
    go_ret
    exact ⟨ret_bool HV.out.symm,below_drewN HB.out _⟩
  ·have HV:=Lib.hid (HALL.out (fun j hj => HK.out j (by omega) hj))
   have d3:decide ((k:Int) + 1 < (l.length:Int)) = false:=decide_eq_false (by omega)
   go_wp2_with fail
   go_ret
   exact ⟨ret_bool HV.out.symm,hb⟩
end Go.Proofs.YtggnipkfliompaaGreatDoor
