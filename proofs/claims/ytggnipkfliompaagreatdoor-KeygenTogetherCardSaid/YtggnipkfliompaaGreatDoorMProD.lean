/- Package program: question, where it answers. -/
import Derived.Test.YtggnipkfliompaaGreatDoorMProA
import Derived.Deep.CutRange
import Derived.Deep.DeepCutAuto
set_option maxHeartbeats 8000000
set_option maxRecDepth 100000
namespace Go.Proofs.YtggnipkfliompaaGreatDoor
open Go.RowKit FP
attribute [local go_sem] Oper.semAt_some
def pownR (rows : List (List Int)) (owners who : List Int) : List (List Int) := (ownL owners who rows.length).map fun i => rows.getD i []
def pownN (rows : List (List Int)) (owners who : List Int) : List Int := (ownL owners who rows.length).map fun (i : Nat) => (i : Int)
theorem ownL_len (owners who : List Int) (n : Nat) : (ownL owners who n).length ≤ n := by
 unfold ownL
 exact Nat.le_trans (List.length_filter_le _ _) (by simp)
theorem quest_yes (rv ov wv : Value) (rows : List (List Int)) (owners who : List Int) (w : World) (hR : Rows2 w rv rows) (hO : Ints w ov owners) (hW : Ints w wv who) (hp : progE rows owners = 0) (hpe : peopleB (-1) who = true) :
  Calls Tryz.prog 116 #[.agg #[rv, ov], wv] w fun r w' => ∃ v1 v2 v3, r = .returned (.tuple #[v1, v2, v3, .int .i64 0]) ∧ Rows2 w' v1 (pownR rows owners who) ∧ Ints w' v2 (pownN rows owners who) ∧ Ints w' v3 (tgt (colsQ rows)) ∧ Below w.heap.size w w' := by
 obtain ⟨W1, hW1, hb1, hz1, hr0, hr1, hr2⟩ := box_quest w rv ov
 have HR := Lib.hid (hR.below hb1)
 have HO := Lib.hid (hO.below hb1)
 have HWH := Lib.hid (hW.below hb1)
 have HPC := Lib.hid (pCheck_any rv ov rows owners W1 HR.out HO.out)
 obtain ⟨a, cap, rfl, -, hlen, -⟩ := id hR
 obtain ⟨a2, cap2, rfl, -, hlen2, -⟩ := id hO
 obtain ⟨a3, cap3, rfl, -, hlen3, -⟩ := id hW
 have c0 : W1.cell? ⟨w.heap.size, 0, none⟩ = some (.slice a rows.length cap) := row_cell hr0 rfl
 have c1 : W1.cell? ⟨w.heap.size, 1, none⟩ = some (.slice a2 owners.length cap2) := row_cell hr0 rfl
 have HB := Lib.hid hb1
 have HW1 := Lib.hid hW1
 have HPO := Lib.hid (progE_ok hp)
 have HPE := Lib.hid hpe
 have HR0 := Lib.hid hR
 have HO0 := Lib.hid hO
 have HW0 := Lib.hid hW
 rw [hp] at HPC
 clear hR hO hW hr0 hW1 hb1 hp hpe
 refine calls_of_range Tryz.func116 rfl ?_
 simp only [Tryz.ntmps116, List.size_toArray, List.length_cons, List.length_nil, Nat.reduceAdd, Nat.reduceSub, Array.replicate_succ, Array.replicate_zero, List.push_toArray, List.append_toArray, List.nil_append, List.cons_append]
 go_wp2_with fail
 rw [← HW1.out]
 refine HPC.out.mono ?_
 rintro r w2 ⟨rfl, hb2⟩
 replace hr1 := (hb2.block _ (by omega)).trans hr1
 replace hr2 := (hb2.block _ (by omega)).trans hr2
 have hz2 := Nat.le_trans (Nat.le_of_eq hz1.symm) hb2.size
 replace c0 := below_cell hb2 c0
 replace c1 := below_cell hb2 c1
 replace HR := Lib.hid (HR.out.below hb2)
 replace HO := Lib.hid (HO.out.below hb2)
 replace HWH := Lib.hid (HWH.out.below hb2)
 replace HB := Lib.hid (HB.out.trans (hb2.mono HB.out.size))
 clear hb2
 clear HPC hz1
 go_wp2_with fail
 go_loopw [8, 10, 21] (fun last _ i W => ∃ k : Nat, k ≤ who.length ∧ i = .int .i64 k ∧ last = .int .i64 (lastP (-1) (who.take k)) ∧ W = w2) (fun _ _ i _ => who.length - (intOf i).toNat)
 case atStart => exact ⟨0, Nat.zero_le _, rfl, rfl, rfl⟩
 case round =>
  obtain ⟨k, hkl, rfl, rfl, rfl⟩ := hrel
  by_cases hlt : k < who.length
  ·obtain ⟨hr64, b, off, n1, k1, e1, q1⟩ := HWH.out.get hlt
   simp only [Value.slice.injEq] at e1
   obtain ⟨rfl, -, -⟩ := e1
   have HLT := Lib.hid (lastP_take (last := -1) hlt)
   have hok := peopleB_front HPE.out (k + 1)
   rw [peopleB_take hlt] at hok
   rw [← nth_at hlt] at HLT hok
   simp only [Bool.and_eq_true, decide_eq_true_eq] at hok
   obtain ⟨-, hin, hlast⟩ := hok
   have HIN := Lib.hid hin
   have i0 : 0 ≤ (k : Int) := by omega
   have i1 : (k : Int) < (who.length : Int) := by omega
   clear hin
   generalize nth who k = x at *
   go_wp2_with fail
   with_reducible refine (pperson_any x _).mono ?_
   rintro e w3 ⟨rfl, rfl⟩
   rw [HIN.out]
   go_wp2_with fail
   go_roundw
   case rel => exact ⟨k + 1, by omega, by go_num, by rw [HLT.out], by trivial⟩
   case measure => simp [intOf]; omega
  ·have hdk : decide (k < who.length) = false := decide_eq_false hlt
   have hdk2 : decide ((k : Int) < (who.length : Int)) = false := decide_eq_false (by omega)
   clear hlt hkl
   go_upto_if 38 with fail
   go_cut [11] from 39 to 43 (fun n W => n = .int .i64 (colsQ rows : Nat) ∧ W = wr)
   case first =>
    by_cases h0 : rows.length = 0
    ·have HV := Lib.hid (show colsQ rows = 1 by unfold colsQ; rw [if_pos h0])
     have hd : decide ((rows.length : Int) > 0) = false := decide_eq_false (by omega)
     go_wp2_with fail
     go_meet
     exact ⟨by rw [HV.out]; rfl, rfl⟩
    ·have HV := Lib.hid (show colsQ rows = wide rows by unfold colsQ; rw [if_neg h0])
     have hd : decide ((rows.length : Int) > 0) = true := decide_eq_true (by omega)
     have i3 : (0 : Int) < (rows.length : Int) := by omega
     obtain ⟨aa, cc, e1, -, -, hk⟩ := HR.out
     obtain ⟨b, off, r, ha, q1, hI⟩ := hk 0 (by omega)
     simp only [Value.slice.injEq] at e1
     obtain ⟨rfl, -, rfl⟩ := e1
     subst ha
     rw [Nat.add_zero] at q1
     obtain ⟨ra, rc, rfl, -⟩ := id hI
     rw [wide_at rows (by omega)] at q1
     clear hk hI h0
     generalize wide rows = m at *
     go_wp2_with fail
     go_meet
     exact ⟨by rw [HV.out], rfl⟩
   case rest =>
    obtain ⟨rfl, rfl⟩ := hcut
    have hc1 := HPO.out.cols
    have hc2 := HPO.out.cols_le
    obtain ⟨n, hn⟩ : ∃ n, n = colsQ rows := ⟨_, rfl⟩
    rw [← hn] at hc1 hc2 ⊢
    have HN := Lib.hid hn
    have hmk := run_ints n (by omega)
    have hm0 : (madeCells #[.int .i64 0] n)[0]? = some (.int .i64 0) := by
     have h := (IBlk.made wc n 3).cell 0 (by omega)
     rwa [World.cell?_alloc_at _ _ _ _ rfl] at h
    have n1 : (0 : Int) < (n : Int) := by omega
    obtain ⟨C, hC⟩ : ∃ C, C = (madeCells #[.int .i64 0] n).setIfInBounds 0 (.int .i64 1) := ⟨_, rfl⟩
    have hib : IBlk (wc.alloc (.cells C 3)) wc.heap.size n tgtF := by
     have h1 := (IBlk.made wc n 3).set (k := 0) 1
     have h2 : (wc.alloc (.cells (madeCells #[.int .i64 0] n) 3)).setCell ⟨wc.heap.size, 0, none⟩ (.int .i64 1) = wc.alloc (.cells C 3) := by rw [hC]; simp [go_sem]
     rw [h2] at h1
     exact h1
    have HIB := Lib.hid hib
    have hbm := below_new wc C 3
    have z0 := below_cell hbm c0
    have z1 := below_cell hbm c1
    rw [hC] at z0 z1
    have HC := Lib.hid hC
    clear hn hib hC
    go_wp2_with fail
    rw [← HC.out] at z0 z1 ⊢
    obtain ⟨w4, hw4⟩ : ∃ w4, w4 = wc.alloc (.cells C 3) := ⟨_, rfl⟩
    have hz4 : w4.heap.size = wc.heap.size + 1 := by rw [hw4]; simp
    rw [← hw4] at HIB hbm z0 z1 ⊢
    replace hr1 := (hbm.block _ (by omega)).trans hr1
    replace hr2 := (hbm.block _ (by omega)).trans hr2
    clear c0 c1 hmk hm0 n1 HC hw4
    replace HR := Lib.hid (HR.out.below hbm)
    replace HO := Lib.hid (HO.out.below hbm)
    replace HWH := Lib.hid (HWH.out.below hbm)
    replace HB := Lib.hid (HB.out.trans (hbm.mono HB.out.size))
    clear hbm
    have HOW := Lib.hid (own_any (.slice a rows.length cap) (.slice a2 owners.length cap2) (.slice a3 who.length cap3) w4 ⟨_, _, _, rfl⟩ ⟨_, _, _, rfl⟩ ⟨_, _, _, rfl⟩)
    refine HOW.out.mono ?_
    rintro e w5 ⟨rfl, hw5⟩
    clear HOW
    have h41 := below_new w4 #[.slice a rows.length cap, .slice a2 owners.length cap2] 25
    have h42 := below_new (w4.alloc (.cells #[.slice a rows.length cap, .slice a2 owners.length cap2] 25)) #[.slice a3 who.length cap3] 23
    have s41 : (w4.alloc (.cells #[.slice a rows.length cap, .slice a2 owners.length cap2] 25)).heap.size = w4.heap.size + 1 := by simp
    have hb5 : Below w4.heap.size w4 w5 := by rw [hw5]; exact h41.trans (h42.mono h41.size)
    have hz5 : w5.heap.size = w4.heap.size + 1 + 1 := by rw [hw5]; simp
    have p0 : w5.heap[w4.heap.size]? = some (.cells #[.slice a rows.length cap, .slice a2 owners.length cap2] 25 (0, 0)) := by
     rw [hw5, h42.block _ (by rw [s41]; omega)]; exact World.alloc_heap_new _ _
    have p1 : w5.heap[w4.heap.size + 1]? = some (.cells #[.slice a3 who.length cap3] 23 (0, 0)) := by
     rw [hw5, ← s41]; exact World.alloc_heap_new _ _
    replace hr1 := (hb5.block _ (by omega)).trans hr1
    replace hr2 := (hb5.block _ (by omega)).trans hr2
    replace HIB := Lib.hid (HIB.out.below hb5 (by omega))
    replace HR := Lib.hid (HR.out.below hb5)
    replace HO := Lib.hid (HO.out.below hb5)
    replace HWH := Lib.hid (HWH.out.below hb5)
    replace HB := Lib.hid (HB.out.trans (hb5.mono HB.out.size))
    have HZ4 := Lib.hid hz4
    have HZ5 := Lib.hid hz5
    clear hb5 hw5 h41 h42 s41 z0 z1 hz4 hz5
    go_wp2_with fail
    have hz4 := HZ4.out
    have hz5 := HZ5.out
    obtain ⟨ga, gc, g, hge, hgs, hgk⟩ := rows_vals HR0.out
    simp only [Value.slice.injEq] at hge
    obtain ⟨rfl, -, rfl⟩ := hge
    have HGK := Lib.hid hgk
    have HGS := Lib.hid hgs
    clear hgk hgs
    obtain ⟨N, hN⟩ : ∃ N, N = (ownL owners who rows.length).length := ⟨_, rfl⟩
    obtain ⟨at_, hat⟩ : ∃ at_ : Nat → Nat, at_ = fun j => (ownL owners who rows.length).getD j 0 := ⟨_, rfl⟩
    have hall := peopleB_all HPE.out
    have HN2 := Lib.hid hN
    have HAT := Lib.hid hat
    have hN64 : N ≤ 64 := by rw [hN]; have := ownL_len owners who rows.length; have := HPO.out.few; omega
    clear hN hat
    have HF : Hid (∀ j W, PairI w w5 (w.heap.size + 1) w5.heap.size (fun j => g (at_ j)) (fun j => .int .i64 (at_ j)) j W → (∀ k, k < rows.length → ∃ b off, a = some ⟨b, off, none⟩ ∧ W.cell? ⟨b, off + k, none⟩ = some (g k)) ∧ Ints W (.slice a2 owners.length cap2) owners ∧ Ints W (.slice a3 who.length cap3) who ∧ W.cell? ⟨w4.heap.size, 0, none⟩ = some (.slice a rows.length cap) ∧ W.cell? ⟨w4.heap.size, 1, none⟩ = some (.slice a2 owners.length cap2) ∧ W.cell? ⟨w4.heap.size + 1, 0, none⟩ = some (.slice a3 who.length cap3)) := Lib.hid (by
     intro j W h
     have q0 := (h.same w4.heap.size (by omega) (by omega) (by omega)).trans p0
     have q1 := (h.same (w4.heap.size + 1) (by omega) (by omega) (by omega)).trans p1
     exact ⟨fun k hk => by obtain ⟨b, off, h1, h2, -⟩ := HGK.out k hk; exact ⟨b, off, h1, below_cell h.be h2⟩, HO0.out.below h.be, HW0.out.below h.be, row_cell q0 rfl, row_cell q0 rfl, row_cell q1 rfl⟩)
    have h00 : PairI w w5 (w.heap.size + 1) w5.heap.size (fun j => g (at_ j)) (fun j => .int .i64 (at_ j)) 0 w5 :=
     ⟨HB.out, Nat.le_refl _, fun _ _ _ _ => rfl, _, _, hr1, hr2, ⟨World.ownsRow_nil _ _ _ _, World.ownsRow_nil _ _ _ _, fun q h => by cases h⟩⟩
    refine wp_range42 (gf := 207) (lb := #[.pointer (some ⟨w4.heap.size, 0, none⟩), .pointer (some ⟨w4.heap.size + 1, 0, none⟩)]) (N := N) (encs := fun j => #[.int .i64 (at_ j), g (at_ j)]) rfl own1_goes (fun _ => rfl)
     (fun j => PairI w w5 (w.heap.size + 1) w5.heap.size (fun j => g (at_ j)) (fun j => .int .i64 (at_ j)) j) (fun _ _ _ => False) ?seq ?simI (fun _ _ _ _ h _ => h) h00
     (fun j t => (((t.setIfInBounds 51 (.int .i64 (at_ j))).setIfInBounds 52 (g (at_ j))).setIfInBounds 12 (.int .i64 (at_ j))).setIfInBounds 13 (g (at_ j))) ?assign ?body ?done (fun _ _ _ _ _ _ h => h.elim)
    case seq =>
     have hN := HN2.out
     have hat := HAT.out
     subst hN hat
     exact own1_iterates w4.heap.size (w4.heap.size + 1) _ _ _ rows owners who a cap g rfl HGS.out HPO.out.len.symm (by have := HPO.out.few; omega) hall.2.2.1 (by have := peopleB_len HPE.out; omega) _ HF.out
    case simI => exact fun j W W' h hs => pairI_sim h (Nat.le_refl _) HB.out.size hs
    case assign =>
     clear hz4 hz5 hz2
     intro l j W K hK
     gi_wp2
     exact hK
    case body =>
     have HBC : Hid (w.heap.size + 1 + 1 < w5.heap.size) := Lib.hid (by omega)
     clear hz4 hz5 hz2
     intro l j W hI hlt
     obtain ⟨L1, L2, r1, r2, hT⟩ := hI.row
     simp only [List.setIfInBounds_toArray, List.set_cons_succ, List.set_cons_zero]
     have x1 : W.cell? ⟨w.heap.size + 1, 0, none⟩ = some L1 := row_cell r1 rfl
     have x2 : W.cell? ⟨w.heap.size + 1 + 1, 0, none⟩ = some L2 := row_cell r2 rfl
     obtain ⟨gx, gn, gk, hgj⟩ := HGS.out (at_ j)
     have HGJ := Lib.hid hgj
     have HI := Lib.hid hI
     have HT := Lib.hid hT
     have HR1 := Lib.hid r1
     have HR2 := Lib.hid r2
     rw [hgj]
     have hj6 : j ≤ 1000000 := by omega
     have HGJ2 : Hid (g (at_ j) = .slice gx gn gk) := Lib.hid hgj
     clear hgj hI hT r1 r2
     gi_wp2
     refine wpIn_region_L (fun W' => W'.cell? ⟨w.heap.size + 1, 0, none⟩ = some L1 ∧ W'.cell? ⟨w.heap.size + 1 + 1, 0, none⟩ = some L2) [7, 8, 9] (by kernel_rfl) (by
      intro o ho
      simp only [List.mem_cons, List.not_mem_nil, or_false] at ho
      rcases ho with rfl | rfl | rfl | rfl | rfl | rfl | rfl | rfl | rfl | rfl
      ·exact plain_load
      ·exact plain_move
      ·exact plain_buildSlice
      ·exact plain_append
      ·exact plain_load
      ·exact plain_move
      ·exact plain_buildSlice
      ·exact plain_append
      ·exact plain_store
      ·exact plain_store) (fun h => by obtain ⟨_, _, h⟩ := h; exact h) ?_
     have hS0 : (fun W' : World => W'.cell? ⟨w.heap.size + 1, 0, none⟩ = some L1 ∧ W'.cell? ⟨w.heap.size + 1 + 1, 0, none⟩ = some L2) W.drew := ⟨x1, x2⟩
     refine takeL [3, 7, 8, 9] (some 53) L1 (i := 0) rfl rfl (by kernel_rfl) (by kernel_rfl) (by kernel_rfl) (fun _ _ _ h => h) (by kernel_rfl) (by kernel_rfl) (by kernel_rfl) (by kernel_rfl) (by kernel_rfl) (fun w hSw => by obtain ⟨hS1, hS2⟩ := hSw; go_simp) hS0 ?_
     simp only [Act.put, List.setIfInBounds_toArray, List.set_cons_zero, List.set_cons_succ]
     refine takeL [2, 3, 7, 8, 9] (some 54) _ (i := 1) rfl rfl (by kernel_rfl) (by kernel_rfl) (by kernel_rfl) (fun _ _ _ h => h) (by kernel_rfl) (by kernel_rfl) (by kernel_rfl) (by kernel_rfl) (by kernel_rfl) (fun w _ => by rfl) hS0 ?_
     simp only [Act.put, List.setIfInBounds_toArray, List.set_cons_zero, List.set_cons_succ]
     refine takeL [7, 8, 9] (some 57) L2 (i := 4) rfl rfl (by kernel_rfl) (by kernel_rfl) (by kernel_rfl) (fun _ _ _ h => h) (by kernel_rfl) (by kernel_rfl) (by kernel_rfl) (by kernel_rfl) (by kernel_rfl) (fun w hSw => by obtain ⟨hS1, hS2⟩ := hSw; go_simp) hS0 ?_
     simp only [Act.put, List.setIfInBounds_toArray, List.set_cons_zero, List.set_cons_succ]
     refine takeL [6, 7, 8, 9] (some 58) _ (i := 5) rfl rfl (by kernel_rfl) (by kernel_rfl) (by kernel_rfl) (fun _ _ _ h => h) (by kernel_rfl) (by kernel_rfl) (by kernel_rfl) (by kernel_rfl) (by kernel_rfl) (fun w _ => by rfl) hS0 ?_
     simp only [Act.put, List.setIfInBounds_toArray, List.set_cons_zero, List.set_cons_succ]
     have HSX : Hid (∀ X, Below w5.heap.size W X → X.cell? ⟨w.heap.size + 1, 0, none⟩ = some L1 ∧ X.cell? ⟨w.heap.size + 1 + 1, 0, none⟩ = some L2) := Lib.hid (fun X hb => ⟨(hb.cell (p := ⟨w.heap.size + 1, 0, none⟩) (by show w.heap.size + 1 < _; have := HBC.out; omega)).trans x1, (hb.cell (p := ⟨w.heap.size + 1 + 1, 0, none⟩) (by show w.heap.size + 1 + 1 < _; exact HBC.out)).trans x2⟩)
     have HFX : Hid (∀ X, Below w5.heap.size W X → X.frozen? ⟨w.heap.size + 1, 0, none⟩ = false ∧ X.frozen? ⟨w.heap.size + 1 + 1, 0, none⟩ = false) := Lib.hid (fun X hb => ⟨row_free ((hb.block _ (by have := HBC.out; omega)).trans HR1.out) 0, row_free ((hb.block _ HBC.out).trans HR2.out) 0⟩)
     obtain ⟨X0, hX0⟩ : ∃ X, X = W.drew := ⟨_, rfl⟩
     rw [← hX0] at hS0 ⊢
     have hbX : Below W.heap.size W X0 := hX0 ▸ (Below.refl _ _).drew
     have HTX := Lib.hid (HT.out.keep hbX)
     have HKX := Lib.hid (keeps_of_below hbX)
     have HBX := Lib.hid (hbX.mono HI.out.size)
     have HBZ : Hid (w5.heap.size ≤ X0.heap.size) := Lib.hid (Nat.le_trans HI.out.size hbX.size)
     clear hX0 hbX hS0 x1 x2
     refine wpAnyL_ready (rs := [2, 6]) (by kernel_rfl) (by simp) ?_
     refine AllReadyL.cons rfl rfl (fun K hK => ?_) (AllReadyL.cons rfl rfl (fun K hK => ?_) AllReadyL.nil)
     ·rw [if_pos (by rfl)]
      go_simp
      obtain ⟨X1, hX1⟩ : ∃ X, X = X0.alloc (.cells #[.slice gx gn gk] 23) := ⟨_, rfl⟩
      rw [← hX1]
      have hbX1 : Below X0.heap.size X0 X1 := hX1 ▸ below_new _ _ _
      have HC2 : Hid (X1.cell? ⟨X0.heap.size, 0, none⟩ = some (.slice gx gn gk)) := Lib.hid (by rw [hX1]; exact row_cell (World.alloc_heap_new _ _) rfl)
      replace HKX : Hid (KeepsOthers W X1) := Lib.hid (HKX.out.trans (keeps_of_below hbX1))
      replace HTX := Lib.hid (HTX.out.keep hbX1)
      replace HBX := Lib.hid (HBX.out.trans (hbX1.mono HBZ.out))
      replace HBZ : Hid (w5.heap.size ≤ X1.heap.size) := Lib.hid (Nat.le_trans HBZ.out hbX1.size)
      refine hK.out _ _ (HSX.out _ HBX.out) ?_
      clear hK K hX1 hbX1
      try simp only [Act.put, List.setIfInBounds_toArray, List.set_cons_zero, List.set_cons_succ]
      refine wpAnyL_ready (rs := [3, 6]) (by kernel_rfl) (by simp) ?_
      refine AllReadyL.cons rfl rfl (fun K hK => ?_) (AllReadyL.cons rfl rfl (fun K hK => ?_) AllReadyL.nil)
      ·refine step_app_row (by rfl) _ _ (by rfl) w5.heap.size j L1 _ (by rfl) HTX.out.a X0.heap.size 1 (.slice gx gn gk) (by rfl) HC2.out (by rfl) hj6 HBZ.out _ rfl ?_
       intro g1 cap1 X2 h9 hg9 hat9 hlt9
       have hb9 := own_below HTX.out.a hg9 HBZ.out
       replace HKX : Hid (KeepsOthers W X2) := Lib.hid (HKX.out.trans (keeps_grown HTX.out.a hg9))
       replace HTX := Lib.hid (HTX.out.one h9 hg9 hat9)
       replace HBX := Lib.hid (HBX.out.trans hb9)
       replace HBZ : Hid (w5.heap.size ≤ X2.heap.size) := Lib.hid (Nat.le_trans HBZ.out hb9.size)
       refine hK.out _ _ (HSX.out _ HBX.out) ?_
       clear hK K h9 hg9 hat9 hlt9 hb9
       try simp only [Act.put, List.setIfInBounds_toArray]
       refine wpAnyL_ready (rs := [6]) (by kernel_rfl) (by simp) ?_
       refine AllReadyL.cons rfl rfl (fun K hK => ?_) AllReadyL.nil
       rw [if_pos (by rfl)]
       go_simp
       have HN6 := Lib.hid (own_ne HTX.out.a (b := X2.heap.size) (.inl (Nat.le_refl _)))
       obtain ⟨X3, hX3⟩ : ∃ X, X = X2.alloc (.cells #[.int .i64 (at_ j)] 3) := ⟨_, rfl⟩
       rw [← hX3]
       have hbX3 : Below X2.heap.size X2 X3 := hX3 ▸ below_new _ _ _
       have HC6 : Hid (X3.cell? ⟨X2.heap.size, 0, none⟩ = some (.int .i64 (at_ j))) := Lib.hid (by rw [hX3]; exact row_cell (World.alloc_heap_new _ _) rfl)
       replace HKX : Hid (KeepsOthers W X3) := Lib.hid (HKX.out.trans (keeps_of_below hbX3))
       replace HTX := Lib.hid (HTX.out.keep hbX3)
       replace HBX := Lib.hid (HBX.out.trans (hbX3.mono HBZ.out))
       replace HBZ : Hid (w5.heap.size ≤ X3.heap.size) := Lib.hid (Nat.le_trans HBZ.out hbX3.size)
       refine hK.out _ _ (HSX.out _ HBX.out) ?_
       clear hK K hX3 hbX3
       try simp only [Act.put, List.setIfInBounds_toArray, List.set_cons_zero, List.set_cons_succ]
       refine wpAnyL_ready (rs := [7]) (by kernel_rfl) (by simp) ?_
       refine AllReadyL.late rfl rfl (fun K hK => ?_) AllReadyL.nil
       refine step_app_int (by rfl) _ _ (by rfl) w5.heap.size j L2 _ (by rfl) HTX.out.b X2.heap.size 1 (at_ j) (by rfl) HC6.out hj6 HBZ.out _ rfl ?_
       intro g2 cap2' X4 h9 hg9 hat9 hlt9
       have hb9 := own_below HTX.out.b hg9 HBZ.out
       replace HKX : Hid (KeepsOthers W X4) := Lib.hid (HKX.out.trans (keeps_grown HTX.out.b hg9))
       replace HTX := Lib.hid (HTX.out.two h9 hg9 hat9)
       replace HBX := Lib.hid (HBX.out.trans hb9)
       replace HBZ : Hid (w5.heap.size ≤ X4.heap.size) := Lib.hid (Nat.le_trans HBZ.out hb9.size)
       refine hK.out _ _ ?_
       clear hK K h9 hg9 hat9 hlt9 hb9
       obtain ⟨y1, y2⟩ := HSX.out _ HBX.out
       obtain ⟨f1, f2⟩ := HFX.out _ HBX.out
       try simp only [Act.put]
       refine wpAnyL_ready (rs := [8]) (by kernel_rfl) (by simp) ?_
       refine AllReadyL.late rfl rfl (fun K hK => ?_) AllReadyL.nil
       rw [if_pos (by rfl)]
       go_simp
       refine hK.out _ _ ?_
       clear hK K
       try simp only [Act.put, List.setIfInBounds_toArray, List.set_cons_zero, List.set_cons_succ]
       refine wpAnyL_ready (rs := [9]) (by kernel_rfl) (by simp) ?_
       refine AllReadyL.late rfl rfl (fun K hK => ?_) AllReadyL.nil
       rw [if_pos (by rfl)]
       have y3 : (X4.setCell ⟨w.heap.size + 1, 0, none⟩ (.slice (some ⟨g1, 0, none⟩) (j + 1) cap1)).cell? ⟨w.heap.size + 1 + 1, 0, none⟩ = some L2 := by rw [World.cell?_setCell_far _ _ _ _ (by simp)]; exact y2
       have f3 : (X4.setCell ⟨w.heap.size + 1, 0, none⟩ (.slice (some ⟨g1, 0, none⟩) (j + 1) cap1)).frozen? ⟨w.heap.size + 1 + 1, 0, none⟩ = false := by rw [World.frozen?_setCell]; exact f2
       go_simp
       refine hK.out _ _ ?_
       clear hK K
       try simp only [Act.put, List.setIfInBounds_toArray, List.set_cons_zero, List.set_cons_succ]
       refine wpAnyL_done (by kernel_rfl) ?_ _
       gi_wp2
       refine ⟨pair_keeps HKX.out, pairI_next HI.out (by omega) HBC.out HBX.out ?_⟩
       rw [range_snoc, range_snoc, HGJ2.out]
       exact HTX.out
      ·rw [if_pos (by rfl)]
       go_simp
       have HN6 := Lib.hid (own_ne HTX.out.a (b := X1.heap.size) (.inl (Nat.le_refl _)))
       obtain ⟨X2, hX2⟩ : ∃ X, X = X1.alloc (.cells #[.int .i64 (at_ j)] 3) := ⟨_, rfl⟩
       rw [← hX2]
       have hbX2 : Below X1.heap.size X1 X2 := hX2 ▸ below_new _ _ _
       have HC6 : Hid (X2.cell? ⟨X1.heap.size, 0, none⟩ = some (.int .i64 (at_ j))) := Lib.hid (by rw [hX2]; exact row_cell (World.alloc_heap_new _ _) rfl)
       replace HC2 := Lib.hid (below_cell hbX2 HC2.out)
       replace HKX : Hid (KeepsOthers W X2) := Lib.hid (HKX.out.trans (keeps_of_below hbX2))
       replace HTX := Lib.hid (HTX.out.keep hbX2)
       replace HBX := Lib.hid (HBX.out.trans (hbX2.mono HBZ.out))
       replace HBZ : Hid (w5.heap.size ≤ X2.heap.size) := Lib.hid (Nat.le_trans HBZ.out hbX2.size)
       refine hK.out _ _ (HSX.out _ HBX.out) ?_
       clear hK K hX2 hbX2
       try simp only [Act.put, List.setIfInBounds_toArray, List.set_cons_zero, List.set_cons_succ]
       refine wpAnyL_ready (rs := [3]) (by kernel_rfl) (by simp) ?_
       refine AllReadyL.cons rfl rfl (fun K hK => ?_) AllReadyL.nil
       refine step_app_row (by rfl) _ _ (by rfl) w5.heap.size j L1 _ (by rfl) HTX.out.a X0.heap.size 1 (.slice gx gn gk) (by rfl) HC2.out (by rfl) hj6 HBZ.out _ rfl ?_
       intro g1 cap1 X3 h9 hg9 hat9 hlt9
       have hb9 := own_below HTX.out.a hg9 HBZ.out
       replace HKX : Hid (KeepsOthers W X3) := Lib.hid (HKX.out.trans (keeps_grown HTX.out.a hg9))
       replace HC6 : Hid (X3.cell? ⟨X1.heap.size, 0, none⟩ = some (.int .i64 (at_ j))) := Lib.hid ((World.cell?_of_block (a := ⟨X1.heap.size, 0, none⟩) (hg9.block _ (lt_of_cell HC6.out) (fun e => HN6.out e.symm))).trans HC6.out)
       replace HTX := Lib.hid (HTX.out.one h9 hg9 hat9)
       replace HBX := Lib.hid (HBX.out.trans hb9)
       replace HBZ : Hid (w5.heap.size ≤ X3.heap.size) := Lib.hid (Nat.le_trans HBZ.out hb9.size)
       refine hK.out _ _ (HSX.out _ HBX.out) ?_
       clear hK K h9 hg9 hat9 hlt9 hb9
       try simp only [Act.put, List.setIfInBounds_toArray]
       refine wpAnyL_ready (rs := [7]) (by kernel_rfl) (by simp) ?_
       refine AllReadyL.late rfl rfl (fun K hK => ?_) AllReadyL.nil
       refine step_app_int (by rfl) _ _ (by rfl) w5.heap.size j L2 _ (by rfl) HTX.out.b X1.heap.size 1 (at_ j) (by rfl) HC6.out hj6 HBZ.out _ rfl ?_
       intro g2 cap2' X4 h9 hg9 hat9 hlt9
       have hb9 := own_below HTX.out.b hg9 HBZ.out
       replace HKX : Hid (KeepsOthers W X4) := Lib.hid (HKX.out.trans (keeps_grown HTX.out.b hg9))
       replace HTX := Lib.hid (HTX.out.two h9 hg9 hat9)
       replace HBX := Lib.hid (HBX.out.trans hb9)
       replace HBZ : Hid (w5.heap.size ≤ X4.heap.size) := Lib.hid (Nat.le_trans HBZ.out hb9.size)
       refine hK.out _ _ ?_
       clear hK K h9 hg9 hat9 hlt9 hb9
       obtain ⟨y1, y2⟩ := HSX.out _ HBX.out
       obtain ⟨f1, f2⟩ := HFX.out _ HBX.out
       try simp only [Act.put]
       refine wpAnyL_ready (rs := [8]) (by kernel_rfl) (by simp) ?_
       refine AllReadyL.late rfl rfl (fun K hK => ?_) AllReadyL.nil
       rw [if_pos (by rfl)]
       go_simp
       refine hK.out _ _ ?_
       clear hK K
       try simp only [Act.put, List.setIfInBounds_toArray, List.set_cons_zero, List.set_cons_succ]
       refine wpAnyL_ready (rs := [9]) (by kernel_rfl) (by simp) ?_
       refine AllReadyL.late rfl rfl (fun K hK => ?_) AllReadyL.nil
       rw [if_pos (by rfl)]
       have y3 : (X4.setCell ⟨w.heap.size + 1, 0, none⟩ (.slice (some ⟨g1, 0, none⟩) (j + 1) cap1)).cell? ⟨w.heap.size + 1 + 1, 0, none⟩ = some L2 := by rw [World.cell?_setCell_far _ _ _ _ (by simp)]; exact y2
       have f3 : (X4.setCell ⟨w.heap.size + 1, 0, none⟩ (.slice (some ⟨g1, 0, none⟩) (j + 1) cap1)).frozen? ⟨w.heap.size + 1 + 1, 0, none⟩ = false := by rw [World.frozen?_setCell]; exact f2
       go_simp
       refine hK.out _ _ ?_
       clear hK K
       try simp only [Act.put, List.setIfInBounds_toArray, List.set_cons_zero, List.set_cons_succ]
       refine wpAnyL_done (by kernel_rfl) ?_ _
       gi_wp2
       refine ⟨pair_keeps HKX.out, pairI_next HI.out (by omega) HBC.out HBX.out ?_⟩
       rw [range_snoc, range_snoc, HGJ2.out]
       exact HTX.out
     ·rw [if_pos (by rfl)]
      go_simp
      have HN6 := Lib.hid (own_ne HTX.out.a (b := X0.heap.size) (.inl (Nat.le_refl _)))
      obtain ⟨X1, hX1⟩ : ∃ X, X = X0.alloc (.cells #[.int .i64 (at_ j)] 3) := ⟨_, rfl⟩
      rw [← hX1]
      have hbX1 : Below X0.heap.size X0 X1 := hX1 ▸ below_new _ _ _
      have HC6 : Hid (X1.cell? ⟨X0.heap.size, 0, none⟩ = some (.int .i64 (at_ j))) := Lib.hid (by rw [hX1]; exact row_cell (World.alloc_heap_new _ _) rfl)
      replace HKX : Hid (KeepsOthers W X1) := Lib.hid (HKX.out.trans (keeps_of_below hbX1))
      replace HTX := Lib.hid (HTX.out.keep hbX1)
      replace HBX := Lib.hid (HBX.out.trans (hbX1.mono HBZ.out))
      replace HBZ : Hid (w5.heap.size ≤ X1.heap.size) := Lib.hid (Nat.le_trans HBZ.out hbX1.size)
      refine hK.out _ _ (HSX.out _ HBX.out) ?_
      clear hK K hX1 hbX1
      try simp only [Act.put, List.setIfInBounds_toArray, List.set_cons_zero, List.set_cons_succ]
      refine wpAnyL_ready (rs := [2]) (by kernel_rfl) (by simp) ?_
      refine AllReadyL.cons rfl rfl (fun K hK => ?_) AllReadyL.nil
      rw [if_pos (by rfl)]
      go_simp
      obtain ⟨X2, hX2⟩ : ∃ X, X = X1.alloc (.cells #[.slice gx gn gk] 23) := ⟨_, rfl⟩
      rw [← hX2]
      have hbX2 : Below X1.heap.size X1 X2 := hX2 ▸ below_new _ _ _
      have HC2 : Hid (X2.cell? ⟨X1.heap.size, 0, none⟩ = some (.slice gx gn gk)) := Lib.hid (by rw [hX2]; exact row_cell (World.alloc_heap_new _ _) rfl)
      replace HC6 := Lib.hid (below_cell hbX2 HC6.out)
      replace HKX : Hid (KeepsOthers W X2) := Lib.hid (HKX.out.trans (keeps_of_below hbX2))
      replace HTX := Lib.hid (HTX.out.keep hbX2)
      replace HBX := Lib.hid (HBX.out.trans (hbX2.mono HBZ.out))
      replace HBZ : Hid (w5.heap.size ≤ X2.heap.size) := Lib.hid (Nat.le_trans HBZ.out hbX2.size)
      refine hK.out _ _ (HSX.out _ HBX.out) ?_
      clear hK K hX2 hbX2
      try simp only [Act.put, List.setIfInBounds_toArray, List.set_cons_zero, List.set_cons_succ]
      refine wpAnyL_ready (rs := [3]) (by kernel_rfl) (by simp) ?_
      refine AllReadyL.cons rfl rfl (fun K hK => ?_) AllReadyL.nil
      refine step_app_row (by rfl) _ _ (by rfl) w5.heap.size j L1 _ (by rfl) HTX.out.a X1.heap.size 1 (.slice gx gn gk) (by rfl) HC2.out (by rfl) hj6 HBZ.out _ rfl ?_
      intro g1 cap1 X3 h9 hg9 hat9 hlt9
      have hb9 := own_below HTX.out.a hg9 HBZ.out
      replace HKX : Hid (KeepsOthers W X3) := Lib.hid (HKX.out.trans (keeps_grown HTX.out.a hg9))
      replace HC6 : Hid (X3.cell? ⟨X0.heap.size, 0, none⟩ = some (.int .i64 (at_ j))) := Lib.hid ((World.cell?_of_block (a := ⟨X0.heap.size, 0, none⟩) (hg9.block _ (lt_of_cell HC6.out) (fun e => HN6.out e.symm))).trans HC6.out)
      replace HTX := Lib.hid (HTX.out.one h9 hg9 hat9)
      replace HBX := Lib.hid (HBX.out.trans hb9)
      replace HBZ : Hid (w5.heap.size ≤ X3.heap.size) := Lib.hid (Nat.le_trans HBZ.out hb9.size)
      refine hK.out _ _ (HSX.out _ HBX.out) ?_
      clear hK K h9 hg9 hat9 hlt9 hb9
      try simp only [Act.put, List.setIfInBounds_toArray]
      refine wpAnyL_ready (rs := [7]) (by kernel_rfl) (by simp) ?_
      refine AllReadyL.late rfl rfl (fun K hK => ?_) AllReadyL.nil
      refine step_app_int (by rfl) _ _ (by rfl) w5.heap.size j L2 _ (by rfl) HTX.out.b X0.heap.size 1 (at_ j) (by rfl) HC6.out hj6 HBZ.out _ rfl ?_
      intro g2 cap2' X4 h9 hg9 hat9 hlt9
      have hb9 := own_below HTX.out.b hg9 HBZ.out
      replace HKX : Hid (KeepsOthers W X4) := Lib.hid (HKX.out.trans (keeps_grown HTX.out.b hg9))
      replace HTX := Lib.hid (HTX.out.two h9 hg9 hat9)
      replace HBX := Lib.hid (HBX.out.trans hb9)
      replace HBZ : Hid (w5.heap.size ≤ X4.heap.size) := Lib.hid (Nat.le_trans HBZ.out hb9.size)
      refine hK.out _ _ ?_
      clear hK K h9 hg9 hat9 hlt9 hb9
      obtain ⟨y1, y2⟩ := HSX.out _ HBX.out
      obtain ⟨f1, f2⟩ := HFX.out _ HBX.out
      try simp only [Act.put]
      refine wpAnyL_ready (rs := [8]) (by kernel_rfl) (by simp) ?_
      refine AllReadyL.late rfl rfl (fun K hK => ?_) AllReadyL.nil
      rw [if_pos (by rfl)]
      go_simp
      refine hK.out _ _ ?_
      clear hK K
      try simp only [Act.put, List.setIfInBounds_toArray, List.set_cons_zero, List.set_cons_succ]
      refine wpAnyL_ready (rs := [9]) (by kernel_rfl) (by simp) ?_
      refine AllReadyL.late rfl rfl (fun K hK => ?_) AllReadyL.nil
      rw [if_pos (by rfl)]
      have y3 : (X4.setCell ⟨w.heap.size + 1, 0, none⟩ (.slice (some ⟨g1, 0, none⟩) (j + 1) cap1)).cell? ⟨w.heap.size + 1 + 1, 0, none⟩ = some L2 := by rw [World.cell?_setCell_far _ _ _ _ (by simp)]; exact y2
      have f3 : (X4.setCell ⟨w.heap.size + 1, 0, none⟩ (.slice (some ⟨g1, 0, none⟩) (j + 1) cap1)).frozen? ⟨w.heap.size + 1 + 1, 0, none⟩ = false := by rw [World.frozen?_setCell]; exact f2
      go_simp
      refine hK.out _ _ ?_
      clear hK K
      try simp only [Act.put, List.setIfInBounds_toArray, List.set_cons_zero, List.set_cons_succ]
      refine wpAnyL_done (by kernel_rfl) ?_ _
      gi_wp2
      refine ⟨pair_keeps HKX.out, pairI_next HI.out (by omega) HBC.out HBX.out ?_⟩
      rw [range_snoc, range_snoc, HGJ2.out]
      exact HTX.out
    case done =>
     intro D W hD hI hDW hO'
     have HIW : Hid (IBlk W wc.heap.size n tgtF) := Lib.hid (by
      have hs := hI.same wc.heap.size (by omega) (by omega) (by omega)
      exact ⟨fun i hi => (World.cell?_of_block (a := ⟨wc.heap.size, i, none⟩) hs).trans (HIB.out.cell i hi), fun i hi => (World.frozen?_of_block (a := ⟨wc.heap.size, i, none⟩) hs).trans (HIB.out.fro i hi)⟩)
     have HTI : Hid (Ints W (.slice (some ⟨wc.heap.size, 0, none⟩) n n) (tgt n)) := Lib.hid (HIW.out.ints (c := n) (Nat.le_refl _) (by omega) (fun i _ => by unfold tgtF; split <;> exact R64.mk (by omega) (by omega)))
     obtain ⟨L1, L2, r1, r2, hT⟩ := hI.row
     have HV1 : Hid (Rows2 W L1 (pownR rows owners who)) := Lib.hid (Rows2.own hT.a (by rw [HN2.out]; simp [pownR]) (by simp [pownR]; have := ownL_len owners who rows.length; have := HPO.out.few; omega) (by
      intro k h1 h2
      have hk : k < (ownL owners who rows.length).length := by simpa [pownR] using h1
      have hm := (ownL_lt (List.getElem_mem hk)).1
      obtain ⟨b, off, -, -, h3⟩ := HGK.out _ hm
      have e1 : ((List.range N).map (fun j => g (at_ j)))[k] = g (ownL owners who rows.length)[k] := by
       rw [List.getElem_map, List.getElem_range, HAT.out]; show g ((ownL owners who rows.length).getD k 0) = _; rw [getD_at hk]
      have e2 : (pownR rows owners who)[k] = rows[(ownL owners who rows.length)[k]] := by
       simp only [pownR, List.getElem_map]; exact getD_at hm []
      rw [e1, e2]
      exact h3.below hI.be))
     have HV2 : Hid (Ints W L2 (pownN rows owners who)) := Lib.hid (Ints.own (zs := pownN rows owners who) (by
      have e : (pownN rows owners who).map (Value.int .i64) = (List.range N).map (fun j => Value.int .i64 (at_ j)) := by
       refine List.ext_getElem (by rw [HN2.out]; simp [pownN]) fun k h1 h2 => ?_
       have hk : k < (ownL owners who rows.length).length := by simpa [pownN] using h1
       simp only [pownN, List.getElem_map, List.getElem_range, HAT.out, getD_at hk]
      rw [e]; exact hT.b) (by
      intro z hz
      obtain ⟨i, hi, rfl⟩ := List.mem_map.1 hz
      have := (ownL_lt hi).1
      have := HPO.out.few
      exact R64.mk (by omega) (by omega)) (by simp [pownN]; have := ownL_len owners who rows.length; have := HPO.out.few; omega))
     have x1 : W.cell? ⟨w.heap.size + 1, 0, none⟩ = some L1 := row_cell r1 rfl
     have x2 : W.cell? ⟨w.heap.size + 1 + 1, 0, none⟩ = some L2 := row_cell r2 rfl
     have f1 := row_free r1 0
     have f2 := row_free r2 0
     obtain ⟨b1, k1, m1, rfl⟩ := own_is hT.a
     obtain ⟨b2, k2, m2, rfl⟩ := own_is hT.b
     have x1d : W.drew.cell? ⟨w.heap.size + 1, 0, none⟩ = some (.slice b1 k1 m1) := x1
     have x2d : W.drew.cell? ⟨w.heap.size + 1 + 1, 0, none⟩ = some (.slice b2 k2 m2) := x2
     have f1d : W.drew.frozen? ⟨w.heap.size + 1, 0, none⟩ = false := f1
     have f2d : W.drew.frozen? ⟨w.heap.size + 1 + 1, 0, none⟩ = false := f2
     have f3d : (W.drew.setCell ⟨w.heap.size + 1, 0, none⟩ (.slice b1 k1 m1)).frozen? ⟨w.heap.size + 1 + 1, 0, none⟩ = false := by rw [World.frozen?_setCell]; exact f2
     have y1 : (W.drew.setCell ⟨w.heap.size + 1, 0, none⟩ (.slice b1 k1 m1)).cell? ⟨w.heap.size + 1, 0, none⟩ = some (.slice b1 k1 m1) := World.cell?_setCell_same' _ _ _ (by rw [x1d]; rfl)
     have y2 : (W.drew.setCell ⟨w.heap.size + 1, 0, none⟩ (.slice b1 k1 m1)).cell? ⟨w.heap.size + 1 + 1, 0, none⟩ = some (.slice b2 k2 m2) := by rw [World.cell?_setCell_far _ _ _ _ (by simp)]; exact x2
     have u1 : ((W.drew.setCell ⟨w.heap.size + 1, 0, none⟩ (.slice b1 k1 m1)).setCell ⟨w.heap.size + 1 + 1, 0, none⟩ (.slice b2 k2 m2)).cell? ⟨w.heap.size + 1, 0, none⟩ = some (.slice b1 k1 m1) := by rw [World.cell?_setCell_far _ _ _ _ (by simp)]; exact y1
     have u2 : ((W.drew.setCell ⟨w.heap.size + 1, 0, none⟩ (.slice b1 k1 m1)).setCell ⟨w.heap.size + 1 + 1, 0, none⟩ (.slice b2 k2 m2)).cell? ⟨w.heap.size + 1 + 1, 0, none⟩ = some (.slice b2 k2 m2) := World.cell?_setCell_same' _ _ _ (by rw [y2]; rfl)
     have HBE := Lib.hid hI.be
     clear hI hT r1 r2 hz4 hz5 hz2
     go_wp2_with fail
     go_region_held3 (fun w' => w'.cell? ⟨w.heap.size + 1, 0, none⟩ = some (.slice b1 k1 m1) ∧ w'.cell? ⟨w.heap.size + 1 + 1, 0, none⟩ = some (.slice b2 k2 m2)) (first | exact ⟨x1d, x2d⟩ | exact ⟨y1, y2⟩ | exact ⟨u1, u2⟩ | go_keep) (fail)
     go_wp2_with fail
     have hcl : ∀ b o u, W.cell? ⟨b, o, none⟩ = some u → ((W.setCell ⟨w.heap.size + 1, 0, none⟩ (.slice b1 k1 m1)).setCell ⟨w.heap.size + 1 + 1, 0, none⟩ (.slice b2 k2 m2)).drew.cell? ⟨b, o, none⟩ = some u := fun b o u h => set_same_cells (set_same_cells x1 _ _ _ x2) _ _ _ (set_same_cells x1 _ _ _ h)
     refine leaves_marks3 (B := w.heap.size) (v := .tuple #[.slice b1 k1 m1, .slice b2 k2 m2, .slice (some ⟨wc.heap.size, 0, none⟩) n n, .int .i64 0]) (fun W' => W'.cell? ⟨w.heap.size + 1, 0, none⟩ = some (.slice b1 k1 m1) ∧ W'.cell? ⟨w.heap.size + 1 + 1, 0, none⟩ = some (.slice b2 k2 m2)) ?_ ?_ ?_ _ _ ⟨⟨D, rfl, ?_, (pair_keeps (KeepsOthers.refl W)).same D _ hDW rfl, fun _ h => by cases h⟩, trivial⟩ ⟨hcl _ _ _ x1, hcl _ _ _ x2⟩ ⟨_, _, _, rfl, HV1.out.cells hcl, HV2.out.cells hcl, HN.out ▸ HTI.out.cells hcl, ?_⟩
     ·rintro W1 ⟨h1, h2⟩
      simp [results, Tryz.results116, go_sem, h1, h2]
     ·exact fun W1 W2 h hs => ⟨sim_cell hs h.1, sim_cell hs h.2⟩
     ·rintro W1 W2 ⟨v1, v2, v3, h1, h2, h3, h4, h5⟩ hs
      exact ⟨v1, v2, v3, h1, h2.cells (fun _ _ _ h => sim_cell hs h), h3.cells (fun _ _ _ h => sim_cell hs h), h4.cells (fun _ _ _ h => sim_cell hs h), h5.trans (sim_below hs)⟩
     ·have := HB.out.size; omega
     ·exact ((HBE.out.setCell (by simp) _).setCell (by simp; omega) _).drew
end Go.Proofs.YtggnipkfliompaaGreatDoor
