/- Package equal: Check, whole. -/
import Derived.Test.YtjnnnciifjajmaaDoorEqB
namespace Go.Proofs.YtjnnnciifjajmaaDoor
open Go.RowKit FP

/-- Is a proof right? -/
def chkB (key a d E S : Int) : Bool := (elB key && (elB a && elB d)) && ((nQB E && nQB S) && (E == chal key a d (rE key E S) (sE a d E S)))
/-- The cells that Check makes. -/
structure ChkW (w : World) (key a d E S : Int) (W : World) : Prop where
  be : Below w.heap.size w W
  k : W.cell? ⟨w.heap.size, 0, none⟩ = some (.int .i64 key)
  a : W.cell? ⟨w.heap.size + 1, 0, none⟩ = some (.int .i64 a)
  d : W.cell? ⟨w.heap.size + 1 + 1, 0, none⟩ = some (.int .i64 d)
  p0 : W.cell? ⟨w.heap.size + 1 + 1 + 1, 0, none⟩ = some (.int .i64 E)
  p1 : W.cell? ⟨w.heap.size + 1 + 1 + 1, 1, none⟩ = some (.int .i64 S)
  f0 : W.cell? ⟨w.heap.size + 1 + 1 + 1 + 1, 0, none⟩ = some (.func (.func 36) #[] #[.pointer (some ⟨w.heap.size, 0, none⟩), .pointer (some ⟨w.heap.size + 1, 0, none⟩), .pointer (some ⟨w.heap.size + 1 + 1, 0, none⟩)])
  f1 : W.cell? ⟨w.heap.size + 1 + 1 + 1 + 1, 1, none⟩ = some (.func (.func 38) #[] #[.pointer (some ⟨w.heap.size + 1 + 1 + 1, 0, none⟩)])
  f2 : W.cell? ⟨w.heap.size + 1 + 1 + 1 + 1, 2, none⟩ = some (.func (.func 40) #[] #[.pointer (some ⟨w.heap.size + 1 + 1 + 1, 0, none⟩), .pointer (some ⟨w.heap.size, 0, none⟩), .pointer (some ⟨w.heap.size + 1, 0, none⟩), .pointer (some ⟨w.heap.size + 1 + 1, 0, none⟩)])
theorem ChkW.below {w : World} {key a d E S : Int} {W W' : World} (h : ChkW w key a d E S W) (hb : Below W.heap.size W W') : ChkW w key a d E S W' :=
  ⟨h.be.trans (hb.mono h.be.size), below_cell hb h.k, below_cell hb h.a, below_cell hb h.d, below_cell hb h.p0, below_cell hb h.p1, below_cell hb h.f0, below_cell hb h.f1, below_cell hb h.f2⟩

set_option maxRecDepth 100000 in
set_option maxHeartbeats 2000000 in
theorem check_any (key a d E S : Int) (w : World) (hk : R64 key) (ha : R64 a) (hd : R64 d) (hE : R64 E) (hS : R64 S) (hG : Glob w) :
    Calls Tryd.prog 13 #[.int .i64 key, .int .i64 a, .int .i64 d, .agg #[.int .i64 E, .int .i64 S]] w fun e w' => e = .returned (.bool (chkB key a d E S)) ∧ Below w.heap.size w w' := by
  have hmf : ∀ (fn : Fn) (first cap : Array Value) (w : World), (Instr.makeFunc fn first cap).run Tryd.prog w = .ok (.func fn first cap) w := fun _ _ _ _ => rfl
  go_enter Tryd.func13, Tryd.ntmps13
  go_wp2_with fail
  have h0 : ChkW w key a d E S (((((w.alloc (.cells #[.int .i64 key] 3)).alloc (.cells #[.int .i64 a] 3)).alloc (.cells #[.int .i64 d] 3)).alloc (.cells #[.int .i64 E, .int .i64 S] 23)).alloc (.cells #[.func (.func 36) #[] #[.pointer (some ⟨w.heap.size, 0, none⟩), .pointer (some ⟨w.heap.size + 1, 0, none⟩), .pointer (some ⟨w.heap.size + 1 + 1, 0, none⟩)], .func (.func 38) #[] #[.pointer (some ⟨w.heap.size + 1 + 1 + 1, 0, none⟩)], .func (.func 40) #[] #[.pointer (some ⟨w.heap.size + 1 + 1 + 1, 0, none⟩), .pointer (some ⟨w.heap.size, 0, none⟩), .pointer (some ⟨w.heap.size + 1, 0, none⟩), .pointer (some ⟨w.heap.size + 1 + 1, 0, none⟩)]] 24)) := by
    refine ⟨by repeat (first | exact Below.refl _ _ | refine Below.alloc ?_ (by simp; try omega) _), ?_, ?_, ?_, ?_, ?_, ?_, ?_, ?_⟩ <;> simp [go_sem]
  go_loopw [16] (fun i W => ChkW w key a d E S W ∧ ((i = .int .i64 0) ∨ (i = .int .i64 1 ∧ (elB key && (elB a && elB d)) = true) ∨ (i = .int .i64 2 ∧ (elB key && (elB a && elB d)) = true ∧ (nQB E && nQB S) = true) ∨ (i = .int .i64 3 ∧ chkB key a d E S = true))) (fun i _ => 3 - (intOf i).toNat)
  case atStart => exact ⟨h0, .inl rfl⟩
  case round =>
    clear h0
    obtain ⟨hW, hr⟩ := hrel
    obtain ⟨hbe, ck, ca, cd, cp0, cp1, cf0, cf1, cf2⟩ := id hW
    have HW := Lib.hid hW
    clear hW
    rcases hr with rfl | ⟨rfl, t1⟩ | ⟨rfl, t1, t2⟩ | ⟨rfl, t3⟩
    · go_wp2_with fail
      refine (check1_any _ _ _ key a d _ hk ha hd ck ca cd).mono ?_
      rintro e w1 ⟨rfl, rfl⟩
      cases e1 : (elB key && (elB a && elB d)) with
      | false =>
        have E1 := Lib.hid e1
        clear e1
        go_wp2_with fail
        go_ret
        exact ⟨ret_bool (by unfold chkB; rw [E1.out]; rfl), hbe⟩
      | true =>
        have E1 := Lib.hid e1
        clear e1
        go_wp2_with fail
        go_roundw
        case rel => exact ⟨HW.out, .inr (.inl ⟨rfl, E1.out⟩)⟩
        case measure => simp [intOf]
    · have T1 := Lib.hid t1
      clear t1
      go_wp2_with fail
      refine (check2_any _ E S _ hE hS cp0 cp1).mono ?_
      rintro e w1 ⟨rfl, rfl⟩
      cases e1 : (nQB E && nQB S) with
      | false =>
        have E1 := Lib.hid e1
        clear e1
        go_wp2_with fail
        go_ret
        exact ⟨ret_bool (by unfold chkB; rw [E1.out, T1.out]; rfl), hbe⟩
      | true =>
        have E1 := Lib.hid e1
        clear e1
        go_wp2_with fail
        go_roundw
        case rel => exact ⟨HW.out, .inr (.inr (.inl ⟨rfl, T1.out, E1.out⟩))⟩
        case measure => simp [intOf]
    · have T1 := Lib.hid t1
      have T2 := Lib.hid t2
      rw [Bool.and_eq_true, Bool.and_eq_true, elB_iff, elB_iff, elB_iff] at t1
      rw [Bool.and_eq_true, nQB_iff, nQB_iff] at t2
      obtain ⟨k1, k2, k3⟩ := t1
      obtain ⟨n1, n2⟩ := t2
      have hGr := hG.below hbe
      have HC3 := Lib.hid (check3_any _ _ _ _ key a d E S wr k1 k2 k3 n1 n2 cp0 cp1 ck ca cd hGr)
      clear k1 k2 k3 n1 n2 hGr
      go_wp2_with fail
      refine HC3.out.mono ?_
      rintro e w1 ⟨rfl, hb1⟩
      have HCH := Lib.hid (show chkB key a d E S = (E == chal key a d (rE key E S) (sE a d E S)) by unfold chkB; rw [T1.out, T2.out, Bool.true_and, Bool.true_and])
      cases e1 : (E == chal key a d (rE key E S) (sE a d E S)) with
      | false =>
        have E1 := Lib.hid e1
        clear e1
        go_wp2_with fail
        go_ret
        exact ⟨ret_bool (by rw [HCH.out, E1.out]), hbe.trans (hb1.mono hbe.size)⟩
      | true =>
        have E1 := Lib.hid e1
        clear e1
        go_wp2_with fail
        go_roundw
        case rel => exact ⟨HW.out.below hb1, .inr (.inr (.inr ⟨rfl, by rw [HCH.out, E1.out]⟩))⟩
        case measure => simp [intOf]
    · have T3 := Lib.hid t3
      clear t3
      go_wp2_with fail
      go_ret
      exact ⟨ret_bool T3.out.symm, hbe⟩

end Go.Proofs.YtjnnnciifjajmaaDoor
