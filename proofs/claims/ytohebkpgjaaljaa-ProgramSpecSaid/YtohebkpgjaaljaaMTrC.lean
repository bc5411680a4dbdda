/- The reference of package program: treat at a gate. The reference of package program: treat. -/
import Derived.Test.YtohebkpgjaaljaaMTrA
namespace Go.Proofs.Ytohebkpgjaaljaa
open Go.RowKit

/-- The state of a gate that is treated: the boxes and what has been made. -/
structure TrJ (C : Nat) (W : World) (p n : Int) (s v : Value) (zs : List Int) (Rk : List (List Int × Int)) (ck : Nat) (rvk ovk : Value) (W' : World) : Prop where
  r0 : W'.heap[W.heap.size]? = some (.cells #[rvk, ovk, .int .i64 ck] 79 (0, 0))
  r1 : W'.heap[W.heap.size + 1]? = some (.cells #[.int .i64 p, .int .i64 n, s] 28 (0, 0))
  r2 : W'.heap[W.heap.size + 1 + 1]? = some (.cells #[.slice none 0 0, .slice none 0 0, .int .i64 0] 79 (0, 0))
  low : Below W.heap.size W W'
  st : StR C Rk rvk ovk W'
  vec : RowI W' v zs
theorem TrJ.keep {C : Nat} {W : World} {p n : Int} {s v : Value} {zs : List Int} {Rk : List (List Int × Int)} {ck : Nat} {rvk ovk : Value} {W' X : World} (h : TrJ C W p n s v zs Rk ck rvk ovk W') (hb : Below W'.heap.size W' X) : TrJ C W p n s v zs Rk ck rvk ovk X :=
  ⟨(hb.block _ (row_lt h.r0)).trans h.r0, (hb.block _ (row_lt h.r1)).trans h.r1, (hb.block _ (row_lt h.r2)).trans h.r2, h.low.trans (hb.mono h.low.size), h.st.keep hb, h.vec.keep hb⟩
theorem TrJ.set {C : Nat} {W : World} {p n : Int} {s v : Value} {zs : List Int} {Rk R2 : List (List Int × Int)} {ck c2 : Nat} {rvk ovk rv2 ov2 : Value} {X : World} (h : TrJ C W p n s v zs Rk ck rvk ovk X) (hs : StR C R2 rv2 ov2 X) : TrJ C W p n s v zs R2 c2 rv2 ov2 (((X.setCell ⟨W.heap.size, 0, none⟩ rv2).setCell ⟨W.heap.size, 1, none⟩ ov2).setCell ⟨W.heap.size, 2, none⟩ (.int .i64 c2)) := by
  have h1 := row_set h.r0 0 rv2
  have h2 := row_set h1 1 ov2
  have h3 := row_set h2 2 (.int .i64 c2)
  have ne1 : W.heap.size + 1 ≠ W.heap.size := by omega
  have ne2 : W.heap.size + 1 + 1 ≠ W.heap.size := by omega
  refine ⟨h3, ?_, ?_, ((h.low.setCell (Nat.le_refl _) _).setCell (Nat.le_refl _) _).setCell (Nat.le_refl _) _, ((hs.set h.r0 (by decide) (by decide) 0 _).set h1 (by decide) (by decide) 1 _).set h2 (by decide) (by decide) 2 _, ((h.vec.set h.r0 (by decide) 0 _).set h1 (by decide) 1 _).set h2 (by decide) 2 _⟩
  · rw [Below.heap_setCell _ _ _ _ ne1, Below.heap_setCell _ _ _ _ ne1, Below.heap_setCell _ _ _ _ ne1]; exact h.r1
  · rw [Below.heap_setCell _ _ _ _ ne2, Below.heap_setCell _ _ _ _ ne2, Below.heap_setCell _ _ _ _ ne2]; exact h.r2

/-- What is known of what has been made behind k elements of a gate. -/
def Got (R : List (List Int × Int)) (g : GT) (zs : List Int) (c : Nat) (l : List GT) (b : List Int) (m c1 k : Nat) (Rk : List (List Int × Int)) (ck : Nat) : Prop :=
  Rk.length ≤ 65 ∧ ck ≤ 5000 ∧ ((Rk = R ++ (genL (l.take k) 0 b m c1).1 ∧ ck = (genL (l.take k) 0 b m c1).2 ∧ Rk.length ≤ 64 ∧ ck ≤ 64) ∨ (¬ FitsM R g zs c ∧ (64 < Rk.length ∨ 64 < ck)))
theorem Got.next {R : List (List Int × Int)} {g : GT} {zs : List Int} {c : Nat} {l : List GT} {b : List Int} {m c1 k : Nat} {Rk R2 : List (List Int × Int)} {ck c2 : Nat} (h : Got R g zs c l b m c1 k Rk ck) (hk : k < l.length) (hg : genR g zs c = genL l 0 b m c1)
    (h2 : R2.length ≤ 65) (h3 : c2 ≤ 5000) (h4 : (FitsM Rk l[k] (b ++ powL (k + 1) m) ck ∧ R2 = Rk ++ (genR l[k] (b ++ powL (k + 1) m) ck).1 ∧ c2 = (genR l[k] (b ++ powL (k + 1) m) ck).2) ∨ (¬ FitsM Rk l[k] (b ++ powL (k + 1) m) ck ∧ (64 < R2.length ∨ 64 < c2))) : Got R g zs c l b m c1 (k + 1) R2 c2 := by
  obtain ⟨g1, g2, g3⟩ := h
  refine ⟨h2, h3, ?_⟩
  have ht := genL_take l 0 b m c1 k hk
  rw [Nat.zero_add] at ht
  rcases g3 with ⟨e1, e2, e3, e4⟩ | ⟨e1, e2⟩
  · rcases h4 with ⟨f1, f2, f3⟩ | ⟨f1, f2⟩
    · refine .inl ⟨?_, ?_, ?_, ?_⟩
      · rw [f2, ht, e1, ← e2, List.append_assoc]
      · rw [f3, ht, ← e2]
      · rw [f2, List.length_append]; exact f1.1
      · rw [f3]; exact f1.2
    · refine .inr ⟨fun hF => f1 ?_, f2⟩
      have hp := genL_part l 0 b m c1 (k + 1)
      rw [ht, ← e2] at hp
      unfold FitsM at hF ⊢
      rw [hg] at hF
      rw [List.length_append] at hp
      have hl : Rk.length = R.length + (genL (l.take k) 0 b m c1).1.length := by rw [e1, List.length_append]
      simp only at hp
      omega
  · rcases h4 with ⟨f1, -, -⟩ | ⟨f1, f2⟩
    · exfalso
      have := gen_cols l[k] (b ++ powL (k + 1) m) ck
      have h5 := f1.1
      have h6 := f1.2
      omega
    · exact .inr ⟨e1, f2⟩
theorem Got.done {R : List (List Int × Int)} {g : GT} {zs : List Int} {c : Nat} {l : List GT} {b : List Int} {m c1 : Nat} {Rk : List (List Int × Int)} {ck : Nat} (h : Got R g zs c l b m c1 l.length Rk ck) (hg : genR g zs c = genL l 0 b m c1) :
    Rk.length ≤ 65 ∧ ck ≤ 5000 ∧ ((FitsM R g zs c ∧ Rk = R ++ (genR g zs c).1 ∧ ck = (genR g zs c).2) ∨ (¬ FitsM R g zs c ∧ (64 < Rk.length ∨ 64 < ck))) := by
  obtain ⟨g1, g2, g3⟩ := h
  refine ⟨g1, g2, ?_⟩
  rw [List.take_length] at g3
  rcases g3 with ⟨e1, e2, e3, e4⟩ | h
  · refine .inl ⟨?_, by rw [hg]; exact e1, by rw [hg]; exact e2⟩
    unfold FitsM
    rw [hg, ← e2, ← List.length_append, ← e1]
    exact ⟨e3, e4⟩
  · exact .inr h

mutual
theorem lvsG_one : ∀ g : GT, 1 ≤ lvsG g
  | .mk _ _ [] => by unfold lvsG; omega
  | .mk _ _ (x :: t) => by unfold lvsG; have := lvsG_one x; omega
end
theorem lvsL_many : ∀ l : List GT, l.length ≤ lvsL l
  | [] => Nat.zero_le _
  | x :: t => by
    unfold lvsL
    have := lvsG_one x
    have := lvsL_many t
    simp only [List.length_cons]; omega

theorem wrap_add {c N D : Nat} (hc : c ≤ 64) (hN : N ≤ 4096) (h : D = c + N) : wrap64 ((c : Int) + (N : Int)) = (D : Int) ∧ IntKind.i64.wrap ((c : Int) + (N : Int)) = (D : Int) := by
  rw [IntKind.wrap_i64]; unfold wrap64; omega
theorem wrap_sub {D c1 : Nat} (hD : D ≤ 5000) (h0 : 1 ≤ D) (h : c1 = D - 1) : wrap64 ((D : Int) - 1) = (c1 : Int) ∧ IntKind.i64.wrap ((D : Int) - 1) = (c1 : Int) := by
  rw [IntKind.wrap_i64]; unfold wrap64; omega

end Go.Proofs.Ytohebkpgjaaljaa

namespace Go.Proofs.Ytohebkpgjaaljaa
open Go.RowKit

theorem TrJ.col {C : Nat} {W : World} {p n : Int} {s v : Value} {zs : List Int} {Rk : List (List Int × Int)} {ck c2 : Nat} {rvk ovk : Value} {X : World} (h : TrJ C W p n s v zs Rk ck rvk ovk X) : TrJ C W p n s v zs Rk c2 rvk ovk (X.setCell ⟨W.heap.size, 2, none⟩ (.int .i64 c2)) := by
  have h3 := row_set h.r0 2 (.int .i64 c2)
  have ne1 : W.heap.size + 1 ≠ W.heap.size := by omega
  have ne2 : W.heap.size + 1 + 1 ≠ W.heap.size := by omega
  exact ⟨h3, (Below.heap_setCell _ _ _ _ ne1).trans h.r1, (Below.heap_setCell _ _ _ _ ne2).trans h.r2, h.low.setCell (Nat.le_refl _) _, h.st.set h.r0 (by decide) (by decide) 2 _, h.vec.set h.r0 (by decide) 2 _⟩

theorem StR.shape {C : Nat} {R : List (List Int × Int)} {rv ov : Value} {W : World} (h : StR C R rv ov W) : ∃ a1 c1 a2 c2, rv = .slice a1 R.length c1 ∧ ov = .slice a2 R.length c2 := by
  obtain ⟨xs, h1, -, -, h2⟩ := h
  obtain ⟨a1, c1, e1⟩ := own_sl h1
  obtain ⟨a2, c2, e2⟩ := own_sl h2
  exact ⟨a1, c1, a2, c2, e1, e2⟩

set_option maxRecDepth 100000 in
set_option maxHeartbeats 16000000 in
theorem rtreat_at (C : Nat) (w0 : World) (vg : Value) (g : GT) (hg : GateV w0 vg g) : rightG g = true → lvsG g ≤ 300 → ∀ (W : World) (R : List (List Int × Int)) (zs : List Int) (rv ov v : Value) (c : Nat), Below w0.heap.size w0 W → C ≤ W.heap.size → R.length ≤ 65 → c ≤ 5000 → (R.length ≤ 64 → c ≤ 64 → zs.length ≤ c) → StR C R rv ov W → RowI W v zs →
    Calls Try.prog 50 #[.agg #[rv, ov, .int .i64 c], vg, v] W (TPost C R g zs c W) := by
  induction hg with
  | mk p n l a cap sub hp hn hc hl hk hs ih =>
    intro hr hlv W R zs rv ov v c hW hC hR hcc hz hS hv
    by_cases hbad : 64 < R.length ∨ 64 < c
    · exact rtreat_bad C p n l a cap R zs rv ov v c W hbad hR hcc hS
    by_cases h0 : 0 ≤ p
    · exact rtreat_leaf C p n l a cap R zs rv ov v c W h0 (by omega) (by omega) hS hv hC
    have hzc : zs.length ≤ c := hz (by omega) (by omega)
    have hR64 : R.length ≤ 64 := by omega
    have hc64 : c ≤ 64 := by omega
    have hr2 := hr
    unfold rightG at hr2
    rw [if_neg h0] at hr2
    simp only [Bool.and_eq_true, decide_eq_true_eq] at hr2
    obtain ⟨-, hn1, hn2, hrl⟩ := hr2
    obtain ⟨N, rfl⟩ : ∃ N : Nat, n = N := ⟨n.toNat, by omega⟩
    obtain ⟨c1, hc1⟩ : ∃ c1, c1 = c + (N - 1) := ⟨_, rfl⟩
    obtain ⟨D, hD⟩ : ∃ D, D = c + N := ⟨_, rfl⟩
    obtain ⟨m, hm⟩ : ∃ m, m = N - 1 := ⟨_, rfl⟩
    have hG : genR (.mk p N l) zs c = genL l 0 (padTo c zs) m c1 := by
      unfold genR
      rw [if_neg h0, show ((N : Int) - 1).toNat = m by omega, hc1, hm]
      rfl
    have hsubs := fun k h => ppl_sub (p := p) (n := (N : Int)) (l := l) (k := k) h
    have hll : l.length ≤ 300 := by
      by_cases hl0 : l = []
      · rw [hl0]; simp
      · have := lvs_list p N l hl0
        have := lvsL_many l
        omega
    obtain ⟨g, hgd⟩ : ∃ g, g = GT.mk p N l := ⟨_, rfl⟩
    rw [← hgd] at hG hlv ⊢
    obtain ⟨ra, rc, rfl⟩ : ∃ a c, rv = .slice a R.length c := by obtain ⟨xs, h, -⟩ := hS; exact own_sl h
    obtain ⟨oa, oc, rfl⟩ : ∃ a c, ov = .slice a R.length c := by obtain ⟨xs, -, -, -, h⟩ := hS; exact own_sl h
    obtain ⟨vb, vo, vn, vc0, vcs, rfl, -⟩ := id hv.2.2
    obtain ⟨W3, hW3, hb, hs3, r0, r1, r2⟩ := entry3 W (.slice ra R.length rc) (.slice oa R.length oc) (.int .i64 c) (.int .i64 p) (.int .i64 N) (.slice a l.length cap)
    obtain ⟨W4, hW4⟩ : ∃ W4, W4 = W3.setCell ⟨W.heap.size, 2, none⟩ (.int .i64 c1) := ⟨_, rfl⟩
    have hJ3 : TrJ C W p N (.slice a l.length cap) (.slice (some ⟨vb, vo, none⟩) vn vc0) zs R c (.slice ra R.length rc) (.slice oa R.length oc) W3 := ⟨r0, r1, r2, hb, hS.keep hb, hv.keep hb⟩
    have hJ4 : TrJ C W p N (.slice a l.length cap) (.slice (some ⟨vb, vo, none⟩) vn vc0) zs R c1 (.slice ra R.length rc) (.slice oa R.length oc) W4 := by rw [hW4]; exact hJ3.col
    have y0 : W3.cell? ⟨W.heap.size, 0, none⟩ = some (.slice ra R.length rc) := row_cell r0 rfl
    have y2 : W3.cell? ⟨W.heap.size, 2, none⟩ = some (.int .i64 c) := row_cell r0 rfl
    have y2f := row_free r0 2
    have g0 : W3.cell? ⟨W.heap.size + 1, 0, none⟩ = some (.int .i64 p) := row_cell r1 rfl
    have g1 : W3.cell? ⟨W.heap.size + 1, 1, none⟩ = some (.int .i64 N) := row_cell r1 rfl
    have z0 : W4.cell? ⟨W.heap.size, 0, none⟩ = some (.slice ra R.length rc) := row_cell hJ4.r0 rfl
    have z1 : W4.cell? ⟨W.heap.size, 1, none⟩ = some (.slice oa R.length oc) := row_cell hJ4.r0 rfl
    have z2 : W4.cell? ⟨W.heap.size, 2, none⟩ = some (.int .i64 c1) := row_cell hJ4.r0 rfl
    have x0 : W4.cell? ⟨W.heap.size + 1 + 1, 0, none⟩ = some (.slice none 0 0) := row_cell hJ4.r2 rfl
    have x1 : W4.cell? ⟨W.heap.size + 1 + 1, 1, none⟩ = some (.slice none 0 0) := row_cell hJ4.r2 rfl
    have x2 : W4.cell? ⟨W.heap.size + 1 + 1, 2, none⟩ = some (.int .i64 0) := row_cell hJ4.r2 rfl
    have q0 := row_free hJ4.r2 0
    have q1 := row_free hJ4.r2 1
    have q2 := row_free hJ4.r2 2
    have HW3 := Lib.hid hW3
    have HW4 := Lib.hid hW4
    have HJ4 := Lib.hid hJ4
    have HWW := Lib.hid hW
    have HK := Lib.hid hk
    have HIH := Lib.hid ih
    have HRL := Lib.hid hrl
    have HSB := Lib.hid hsubs
    have HLL := Lib.hid hll
    have HLV := Lib.hid hlv
    have HG := Lib.hid hG
    have HGD := Lib.hid hgd
    have HNM := Lib.hid (And.intro hc1 (And.intro hm (And.intro hn1 hn2)))
    have HZC := Lib.hid (And.intro hzc hc64)
    have HRR := Lib.hid (And.intro hR64 hC)
    have d0 : decide (64 < (c : Int)) = false := decide_eq_false (by omega)
    have d1 : decide (64 < c) = false := decide_eq_false (by omega)
    have d2 : decide (64 < (R.length : Int)) = false := decide_eq_false (by omega)
    have d3 : decide (64 < R.length) = false := decide_eq_false (by omega)
    have d4 : decide (p ≥ 0) = false := decide_eq_false h0
    have hN2 : N ≤ 4096 := by omega
    have hN1 : 1 ≤ D := by omega
    have hD5 : D ≤ 5000 := by omega
    have hcD : c1 = D - 1 := by omega
    have hc15 : c1 ≤ 5000 := by omega
    have HE := Lib.hid (And.intro (wrap_add hc64 hN2 hD) (wrap_sub hD5 hN1 hcD))
    clear hW hk ih hrl hsubs hll hlv hG hgd hc1 hm hn1 hn2 hzc hc64 hR64 hC hb hs3 r0 r1 r2 hW3 hW4 hJ3 hJ4 hS hv hR hcc hz hbad h0 hD hr hN2 hN1 hD5 hcD
    by_cases h64 : 64 < c1
    · have d5 : decide (64 < (c1 : Int)) = true := decide_eq_true (by omega)
      have d6 : decide (64 < c1) = true := decide_eq_true h64
      have HEND := Lib.hid (st_end (c := c1) HJ4.out.r2 HJ4.out.st)
      have hF : ¬ FitsM R g zs c := fun h => by
        have h2 := h.2
        rw [HG.out] at h2
        have := genL_cols l 0 (padTo c zs) m c1
        omega
      have HF := Lib.hid hF
      have H64 := Lib.hid (And.intro h64 hc15)
      clear h64 hF hc15
      obtain ⟨⟨e1, e1'⟩, e2, e2'⟩ := HE.out
      go_enter Try.func50, Try.ntmps50
      go_wp2_with (first | rw [← HW3.out] | rw [← HW4.out])
      try simp only [Exit.inBlock, Exit.then]
      refine bodyPost_ret (v := .agg #[.slice ra R.length rc, .slice oa R.length oc, .int .i64 c1]) ?_ rfl ?_
      · exact res_cell1_of rfl rfl HEND.out.1
      clear e1 e1' e2 e2'
      exact ⟨_, _, R, c1, rfl, HEND.out.2.1, HEND.out.2.2 _ _ (by omega) HJ4.out.low, by have := HRR.out.1; omega, H64.out.2, .inr ⟨HF.out, .inr H64.out.1⟩⟩
    · have d5 : decide (64 < (c1 : Int)) = false := decide_eq_false (by omega)
      have d6 : decide (64 < c1) = false := decide_eq_false h64
      have hgot : Got R g zs c l (padTo c zs) m c1 0 R c1 := ⟨by have := HRR.out.1; omega, hc15, .inl ⟨by rw [List.take_zero]; unfold genL; simp, by rw [List.take_zero]; unfold genL; rfl, HRR.out.1, by omega⟩⟩
      have HGOT := Lib.hid hgot
      have H64 := Lib.hid h64
      clear h64 hgot hc15
      obtain ⟨⟨e1, e1'⟩, e2, e2'⟩ := HE.out
      go_enter Try.func50, Try.ntmps50
      go_wp2_with (first | rw [← HW3.out] | rw [← HW4.out])
      clear e1 e1' e2 e2'
      go_loopw [8] (fun i W' => ∃ (k : Nat) (Rk : List (List Int × Int)) (ck : Nat) (rvk ovk : Value), k ≤ l.length ∧ i = .int .i64 k ∧ Hid (TrJ C W p N (.slice a l.length cap) (.slice (some ⟨vb, vo, none⟩) vn vc0) zs Rk ck rvk ovk W') ∧ Hid (Got R g zs c l (padTo c zs) m c1 k Rk ck)) (fun i _ => l.length - (intOf i).toNat)
      case atStart => exact ⟨0, R, c1, _, _, Nat.zero_le _, rfl, HJ4, HGOT⟩
      case round =>
        clear y0 y2 y2f g0 g1 z0 z1 z2 x0 x1 x2 q0 q1 q2 d0 d1 d2 d3 d4 d5 d6
        obtain ⟨k, Rk, ck, rvk, ovk, hkl, rfl, HJ, HGK⟩ := hrel
        obtain ⟨ra2, rc2, rfl⟩ : ∃ a c, rvk = .slice a Rk.length c := by obtain ⟨xs, h, -⟩ := HJ.out.st; exact own_sl h
        obtain ⟨oa2, oc2, rfl⟩ : ∃ a c, ovk = .slice a Rk.length c := by obtain ⟨xs, -, -, -, h⟩ := HJ.out.st; exact own_sl h
        have y2 : wr.cell? ⟨W.heap.size + 1, 2, none⟩ = some (.slice a l.length cap) := row_cell HJ.out.r1 rfl
        by_cases hlt : k < l.length
        · obtain ⟨k1, hk1⟩ : ∃ k1 : Nat, k1 = k + 1 := ⟨_, rfl⟩
          have hw1 : wrap64 ((k : Int) + 1) = (k1 : Int) := by have := HLL.out; unfold wrap64; omega
          have HK1 := Lib.hid hk1
          have dk : decide ((k : Int) < (l.length : Int)) = true := decide_eq_true (by omega)
          have dk' : decide (k < l.length) = true := decide_eq_true hlt
          clear hk1
          go_wp2_with fail
          refine (rlong_any _ zs c wr HJ.out.vec.1 HJ.out.vec.2.1 (by have := HZC.out; omega) (by have := HZC.out; omega)).mono ?_
          rintro e w1 ⟨u, rfl, hu, hb1⟩
          have HU := Lib.hid hu
          have HB1 := Lib.hid hb1
          have hg1 : w1.cell? ⟨W.heap.size + 1, 1, none⟩ = some (.int .i64 N) := below_cell hb1 (row_cell HJ.out.r1 rfl)
          have hu0 : w1.ownsRow wr.heap.size 3 1 u (padTo c zs ++ powL k1 (1 - 1)).length ((padTo c zs ++ powL k1 (1 - 1)).map (Value.int .i64)) := by
            rw [show powL k1 (1 - 1) = [] from rfl, List.append_nil]; exact hu
          have HU0 := Lib.hid hu0
          clear hu hb1 hu0
          go_wp2_with fail
          go_loopw [9, 10, 11] (fun L P j W' => ∃ q : Nat, 1 ≤ q ∧ q ≤ N ∧ j = .int .i64 q ∧ P = .int .i64 (pwN k1 (q - 1)) ∧ Hid (W'.ownsRow wr.heap.size 3 1 L (padTo c zs ++ powL k1 (q - 1)).length ((padTo c zs ++ powL k1 (q - 1)).map (Value.int .i64))) ∧ Hid (Below wr.heap.size wr W')) (fun _ _ j _ => N - (intOf j).toNat)
          case atStart => exact ⟨1, Nat.le_refl _, HNM.out.2.2.1 |> fun h => by omega, rfl, rfl, HU0, HB1⟩
          case round =>
            clear HU HU0 HB1 hg1
            obtain ⟨q, hq1, hqN, rfl, rfl, HOW, HBW⟩ := hrel
            obtain ⟨qa, qc, rfl⟩ := own_sl HOW.out
            have g1 : wr.cell? ⟨W.heap.size + 1, 1, none⟩ = some (.int .i64 N) := below_cell HBW.out (row_cell HJ.out.r1 rfl)
            obtain ⟨t, ht⟩ : ∃ t, q = t + 1 := ⟨q - 1, by omega⟩
            have hqt : q - 1 = t := by omega
            rw [hqt] at HOW ⊢
            obtain ⟨P, hP⟩ : ∃ P, P = padTo c zs ++ powL k1 t := ⟨_, rfl⟩
            obtain ⟨pw, hpw⟩ : ∃ pw, pw = pwN (k1 : Int) t := ⟨_, rfl⟩
            have hpr : R64 pw := by rw [hpw]; exact pwN_r64 _ _
            have hPl : P.length ≤ 1000000 := by
              have h1 := HZC.out
              have h2 := HNM.out
              have h3 := H64.out
              rw [hP, List.length_append, powL_len]; unfold padTo; simp; omega
            rw [← hP] at HOW ⊢
            rw [← hpw]
            by_cases hlt2 : q < N
            · have dq : decide ((q : Int) < (N : Int)) = true := decide_eq_true (by omega)
              have dq' : decide (q < N) = true := decide_eq_true hlt2
              have hkc : (k1 : Int) = (k : Int) + 1 := by have := HK1.out; omega
              have HPN : Hid (pwN (k1 : Int) (q + 1 - 1) = pw * ((k : Int) + 1) % 1073741789) := Lib.hid (by rw [Nat.add_sub_cancel, ht, hpw, ← hkc]; rfl)
              have HPP : Hid (padTo c zs ++ powL k1 (q + 1 - 1) = P ++ [pw * ((k : Int) + 1) % 1073741789]) := Lib.hid (by
                rw [Nat.add_sub_cancel, ht, powL_snoc, ← pwN_pow, ← List.append_assoc, ← hP, hpw, ← hkc]; rfl)
              have hk64 : R64 ((k : Int) + 1) := R64.mk (by omega) (by have := HLL.out; omega)
              have hq12 : q + 1 ≤ N := by omega
              have HPL := Lib.hid hPl
              have HSZ := Lib.hid HBW.out.size
              have HQ9 := Lib.hid HNM.out
              clear hpw hP hPl ht hqt hkc
              go_wp2_with fail
              refine (rmul_any pw ((k : Int) + 1) _ hpr hk64).mono ?_
              rintro e w2 ⟨rfl, rfl⟩
              go_wp2_with (refine app_lit rfl _ _ rfl _ _ P rfl HOW.out HBW.out 1 (pw * ((k : Int) + 1) % 1073741789) rfl HPL.out HSZ.out ?_; intro v9 w9 h9 b9 s9; have H9 := Lib.hid h9; have B9 := Lib.hid b9; clear h9 b9 s9)
              go_roundw
              case rel => exact ⟨q + 1, by omega, hq12, by have := HQ9.out.2.2.2; rw [show wrap64 ((q : Int) + 1) = ((q + 1 : Nat) : Int) by unfold wrap64; omega], by rw [HPN.out], by rw [HPP.out]; exact H9, B9⟩
              case measure => have := HQ9.out.2.2.2; rw [show wrap64 ((q : Int) + 1) = ((q + 1 : Nat) : Int) by unfold wrap64; omega]; simp [intOf]; omega
            · have dq : decide ((q : Int) < (N : Int)) = false := decide_eq_false (by omega)
              have dq' : decide (q < N) = false := decide_eq_false hlt2
              have hPv : P = padTo c zs ++ powL k1 m := by rw [hP]; have := HNM.out; rw [show t = m by omega]
              have HPV := Lib.hid hPv
              clear hpw hP hPl ht hqt hPv
              obtain ⟨b, off, x, y, za, zn, zc, ea, es, r1, r2, r3⟩ := HK.out k hlt
              subst ea
              have hJ2 := HJ.out.keep HBW.out
              have hbd : Below wr.heap.size wr wr.drew := (Below.refl _ _).drew
              have hJD := hJ2.keep hbd
              have hw0 := HWW.out.trans (hJD.low.mono HWW.out.size)
              have y1d := below_cell hw0 r1
              have y2d := below_cell hw0 r2
              have y3d := below_cell hw0 r3
              have hne : padTo c zs ++ powL k1 m ≠ [] := fun e => hJD.vec.2.1 (by
                have h1 := (List.append_eq_nil_iff.1 e).1
                unfold padTo at h1
                exact (List.append_eq_nil_iff.1 h1).1)
              have hr64 : ∀ z ∈ padTo c zs ++ powL k1 m, R64 z := fun z hz => by
                rcases List.mem_append.1 hz with h | h
                · unfold padTo at h
                  rcases List.mem_append.1 h with h | h
                  · obtain ⟨_, _, _, _, _, h5, _⟩ := hJD.vec.1
                    exact h5 z h
                  · rw [(List.mem_replicate.1 h).2]; exact R64.mk (by omega) (by omega)
                · unfold powL at h
                  obtain ⟨j, -, rfl⟩ := List.mem_map.1 h
                  exact mod_r64 _
              have hplen : P.length = c + m := by
                have h1 := HZC.out.1
                rw [HPV.out, List.length_append, powL_len]; unfold padTo; simp; omega
              have hpl : (padTo c zs ++ powL k1 m).length ≤ 1000000 := by
                rw [← HPV.out, hplen]; have := HZC.out; have := HNM.out; omega
              have hvec : RowI wr.drew (.slice qa P.length qc) (padTo c zs ++ powL k1 m) := (RowI.own (by rw [← HPV.out]; exact HOW.out) hne hr64 hpl).keep hbd
              have hgk := HGK.out
              have hcond : Rk.length ≤ 64 → ck ≤ 64 → (padTo c zs ++ powL k1 m).length ≤ ck := fun h1 h2 => by
                rcases hgk.2.2 with ⟨-, h3, -, -⟩ | ⟨-, h3⟩
                · rw [← HPV.out, hplen, h3]
                  have := genL_cols (l.take k) 0 (padTo c zs) m c1
                  have := HNM.out
                  omega
                · exfalso; omega
              have hcall := HIH.out k hlt ((rightL_iff l).1 HRL.out k hlt) (by have h1 := (HSB.out k hlt).1; have h2 := HLV.out; rw [HGD.out] at h2; omega) wr.drew Rk (padTo c zs ++ powL k1 m) (.slice ra2 Rk.length rc2) (.slice oa2 Rk.length oc2) (.slice qa P.length qc) ck hw0 (by have h1 := HRR.out.2; have h2 := hJD.low.size; omega) hgk.1 hgk.2.1 hcond hJD.st hvec
              rw [es] at hcall
              have HCALL := Lib.hid hcall
              have HJD := Lib.hid hJD
              have w0d : wr.drew.cell? ⟨W.heap.size, 0, none⟩ = some (.slice ra2 Rk.length rc2) := row_cell hJD.r0 rfl
              have w1d : wr.drew.cell? ⟨W.heap.size, 1, none⟩ = some (.slice oa2 Rk.length oc2) := row_cell hJD.r0 rfl
              have w2d : wr.drew.cell? ⟨W.heap.size, 2, none⟩ = some (.int .i64 ck) := row_cell hJD.r0 rfl
              have w3d : wr.drew.cell? ⟨W.heap.size + 1, 2, none⟩ = some (.slice (some ⟨b, off, none⟩) l.length cap) := row_cell hJD.r1 rfl
              have g1 : wr.cell? ⟨W.heap.size + 1, 1, none⟩ = some (.int .i64 N) := row_cell hJ2.r1 rfl
              have i0 : (0 : Int) ≤ (k : Int) := by omega
              have i1 : (k : Int) < (l.length : Int) := by omega
              have HK1' := Lib.hid (show k1 = k + 1 from HK1.out)
              clear hcall hJ2 hJD hbd hw0 hne hr64 hplen hpl hvec hgk hcond r1 r2 r3 es y2
              go_wp2_with fail
              go_region_with (go_at_call 50; refine (HCALL.out).mono ?_; rintro e w5 ⟨rv2, ov2, R2, c2, rfl, hst, hb5, hl2, hc2, hpo⟩; obtain ⟨ra3, rc3, oa3, oc3, rfl, rfl⟩ := StR.shape hst; have HJ5 := Lib.hid (HJD.out.keep hb5); have HST5 := Lib.hid hst; rw [HK1'.out] at hpo; have HGN := Lib.hid (HGK.out.next hlt HG.out hl2 hc2 hpo); have s0 : w5.cell? ⟨W.heap.size, 0, none⟩ = some (.slice ra2 Rk.length rc2) := row_cell HJ5.out.r0 rfl; have s1 : w5.cell? ⟨W.heap.size, 1, none⟩ = some (.slice oa2 Rk.length oc2) := row_cell HJ5.out.r0 rfl; have s2 : w5.cell? ⟨W.heap.size, 2, none⟩ = some (.int .i64 ck) := row_cell HJ5.out.r0 rfl; have t0 := row_free HJ5.out.r0 0; have t1 := row_free HJ5.out.r0 1; have t2 := row_free HJ5.out.r0 2; clear hst hb5 hl2 hc2 hpo)
              all_goals
                have HJN := Lib.hid (HJ5.out.set (c2 := c2) HST5.out)
                have hkk : k + 1 ≤ l.length := by omega
                clear s0 s1 s2 t0 t1 t2 w0d w1d w2d w3d
                go_wp2_with fail
                go_roundw
                case rel => exact ⟨k + 1, R2, c2, _, _, hkk, by go_num, HJN, HGN⟩
                case measure => simp [intOf]; omega
        · obtain rfl : k = l.length := by omega
          have dk : decide (l.length < l.length) = false := by simp
          have hdn := HGK.out.done HG.out
          have HDN := Lib.hid hdn
          have HEND := Lib.hid (st_end (c := ck) HJ.out.r2 HJ.out.st)
          have z0 : wr.cell? ⟨W.heap.size, 0, none⟩ = some (.slice ra2 Rk.length rc2) := row_cell HJ.out.r0 rfl
          have z1 : wr.cell? ⟨W.heap.size, 1, none⟩ = some (.slice oa2 Rk.length oc2) := row_cell HJ.out.r0 rfl
          have z2 : wr.cell? ⟨W.heap.size, 2, none⟩ = some (.int .i64 ck) := row_cell HJ.out.r0 rfl
          have x0 : wr.cell? ⟨W.heap.size + 1 + 1, 0, none⟩ = some (.slice none 0 0) := row_cell HJ.out.r2 rfl
          have x1 : wr.cell? ⟨W.heap.size + 1 + 1, 1, none⟩ = some (.slice none 0 0) := row_cell HJ.out.r2 rfl
          have x2 : wr.cell? ⟨W.heap.size + 1 + 1, 2, none⟩ = some (.int .i64 0) := row_cell HJ.out.r2 rfl
          have q0 := row_free HJ.out.r2 0
          have q1 := row_free HJ.out.r2 1
          have q2 := row_free HJ.out.r2 2
          have HLOW := Lib.hid HJ.out.low
          clear hdn hlt
          go_wp2_with fail
          try simp only [Exit.inBlock, Exit.then]
          refine bodyPost_ret (v := .agg #[.slice ra2 Rk.length rc2, .slice oa2 Rk.length oc2, .int .i64 ck]) ?_ rfl ?_
          · exact res_cell1_of rfl rfl HEND.out.1
          exact ⟨_, _, Rk, ck, rfl, HEND.out.2.1, HEND.out.2.2 _ _ (by omega) HLOW.out, HDN.out.1, HDN.out.2.1, HDN.out.2.2⟩

end Go.Proofs.Ytohebkpgjaaljaa
