/- The reference of package program: Make. The reference of package program: Make, the walk. The laws of package program: ProgramSpec, the walk. -/
import Derived.Test.YtohebkpgjaaljaaMTrC
import Derived.Test.YtohebkpgjaaljaaMGatG
import Derived.Test.YtohebkpgjaaljaaMGrA
import Derived.Test.YtohebkpgjaaljaaMPmJ
namespace Go.Proofs.Ytohebkpgjaaljaa
open Go.RowKit

/-- A row of what has been made is replaced. -/
theorem StR.put {C : Nat} {R : List (List Int × Int)} {rv ov : Value} {X : World} {g n cap k : Nat} {u : Value} {zs : List Int} (h : StR C R rv ov X) (he : rv = .slice (some ⟨g, 0, none⟩) n cap) (hk : k < R.length) (hu : RowI X u zs) : StR C (R.set k (zs, R[k].2)) rv ov (X.setCell ⟨g, k, none⟩ u) := by
  obtain ⟨xs, h1, h2, h3, h4⟩ := h
  have hn : n = R.length := by
    obtain ⟨a, c', e⟩ := own_sl h1
    rw [he] at e
    injection e
  subst hn
  subst he
  obtain ⟨cs, hS⟩ : ∃ cs, X.heap[g]? = some (.cells cs 23 (0, 0)) := by
    rcases h1.2 with ⟨e, -⟩ | ⟨g', cap', cur, e, -, hg, -⟩
    · cases e
    · simp only [Value.slice.injEq, Option.some.injEq, Addr.mk.injEq] at e
      obtain ⟨⟨rfl, -, -⟩, -, -⟩ := e
      exact ⟨cur, hg⟩
  obtain ⟨st, -⟩ := h1.stored k u
  refine ⟨xs.set k u, by rw [List.length_set]; exact st, by rw [List.length_set, List.length_set]; exact h2, fun i a b => ?_, ?_⟩
  · by_cases e : k = i
    · subst e
      rw [List.getElem_set_self, List.getElem_set_self]
      exact hu.set hS (by decide) k u
    · rw [List.getElem_set_ne e, List.getElem_set_ne e]
      exact (h3 i (by simpa using a) (by simpa using b)).set hS (by decide) k u
  · have e : (R.set k (zs, R[k].2)).map (fun r => Value.int .i64 r.2) = R.map fun r => Value.int .i64 r.2 := by
      apply List.ext_getElem
      · simp
      · intro i a b
        simp only [List.getElem_map]
        by_cases e : k = i
        · subst e; rw [List.getElem_set_self]
        · rw [List.getElem_set_ne e]
    rw [e, List.length_set]
    exact own_set h4 hS (by decide) k u
/-- The first k rows padded. -/
def padK (c k : Nat) (R : List (List Int × Int)) : List (List Int × Int) := (R.take k).map (fun r => (padTo c r.1, r.2)) ++ R.drop k
theorem padK_len (c k : Nat) (R : List (List Int × Int)) : (padK c k R).length = R.length := by unfold padK; simp; omega
theorem padK_at (c k : Nat) (R : List (List Int × Int)) (hk : k < R.length) (h2 : k < (padK c k R).length) : (padK c k R)[k] = R[k] := by
  have hl : ((R.take k).map (fun r => (padTo c r.1, r.2))).length = k := by simp; omega
  simp only [padK]
  rw [List.getElem_append_right (by omega), List.getElem_drop]
  simp only [hl, Nat.sub_self, Nat.add_zero]
theorem padK_next (c k : Nat) (R : List (List Int × Int)) (hk : k < R.length) : (padK c k R).set k (padTo c R[k].1, R[k].2) = padK c (k + 1) R := by
  have hl : ((R.take k).map (fun r => (padTo c r.1, r.2))).length = k := by simp; omega
  unfold padK
  rw [List.set_append_right _ _ (by omega), hl, Nat.sub_self, List.drop_eq_getElem_cons hk, List.set_cons_zero, List.take_succ_eq_append_getElem hk, List.map_append, List.append_assoc]
  rfl
theorem padK_all (c : Nat) (R : List (List Int × Int)) : padK c R.length R = R.map fun r => (padTo c r.1, r.2) := by
  unfold padK; rw [List.take_length, List.drop_length, List.append_nil]
theorem padK_zero (c : Nat) (R : List (List Int × Int)) : padK c 0 R = R := by
  unfold padK; rw [List.take_zero, List.drop_zero]; rfl
theorem StR.rows {C : Nat} {R : List (List Int × Int)} {rv ov : Value} {W : World} (h : StR C R rv ov W) (hR : R.length ≤ 65) (hr : ∀ r ∈ R, 0 ≤ r.2 ∧ r.2 < 64) : Rows2 W rv (R.map fun r => r.1) ∧ Ints W ov (R.map fun r => r.2) := by
  obtain ⟨xs, h1, h2, h3, h4⟩ := h
  constructor
  · obtain ⟨a, cap, e⟩ := own_sl h1
    have hcap : R.length ≤ cap := by
      rcases h1.2 with ⟨e2, h0⟩ | ⟨g, cap', cur, e2, -, -, hnc, -⟩
      · omega
      · rw [e] at e2; injection e2 with _ _ e3; omega
    refine ⟨a, cap, by rw [e, List.length_map], by rw [List.length_map]; exact hcap, by rw [List.length_map]; omega, fun k hk => ?_⟩
    have hk2 : k < R.length := by rwa [List.length_map] at hk
    obtain ⟨g, cap', u, e2, -, hu, hcell⟩ := own_at h1 hk2
    rw [e] at e2
    injection e2 with e2 _ _
    have hky : k < xs.length := by omega
    have hu2 : xs[k] = u := by rw [List.getElem?_eq_getElem hky] at hu; injection hu
    refine ⟨g, 0, u, e2, by rw [Nat.zero_add]; exact hcell, ?_⟩
    have h9 := (h3 k hk2 hky).1
    rw [hu2] at h9
    rw [List.getElem_map]
    exact h9
  · refine Ints.own (base := C) (n := R.length) (by rw [List.map_map]; exact h4) (fun z hz => ?_) (by rw [List.length_map]; omega)
    obtain ⟨r, hr2, rfl⟩ := List.mem_map.1 hz
    have := hr r hr2
    exact R64.mk (by omega) (by omega)
theorem gate_small {g : GT} (hz : gateE g = 0) : rightG g = true ∧ lvsG g ≤ 300 := by
  unfold gateE at hz
  by_cases e : largeG g = true
  · rw [if_pos e] at hz; cases hz
  · rw [if_neg e] at hz
    by_cases e2 : rightG g = true
    · refine ⟨e2, ?_⟩
      have h1 : largeG g = false := by simpa using e
      have := of_decide_eq_false h1
      omega
    · rw [if_neg e2] at hz; cases hz

end Go.Proofs.Ytohebkpgjaaljaa

namespace Go.Proofs.Ytohebkpgjaaljaa
open Go.RowKit

structure MkS (w : World) (C MB : Nat) (R : List (List Int × Int)) (c : Nat) (rv ov : Value) (k : Nat) (W : World) : Prop where
  low : Below w.heap.size w W
  pb : W.heap[w.heap.size + 1]? = some (.cells #[.slice none 0 0, .slice none 0 0] 25 (0, 0))
  mb : W.heap[MB]? = some (.cells #[rv, ov, .int .i64 c] 79 (0, 0))
  st : StR C (padK c k R) rv ov W
theorem MkS.keep {w : World} {C MB : Nat} {R : List (List Int × Int)} {c : Nat} {rv ov : Value} {k : Nat} {W X : World} (h : MkS w C MB R c rv ov k W) (hb : Below W.heap.size W X) : MkS w C MB R c rv ov k X :=
  ⟨h.low.trans (hb.mono h.low.size), (hb.block _ (row_lt h.pb)).trans h.pb, (hb.block _ (row_lt h.mb)).trans h.mb, h.st.keep hb⟩
theorem StR.block {C : Nat} {R : List (List Int × Int)} {rv ov : Value} {W : World} {g n cap : Nat} (h : StR C R rv ov W) (he : rv = .slice (some ⟨g, 0, none⟩) n cap) : C ≤ g ∧ ∃ cs, W.heap[g]? = some (.cells cs 23 (0, 0)) := by
  obtain ⟨xs, h1, -, -, -⟩ := h
  subst he
  rcases h1.2 with ⟨e, -⟩ | ⟨g', cap', cur, e, hb, hg, -⟩
  · cases e
  · simp only [Value.slice.injEq, Option.some.injEq, Addr.mk.injEq] at e
    obtain ⟨⟨rfl, -, -⟩, -, -⟩ := e
    exact ⟨hb, cur, hg⟩
theorem ne_type {W : World} {g S : Nat} {cs ds : Array Value} {t u : TypeId} (h1 : W.heap[g]? = some (.cells cs t (0, 0))) (h2 : W.heap[S]? = some (.cells ds u (0, 0))) (hne : t ≠ u) : S ≠ g := fun e => by
  subst e
  rw [h1] at h2
  injection h2 with h2
  injection h2 with _ h3 _
  exact hne h3
theorem MkS.next {w : World} {C MB : Nat} {R : List (List Int × Int)} {c : Nat} {rv ov : Value} {k : Nat} {X : World} {g n cap : Nat} {u : Value} (h : MkS w C MB R c rv ov k X) (hC : w.heap.size ≤ C) (he : rv = .slice (some ⟨g, 0, none⟩) n cap) (hk : k < R.length) (hu : RowI X u (padTo c R[k].1)) : MkS w C MB R c rv ov (k + 1) (X.setCell ⟨g, k, none⟩ u) := by
  obtain ⟨hg, cs, hb⟩ := h.st.block he
  have hkp : k < (padK c k R).length := by rw [padK_len]; exact hk
  have hs := h.st.put he hkp hu
  rw [padK_at c k R hk hkp, padK_next c k R hk] at hs
  exact ⟨h.low.setCell (by show _ ≤ g; omega) _, (Below.heap_setCell _ _ _ _ (ne_type hb h.pb (by decide))).trans h.pb, (Below.heap_setCell _ _ _ _ (ne_type hb h.mb (by decide))).trans h.mb, hs⟩

set_option maxRecDepth 100000 in
set_option maxHeartbeats 16000000 in
theorem rmake_any (vg : Value) (g : GT) (w : World) (hg : GateV w vg g) : Calls Try.prog 16 #[vg] w fun e w' => ∃ rv ov, e = .returned (.tuple #[.agg #[rv, ov], .int .i64 (makE g)]) ∧ Rows2 w' rv (makR g) ∧ Ints w' ov (makO g) ∧ Below w.heap.size w w' := by
  have HG0 := Lib.hid hg
  obtain ⟨p, n, l, a, cap, rfl, hgd⟩ := gate_parts hg
  clear hg
  obtain ⟨W2, hW2⟩ : ∃ W2, W2 = (w.alloc (.cells #[.int .i64 p, .int .i64 n, .slice a l.length cap] 28)).alloc (.cells #[.slice none 0 0, .slice none 0 0] 25) := ⟨_, rfl⟩
  have hb2 : Below w.heap.size w W2 := hW2 ▸ (below_new w _ _).alloc (by simp) _
  have r1 : W2.heap[w.heap.size]? = some (.cells #[.int .i64 p, .int .i64 n, .slice a l.length cap] 28 (0, 0)) := by
    rw [hW2]; exact ((below_new (w.alloc _) _ _).block _ (by simp)).trans (World.alloc_heap_new _ _)
  have r2 : W2.heap[w.heap.size + 1]? = some (.cells #[.slice none 0 0, .slice none 0 0] 25 (0, 0)) := by
    have := World.alloc_heap_new (w.alloc (.cells #[.int .i64 p, .int .i64 n, .slice a l.length cap] 28)) (.cells #[.slice none 0 0, .slice none 0 0] 25)
    rw [World.size_alloc] at this
    rw [hW2]; exact this
  have c0 : W2.cell? ⟨w.heap.size, 0, none⟩ = some (.int .i64 p) := row_cell r1 rfl
  have c1 : W2.cell? ⟨w.heap.size, 1, none⟩ = some (.int .i64 n) := row_cell r1 rfl
  have c2 : W2.cell? ⟨w.heap.size, 2, none⟩ = some (.slice a l.length cap) := row_cell r1 rfl
  have HW2 := Lib.hid hW2
  have HB2 := Lib.hid hb2
  have R2 := Lib.hid r2
  have HG2 := Lib.hid (HG0.out.later hb2)
  clear hW2 hb2 r1 r2 hgd
  go_enter Try.func16, Try.ntmps16
  go_wp2_with fail
  rw [← HW2.out]
  refine (rCheck22_any _ g W2 HG2.out).mono ?_
  rintro e w1 ⟨rfl, hb⟩
  have HB1 := Lib.hid (HB2.out.trans (hb.mono HB2.out.size))
  have q1 : w1.heap[w.heap.size + 1]? = some (.cells #[.slice none 0 0, .slice none 0 0] 25 (0, 0)) := (hb.block _ (row_lt R2.out)).trans R2.out
  have Q2 := Lib.hid q1
  have d0 := below_cell hb c0
  have d1 := below_cell hb c1
  have d2 := below_cell hb c2
  have x0 : w1.cell? ⟨w.heap.size + 1, 0, none⟩ = some (.slice none 0 0) := row_cell q1 rfl
  have x1 : w1.cell? ⟨w.heap.size + 1, 1, none⟩ = some (.slice none 0 0) := row_cell q1 rfl
  have f0 := row_free q1 0
  have f1 := row_free q1 1
  have hgv : gateE g = 0 ∨ gateE g ≠ 0 := by omega
  clear hb q1 c0 c1 c2
  rcases hgv with hz | hz
  rotate_left
  · have hm : makE g = gateE g := by unfold makE; rw [if_neg hz]
    have HV : Hid (makE g = gateE g ∧ makR g = [] ∧ makO g = []) := Lib.hid ⟨hm, by unfold makR; rw [hm, if_neg hz], by unfold makO; rw [hm, if_neg hz]⟩
    have hne : (gateE g != 0) = true := bne_iff_ne.2 hz
    generalize gateE g = q at *
    clear hz hm
    go_wp2_with fail
    try simp only [Exit.inBlock, Exit.then]
    refine bodyPost_ret (v := .tuple #[.agg #[.slice none 0 0, .slice none 0 0], .int .i64 q]) ?_ rfl ?_
    · rw [results_cell_tmp rfl]
      go_simp
    · refine ⟨_, _, by rw [HV.out.1], by rw [HV.out.2.1]; exact Rows2.nil _ _ _, by rw [HV.out.2.2]; exact Ints.nil _ _ _, (HB1.out.setCell (Nat.le_succ _) _).setCell (Nat.le_succ _) _⟩
  have hmk : makE g = if (genR g [1] 1).1.length ≤ 64 ∧ (genR g [1] 1).2 ≤ 64 then 0 else 2 := by unfold makE; rw [if_pos hz]
  obtain ⟨hrt, hlv⟩ := gate_small hz
  obtain ⟨W5, hW5⟩ : ∃ W5, W5 = w1.alloc (.cells #[.int .i64 1] 3) := ⟨_, rfl⟩
  have hb5 : Below w1.heap.size w1 W5 := hW5 ▸ below_new _ _ _
  have r5 : W5.heap[w1.heap.size]? = some (.cells #[.int .i64 1] 3 (0, 0)) := by rw [hW5]; exact World.alloc_heap_new _ _
  have hv5 : RowI W5 (.slice (some ⟨w1.heap.size, 0, none⟩) 1 1) [1] := ⟨⟨_, 1, rfl, Nat.le_refl _, by simp, fun z hz => by rw [List.mem_singleton.1 hz]; exact R64.mk (by omega) (by omega), fun k hk => ⟨_, 0, rfl, by obtain rfl : k = 0 := (by simpa using hk); exact row_cell r5 rfl⟩⟩, by simp, _, _, _, _, _, rfl, r5⟩
  have hcall : Calls Try.prog 50 #[.agg #[.slice none 0 0, .slice none 0 0, .int .i64 1], .agg #[.int .i64 p, .int .i64 n, .slice a l.length cap], .slice (some ⟨w1.heap.size, 0, none⟩) 1 1] W5 (TPost w1.heap.size [] g [1] 1 W5) :=
    rtreat_at w1.heap.size w _ g HG0.out hrt hlv W5 [] [1] _ _ _ 1 (HB1.out.trans (hb5.mono HB1.out.size)) hb5.size (by simp) (by omega) (fun _ _ => by simp) (StR.nil _ _) hv5
  have HCALL := Lib.hid hcall
  have HMK := Lib.hid hmk
  have HRT := Lib.hid hrt
  have HW5 := Lib.hid hW5
  have HB5 := Lib.hid hb5
  rw [hz]
  clear hz hmk hrt hlv hW5 hb5 r5 hv5 hcall x0 x1 f0 f1
  go_wp2_with (rw [← HW5.out])
  with_reducible refine (HCALL.out).mono ?_
  rintro e w2 ⟨rv, ov, R, c, rfl, hst, hb, hl, hc, hpo⟩
  obtain ⟨ra, rc, oa, oc, rfl, rfl⟩ := StR.shape hst
  obtain ⟨W7, hW7⟩ : ∃ W7, W7 = w2.alloc (.cells #[.slice ra R.length rc, .slice oa R.length oc, .int .i64 c] 79) := ⟨_, rfl⟩
  have hb7 : Below w2.heap.size w2 W7 := hW7 ▸ below_new _ _ _
  have r7 : W7.heap[w2.heap.size]? = some (.cells #[.slice ra R.length rc, .slice oa R.length oc, .int .i64 c] 79 (0, 0)) := by rw [hW7]; exact World.alloc_heap_new _ _
  have hlow5 : Below w.heap.size w W5 := HB1.out.trans (HB5.out.mono HB1.out.size)
  have hlow2 : Below w.heap.size w w2 := hlow5.trans (hb.mono hlow5.size)
  have p5 := (HB5.out.block _ (row_lt Q2.out)).trans Q2.out
  have p2 := (hb.block _ (row_lt p5)).trans p5
  have hS7 : MkS w w1.heap.size w2.heap.size R c (.slice ra R.length rc) (.slice oa R.length oc) 0 W7 := ⟨hlow2.trans (hb7.mono hlow2.size), (hb7.block _ (row_lt p2)).trans p2, r7, by rw [padK_zero]; exact hst.keep hb7⟩
  have HS7 := Lib.hid hS7
  have HW7 := Lib.hid hW7
  have hwC := HB1.out.size
  have HWC := Lib.hid hwC
  have x0 : W7.cell? ⟨w.heap.size + 1, 0, none⟩ = some (.slice none 0 0) := row_cell hS7.pb rfl
  have x1 : W7.cell? ⟨w.heap.size + 1, 1, none⟩ = some (.slice none 0 0) := row_cell hS7.pb rfl
  have f0 := row_free hS7.pb 0
  have f1 := row_free hS7.pb 1
  have y0 : W7.cell? ⟨w2.heap.size, 0, none⟩ = some (.slice ra R.length rc) := row_cell r7 rfl
  have y1 : W7.cell? ⟨w2.heap.size, 1, none⟩ = some (.slice oa R.length oc) := row_cell r7 rfl
  have y2 : W7.cell? ⟨w2.heap.size, 2, none⟩ = some (.int .i64 c) := row_cell r7 rfl
  clear hst hb hW7 hb7 r7 hlow5 hlow2 p5 p2 hS7 hwC d0 d1 d2
  rcases hpo with ⟨hF, hRe, hce⟩ | ⟨hF, hbad⟩
  rotate_left
  · have hm : makE g = 2 := by
      rw [HMK.out, if_neg]
      intro h
      exact hF ⟨by simpa using h.1, h.2⟩
    have HM : Hid (makE g = 2 ∧ makR g = [] ∧ makO g = []) := Lib.hid ⟨hm, by unfold makR; rw [hm, if_neg (by decide)], by unfold makO; rw [hm, if_neg (by decide)]⟩
    clear hm hF hl hc
    by_cases h64 : 64 < R.length
    · have e0 : decide (64 < (R.length : Int)) = true := decide_eq_true (by omega)
      have e1 : decide (64 < R.length) = true := decide_eq_true h64
      clear h64 hbad
      go_wp2_with (rw [← HW7.out])
      try simp only [Exit.inBlock, Exit.then]
      refine bodyPost_ret (v := .tuple #[.agg #[.slice none 0 0, .slice none 0 0], .int .i64 2]) ?_ rfl ?_
      · rw [results_cell_tmp rfl]
        go_simp
      · refine ⟨_, _, by rw [HM.out.1], by rw [HM.out.2.1]; exact Rows2.nil _ _ _, by rw [HM.out.2.2]; exact Ints.nil _ _ _, (HS7.out.low.setCell (Nat.le_succ _) _).setCell (Nat.le_succ _) _⟩
    · have e0 : decide (64 < (R.length : Int)) = false := decide_eq_false (by omega)
      have e1 : decide (64 < R.length) = false := decide_eq_false h64
      have e2 : decide (64 < (c : Int)) = true := decide_eq_true (by omega)
      have e3 : decide (64 < c) = true := decide_eq_true (by omega)
      clear h64 hbad
      go_wp2_with (rw [← HW7.out])
      try simp only [Exit.inBlock, Exit.then]
      refine bodyPost_ret (v := .tuple #[.agg #[.slice none 0 0, .slice none 0 0], .int .i64 2]) ?_ rfl ?_
      · rw [results_cell_tmp rfl]
        go_simp
      · refine ⟨_, _, by rw [HM.out.1], by rw [HM.out.2.1]; exact Rows2.nil _ _ _, by rw [HM.out.2.2]; exact Ints.nil _ _ _, (HS7.out.low.setCell (Nat.le_succ _) _).setCell (Nat.le_succ _) _⟩
  · rw [List.nil_append] at hRe
    have hF2 : R.length ≤ 64 ∧ c ≤ 64 := by rw [hRe, hce]; exact ⟨by simpa using hF.1, hF.2⟩
    have hm : makE g = 0 := by rw [HMK.out, if_pos (by rw [← hRe, ← hce]; exact hF2)]
    have hmr : makR g = R.map fun r => padTo c r.1 := by unfold makR; rw [if_pos hm, ← hRe, ← hce]
    have hmo : makO g = R.map fun r => r.2 := by unfold makO; rw [if_pos hm, ← hRe]
    have hrow : ∀ r ∈ R, r.1.length ≤ c ∧ 0 ≤ r.2 ∧ r.2 < 64 := fun r hr => by
      rw [hRe] at hr
      rw [hce]
      exact ⟨(gen_row g [1] 1 (by simp) r hr).1, gen_owner g [1] 1 HRT.out r hr⟩
    have HM := Lib.hid (And.intro hm (And.intro hmr hmo))
    have HROW := Lib.hid hrow
    have HF := Lib.hid hF2
    have e0 : decide (64 < (R.length : Int)) = false := decide_eq_false (by omega)
    have e1 : decide (64 < R.length) = false := decide_eq_false (by omega)
    have e2 : decide (64 < (c : Int)) = false := decide_eq_false (by omega)
    have e3 : decide (64 < c) = false := decide_eq_false (by omega)
    clear hRe hce hF hF2 hm hmr hmo hrow hl hc
    go_wp2_with (rw [← HW7.out])
    go_loopw [6] (fun i W' => ∃ k : Nat, k ≤ R.length ∧ i = .int .i64 k ∧ Hid (MkS w w1.heap.size w2.heap.size R c (.slice ra R.length rc) (.slice oa R.length oc) k W')) (fun i _ => R.length - (intOf i).toNat)
    case atStart => exact ⟨0, Nat.zero_le _, rfl, HS7⟩
    case round =>
      clear x0 x1 f0 f1 y0 y1 y2
      obtain ⟨k, hkl, rfl, HS⟩ := hrel
      have y0 : wr.cell? ⟨w2.heap.size, 0, none⟩ = some (.slice ra R.length rc) := row_cell HS.out.mb rfl
      have hR64 := HF.out.1
      by_cases hlt : k < R.length
      · obtain ⟨xs, h1, h2, h3, h4⟩ := id HS.out.st
        have hkp : k < (padK c k R).length := by rw [padK_len]; exact hlt
        obtain ⟨g1, cp1, r, he, hbg, hy, hcell⟩ := own_at h1 hkp
        rw [padK_len] at he
        have he1 : ra = some ⟨g1, 0, none⟩ ∧ rc = cp1 := by injection he with e1 _ e2; exact ⟨e1, e2⟩
        obtain ⟨rfl, rfl⟩ := he1
        have hky : k < xs.length := by omega
        have hri := h3 k hkp hky
        rw [padK_at c k R hlt hkp, show xs[k] = r by rw [List.getElem?_eq_getElem hky] at hy; injection hy] at hri
        have hbd : Below wr.heap.size wr wr.drew := (Below.refl _ _).drew
        have hSD := HS.out.keep hbd
        obtain ⟨vb, vo, vn, vc0, vcs, rfl, -⟩ := id hri.2.2
        have y0d : wr.drew.cell? ⟨w2.heap.size, 0, none⟩ = some (.slice (some ⟨g1, 0, none⟩) R.length rc) := row_cell hSD.mb rfl
        have y2d : wr.drew.cell? ⟨w2.heap.size, 2, none⟩ = some (.int .i64 c) := row_cell hSD.mb rfl
        have ykd := below_cell hbd hcell
        have HSD := Lib.hid hSD
        have HRI := Lib.hid (hri.keep hbd)
        have hrw := HROW.out _ (List.getElem_mem hlt)
        have HLC : Hid (R[k].1.length ≤ 1000 ∧ c ≤ 1000) := Lib.hid (by have := HF.out; omega)
        have HPNE : Hid (padTo c R[k].1 ≠ [] ∧ (∀ z ∈ padTo c R[k].1, R64 z) ∧ (padTo c R[k].1).length ≤ 1000000) := Lib.hid (by
          refine ⟨fun e => ?_, fun z hz => ?_, ?_⟩
          · unfold padTo at e
            exact hri.2.1 (List.append_eq_nil_iff.1 e).1
          · unfold padTo at hz
            rcases List.mem_append.1 hz with h | h
            · obtain ⟨_, _, _, _, _, h5, _⟩ := hri.1
              exact h5 z h
            · rw [(List.mem_replicate.1 h).2]; exact R64.mk (by omega) (by omega)
          · have := HF.out
            unfold padTo; simp; omega)
        have i0 : (0 : Int) ≤ (k : Int) := by omega
        have i1 : (k : Int) < (R.length : Int) := by omega
        clear h1 h2 h3 h4 hy hky hri hbd hSD hbg he hrw hcell hkp
        go_wp2_with fail
        go_region_with (go_at_call 51; refine (rlong_any _ R[k].1 c _ HRI.out.1 HRI.out.2.1 HLC.out.1 HLC.out.2).mono ?_; rintro e w5 ⟨u, rfl, hu, hb5⟩; obtain ⟨ua, uc, rfl⟩ := own_sl hu; have HU5 := Lib.hid (RowI.own hu HPNE.out.1 HPNE.out.2.1 HPNE.out.2.2); have HS5 := Lib.hid (HSD.out.keep hb5); have s0 : w5.cell? ⟨w2.heap.size, 0, none⟩ = some (.slice (some ⟨g1, 0, none⟩) R.length rc) := row_cell HS5.out.mb rfl; have s1 := below_cell hb5 ykd; obtain ⟨-, cs5, hg5⟩ := HS5.out.st.block rfl; have s2 := row_free hg5 k; clear hu hb5 hg5)
        all_goals
          have HN := Lib.hid (HS5.out.next HWC.out rfl hlt HU5.out)
          have hkk : k + 1 ≤ R.length := by omega
          clear s0 s1 s2 y0d y2d ykd
          go_wp2_with fail
          go_roundw
          case rel => exact ⟨k + 1, hkk, by go_num, HN⟩
          case measure => simp [intOf]; omega
      · obtain rfl : k = R.length := by omega
        have x0 : wr.cell? ⟨w.heap.size + 1, 0, none⟩ = some (.slice none 0 0) := row_cell HS.out.pb rfl
        have x1 : wr.cell? ⟨w.heap.size + 1, 1, none⟩ = some (.slice none 0 0) := row_cell HS.out.pb rfl
        have f0 := row_free HS.out.pb 0
        have f1 := row_free HS.out.pb 1
        have y1 : wr.cell? ⟨w2.heap.size, 1, none⟩ = some (.slice oa R.length oc) := row_cell HS.out.mb rfl
        obtain ⟨hr1, hr2⟩ := StR.rows ((HS.out.st.set HS.out.pb (by decide) (by decide) 0 (.slice ra R.length rc)).set (row_set HS.out.pb 0 _) (by decide) (by decide) 1 (.slice oa R.length oc)) (by rw [padK_len]; omega) (fun r hr => by
          rw [padK_all] at hr
          obtain ⟨q, hq, rfl⟩ := List.mem_map.1 hr
          exact (HROW.out q hq).2)
        rw [padK_all, List.map_map] at hr1 hr2
        have HR1 := Lib.hid hr1
        have HR2 := Lib.hid hr2
        have HLOW := Lib.hid HS.out.low
        clear hr1 hr2 hlt
        go_wp2_with fail
        try simp only [Exit.inBlock, Exit.then]
        refine bodyPost_ret (v := .tuple #[.agg #[.slice ra R.length rc, .slice oa R.length oc], .int .i64 0]) ?_ rfl ?_
        · rw [results_cell_tmp rfl]
          go_simp
        · refine ⟨_, _, by rw [HM.out.1], ?_, ?_, (HLOW.out.setCell (Nat.le_succ _) _).setCell (Nat.le_succ _) _⟩
          · rw [HM.out.2.1]; exact HR1.out
          · rw [HM.out.2.2]; exact HR2.out

end Go.Proofs.Ytohebkpgjaaljaa

namespace Go.Proofs.Ytohebkpgjaaljaa
open Go.RowKit FP

set_option maxRecDepth 100000 in
set_option maxHeartbeats 16000000 in
theorem programSpec_any (rv ov v : Value) (rows : List (List Int)) (owners : List Int) (g : GT) (w : World) (hR : Rows2 w rv rows) (hO : Ints w ov owners) (hg : GateV w v g) :
    Calls Try.prog 3 #[.agg #[rv, ov], v] w fun e w' => e = .returned (.bool true) ∧ Below w.heap.size w w' := by
  obtain ⟨W0, hW0, hb0, hr0, hz⟩ := box_prog w rv ov 25
  obtain ⟨p, n, l, a, cap, rfl, hgd⟩ := gate_parts hg
  have hsz : W0.heap.size = w.heap.size + 1 := by rw [hW0]; simp
  have hbg := below_new W0 #[.int .i64 p, .int .i64 n, .slice a l.length cap] 28
  have hrg := World.alloc_heap_new W0 (.cells #[.int .i64 p, .int .i64 n, .slice a l.length cap] 28)
  obtain ⟨W1, hW1⟩ : ∃ W1, W1 = W0.alloc (.cells #[.int .i64 p, .int .i64 n, .slice a l.length cap] 28) := ⟨_, rfl⟩
  rw [← hW1, hsz] at hrg
  rw [← hW1] at hbg
  have hb1 := hb0.trans (hbg.mono hb0.size)
  have HR := Lib.hid (hR.below hb1)
  have HO := Lib.hid (hO.below hb1)
  have HG : Hid (GatW W1 _ g) := Lib.hid (hg.later hb1)
  obtain ⟨a1, k1, rfl, -, hl1, -⟩ := id hR
  obtain ⟨a2, k2, rfl, -, hl2, -⟩ := id hO
  have hr0' := (hbg.block _ hz).trans hr0
  have c0 : W1.cell? ⟨w.heap.size, 0, none⟩ = some (.slice a1 rows.length k1) := row_cell hr0' rfl
  have c1 : W1.cell? ⟨w.heap.size, 1, none⟩ = some (.slice a2 owners.length k2) := row_cell hr0' rfl
  have g0 : W1.cell? ⟨w.heap.size + 1, 0, none⟩ = some (.int .i64 p) := row_cell hrg rfl
  have g1 : W1.cell? ⟨w.heap.size + 1, 1, none⟩ = some (.int .i64 n) := row_cell hrg rfl
  have g2 : W1.cell? ⟨w.heap.size + 1, 2, none⟩ = some (.slice a l.length cap) := row_cell hrg rfl
  have HW1 : Hid (W1 = (w.alloc (.cells #[.slice a1 rows.length k1, .slice a2 owners.length k2] 25)).alloc (.cells #[.int .i64 p, .int .i64 n, .slice a l.length cap] 28)) := Lib.hid (by rw [hW1, hW0])
  have HB := Lib.hid hb1
  clear hR hO hg hgd hW0 hW1 hb0 hr0 hr0' hz hsz hbg hrg hb1
  go_enter Try.func3, Try.ntmps3
  go_wp2_with (rw [← HW1.out])
  refine (sane23_any _).mono ?_
  rintro e w2 ⟨rfl, hb2⟩
  replace c0 := below_cell hb2 c0
  replace c1 := below_cell hb2 c1
  replace g0 := below_cell hb2 g0
  replace g1 := below_cell hb2 g1
  replace g2 := below_cell hb2 g2
  replace HR := Lib.hid (HR.out.below hb2)
  replace HO := Lib.hid (HO.out.below hb2)
  replace HG := Lib.hid (HG.out.below hb2)
  replace HB := Lib.hid (HB.out.trans (hb2.mono HB.out.size))
  clear hb2
  go_wp2_with fail
  refine (rFew23_any _ _ rows owners _ HR.out HO.out).mono ?_
  rintro e w3 ⟨bf, rfl, hb3⟩
  replace c0 := below_cell hb3 c0
  replace c1 := below_cell hb3 c1
  replace g0 := below_cell hb3 g0
  replace g1 := below_cell hb3 g1
  replace g2 := below_cell hb3 g2
  replace HR := Lib.hid (HR.out.below hb3)
  replace HO := Lib.hid (HO.out.below hb3)
  replace HG := Lib.hid (HG.out.below hb3)
  replace HB := Lib.hid (HB.out.trans (hb3.mono HB.out.size))
  clear hb3
  cases bf with
  | false =>
    go_wp2_with fail
    go_ret
    exact ⟨rfl, HB.out⟩
  | true =>
    go_wp2_with fail
    refine (few23_any _ _ g [] _ HG.out (Ints.nil _ none 0)).mono ?_
    rintro e w4 ⟨he, hb4⟩
    replace c0 := below_cell hb4 c0
    replace c1 := below_cell hb4 c1
    replace g0 := below_cell hb4 g0
    replace g1 := below_cell hb4 g1
    replace g2 := below_cell hb4 g2
    replace HR := Lib.hid (HR.out.below hb4)
    replace HO := Lib.hid (HO.out.below hb4)
    replace HG := Lib.hid (HG.out.below hb4)
    replace HB := Lib.hid (HB.out.trans (hb4.mono HB.out.size))
    clear hb4
    rcases he with ⟨rfl, -⟩ | rfl
    rotate_left
    · go_wp2_with fail
      go_ret
      exact ⟨rfl, HB.out⟩
    go_wp2_with fail
    refine (make_any _ g _ HG.out).mono ?_
    rintro e w5 ⟨rv1, ov1, rfl, hR1, hO1, hb5⟩
    replace c0 := below_cell hb5 c0
    replace c1 := below_cell hb5 c1
    replace g0 := below_cell hb5 g0
    replace g1 := below_cell hb5 g1
    replace g2 := below_cell hb5 g2
    replace HR := Lib.hid (HR.out.below hb5)
    replace HO := Lib.hid (HO.out.below hb5)
    replace HG := Lib.hid (HG.out.below hb5)
    replace HB := Lib.hid (HB.out.trans (hb5.mono HB.out.size))
    clear hb5
    obtain ⟨ra, rc, rfl, -⟩ := id hR1
    obtain ⟨oa, oc, rfl, -⟩ := id hO1
    obtain ⟨W5, hW5, hb6, hr5, -⟩ := box_prog w5 (.slice ra (makR g).length rc) (.slice oa (makO g).length oc) 25
    have HR1 := Lib.hid (hR1.below hb6)
    have HO1 := Lib.hid (hO1.below hb6)
    have c3 : W5.cell? ⟨w5.heap.size, 0, none⟩ = some (.slice ra (makR g).length rc) := row_cell hr5 rfl
    have c4 : W5.cell? ⟨w5.heap.size, 1, none⟩ = some (.slice oa (makO g).length oc) := row_cell hr5 rfl
    have HW5 := Lib.hid hW5
    clear hR1 hO1 hr5 hW5
    replace c0 := below_cell hb6 c0
    replace c1 := below_cell hb6 c1
    replace g0 := below_cell hb6 g0
    replace g1 := below_cell hb6 g1
    replace g2 := below_cell hb6 g2
    replace HR := Lib.hid (HR.out.below hb6)
    replace HO := Lib.hid (HO.out.below hb6)
    replace HG := Lib.hid (HG.out.below hb6)
    replace HB := Lib.hid (HB.out.trans (hb6.mono HB.out.size))
    clear hb6
    go_wp2_with (rw [← HW5.out])
    refine (rmake_any _ g _ HG.out).mono ?_
    rintro e w7 ⟨rv2, ov2, rfl, hR2, hO2, hb7⟩
    replace c0 := below_cell hb7 c0
    replace c1 := below_cell hb7 c1
    replace g0 := below_cell hb7 g0
    replace g1 := below_cell hb7 g1
    replace g2 := below_cell hb7 g2
    replace c3 := below_cell hb7 c3
    replace c4 := below_cell hb7 c4
    replace HR := Lib.hid (HR.out.below hb7)
    replace HO := Lib.hid (HO.out.below hb7)
    replace HG := Lib.hid (HG.out.below hb7)
    replace HR1 := Lib.hid (HR1.out.below hb7)
    replace HO1 := Lib.hid (HO1.out.below hb7)
    replace HB := Lib.hid (HB.out.trans (hb7.mono HB.out.size))
    clear hb7
    obtain ⟨rb, rd, rfl, -⟩ := id hR2
    obtain ⟨ob, od, rfl, -⟩ := id hO2
    obtain ⟨W8, hW8, hb8, hr8, -⟩ := box_prog w7 (.slice rb (makR g).length rd) (.slice ob (makO g).length od) 25
    have HR2 := Lib.hid (hR2.below hb8)
    have HO2 := Lib.hid (hO2.below hb8)
    have c5 : W8.cell? ⟨w7.heap.size, 0, none⟩ = some (.slice rb (makR g).length rd) := row_cell hr8 rfl
    have c6 : W8.cell? ⟨w7.heap.size, 1, none⟩ = some (.slice ob (makO g).length od) := row_cell hr8 rfl
    have HW8 := Lib.hid hW8
    clear hR2 hO2 hr8 hW8
    replace c0 := below_cell hb8 c0
    replace c1 := below_cell hb8 c1
    replace g0 := below_cell hb8 g0
    replace g1 := below_cell hb8 g1
    replace g2 := below_cell hb8 g2
    replace c3 := below_cell hb8 c3
    replace c4 := below_cell hb8 c4
    replace HR := Lib.hid (HR.out.below hb8)
    replace HO := Lib.hid (HO.out.below hb8)
    replace HG := Lib.hid (HG.out.below hb8)
    replace HR1 := Lib.hid (HR1.out.below hb8)
    replace HO1 := Lib.hid (HO1.out.below hb8)
    replace HB := Lib.hid (HB.out.trans (hb8.mono HB.out.size))
    clear hb8
    generalize makR g = r at *
    generalize makO g = o at *
    generalize makE g = q at *
    have hqq : (q == q) = true := by simp
    have HPC := Lib.hid (fun ww h1 h2 => pCheck_any (.slice a1 rows.length k1) (.slice a2 owners.length k2) rows owners ww h1 h2)
    have HRC := Lib.hid (fun ww h1 h2 => rpCheck_any (.slice a1 rows.length k1) (.slice a2 owners.length k2) rows owners ww h1 h2)
    generalize progE rows owners = t at *
    have htt : (t == t) = true := by simp
    have HSM : Hid (sameP r r o o = true) := Lib.hid (by unfold sameP sameQ; simp)
    have hbd : Below W8.heap.size W8 W8.drew := (Below.refl _ _).drew
    replace HR := Lib.hid (HR.out.below hbd)
    replace HO := Lib.hid (HO.out.below hbd)
    replace HR1 := Lib.hid (HR1.out.below hbd)
    replace HO1 := Lib.hid (HO1.out.below hbd)
    replace HR2 := Lib.hid (HR2.out.below hbd)
    replace HO2 := Lib.hid (HO2.out.below hbd)
    replace HB := Lib.hid (HB.out.drew)
    clear hbd
    go_wp2_with (rw [← HW8.out])
    go_region_held3 (fun w' => w'.cell? ⟨w.heap.size, 0, none⟩ = some (.slice a1 rows.length k1) ∧ w'.cell? ⟨w.heap.size, 1, none⟩ = some (.slice a2 owners.length k2) ∧ w'.cell? ⟨w5.heap.size, 0, none⟩ = some (.slice ra r.length rc) ∧ w'.cell? ⟨w5.heap.size, 1, none⟩ = some (.slice oa o.length oc) ∧ w'.cell? ⟨w7.heap.size, 0, none⟩ = some (.slice rb r.length rd) ∧ w'.cell? ⟨w7.heap.size, 1, none⟩ = some (.slice ob o.length od)) (first | go_keep | exact ⟨c0, c1, c3, c4, c5, c6⟩)
      (first
        | (go_at_call 17; (with_reducible refine (HPC.out _ HR.out HO.out).mono ?_); rintro e w9 ⟨rfl, hb9⟩; replace c0 := below_cell hb9 c0; replace c1 := below_cell hb9 c1; replace g0 := below_cell hb9 g0; replace g1 := below_cell hb9 g1; replace g2 := below_cell hb9 g2; replace c3 := below_cell hb9 c3; replace c4 := below_cell hb9 c4; replace c5 := below_cell hb9 c5; replace c6 := below_cell hb9 c6; replace HR := Lib.hid (HR.out.below hb9); replace HO := Lib.hid (HO.out.below hb9); replace HR1 := Lib.hid (HR1.out.below hb9); replace HO1 := Lib.hid (HO1.out.below hb9); replace HR2 := Lib.hid (HR2.out.below hb9); replace HO2 := Lib.hid (HO2.out.below hb9); replace HB := Lib.hid (HB.out.trans (hb9.mono HB.out.size)); clear hb9)
        | (go_at_call 18; (with_reducible refine (HRC.out _ HR.out HO.out).mono ?_); rintro e w10 ⟨rfl, hb10⟩; replace c0 := below_cell hb10 c0; replace c1 := below_cell hb10 c1; replace g0 := below_cell hb10 g0; replace g1 := below_cell hb10 g1; replace g2 := below_cell hb10 g2; replace c3 := below_cell hb10 c3; replace c4 := below_cell hb10 c4; replace c5 := below_cell hb10 c5; replace c6 := below_cell hb10 c6; replace HR := Lib.hid (HR.out.below hb10); replace HO := Lib.hid (HO.out.below hb10); replace HR1 := Lib.hid (HR1.out.below hb10); replace HO1 := Lib.hid (HO1.out.below hb10); replace HR2 := Lib.hid (HR2.out.below hb10); replace HO2 := Lib.hid (HO2.out.below hb10); replace HB := Lib.hid (HB.out.trans (hb10.mono HB.out.size)); clear hb10)
        | (go_at_call 19; (with_reducible refine (same_val _ _ _ _ r r o o true _ HR1.out HO1.out HR2.out HO2.out HSM.out).mono ?_); rintro e w11 ⟨rfl, hb11⟩; replace c0 := below_cell hb11 c0; replace c1 := below_cell hb11 c1; replace g0 := below_cell hb11 g0; replace g1 := below_cell hb11 g1; replace g2 := below_cell hb11 g2; replace c3 := below_cell hb11 c3; replace c4 := below_cell hb11 c4; replace c5 := below_cell hb11 c5; replace c6 := below_cell hb11 c6; replace HR := Lib.hid (HR.out.below hb11); replace HO := Lib.hid (HO.out.below hb11); replace HR1 := Lib.hid (HR1.out.below hb11); replace HO1 := Lib.hid (HO1.out.below hb11); replace HR2 := Lib.hid (HR2.out.below hb11); replace HO2 := Lib.hid (HO2.out.below hb11); replace HB := Lib.hid (HB.out.trans (hb11.mono HB.out.size)); clear hb11))
    all_goals
      go_wp2_with fail
      go_ret
      exact ⟨rfl, HB.out⟩

end Go.Proofs.Ytohebkpgjaaljaa
