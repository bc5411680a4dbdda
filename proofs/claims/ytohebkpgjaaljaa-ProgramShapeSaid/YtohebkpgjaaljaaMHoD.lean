/- What program.Make makes means what the formula says, in plain Lean. -/
import Derived.Test.YtohebkpgjaaljaaMHoA
import Derived.Test.YtohebkpgjaaljaaMGatG
import Derived.Test.YtohebkpgjaaljaaMPmG
namespace Go.Proofs.Ytohebkpgjaaljaa
open Go.RowKit FP

mutual
theorem gen_num : ∀ (g : GT) (v : List Int) (c : Nat), (∀ z ∈ v, 0 ≤ z ∧ z < 1073741789) → ∀ r ∈ (genR g v c).1, ∀ z ∈ r.1, 0 ≤ z ∧ z < 1073741789
  | .mk p n l, v, c, hv, r, hr, z, hz => by
    unfold genR at hr
    by_cases h0 : 0 ≤ p
    · rw [if_pos h0] at hr
      rw [List.mem_singleton.1 hr] at hz
      exact hv z hz
    · rw [if_neg h0] at hr
      refine genL_num l _ _ _ _ (fun z hz => ?_) r hr z hz
      rcases List.mem_append.1 hz with hz | hz
      · exact hv z hz
      · rw [(List.mem_replicate.1 hz).2]; omega
theorem genL_num : ∀ (l : List GT) (i : Nat) (b : List Int) (m c : Nat), (∀ z ∈ b, 0 ≤ z ∧ z < 1073741789) → ∀ r ∈ (genL l i b m c).1, ∀ z ∈ r.1, 0 ≤ z ∧ z < 1073741789
  | [], _, _, _, _, _, r, hr, _, _ => by unfold genL at hr; cases hr
  | x :: t, i, b, m, c, hb, r, hr, z, hz => by
    unfold genL at hr
    rcases List.mem_append.1 hr with hr | hr
    · refine gen_num x _ c (fun z hz => ?_) r hr z hz
      rcases List.mem_append.1 hz with hz | hz
      · exact hb z hz
      · obtain ⟨j, -, rfl⟩ := List.mem_map.1 hz
        exact mod_num _
    · exact genL_num t _ _ _ _ hb r hr z hz
end
mutual
theorem lvsG_pos : ∀ g : GT, 1 ≤ lvsG g
  | .mk _ _ [] => by unfold lvsG; omega
  | .mk _ _ (x :: t) => by unfold lvsG; have := lvsG_pos x; omega
end
theorem lvsL_ge : ∀ l : List GT, l.length ≤ lvsL l
  | [] => Nat.zero_le _
  | x :: t => by
    unfold lvsL
    have := lvsG_pos x
    have := lvsL_ge t
    simp only [List.length_cons]; omega
mutual
theorem fit_right : ∀ g : GT, rightG g = true → lvsG g ≤ 1000000 → fitG g = true
  | .mk p n l, hr, hl => by
    unfold rightG at hr
    unfold fitG
    by_cases h0 : 0 ≤ p
    · rw [if_pos h0]
    · rw [if_neg h0] at hr ⊢
      simp only [Bool.and_eq_true, decide_eq_true_eq] at hr ⊢
      have hll : lvsL l ≤ 1000000 := by
        cases l with
        | nil => unfold lvsL; omega
        | cons x t => rw [← lvs_list p n (x :: t) (by simp)]; exact hl
      exact ⟨hr.2.1, Nat.le_trans (lvsL_ge l) hll, fit_rightL l hr.2.2.2 hll⟩
theorem fit_rightL : ∀ l : List GT, rightL l = true → lvsL l ≤ 1000000 → fitL l = true
  | [], _, _ => by unfold fitL; rfl
  | x :: t, hr, hl => by
    unfold rightL at hr
    unfold lvsL at hl
    unfold fitL
    rw [Bool.and_eq_true] at hr ⊢
    exact ⟨fit_right x hr.1 (by omega), fit_rightL t hr.2 (by omega)⟩
end
theorem padTo_len {c : Nat} {zs : List Int} (h : zs.length ≤ c) : (padTo c zs).length = c := by unfold padTo; simp; omega
theorem cv_pad (c : Nat) (zs : List Int) (j : Nat) : cv (padTo c zs) j = cv zs j := by unfold cv padTo; rw [nth_rep]

structure MakeOK (g : GT) (R : List (List Int × Int)) (M : Nat) : Prop where
  hR : R = (genR g [1] 1).1
  hM : M = (genR g [1] 1).2
  few : R.length ≤ 64
  cols : 1 ≤ M ∧ M ≤ 64
  right : rightG g = true
  fit : fitG g = true
  rows : makR g = R.map fun r => padTo M r.1
  owners : makO g = R.map fun r => r.2
  row : ∀ r ∈ R, r.1.length ≤ M ∧ (0 ≤ r.2 ∧ r.2 < 64) ∧ (∀ z ∈ r.1, 0 ≤ z ∧ z < 1073741789) ∧ nth r.1 0 = 1
theorem make_ok {g : GT} (h : makE g = 0) : ∃ R M, MakeOK g R M := by
  have h' := h
  unfold makE at h
  by_cases hz : gateE g = 0
  rotate_left
  · rw [if_neg hz] at h; exact absurd h hz
  rw [if_pos hz] at h
  have hF : (genR g [1] 1).1.length ≤ 64 ∧ (genR g [1] 1).2 ≤ 64 := by
    by_cases hF : (genR g [1] 1).1.length ≤ 64 ∧ (genR g [1] 1).2 ≤ 64
    · exact hF
    · rw [if_neg hF] at h; cases h
  have hl : largeG g = false ∧ rightG g = true := by
    unfold gateE at hz
    by_cases e : largeG g = true
    · rw [if_pos e] at hz; cases hz
    · rw [if_neg e] at hz
      by_cases e2 : rightG g = true
      · exact ⟨by simpa using e, e2⟩
      · rw [if_neg e2] at hz; cases hz
  have hlv : lvsG g ≤ 256 := by
    have := of_decide_eq_false hl.1
    omega
  refine ⟨_, _, rfl, rfl, hF.1, ⟨gen_cols g [1] 1, hF.2⟩, hl.2, fit_right g hl.2 (by omega), by unfold makR; rw [if_pos h'], by unfold makO; rw [if_pos h'], fun r hr => ?_⟩
  obtain ⟨h1, h2⟩ := gen_row g [1] 1 (by simp) r hr
  exact ⟨h1, gen_owner g [1] 1 hl.2 r hr, gen_num g [1] 1 (by simp) r hr, (h2 0 (by omega)).trans rfl⟩
theorem make_prog {g : GT} (h : makE g = 0) : progE (makR g) (makO g) = 0 := by
  obtain ⟨R, M, hK⟩ := make_ok h
  rw [hK.rows, hK.owners]
  have hw : R ≠ [] → wide (R.map fun r => padTo M r.1) = M := fun hne => by
    rw [← wide_at _ (by rw [List.length_map]; exact List.length_pos_iff.2 hne), List.getElem_map]
    exact padTo_len (hK.row _ (List.getElem_mem _)).1
  refine progE_fine (by rw [List.length_map]; exact hK.few) ?_ (by simp) fun k hk => ?_
  · rw [List.any_eq_false]
    intro x hx
    obtain ⟨r, hr, rfl⟩ := List.mem_map.1 hx
    unfold longR
    rw [padTo_len (hK.row r hr).1]
    have := hK.cols
    simp; omega
  · have hk2 : k < R.length := by simpa using hk
    have hr := hK.row _ (List.getElem_mem hk2)
    have hc := hK.cols
    rw [hw (List.length_pos_iff.1 (by omega))]
    simp only [List.getElem_map]
    refine bad_no (by rw [padTo_len hr.1]; omega) (padTo_len hr.1) (inB_iff.2 (by omega)) ?_
    rw [List.any_eq_false]
    intro z hz
    have : 0 ≤ z ∧ z < 1073741789 := by
      unfold padTo at hz
      rcases List.mem_append.1 hz with hz | hz
      · exact hr.2.2.1 z hz
      · rw [(List.mem_replicate.1 hz).2]; omega
    rw [oddQ_of this]; simp
theorem ev_one {M : Nat} (hM : 1 ≤ M) (φ : Nat → Fq) : ev M φ [1] = φ 0 := by
  unfold ev
  rw [sm_one (k := 0) (by omega) (fun j hj hne => by rw [cv_out (by simp; omega)]; grind)]
  show φ 0 * cq 1 = φ 0
  rw [cq_1]; grind
theorem dt_pad {M : Nat} {r : List Int} {v : Nat → Fq} : dt M (cv (padTo M r)) v = ev M v r := by
  unfold dt ev
  exact sm_congr fun j _ => by rw [cv_pad]; exact Fin.mul_comm _ _
theorem dt_tgt {m : Nat} (hm : 1 ≤ m) (v : Nat → Fq) : dt m (cv (tgt m)) v = v 0 := by
  unfold dt
  rw [sm_one (k := 0) (by omega) (fun j hj hne => by rw [cv_tgt hj, if_neg hne]; grind), cv_tgt (by omega), if_pos rfl]
  grind

/-- The rows of people make the target exactly if the formula holds for them. -/
theorem make_means {g : GT} {who : List Int} (h : makE g = 0) (hp : peopleB (-1) who = true) : questE (makR g) (makO g) who = 0 ∧ accOk (makR g) (makO g) who = holdsG who g ∧ (refY (makR g) (makO g) who).isSome = !holdsG who g := by
  obtain ⟨hq, hpk⟩ := prove_pack (make_prog h) hp
  have hP := progE_ok (make_prog h)
  have hacc : accOk (makR g) (makO g) who = holdsG who g := by
    have hR := pownR_right (who := who) hP
    have h1 : accOk (makR g) (makO g) who = rcombOk (pownR (makR g) (makO g) who) (tgt (colsQ (makR g))) := by unfold accOk; rw [decide_eq_true hq]; rfl
    have h2 := comb_span hR (tgt_num (colsQ (makR g)))
    have h3 := made_ker hR
    have hc := hP.cols
    obtain ⟨R, M, hK⟩ := make_ok h
    have hM := hK.cols
    have hcl : R ≠ [] → colsQ (makR g) = M := fun hne => by
      have hl : 0 < R.length := List.length_pos_iff.2 hne
      have h4 := hP.row (k := 0) (by rw [hK.rows, List.length_map]; exact hl)
      rw [← h4]
      simp only [hK.rows, List.getElem_map]
      exact padTo_len (hK.row _ (List.getElem_mem hl)).1
    have hmem : ∀ r ∈ R, r.2 ∈ who → padTo M r.1 ∈ pownR (makR g) (makO g) who := fun r hr hw => by
      obtain ⟨i, hi, rfl⟩ := List.mem_iff_getElem.1 hr
      refine List.mem_map.2 ⟨i, ownL_mem.2 ⟨by rw [hK.rows, List.length_map]; exact hi, ?_⟩, ?_⟩
      · rw [hK.owners, nth_at (by rw [List.length_map]; exact hi), List.getElem_map]; exact hw
      · rw [getD_at (by rw [hK.rows, List.length_map]; exact hi)]
        simp only [hK.rows, List.getElem_map]
    have hmem2 : ∀ x ∈ pownR (makR g) (makO g) who, ∃ r ∈ R, r.2 ∈ who ∧ x = padTo M r.1 := fun x hx => by
      obtain ⟨i, hi, rfl⟩ := List.mem_map.1 hx
      obtain ⟨h4, h5⟩ := ownL_mem.1 hi
      have h6 : i < R.length := by rw [hK.rows, List.length_map] at h4; exact h4
      refine ⟨R[i], List.getElem_mem h6, ?_, ?_⟩
      · rw [hK.owners, nth_at (by rw [List.length_map]; exact h6), List.getElem_map] at h5; exact h5
      · rw [getD_at h4]
        simp only [hK.rows, List.getElem_map]
    rw [h1]
    cases hh : holdsG who g with
    | true =>
      refine h2.2 (h3.2 fun v hv => ?_)
      rw [tgt_len] at hv ⊢
      rw [dt_tgt hc]
      rw [← ev_one hM.1 v]
      refine kill_holds who M v g [1] 1 hK.fit (by simp) (by rw [← hK.hM]; exact Nat.le_refl _) hh fun r hr hw => ?_
      rw [← hK.hR] at hr
      have h7 := ker_mem.1 hv _ (hmem r hr hw)
      rw [hcl (fun e => by rw [e] at hr; cases hr), dt_pad] at h7
      exact h7
    | false =>
      cases hx : rcombOk (pownR (makR g) (makO g) who) (tgt (colsQ (makR g))) with
      | false => rfl
      | true =>
        exfalso
        have h4 := h3.1 (h2.1 hx)
        obtain ⟨ψ, p1, p2⟩ := ext_not who M g [1] 1 (fun _ => 1) hK.fit (by simp) (by rw [← hK.hM]; exact Nat.le_refl _) hh
        have h5 := h4 ψ (ker_mem.2 fun x hx => by
          obtain ⟨r, hr, hw, rfl⟩ := hmem2 x hx
          rw [tgt_len, hcl (fun e => by rw [e] at hr; cases hr), dt_pad]
          exact p2 r (by rw [← hK.hR]; exact hr) hw)
        rw [tgt_len, dt_tgt hc, p1 0 (.inl (by omega))] at h5
        exact absurd h5 (by decide)
  refine ⟨hq, hacc, ?_⟩
  rcases hpk with ⟨h1, h2, -⟩ | ⟨h1, -, v, h2, -⟩
  · rw [h2, ← hacc, h1]; rfl
  · rw [h2, ← hacc, h1]; rfl

end Go.Proofs.Ytohebkpgjaaljaa
