/- The reference of dealing: Shares. The reference of dealing: Deal. The reference of dealing: Deal, whatever comes of it. A region that draws its order inside a round of a range over a function: as outside, where no operation is about to call a Go function. -/
import Derived.Test.YtjjoadmkpbmhpaaGreatMRdC
import Derived.Test.YtjjoadmkpbmhpaaGreatMRange
import Derived.OrdersIn
import Derived.Deep.RegionHeld3
namespace Go.Proofs.YtjjoadmkpbmhpaaGreat
open Go.RowKit FP

section
variable {P : Program} {md : Region.Mode} {ops : Array Oper} {Q : Exit → Act → World → Prop} {S : World → Prop} {i : Nat} {oi : Oper} {fuel : Nat} {listed : Array Bool} {a : Act} {w : World}
/-- An operation that yields in every world that meets S is taken first. -/
theorem take_yes (d : Option Tmp) (v : Value) (hi : ops[i]? = some oi) (hd : oi.dst = d) (hs : Region.noSelect ops = true) (hf : Region.free md ops listed i = true) (hr : (Region.ready md ops listed).contains i = true)
    (hQ : ∀ c a w, Q (.panic c) (a.put d v) w → Q (.panic c) a w) (hw : Region.wanted oi (yielded ops a.tmps) = true) (hy : ∀ w, S w → (execOp a.eval oi).run P w = .ok (.value v) w) (hS : S w)
    (h : wpAnyH P md ops Q S fuel (listed.setIfInBounds i true) (a.put d v) w) : wpAnyH P md ops Q S (fuel + 1) listed a w := by
  subst hd
  exact wpAnyH_take hi hs hf hr hQ (Or.inl ⟨hw, hy⟩) hS h
/-- An operation that its guard strikes is taken first. -/
theorem take_no (d : Option Tmp) (hi : ops[i]? = some oi) (hd : oi.dst = d) (hs : Region.noSelect ops = true) (hf : Region.free md ops listed i = true) (hr : (Region.ready md ops listed).contains i = true)
    (hQ : ∀ c a w, Q (.panic c) (a.put d undef) w → Q (.panic c) a w) (hw : Region.wanted oi (yielded ops a.tmps) = false) (hS : S w)
    (h : wpAnyH P md ops Q S fuel (listed.setIfInBounds i true) (a.put d undef) w) : wpAnyH P md ops Q S (fuel + 1) listed a w := by
  subst hd
  exact wpAnyH_take hi hs hf hr hQ (Or.inr ⟨hw, rfl⟩) hS h
end

set_option maxRecDepth 100000 in
set_option maxHeartbeats 8000000 in
theorem rShares_any (rv ov lv : Value) (rows : List (List Int)) (owners : List Int) (l : List (Int × Int)) (w : World) (hR : Rows2 w rv rows) (hO : Ints w ov owners) (hL : Shares w lv l) :
    Calls Tryz.prog 129 #[.agg #[rv, ov], lv] w fun r w' => r = .returned (.bool (sharesB rows (-1) l)) ∧ Below w.heap.size w w' := by
  obtain ⟨W1, hW1, hb1, hr1, hz⟩ := box_prog w rv ov 25
  have HR1 := Lib.hid (hR.below hb1)
  have HO1 := Lib.hid (hO.below hb1)
  have HL1 := Lib.hid (hL.below hb1)
  obtain ⟨a, cap, rfl, -, hlen, -⟩ := id hR
  obtain ⟨a2, cap2, rfl, -, hlen2, -⟩ := id hO
  obtain ⟨a3, cap3, rfl, -, hlen3, -⟩ := id hL
  have c0 : W1.cell? ⟨w.heap.size, 0, none⟩ = some (.slice a rows.length cap) := row_cell hr1 rfl
  have c1 : W1.cell? ⟨w.heap.size, 1, none⟩ = some (.slice a2 owners.length cap2) := row_cell hr1 rfl
  have HW1 := Lib.hid hW1
  have HB1 := Lib.hid hb1
  clear hR hO hL hr1 hW1 hb1
  go_enter Tryz.func129, Tryz.ntmps129
  go_wp2_with fail
  rw [← HW1.out]
  go_loopw [5] (fun i W => ∃ k : Nat, k ≤ l.length ∧ i = .int .i64 k ∧ Hid (sharesB rows (-1) (l.take k) = true) ∧ Below W1.heap.size W1 W) (fun i _ => l.length - (intOf i).toNat)
  case atStart => exact ⟨0, Nat.zero_le _, rfl, Lib.hid rfl, Below.refl _ _⟩
  case round =>
    obtain ⟨k, hkl, rfl, HS, hb⟩ := hrel
    have HBW := Lib.hid hb
    by_cases hlt : k < l.length
    · have x0 := below_cell hb c0
      have x1 := below_cell hb c1
      have hbd : Below wr.heap.size wr wr.drew := (Below.refl _ _).drew
      have hrw := (HR1.out.below hb).below hbd
      have how := (HO1.out.below hb).below hbd
      obtain ⟨al, cl, e1, -, -, hr64, hk⟩ := HL1.out
      obtain ⟨b, off, ha, q0, q1⟩ := hk k hlt
      simp only [Value.slice.injEq] at e1
      obtain ⟨rfl, -, rfl⟩ := e1
      subst ha
      have y0 := below_cell hb q0
      have y1 := below_cell hb q1
      have HTK := Lib.hid (sharesB_take (rows := rows) (last := -1) hlt)
      have HBD := Lib.hid (fun h => sharesB_bad (rows := rows) (l := l) (last := -1) (k := k) h)
      have HSH := Lib.hid (rshare_any (.slice a rows.length cap) (.slice a2 owners.length cap2) rows owners l[k].1 l[k].2 wr.drew hrw how)
      have HBX := Lib.hid (HBW.out.drew)
      have i0 : 0 ≤ (k : Int) := by omega
      have i1 : (k : Int) < (l.length : Int) := by omega
      cases er : rightS rows l[k].1 l[k].2 with
      | false =>
        have HV : Hid (sharesB rows (-1) l = false) := Lib.hid (HBD.out (by rw [HTK.out, er]; simp))
        rw [er] at HSH
        clear hk hr64 q0 q1 hb hbd hrw how er
        generalize l[k].1 = r1 at *
        generalize l[k].2 = v1 at *
        go_wp2_with fail
        refine wp_region_held_drew (S := (fun w' => w'.cell? ⟨w.heap.size, 0, none⟩ = some (.slice a rows.length cap) ∧ w'.cell? ⟨w.heap.size, 1, none⟩ = some (.slice a2 owners.length cap2) ∧ w'.cell? ⟨b, off + k * 2, none⟩ = some (.int .i64 r1) ∧ w'.cell? ⟨b, off + k * 2 + 1, none⟩ = some (.int .i64 v1))) (by kernel_rfl) (by (try dsimp only); (first | exact ⟨z0, z1, z2, z3⟩ | go_keep)) (fun hHeld => ?_)
        refine take_yes (i := 0) (some 12) ?_ rfl (by kernel_rfl) (by kernel_rfl) (by kernel_rfl) (by kernel_rfl) (fun _ _ _ h => h) (by kernel_rfl) ?_ (by assumption) ?_
        rotate_left
        · (intro w hSw; (try dsimp only at hSw); go_simp; (try with_reducible rfl))
        simp only [Act.put, List.setIfInBounds_toArray, List.set_cons_zero, List.set_cons_succ]
        refine take_yes (i := 1) (some 13) ?_ rfl (by kernel_rfl) (by kernel_rfl) (by kernel_rfl) (by kernel_rfl) (fun _ _ _ h => h) (by kernel_rfl) ?_ (by assumption) ?_
        rotate_left
        · (intro w hSw; (try dsimp only at hSw); go_simp; (try with_reducible rfl))
        simp only [Act.put, List.setIfInBounds_toArray, List.set_cons_zero, List.set_cons_succ]
        refine take_yes (i := 2) (some 14) ?_ rfl (by kernel_rfl) (by kernel_rfl) (by kernel_rfl) (by kernel_rfl) (fun _ _ _ h => h) (by kernel_rfl) ?_ (by assumption) ?_
        rotate_left
        · (intro w hSw; (try dsimp only at hSw); go_simp; (try with_reducible rfl))
        simp only [Act.put, List.setIfInBounds_toArray, List.set_cons_zero, List.set_cons_succ]
        refine take_yes (i := 3) (some 15) ?_ rfl (by kernel_rfl) (by kernel_rfl) (by kernel_rfl) (by kernel_rfl) (fun _ _ _ h => h) (by kernel_rfl) ?_ (by assumption) ?_
        rotate_left
        · (intro w hSw; (try dsimp only at hSw); go_simp; (try with_reducible rfl))
        simp only [Act.put, List.setIfInBounds_toArray, List.set_cons_zero, List.set_cons_succ]
        refine take_yes (i := 4) (some 16) ?_ rfl (by kernel_rfl) (by kernel_rfl) (by kernel_rfl) (by kernel_rfl) (fun _ _ _ h => h) (by kernel_rfl) ?_ (by assumption) ?_
        rotate_left
        · (intro w hSw; (try dsimp only at hSw); go_simp; (try with_reducible rfl))
        simp only [Act.put, List.setIfInBounds_toArray, List.set_cons_zero, List.set_cons_succ]
        refine wpAnyH_ready (rs := [5]) (by kernel_rfl) (by simp) ?_
        refine AllReadyH.cons rfl (fun K hK => ?_) AllReadyH.nil
        rw [if_pos (by rfl)]
        go_simp
        (go_at_call 81; (refine HSH.out.mono ?_); rintro e w6 ⟨rfl, hb6⟩; have z0 := below_cell hb6 x0; have z1 := below_cell hb6 x1; have z2 := below_cell hb6 y0; have z3 := below_cell hb6 y1; have HB6 := Lib.hid (HBX.out.trans (hb6.mono HBX.out.size)); clear hb6)
        refine hK.out _ _ (by (try dsimp only); (first | exact ⟨z0, z1, z2, z3⟩ | go_keep)) (fun hHeld => ?_)
        clear hK K
        try simp only [Act.put, List.setIfInBounds_toArray, List.set_cons_zero, List.set_cons_succ]
        refine take_yes (i := 6) (some 18) _ rfl (by kernel_rfl) (by kernel_rfl) (by kernel_rfl) (by kernel_rfl) (fun _ _ _ h => h) (by kernel_rfl) (fun w _ => by rfl) (by assumption) ?_
        simp only [Act.put, List.setIfInBounds_toArray, List.set_cons_zero, List.set_cons_succ]
        refine take_yes (i := 7) (some 19) _ rfl (by kernel_rfl) (by kernel_rfl) (by kernel_rfl) (by kernel_rfl) (fun _ _ _ h => h) (by kernel_rfl) (fun w _ => by rfl) (by assumption) ?_
        simp only [Act.put, List.setIfInBounds_toArray, List.set_cons_zero, List.set_cons_succ]
        refine take_no (i := 8) (some 20) rfl (by kernel_rfl) (by kernel_rfl) (by kernel_rfl) (by kernel_rfl) (fun _ _ _ h => h) (by kernel_rfl) (by assumption) ?_
        simp only [Act.put, List.setIfInBounds_toArray, List.set_cons_zero, List.set_cons_succ]
        refine take_no (i := 9) (some 21) rfl (by kernel_rfl) (by kernel_rfl) (by kernel_rfl) (by kernel_rfl) (fun _ _ _ h => h) (by kernel_rfl) (by assumption) ?_
        simp only [Act.put, List.setIfInBounds_toArray, List.set_cons_zero, List.set_cons_succ]
        refine take_no (i := 10) (some 22) rfl (by kernel_rfl) (by kernel_rfl) (by kernel_rfl) (by kernel_rfl) (fun _ _ _ h => h) (by kernel_rfl) (by assumption) ?_
        simp only [Act.put, List.setIfInBounds_toArray, List.set_cons_zero, List.set_cons_succ]
        refine take_no (i := 11) (some 23) rfl (by kernel_rfl) (by kernel_rfl) (by kernel_rfl) (by kernel_rfl) (fun _ _ _ h => h) (by kernel_rfl) (by assumption) ?_
        simp only [Act.put, List.setIfInBounds_toArray, List.set_cons_zero, List.set_cons_succ]
        refine take_no (i := 12) (some 24) rfl (by kernel_rfl) (by kernel_rfl) (by kernel_rfl) (by kernel_rfl) (fun _ _ _ h => h) (by kernel_rfl) (by assumption) ?_
        simp only [Act.put, List.setIfInBounds_toArray, List.set_cons_zero, List.set_cons_succ]
        refine take_no (i := 13) (some 25) rfl (by kernel_rfl) (by kernel_rfl) (by kernel_rfl) (by kernel_rfl) (fun _ _ _ h => h) (by kernel_rfl) (by assumption) ?_
        simp only [Act.put, List.setIfInBounds_toArray, List.set_cons_zero, List.set_cons_succ]
        refine take_no (i := 14) (some 26) rfl (by kernel_rfl) (by kernel_rfl) (by kernel_rfl) (by kernel_rfl) (fun _ _ _ h => h) (by kernel_rfl) (by assumption) ?_
        simp only [Act.put, List.setIfInBounds_toArray, List.set_cons_zero, List.set_cons_succ]
        refine take_no (i := 15) (some 27) rfl (by kernel_rfl) (by kernel_rfl) (by kernel_rfl) (by kernel_rfl) (fun _ _ _ h => h) (by kernel_rfl) (by assumption) ?_
        simp only [Act.put, List.setIfInBounds_toArray, List.set_cons_zero, List.set_cons_succ]
        refine take_no (i := 16) (some 28) rfl (by kernel_rfl) (by kernel_rfl) (by kernel_rfl) (by kernel_rfl) (fun _ _ _ h => h) (by kernel_rfl) (by assumption) ?_
        simp only [Act.put, List.setIfInBounds_toArray, List.set_cons_zero, List.set_cons_succ]
        refine take_no (i := 17) (some 29) rfl (by kernel_rfl) (by kernel_rfl) (by kernel_rfl) (by kernel_rfl) (fun _ _ _ h => h) (by kernel_rfl) (by assumption) ?_
        simp only [Act.put, List.setIfInBounds_toArray, List.set_cons_zero, List.set_cons_succ]
        refine take_no (i := 18) (some 30) rfl (by kernel_rfl) (by kernel_rfl) (by kernel_rfl) (by kernel_rfl) (fun _ _ _ h => h) (by kernel_rfl) (by assumption) ?_
        simp only [Act.put, List.setIfInBounds_toArray, List.set_cons_zero, List.set_cons_succ]
        refine take_no (i := 19) (some 31) rfl (by kernel_rfl) (by kernel_rfl) (by kernel_rfl) (by kernel_rfl) (fun _ _ _ h => h) (by kernel_rfl) (by assumption) ?_
        simp only [Act.put, List.setIfInBounds_toArray, List.set_cons_zero, List.set_cons_succ]
        refine take_no (i := 20) (some 32) rfl (by kernel_rfl) (by kernel_rfl) (by kernel_rfl) (by kernel_rfl) (fun _ _ _ h => h) (by kernel_rfl) (by assumption) ?_
        simp only [Act.put, List.setIfInBounds_toArray, List.set_cons_zero, List.set_cons_succ]
        refine take_no (i := 21) (some 33) rfl (by kernel_rfl) (by kernel_rfl) (by kernel_rfl) (by kernel_rfl) (fun _ _ _ h => h) (by kernel_rfl) (by assumption) ?_
        simp only [Act.put, List.setIfInBounds_toArray, List.set_cons_zero, List.set_cons_succ]
        refine take_no (i := 22) (some 34) rfl (by kernel_rfl) (by kernel_rfl) (by kernel_rfl) (by kernel_rfl) (fun _ _ _ h => h) (by kernel_rfl) (by assumption) ?_
        simp only [Act.put, List.setIfInBounds_toArray, List.set_cons_zero, List.set_cons_succ]
        refine take_no (i := 23) (some 35) rfl (by kernel_rfl) (by kernel_rfl) (by kernel_rfl) (by kernel_rfl) (fun _ _ _ h => h) (by kernel_rfl) (by assumption) ?_
        simp only [Act.put, List.setIfInBounds_toArray, List.set_cons_zero, List.set_cons_succ]
        refine take_yes (i := 24) (some 36) (.bool true) rfl (by kernel_rfl) (by kernel_rfl) (by kernel_rfl) (by kernel_rfl) (fun _ _ _ h => h) (by kernel_rfl) (fun w _ => by rfl) (by assumption) ?_
        simp only [Act.put, List.setIfInBounds_toArray, List.set_cons_zero, List.set_cons_succ]
        refine wpAnyH_done (by kernel_rfl) ?_ _
        clear hHeld z0 z1 z2 z3 x0 x1 y0 y1 HSH HBX
        try clear hHeld
        go_wp2_with fail
        go_ret
        exact ⟨ret_bool HV.out.symm, HB1.out.trans (HB6.out.mono HB1.out.size)⟩
      | true =>
        by_cases hk0 : k = 0
        · have hd : decide ((k : Int) > 0) = false := decide_eq_false (by omega)
          have hd2 : decide ((0 : Int) < (k : Int)) = false := decide_eq_false (by omega)
          have hd3 : decide (0 < k) = false := decide_eq_false (by omega)
          have hlast : lastR (-1) (l.take k) = -1 := by rw [hk0]; rfl
          have HNX : Hid (sharesB rows (-1) (l.take (k + 1)) = true) := Lib.hid (by
            rw [HTK.out, HS.out, er, hlast, decide_eq_true]; rfl
            have := (rightS_iff.1 er).1; omega)
          rw [er] at HSH
          clear hk hr64 q0 q1 hb hbd hrw how er hlast hk0
          generalize l[k].1 = r1 at *
          generalize l[k].2 = v1 at *
          go_wp2_with fail
          refine wp_region_held_drew (S := (fun w' => w'.cell? ⟨w.heap.size, 0, none⟩ = some (.slice a rows.length cap) ∧ w'.cell? ⟨w.heap.size, 1, none⟩ = some (.slice a2 owners.length cap2) ∧ w'.cell? ⟨b, off + k * 2, none⟩ = some (.int .i64 r1) ∧ w'.cell? ⟨b, off + k * 2 + 1, none⟩ = some (.int .i64 v1))) (by kernel_rfl) (by (try dsimp only); (first | exact ⟨z0, z1, z2, z3⟩ | go_keep)) (fun hHeld => ?_)
          refine take_yes (i := 0) (some 12) ?_ rfl (by kernel_rfl) (by kernel_rfl) (by kernel_rfl) (by kernel_rfl) (fun _ _ _ h => h) (by kernel_rfl) ?_ (by assumption) ?_
          rotate_left
          · (intro w hSw; (try dsimp only at hSw); go_simp; (try with_reducible rfl))
          simp only [Act.put, List.setIfInBounds_toArray, List.set_cons_zero, List.set_cons_succ]
          refine take_yes (i := 1) (some 13) ?_ rfl (by kernel_rfl) (by kernel_rfl) (by kernel_rfl) (by kernel_rfl) (fun _ _ _ h => h) (by kernel_rfl) ?_ (by assumption) ?_
          rotate_left
          · (intro w hSw; (try dsimp only at hSw); go_simp; (try with_reducible rfl))
          simp only [Act.put, List.setIfInBounds_toArray, List.set_cons_zero, List.set_cons_succ]
          refine take_yes (i := 2) (some 14) ?_ rfl (by kernel_rfl) (by kernel_rfl) (by kernel_rfl) (by kernel_rfl) (fun _ _ _ h => h) (by kernel_rfl) ?_ (by assumption) ?_
          rotate_left
          · (intro w hSw; (try dsimp only at hSw); go_simp; (try with_reducible rfl))
          simp only [Act.put, List.setIfInBounds_toArray, List.set_cons_zero, List.set_cons_succ]
          refine take_yes (i := 3) (some 15) ?_ rfl (by kernel_rfl) (by kernel_rfl) (by kernel_rfl) (by kernel_rfl) (fun _ _ _ h => h) (by kernel_rfl) ?_ (by assumption) ?_
          rotate_left
          · (intro w hSw; (try dsimp only at hSw); go_simp; (try with_reducible rfl))
          simp only [Act.put, List.setIfInBounds_toArray, List.set_cons_zero, List.set_cons_succ]
          refine take_yes (i := 4) (some 16) ?_ rfl (by kernel_rfl) (by kernel_rfl) (by kernel_rfl) (by kernel_rfl) (fun _ _ _ h => h) (by kernel_rfl) ?_ (by assumption) ?_
          rotate_left
          · (intro w hSw; (try dsimp only at hSw); go_simp; (try with_reducible rfl))
          simp only [Act.put, List.setIfInBounds_toArray, List.set_cons_zero, List.set_cons_succ]
          refine wpAnyH_ready (rs := [5]) (by kernel_rfl) (by simp) ?_
          refine AllReadyH.cons rfl (fun K hK => ?_) AllReadyH.nil
          rw [if_pos (by rfl)]
          go_simp
          (go_at_call 81; (refine HSH.out.mono ?_); rintro e w6 ⟨rfl, hb6⟩; have z0 := below_cell hb6 x0; have z1 := below_cell hb6 x1; have z2 := below_cell hb6 y0; have z3 := below_cell hb6 y1; have HB6 := Lib.hid (HBX.out.trans (hb6.mono HBX.out.size)); clear hb6)
          refine hK.out _ _ (by (try dsimp only); (first | exact ⟨z0, z1, z2, z3⟩ | go_keep)) (fun hHeld => ?_)
          clear hK K
          try simp only [Act.put, List.setIfInBounds_toArray, List.set_cons_zero, List.set_cons_succ]
          refine take_yes (i := 6) (some 18) _ rfl (by kernel_rfl) (by kernel_rfl) (by kernel_rfl) (by kernel_rfl) (fun _ _ _ h => h) (by kernel_rfl) (fun w _ => by rfl) (by assumption) ?_
          simp only [Act.put, List.setIfInBounds_toArray, List.set_cons_zero, List.set_cons_succ]
          refine take_yes (i := 7) (some 19) _ rfl (by kernel_rfl) (by kernel_rfl) (by kernel_rfl) (by kernel_rfl) (fun _ _ _ h => h) (by kernel_rfl) (fun w _ => by rfl) (by assumption) ?_
          simp only [Act.put, List.setIfInBounds_toArray, List.set_cons_zero, List.set_cons_succ]
          refine take_yes (i := 8) (some 20) _ rfl (by kernel_rfl) (by kernel_rfl) (by kernel_rfl) (by kernel_rfl) (fun _ _ _ h => h) (by kernel_rfl) (fun w _ => by rfl) (by assumption) ?_
          simp only [Act.put, List.setIfInBounds_toArray, List.set_cons_zero, List.set_cons_succ]
          refine take_yes (i := 9) (some 21) (.bool false) rfl (by kernel_rfl) (by kernel_rfl) (by kernel_rfl) (by kernel_rfl) (fun _ _ _ h => h) (by kernel_rfl) (fun w _ => Eq.trans (b := .ok (.value (.bool (decide ((k : Int) > 0)))) w) rfl (by rw [hd])) (by assumption) ?_
          simp only [Act.put, List.setIfInBounds_toArray, List.set_cons_zero, List.set_cons_succ]
          refine take_yes (i := 10) (some 22) _ rfl (by kernel_rfl) (by kernel_rfl) (by kernel_rfl) (by kernel_rfl) (fun _ _ _ h => h) (by kernel_rfl) (fun w _ => by rfl) (by assumption) ?_
          simp only [Act.put, List.setIfInBounds_toArray, List.set_cons_zero, List.set_cons_succ]
          refine take_no (i := 11) (some 23) rfl (by kernel_rfl) (by kernel_rfl) (by kernel_rfl) (by kernel_rfl) (fun _ _ _ h => h) (by kernel_rfl) (by assumption) ?_
          simp only [Act.put, List.setIfInBounds_toArray, List.set_cons_zero, List.set_cons_succ]
          refine take_no (i := 12) (some 24) rfl (by kernel_rfl) (by kernel_rfl) (by kernel_rfl) (by kernel_rfl) (fun _ _ _ h => h) (by kernel_rfl) (by assumption) ?_
          simp only [Act.put, List.setIfInBounds_toArray, List.set_cons_zero, List.set_cons_succ]
          refine take_no (i := 13) (some 25) rfl (by kernel_rfl) (by kernel_rfl) (by kernel_rfl) (by kernel_rfl) (fun _ _ _ h => h) (by kernel_rfl) (by assumption) ?_
          simp only [Act.put, List.setIfInBounds_toArray, List.set_cons_zero, List.set_cons_succ]
          refine take_no (i := 14) (some 26) rfl (by kernel_rfl) (by kernel_rfl) (by kernel_rfl) (by kernel_rfl) (fun _ _ _ h => h) (by kernel_rfl) (by assumption) ?_
          simp only [Act.put, List.setIfInBounds_toArray, List.set_cons_zero, List.set_cons_succ]
          refine take_no (i := 15) (some 27) rfl (by kernel_rfl) (by kernel_rfl) (by kernel_rfl) (by kernel_rfl) (fun _ _ _ h => h) (by kernel_rfl) (by assumption) ?_
          simp only [Act.put, List.setIfInBounds_toArray, List.set_cons_zero, List.set_cons_succ]
          refine take_no (i := 16) (some 28) rfl (by kernel_rfl) (by kernel_rfl) (by kernel_rfl) (by kernel_rfl) (fun _ _ _ h => h) (by kernel_rfl) (by assumption) ?_
          simp only [Act.put, List.setIfInBounds_toArray, List.set_cons_zero, List.set_cons_succ]
          refine take_no (i := 17) (some 29) rfl (by kernel_rfl) (by kernel_rfl) (by kernel_rfl) (by kernel_rfl) (fun _ _ _ h => h) (by kernel_rfl) (by assumption) ?_
          simp only [Act.put, List.setIfInBounds_toArray, List.set_cons_zero, List.set_cons_succ]
          refine take_no (i := 18) (some 30) rfl (by kernel_rfl) (by kernel_rfl) (by kernel_rfl) (by kernel_rfl) (fun _ _ _ h => h) (by kernel_rfl) (by assumption) ?_
          simp only [Act.put, List.setIfInBounds_toArray, List.set_cons_zero, List.set_cons_succ]
          refine take_no (i := 19) (some 31) rfl (by kernel_rfl) (by kernel_rfl) (by kernel_rfl) (by kernel_rfl) (fun _ _ _ h => h) (by kernel_rfl) (by assumption) ?_
          simp only [Act.put, List.setIfInBounds_toArray, List.set_cons_zero, List.set_cons_succ]
          refine take_no (i := 20) (some 32) rfl (by kernel_rfl) (by kernel_rfl) (by kernel_rfl) (by kernel_rfl) (fun _ _ _ h => h) (by kernel_rfl) (by assumption) ?_
          simp only [Act.put, List.setIfInBounds_toArray, List.set_cons_zero, List.set_cons_succ]
          refine take_no (i := 21) (some 33) rfl (by kernel_rfl) (by kernel_rfl) (by kernel_rfl) (by kernel_rfl) (fun _ _ _ h => h) (by kernel_rfl) (by assumption) ?_
          simp only [Act.put, List.setIfInBounds_toArray, List.set_cons_zero, List.set_cons_succ]
          refine take_no (i := 22) (some 34) rfl (by kernel_rfl) (by kernel_rfl) (by kernel_rfl) (by kernel_rfl) (fun _ _ _ h => h) (by kernel_rfl) (by assumption) ?_
          simp only [Act.put, List.setIfInBounds_toArray, List.set_cons_zero, List.set_cons_succ]
          refine take_yes (i := 23) (some 35) (.bool false) rfl (by kernel_rfl) (by kernel_rfl) (by kernel_rfl) (by kernel_rfl) (fun _ _ _ h => h) (by kernel_rfl) (fun w _ => by rfl) (by assumption) ?_
          simp only [Act.put, List.setIfInBounds_toArray, List.set_cons_zero, List.set_cons_succ]
          refine take_yes (i := 24) (some 36) (.bool false) rfl (by kernel_rfl) (by kernel_rfl) (by kernel_rfl) (by kernel_rfl) (fun _ _ _ h => h) (by kernel_rfl) (fun w _ => by rfl) (by assumption) ?_
          simp only [Act.put, List.setIfInBounds_toArray, List.set_cons_zero, List.set_cons_succ]
          refine wpAnyH_done (by kernel_rfl) ?_ _
          clear hHeld z0 z1 z2 z3 x0 x1 y0 y1 HSH HBX
          try clear hHeld
          go_wp2_with fail
          go_roundw
          case rel => exact ⟨k + 1, by omega, by go_num, HNX, HB6.out⟩
          case measure => simp [intOf]; omega
        · have hd : decide ((k : Int) > 0) = true := decide_eq_true (by omega)
          have hd2 : decide ((0 : Int) < (k : Int)) = true := decide_eq_true (by omega)
          have hd3 : decide (0 < k) = true := decide_eq_true (by omega)
          obtain ⟨j, hj⟩ : ∃ j, k = j + 1 := ⟨k - 1, by omega⟩
          have hjl : j < l.length := by omega
          obtain ⟨b', off', ha', p0, -⟩ := hk j hjl
          simp only [Option.some.injEq, Addr.mk.injEq, and_true] at ha'
          obtain ⟨rfl, rfl⟩ := ha'
          have hlast : lastR (-1) (l.take k) = l[j].1 := by subst hj; exact lastR_take hjl
          have v0 := below_cell hb p0
          have hwj : IntKind.i64.wrap ((k : Int) - 1) = (j : Int) := by rw [IntWalk.i64_in _ (by omega)]; omega
          have hj0 : 0 ≤ (j : Int) := by omega
          have hj1 : (j : Int) < (l.length : Int) := by omega
          rw [er] at HSH
          rw [hlast] at HTK
          by_cases hq : l[j].1 < l[k].1
          · have HNX : Hid (sharesB rows (-1) (l.take (k + 1)) = true) := Lib.hid (by rw [HTK.out, HS.out, er, decide_eq_true hq]; rfl)
            clear hk hr64 q0 q1 hb hbd hrw how er hlast p0 HTK HBD
            generalize l[k].1 = r1 at *
            generalize l[k].2 = v1 at *
            generalize l[j].1 = r0 at *
            have hq1 : decide (r0 ≥ r1) = false := decide_eq_false (by omega)
            have hq2 : decide (r1 ≤ r0) = false := decide_eq_false (by omega)
            clear hq hj
            go_wp2_with fail
            first
              | go_region_held3 (fun w' => w'.cell? ⟨w.heap.size, 0, none⟩ = some (.slice a rows.length cap) ∧ w'.cell? ⟨w.heap.size, 1, none⟩ = some (.slice a2 owners.length cap2) ∧ w'.cell? ⟨b, off + k * 2, none⟩ = some (.int .i64 r1) ∧ w'.cell? ⟨b, off + k * 2 + 1, none⟩ = some (.int .i64 v1) ∧ w'.cell? ⟨b, off + j * 2, none⟩ = some (.int .i64 r0)) (first | go_keep | exact ⟨z0, z1, z2, z3, z4⟩)
                  (first
                    | (go_at_call 81; (refine HSH.out.mono ?_); rintro e w6 ⟨rfl, hb6⟩; have z0 := below_cell hb6 x0; have z1 := below_cell hb6 x1; have z2 := below_cell hb6 y0; have z3 := below_cell hb6 y1; have z4 := below_cell hb6 v0; have HB6 := Lib.hid (HBX.out.trans (hb6.mono HBX.out.size)); clear hb6))
              | fail
            clear hwj
            go_wp2_with fail
            go_roundw
            case rel => exact ⟨k + 1, by omega, by go_num, HNX, HB6.out⟩
            case measure => simp [intOf]; omega
          · have HV : Hid (sharesB rows (-1) l = false) := Lib.hid (HBD.out (by rw [HTK.out, decide_eq_false hq]; simp))
            clear hk hr64 q0 q1 hb hbd hrw how er hlast p0 HTK HBD
            generalize l[k].1 = r1 at *
            generalize l[k].2 = v1 at *
            generalize l[j].1 = r0 at *
            have hq1 : decide (r0 ≥ r1) = true := decide_eq_true (by omega)
            have hq2 : decide (r1 ≤ r0) = true := decide_eq_true (by omega)
            clear hq hj
            go_wp2_with fail
            first
              | go_region_held3 (fun w' => w'.cell? ⟨w.heap.size, 0, none⟩ = some (.slice a rows.length cap) ∧ w'.cell? ⟨w.heap.size, 1, none⟩ = some (.slice a2 owners.length cap2) ∧ w'.cell? ⟨b, off + k * 2, none⟩ = some (.int .i64 r1) ∧ w'.cell? ⟨b, off + k * 2 + 1, none⟩ = some (.int .i64 v1) ∧ w'.cell? ⟨b, off + j * 2, none⟩ = some (.int .i64 r0)) (first | go_keep | exact ⟨z0, z1, z2, z3, z4⟩)
                  (first
                    | (go_at_call 81; (refine HSH.out.mono ?_); rintro e w6 ⟨rfl, hb6⟩; have z0 := below_cell hb6 x0; have z1 := below_cell hb6 x1; have z2 := below_cell hb6 y0; have z3 := below_cell hb6 y1; have z4 := below_cell hb6 v0; have HB6 := Lib.hid (HBX.out.trans (hb6.mono HBX.out.size)); clear hb6))
              | fail
            clear hwj
            go_wp2_with fail
            go_ret
            exact ⟨ret_bool HV.out.symm, HB1.out.trans (HB6.out.mono HB1.out.size)⟩
    · have hdk : decide (k < l.length) = false := decide_eq_false hlt
      have HV : Hid (sharesB rows (-1) l = true) := Lib.hid (by have := HS.out; rwa [List.take_of_length_le (by omega)] at this)
      go_wp2_with fail
      go_ret
      exact ⟨ret_bool HV.out.symm, HB1.out.trans (HBW.out.mono HB1.out.size)⟩

end Go.Proofs.YtjjoadmkpbmhpaaGreat

namespace Go.Proofs.YtjjoadmkpbmhpaaGreat
open Go.RowKit FP

end Go.Proofs.YtjjoadmkpbmhpaaGreat

namespace Go.Proofs.YtjjoadmkpbmhpaaGreat
open Go.RowKit FP

end Go.Proofs.YtjjoadmkpbmhpaaGreat

namespace Go.Proofs.YtjjoadmkpbmhpaaGreat
open Go.RowKit

/-- The operation ends at once: it enters no function. -/
def Ends : Result Go.Next → Prop
  | .ok (.enter _ _) _ => False
  | .ok (.row _ _) _ => False
  | .ok (.round _ _ _ _ _) _ => False
  | _ => True
structure PlainOp (P : Program) (o : Oper) : Prop where
  nodefer : ∀ c, o.op ≠ .defer c
  about : ∀ w ρ, o.about P w ρ = none
  ends : ∀ w ρ, Ends ((execOp ρ o).run P w)
theorem uponIn_of_upon {F : Fence} {n : Nat} {P : Program} {o : Oper} {a : Act} {K K' : Act → World → Prop} {Q : Exit → Act → World → Prop} (hK : ∀ a w, K a w → K' a w) : ∀ {r : Result Go.Next}, Ends r → o.upon P a K Q r → o.uponIn F n P a K' Q r
  | .ok x w, he, h => by
    cases x <;> simp only [Oper.upon, Oper.uponIn, Ends] at * <;> first | exact hK _ _ h | exact he.elim | exact h.elim | skip
  | .halt x w, _, h => by
    cases x <;> simp only [Oper.upon, Oper.uponIn] at * <;> first | exact h | exact h.elim | skip
theorem wpIn_of_wp {F : Fence} {n : Nat} {P : Program} {o : Oper} {a : Act} {w : World} {K K' : Act → World → Prop} {Q : Exit → Act → World → Prop} (hp : PlainOp P o) (hK : ∀ a w, K a w → K' a w) (h : o.wp P a w K Q) : o.wpIn F n P a w K' Q := by
  refine ⟨fun f hf => by (rw [hp.about] at hf; exact nomatch hf), ?_⟩
  rw [Oper.semAt_eq _ _ _ hp.nodefer]
  exact uponIn_of_upon hK (hp.ends w a.eval) h
theorem ends_v {P : Program} (s : Sem Value) (w : World) : Ends (Sem.run P (do pure (Go.Next.value (← s))) w) := by
  rw [Sem.run_bind]
  cases s.run P w <;> simp [Result.andThen, Ends, pure]
theorem ends_u {P : Program} (s : Sem Unit) (w : World) : Ends (Sem.run P (do s; pure Go.Next.skip) w) := by
  rw [Sem.run_bind]
  cases s.run P w <;> simp [Result.andThen, Ends, pure]
section
variable {P : Program} {d : Option Tmp} {t : TypeId} {p : String} {af : Array Edge} {g : Option (Nat × Bool)}
theorem plain_move {x : Operand} : PlainOp P ⟨d, .move x, t, p, af, g⟩ := ⟨(fun _ h => by cases h), fun _ _ => rfl, fun _ _ => trivial⟩
theorem plain_load {x : Operand} {ty : TypeId} : PlainOp P ⟨d, .load ty x, t, p, af, g⟩ := ⟨(fun _ h => by cases h), fun _ _ => rfl, fun w _ => ends_v _ w⟩
theorem plain_buildSlice {ty : TypeId} {n : Nat} {xs : Array (Nat × Operand)} : PlainOp P ⟨d, .buildSlice ty n xs, t, p, af, g⟩ := ⟨(fun _ h => by cases h), fun _ _ => rfl, fun w _ => ends_v _ w⟩
theorem plain_store {ty : TypeId} {x y : Operand} : PlainOp P ⟨d, .store ty x y, t, p, af, g⟩ := ⟨(fun _ h => by cases h), fun _ _ => rfl, fun w _ => ends_u _ w⟩
theorem plain_append {xs : Array Operand} {ts : Array TypeId} : PlainOp P ⟨d, .call { callee := .builtin .append, args := xs, argTypes := ts }, t, p, af, g⟩ := ⟨(fun _ h => by cases h), fun _ _ => rfl, fun w _ => ends_v _ w⟩
end

end Go.Proofs.YtjjoadmkpbmhpaaGreat
