/- Package program: Check. Package linear: Combine. Package linear: Separate. Package linear: Separate, where there are columns. The reference of package linear: what its small functions compute. The reference of program: Check. The reference of package linear: Check, Error, Few. The reference of package linear: rows less multiples of rows, and products. -/
import Derived.Test.YtggnipkfliompaaDoorMBase
import Derived.BigQuiet
import Derived.IntWalk
namespace Go.Proofs.YtggnipkfliompaaDoor
open Go.RowKit

/-- Is a row of a program wrong, or its owner? -/
def rowBad (m : Nat) (r : List Int) (o : Int) : Bool := decide (r.length = 0) || (decide (r.length ≠ m) || (!inB o 0 63 || r.any oddQ))
/-- The error of a program. -/
def progE (rows : List (List Int)) (owners : List Int) : Int :=
  if 64 < rows.length ∨ rows.any longR = true then 2 else if rows.length ≠ owners.length then 230
  else if (rows.zip owners).any (fun p => rowBad (wide rows) p.1 p.2) = true then 230 else 0
theorem progE_long {rows : List (List Int)} {owners : List Int} (h : 64 < rows.length ∨ rows.any longR = true) : progE rows owners = 2 := by unfold progE; rw [if_pos h]
theorem progE_len {rows : List (List Int)} {owners : List Int} (h : rows.length ≤ 64) (h2 : rows.any longR = false) (h3 : rows.length ≠ owners.length) : progE rows owners = 230 := by
  unfold progE; rw [if_neg (by rw [h2]; simp; omega), if_pos h3]
theorem zip_at {rows : List (List Int)} {owners : List Int} (h3 : rows.length = owners.length) {k : Nat} (hk : k < rows.length) : (rows.zip owners)[k]'(by simp; omega) = (rows[k], owners[k]'(by omega)) := by simp
theorem progE_bad {rows : List (List Int)} {owners : List Int} (h : rows.length ≤ 64) (h2 : rows.any longR = false) (h3 : rows.length = owners.length) {k : Nat} (hk : k < rows.length) (hb : rowBad (wide rows) rows[k] (owners[k]'(by omega)) = true) : progE rows owners = 230 := by
  unfold progE; rw [if_neg (by rw [h2]; simp; omega), if_neg (by omega), if_pos]
  rw [List.any_eq_true]
  have hz : k < (rows.zip owners).length := by simp; omega
  exact ⟨(rows.zip owners)[k], List.getElem_mem hz, by rw [zip_at h3 hk]; exact hb⟩
theorem progE_fine {rows : List (List Int)} {owners : List Int} (h : rows.length ≤ 64) (h2 : rows.any longR = false) (h3 : rows.length = owners.length) (hb : ∀ k (hk : k < rows.length), rowBad (wide rows) rows[k] (owners[k]'(by omega)) = false) : progE rows owners = 0 := by
  unfold progE; rw [if_neg (by rw [h2]; simp; omega), if_neg (by omega), if_neg]
  intro ha
  rw [List.any_eq_true] at ha
  obtain ⟨p, hp, hq⟩ := ha
  obtain ⟨k, hk, rfl⟩ := List.mem_iff_getElem.1 hp
  have hk2 : k < rows.length := by simp at hk; omega
  rw [zip_at h3 hk2] at hq
  rw [hb k hk2] at hq; cases hq

theorem box_prog (w : World) (u v : Value) (t : TypeId) : ∃ W, W = w.alloc (.cells #[u, v] t) ∧ Below w.heap.size w W ∧ W.heap[w.heap.size]? = some (.cells #[u, v] t (0, 0)) ∧ w.heap.size < W.heap.size :=
  ⟨_, rfl, (Below.refl _ _).alloc (Nat.le_refl _) _, World.alloc_heap_new _ _, by simp [go_sem]⟩
theorem rowp_cell {W : World} {b : Nat} {L : Array Value} {t : TypeId} (h : W.heap[b]? = some (.cells L t (0, 0))) {k : Nat} {v : Value} (hk : L[k]? = some v) : W.cell? ⟨b, k, none⟩ = some v := by
  simp [World.cell?, h, hk]
theorem bad_0 {m : Nat} {r : List Int} {o : Int} (h : r.length = 0) : rowBad m r o = true := by unfold rowBad; rw [decide_eq_true h]; rfl
theorem bad_1 {m : Nat} {r : List Int} {o : Int} (h : r.length ≠ m) : rowBad m r o = true := by unfold rowBad; rw [decide_eq_true h]; simp
theorem bad_2 {m : Nat} {r : List Int} {o : Int} (h : inB o 0 63 = false) : rowBad m r o = true := by unfold rowBad; rw [h]; simp
theorem bad_3 {m : Nat} {r : List Int} {o : Int} (h : r.any oddQ = true) : rowBad m r o = true := by unfold rowBad; rw [h]; simp
theorem bad_no {m : Nat} {r : List Int} {o : Int} (h0 : r.length ≠ 0) (h1 : r.length = m) (h2 : inB o 0 63 = true) (h3 : r.any oddQ = false) : rowBad m r o = false := by
  unfold rowBad; rw [decide_eq_false h0, decide_eq_false (by simpa using h1), h2, h3]; rfl

set_option maxRecDepth 100000 in
set_option maxHeartbeats 2000000 in
theorem pCheck_any (rv ov : Value) (rows : List (List Int)) (owners : List Int) (w : World) (hR : Rows2 w rv rows) (hO : Ints w ov owners) :
    Calls Tryd.prog 42 #[.agg #[rv, ov]] w fun e w' => e = .returned (.int .i64 (progE rows owners)) ∧ Below w.heap.size w w' := by
  obtain ⟨W1, hW1, hb1, hr1, hz⟩ := box_prog w rv ov 25
  have HR1 := Lib.hid (hR.below hb1)
  have HO1 := Lib.hid (hO.below hb1)
  obtain ⟨a, cap, rfl, -, hlen, -⟩ := id hR
  obtain ⟨a2, cap2, rfl, -, hlen2, -⟩ := id hO
  have c0 : W1.cell? ⟨w.heap.size, 0, none⟩ = some (.slice a rows.length cap) := rowp_cell hr1 rfl
  have c1 : W1.cell? ⟨w.heap.size, 1, none⟩ = some (.slice a2 owners.length cap2) := rowp_cell hr1 rfl
  have HW1 := Lib.hid hW1
  have HB1 := Lib.hid hb1
  clear hR hO hr1 hW1 hb1
  by_cases h64 : rows.length ≤ 64
  · have HCF := Lib.hid (containsFuncR_any 66 #[] longR _ rows W1 HR1.out plong_goes (plong_tests W1))
    cases hl : rows.any longR with
    | true =>
      have HV := Lib.hid (progE_long (owners := owners) (.inr hl))
      rw [hl] at HCF
      clear hl
      go_enter Tryd.func42, Tryd.ntmps42
      go_wp2_with fail
      rw [← HW1.out]
      refine HCF.out.mono ?_
      rintro e w2 ⟨rfl, hb2⟩
      go_wp2_with fail
      go_ret
      exact ⟨ret_int HV.out.symm, HB1.out.trans (hb2.mono HB1.out.size)⟩
    | false =>
      rw [hl] at HCF
      have HL := Lib.hid hl
      clear hl
      by_cases hne : rows.length = owners.length
      · have hneI : ((rows.length : Int) != (owners.length : Int)) = false := by rw [hne]; exact bne_self_eq_false _
        have HNE := Lib.hid hne
        clear hne
        go_enter Tryd.func42, Tryd.ntmps42
        go_wp2_with fail
        rw [← HW1.out]
        refine HCF.out.mono ?_
        rintro e w2 ⟨rfl, hb2⟩
        have d0 := below_cell hb2 c0
        have d1 := below_cell hb2 c1
        have HR2 := Lib.hid (HR1.out.below hb2)
        have HO2 := Lib.hid (HO1.out.below hb2)
        have HB2 := Lib.hid (HB1.out.trans (hb2.mono HB1.out.size))
        clear hb2 c0 c1 HCF
        go_wp2_with fail
        go_loopw [27] (fun i W => ∃ k : Nat, k ≤ rows.length ∧ i = .int .i64 k ∧ Hid (∀ j (hj : j < rows.length), j < k → rowBad (wide rows) rows[j] (owners[j]'(by have := HNE.out; omega)) = false) ∧ Below w2.heap.size w2 W) (fun i _ => rows.length - (intOf i).toNat)
        case atStart => exact ⟨0, Nat.zero_le _, rfl, Lib.hid (fun j _ h => absurd h (Nat.not_lt_zero _)), Below.refl _ _⟩
        case round =>
          obtain ⟨k, hkl, rfl, HP, hb⟩ := hrel
          have x0 := below_cell hb d0
          have x1 := below_cell hb d1
          have HB3 := Lib.hid (HB2.out.trans (hb.mono HB2.out.size))
          have HBR := Lib.hid hb
          by_cases hlt : k < rows.length
          · have hko : k < owners.length := by have := HNE.out; omega
            obtain ⟨aa, cc, e1, -, -, hk⟩ := HR2.out
            obtain ⟨b, off, r, ha, q1, hI⟩ := hk k hlt
            obtain ⟨b0, off0, r0, ha0, q0, hI0⟩ := hk 0 (by omega)
            simp only [Value.slice.injEq] at e1
            obtain ⟨rfl, -, rfl⟩ := e1
            subst ha
            simp only [Option.some.injEq, Addr.mk.injEq, and_true] at ha0
            obtain ⟨rfl, rfl⟩ := ha0
            obtain ⟨aa2, cc2, e2, -, -, hr2, hk2⟩ := HO2.out
            obtain ⟨b2, off2, ha2, q2⟩ := hk2 k hko
            simp only [Value.slice.injEq] at e2
            obtain ⟨rfl, -, rfl⟩ := e2
            subst ha2
            have hor := hr2 _ (List.getElem_mem hko)
            rw [Nat.add_zero] at q0
            have y0 := below_cell hb q0
            have y1 := below_cell hb q1
            have y2 := below_cell hb q2
            have HI := Lib.hid (hI.below hb)
            obtain ⟨ra, rc, rfl, -⟩ := id hI
            obtain ⟨ra0, rc0, rfl, -⟩ := id hI0
            have HWD := Lib.hid (wide_at rows (by omega))
            have HBAD := Lib.hid (fun h => progE_bad h64 HL.out HNE.out hlt h)
            have HNX := Lib.hid (show rowBad (wide rows) rows[k] owners[k] = false → ∀ j (hj : j < rows.length), j < k + 1 → rowBad (wide rows) rows[j] (owners[j]'(by have := HNE.out; omega)) = false from fun h j hj hjk => by
              by_cases e : j = k
              · subst e; exact h
              · exact HP.out j hj (by omega))
            rw [HWD.out] at y0
            clear hI hI0 hk hk2 hr2 q0 q1 q2 HP hb HWD
            generalize rows[k] = r at *
            generalize owners[k] = o at *
            generalize wide rows = m at *
            by_cases e0 : r.length = 0
            · have HV := Lib.hid (HBAD.out (bad_0 e0))
              have z0 : ((r.length : Int) == 0) = true := by rw [e0]; rfl
              clear e0 HNX HBAD
              go_wp2_with fail
              go_ret
              exact ⟨ret_int HV.out.symm, HB3.out⟩
            · have z0 : ((r.length : Int) == 0) = false := beq_eq_false_iff_ne.2 (by omega)
              by_cases e1 : r.length = m
              · have z1 : ((r.length : Int) != (m : Int)) = false := by rw [e1]; exact bne_self_eq_false _
                cases e2 : inB o 0 63 with
                | false =>
                  have HV := Lib.hid (HBAD.out (bad_2 (m := m) (r := r) e2))
                  have H2 := Lib.hid e2
                  clear e0 e1 e2 HNX HBAD
                  go_wp2_with fail
                  with_reducible refine (pperson_any o _).mono ?_
                  rintro e w3 ⟨rfl, rfl⟩
                  rw [H2.out]
                  go_wp2_with fail
                  go_ret
                  exact ⟨ret_int HV.out.symm, HB3.out⟩
                | true =>
                  have H2 := Lib.hid e2
                  have HC2 := Lib.hid (containsFunc_any 68 #[] oddQ _ r _ HI.out podd_goes (podd_tests _ _))
                  cases e3 : r.any oddQ with
                  | true =>
                    have HV := Lib.hid (HBAD.out (bad_3 (m := m) (o := o) e3))
                    rw [e3] at HC2
                    clear e0 e1 e2 e3 HNX HBAD
                    go_wp2_with fail
                    with_reducible refine (pperson_any o _).mono ?_
                    rintro e w3 ⟨rfl, rfl⟩
                    rw [H2.out]
                    go_wp2_with fail
                    refine HC2.out.mono ?_
                    rintro e w3 ⟨rfl, hb3⟩
                    go_wp2_with fail
                    go_ret
                    exact ⟨ret_int HV.out.symm, HB3.out.trans (hb3.mono HB3.out.size)⟩
                  | false =>
                    have HN := Lib.hid (HNX.out (bad_no e0 e1 e2 e3))
                    rw [e3] at HC2
                    clear e0 e1 e2 e3 HNX HBAD
                    go_wp2_with fail
                    with_reducible refine (pperson_any o _).mono ?_
                    rintro e w3 ⟨rfl, rfl⟩
                    rw [H2.out]
                    go_wp2_with fail
                    refine HC2.out.mono ?_
                    rintro e w3 ⟨rfl, hb3⟩
                    go_wp2_with fail
                    go_roundw
                    case rel => exact ⟨k + 1, by omega, by go_num, HN, HBR.out.trans (hb3.mono HBR.out.size)⟩
                    case measure => simp [intOf]; omega
              · have HV := Lib.hid (HBAD.out (bad_1 (o := o) e1))
                have z1 : ((r.length : Int) != (m : Int)) = true := bne_iff_ne.2 (by omega)
                clear e0 e1 HNX HBAD
                go_wp2_with fail
                go_ret
                exact ⟨ret_int HV.out.symm, HB3.out⟩
          · have HV := Lib.hid (progE_fine h64 HL.out HNE.out (fun j hj => HP.out j hj (by omega)))
            go_wp2_with fail
            go_ret
            exact ⟨ret_int HV.out.symm, HB3.out⟩
      · have hneI : ((rows.length : Int) != (owners.length : Int)) = true := bne_iff_ne.2 (by omega)
        have HV := Lib.hid (progE_len h64 HL.out hne)
        clear hne
        go_enter Tryd.func42, Tryd.ntmps42
        go_wp2_with fail
        rw [← HW1.out]
        refine HCF.out.mono ?_
        rintro e w2 ⟨rfl, hb2⟩
        have d0 := below_cell hb2 c0
        have d1 := below_cell hb2 c1
        go_wp2_with fail
        go_ret
        exact ⟨ret_int HV.out.symm, HB1.out.trans (hb2.mono HB1.out.size)⟩
  · have HV := Lib.hid (progE_long (rows := rows) (owners := owners) (.inl (by omega)))
    have hd : decide ((rows.length : Int) ≤ 64) = false := decide_eq_false (by omega)
    go_enter Tryd.func42, Tryd.ntmps42
    go_wp2_with fail
    go_ret
    exact ⟨ret_int HV.out.symm, HW1.out ▸ HB1.out⟩

end Go.Proofs.YtggnipkfliompaaDoor

namespace Go.Proofs.YtggnipkfliompaaDoor
open Go.RowKit

/-- A block of the call's own that holds n integers. -/
structure IBlk (W : World) (b n : Nat) (f : Nat → Int) : Prop where
  cell : ∀ i, i < n → W.cell? ⟨b, i, none⟩ = some (.int .i64 (f i))
  fro : ∀ i, i < n → W.frozen? ⟨b, i, none⟩ = false

theorem IBlk.below {W W' : World} {b n S : Nat} {f : Nat → Int} (h : IBlk W b n f) (hb : Below S W W') (hS : b < S) : IBlk W' b n f :=
  ⟨fun i hi => by rw [hb.cell (p := ⟨b, i, none⟩) hS]; exact h.cell i hi, fun i hi => by rw [hb.frozen (p := ⟨b, i, none⟩) hS]; exact h.fro i hi⟩
theorem IBlk.made (W : World) (n : Nat) (t : TypeId) : IBlk (W.alloc (.cells (madeCells #[.int .i64 0] n) t)) W.heap.size n (fun _ => 0) :=
  ⟨fun i hi => by rw [World.cell?_alloc_at _ _ _ _ rfl]; simp [madeCells, hi, Nat.mod_one], fun i _ => World.frozen?_alloc_at _ _ _ _ rfl⟩
theorem IBlk.set {W : World} {b n k : Nat} {f : Nat → Int} (h : IBlk W b n f) (z : Int) : IBlk (W.setCell ⟨b, k, none⟩ (.int .i64 z)) b n (fun i => if i = k then z else f i) :=
  ⟨fun i hi => by
    by_cases e : k = i
    · subst e
      show _ = some (Value.int .i64 (if k = k then z else f k))
      rw [if_pos rfl]
      exact World.cell?_setCell_same' _ _ _ (by rw [h.cell k hi]; rfl)
    · show _ = some (Value.int .i64 (if i = k then z else f i))
      rw [if_neg (fun e' => e e'.symm), set_other (.inr e)]; exact h.cell i hi, fun i hi => by rw [World.frozen?_setCell]; exact h.fro i hi⟩
theorem IBlk.other {W : World} {b n b' o : Nat} {f : Nat → Int} (h : IBlk W b n f) (hb : b' ≠ b) (v : Value) : IBlk (W.setCell ⟨b', o, none⟩ v) b n f :=
  ⟨fun i hi => by rw [set_other (.inl hb)]; exact h.cell i hi, fun i hi => by rw [World.frozen?_setCell]; exact h.fro i hi⟩
end Go.Proofs.YtggnipkfliompaaDoor

namespace Go.Proofs.YtggnipkfliompaaDoor
open Go.RowKit

end Go.Proofs.YtggnipkfliompaaDoor

namespace Go.Proofs.YtggnipkfliompaaDoor
open Go.RowKit

end Go.Proofs.YtggnipkfliompaaDoor

namespace Go.Proofs.YtggnipkfliompaaDoor
open Go.RowKit

theorem below_drewN {B : Nat} {a w : World} (h : Below B a w) (n : Nat) : Below B a (w.drewN n) := ⟨h.os, h.tape, h.output, h.size, h.block⟩
end Go.Proofs.YtggnipkfliompaaDoor

namespace Go.Proofs.YtggnipkfliompaaDoor
open Go.RowKit

theorem any_of_take {α : Type} {p : α → Bool} {l : List α} {k : Nat} (h : ¬ k < l.length) (hp : ∀ x ∈ l.take k, p x = false) : l.any p = false := by
  have h2 : ∀ x ∈ l, p x = false := by rwa [List.take_of_length_le (by omega)] at hp
  cases e : l.any p with
  | false => rfl
  | true => obtain ⟨x, hx, hq⟩ := List.any_eq_true.1 e; rw [h2 x hx] at hq; cases hq
theorem take_next {α : Type} {p : α → Bool} {l : List α} {k : Nat} (h : k < l.length) (hp : ∀ x ∈ l.take k, p x = false) (hk : p l[k] = false) : ∀ x ∈ l.take (k + 1), p x = false := by
  rw [List.take_succ_eq_append_getElem h]
  intro x hx
  rcases List.mem_append.1 hx with hx | hx
  · exact hp x hx
  · rw [List.mem_singleton.1 hx]; exact hk
theorem any_here {α : Type} {p : α → Bool} {l : List α} {k : Nat} (h : k < l.length) (hk : p l[k] = true) : l.any p = true := List.any_eq_true.2 ⟨_, List.getElem_mem h, hk⟩

set_option maxRecDepth 100000 in
set_option maxHeartbeats 4000000 in
theorem rpCheck_any (rv ov : Value) (rows : List (List Int)) (owners : List Int) (w : World) (hR : Rows2 w rv rows) (hO : Ints w ov owners) :
    Calls Tryd.prog 15 #[.agg #[rv, ov]] w fun e w' => e = .returned (.int .i64 (progE rows owners)) ∧ Below w.heap.size w w' := by
  obtain ⟨W1, hW1, hb1, hr1, hz⟩ := box_prog w rv ov 25
  have HR1 := Lib.hid (hR.below hb1)
  have HO1 := Lib.hid (hO.below hb1)
  obtain ⟨a, cap, rfl, -, hlen, -⟩ := id hR
  obtain ⟨a2, cap2, rfl, -, hlen2, -⟩ := id hO
  have c0 : W1.cell? ⟨w.heap.size, 0, none⟩ = some (.slice a rows.length cap) := rowp_cell hr1 rfl
  have c1 : W1.cell? ⟨w.heap.size, 1, none⟩ = some (.slice a2 owners.length cap2) := rowp_cell hr1 rfl
  have HW1 := Lib.hid hW1
  have HB1 := Lib.hid hb1
  clear hR hO hr1 hW1 hb1
  by_cases h64 : rows.length ≤ 64
  · go_enter Tryd.func15, Tryd.ntmps15
    go_wp2_with fail
    rw [← HW1.out]
    go_loopw [3] (fun i W => ∃ k : Nat, k ≤ rows.length ∧ i = .int .i64 k ∧ Hid (∀ r ∈ rows.take k, longR r = false) ∧ Below W1.heap.size W1 W) (fun i _ => rows.length - (intOf i).toNat)
    case atStart => exact ⟨0, Nat.zero_le _, rfl, Lib.hid (by simp), Below.refl _ _⟩
    case round =>
      obtain ⟨k, hkl, rfl, HP, hb⟩ := hrel
      have x0 := below_cell hb c0
      have x1 := below_cell hb c1
      have HBR := Lib.hid hb
      by_cases hlt : k < rows.length
      · obtain ⟨aa, cc, e1, -, -, hk⟩ := HR1.out
        obtain ⟨b, off, r, ha, q1, hI⟩ := hk k hlt
        simp only [Value.slice.injEq] at e1
        obtain ⟨rfl, -, rfl⟩ := e1
        subst ha
        have y1 := below_cell hb q1
        obtain ⟨ra, rc, rfl, -⟩ := id hI
        clear hk hI q1
        cases el : longR rows[k] with
        | true =>
          have HV := Lib.hid (progE_long (owners := owners) (.inr (any_here hlt el)))
          have hd : decide ((64 : Int) < (rows[k].length : Int)) = true := decide_eq_true (by simp [longR] at el; omega)
          clear el
          generalize rows[k] = r at *
          go_wp2_with fail
          go_ret
          exact ⟨ret_int HV.out.symm, HB1.out.trans (HBR.out.mono HB1.out.size)⟩
        | false =>
          have HN := Lib.hid (take_next hlt HP.out el)
          have hd : decide ((64 : Int) < (rows[k].length : Int)) = false := decide_eq_false (by simp [longR] at el; omega)
          clear el
          generalize rows[k] = r at *
          go_wp2_with fail
          go_roundw
          case rel => exact ⟨k + 1, by omega, by go_num, HN, HBR.out⟩
          case measure => simp [intOf]; omega
      · have HL := Lib.hid (any_of_take hlt HP.out)
        have HB2 := Lib.hid (HB1.out.trans (HBR.out.mono HB1.out.size))
        have HR2 := Lib.hid (HR1.out.below HBR.out)
        have HO2 := Lib.hid (HO1.out.below HBR.out)
        have hdk : decide (k < rows.length) = false := decide_eq_false hlt
        by_cases hne : rows.length = owners.length
        · have hneI : ((rows.length : Int) != (owners.length : Int)) = false := by rw [hne]; exact bne_self_eq_false _
          have HNE := Lib.hid hne
          clear hne HP HR1 HO1 hb HBR
          go_wp2_with fail
          obtain ⟨wo, hwo⟩ : ∃ wo : World, wo = wr := ⟨_, rfl⟩
          rw [← hwo] at HR2 HO2 HB2 x0 x1 ⊢
          clear hwo
          go_loopw [4] (fun i W => ∃ k : Nat, k ≤ rows.length ∧ i = .int .i64 k ∧ Hid (∀ j (hj : j < rows.length), j < k → rowBad (wide rows) rows[j] (owners[j]'(by have := HNE.out; omega)) = false) ∧ Below wo.heap.size wo W) (fun i _ => rows.length - (intOf i).toNat)
          case atStart => exact ⟨0, Nat.zero_le _, rfl, Lib.hid (fun j _ h => absurd h (Nat.not_lt_zero _)), Below.refl _ _⟩
          case round =>
            obtain ⟨k, hkl, rfl, HP, hb⟩ := hrel
            have v0 := below_cell hb x0
            have v1 := below_cell hb x1
            have HB3 := Lib.hid (HB2.out.trans (hb.mono HB2.out.size))
            have HBR := Lib.hid hb
            by_cases hlt : k < rows.length
            · have hko : k < owners.length := by have := HNE.out; omega
              obtain ⟨aa, cc, e1, -, -, hk⟩ := HR2.out
              obtain ⟨b, off, r, ha, q1, hI⟩ := hk k hlt
              obtain ⟨b0, off0, r0, ha0, q0, hI0⟩ := hk 0 (by omega)
              simp only [Value.slice.injEq] at e1
              obtain ⟨rfl, -, rfl⟩ := e1
              subst ha
              simp only [Option.some.injEq, Addr.mk.injEq, and_true] at ha0
              obtain ⟨rfl, rfl⟩ := ha0
              obtain ⟨aa2, cc2, e2, -, -, hr2, hk2⟩ := HO2.out
              obtain ⟨b2, off2, ha2, q2⟩ := hk2 k hko
              simp only [Value.slice.injEq] at e2
              obtain ⟨rfl, -, rfl⟩ := e2
              subst ha2
              have hor := hr2 _ (List.getElem_mem hko)
              rw [Nat.add_zero] at q0
              have y0 := below_cell hb q0
              have y1 := below_cell hb q1
              have y2 := below_cell hb q2
              have HI := Lib.hid (hI.below hb)
              obtain ⟨ra, rc, rfl, -, hrl, -⟩ := id hI
              obtain ⟨ra0, rc0, rfl, -⟩ := id hI0
              have HWD := Lib.hid (wide_at rows (by omega))
              have HBAD := Lib.hid (fun h => progE_bad h64 HL.out HNE.out hlt h)
              have HNX := Lib.hid (show rowBad (wide rows) rows[k] owners[k] = false → ∀ j (hj : j < rows.length), j < k + 1 → rowBad (wide rows) rows[j] (owners[j]'(by have := HNE.out; omega)) = false from fun h j hj hjk => by
                by_cases e : j = k
                · subst e; exact h
                · exact HP.out j hj (by omega))
              rw [HWD.out] at y0
              have i0 : 0 ≤ (k : Int) := by omega
              have i1 : (k : Int) < (rows.length : Int) := by omega
              have i2 : (k : Int) < (owners.length : Int) := by omega
              have i3 : (0 : Int) < (rows.length : Int) := by omega
              clear hI hI0 hk hk2 hr2 q0 q1 q2 HP hb HWD
              generalize rows[k] = r at *
              generalize owners[k] = o at *
              generalize wide rows = m at *
              by_cases e0 : r.length = 0
              · have HV := Lib.hid (HBAD.out (bad_0 e0))
                have z0 : decide ((r.length : Int) < 1) = true := decide_eq_true (by omega)
                clear e0 HNX HBAD
                go_wp2_with fail
                go_quiet (fail)
                go_wp2_with fail
                go_ret
                exact ⟨ret_int HV.out.symm, below_drewN HB3.out _⟩
              · have z0 : decide ((r.length : Int) < 1) = false := decide_eq_false (by omega)
                by_cases e1 : r.length = m
                · have z1 : ((r.length : Int) != (m : Int)) = false := by rw [e1]; exact bne_self_eq_false _
                  by_cases e2 : 0 ≤ o
                  · have z2 : decide (o < 0) = false := decide_eq_false (by omega)
                    by_cases e3 : o < 64
                    · have z3 : decide (o ≥ 64) = false := decide_eq_false (by omega)
                      have z4 : decide (64 ≤ o) = false := decide_eq_false (by omega)
                      have HOK := Lib.hid (inB_iff.2 (show 0 ≤ o ∧ o ≤ 63 by omega))
                      have HE1 := Lib.hid e1
                      clear e1
                      go_wp2_with fail
                      go_quiet (fail)
                      obtain ⟨wq, hwq⟩ : ∃ wq : World, wq = wr := ⟨_, rfl⟩
                      rw [← hwq] at HI HB3 HBR v0 v1 y0 y1 y2 ⊢
                      clear hwq y0 y2
                      go_wp2_with fail
                      go_loopw [5] (fun i W => ∃ j : Nat, j ≤ r.length ∧ i = .int .i64 j ∧ Hid (∀ z ∈ r.take j, oddQ z = false) ∧ Below wq.heap.size wq W) (fun i _ => r.length - (intOf i).toNat)
                      case atStart => exact ⟨0, Nat.zero_le _, rfl, Lib.hid (by simp), below_drewN (Below.refl _ _) _⟩
                      case round =>
                        obtain ⟨j, hjl, rfl, HQ, hbq⟩ := hrel
                        have s0 := below_cell hbq v0
                        have s1 := below_cell hbq v1
                        have s2 := below_cell hbq y1
                        have HBQ := Lib.hid hbq
                        by_cases hj : j < r.length
                        · obtain ⟨ab, ac, e5, -, -, hrr, hkk⟩ := HI.out
                          obtain ⟨bb, oo, ha5, q5⟩ := hkk j hj
                          simp only [Value.slice.injEq] at e5
                          obtain ⟨rfl, -, rfl⟩ := e5
                          subst ha5
                          have s3 := below_cell hbq q5
                          have hz64 := hrr _ (List.getElem_mem hj)
                          have j0 : 0 ≤ (j : Int) := by omega
                          have j1 : (j : Int) < (r.length : Int) := by omega
                          clear hkk hrr hbq q5
                          cases eo : oddQ r[j] with
                          | true =>
                            have HV := Lib.hid (HBAD.out (bad_3 (m := m) (o := o) (any_here hj eo)))
                            by_cases hn : r[j] < 0
                            · clear eo HNX HBAD
                              generalize r[j] = z at *
                              go_wp2_with fail
                              go_ret
                              exact ⟨ret_int HV.out.symm, HB3.out.trans (HBQ.out.mono HB3.out.size)⟩
                            · have hq : decide (r[j] ≥ 1073741789) = true := decide_eq_true (by simp [oddQ] at eo; omega)
                              have hq2 : decide (1073741789 ≤ r[j]) = true := decide_eq_true (by simp [oddQ] at eo; omega)
                              have hn0 : 0 ≤ r[j] := by omega
                              clear eo hn HNX HBAD
                              generalize r[j] = z at *
                              go_wp2_with fail
                              go_ret
                              exact ⟨ret_int HV.out.symm, HB3.out.trans (HBQ.out.mono HB3.out.size)⟩
                          | false =>
                            have HN := Lib.hid (take_next hj HQ.out eo)
                            have hn0 : 0 ≤ r[j] := by simp [oddQ] at eo; omega
                            have hn1 : r[j] < 1073741789 := by simp [oddQ] at eo; omega
                            clear eo HNX HBAD
                            generalize r[j] = z at *
                            go_wp2_with fail
                            go_roundw
                            case rel => exact ⟨j + 1, by omega, by go_num, HN, HBQ.out⟩
                            case measure => simp [intOf]; omega
                        · have HN := Lib.hid (HNX.out (bad_no e0 HE1.out HOK.out (any_of_take hj HQ.out)))
                          have hdj : decide (j < r.length) = false := decide_eq_false hj
                          clear HNX HBAD e0
                          go_wp2_with fail
                          go_roundw
                          case rel => exact ⟨k + 1, by omega, by go_num, HN, HBR.out.trans (HBQ.out.mono HBR.out.size)⟩
                          case measure => simp [intOf]; omega
                    · have HV := Lib.hid (HBAD.out (bad_2 (m := m) (r := r) (inB_false (show ¬ (0 ≤ o ∧ o ≤ 63) by omega))))
                      have z3 : decide (o ≥ 64) = true := decide_eq_true (by omega)
                      have z4 : decide (64 ≤ o) = true := decide_eq_true (by omega)
                      clear e0 e1 HNX HBAD
                      go_wp2_with fail
                      go_quiet (fail)
                      go_wp2_with fail
                      go_ret
                      exact ⟨ret_int HV.out.symm, below_drewN HB3.out _⟩
                  · have HV := Lib.hid (HBAD.out (bad_2 (m := m) (r := r) (inB_false (show ¬ (0 ≤ o ∧ o ≤ 63) by omega))))
                    have z2 : decide (o < 0) = true := decide_eq_true (by omega)
                    clear e0 e1 HNX HBAD
                    go_wp2_with fail
                    go_quiet (fail)
                    go_wp2_with fail
                    go_ret
                    exact ⟨ret_int HV.out.symm, below_drewN HB3.out _⟩
                · have HV := Lib.hid (HBAD.out (bad_1 (o := o) e1))
                  have z1 : ((r.length : Int) != (m : Int)) = true := bne_iff_ne.2 (by omega)
                  clear e0 e1 HNX HBAD
                  go_wp2_with fail
                  go_quiet (fail)
                  go_wp2_with fail
                  go_ret
                  exact ⟨ret_int HV.out.symm, below_drewN HB3.out _⟩
            · have HV := Lib.hid (progE_fine h64 HL.out HNE.out (fun j hj => HP.out j hj (by omega)))
              have hdk : decide (k < rows.length) = false := decide_eq_false hlt
              go_wp2_with fail
              go_ret
              exact ⟨ret_int HV.out.symm, HB3.out⟩
        · have hneI : ((rows.length : Int) != (owners.length : Int)) = true := bne_iff_ne.2 (by omega)
          have HV := Lib.hid (progE_len h64 HL.out hne)
          clear hne
          go_wp2_with fail
          go_ret
          exact ⟨ret_int HV.out.symm, HB2.out⟩
  · have HV := Lib.hid (progE_long (rows := rows) (owners := owners) (.inl (by omega)))
    have hd : decide ((rows.length : Int) ≤ 64) = false := decide_eq_false (by omega)
    go_enter Tryd.func15, Tryd.ntmps15
    go_wp2_with fail
    go_ret
    exact ⟨ret_int HV.out.symm, HW1.out ▸ HB1.out⟩

end Go.Proofs.YtggnipkfliompaaDoor

namespace Go.Proofs.YtggnipkfliompaaDoor
open Go.RowKit

theorem Ints.drewN {w : World} {v : Value} {zs : List Int} (h : Ints w v zs) (n : Nat) : Ints (w.drewN n) v zs := h.below (below_drewN (Below.refl _ _) n)
theorem Rows2.drewN {w : World} {v : Value} {rows : List (List Int)} (h : Rows2 w v rows) (n : Nat) : Rows2 (w.drewN n) v rows := h.below (below_drewN (Below.refl _ _) n)

end Go.Proofs.YtggnipkfliompaaDoor

namespace Go.Proofs.YtggnipkfliompaaDoor
open Go.RowKit

/-- The element of a list, or 0. -/
def nth (l : List Int) (i : Nat) : Int := l[i]?.getD 0
theorem nth_at {l : List Int} {i : Nat} (h : i < l.length) : nth l i = l[i] := by unfold nth; rw [List.getElem?_eq_getElem h]; rfl
theorem Ints.get {w : World} {v : Value} {zs : List Int} (h : Ints w v zs) {k : Nat} (hk : k < zs.length) : R64 (nth zs k) ∧ ∃ b off n c, v = .slice (some ⟨b, off, none⟩) n c ∧ w.cell? ⟨b, off + k, none⟩ = some (.int .i64 (nth zs k)) := by
  obtain ⟨a, cap, rfl, h1, h2, h3, h4⟩ := h
  obtain ⟨b, off, rfl, hc⟩ := h4 k hk
  rw [nth_at hk]
  exact ⟨h3 _ (List.getElem_mem hk), b, off, _, _, rfl, hc⟩

/-- The product of two lists, after K elements. -/
def prodF (a b : List Int) : Nat → Int
  | 0 => 0
  | k + 1 => (prodF a b k + nth a k * nth b k % 1073741789) % 1073741789
def prodQ (a b : List Int) : Int := prodF a b a.length
theorem prodF_num (a b : List Int) : ∀ k, 0 ≤ prodF a b k ∧ prodF a b k < 1073741789
  | 0 => by simp [prodF]
  | k + 1 => mod_num _

end Go.Proofs.YtggnipkfliompaaDoor
