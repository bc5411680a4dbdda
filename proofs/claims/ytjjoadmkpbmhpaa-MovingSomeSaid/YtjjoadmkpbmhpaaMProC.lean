/- Package program: question, where it refuses. -/
import Derived.Test.YtjjoadmkpbmhpaaMRegL
import Derived.Test.YtjjoadmkpbmhpaaMLaI
namespace Go.Proofs.Ytjjoadmkpbmhpaa
open Go.RowKit FP

/-- Are numbers people, in order, behind a number? -/
def peopleB (last : Int) : List Int → Bool
  | [] => true
  | n :: l => inB n 0 63 && (decide (last < n) && peopleB n l)
def lastP (last : Int) (l : List Int) : Int := l.getLast?.getD last
theorem peopleB_snoc {p : Int} : ∀ {l : List Int} {last : Int}, peopleB last (l ++ [p]) = (peopleB last l && (inB p 0 63 && decide (lastP last l < p)))
  | [], last => by
    simp [peopleB, lastP]
    rfl
  | q :: l, last => by
    rw [List.cons_append, peopleB, peopleB_snoc, peopleB]
    have : lastP q l = lastP last (q :: l) := by
      unfold lastP
      cases l with
      | nil => rfl
      | cons a t => rw [List.getLast?_cons_cons]; simp [List.getLast?_cons]
    rw [this]
    cases inB q 0 63 <;> cases decide (last < q) <;> simp
theorem lastP_snoc (last : Int) (l : List Int) (p : Int) : lastP last (l ++ [p]) = p := by unfold lastP; simp
theorem lastP_take {l : List Int} {last : Int} {k : Nat} (hk : k < l.length) : lastP last (l.take (k + 1)) = l[k] := by
  rw [List.take_succ_eq_append_getElem hk, lastP_snoc]
theorem peopleB_take {l : List Int} {last : Int} {k : Nat} (hk : k < l.length) : peopleB last (l.take (k + 1)) = (peopleB last (l.take k) && (inB l[k] 0 63 && decide (lastP last (l.take k) < l[k]))) := by
  rw [List.take_succ_eq_append_getElem hk, peopleB_snoc]
theorem peopleB_front : ∀ {l : List Int} {last : Int}, peopleB last l = true → ∀ k, peopleB last (l.take k) = true
  | [], _, _, k => by rw [List.take_nil]; rfl
  | p :: l, last, h, 0 => rfl
  | p :: l, last, h, k + 1 => by
    rw [List.take_succ_cons]
    unfold peopleB at h ⊢
    simp only [Bool.and_eq_true] at h ⊢
    exact ⟨h.1, h.2.1, peopleB_front h.2.2 k⟩
theorem peopleB_bad {l : List Int} {last : Int} {k : Nat} (h : peopleB last (l.take (k + 1)) = false) : peopleB last l = false := by
  cases e : peopleB last l with
  | false => rfl
  | true => rw [peopleB_front e] at h; cases h
theorem peopleB_all : ∀ {l : List Int} {last : Int}, peopleB last l = true → (∀ p ∈ l, 0 ≤ p ∧ p ≤ 63) ∧ (∀ p ∈ l, last < p) ∧ l.Pairwise (· < ·) ∧ (l ≠ [] → last + l.length ≤ 63)
  | [], _, _ => ⟨by simp, by simp, List.Pairwise.nil, fun h => absurd rfl h⟩
  | p :: l, last, h => by
    unfold peopleB at h
    simp only [Bool.and_eq_true, decide_eq_true_eq] at h
    obtain ⟨h1, h2, h3⟩ := h
    obtain ⟨i1, i2, i3, i4⟩ := peopleB_all h3
    have h4 := inB_iff.1 h1
    refine ⟨fun q hq => ?_, fun q hq => ?_, List.pairwise_cons.2 ⟨i2, i3⟩, fun _ => ?_⟩
    · rcases List.mem_cons.1 hq with rfl | hq
      · exact h4
      · exact i1 q hq
    · rcases List.mem_cons.1 hq with rfl | hq
      · exact h2
      · have := i2 q hq; omega
    · by_cases hl : l = []
      · subst hl; simp; omega
      · have := i4 hl; rw [List.length_cons]; omega
theorem peopleB_len {l : List Int} (h : peopleB (-1) l = true) : l.length ≤ 64 := by
  by_cases hl : l = []
  · subst hl; simp
  · have := (peopleB_all h).2.2.2 hl; omega
/-- The error of a question. -/
def questE (rows : List (List Int)) (owners who : List Int) : Int := if progE rows owners ≠ 0 then progE rows owners else if peopleB (-1) who = true then 0 else 1

/-- The three variables of a question. -/
theorem box_quest (w : World) (u v : Value) : ∃ W, W = ((w.alloc (.cells #[u, v] 25)).alloc (.cells #[.slice none 0 0] 22)).alloc (.cells #[.slice none 0 0] 23) ∧ Below w.heap.size w W ∧ W.heap.size = w.heap.size + 3 ∧ W.heap[w.heap.size]? = some (.cells #[u, v] 25 (0, 0)) ∧ W.heap[w.heap.size + 1]? = some (.cells #[.slice none 0 0] 22 (0, 0)) ∧ W.heap[w.heap.size + 1 + 1]? = some (.cells #[.slice none 0 0] 23 (0, 0)) := by
  obtain ⟨A, hA⟩ : ∃ A, A = w.alloc (.cells #[u, v] 25) := ⟨_, rfl⟩
  obtain ⟨B, hB⟩ : ∃ B, B = A.alloc (.cells #[.slice none 0 0] 22) := ⟨_, rfl⟩
  have sA : A.heap.size = w.heap.size + 1 := by rw [hA]; simp
  have sB : B.heap.size = w.heap.size + 1 + 1 := by rw [hB]; simp [sA]
  have a0 : A.heap[w.heap.size]? = some (.cells #[u, v] 25 (0, 0)) := by rw [hA]; exact World.alloc_heap_new _ _
  have b1 : B.heap[w.heap.size + 1]? = some (.cells #[.slice none 0 0] 22 (0, 0)) := by rw [hB, ← sA]; exact World.alloc_heap_new _ _
  have b0 : B.heap[w.heap.size]? = some (.cells #[u, v] 25 (0, 0)) := by rw [hB, Below.heap_alloc _ _ _ (by omega)]; exact a0
  refine ⟨_, rfl, ?_, ?_, ?_, ?_, ?_⟩
  · exact (((Below.refl _ _).alloc (Nat.le_refl _) _).alloc (by simp) _).alloc (by simp; omega) _
  · simp
  · rw [← hA, ← hB, Below.heap_alloc _ _ _ (by omega)]; exact b0
  · rw [← hA, ← hB, Below.heap_alloc _ _ _ (by omega)]; exact b1
  · rw [← hA, ← hB, ← sB]; exact World.alloc_heap_new _ _

set_option maxRecDepth 100000 in
set_option maxHeartbeats 8000000 in
theorem quest_no (rv ov wv : Value) (rows : List (List Int)) (owners who : List Int) (w : World) (hR : Rows2 w rv rows) (hO : Ints w ov owners) (hW : Ints w wv who) (he : questE rows owners who ≠ 0) :
    Calls Try.prog 54 #[.agg #[rv, ov], wv] w fun r w' => r = .returned (.tuple #[.slice none 0 0, .slice none 0 0, .slice none 0 0, .int .i64 (questE rows owners who)]) ∧ Below w.heap.size w w' := by
  obtain ⟨W1, hW1, hb1, hz1, hr0, hr1, hr2⟩ := box_quest w rv ov
  have HR := Lib.hid (hR.below hb1)
  have HO := Lib.hid (hO.below hb1)
  have HWH := Lib.hid (hW.below hb1)
  have HPC := Lib.hid (pCheck_any rv ov rows owners W1 HR.out HO.out)
  obtain ⟨a, cap, rfl, -, hlen, -⟩ := id hR
  obtain ⟨a2, cap2, rfl, -, hlen2, -⟩ := id hO
  obtain ⟨a3, cap3, rfl, -, hlen3, -⟩ := id hW
  have c0 : W1.cell? ⟨w.heap.size, 0, none⟩ = some (.slice a rows.length cap) := row_cell hr0 rfl
  have c1 : W1.cell? ⟨w.heap.size, 1, none⟩ = some (.slice a2 owners.length cap2) := row_cell hr0 rfl
  have HB := Lib.hid hb1
  have HW1 := Lib.hid hW1
  have HL : Hid (∀ (W : World) (e : Int), Below w.heap.size w W → w.heap.size + 3 ≤ W.heap.size → e = questE rows owners who → W.heap[w.heap.size + 1]? = some (.cells #[.slice none 0 0] 22 (0, 0)) → W.heap[w.heap.size + 1 + 1]? = some (.cells #[.slice none 0 0] 23 (0, 0)) → Below w.heap.size w ((W.setCell ⟨w.heap.size + 1, 0, none⟩ (.slice none 0 0)).setCell ⟨w.heap.size + 1 + 1, 0, none⟩ (.slice none 0 0)) ∧ ((W.setCell ⟨w.heap.size + 1, 0, none⟩ (.slice none 0 0)).setCell ⟨w.heap.size + 1 + 1, 0, none⟩ (.slice none 0 0)).cell? ⟨w.heap.size + 1, 0, none⟩ = some (.slice none 0 0) ∧ ((W.setCell ⟨w.heap.size + 1, 0, none⟩ (.slice none 0 0)).setCell ⟨w.heap.size + 1 + 1, 0, none⟩ (.slice none 0 0)).cell? ⟨w.heap.size + 1 + 1, 0, none⟩ = some (.slice none 0 0)) := Lib.hid (by
    intro W e hb hs he h1 h2
    refine ⟨(hb.setCell (by simp) _).setCell (by simp; omega) _, ?_, ?_⟩
    · rw [World.cell?_setCell_far _ _ _ _ (by simp)]; exact World.cell?_setCell_same' _ _ _ (by rw [row_cell (k := 0) h1 rfl]; rfl)
    · refine World.cell?_setCell_same' _ _ _ ?_
      rw [World.cell?_setCell_far _ _ _ _ (by simp), row_cell (k := 0) h2 rfl]; rfl)
  clear hR hO hW hr0 hW1 hb1
  by_cases hp : progE rows owners = 0
  · have HE := Lib.hid (show questE rows owners who = if peopleB (-1) who = true then 0 else 1 by unfold questE; rw [if_neg (by simp [hp])])
    have HN := Lib.hid (show peopleB (-1) who = false by
      cases e : peopleB (-1) who with
      | false => rfl
      | true => rw [HE.out, e] at he; exact absurd rfl he)
    have HV := Lib.hid (show (1 : Int) = questE rows owners who by rw [HE.out, HN.out]; rfl)
    rw [hp] at HPC
    clear hp he
    refine calls_of_range Try.func54 rfl ?_
    simp only [Try.ntmps54, List.size_toArray, List.length_cons, List.length_nil, Nat.reduceAdd, Nat.reduceSub, Array.replicate_succ, Array.replicate_zero, List.push_toArray, List.append_toArray, List.nil_append, List.cons_append]
    go_wp2_with fail
    rw [← HW1.out]
    refine HPC.out.mono ?_
    rintro r w2 ⟨rfl, hb2⟩
    replace hr1 := (hb2.block _ (by omega)).trans hr1
    replace hr2 := (hb2.block _ (by omega)).trans hr2
    have hz2 := Nat.le_trans (Nat.le_of_eq hz1.symm) hb2.size
    replace c0 := below_cell hb2 c0
    replace c1 := below_cell hb2 c1
    replace HR := Lib.hid (HR.out.below hb2)
    replace HO := Lib.hid (HO.out.below hb2)
    replace HWH := Lib.hid (HWH.out.below hb2)
    replace HB := Lib.hid (HB.out.trans (hb2.mono HB.out.size))
    clear hb2
    clear HPC hz1
    go_wp2_with fail
    go_loopw [8, 10, 21] (fun last _ i W => ∃ k : Nat, k ≤ who.length ∧ i = .int .i64 k ∧ last = .int .i64 (lastP (-1) (who.take k)) ∧ Hid (peopleB (-1) (who.take k) = true) ∧ W = w2) (fun _ _ i _ => who.length - (intOf i).toNat)
    case atStart => exact ⟨0, Nat.zero_le _, rfl, rfl, Lib.hid rfl, rfl⟩
    case round =>
      obtain ⟨k, hkl, rfl, rfl, HS, rfl⟩ := hrel
      by_cases hlt : k < who.length
      · obtain ⟨hr64, b, off, n1, k1, e1, q1⟩ := HWH.out.get hlt
        simp only [Value.slice.injEq] at e1
        obtain ⟨rfl, -, -⟩ := e1
        have HTK := Lib.hid (peopleB_take (last := -1) hlt)
        have HLT := Lib.hid (lastP_take (last := -1) hlt)
        have HBD := Lib.hid (fun h => peopleB_bad (l := who) (last := -1) (k := k) h)
        rw [← nth_at hlt] at HTK HLT
        have i0 : 0 ≤ (k : Int) := by omega
        have i1 : (k : Int) < (who.length : Int) := by omega
        generalize nth who k = x at *
        cases ex : inB x 0 63 with
        | false =>
          have x1 : wr.cell? ⟨w.heap.size + 1, 0, none⟩ = some (.slice none 0 0) := row_cell hr1 rfl
          have x2 : wr.cell? ⟨w.heap.size + 1 + 1, 0, none⟩ = some (.slice none 0 0) := row_cell hr2 rfl
          have f1 := row_free hr1 0
          have f2 := row_free hr2 0
          have HX := Lib.hid ex
          clear ex
          go_wp2_with fail
          with_reducible refine (pperson_any x _).mono ?_
          rintro e w3 ⟨rfl, rfl⟩
          rw [HX.out]
          go_wp2_with fail
          have hO := HL.out wr _ HB.out hz2 HV.out hr1 hr2
          refine leaves_marks3 (B := w.heap.size) (v := .tuple #[.slice none 0 0, .slice none 0 0, .slice none 0 0, .int .i64 1]) (fun W => W.cell? ⟨w.heap.size + 1, 0, none⟩ = some (.slice none 0 0) ∧ W.cell? ⟨w.heap.size + 1 + 1, 0, none⟩ = some (.slice none 0 0)) ?_ ?_ ?_ _ _ trivial hO.2 ⟨by rw [← HV.out], hO.1⟩
          · rintro W1 ⟨h1, h2⟩
            simp [results, Try.results54, go_sem, h1, h2]
          · exact fun W1 W2 h hs => ⟨sim_cell hs h.1, sim_cell hs h.2⟩
          · rintro W1 W2 ⟨h1, h2⟩ hs
            exact ⟨h1, h2.trans (sim_below hs)⟩
        | true =>
          have HER := Lib.hid ex
          clear ex
          obtain ⟨la, hla⟩ : ∃ la, la = lastP (-1) (who.take k) := ⟨_, rfl⟩
          rw [← hla] at HTK
          have HLA := Lib.hid hla.symm
          by_cases hlast : la < x
          · have hd : decide (x ≤ la) = false := decide_eq_false (by omega)
            have HNX : Hid (peopleB (-1) (who.take (k + 1)) = true) := Lib.hid (by rw [HTK.out, HS.out, HER.out, decide_eq_true hlast]; rfl)
            have hlast2 : lastP (-1) (who.take k) < x := by rw [← hla]; exact hlast
            clear hla
            go_wp2_with fail
            with_reducible refine (pperson_any x _).mono ?_
            rintro e w3 ⟨rfl, rfl⟩
            rw [HER.out]
            go_wp2_with fail
            go_roundw
            case rel => exact ⟨k + 1, by omega, by go_num, by rw [HLT.out], HNX, by trivial⟩
            case measure => simp [intOf]; omega
          · have hlast2 : x ≤ lastP (-1) (who.take k) := by rw [← hla]; omega
            clear hla
            have x1 : wr.cell? ⟨w.heap.size + 1, 0, none⟩ = some (.slice none 0 0) := row_cell hr1 rfl
            have x2 : wr.cell? ⟨w.heap.size + 1 + 1, 0, none⟩ = some (.slice none 0 0) := row_cell hr2 rfl
            have f1 := row_free hr1 0
            have f2 := row_free hr2 0
            go_wp2_with fail
            with_reducible refine (pperson_any x _).mono ?_
            rintro e w3 ⟨rfl, rfl⟩
            rw [HER.out]
            go_wp2_with fail
            have hO := HL.out wr _ HB.out hz2 HV.out hr1 hr2
            refine leaves_marks3 (B := w.heap.size) (v := .tuple #[.slice none 0 0, .slice none 0 0, .slice none 0 0, .int .i64 1]) (fun W => W.cell? ⟨w.heap.size + 1, 0, none⟩ = some (.slice none 0 0) ∧ W.cell? ⟨w.heap.size + 1 + 1, 0, none⟩ = some (.slice none 0 0)) ?_ ?_ ?_ _ _ trivial hO.2 ⟨by rw [← HV.out], hO.1⟩
            · rintro W1 ⟨h1, h2⟩
              simp [results, Try.results54, go_sem, h1, h2]
            · exact fun W1 W2 h hs => ⟨sim_cell hs h.1, sim_cell hs h.2⟩
            · rintro W1 W2 ⟨h1, h2⟩ hs
              exact ⟨h1, h2.trans (sim_below hs)⟩
      · exfalso
        obtain rfl : k = who.length := by omega
        have h1 := HS.out
        rw [List.take_length, HN.out] at h1
        cases h1
  · have HV := Lib.hid (show progE rows owners = questE rows owners who by unfold questE; rw [if_pos hp])
    have h2 : (progE rows owners != 0) = true := bne_iff_ne.2 hp
    clear he
    refine calls_of_range Try.func54 rfl ?_
    simp only [Try.ntmps54, List.size_toArray, List.length_cons, List.length_nil, Nat.reduceAdd, Nat.reduceSub, Array.replicate_succ, Array.replicate_zero, List.push_toArray, List.append_toArray, List.nil_append, List.cons_append]
    go_wp2_with fail
    rw [← HW1.out]
    refine HPC.out.mono ?_
    rintro r wr ⟨rfl, hb2⟩
    replace hr1 := (hb2.block _ (by omega)).trans hr1
    replace hr2 := (hb2.block _ (by omega)).trans hr2
    have hz2 := Nat.le_trans (Nat.le_of_eq hz1.symm) hb2.size
    replace c0 := below_cell hb2 c0
    replace c1 := below_cell hb2 c1
    replace HR := Lib.hid (HR.out.below hb2)
    replace HO := Lib.hid (HO.out.below hb2)
    replace HWH := Lib.hid (HWH.out.below hb2)
    replace HB := Lib.hid (HB.out.trans (hb2.mono HB.out.size))
    clear hb2
    clear HPC hz1
    have x1 : wr.cell? ⟨w.heap.size + 1, 0, none⟩ = some (.slice none 0 0) := row_cell hr1 rfl
    have x2 : wr.cell? ⟨w.heap.size + 1 + 1, 0, none⟩ = some (.slice none 0 0) := row_cell hr2 rfl
    have f1 := row_free hr1 0
    have f2 := row_free hr2 0
    go_wp2_with fail
    have hO := HL.out wr _ HB.out hz2 HV.out hr1 hr2
    refine leaves_marks3 (B := w.heap.size) (v := .tuple #[.slice none 0 0, .slice none 0 0, .slice none 0 0, .int .i64 (progE rows owners)]) (fun W => W.cell? ⟨w.heap.size + 1, 0, none⟩ = some (.slice none 0 0) ∧ W.cell? ⟨w.heap.size + 1 + 1, 0, none⟩ = some (.slice none 0 0)) ?_ ?_ ?_ _ _ trivial hO.2 ⟨by rw [← HV.out], hO.1⟩
    · rintro W1 ⟨h1, h2⟩
      simp [results, Try.results54, go_sem, h1, h2]
    · exact fun W1 W2 h hs => ⟨sim_cell hs h.1, sim_cell hs h.2⟩
    · rintro W1 W2 ⟨h1, h2⟩ hs
      exact ⟨h1, h2.trans (sim_below hs)⟩

end Go.Proofs.Ytjjoadmkpbmhpaa
