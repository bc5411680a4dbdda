/- The laws of package program: ProgramMore. What Accepts and Refuses find, in plain Lean. -/
import Derived.Test.YtohebkpgjaaljaaMPmD
import Derived.Test.YtohebkpgjaaljaaMPmE
import Derived.Test.YtohebkpgjaaljaaMSuA
namespace Go.Proofs.Ytohebkpgjaaljaa
open Go.RowKit FP

theorem ker_mem {rows : List (List Int)} {m : Nat} {v : Nat → Fq} : Ker rows.length m (fm rows) v ↔ ∀ r ∈ rows, dt m (cv r) v = 0 := by
  constructor
  · intro h r hr
    obtain ⟨i, hi, rfl⟩ := List.mem_iff_getElem.1 hr
    have := h i hi
    unfold dt at this ⊢
    rw [← this]
    exact sm_congr fun j _ => by rw [fm_row rows hi]
  · intro h i hi
    have := h _ (List.getElem_mem hi)
    unfold dt at this ⊢
    rw [← this]
    exact sm_congr fun j _ => by rw [fm_row rows hi]
theorem ownL_mem {owners who : List Int} {n i : Nat} : i ∈ ownL owners who n ↔ i < n ∧ nth owners i ∈ who := by
  unfold ownL
  simp
/-- More people make no less. -/
theorem acc_mono {rows : List (List Int)} {owners who more : List Int} (h : ∀ n ∈ who, n ∈ more) (hq : questE rows owners more = 0) (hok : accOk rows owners who = true) : accOk rows owners more = true := by
  have hP := progE_ok (questE_ok hq).1
  unfold accOk at hok ⊢
  rw [Bool.and_eq_true] at hok ⊢
  refine ⟨decide_eq_true hq, (comb_span (pownR_right hP) (tgt_num _)).2 ((made_ker (pownR_right hP)).2 fun v hv => ?_)⟩
  refine (made_ker (pownR_right hP)).1 ((comb_span (pownR_right hP) (tgt_num _)).1 hok.2) v (ker_mem.2 fun r hr => ker_mem.1 hv r ?_)
  obtain ⟨i, hi, rfl⟩ := List.mem_map.1 hr
  obtain ⟨h1, h2⟩ := ownL_mem.1 hi
  exact List.mem_map.2 ⟨i, ownL_mem.2 ⟨h1, h _ h2⟩, rfl⟩

theorem acc_off {rows : List (List Int)} {owners who : List Int} (h : questE rows owners who ≠ 0) : accOk rows owners who = false := by
  unfold accOk
  rw [decide_eq_false h]; rfl
def stepW (other : Int) (st : List Int × Bool) (n : Int) : List Int × Bool := if st.2 = false ∧ other ≤ n then ((if other < n then st.1 ++ [other] else st.1) ++ [n], true) else (st.1 ++ [n], st.2)
def morS (other : Int) (who : List Int) : List Int × Bool := who.foldl (stepW other) ([], false)
def morQ (other : Int) (who : List Int) : List Int := if (morS other who).2 = true then (morS other who).1 else (morS other who).1 ++ [other]
theorem morS_next {other : Int} {who : List Int} {k : Nat} (h : k < who.length) : morS other (who.take (k + 1)) = stepW other (morS other (who.take k)) (nth who k) := by
  rw [List.take_succ_eq_append_getElem h, nth_at h]
  unfold morS
  rw [List.foldl_append]; rfl
theorem stepW_mem {other : Int} {st : List Int × Bool} {n z : Int} : (z ∈ st.1 ∨ z = n) → z ∈ (stepW other st n).1 := by
  intro h
  unfold stepW
  split
  · split
    · simp only [List.mem_append, List.mem_singleton]
      rcases h with h | h
      · exact .inl (.inl h)
      · exact .inr h
    · simpa using h
  · simpa using h
theorem stepW_len {other : Int} {st : List Int × Bool} {n : Int} : (stepW other st n).1.length ≤ st.1.length + 2 := by
  unfold stepW
  split
  · split <;> simp
  · simp
theorem morS_mem (other : Int) : ∀ (who : List Int) (st : List Int × Bool), (∀ z, z ∈ st.1 ∨ z ∈ who → z ∈ (who.foldl (stepW other) st).1) ∧ (who.foldl (stepW other) st).1.length ≤ st.1.length + 2 * who.length
  | [], st => ⟨fun z h => by simpa using h, by simp⟩
  | n :: t, st => by
    obtain ⟨h1, h2⟩ := morS_mem other t (stepW other st n)
    have h3 := stepW_len (other := other) (st := st) (n := n)
    rw [List.foldl_cons]
    refine ⟨fun z hz => h1 z ?_, by rw [List.length_cons]; omega⟩
    rcases hz with hz | hz
    · exact .inl (stepW_mem (.inl hz))
    · rcases List.mem_cons.1 hz with rfl | hz
      · exact .inl (stepW_mem (.inr rfl))
      · exact .inr hz
theorem morS_len (other : Int) (who : List Int) (k : Nat) : (morS other (who.take k)).1.length ≤ 2 * who.length := by
  have h := (morS_mem other (who.take k) ([], false)).2
  have : (who.take k).length ≤ who.length := by simp; omega
  unfold morS
  simp only [List.length_nil, Nat.zero_add] at h
  omega
theorem morQ_mem {other : Int} {who : List Int} {z : Int} (h : z ∈ who) : z ∈ morQ other who := by
  have h1 := (morS_mem other who ([], false)).1 z (.inr h)
  unfold morQ morS
  split
  · exact h1
  · exact List.mem_append.2 (.inl h1)
theorem morS_r64 {other : Int} (ho : R64 other) : ∀ (who : List Int) (st : List Int × Bool), (∀ z ∈ who, R64 z) → (∀ z ∈ st.1, R64 z) → ∀ z ∈ (who.foldl (stepW other) st).1, R64 z
  | [], _, _, h2, z, hz => h2 z hz
  | n :: t, st, h1, h2, z, hz => by
    rw [List.foldl_cons] at hz
    refine morS_r64 ho t (stepW other st n) (fun z hz => h1 z (by simp [hz])) (fun z hz => ?_) z hz
    unfold stepW at hz
    split at hz
    · split at hz
      · simp only [List.mem_append, List.mem_singleton] at hz
        rcases hz with (hz | rfl) | rfl
        · exact h2 z hz
        · exact ho
        · exact h1 z (by simp)
      · simp only [List.mem_append, List.mem_singleton] at hz
        rcases hz with hz | rfl
        · exact h2 z hz
        · exact h1 z (by simp)
    · simp only [List.mem_append, List.mem_singleton] at hz
      rcases hz with hz | rfl
      · exact h2 z hz
      · exact h1 z (by simp)
theorem morQ_r64 {other : Int} {who : List Int} (ho : R64 other) (hw : ∀ z ∈ who, R64 z) : ∀ z ∈ morQ other who, R64 z := by
  intro z hz
  unfold morQ at hz
  split at hz
  · exact morS_r64 ho who ([], false) hw (by simp) z hz
  · rcases List.mem_append.1 hz with hz | hz
    · exact morS_r64 ho who ([], false) hw (by simp) z hz
    · rw [List.mem_singleton.1 hz]; exact ho

set_option maxRecDepth 100000 in
/-- A literal appended to a row of integers. -/
theorem app_lit {ops : Array Oper} {rest : List Oper} {o : Oper} {a : Act} {Q : Exit → Act → World → Prop} {w0 w : World} (hgd : o.guard = none) (s x : Operand) (ho : o.op = .call { callee := .builtin .append, args := #[s, x], argTypes := #[23, 23] })
    (base : Nat) (v : Value) (xs : List Int) (hs : a.eval s = v) (hown : w.ownsRow base 3 1 v xs.length (xs.map (Value.int .i64))) (hlow : Below base w0 w) (c : Nat) (z : Int) (hx : a.eval x = .slice (some ⟨w.heap.size, 0, none⟩) 1 c) (hn : xs.length ≤ 1000000) (hbase : base ≤ w.heap.size)
    (h : ∀ v' w', w'.ownsRow base 3 1 v' (xs ++ [z]).length ((xs ++ [z]).map (Value.int .i64)) → Below base w0 w' → base ≤ w'.heap.size → wpList Try.prog ops Q rest (a.put o.dst v') w') : wpList Try.prog ops Q (o :: rest) a (w.alloc (.cells #[.int .i64 z] 3)) := by
  have hb := below_new w #[.int .i64 z] 3
  have hown2 := own_keep hown hb
  have hb2 : base ≤ (w.alloc (.cells #[.int .i64 z] 3)).heap.size := Nat.le_trans hbase hb.size
  refine app_int hgd s x ho base xs.length v _ hs hown2 w.heap.size c z hx (row_cell (World.alloc_heap_new _ _) rfl) hn hb2 fun v' w' h1 h2 => ?_
  have h3 := own_below hown2 h2 hb2
  exact h v' w' (by rw [List.length_append, List.map_append]; exact h1) ((hlow.trans (hb.mono hbase)).trans h3) (Nat.le_trans hb2 h3.size)

set_option maxRecDepth 100000 in
set_option maxHeartbeats 16000000 in
theorem programMore_any (rv ov wv : Value) (rows : List (List Int)) (owners who : List Int) (other : Int) (w : World) (hR : Rows2 w rv rows) (hO : Ints w ov owners) (hW : Ints w wv who) (hother : R64 other) :
    Calls Try.prog 6 #[.agg #[rv, ov], wv, .int .i64 other] w fun e w' => e = .returned (.bool true) ∧ Below w.heap.size w w' := by
  obtain ⟨W1, hW1, hb1, hr1, hz⟩ := box_prog w rv ov 25
  have HR := Lib.hid (hR.below hb1)
  have HO := Lib.hid (hO.below hb1)
  have HW := Lib.hid (hW.below hb1)
  obtain ⟨a1, k1, rfl, -, hl1, -⟩ := id hR
  obtain ⟨a2, k2, rfl, -, hl2, -⟩ := id hO
  obtain ⟨a3, k3, rfl, -, hl3, hw64, -⟩ := id hW
  have c0 : W1.cell? ⟨w.heap.size, 0, none⟩ = some (.slice a1 rows.length k1) := row_cell hr1 rfl
  have c1 : W1.cell? ⟨w.heap.size, 1, none⟩ = some (.slice a2 owners.length k2) := row_cell hr1 rfl
  have HW1 := Lib.hid hW1
  have HB := Lib.hid hb1
  have HM64 := Lib.hid (morQ_r64 hother hw64)
  clear hR hO hW hr1 hW1 hb1 hz hw64
  go_enter Try.func6, Try.ntmps6
  go_wp2_with (rw [← HW1.out])
  refine (sane23_any _).mono ?_
  rintro e w2 ⟨rfl, hb2⟩
  replace c0 := below_cell hb2 c0
  replace c1 := below_cell hb2 c1
  replace HR := Lib.hid (HR.out.below hb2)
  replace HO := Lib.hid (HO.out.below hb2)
  replace HW := Lib.hid (HW.out.below hb2)
  replace HB := Lib.hid (HB.out.trans (hb2.mono HB.out.size))
  clear hb2
  go_wp2_with fail
  refine (rFew23_any _ _ rows owners _ HR.out HO.out).mono ?_
  rintro e w3 ⟨bf, rfl, hb3⟩
  replace c0 := below_cell hb3 c0
  replace c1 := below_cell hb3 c1
  replace HR := Lib.hid (HR.out.below hb3)
  replace HO := Lib.hid (HO.out.below hb3)
  replace HW := Lib.hid (HW.out.below hb3)
  replace HB := Lib.hid (HB.out.trans (hb3.mono HB.out.size))
  clear hb3
  cases bf with
  | false =>
    go_wp2_with fail
    go_ret
    exact ⟨rfl, HB.out⟩
  | true =>
    by_cases h80 : 80 < who.length
    · have d0 : decide (80 < (who.length : Int)) = true := decide_eq_true (by omega)
      go_wp2_with fail
      go_ret
      exact ⟨rfl, HB.out⟩
    · have d0 : decide (80 < (who.length : Int)) = false := decide_eq_false (by omega)
      have h00 : w3.ownsRow w3.heap.size 3 1 (.slice none 0 0) (morS other (who.take 0)).1.length ((morS other (who.take 0)).1.map (Value.int .i64)) := World.ownsRow_nil _ _ _ _
      go_wp2_with fail
      go_loopw [7, 8, 10, 29] (fun L p _ i W => ∃ k : Nat, k ≤ who.length ∧ i = .int .i64 k ∧ p = .bool (morS other (who.take k)).2 ∧ W.ownsRow w3.heap.size 3 1 L (morS other (who.take k)).1.length ((morS other (who.take k)).1.map (Value.int .i64)) ∧ Below w3.heap.size w3 W) (fun _ _ _ i _ => who.length - (intOf i).toNat)
      case atStart => exact ⟨0, Nat.zero_le _, rfl, rfl, h00, Below.refl _ _⟩
      case round =>
        clear h00
        obtain ⟨k, hkl, rfl, rfl, hown, hb⟩ := hrel
        have HBW := Lib.hid hb
        have HBS := Lib.hid hb.size
        have HOW := Lib.hid hown
        have hml := morS_len other who k
        have HML := Lib.hid (show (morS other (who.take k)).1.length ≤ 1000 by omega)
        clear hown hml
        by_cases hlt : k < who.length
        · obtain ⟨-, b3, o3, n3, k3', e3, q3⟩ := HW.out.get hlt
          simp only [Value.slice.injEq] at e3
          obtain ⟨rfl, -, -⟩ := e3
          have HNX := Lib.hid (morS_next (other := other) hlt)
          have y3 := below_cell hb q3
          have j0 : (0 : Int) ≤ (k : Int) := by omega
          have j1 : (k : Int) < (who.length : Int) := by omega
          clear q3 hb
          obtain ⟨z, hz⟩ : ∃ z, z = nth who k := ⟨_, rfl⟩
          rw [← hz] at y3 HNX
          obtain ⟨st, hst⟩ : ∃ st, st = morS other (who.take k) := ⟨_, rfl⟩
          rw [← hst] at HNX HOW HML ⊢
          clear hz hst
          obtain ⟨M, p⟩ := st
          dsimp only at HOW HML ⊢
          cases p with
          | true =>
            have HT : Hid (morS other (who.take (k + 1)) = (M ++ [z], true)) := Lib.hid (by rw [HNX.out]; unfold stepW; rw [if_neg (by simp)])
            go_wp2_with (refine app_lit rfl _ _ rfl w3.heap.size _ M rfl HOW.out HBW.out 1 z rfl (by have := HML.out; omega) HBS.out ?_; intro v9 w9 h9 b9 _; have H9 := Lib.hid h9; have B9 := Lib.hid b9; clear h9 b9)
            go_roundw
            case rel => exact ⟨k + 1, by omega, by go_num, by rw [HT.out], by rw [HT.out]; exact H9.out, B9.out⟩
            case measure => simp [intOf]; omega
          | false =>
            by_cases hge : other ≤ z
            · have e1 : decide (other ≤ z) = true := decide_eq_true hge
              by_cases hgt : other < z
              · have e2 : decide (other < z) = true := decide_eq_true hgt
                have HT : Hid (morS other (who.take (k + 1)) = (M ++ [other] ++ [z], true)) := Lib.hid (by rw [HNX.out]; unfold stepW; rw [if_pos ⟨rfl, hge⟩, if_pos hgt])
                clear hge hgt
                go_wp2_with (first
                  | (refine app_lit rfl _ _ rfl w3.heap.size _ M rfl HOW.out HBW.out 1 other rfl (by have := HML.out; omega) HBS.out ?_; intro v8 w8 h8 b8 s8; have H8 := Lib.hid h8; have B8 := Lib.hid b8; have S8 := Lib.hid s8; clear h8 b8 s8)
                  | (refine app_lit rfl _ _ rfl w3.heap.size _ (M ++ [other]) rfl H8.out B8.out 1 z rfl (by have := HML.out; simp; omega) S8.out ?_; intro v9 w9 h9 b9 _; have H9 := Lib.hid h9; have B9 := Lib.hid b9; clear h9 b9))
                go_roundw
                case rel => exact ⟨k + 1, by omega, by go_num, by rw [HT.out], by rw [HT.out]; exact H9.out, B9.out⟩
                case measure => simp [intOf]; omega
              · have e2 : decide (other < z) = false := decide_eq_false hgt
                have HT : Hid (morS other (who.take (k + 1)) = (M ++ [z], true)) := Lib.hid (by rw [HNX.out]; unfold stepW; rw [if_pos ⟨rfl, hge⟩, if_neg hgt])
                clear hge hgt
                go_wp2_with (refine app_lit rfl _ _ rfl w3.heap.size _ M rfl HOW.out HBW.out 1 z rfl (by have := HML.out; omega) HBS.out ?_; intro v9 w9 h9 b9 _; have H9 := Lib.hid h9; have B9 := Lib.hid b9; clear h9 b9)
                go_roundw
                case rel => exact ⟨k + 1, by omega, by go_num, by rw [HT.out], by rw [HT.out]; exact H9.out, B9.out⟩
                case measure => simp [intOf]; omega
            · have e1 : decide (other ≤ z) = false := decide_eq_false hge
              have HT : Hid (morS other (who.take (k + 1)) = (M ++ [z], false)) := Lib.hid (by rw [HNX.out]; unfold stepW; rw [if_neg (by simp [hge])])
              clear hge
              go_wp2_with (refine app_lit rfl _ _ rfl w3.heap.size _ M rfl HOW.out HBW.out 1 z rfl (by have := HML.out; omega) HBS.out ?_; intro v9 w9 h9 b9 _; have H9 := Lib.hid h9; have B9 := Lib.hid b9; clear h9 b9)
              go_roundw
              case rel => exact ⟨k + 1, by omega, by go_num, by rw [HT.out], by rw [HT.out]; exact H9.out, B9.out⟩
              case measure => simp [intOf]; omega
        · have hk2 : k = who.length := by omega
          have hdk : decide (k < who.length) = false := decide_eq_false hlt
          have hw : who.take k = who := List.take_of_length_le (by omega)
          rw [hw] at HOW HML ⊢
          obtain ⟨st, hst⟩ : ∃ st, st = morS other who := ⟨_, rfl⟩
          rw [← hst] at HOW HML ⊢
          have HMQ : Hid (morQ other who = if st.2 = true then st.1 else st.1 ++ [other]) := Lib.hid (by rw [hst]; rfl)
          clear hst hw hk2 hlt
          obtain ⟨M, p⟩ := st
          dsimp only at HOW HML ⊢
          cases p with
          | true =>
            have HQ := Lib.hid (Ints.own (zs := morQ other who) (by rw [HMQ.out]; exact HOW.out) HM64.out (by rw [HMQ.out]; have := HML.out; simp; omega))
            replace c0 := below_cell hb c0
            replace c1 := below_cell hb c1
            replace HR := Lib.hid (HR.out.below hb)
            replace HO := Lib.hid (HO.out.below hb)
            replace HW := Lib.hid (HW.out.below hb)
            replace HB := Lib.hid (HB.out.trans (hb.mono HB.out.size))
            clear hb
            go_wp2_with fail
            refine (accepts_any _ _ _ rows owners who _ HR.out HO.out HW.out).mono ?_
            rintro e w5 ⟨y1, rfl, -, hb5⟩
            replace c0 := below_cell hb5 c0
            replace c1 := below_cell hb5 c1
            replace HR := Lib.hid (HR.out.below hb5)
            replace HO := Lib.hid (HO.out.below hb5)
            replace HW := Lib.hid (HW.out.below hb5)
            replace HQ := Lib.hid (HQ.out.below hb5)
            replace HB := Lib.hid (HB.out.trans (hb5.mono HB.out.size))
            clear hb5
            go_wp2_with fail
            refine (accepts_any _ _ _ rows owners (morQ other who) _ HR.out HO.out HQ.out).mono ?_
            rintro e w6 ⟨y2, rfl, -, hb6⟩
            replace c0 := below_cell hb6 c0
            replace c1 := below_cell hb6 c1
            replace HR := Lib.hid (HR.out.below hb6)
            replace HO := Lib.hid (HO.out.below hb6)
            replace HW := Lib.hid (HW.out.below hb6)
            replace HQ := Lib.hid (HQ.out.below hb6)
            replace HB := Lib.hid (HB.out.trans (hb6.mono HB.out.size))
            clear hb6
            have HMO := Lib.hid (fun h1 h2 => acc_mono (rows := rows) (owners := owners) (who := who) (more := morQ other who) (fun n hn => morQ_mem hn) h1 h2)
            have HA1 := Lib.hid (acc_off (rows := rows) (owners := owners) (who := who))
            have HA2 := Lib.hid (acc_off (rows := rows) (owners := owners) (who := morQ other who))
            obtain ⟨q1, hq1⟩ : ∃ q, q = questE rows owners who := ⟨_, rfl⟩
            obtain ⟨q2, hq2⟩ : ∃ q, q = questE rows owners (morQ other who) := ⟨_, rfl⟩
            obtain ⟨o1, ho1⟩ : ∃ o, o = accOk rows owners who := ⟨_, rfl⟩
            obtain ⟨o2, ho2⟩ : ∃ o, o = accOk rows owners (morQ other who) := ⟨_, rfl⟩
            rw [← hq1, ← ho1] at HA1
            rw [← hq2, ← ho2] at HA2
            rw [← hq2, ← ho1, ← ho2] at HMO
            rw [← hq1, ← ho1, ← hq2, ← ho2]
            clear hq1 hq2 ho1 ho2
            by_cases hq1 : q1 = 0
            · subst hq1
              by_cases hq2 : q2 = 0
              · subst hq2
                cases o1 with
                | false =>
                  go_wp2_with fail
                  go_ret
                  exact ⟨rfl, HB.out⟩
                | true =>
                  obtain rfl := HMO.out rfl rfl
                  go_wp2_with fail
                  go_ret
                  exact ⟨rfl, HB.out⟩
              · obtain rfl := HA2.out hq2
                have g2 : (q2 != 0) = true := bne_iff_ne.2 hq2
                have g3 : (q2 == 0) = false := beq_eq_false_iff_ne.2 hq2
                clear hq2
                cases o1 <;> (go_wp2_with fail; go_ret; exact ⟨rfl, HB.out⟩)
            · obtain rfl := HA1.out hq1
              have g2 : (q1 != 0) = true := bne_iff_ne.2 hq1
              have g3 : (q1 == 0) = false := beq_eq_false_iff_ne.2 hq1
              clear hq1
              by_cases hq2 : q2 = 0
              · subst hq2
                cases o2 <;> (go_wp2_with fail; go_ret; exact ⟨rfl, HB.out⟩)
              · obtain rfl := HA2.out hq2
                have g4 : (q2 != 0) = true := bne_iff_ne.2 hq2
                have g5 : (q2 == 0) = false := beq_eq_false_iff_ne.2 hq2
                clear hq2
                go_wp2_with fail
                go_ret
                exact ⟨rfl, HB.out⟩
          | false =>
            go_wp2_with (refine app_lit rfl _ _ rfl w3.heap.size _ M rfl HOW.out HBW.out 1 other rfl (by have := HML.out; omega) HBS.out ?_; intro v9 w9 h9 b9 _; have HQ := Lib.hid (Ints.own (zs := morQ other who) (by rw [HMQ.out]; exact h9) HM64.out (by rw [HMQ.out]; have := HML.out; simp; omega)); clear h9; replace c0 := below_cell b9 c0; replace c1 := below_cell b9 c1; replace HR := Lib.hid (HR.out.below b9); replace HO := Lib.hid (HO.out.below b9); replace HW := Lib.hid (HW.out.below b9); replace HB := Lib.hid (HB.out.trans (b9.mono HB.out.size)); clear b9)
            refine (accepts_any _ _ _ rows owners who _ HR.out HO.out HW.out).mono ?_
            rintro e w5 ⟨y1, rfl, -, hb5⟩
            replace c0 := below_cell hb5 c0
            replace c1 := below_cell hb5 c1
            replace HR := Lib.hid (HR.out.below hb5)
            replace HO := Lib.hid (HO.out.below hb5)
            replace HW := Lib.hid (HW.out.below hb5)
            replace HQ := Lib.hid (HQ.out.below hb5)
            replace HB := Lib.hid (HB.out.trans (hb5.mono HB.out.size))
            clear hb5
            go_wp2_with fail
            refine (accepts_any _ _ _ rows owners (morQ other who) _ HR.out HO.out HQ.out).mono ?_
            rintro e w6 ⟨y2, rfl, -, hb6⟩
            replace c0 := below_cell hb6 c0
            replace c1 := below_cell hb6 c1
            replace HR := Lib.hid (HR.out.below hb6)
            replace HO := Lib.hid (HO.out.below hb6)
            replace HW := Lib.hid (HW.out.below hb6)
            replace HQ := Lib.hid (HQ.out.below hb6)
            replace HB := Lib.hid (HB.out.trans (hb6.mono HB.out.size))
            clear hb6
            have HMO := Lib.hid (fun h1 h2 => acc_mono (rows := rows) (owners := owners) (who := who) (more := morQ other who) (fun n hn => morQ_mem hn) h1 h2)
            have HA1 := Lib.hid (acc_off (rows := rows) (owners := owners) (who := who))
            have HA2 := Lib.hid (acc_off (rows := rows) (owners := owners) (who := morQ other who))
            obtain ⟨q1, hq1⟩ : ∃ q, q = questE rows owners who := ⟨_, rfl⟩
            obtain ⟨q2, hq2⟩ : ∃ q, q = questE rows owners (morQ other who) := ⟨_, rfl⟩
            obtain ⟨o1, ho1⟩ : ∃ o, o = accOk rows owners who := ⟨_, rfl⟩
            obtain ⟨o2, ho2⟩ : ∃ o, o = accOk rows owners (morQ other who) := ⟨_, rfl⟩
            rw [← hq1, ← ho1] at HA1
            rw [← hq2, ← ho2] at HA2
            rw [← hq2, ← ho1, ← ho2] at HMO
            rw [← hq1, ← ho1, ← hq2, ← ho2]
            clear hq1 hq2 ho1 ho2
            by_cases hq1 : q1 = 0
            · subst hq1
              by_cases hq2 : q2 = 0
              · subst hq2
                cases o1 with
                | false =>
                  go_wp2_with fail
                  go_ret
                  exact ⟨rfl, HB.out⟩
                | true =>
                  obtain rfl := HMO.out rfl rfl
                  go_wp2_with fail
                  go_ret
                  exact ⟨rfl, HB.out⟩
              · obtain rfl := HA2.out hq2
                have g2 : (q2 != 0) = true := bne_iff_ne.2 hq2
                have g3 : (q2 == 0) = false := beq_eq_false_iff_ne.2 hq2
                clear hq2
                cases o1 <;> (go_wp2_with fail; go_ret; exact ⟨rfl, HB.out⟩)
            · obtain rfl := HA1.out hq1
              have g2 : (q1 != 0) = true := bne_iff_ne.2 hq1
              have g3 : (q1 == 0) = false := beq_eq_false_iff_ne.2 hq1
              clear hq1
              by_cases hq2 : q2 = 0
              · subst hq2
                cases o2 <;> (go_wp2_with fail; go_ret; exact ⟨rfl, HB.out⟩)
              · obtain rfl := HA2.out hq2
                have g4 : (q2 != 0) = true := bne_iff_ne.2 hq2
                have g5 : (q2 == 0) = false := beq_eq_false_iff_ne.2 hq2
                clear hq2
                go_wp2_with fail
                go_ret
                exact ⟨rfl, HB.out⟩

end Go.Proofs.Ytohebkpgjaaljaa

namespace Go.Proofs.Ytohebkpgjaaljaa
open Go.RowKit FP

theorem putF_out {at_ : List Nat} {l : List Int} {i : Nat} : ∀ K, (∀ j, j < K → at_.getD j 0 ≠ i) → putF at_ l K i = 0
  | 0, _ => rfl
  | K + 1, h => by
    unfold putF
    rw [if_neg (fun e => h K (Nat.lt_succ_self _) e.symm)]
    exact putF_out K fun j hj => h j (Nat.lt_succ_of_lt hj)
theorem put_sum {n : Nat} {l : List Int} {at_ : List Nat} (hs : at_.Pairwise (· < ·)) (hl : ∀ a ∈ at_, a < n) (f : Nat → Fq) : ∀ K, K ≤ at_.length → sm n (fun i => cq (putF at_ l K i) * f i) = sm K (fun j => cv l j * f (at_.getD j 0))
  | 0, _ => by
    rw [sm_zero fun i _ => ?_]
    · rfl
    · show cq 0 * f i = 0
      rw [cq_0]; grind
  | K + 1, hK => by
    have hlt : K < at_.length := hK
    have ha := getD_at hlt 0
    have han : at_.getD K 0 < n := by rw [ha]; exact hl _ (List.getElem_mem hlt)
    have hout : putF at_ l K (at_.getD K 0) = 0 := putF_out K fun j hj => by
      rw [ha, getD_at (show j < at_.length by omega)]
      have := List.pairwise_iff_getElem.1 hs j K (by omega) hlt hj
      omega
    have e : ∀ i, i < n → cq (putF at_ l (K + 1) i) * f i = cq (putF at_ l K i) * f i + (if i = at_.getD K 0 then cv l K * f (at_.getD K 0) else 0) := fun i _ => by
      show cq (if i = at_.getD K 0 then nth l K else putF at_ l K i) * f i = _
      by_cases h : i = at_.getD K 0
      · rw [if_pos h, if_pos h, h, hout, cq_0]
        unfold cv; grind
      · rw [if_neg h, if_neg h]; grind
    rw [sm_congr e, sm_add, put_sum hs hl f K (by omega), sm_one han (fun i _ h => if_neg h), if_pos rfl]
    rfl
theorem ownL_sorted (owners who : List Int) (n : Nat) : (ownL owners who n).Pairwise (· < ·) := by
  unfold ownL
  exact List.pairwise_lt_range.sublist List.filter_sublist

/-- A sum of rows, at one column. -/
def sumK (y : List Int) (rows : List (List Int)) (k : Nat) : Nat → Int
  | 0 => 0
  | i + 1 => (sumK y rows k i + nth y i * nth (rows.getD i []) k) % 1073741789
theorem sumK_num (y : List Int) (rows : List (List Int)) (k : Nat) : ∀ i, 0 ≤ sumK y rows k i ∧ sumK y rows k i < 1073741789
  | 0 => by unfold sumK; omega
  | i + 1 => by unfold sumK; omega
theorem cq_sumK (y : List Int) (rows : List (List Int)) (k : Nat) : ∀ n, cq (sumK y rows k n) = sm n (fun i => cv y i * cv (rows.getD i []) k)
  | 0 => by unfold sumK; rw [cq_0]; rfl
  | n + 1 => by
    unfold sumK
    rw [cq_mod, cq_add, cq_mul, cq_sumK y rows k n]; rfl

structure AccP (rows : List (List Int)) (owners who y : List Int) : Prop where
  len : y.length = rows.length
  num : ∀ z ∈ y, 0 ≤ z ∧ z < 1073741789
  own : ∀ i, i < rows.length → nth y i ≠ 0 → nth owners i ∈ who
  sum : ∀ k, k < colsQ rows → sumK y rows k rows.length = if k = 0 then 1 else 0
structure RefP (rows : List (List Int)) (owners who v : List Int) : Prop where
  len : v.length = colsQ rows
  one : nth v 0 = 1
  num : ∀ z ∈ v, 0 ≤ z ∧ z < 1073741789
  prod : ∀ i, i < rows.length → nth owners i ∈ who → prodQ v (rows.getD i []) = 0

theorem put_num {at_ : List Nat} {l : List Int} (h : ∀ k, k < at_.length → 0 ≤ nth l k ∧ nth l k < 1073741789) {i : Nat} : ∀ K, K ≤ at_.length → 0 ≤ putF at_ l K i ∧ putF at_ l K i < 1073741789
  | 0, _ => by unfold putF; omega
  | K + 1, hK => by
    unfold putF
    split
    · exact h K hK
    · exact put_num h K (by omega)
theorem put_own {at_ : List Nat} {l : List Int} {i : Nat} : ∀ K, K ≤ at_.length → putF at_ l K i ≠ 0 → i ∈ at_
  | 0, _, h => absurd rfl h
  | K + 1, hK, h => by
    unfold putF at h
    by_cases e : i = at_.getD K 0
    · rw [e, getD_at hK]; exact List.getElem_mem hK
    · rw [if_neg e] at h
      exact put_own K (by omega) h

theorem acc_pack {rows : List (List Int)} {owners who : List Int} (hP : ProgOK rows owners) (hok : accOk rows owners who = true) : AccP rows owners who (accY rows owners who) := by
  have hR := pownR_right (who := who) hP
  have hok2 : rcombOk (pownR rows owners who) (tgt (colsQ rows)) = true := by
    unfold accOk at hok
    rw [Bool.and_eq_true] at hok
    exact hok.2
  have hlen : (pownR rows owners who).length = (ownL owners who rows.length).length := by unfold pownR; rw [List.length_map]
  have hnum : ∀ k, k < (ownL owners who rows.length).length → 0 ≤ nth (rcombY (pownR rows owners who) (tgt (colsQ rows))) k ∧ nth (rcombY (pownR rows owners who) (tgt (colsQ rows))) k < 1073741789 := fun k hk => rcombY_num hR (tgt_num _) (by rw [hlen]; exact hk)
  have hy : ∀ i, i < rows.length → nth (accY rows owners who) i = putF (ownL owners who rows.length) (rcombY (pownR rows owners who) (tgt (colsQ rows))) (ownL owners who rows.length).length i := fun i hi => by
    unfold accY accN
    rw [if_pos hok, nth_map _ _ hi]
  have hl : (accY rows owners who).length = rows.length := by unfold accY accN; rw [if_pos hok]; simp
  refine ⟨hl, fun z hz => ?_, fun i hi h => ?_, fun k hk => ?_⟩
  · obtain ⟨i, hi, rfl⟩ := List.mem_iff_getElem.1 hz
    rw [← nth_at hi, hy i (by omega)]
    exact put_num hnum _ (Nat.le_refl _)
  · rw [hy i hi] at h
    exact (ownL_lt (put_own _ (Nat.le_refl _) h)).2
  · have h1 := comb_makes hR (tgt_num _) hok2 k (by rw [tgt_len]; exact hk)
    have h2 := put_sum (l := rcombY (pownR rows owners who) (tgt (colsQ rows))) (ownL_sorted owners who rows.length) (fun a ha => (ownL_lt ha).1) (fun i => cv (rows.getD i []) k) _ (Nat.le_refl _)
    have h3 : cq (sumK (accY rows owners who) rows k rows.length) = cv (tgt (colsQ rows)) k := by
      rw [cq_sumK, h1, hlen, sm_congr (g := fun i => cq (putF (ownL owners who rows.length) (rcombY (pownR rows owners who) (tgt (colsQ rows))) (ownL owners who rows.length).length i) * cv (rows.getD i []) k) (fun i hi => by unfold cv; rw [hy i hi]), h2]
      refine sm_congr fun j hj => ?_
      rw [fm_row _ (by rw [hlen]; exact hj)]
      congr 1
      unfold pownR
      rw [List.getElem_map, getD_at hj]
    rw [cv_tgt hk] at h3
    have hn := sumK_num (accY rows owners who) rows k rows.length
    by_cases e : k = 0
    · rw [if_pos e] at h3 ⊢
      exact cq_inj hn (by omega) (h3.trans cq_1.symm)
    · rw [if_neg e] at h3 ⊢
      exact cq_inj hn (by omega) (h3.trans cq_0.symm)
theorem rsep_num {rows : List (List Int)} {t l : List Int} (h : rsepQ rows t = some l) : ∀ z ∈ l, 0 ≤ z ∧ z < 1073741789 := by
  unfold rsepQ at h
  cases hr : rsepC rows t with
  | none => rw [hr] at h; cases h
  | some c =>
    rw [hr] at h
    have hl : rsepL (rsepM rows t).1 (rsepM rows t).2 t c = l := by injection h
    rw [← hl]
    intro z hz
    unfold rsepL timesQ at hz
    obtain ⟨i, -, rfl⟩ := List.mem_map.1 hz
    exact mod_num _
theorem prodQ_comm {a b : List Int} (h : a.length = b.length) : prodQ a b = prodQ b a :=
  cq_inj (prodF_num _ _ _) (prodF_num _ _ _) (by rw [cq_prodQ, cq_prodQ, h, dt_comm])
theorem ref_pack {rows : List (List Int)} {owners who v : List Int} (hP : ProgOK rows owners) (hq : rsepQ (pownR rows owners who) (tgt (colsQ rows)) = some v) : RefP rows owners who v := by
  have hR := pownR_right (who := who) hP
  have hp := sep_some hR hq
  have hc := hP.cols
  unfold provesQ at hp
  simp only [Bool.and_eq_true, decide_eq_true_eq, List.all_eq_true] at hp
  obtain ⟨h1, h2, h3⟩ := hp
  rw [tgt_len] at h1
  have hn := rsep_num hq
  refine ⟨h1, ?_, hn, fun i hi hm => ?_⟩
  · have e := cq_prodQ (tgt (colsQ rows)) v
    rw [h3, tgt_len] at e
    unfold dt at e
    rw [sm_one (k := 0) hc (fun j hj hne => by rw [cv_tgt hj, if_neg hne]; grind), cv_tgt hc, if_pos rfl] at e
    refine cq_inj (nth_num hn 0) (by omega) ?_
    show cv v 0 = cq 1
    rw [e]; grind
  · have hr := h2 (rows.getD i []) (List.mem_map.2 ⟨i, ownL_mem.2 ⟨hi, hm⟩, rfl⟩)
    rw [prodQ_comm hr.1.symm]
    exact hr.2
theorem prove_pack {rows : List (List Int)} {owners who : List Int} (hp : progE rows owners = 0) (hw : peopleB (-1) who = true) :
    questE rows owners who = 0 ∧ ((accOk rows owners who = true ∧ refY rows owners who = none ∧ AccP rows owners who (accY rows owners who)) ∨
      (accOk rows owners who = false ∧ accY rows owners who = [] ∧ ∃ v, refY rows owners who = some v ∧ RefP rows owners who v)) := by
  have hq : questE rows owners who = 0 := by unfold questE; rw [if_neg (by simp [hp]), if_pos hw]
  have hP := progE_ok hp
  have hR := pownR_right (who := who) hP
  have hs := sep_made hR
  have hc := comb_span hR (tgt_num (colsQ rows))
  have ha : accOk rows owners who = rcombOk (pownR rows owners who) (tgt (colsQ rows)) := by unfold accOk; rw [decide_eq_true hq]; rfl
  have hf : refY rows owners who = rsepQ (pownR rows owners who) (tgt (colsQ rows)) := by unfold refY; rw [if_pos hq]
  refine ⟨hq, ?_⟩
  cases e : accOk rows owners who with
  | true =>
    refine .inl ⟨rfl, ?_, acc_pack hP e⟩
    rw [hf]
    cases e2 : rsepQ (pownR rows owners who) (tgt (colsQ rows)) with
    | none => rfl
    | some v =>
      rw [e2] at hs
      exact absurd (hc.1 (ha ▸ e)) (hs.1 rfl)
  | false =>
    refine .inr ⟨rfl, by unfold accY; rw [e]; rfl, ?_⟩
    have hm : ¬ Made (pownR rows owners who) (tgt (colsQ rows)) := fun h => by
      have := hc.2 h
      rw [← ha, e] at this; cases this
    have := hs.2 hm
    obtain ⟨v, hv⟩ := Option.isSome_iff_exists.1 this
    exact ⟨v, hf.trans hv, ref_pack hP hv⟩

end Go.Proofs.Ytohebkpgjaaljaa
