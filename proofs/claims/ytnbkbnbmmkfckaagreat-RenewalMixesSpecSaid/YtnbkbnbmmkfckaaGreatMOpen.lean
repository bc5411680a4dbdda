/- The arguments of a law: read as rows and lists; and what a law's call leaves. A law's argument that is a program, a word or a list of words. A law's argument that is a share or a list of shares. A law's argument that is a list of shares. A law's argument that is a key. -/
import Derived.Test.YtnbkbnbmmkfckaaGreatRows
import Derived.Test.YtnbkbnbmmkfckaaGreatMBase
import Derived.Test.YtnbkbnbmmkfckaaGreatMDeaV
import Derived.Test.YtnbkbnbmmkfckaaGreatMDeaD
import Derived.ProofKit
import Derived.OpenShut
import Derived.Carry
import Derived.ChangeSlices
import Derived.ReadAgain
import Derived.Deep.Matrix
import Derived.SizedLaws
import Derived.Lib.SmallJoins
import Derived.ChangeSame
import Derived.ChangeArms
namespace Go.Proofs.YtnbkbnbmmkfckaaGreat
open Go.ChangeShapes Go.WideShapes Go.ChangeAt Go.RowKit Go.Deep

set_option maxRecDepth 100000 in
theorem ownKnobP : ownKnob Tryz.prog.godebug = none := by kernel_rfl
set_option maxRecDepth 100000 in
theorem laidOutP : laidOutB Tryz.prog = true := by kernel_rfl
set_option maxRecDepth 100000 in
theorem cellsInt : Tryz.prog.cellsOf 3 = 1 := by kernel_rfl
set_option maxRecDepth 100000 in
theorem cellsRow : Tryz.prog.cellsOf 23 = 1 := by kernel_rfl
set_option maxRecDepth 100000 in
theorem bytesInt : Tryz.prog.bytesOf 3 = 8 := by kernel_rfl
set_option maxRecDepth 100000 in
theorem bytesRow : Tryz.prog.bytesOf 23 = 24 := by kernel_rfl
theorem reach_is : reachBytes = 140737488351232 := rfl

theorem wf_r64 {n : Int} (h : (Lit.int .i64 n).wf = true) : R64 n := by
  simp [Lit.wf, IntKind.min, IntKind.max, IntKind.signed, IntKind.bits] at h
  unfold R64; omega

/-- All weights of a datum are within the reach. -/
def Light {H : Type} (t : TypeId) (d : DataW H) : Prop := ∀ n ∈ d.weights Tryz.prog t, n ≤ reachBytes

set_option maxRecDepth 100000 in
theorem light_of {H : Type} {ts : List TypeId} {ds : List (DataW H)} (h : (DataW.weightsEach Tryz.prog ts ds).all (· ≤ reachBytes) = true) {j : Nat} {t : TypeId} {d : DataW H} (ht : ts[j]? = some t) (hd : ds[j]? = some d) : Light t d := fun n hn => by
  have := List.all_eq_true.1 h _ (DataW.weights_mem_each ht hd n hn)
  simpa using this

set_option maxRecDepth 100000 in
theorem weightsAll_mem {H : Type} {e : TypeId} {ds : List (DataW H)} {d : DataW H} (hd : d ∈ ds) {n : Nat} (hn : n ∈ d.weights Tryz.prog e) : n ∈ DataW.weightsAll Tryz.prog e ds := by
  induction ds with
  | nil => cases hd
  | cons a l ih =>
    simp only [DataW.weightsAll, List.mem_append]
    rcases List.mem_cons.1 hd with rfl | h
    · exact .inl hn
    · exact .inr (ih h)

section
variable {H : Type} {enc : TypeId × Value → H} {W : World}

set_option maxRecDepth 100000 in
/-- A list of integers as an argument. -/
theorem open_list {v : Value} {d : DataW H} {ps : List MemPlace} (hs : ∃ a n c, v = .slice a n c) (h : DataW.Trod enc Tryz.prog W 0 (fun _ => true) true 23 v d ps) (hl : Light 23 d) : ∃ zs, Ints W v zs := by
  obtain ⟨a0, len, cap, rfl⟩ := hs
  obtain ⟨fuel, hf⟩ := h
  rcases open_ints Tryz.underlying23 Tryz.underlying3 cellsInt hf with ⟨hcs, -⟩ | ⟨a, len', cap', zs, hcs, -, hle, hm, hz, hx, hcell, hwf⟩
  · simp [Value.cells] at hcs
    obtain ⟨rfl, rfl, rfl⟩ := hcs
    exact ⟨[], Ints.nil _ _ _⟩
  · simp [Value.cells] at hcs
    obtain ⟨rfl, rfl, rfl⟩ := hcs
    simp only [if_true] at hz
    simp only [Prod.mk.injEq] at hx
    have hlen : cap ≤ 17592186044416 := by
      have := hl ((zs.take len).length + (zs.drop len).length |>.mul 8) (by
        rw [hx.1]
        simp only [DataW.weights, Tryz.underlying23, bytesInt, lits, List.length_map]
        exact List.mem_cons_self ..)
      have h2 : ((zs.take len).length + (zs.drop len).length) * 8 ≤ reachBytes := this
      rw [reach_is] at h2
      simp at h2
      omega
    refine ⟨zs.take len, some a, cap, by simp [hz, hle], by simp; omega, by simp; omega, fun z hzz => wf_r64 (hwf z (List.mem_of_mem_take hzz)), fun k hk => ?_⟩
    simp at hk
    have hc := hcell k (by omega)
    obtain ⟨b, o, sp⟩ := a
    have hsp : sp = none := by
      have h0 := World.cell?_spot (hcell 0 (by omega))
      simpa [Addr.add] using h0
    subst hsp
    refine ⟨b, o, rfl, ?_⟩
    rw [← add_plain, hc]
    simp [List.getD, List.getElem?_eq_getElem (show k < zs.length by omega)]

set_option maxRecDepth 100000 in
theorem intRow_light {A : Option Addr} {L : Nat} {zs : List Int} (h : Light 23 (intRow (H := H) .i64 A L zs)) (hA : A ≠ none) : zs.length ≤ 17592186044416 := by
  cases A with
  | none => exact absurd rfl hA
  | some a =>
    have h2 : ((zs.take L).length + (zs.drop L).length) * 8 ≤ reachBytes := h _ (by
      simp only [intRow, DataW.weights, Tryz.underlying23, bytesInt, lits, List.length_map]
      exact List.mem_cons_self ..)
    rw [reach_is] at h2
    simp at h2
    omega

set_option maxRecDepth 100000 in
/-- Rows as an argument. -/
theorem open_rows {v : Value} {d : DataW H} {ps : List MemPlace} (hs : ∃ a n c, v = .slice a n c) (h : DataW.Trod enc Tryz.prog W 0 (fun _ => true) true 22 v d ps) (hl : Light 22 d) : ∃ rows, Rows2 W v rows := by
  obtain ⟨a0, len, cap, rfl⟩ := hs
  obtain ⟨fuel, hf⟩ := h
  rcases open_int_rows Tryz.underlying22 Tryz.underlying23 Tryz.underlying3 cellsRow cellsInt hf with ⟨hcs, -⟩ | ⟨a, len', cap', A, L, C, Z, hcs, -, hle, hm, hx, hrows⟩
  · simp [Value.cells] at hcs
    obtain ⟨rfl, rfl, rfl⟩ := hcs
    exact ⟨[], Rows2.nil _ _ _⟩
  · simp [Value.cells] at hcs
    obtain ⟨rfl, rfl, rfl⟩ := hcs
    simp only [Prod.mk.injEq] at hx
    have hlen : cap * 24 ≤ reachBytes := by
      have := hl ((len + (cap - len)) * 24) (by
        rw [hx.1]
        simp only [DataW.weights, Tryz.underlying22, bytesRow, List.length_map, List.length_range]
        exact List.mem_cons_self ..)
      rwa [show len + (cap - len) = cap by omega] at this
    rw [reach_is] at hlen
    have hrow : ∀ r, r < len → ∃ zs : List Int, Ints W (.slice (A r) (L r) (C r)) zs := fun r hr => by
      obtain ⟨h1, h2, h3, h4, h5, h6, h7⟩ := hrows r (by omega)
      cases hA : A r with
      | none =>
        have := h6 hA
        have hL : L r = 0 := by omega
        rw [hL]; exact ⟨[], Ints.nil _ _ _⟩
      | some a' =>
        obtain ⟨-, hcell⟩ := h7 a' hA
        have hlt : Light 23 (intRow (H := H) .i64 (A r) (L r) (Z r)) := fun n hn => hl n (by
          rw [hx.1]
          simp only [DataW.weights, Tryz.underlying22]
          refine List.mem_cons_of_mem _ (List.mem_append_left _ (weightsAll_mem (List.mem_map.2 ⟨r, List.mem_range.2 hr, rfl⟩) hn)))
        have hzl := intRow_light hlt (by rw [hA]; simp)
        refine ⟨(Z r).take (L r), some a', C r, by simp [h4, h2], by simp; omega, by simp; omega, fun z hzz => wf_r64 (h5 z (List.mem_of_mem_take hzz)), fun k hk => ?_⟩
        simp at hk
        obtain ⟨b, o, sp⟩ := a'
        have hsp : sp = none := by
          have h0 := World.cell?_spot (hcell 0 (by omega))
          simpa [Addr.add] using h0
        subst hsp
        refine ⟨b, o, rfl, ?_⟩
        rw [← add_plain, hcell k (by omega)]
        simp [List.getD, List.getElem?_eq_getElem (show k < (Z r).length by omega)]
    obtain ⟨f, hfz⟩ : ∃ f : Nat → List Int, ∀ r, r < len → Ints W (.slice (A r) (L r) (C r)) (f r) :=
      ⟨fun r => if hr : r < len then (hrow r hr).choose else [], fun r hr => by simp only [dif_pos hr]; exact (hrow r hr).choose_spec⟩
    refine ⟨(List.range len).map f, some a, cap, by simp, by simp [hle], by simp; omega, fun k hk => ?_⟩
    simp at hk
    obtain ⟨b, o, sp⟩ := a
    have hsp : sp = none := by
      have h0 := World.cell?_spot (hrows 0 (by omega)).1
      simpa [Addr.add] using h0
    subst hsp
    refine ⟨b, o, .slice (A k) (L k) (C k), rfl, ?_, ?_⟩
    · rw [← add_plain]; exact (hrows k (by omega)).1
    · simpa using hfz k hk

set_option maxRecDepth 100000 in
theorem trodAll_below {W' : World} (hb : Below W.heap.size W W') : ∀ {ts : List TypeId} {vs : List Value} {ds : List (DataW H)} {ps : List MemPlace}, (∀ t ∈ ts, Tryz.prog.readableRec t = true ∧ t < Tryz.prog.types.size) →
    DataW.TrodAll enc Tryz.prog W 0 (fun _ => true) true ts vs ds ps → (∀ x ∈ ps, x.block < W.heap.size) → DataW.TrodAll enc Tryz.prog W' 0 (fun b => decide (b < W.heap.size)) true ts vs ds ps
  | [], vs, ds, ps, _, h, _ => by
    obtain ⟨rfl, rfl, rfl⟩ := trodAll_nil h
    exact trodAll_mk0
  | t :: ts, vs, ds, ps, ht, h, hlt => by
    obtain ⟨v, vs', d, ds', p, q, rfl, rfl, rfl, h1, h2⟩ := trodAll_cons h
    exact trodAll_cons_mk (Below.trod laidOutP (ht t (by simp)).1 (ht t (by simp)).2 h1 hb (fun x hx => hlt x (List.mem_append_left _ hx)))
      (trodAll_below hb (fun t' ht' => ht t' (by simp [ht'])) h2 (fun x hx => hlt x (List.mem_append_right _ hx)))

set_option maxRecDepth 100000 in
/-- A law's post, where the call returned true and all that there was is as it was. -/
theorem law_post {f : Func} {s : ChangeSpec} {W' : World} {args : Array Value} {ds : List (DataW H)} {before : List MemPlace} {apart : Bool} (hvars : s.vars = []) (hres : f.resultTypes = #[4])
    (hts : (f.params.toList.all fun t => Tryz.prog.readableRec t && decide (t < Tryz.prog.types.size)) = true) (hA : DataW.TrodAll enc Tryz.prog W 0 (fun _ => true) true f.params.toList args.toList ds before)
    (hW : DataW.Whole enc Tryz.prog f.params.toList s.vars apart W args.toList ds [] before) (hb : Below W.heap.size W W') (hfn : s.fn H (ds ++ []) = { results := [.lit (.bool true)], args := ds }) :
    s.post enc Tryz.prog f apart true false false W args (.bool true) W' := by
  refine ⟨ds, [], before, [], before, [], hW, ?_, ?_, ?_, hb.frame _, fun h => by cases h⟩
  · rw [hfn, hres]; exact trodAll_mk1 (shut_bool Tryz.underlying4 true)
  · rw [hfn]; exact trodAll_below hb (fun t ht => by have := List.all_eq_true.1 hts t ht; simpa using this) hA (fun x hx => by simpa using hW.lt x hx)
  · rw [hfn, hvars]; rfl

end
end Go.Proofs.YtnbkbnbmmkfckaaGreat

namespace Go.Proofs.YtnbkbnbmmkfckaaGreat
open Go.ChangeShapes Go.WideShapes Go.ChangeAt Go.RowKit Go.Deep Go.Joins

set_option maxRecDepth 100000 in
theorem cellsProgram : Tryz.prog.cellsOf 25 = 2 := by kernel_rfl

section
variable {H : Type} {enc : TypeId × Value → H} {W : World} {base : Nat}

end

end Go.Proofs.YtnbkbnbmmkfckaaGreat

namespace Go.Proofs.YtnbkbnbmmkfckaaGreat
open Go.ChangeShapes Go.WideShapes Go.ChangeAt Go.RowKit Go.Deep Go.Joins

set_option maxRecDepth 100000 in
theorem cellsShare : Tryz.prog.cellsOf 47 = 2 := by kernel_rfl
set_option maxRecDepth 100000 in
theorem bytesShare : Tryz.prog.bytesOf 47 = 16 := by kernel_rfl

section
variable {H : Type} {enc : TypeId × Value → H} {W : World} {base : Nat}
end

end Go.Proofs.YtnbkbnbmmkfckaaGreat

namespace Go.Proofs.YtnbkbnbmmkfckaaGreat
open Go.ChangeShapes Go.WideShapes Go.ChangeAt Go.RowKit Go.Deep Go.Joins

section
variable {H : Type} {enc : TypeId × Value → H} {W : World}
set_option maxRecDepth 100000 in
theorem share_cells {fuel : Nat} {cs : List Value} {y : DataW H × List MemPlace} (h : DataW.trod enc Tryz.prog W 0 (fun _ => true) true fuel 47 cs = some y) : ∃ x z : Int, cs = [.int .i64 x, .int .i64 z] ∧ R64 x ∧ R64 z := by
  obtain ⟨y0, y1, n, -, hl, h0, h1⟩ := trod_struct2 Tryz.underlying47 h
  rw [cellsShare] at hl
  match cs, hl with
  | [c0, c1], _ =>
    have h0' : DataW.trod enc Tryz.prog W 0 (fun _ => true) true n 3 [c0] = some y0 := by simpa [cellsInt] using h0
    have h1' : DataW.trod enc Tryz.prog W 0 (fun _ => true) true n 3 [c1] = some y1 := by simpa [cellsInt] using h1
    obtain ⟨E, e0, -, w0⟩ := DataW.trod_int Tryz.underlying3 h0'
    obtain ⟨S, e1, -, w1⟩ := DataW.trod_int Tryz.underlying3 h1'
    simp at e0 e1
    subst e0 e1
    exact ⟨E, S, rfl, wf_r64 w0, wf_r64 w1⟩

set_option maxRecDepth 100000 in
theorem open_shares {v : Value} {d : DataW H} {ps : List MemPlace} (hs : ∃ a n c, v = .slice a n c) (h : DataW.Trod enc Tryz.prog W 0 (fun _ => true) true 28 v d ps) (hl : Light 28 d) : ∃ l, Shares W v l := by
  obtain ⟨a0, len0, cap0, rfl⟩ := hs
  obtain ⟨fuel, hf⟩ := h
  rcases DataW.trod_slice Tryz.underlying28 hf with ⟨hcs, -⟩ | ⟨a, len, cap, elems, rest, n, -, hcs, hx, -, hle, hm, hlen, hel, hsp, -⟩
  · simp [Value.cells] at hcs
    obtain ⟨rfl, rfl, rfl⟩ := hcs
    exact ⟨[], Shares.nil _ _ _⟩
  · simp [Value.cells] at hcs
    obtain ⟨rfl, rfl, rfl⟩ := hcs
    simp only [Prod.mk.injEq] at hx
    obtain ⟨hrl, -⟩ := hsp rfl
    have hcap : len0 * 16 ≤ reachBytes := by
      have := hl ((elems.length + rest.length) * 16) (by
        rw [hx.1]
        simp only [DataW.weights, Tryz.underlying28, bytesShare, List.length_map]
        exact List.mem_cons_self ..)
      rw [hlen] at this
      exact Nat.le_trans (Nat.mul_le_mul_right _ (Nat.le_add_right _ _)) this
    rw [reach_is] at hcap
    have hrow : ∀ i, i < len0 → ∃ p : Int × Int, (R64 p.1 ∧ R64 p.2) ∧ W.cell? (a.add (i * 2)) = some (.int .i64 p.1) ∧ W.cell? (a.add (i * 2 + 1)) = some (.int .i64 p.2) := fun i hi => by
      have h1 := hel i hi
      rw [cellsShare, List.getElem?_eq_getElem (by omega)] at h1
      obtain ⟨cs, hc, ht⟩ := Option.bind_eq_some_iff.1 h1
      obtain ⟨x, z, rfl, hx, hz⟩ := share_cells ht
      obtain ⟨-, -, hcell⟩ := World.cells?_some hc
      refine ⟨(x, z), ⟨hx, hz⟩, ?_, ?_⟩
      · have := hcell 0 (by omega); simpa [Addr.add] using this
      · have := hcell 1 (by omega)
        have e : (a.add (i * 2)).add 1 = a.add (i * 2 + 1) := by
          unfold Addr.add
          by_cases h : i * 2 = 0 <;> simp [h, Nat.add_assoc]
        rw [e] at this
        simpa using this
    obtain ⟨f, hf2⟩ : ∃ f : Nat → Int × Int, ∀ i, i < len0 → (R64 (f i).1 ∧ R64 (f i).2) ∧ W.cell? (a.add (i * 2)) = some (.int .i64 (f i).1) ∧ W.cell? (a.add (i * 2 + 1)) = some (.int .i64 (f i).2) :=
      ⟨fun i => if hi : i < len0 then (hrow i hi).choose else (0, 0), fun i hi => by simp only [dif_pos hi]; exact (hrow i hi).choose_spec⟩
    refine ⟨(List.range len0).map f, some a, cap0, by simp, by simp [hle], by simp; omega, ?_, fun k hk => ?_⟩
    · intro p hp
      obtain ⟨i, hi, rfl⟩ := List.mem_map.1 hp
      exact (hf2 i (List.mem_range.1 hi)).1
    · simp at hk
      obtain ⟨b, o, sp⟩ := a
      have hsp2 : sp = none := by
        have h0 := World.cell?_spot (hf2 0 (by omega)).2.1
        simpa [Addr.add] using h0
      subst hsp2
      obtain ⟨-, h1, h2⟩ := hf2 k hk
      refine ⟨b, o, rfl, ?_, ?_⟩
      · rw [← add_plain]; simpa using h1
      · rw [Nat.add_assoc, ← add_plain]; simpa using h2
end

end Go.Proofs.YtnbkbnbmmkfckaaGreat

namespace Go.Proofs.YtnbkbnbmmkfckaaGreat
open Go.ChangeShapes Go.WideShapes Go.ChangeAt Go.RowKit Go.Deep Go.Joins

set_option maxRecDepth 100000 in
theorem cellsMat : Tryz.prog.cellsOf 22 = 1 := by kernel_rfl
set_option maxRecDepth 100000 in
theorem cellsKey : Tryz.prog.cellsOf 27 = 4 := by kernel_rfl

section
variable {H : Type} {enc : TypeId × Value → H} {W : World} {base : Nat}

set_option maxRecDepth 100000 in
theorem key_parts {n : Nat} {cs : List Value} {y : DataW H × List MemPlace} (h : DataW.trod enc Tryz.prog W 0 (fun _ => true) true n 27 cs = some y) :
    ∃ m, n = m + 1 ∧ ∃ c0 c1 c2 c3 y0 y1 y2, cs = [c0, c1, c2, c3] ∧ y.1 = .agg [(y0 : DataW H × List MemPlace).1, (y1 : DataW H × List MemPlace).1, (y2 : DataW H × List MemPlace).1] ∧
      DataW.trod enc Tryz.prog W 0 (fun _ => true) true m 3 [c0] = some y0 ∧ DataW.trod enc Tryz.prog W 0 (fun _ => true) true m 25 [c1, c2] = some y1 ∧ DataW.trod enc Tryz.prog W 0 (fun _ => true) true m 23 [c3] = some y2 := by
  obtain ⟨xs, m, hm, rfl, hl, hlen, hf⟩ := DataW.trod_struct Tryz.underlying27 h
  rw [cellsKey] at hl
  match xs, hlen with
  | [y0, y1, y2], _ =>
    match cs, hl with
    | [c0, c1, c2, c3], _ =>
      have h0 := hf 0 _ rfl
      have h1 := hf 1 _ rfl
      have h2 := hf 2 _ rfl
      exact ⟨m, hm, c0, c1, c2, c3, y0, y1, y2, rfl, by simp, by simpa [cellsInt, cellsProgram] using h0, by simpa [cellsInt, cellsProgram] using h1, by simpa [cellsRow, cellsInt, cellsProgram] using h2⟩
set_option maxRecDepth 100000 in
theorem prog_cells {n : Nat} {c1 c2 : Value} {y : DataW H × List MemPlace} (h : DataW.trod enc Tryz.prog W 0 (fun _ => true) true n 25 [c1, c2] = some y) (hl : Light 25 y.1) :
    ∃ rows owners, Rows2 W c1 rows ∧ Ints W c2 owners := by
  obtain ⟨xs, m, hm, rfl, -, hlen, hf⟩ := DataW.trod_struct Tryz.underlying25 h
  match xs, hlen with
  | [y0, y1], _ =>
    have h0 := hf 0 _ rfl
    have h1 := hf 1 _ rfl
    have h0' : DataW.trod enc Tryz.prog W 0 (fun _ => true) true m 22 [c1] = some y0 := by simpa [cellsMat] using h0
    have h1' : DataW.trod enc Tryz.prog W 0 (fun _ => true) true m 23 [c2] = some y1 := by simpa [cellsMat, cellsRow] using h1
    obtain ⟨a0, l0, q0, e0⟩ := slice_form Tryz.underlying22 h0'
    obtain ⟨a1, l1, q1, e1⟩ := slice_form Tryz.underlying23 h1'
    simp only [List.cons.injEq, and_true] at e0 e1
    subst e0 e1
    have hw : ∀ k, k ∈ y0.1.weights Tryz.prog 22 ++ (y1.1.weights Tryz.prog 23 ++ []) → k ≤ reachBytes := fun k hk => hl k (by
      simp only [DataW.weights, Tryz.underlying25, List.map_cons, List.map_nil]
      exact hk)
    obtain ⟨rows, hr⟩ := open_rows ⟨_, _, _, rfl⟩ (v := .slice a0 l0 q0) (d := y0.1) (ps := y0.2) ⟨m, h0'⟩ (fun k hk => hw k (List.mem_append_left _ hk))
    obtain ⟨owners, ho⟩ := open_list ⟨_, _, _, rfl⟩ (v := .slice a1 l1 q1) (d := y1.1) (ps := y1.2) ⟨m, h1'⟩ (fun k hk => hw k (List.mem_append_right _ (List.mem_append_left _ hk)))
    exact ⟨rows, owners, hr, ho⟩
set_option maxRecDepth 100000 in
theorem open_key {v : Value} {d : DataW H} {ps : List MemPlace} (hv : Value.okWide Tryz.prog W .any base 27 v) (h : DataW.Trod enc Tryz.prog W 0 (fun _ => true) true 27 v d ps) (hl : Light 27 d) :
    ∃ ep rv ov cv rows owners cs, v = .agg #[.int .i64 ep, rv, ov, cv] ∧ R64 ep ∧ Rows2 W rv rows ∧ Ints W ov owners ∧ Ints W cv cs := by
  obtain ⟨cs, rfl, hsz⟩ := okWide_struct Tryz.underlying27 hv
  obtain ⟨fuel, hf⟩ := h
  obtain ⟨m, rfl, c0, c1, c2, c3, y0, y1, y2, e, hy, h0, h1, h2⟩ := key_parts hf
  have e2 : cs = #[c0, c1, c2, c3] := by
    apply Array.ext'
    simpa [Value.cells] using e
  obtain ⟨ep, e0, -, w0⟩ := DataW.trod_int Tryz.underlying3 h0
  simp only [List.cons.injEq, and_true] at e0
  subst e0
  have hy' : d = .agg [y0.1, y1.1, y2.1] := hy
  have hw : ∀ k, k ∈ y0.1.weights Tryz.prog 3 ++ (y1.1.weights Tryz.prog 25 ++ (y2.1.weights Tryz.prog 23 ++ [])) → k ≤ reachBytes := fun k hk => hl k (by
    rw [hy']
    simp only [DataW.weights, Tryz.underlying27]
    exact hk)
  obtain ⟨rows, owners, hr, ho⟩ := prog_cells h1 (fun k hk => hw k (List.mem_append_right _ (List.mem_append_left _ hk)))
  obtain ⟨a3, l3, q3, e3⟩ := slice_form Tryz.underlying23 h2
  simp only [List.cons.injEq, and_true] at e3
  subst e3
  obtain ⟨zs, hz⟩ := open_list ⟨_, _, _, rfl⟩ (v := .slice a3 l3 q3) (d := y2.1) (ps := y2.2) ⟨m, h2⟩ (fun k hk => hw k (List.mem_append_right _ (List.mem_append_right _ (List.mem_append_left _ hk))))
  exact ⟨ep, _, _, _, rows, owners, zs, by rw [e2], wf_r64 w0, hr, ho, hz⟩
end

end Go.Proofs.YtnbkbnbmmkfckaaGreat
