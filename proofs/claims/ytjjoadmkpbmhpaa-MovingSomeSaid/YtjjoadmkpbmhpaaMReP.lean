/- The laws of renewing: renewed. The laws of renewing: the examples, reckoned; calls whose values are known; the program of three rows. The laws of renewing: the examples hold (sane). The reference of renewing: SameKey. The arguments of a law: read as rows and lists; and what a law's call leaves. A law's argument that is a program, a word or a list of words. The laws of renewing: RenewalOrder. The laws of moving: the examples, reckoned; calls whose values are known; the programs of one and of three rows. The laws of renewing: what a drawn region that renews has put. -/
import Derived.Test.YtjjoadmkpbmhpaaMReN
import Derived.Test.YtjjoadmkpbmhpaaMRegL
import Derived.Test.YtjjoadmkpbmhpaaMProF
import Derived.Test.YtjjoadmkpbmhpaaMLaI
import Derived.Test.YtjjoadmkpbmhpaaRows
import Derived.Test.YtjjoadmkpbmhpaaMBase
import Derived.Test.YtjjoadmkpbmhpaaMPmH
import Derived.Test.YtjjoadmkpbmhpaaMMvI
import Derived.Test.YtjjoadmkpbmhpaaMRegF
import Derived.Test.YtjjoadmkpbmhpaaMRbP
import Derived.ProofKit
import Derived.OpenShut
import Derived.Carry
import Derived.ChangeSlices
import Derived.ReadAgain
import Derived.Deep.Matrix
import Derived.SizedLaws
import Derived.Lib.SmallJoins
namespace Go.Proofs.Ytjjoadmkpbmhpaa
open Go.RowKit FP

theorem RI.ints {W : World} {v : Value} {zs : List Int} (h : RI W v zs) : Ints W v zs := h.1
theorem RS.shares {W : World} {v : Value} {l : List (Int × Int)} (h : RS W v l) : Shares W v l := h.1
theorem dealC_pos (s : List Int) : ∀ z ∈ dealC s, z ≠ 0 := fun z hz => by
  obtain ⟨n, -, rfl⟩ := List.mem_map.1 hz
  intro e
  exact not_el_0 (e ▸ el_powE el_four n)

end Go.Proofs.Ytjjoadmkpbmhpaa

namespace Go.Proofs.Ytjjoadmkpbmhpaa
open Go.RowKit FP

end Go.Proofs.Ytjjoadmkpbmhpaa

namespace Go.Proofs.Ytjjoadmkpbmhpaa
open Go.RowKit FP

theorem SRows.one {w : World} {v : Value} {t : List (Int × Int)} (h : Shares w v t) (T : TypeId) : SRows (w.alloc (.cells #[v] T)) (.slice (some ⟨w.heap.size, 0, none⟩) 1 1) [t] := by
  refine ⟨_, 1, rfl, by simp, by simp, fun k hk => ⟨_, _, v, rfl, ?_, ?_⟩⟩
  · rw [World.cell?_alloc_at _ _ _ _ rfl]
    have : k = 0 := by simp at hk; omega
    subst this; rfl
  · have : k = 0 := by simp at hk; omega
    subst this
    exact h.below (below_new _ _ _)
theorem sh_lit3 (w : World) (B : Nat) (hB : w.heap.size = B) (x y x2 y2 x3 y3 : Int) (t : TypeId) (hx : R64 x) (hy : R64 y) (hx2 : R64 x2) (hy2 : R64 y2) (hx3 : R64 x3) (hy3 : R64 y3) : Shares (w.alloc (.cells #[.int .i64 x, .int .i64 y, .int .i64 x2, .int .i64 y2, .int .i64 x3, .int .i64 y3] t)) (.slice (some ⟨B, 0, none⟩) 3 3) [(x, y), (x2, y2), (x3, y3)] := by
  subst hB
  refine ⟨_, 3, rfl, by simp, by simp, by simp [hx, hy, hx2, hy2, hx3, hy3], fun k hk => ⟨w.heap.size, 0, rfl, ?_⟩⟩
  have h := World.alloc_heap_new w (.cells #[.int .i64 x, .int .i64 y, .int .i64 x2, .int .i64 y2, .int .i64 x3, .int .i64 y3] t)
  match k, hk with
  | 0, _ => exact ⟨row_cell h rfl, row_cell h rfl⟩
  | 1, _ => exact ⟨row_cell h rfl, row_cell h rfl⟩
  | 2, _ => exact ⟨row_cell h rfl, row_cell h rfl⟩

end Go.Proofs.Ytjjoadmkpbmhpaa

namespace Go.Proofs.Ytjjoadmkpbmhpaa
open Go.RowKit FP

end Go.Proofs.Ytjjoadmkpbmhpaa

namespace Go.Proofs.Ytjjoadmkpbmhpaa
open Go.ChangeShapes Go.WideShapes Go.ChangeAt Go.RowKit Go.Deep

set_option maxRecDepth 100000 in
theorem ownKnobP : ownKnob Try.prog.godebug = none := by kernel_rfl
set_option maxRecDepth 100000 in
theorem laidOutP : laidOutB Try.prog = true := by kernel_rfl
set_option maxRecDepth 100000 in
theorem cellsInt : Try.prog.cellsOf 3 = 1 := by kernel_rfl
set_option maxRecDepth 100000 in
theorem cellsRow : Try.prog.cellsOf 23 = 1 := by kernel_rfl
set_option maxRecDepth 100000 in
theorem bytesInt : Try.prog.bytesOf 3 = 8 := by kernel_rfl
set_option maxRecDepth 100000 in
theorem bytesRow : Try.prog.bytesOf 23 = 24 := by kernel_rfl
theorem reach_is : reachBytes = 140737488351232 := rfl

theorem wf_r64 {n : Int} (h : (Lit.int .i64 n).wf = true) : R64 n := by
  simp [Lit.wf, IntKind.min, IntKind.max, IntKind.signed, IntKind.bits] at h
  unfold R64; omega

/-- All weights of a datum are within the reach. -/
def Light {H : Type} (t : TypeId) (d : DataW H) : Prop := ∀ n ∈ d.weights Try.prog t, n ≤ reachBytes

set_option maxRecDepth 100000 in
theorem light_of {H : Type} {ts : List TypeId} {ds : List (DataW H)} (h : (DataW.weightsEach Try.prog ts ds).all (· ≤ reachBytes) = true) {j : Nat} {t : TypeId} {d : DataW H} (ht : ts[j]? = some t) (hd : ds[j]? = some d) : Light t d := fun n hn => by
  have := List.all_eq_true.1 h _ (DataW.weights_mem_each ht hd n hn)
  simpa using this

set_option maxRecDepth 100000 in
theorem weightsAll_mem {H : Type} {e : TypeId} {ds : List (DataW H)} {d : DataW H} (hd : d ∈ ds) {n : Nat} (hn : n ∈ d.weights Try.prog e) : n ∈ DataW.weightsAll Try.prog e ds := by
  induction ds with
  | nil => cases hd
  | cons a l ih =>
    simp only [DataW.weightsAll, List.mem_append]
    rcases List.mem_cons.1 hd with rfl | h
    · exact .inl hn
    · exact .inr (ih h)

section
variable {H : Type} {enc : TypeId × Value → H} {W : World}

set_option maxRecDepth 100000 in
/-- A list of integers as an argument. -/
theorem open_list {v : Value} {d : DataW H} {ps : List MemPlace} (hs : ∃ a n c, v = .slice a n c) (h : DataW.Trod enc Try.prog W 0 (fun _ => true) true 23 v d ps) (hl : Light 23 d) : ∃ zs, Ints W v zs := by
  obtain ⟨a0, len, cap, rfl⟩ := hs
  obtain ⟨fuel, hf⟩ := h
  rcases open_ints Try.underlying23 Try.underlying3 cellsInt hf with ⟨hcs, -⟩ | ⟨a, len', cap', zs, hcs, -, hle, hm, hz, hx, hcell, hwf⟩
  · simp [Value.cells] at hcs
    obtain ⟨rfl, rfl, rfl⟩ := hcs
    exact ⟨[], Ints.nil _ _ _⟩
  · simp [Value.cells] at hcs
    obtain ⟨rfl, rfl, rfl⟩ := hcs
    simp only [if_true] at hz
    simp only [Prod.mk.injEq] at hx
    have hlen : cap ≤ 17592186044416 := by
      have := hl ((zs.take len).length + (zs.drop len).length |>.mul 8) (by
        rw [hx.1]
        simp only [DataW.weights, Try.underlying23, bytesInt, lits, List.length_map]
        exact List.mem_cons_self ..)
      have h2 : ((zs.take len).length + (zs.drop len).length) * 8 ≤ reachBytes := this
      rw [reach_is] at h2
      simp at h2
      omega
    refine ⟨zs.take len, some a, cap, by simp [hz, hle], by simp; omega, by simp; omega, fun z hzz => wf_r64 (hwf z (List.mem_of_mem_take hzz)), fun k hk => ?_⟩
    simp at hk
    have hc := hcell k (by omega)
    obtain ⟨b, o, sp⟩ := a
    have hsp : sp = none := by
      have h0 := World.cell?_spot (hcell 0 (by omega))
      simpa [Addr.add] using h0
    subst hsp
    refine ⟨b, o, rfl, ?_⟩
    rw [← add_plain, hc]
    simp [List.getD, List.getElem?_eq_getElem (show k < zs.length by omega)]

set_option maxRecDepth 100000 in
theorem intRow_light {A : Option Addr} {L : Nat} {zs : List Int} (h : Light 23 (intRow (H := H) .i64 A L zs)) (hA : A ≠ none) : zs.length ≤ 17592186044416 := by
  cases A with
  | none => exact absurd rfl hA
  | some a =>
    have h2 : ((zs.take L).length + (zs.drop L).length) * 8 ≤ reachBytes := h _ (by
      simp only [intRow, DataW.weights, Try.underlying23, bytesInt, lits, List.length_map]
      exact List.mem_cons_self ..)
    rw [reach_is] at h2
    simp at h2
    omega

set_option maxRecDepth 100000 in
/-- Rows as an argument. -/
theorem open_rows {v : Value} {d : DataW H} {ps : List MemPlace} (hs : ∃ a n c, v = .slice a n c) (h : DataW.Trod enc Try.prog W 0 (fun _ => true) true 22 v d ps) (hl : Light 22 d) : ∃ rows, Rows2 W v rows := by
  obtain ⟨a0, len, cap, rfl⟩ := hs
  obtain ⟨fuel, hf⟩ := h
  rcases open_int_rows Try.underlying22 Try.underlying23 Try.underlying3 cellsRow cellsInt hf with ⟨hcs, -⟩ | ⟨a, len', cap', A, L, C, Z, hcs, -, hle, hm, hx, hrows⟩
  · simp [Value.cells] at hcs
    obtain ⟨rfl, rfl, rfl⟩ := hcs
    exact ⟨[], Rows2.nil _ _ _⟩
  · simp [Value.cells] at hcs
    obtain ⟨rfl, rfl, rfl⟩ := hcs
    simp only [Prod.mk.injEq] at hx
    have hlen : cap * 24 ≤ reachBytes := by
      have := hl ((len + (cap - len)) * 24) (by
        rw [hx.1]
        simp only [DataW.weights, Try.underlying22, bytesRow, List.length_map, List.length_range]
        exact List.mem_cons_self ..)
      rwa [show len + (cap - len) = cap by omega] at this
    rw [reach_is] at hlen
    have hrow : ∀ r, r < len → ∃ zs : List Int, Ints W (.slice (A r) (L r) (C r)) zs := fun r hr => by
      obtain ⟨h1, h2, h3, h4, h5, h6, h7⟩ := hrows r (by omega)
      cases hA : A r with
      | none =>
        have := h6 hA
        have hL : L r = 0 := by omega
        rw [hL]; exact ⟨[], Ints.nil _ _ _⟩
      | some a' =>
        obtain ⟨-, hcell⟩ := h7 a' hA
        have hlt : Light 23 (intRow (H := H) .i64 (A r) (L r) (Z r)) := fun n hn => hl n (by
          rw [hx.1]
          simp only [DataW.weights, Try.underlying22]
          refine List.mem_cons_of_mem _ (List.mem_append_left _ (weightsAll_mem (List.mem_map.2 ⟨r, List.mem_range.2 hr, rfl⟩) hn)))
        have hzl := intRow_light hlt (by rw [hA]; simp)
        refine ⟨(Z r).take (L r), some a', C r, by simp [h4, h2], by simp; omega, by simp; omega, fun z hzz => wf_r64 (h5 z (List.mem_of_mem_take hzz)), fun k hk => ?_⟩
        simp at hk
        obtain ⟨b, o, sp⟩ := a'
        have hsp : sp = none := by
          have h0 := World.cell?_spot (hcell 0 (by omega))
          simpa [Addr.add] using h0
        subst hsp
        refine ⟨b, o, rfl, ?_⟩
        rw [← add_plain, hcell k (by omega)]
        simp [List.getD, List.getElem?_eq_getElem (show k < (Z r).length by omega)]
    obtain ⟨f, hfz⟩ : ∃ f : Nat → List Int, ∀ r, r < len → Ints W (.slice (A r) (L r) (C r)) (f r) :=
      ⟨fun r => if hr : r < len then (hrow r hr).choose else [], fun r hr => by simp only [dif_pos hr]; exact (hrow r hr).choose_spec⟩
    refine ⟨(List.range len).map f, some a, cap, by simp, by simp [hle], by simp; omega, fun k hk => ?_⟩
    simp at hk
    obtain ⟨b, o, sp⟩ := a
    have hsp : sp = none := by
      have h0 := World.cell?_spot (hrows 0 (by omega)).1
      simpa [Addr.add] using h0
    subst hsp
    refine ⟨b, o, .slice (A k) (L k) (C k), rfl, ?_, ?_⟩
    · rw [← add_plain]; exact (hrows k (by omega)).1
    · simpa using hfz k hk

set_option maxRecDepth 100000 in
theorem trodAll_below {W' : World} (hb : Below W.heap.size W W') : ∀ {ts : List TypeId} {vs : List Value} {ds : List (DataW H)} {ps : List MemPlace}, (∀ t ∈ ts, Try.prog.readableRec t = true ∧ t < Try.prog.types.size) →
    DataW.TrodAll enc Try.prog W 0 (fun _ => true) true ts vs ds ps → (∀ x ∈ ps, x.block < W.heap.size) → DataW.TrodAll enc Try.prog W' 0 (fun b => decide (b < W.heap.size)) true ts vs ds ps
  | [], vs, ds, ps, _, h, _ => by
    obtain ⟨rfl, rfl, rfl⟩ := trodAll_nil h
    exact trodAll_mk0
  | t :: ts, vs, ds, ps, ht, h, hlt => by
    obtain ⟨v, vs', d, ds', p, q, rfl, rfl, rfl, h1, h2⟩ := trodAll_cons h
    exact trodAll_cons_mk (Below.trod laidOutP (ht t (by simp)).1 (ht t (by simp)).2 h1 hb (fun x hx => hlt x (List.mem_append_left _ hx)))
      (trodAll_below hb (fun t' ht' => ht t' (by simp [ht'])) h2 (fun x hx => hlt x (List.mem_append_right _ hx)))

set_option maxRecDepth 100000 in
/-- A law's post, where the call returned true and all that there was is as it was. -/
theorem law_post {f : Func} {s : ChangeSpec} {W' : World} {args : Array Value} {ds : List (DataW H)} {before : List MemPlace} {apart : Bool} (hvars : s.vars = []) (hres : f.resultTypes = #[4])
    (hts : (f.params.toList.all fun t => Try.prog.readableRec t && decide (t < Try.prog.types.size)) = true) (hA : DataW.TrodAll enc Try.prog W 0 (fun _ => true) true f.params.toList args.toList ds before)
    (hW : DataW.Whole enc Try.prog f.params.toList s.vars apart W args.toList ds [] before) (hb : Below W.heap.size W W') (hfn : s.fn H (ds ++ []) = { results := [.lit (.bool true)], args := ds }) :
    s.post enc Try.prog f apart true false false W args (.bool true) W' := by
  refine ⟨ds, [], before, [], before, [], hW, ?_, ?_, ?_, hb.frame _, fun h => by cases h⟩
  · rw [hfn, hres]; exact trodAll_mk1 (shut_bool Try.underlying4 true)
  · rw [hfn]; exact trodAll_below hb (fun t ht => by have := List.all_eq_true.1 hts t ht; simpa using this) hA (fun x hx => by simpa using hW.lt x hx)
  · rw [hfn, hvars]; rfl

end
end Go.Proofs.Ytjjoadmkpbmhpaa

namespace Go.Proofs.Ytjjoadmkpbmhpaa
open Go.ChangeShapes Go.WideShapes Go.ChangeAt Go.RowKit Go.Deep Go.Joins

theorem wf_u32 {n : Int} (h : (Lit.int .u32 n).wf = true) : 0 ≤ n ∧ n < 4294967296 := by
  simp [Lit.wf, IntKind.min, IntKind.max, IntKind.signed, IntKind.bits] at h
  omega
set_option maxRecDepth 100000 in
theorem cellsWord : Try.prog.cellsOf 70 = 1 := by kernel_rfl
set_option maxRecDepth 100000 in
theorem bytesWord : Try.prog.bytesOf 70 = 4 := by kernel_rfl
set_option maxRecDepth 100000 in
theorem cellsProgram : Try.prog.cellsOf 25 = 2 := by kernel_rfl

section
variable {H : Type} {enc : TypeId × Value → H} {W : World} {base : Nat}

set_option maxRecDepth 100000 in
/-- A list of words as an argument. -/
theorem open_words {v : Value} {d : DataW H} {ps : List MemPlace} (hs : ∃ a n c, v = .slice a n c) (h : DataW.Trod enc Try.prog W 0 (fun _ => true) true 26 v d ps) (hl : Light 26 d) : ∃ zs, Words W v zs := by
  obtain ⟨a0, len, cap, rfl⟩ := hs
  obtain ⟨fuel, hf⟩ := h
  rcases open_ints Try.underlying26 Try.underlying70 cellsWord hf with ⟨hcs, -⟩ | ⟨a, len', cap', zs, hcs, -, hle, hm, hz, hx, hcell, hwf⟩
  · simp [Value.cells] at hcs
    obtain ⟨rfl, rfl, rfl⟩ := hcs
    exact ⟨[], Words.nil _ _ _⟩
  · simp [Value.cells] at hcs
    obtain ⟨rfl, rfl, rfl⟩ := hcs
    simp only [if_true] at hz
    simp only [Prod.mk.injEq] at hx
    have hlen : cap ≤ 35184372088832 := by
      have := hl ((zs.take len).length + (zs.drop len).length |>.mul 4) (by
        rw [hx.1]
        simp only [DataW.weights, Try.underlying26, bytesWord, lits, List.length_map]
        exact List.mem_cons_self ..)
      have h2 : ((zs.take len).length + (zs.drop len).length) * 4 ≤ reachBytes := this
      rw [reach_is] at h2
      simp at h2
      omega
    refine ⟨zs.take len, some a, cap, by simp [hz, hle], by simp; omega, by simp; omega, fun z hzz => wf_u32 (hwf z (List.mem_of_mem_take hzz)), fun k hk => ?_⟩
    simp at hk
    have hc := hcell k (by omega)
    obtain ⟨b, o, sp⟩ := a
    have hsp : sp = none := by
      have h0 := World.cell?_spot (hcell 0 (by omega))
      simpa [Addr.add] using h0
    subst hsp
    refine ⟨b, o, rfl, ?_⟩
    rw [← add_plain, hc]
    simp [List.getD, List.getElem?_eq_getElem (show k < zs.length by omega)]

set_option maxRecDepth 100000 in
/-- A program as an argument. -/
theorem open_program {v : Value} {d : DataW H} {ps : List MemPlace} (hv : Value.okWide Try.prog W .any base 25 v) (h : DataW.Trod enc Try.prog W 0 (fun _ => true) true 25 v d ps) (hl : Light 25 d) :
    ∃ rv ov rows owners, v = .agg #[rv, ov] ∧ Rows2 W rv rows ∧ Ints W ov owners := by
  obtain ⟨v0, v1, y0, y1, n, rfl, rfl, -, h0, h1⟩ := open_agg2 Try.underlying25 (by kernel_rfl) cellsProgram hv h
  obtain ⟨a0, l0, c0, e0⟩ := slice_form Try.underlying22 h0
  obtain ⟨a1, l1, c1, e1⟩ := slice_form Try.underlying23 h1
  simp only [List.cons.injEq, and_true] at e0 e1
  subst e0 e1
  have hw : ∀ m, m ∈ y0.1.weights Try.prog 22 ++ (y1.1.weights Try.prog 23 ++ []) → m ≤ reachBytes := fun m hm => hl m (by
    simp only [DataW.weights, Try.underlying25]
    exact hm)
  obtain ⟨rows, hr⟩ := open_rows ⟨_, _, _, rfl⟩ (v := .slice a0 l0 c0) (d := y0.1) (ps := y0.2) ⟨n, h0⟩ (fun m hm => hw m (List.mem_append_left _ hm))
  obtain ⟨owners, ho⟩ := open_list ⟨_, _, _, rfl⟩ (v := .slice a1 l1 c1) (d := y1.1) (ps := y1.2) ⟨n, h1⟩ (fun m hm => hw m (List.mem_append_right _ (List.mem_append_left _ hm)))
  exact ⟨_, _, rows, owners, rfl, hr, ho⟩
end

end Go.Proofs.Ytjjoadmkpbmhpaa

namespace Go.Proofs.Ytjjoadmkpbmhpaa
open Go.RowKit FP

end Go.Proofs.Ytjjoadmkpbmhpaa

namespace Go.Proofs.Ytjjoadmkpbmhpaa
open Go.RowKit FP

set_option maxRecDepth 100000 in
theorem mv_val (ep : Int) (rv ov cv rv2 ov2 cmv lv wv rwv : Value) (rows : List (List Int)) (owners cs : List Int) (rows2 : List (List Int)) (owners2 who rws : List Int) (css : List (List Int)) (ls : List (List (Int × Int))) (C : List Int) (L : List (Int × Int)) (w : World) (hR : Rows2 w rv rows) (hO : Ints w ov owners) (hC : Ints w cv cs) (hR2 : Rows2 w rv2 rows2) (hO2 : Ints w ov2 owners2) (hCS : Rows2 w cmv css) (hLS : SRows w lv ls) (hWH : Ints w wv who) (hRW : Ints w rwv rws)
    (h : mvE rows owners ep cs rows2 owners2 who rws css ls = 0 ∧ mvC css rws (accY rows owners who) (colsQ rows2) = C ∧ mvL ls rws (accY rows owners who) = L) :
    Calls Try.prog 12 #[.agg #[.int .i64 ep, rv, ov, cv], .agg #[rv2, ov2], wv, rwv, cmv, lv] w fun e w' => ∃ kv l', e = .returned (.tuple #[.agg #[.int .i64 (ep + 1), rv2, ov2, kv], l', .int .i64 0]) ∧ RI w' kv C ∧ RS w' l' L ∧ Below w.heap.size w w' := by
  obtain ⟨h1, rfl, rfl⟩ := h
  refine (mMove_any ep rv ov cv rv2 ov2 cmv lv wv rwv rows owners cs rows2 owners2 who rws css ls w hR hO hC hR2 hO2 hCS hLS hWH hRW).mono ?_
  rintro e w' ⟨E', rv', ov', kv, lv', rfl, hY, -, hb⟩
  obtain ⟨rfl, rfl, rfl, hi, hs⟩ := hY h1
  exact ⟨_, _, by rw [h1], hi, hs, hb⟩
set_option maxRecDepth 100000 in
theorem mv_err (ep : Int) (rv ov cv rv2 ov2 cmv lv wv rwv : Value) (rows : List (List Int)) (owners cs : List Int) (rows2 : List (List Int)) (owners2 who rws : List Int) (css : List (List Int)) (ls : List (List (Int × Int))) (c : Int) (w : World) (hR : Rows2 w rv rows) (hO : Ints w ov owners) (hC : Ints w cv cs) (hR2 : Rows2 w rv2 rows2) (hO2 : Ints w ov2 owners2) (hCS : Rows2 w cmv css) (hLS : SRows w lv ls) (hWH : Ints w wv who) (hRW : Ints w rwv rws)
    (h : mvE rows owners ep cs rows2 owners2 who rws css ls = c) (h0 : c ≠ 0) :
    Calls Try.prog 12 #[.agg #[.int .i64 ep, rv, ov, cv], .agg #[rv2, ov2], wv, rwv, cmv, lv] w fun e w' => e = .returned (.tuple #[.agg #[.int .i64 0, .slice none 0 0, .slice none 0 0, .slice none 0 0], .slice none 0 0, .int .i64 c]) ∧ Below w.heap.size w w' := by
  subst h
  refine (mMove_any ep rv ov cv rv2 ov2 cmv lv wv rwv rows owners cs rows2 owners2 who rws css ls w hR hO hC hR2 hO2 hCS hLS hWH hRW).mono ?_
  rintro e w' ⟨E', rv', ov', kv, lv', rfl, -, hN, hb⟩
  obtain ⟨rfl, rfl, rfl, rfl, rfl⟩ := hN h0
  exact ⟨rfl, hb⟩
set_option maxRecDepth 100000 in
theorem md_val (ep : Int) (rv ov cv rv2 ov2 mv : Value) (r v : Int) (rows : List (List Int)) (owners cs : List Int) (rows2 : List (List Int)) (owners2 rnd : List Int) (w : World) (hR : Rows2 w rv rows) (hO : Ints w ov owners) (hC : Ints w cv cs) (hR2 : Rows2 w rv2 rows2) (hO2 : Ints w ov2 owners2) (hM : Ints w mv rnd) (hr : R64 r) (hv : R64 v) (h : mdE rows owners ep cs rows2 owners2 r v rnd = 0) :
    Calls Try.prog 16 #[.agg #[.int .i64 ep, rv, ov, cv], .agg #[rv2, ov2], .agg #[.int .i64 r, .int .i64 v], mv] w fun e w' => ∃ al cl ac cc, e = .returned (.tuple #[.slice al (dealL rows2 (v :: rnd)).length cl, .slice ac (dealC (v :: rnd)).length cc, .int .i64 0]) ∧ RS w' (.slice al (dealL rows2 (v :: rnd)).length cl) (dealL rows2 (v :: rnd)) ∧ RI w' (.slice ac (dealC (v :: rnd)).length cc) (dealC (v :: rnd)) ∧ (∀ b, (Value.slice ac (dealC (v :: rnd)).length cc).ownBlock = some b → w.heap.size ≤ b) ∧ Below w.heap.size w w' := by
  refine (mDeal_any ep rv ov cv rv2 ov2 mv r v rows owners cs rows2 owners2 rnd w hR hO hC hR2 hO2 hM hr hv).mono ?_
  rintro e w' ⟨lv, kv, rfl, hs, hi, hf, hb⟩
  rw [if_pos h] at hs hi
  obtain ⟨al, cl, rfl, -⟩ := id hs.1
  obtain ⟨ac, cc, rfl, -⟩ := id hi.1
  exact ⟨_, _, _, _, by rw [h], hs, hi, hf, hb⟩
set_option maxRecDepth 100000 in
theorem mf_val (ep : Int) (rv ov cv rv2 ov2 lv : Value) (row : Int) (rows : List (List Int)) (owners cs : List Int) (rows2 : List (List Int)) (owners2 c : List Int) (b : Bool) (e : Int) (w : World) (hR : Rows2 w rv rows) (hO : Ints w ov owners) (hC : Ints w cv cs) (hR2 : Rows2 w rv2 rows2) (hO2 : Ints w ov2 owners2) (hL : Ints w lv c) (hr : R64 row) (h : mfE rows owners ep cs rows2 owners2 row c = e ∧ mfB rows owners ep cs rows2 owners2 row c = b) :
    Calls Try.prog 11 #[.agg #[.int .i64 ep, rv, ov, cv], .agg #[rv2, ov2], .int .i64 row, lv] w fun r w' => r = .returned (.tuple #[.bool b, .int .i64 e]) ∧ Below w.heap.size w w' := by
  obtain ⟨rfl, rfl⟩ := h
  exact mFits_any ep rv ov cv rv2 ov2 lv row rows owners cs rows2 owners2 c w hR hO hC hR2 hO2 hL hr

/-! The examples. -/
abbrev X1 : List (List Int) := [[1]]
abbrev B3 : List Int := [1, 2, 3]
abbrev CX : List Int := dealC [1000]
abbrev CB : List Int := dealC [1000, 7]
abbrev SB : List (Int × Int) := dealL R3 [1000, 7]
theorem exo_ok : DealOK X1 [5] 1000 [] := dealE_ok (by decide)
theorem exo_p : progE X1 [5] = 0 := by decide
theorem exo_p2 : progE R3 B3 = 0 := by decide
theorem exo_ok2 : DealOK R3 B3 1000 [7] := dealE_ok (by decide)
theorem exo_l : SB = [(0, 1007), (1, 1014), (2, 1021)] := by decide
theorem exo_k (ep : Int) (h0 : 0 ≤ ep) (h1 : ep ≤ 64) : chkE X1 [5] ep CX R3 B3 = 0 := by
  unfold chkE
  rw [if_neg (by simp [exo_p]), key_deal exo_ok exo_p h0 h1, if_neg (by simp), exo_p2]
theorem exo_d : mdE X1 [5] 3 CX R3 B3 0 1000 [7] = 0 := by
  have h := (fit_deal exo_ok exo_p (k := 0) (by decide) (v := 1000) (by decide)).2
  rw [show prodQ (X1.getD 0 []) [1000] = 1000 by decide, decide_eq_true rfl] at h
  unfold mdE
  rw [exo_k 3 (by decide) (by decide), if_neg (by decide), if_neg (by rw [show fitB X1 [5] CX 0 1000 = true from h]; decide)]
  decide
theorem exo_m : fitM X1 [5] CX R3 0 CB = true := by
  have h := fitM_deal exo_ok exo_p (r := 0) (by decide) exo_ok2 exo_p2
  rw [show prodQ (X1.getD (0 : Int).toNat []) [1000] = 1000 by decide, decide_eq_true rfl] at h
  exact h
theorem exo_f1 : mfE X1 [5] 3 CX R3 B3 0 CB = 0 ∧ mfB X1 [5] 3 CX R3 B3 0 CB = true := by
  have h : mfE X1 [5] 3 CX R3 B3 0 CB = 0 := by
    unfold mfE
    rw [exo_k 3 (by decide) (by decide), if_neg (by decide), if_neg (by decide), (com_deal_B exo_ok2 exo_p2).1]; rfl
  exact ⟨h, by unfold mfB; rw [h, exo_m]; rfl⟩
theorem exo_f2 : mfE X1 [5] 3 CX R3 B3 (-1) [] = 1 ∧ mfB X1 [5] 3 CX R3 B3 (-1) [] = false := by
  have h : mfE X1 [5] 3 CX R3 B3 (-1) [] = 1 := by
    unfold mfE
    rw [exo_k 3 (by decide) (by decide), if_neg (by decide), if_pos (by decide)]
  exact ⟨h, by unfold mfB; rw [h]; rfl⟩
theorem exo_f3 : mfE X1 [5] 3 CX R3 B3 0 [] = 340 ∧ mfB X1 [5] 3 CX R3 B3 0 [] = false := by
  have h : mfE X1 [5] 3 CX R3 B3 0 [] = 340 := by
    unfold mfE
    rw [exo_k 3 (by decide) (by decide), if_neg (by decide), if_neg (by decide), if_pos (by decide)]
  exact ⟨h, by unfold mfB; rw [h]; rfl⟩
theorem exo_a : accOk X1 [5] [5] = true ∧ accY X1 [5] [5] = [1] := by
  have h := comb_same (rows := [[1]]) (t := [1]) (right_lit _ _ (by decide)) (num_lit _ (by decide))
  have hk : combOk [[1]] [1] = true ∧ combY [[1]] [1] = [1] := by
    unfold combOk combY combM; rw [redM_E]; decide +kernel
  have hp : pownR X1 [5] [5] = [[1]] := by decide +kernel
  have hB : accOk X1 [5] [5] = true := by
    unfold accOk
    rw [show questE X1 [5] [5] = 0 by decide, hp]
    show (true && rcombOk [[1]] [1]) = true
    rw [← h.1, hk.1]; rfl
  refine ⟨hB, ?_⟩
  unfold accY accN
  rw [if_pos hB, hp, show tgt (colsQ X1) = [1] by decide +kernel, ← h.2, hk.2]
  decide +kernel
theorem exo_b : accOk X1 [5] [] = false := by
  have h := comb_same (rows := []) (t := [1]) (right_lit _ _ (by decide)) (num_lit _ (by decide))
  have hk : combOk [] [1] = false := by
    unfold combOk combM; rw [redM_E]; decide +kernel
  have hp : pownR X1 [5] [] = [] := by decide +kernel
  unfold accOk
  rw [show questE X1 [5] [] = 0 by decide, hp]
  show (true && rcombOk [] [1]) = false
  rw [← h.1, hk]; rfl
theorem exo_v1 : mvE X1 [5] 3 CX R3 B3 [5] [0] [CB] [SB] = 0 ∧ mvC [CB] [0] (accY X1 [5] [5]) (colsQ R3) = CB ∧ mvL [SB] [0] (accY X1 [5] [5]) = SB := by
  have ho : ownN [5] [5] ([5] : List Int).length = [0] := by decide
  obtain ⟨u', hu, -, h1, h2, h3⟩ := mov_deal (rows := X1) (owners := [5]) (x := 1000) (ep := 3) (u := []) (rows2 := R3) (owners2 := B3) (who := [5]) (vs := fun _ => [1000, 7]) (K := List.range R3.length) (css := [CB]) (ls := [SB])
    ⟨exo_ok, exo_p, exo_p2, by rw [ho]; rfl, by rw [ho]; rfl, List.Sublist.refl _, fun i hi => by
      rw [ho] at hi ⊢
      obtain rfl : i = 0 := by simp at hi; omega
      exact ⟨rfl, rfl, [7], by decide, exo_ok2⟩⟩ (by decide) (by decide) (by decide) exo_a.1
  rw [ho, exo_a.2] at hu h2 h3
  rw [ho] at h1
  obtain rfl : u' = [7] := hu.trans (by decide)
  rw [exo_a.2]
  exact ⟨h1, h2, h3⟩
theorem exo_v2 : mvE X1 [5] 3 CX R3 B3 [] [] [] [] = 340 := by
  unfold mvE
  rw [exo_k 3 (by decide) (by decide), if_neg (by decide), if_neg (by decide), if_neg (by decide), if_pos (by rw [exo_b]; decide)]
theorem exo_v3 : mvE X1 [5] 64 CX R3 B3 [] [] [] [] = 2 := by
  unfold mvE
  rw [exo_k 64 (by decide) (by decide), if_neg (by decide), if_pos (by decide)]

set_option maxRecDepth 100000 in
set_option maxHeartbeats 4000000 in
theorem one39_any (x : Int) (w : World) (hx : R64 x) :
    Calls Try.prog 18 #[.int .i64 x] w fun r w' => ∃ a c b d, r = .returned (.agg #[.slice a 1 c, .slice b 1 d]) ∧ Rows2 w' (.slice a 1 c) X1 ∧ Ints w' (.slice b 1 d) [x] ∧ Below w.heap.size w w' := by
  have HX := Lib.hid hx
  have H1 := Lib.hid (show R64 1 from R64.mk (by omega) (by omega))
  clear hx
  go_enter Try.func18, Try.ntmps18
  go_wp2_with fail
  refine bodyPost_ret (v := .agg #[.slice (some ⟨w.heap.size + 1 + 1, 0, none⟩) 1 1, .slice (some ⟨w.heap.size + 1 + 1 + 1, 0, none⟩) 1 1]) (by simp [results, Try.results18, go_sem]) rfl ?_
  refine ⟨_, _, _, _, rfl, rows_of1 (r := .slice (some ⟨w.heap.size + 1, 0, none⟩) 1 1) (by simp [go_sem]) (ints_of1 (by simp [go_sem]) H1.out (Nat.le_refl _)) (Nat.le_refl _), ints_of1 (by simp [go_sem]) HX.out (Nat.le_refl _), ?_⟩
  repeat (first | exact Below.refl _ _ | refine Below.setCell ?_ (by simp; try omega) _ | refine Below.alloc ?_ (by simp; try omega) _ | refine Below.drew ?_)

set_option maxRecDepth 100000 in
set_option maxHeartbeats 4000000 in
theorem board39_any (w : World) :
    Calls Try.prog 19 #[] w fun r w' => ∃ a c b d, r = .returned (.agg #[.slice a 3 c, .slice b 3 d]) ∧ Rows2 w' (.slice a 3 c) R3 ∧ Ints w' (.slice b 3 d) B3 ∧ Below w.heap.size w w' := by
  have r : ∀ x : Int, -10 ≤ x ∧ x ≤ 10 → R64 x := fun x h => R64.mk (by omega) (by omega)
  have HR := Lib.hid r
  clear r
  go_enter Try.func19, Try.ntmps19
  go_wp2_with fail
  refine bodyPost_ret (v := .agg #[.slice (some ⟨w.heap.size + 1 + 1 + 1 + 1, 0, none⟩) 3 3, .slice (some ⟨w.heap.size + 1 + 1 + 1 + 1 + 1, 0, none⟩) 3 3]) (by simp [results, Try.results19, go_sem]) rfl ?_
  refine ⟨_, _, _, _, rfl, rows_of3 (r := .slice (some ⟨w.heap.size + 1, 0, none⟩) 2 2) (s := .slice (some ⟨w.heap.size + 1 + 1, 0, none⟩) 2 2) (t := .slice (some ⟨w.heap.size + 1 + 1 + 1, 0, none⟩) 2 2) (by simp [go_sem]) (by simp [go_sem]) (by simp [go_sem])
    (ints_of2 (by simp [go_sem]) (by simp [go_sem]) (HR.out _ (by omega)) (HR.out _ (by omega)) (Nat.le_refl _)) (ints_of2 (by simp [go_sem]) (by simp [go_sem]) (HR.out _ (by omega)) (HR.out _ (by omega)) (Nat.le_refl _)) (ints_of2 (by simp [go_sem]) (by simp [go_sem]) (HR.out _ (by omega)) (HR.out _ (by omega)) (Nat.le_refl _)) (Nat.le_refl _),
    ints_of3 (by simp [go_sem]) (by simp [go_sem]) (by simp [go_sem]) (HR.out _ (by omega)) (HR.out _ (by omega)) (HR.out _ (by omega)) (Nat.le_refl _), ?_⟩
  repeat (first | exact Below.refl _ _ | refine Below.setCell ?_ (by simp; try omega) _ | refine Below.alloc ?_ (by simp; try omega) _ | refine Below.drew ?_)

end Go.Proofs.Ytjjoadmkpbmhpaa

namespace Go.Proofs.Ytjjoadmkpbmhpaa
open Go.RowKit FP

def projV (k : Nat) (t : Value) : Value := match t with
  | .tuple xs => xs.getD k undef
  | _ => undef
def RenOut (rv ov : Value) (rows : List (List Int)) (x : Int) (u y : List Int) (w : World) (t : Value) : Prop :=
  ∃ al cl ac cc ad cd ay cy, t = .tuple #[.agg #[.int .i64 0, rv, ov, .slice ac (colsQ rows) cc], .agg #[.int .i64 1, rv, ov, .slice ad (colsQ rows) cd], .slice al rows.length cl, .slice ay rows.length cy, .bool true] ∧
      Ints w (.slice ac (colsQ rows) cc) (dealC (x :: u)) ∧ Ints w (.slice ad (colsQ rows) cd) (dealC (x :: y)) ∧ Shares w (.slice al rows.length cl) (dealL rows (x :: u)) ∧ Shares w (.slice ay rows.length cy) (dealL rows (x :: y))
theorem RenOut.below {rv ov : Value} {rows : List (List Int)} {x : Int} {u y : List Int} {w w' : World} {t : Value} (h : RenOut rv ov rows x u y w t) (hb : Below w.heap.size w w') : RenOut rv ov rows x u y w' t := by
  obtain ⟨al, cl, ac, cc, ad, cd, ay, cy, e, h1, h2, h3, h4⟩ := h
  exact ⟨al, cl, ac, cc, ad, cd, ay, cy, e, h1.below hb, h2.below hb, h3.below hb, h4.below hb⟩
abbrev zeroK : Array Value := #[.int .i64 0, .slice none 0 0, .slice none 0 0, .slice none 0 0]
theorem RenOut.put {rv ov : Value} {rows : List (List Int)} {x : Int} {u y : List Int} {w : World} {t : Value} {B : Nat} {ty : TypeId} (h : RenOut rv ov rows x u y w t) (hS : w.heap[B]? = some (.cells zeroK ty (0, 0))) (e a b c : Value) : RenOut rv ov rows x u y (putKey w B e a b c) t := by
  obtain ⟨al, cl, ac, cc, ad, cd, ay, cy, e1, h1, h2, h3, h4⟩ := h
  exact ⟨al, cl, ac, cc, ad, cd, ay, cy, e1, h1.keyW0 hS (dealC_pos _) _ _ _ _, h2.keyW0 hS (dealC_pos _) _ _ _ _, h3.keyW0 hS _ _ _ _, h4.keyW0 hS _ _ _ _⟩
def aggC : Value → Array Value
  | .agg xs => xs
  | _ => #[]
/-- A box that a drawn region makes, and stores a key into. -/
def KeyBox (n0 : Nat) (ty : TypeId) (w : World) (d s : Bool) (v c : Value) : Prop := d = true → ∃ B, v = .pointer (some ⟨B, 0, none⟩) ∧ n0 ≤ B ∧ B < w.heap.size ∧ w.heap[B]? = some (.cells (if s = true then aggC c else zeroK) ty (0, 0))
structure Boxes (n0 : Nat) (ty : TypeId) (w : World) (dA dB sA sB : Bool) (vA vB cA cB : Value) : Prop where
  a0 : KeyBox n0 ty w dA sA vA cA
  b0 : KeyBox n0 ty w dB sB vB cB
  ne : dA = true → dB = true → vA ≠ vB
theorem KeyBox.below {n0 : Nat} {ty : TypeId} {w w' : World} {d s : Bool} {v c : Value} (h : KeyBox n0 ty w d s v c) (hb : Below w.heap.size w w') : KeyBox n0 ty w' d s v c := fun hd => by
  obtain ⟨B, e, h1, h2, h3⟩ := h hd
  exact ⟨B, e, h1, Nat.lt_of_lt_of_le h2 hb.size, (hb.block _ h2).trans h3⟩
theorem Boxes.below {n0 : Nat} {ty : TypeId} {w w' : World} {dA dB sA sB : Bool} {vA vB cA cB : Value} (h : Boxes n0 ty w dA dB sA sB vA vB cA cB) (hb : Below w.heap.size w w') : Boxes n0 ty w' dA dB sA sB vA vB cA cB := ⟨h.a0.below hb, h.b0.below hb, h.ne⟩
theorem Boxes.symm {n0 : Nat} {ty : TypeId} {w : World} {dA dB sA sB : Bool} {vA vB cA cB : Value} (h : Boxes n0 ty w dA dB sA sB vA vB cA cB) : Boxes n0 ty w dB dA sB sA vB vA cB cA := ⟨h.b0, h.a0, fun h1 h2 e => h.ne h2 h1 e.symm⟩
theorem Boxes.nil (n0 : Nat) (ty : TypeId) (w : World) (vA vB cA cB : Value) : Boxes n0 ty w false false false false vA vB cA cB := ⟨(fun h => by cases h), (fun h => by cases h), (fun h => by cases h)⟩
theorem Boxes.other {n0 : Nat} {ty : TypeId} {w : World} {dA dB sA sB : Bool} {vA vB cA cB cA' cB' : Value} (h : Boxes n0 ty w dA dB sA sB vA vB cA cB) (hA : sA = false) (hB : sB = false) : Boxes n0 ty w dA dB sA sB vA vB cA' cB' := by
  subst hA hB
  exact ⟨h.a0, h.b0, h.ne⟩
theorem Boxes.allocA {n0 : Nat} {ty : TypeId} {w : World} {dA dB sA sB : Bool} {vA vB cA cB : Value} (h : Boxes n0 ty w dA dB sA sB vA vB cA cB) (hs : sA = false) (hn : n0 ≤ w.heap.size) : Boxes n0 ty (w.alloc (.cells zeroK ty)) true dB sA sB (.pointer (some ⟨w.heap.size, 0, none⟩)) vB cA cB := by
  refine ⟨fun _ => ⟨w.heap.size, rfl, hn, by simp, ?_⟩, h.b0.below (below_new _ _ _), fun _ hd e => ?_⟩
  · rw [hs, if_neg (by decide)]
    exact World.alloc_heap_new _ _
  · obtain ⟨B, e1, h1, h2, -⟩ := h.b0 hd
    rw [e1] at e
    simp only [Value.pointer.injEq, Option.some.injEq, Addr.mk.injEq] at e
    omega
theorem Boxes.storeA {n0 : Nat} {ty : TypeId} {w : World} {dA dB sA sB : Bool} {vA vB cA cB : Value} {B : Nat} (h : Boxes n0 ty w dA dB sA sB vA vB cA cB) (hv : vA = .pointer (some ⟨B, 0, none⟩)) (hd : dA = true) {e a b c : Value} (hc : cA = .agg #[e, a, b, c]) (hS : w.heap[B]? = some (.cells zeroK ty (0, 0))) : Boxes n0 ty (putKey w B e a b c) dA dB true sB vA vB cA cB := by
  obtain ⟨B', e1, h1, h2, -⟩ := h.a0 hd
  have e2 : B' = B := by
    rw [hv] at e1
    simp only [Value.pointer.injEq, Option.some.injEq, Addr.mk.injEq] at e1
    exact e1.1.symm
  subst e2
  have hsz : ∀ B, B < w.heap.size → B < (putKey w B' e a b c).heap.size := fun B hB => by
    have := (keyW_below (n := 0) (Below.refl 0 w) (Nat.zero_le B') e a b c).size
    omega
  refine ⟨fun _ => ⟨B', hv, h1, hsz _ h2, ?_⟩, fun hb => ?_, h.ne⟩
  · rw [if_pos rfl, hc]
    exact keyW_heap hS _ _ _ _
  · obtain ⟨B2, e3, h3, h4, h5⟩ := h.b0 hb
    refine ⟨B2, e3, h3, hsz _ h4, ?_⟩
    rw [keyW_other w (show B2 ≠ B' from fun e => h.ne hd hb (by rw [hv, e3, e])), h5]
end Go.Proofs.Ytjjoadmkpbmhpaa
