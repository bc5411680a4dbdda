/- Package dealing: right, Fits. A range over a function of this program whose iterator lays new memory between two rounds. slices.AppendSeq, slices.Collect, of an iterator that hands on rows. -/
import Derived.Test.YtggnipkfliompaaGreatDoorMDeaF
import Derived.Test.YtggnipkfliompaaGreatDoorMRange
set_option maxHeartbeats 4000000
set_option maxRecDepth 100000
namespace Go.Proofs.YtggnipkfliompaaGreatDoor
open Go.RowKit FP
def rightS (rows : List (List Int)) (r v : Int) : Bool := decide (0 ≤ r) && (decide (r < (rows.length : Int)) && !oddQ v)
theorem rightS_iff {rows : List (List Int)} {r v : Int} : rightS rows r v = true ↔ (0 ≤ r ∧ r < (rows.length : Int)) ∧ 0 ≤ v ∧ v < 1073741789 := by
 unfold rightS
 rw [Bool.and_eq_true, Bool.and_eq_true, decide_eq_true_eq, decide_eq_true_eq, Bool.not_eq_true']
 constructor
 ·rintro ⟨a, b, c⟩; exact ⟨⟨a, b⟩, oddQ_num c⟩
 ·rintro ⟨⟨a, b⟩, c⟩; exact ⟨a, b, oddQ_of c⟩
theorem dright_any (rv ov : Value) (rows : List (List Int)) (owners : List Int) (r v : Int) (w : World) (hR : Rows2 w rv rows) (hO : Ints w ov owners) (hv : R64 v) :
  Calls Tryz.prog 113 #[.agg #[rv, ov], .agg #[.int .i64 r, .int .i64 v]] w fun e w' => e = .returned (.bool (rightS rows r v)) ∧ Below w.heap.size w w' := by
 obtain ⟨W1, hW1, hb1, hr1, hz⟩ := box_prog w rv ov 25
 obtain ⟨W2, hW2, hb2, hr2, hz2⟩ := box_prog W1 (.int .i64 r) (.int .i64 v) 68
 obtain ⟨a, cap, rfl, -, hlen, -⟩ := id hR
 obtain ⟨a2, cap2, rfl, -, hlen2, -⟩ := id hO
 have hsz : W1.heap.size = w.heap.size + 1 := by rw [hW1]; simp
 have c0 : W2.cell? ⟨w.heap.size, 0, none⟩ = some (.slice a rows.length cap) := below_cell hb2 (row_cell hr1 rfl)
 have s0 : W2.cell? ⟨w.heap.size + 1, 0, none⟩ = some (.int .i64 r) := by rw [← hsz]; exact row_cell hr2 rfl
 have s1 : W2.cell? ⟨w.heap.size + 1, 1, none⟩ = some (.int .i64 v) := by rw [← hsz]; exact row_cell hr2 rfl
 have HW2 : Hid ((w.alloc (.cells #[.slice a rows.length cap, .slice a2 owners.length cap2] 25)).alloc (.cells #[.int .i64 r, .int .i64 v] 68) = W2) := Lib.hid (by rw [hW2, hW1])
 have HB := Lib.hid (hb1.trans (hb2.mono hb1.size))
 clear hR hO hr1 hr2 hW1 hW2 hb1 hb2 hsz hz hz2
 by_cases h0 : 0 ≤ r
 ·by_cases h1 : r < (rows.length : Int)
  ·have HV := Lib.hid (show rightS rows r v = !oddQ v by unfold rightS; rw [decide_eq_true h0, decide_eq_true h1]; rfl)
   go_enter Tryz.func113, Tryz.ntmps113
   go_wp2_with (rw [HW2.out])
   refine (numbers_any _ [v] _ (ints_one W2 v 3 _ rfl hv)).mono ?_
   rintro e w3 ⟨rfl, hb3⟩
   rw [one_any]
   have hb4 := HB.out.alloc HB.out.size (.cells #[.int .i64 v] 3)
   go_wp2_with fail
   go_ret
   exact ⟨ret_bool HV.out.symm, hb4.trans (hb3.mono hb4.size)⟩
  ·have HV := Lib.hid (show rightS rows r v = false by unfold rightS; rw [decide_eq_false h1]; simp)
   go_enter Tryz.func113, Tryz.ntmps113
   go_wp2_with (rw [HW2.out])
   go_ret
   exact ⟨ret_bool HV.out.symm, HB.out⟩
 ·have HV := Lib.hid (show rightS rows r v = false by unfold rightS; rw [decide_eq_false h0]; rfl)
  go_enter Tryz.func113, Tryz.ntmps113
  go_wp2_with (rw [HW2.out])
  go_ret
  exact ⟨ret_bool HV.out.symm, HB.out⟩
def fitE (rows : List (List Int)) (owners cs : List Int) (r v : Int) : Int :=
 if dchkE rows owners cs ≠ 0 then dchkE rows owners cs else if rightS rows r v = true then 0 else 340
def fitB (rows : List (List Int)) (owners cs : List Int) (r v : Int) : Bool :=
 if fitE rows owners cs r v = 0 then powE 4 v == pubQ (rows.getD r.toNat []) cs else false
theorem fits_any (rv ov cv : Value) (rows : List (List Int)) (owners cs : List Int) (r v : Int) (w : World) (hR : Rows2 w rv rows) (hO : Ints w ov owners) (hC : Ints w cv cs) (hr : R64 r) (hv : R64 v) :
  Calls Tryz.prog 41 #[.agg #[rv, ov], cv, .agg #[.int .i64 r, .int .i64 v]] w fun e w' => e = .returned (.tuple #[.bool (fitB rows owners cs r v), .int .i64 (fitE rows owners cs r v)]) ∧ Below w.heap.size w w' := by
 obtain ⟨W1, hW1, hb1, hr1, hz⟩ := box_prog w rv ov 25
 obtain ⟨W2, hW2, hb2, hr2, hz2⟩ := box_prog W1 (.int .i64 r) (.int .i64 v) 68
 have hsz : W1.heap.size = w.heap.size + 1 := by rw [hW1]; simp
 have hb := hb1.trans (hb2.mono hb1.size)
 have HR2 := Lib.hid (hR.below hb)
 have HO2 := Lib.hid (hO.below hb)
 have HC2 := Lib.hid (hC.below hb)
 have HDC := Lib.hid (dcheck_any rv ov cv rows owners cs W2 HR2.out HO2.out HC2.out)
 obtain ⟨a, cap, rfl, -, hlen, -⟩ := id hR
 obtain ⟨a2, cap2, rfl, -, hlen2, -⟩ := id hO
 obtain ⟨a3, cap3, rfl, -, hlen3, hcr, -⟩ := id hC
 have c0 : W2.cell? ⟨w.heap.size, 0, none⟩ = some (.slice a rows.length cap) := below_cell hb2 (row_cell hr1 rfl)
 have c1 : W2.cell? ⟨w.heap.size, 1, none⟩ = some (.slice a2 owners.length cap2) := below_cell hb2 (row_cell hr1 rfl)
 have s0 : W2.cell? ⟨w.heap.size + 1, 0, none⟩ = some (.int .i64 r) := by rw [← hsz]; exact row_cell hr2 rfl
 have s1 : W2.cell? ⟨w.heap.size + 1, 1, none⟩ = some (.int .i64 v) := by rw [← hsz]; exact row_cell hr2 rfl
 have HW2 : Hid ((w.alloc (.cells #[.slice a rows.length cap, .slice a2 owners.length cap2] 25)).alloc (.cells #[.int .i64 r, .int .i64 v] 68) = W2) := Lib.hid (by rw [hW2, hW1])
 have HB := Lib.hid hb
 clear hR hO hC hr1 hr2 hW1 hW2 hb1 hb2 hsz hz hz2 hb hcr
 by_cases hp : dchkE rows owners cs = 0
 ·have HP0 := Lib.hid hp
  have HFE := Lib.hid (show fitE rows owners cs r v = if rightS rows r v = true then 0 else 340 by unfold fitE; rw [if_neg (by simp [hp])])
  rw [hp] at HDC
  clear hp
  cases er : rightS rows r v with
  | false =>
   have HV : Hid (fitE rows owners cs r v = 340) := Lib.hid (by rw [HFE.out, er]; rfl)
   have HW : Hid (fitB rows owners cs r v = false) := Lib.hid (by unfold fitB; rw [HV.out]; rfl)
   have HRS := Lib.hid er
   clear er
   go_enter Tryz.func41, Tryz.ntmps41
   go_wp2_with fail
   rw [HW2.out]
   refine HDC.out.mono ?_
   rintro e w3 ⟨rfl, hb3⟩
   have d0 := below_cell hb3 c0
   have d1 := below_cell hb3 c1
   have t0 := below_cell hb3 s0
   have t1 := below_cell hb3 s1
   have HR3 := Lib.hid (HR2.out.below hb3)
   have HO3 := Lib.hid (HO2.out.below hb3)
   have HB3 := Lib.hid (HB.out.trans (hb3.mono HB.out.size))
   clear hb3 c0 c1 s0 s1
   go_wp2_with fail
   refine (dright_any _ _ rows owners r v _ HR3.out HO3.out hv).mono ?_
   rintro e w4 ⟨rfl, hb4⟩
   rw [HRS.out]
   go_wp2_with fail
   go_ret2
   exact ⟨by rw [HV.out, HW.out]; rfl, HB3.out.trans (hb4.mono HB3.out.size)⟩
  | true =>
   have HV : Hid (fitE rows owners cs r v = 0) := Lib.hid (by rw [HFE.out, er]; rfl)
   have HRS := Lib.hid er
   have hrg := (rightS_iff.1 er).1
   have HPE : Hid (pubE rows owners cs r = 0) := Lib.hid (by unfold pubE; rw [if_neg (by simp [HP0.out]), if_neg (by omega)])
   have HPR : Hid (pubR rows owners cs r = pubQ (rows.getD r.toNat []) cs) := Lib.hid (by unfold pubR; rw [if_pos HPE.out])
   have HW : Hid (fitB rows owners cs r v = (powE 4 v == pubQ (rows.getD r.toNat []) cs)) := Lib.hid (by unfold fitB; rw [if_pos HV.out])
   obtain ⟨q, hq⟩ : ∃ q, q = pubQ (rows.getD r.toNat []) cs := ⟨_, rfl⟩
   rw [← hq] at HPR HW
   have HPW := Lib.hid (fun w => pow_yes 4 v w el_four hv)
   obtain ⟨p, hp4⟩ : ∃ p, p = powE 4 v := ⟨_, rfl⟩
   rw [← hp4] at HW HPW
   have HPB := Lib.hid (fun W h1 h2 h3 => public_any (.slice a rows.length cap) (.slice a2 owners.length cap2) (.slice a3 cs.length cap3) rows owners cs r W h1 h2 h3 hr)
   rw [HPE.out, HPR.out] at HPB
   clear er hrg hq hp4
   go_enter Tryz.func41, Tryz.ntmps41
   go_wp2_with fail
   rw [HW2.out]
   refine HDC.out.mono ?_
   rintro e w3 ⟨rfl, hb3⟩
   have d0 := below_cell hb3 c0
   have d1 := below_cell hb3 c1
   have t0 := below_cell hb3 s0
   have t1 := below_cell hb3 s1
   have HR3 := Lib.hid (HR2.out.below hb3)
   have HO3 := Lib.hid (HO2.out.below hb3)
   have HC3 := Lib.hid (HC2.out.below hb3)
   have HB3 := Lib.hid (HB.out.trans (hb3.mono HB.out.size))
   clear hb3 c0 c1 s0 s1
   go_wp2_with fail
   refine (dright_any _ _ rows owners r v _ HR3.out HO3.out hv).mono ?_
   rintro e w4 ⟨rfl, hb4⟩
   rw [HRS.out]
   have c0 := below_cell hb4 d0
   have c1 := below_cell hb4 d1
   have s0 := below_cell hb4 t0
   have s1 := below_cell hb4 t1
   have HR4 := Lib.hid (HR3.out.below hb4)
   have HO4 := Lib.hid (HO3.out.below hb4)
   have HC4 := Lib.hid (HC3.out.below hb4)
   have HB4 := Lib.hid (HB3.out.trans (hb4.mono HB3.out.size))
   clear hb4 d0 d1 t0 t1
   go_wp2_with fail
   refine (HPB.out _ HR4.out HO4.out HC4.out).mono ?_
   rintro e w5 ⟨rfl, hb5⟩
   have t1 := below_cell hb5 s1
   have HB5 := Lib.hid (HB4.out.trans (hb5.mono HB4.out.size))
   clear hb5 c0 c1 s0 s1
   go_wp2_with fail
   refine (HPW.out _).mono ?_
   rintro e w6 ⟨rfl, hb6⟩
   go_wp2_with fail
   go_ret2
   exact ⟨by rw [HV.out, HW.out]; rfl, HB5.out.trans (hb6.mono HB5.out.size)⟩
 ·have HV : Hid (fitE rows owners cs r v = dchkE rows owners cs) := Lib.hid (by unfold fitE; rw [if_pos hp])
  have HW : Hid (fitB rows owners cs r v = false) := Lib.hid (by unfold fitB; rw [HV.out, if_neg hp])
  have h2 : (dchkE rows owners cs != 0) = true := bne_iff_ne.2 hp
  go_enter Tryz.func41, Tryz.ntmps41
  go_wp2_with fail
  rw [HW2.out]
  refine HDC.out.mono ?_
  rintro e w3 ⟨rfl, hb3⟩
  go_wp2_with fail
  go_ret2
  exact ⟨by rw [HV.out, HW.out]; rfl, HB.out.trans (hb3.mono HB.out.size)⟩
end Go.Proofs.YtggnipkfliompaaGreatDoor
namespace Go.Proofs.YtggnipkfliompaaGreatDoor
open Go.RowKit
theorem sim_of_below {B : Nat} {W W' : World} (hb : Below W.heap.size W W') (hB : B ≤ W.heap.size) : Sim B W W' :=
 ⟨hb.os, hb.tape, hb.output, hb.size, fun k hk => hb.block k (Nat.lt_of_lt_of_le hk hB), fun k _ hk _ => (hb.block k (Array.getElem?_eq_some_iff.1 hk).1).trans hk⟩
theorem keeps_of_below {W W' : World} (hb : Below W.heap.size W W') : KeepsOthers W W' :=
 ⟨hb.size, fun k _ hk _ => (hb.block k (Array.getElem?_eq_some_iff.1 hk).1).trans hk⟩
def Iterates4 (P : Program) (gf : FuncId) (lb : Array Value) (N : Nat) (encs : Nat → Array Value) (I : Nat → World → Prop) : Prop :=
 ∀ (l : Nat) (J Jx : Nat → World → Prop) (W : World), (∀ j W1, J j W1 → I j W1) → (∀ j W1 W2, J j W1 → Below W1.heap.size W1 W2 → J j W2) →
  (∀ j W1, J j W1 → j < N → YieldAt Fence.wide 0 P l (encs j) W1 fun e W' => (e = .returned (.bool true) ∧ J (j + 1) W') ∨ (e = .returned (.bool false) ∧ Jx (j + 1) W')) →
  J 0 W → CallsIn Fence.wide 0 P gf (#[.func (.yield l) #[] #[]] ++ lb) W fun e W' => (∃ v, e = .returned v) ∧ (J N W' ∨ (∃ j, j ≤ N ∧ Jx j W'))
theorem wp_range4 {P : Program} {g : Operand} {ps : Array Tmp} {assign body : Code} {Q : Exit → Act → World → Prop} {a : Act} {w : World}
  {gf : FuncId} {lb : Array Value} (hg : a.eval g = .func (.func gf) #[] lb) (eg : Goes P gf)
  {N : Nat} {encs : Nat → Array Value} (hps : ∀ j, (encs j).size = ps.size)
  (I : Nat → World → Prop) (Ix : Code → Nat → World → Prop) (hseq : Iterates4 P gf lb N encs I)
  (hI : ∀ j W W', I j W → Sim w.heap.size W W' → I j W') (hIx : ∀ c j W W', Ix c j W → Sim w.heap.size W W' → Ix c j W')
  (h0 : I 0 w) (a₁ : Nat → Act)
  (hassign : ∀ (l j : Nat) (W : World) (K : Act → World → Prop), K (a₁ j) W →
   assign.wpIn (Fence.wide.inRound l) 0 P (Exit.then K (fun _ _ _ => False)) { tmps := (ps.zip (encs j)).foldl (fun t (p, v) => t.setIfInBounds p v) a.tmps, defers := [] } W)
  (hbody : ∀ (l j : Nat) (W : World), I j W → j < N → body.wpIn (Fence.wide.inRound l) 0 P (rangePost I Ix j W) (a₁ j) W)
  (hdone : ∀ (D : Nat) (W : World), w.heap.size ≤ D → I N W → W.heap[D]? = some (.deferred (some [])) → KeepsOthers w W → Q .normal { a with defers := { target := .collected D, args := #[] } :: a.defers } W)
  (hstop : ∀ (D : Nat) (c : Code) (j : Nat) (W : World), w.heap.size ≤ D → j ≤ N → Ix c j W → W.heap[D]? = some (.deferred (some [])) → KeepsOthers w W → c.wp P Q { a with defers := { target := .collected D, args := #[] } :: a.defers } W) :
  (Code.rangeFunc g ps assign body).wp P Q a w := by
 refine (wpIn_wide (n := 0)).1 (wpIn_rangeFunc ?_)
 intro fn hfn
 obtain ⟨rec, hrec⟩ : ∃ rec : LoopState → Option Code → Loop, rec = fun st pe => { state := st, pending := pe, fn, tmps := a.tmps, params := ps, assign, body, defers := w.heap.size } := ⟨_, rfl⟩
 obtain ⟨W1, hW1⟩ : ∃ W1, (w.alloc (.deferred (some []))).alloc (.loop (rec .ready none)) = W1 := ⟨_, rfl⟩
 have hL1 : W1.heap[w.heap.size + 1]? = some (.loop (rec .ready none)) := by
  rw [← hW1]; have := World.alloc_heap_new (w.alloc (.deferred (some []))) (.loop (rec .ready none)); rwa [World.size_alloc] at this
 have hK1 : W1.heap[w.heap.size]? = some (.deferred (some [])) := by
  rw [← hW1]; exact (Below.heap_alloc _ _ _ (by simp)).trans (World.alloc_heap_new w _)
 have hS1 : Sim w.heap.size w W1 := by
  rw [← hW1]; exact sim_trans (sim_alloc _ (Nat.le_refl _) _) (sim_alloc _ (by simp) _)
 have hO1 : KeepsOthers w W1 := by rw [← hW1]; exact (KeepsOthers.alloc _ _).trans (KeepsOthers.alloc _ _)
 refine ⟨w.heap.size + 1, [{ target := .collected w.heap.size, args := #[] }], W1, { target := .fn (.func gf) lb, args := #[.func (.yield (w.heap.size + 1)) #[] #[]] }, W1, gf,
  #[.func (.yield (w.heap.size + 1)) #[] #[]] ++ lb, W1, ?_, ?_, fun _ _ => trivial, ?_, fun h => by simp [Fence.wide] at h, ?_⟩
 ·rw [← hW1, hrec]; exact run_enterLoop_outer _ _ _ _ _
 ·simp only [resolve, hg]
  simp [go_sem]
 ·have eg' : ∀ (args : Array Value) (w : World), (callFunc gf args).run P w = .ok (.enter gf args) w := eg
  simp [invoke, go_sem, eg']
 ·have others : ∀ {A B : World} (_ : KeepsOthers w A) (_ : ∀ k o, k < w.heap.size → A.heap[k]? = some o → o.isCells = false → B.heap[k]? = some o) (_ : A.heap.size ≤ B.heap.size), KeepsOthers w B :=
   fun {A B} h1 h2 h3 => ⟨Nat.le_trans h1.size h3, fun k o hk ho => h2 k o (Array.getElem?_eq_some_iff.1 hk).1 (h1.same k o hk ho) ho⟩
  have put : ∀ {A : World} {l : Nat} (o' : Obj), w.heap.size ≤ l → KeepsOthers w A → KeepsOthers w (A.putObj l o') := fun {A l} o' hl h =>
   others h (fun k o hk ho _ => (World.putObj_heap_other (by omega)).trans ho) (by simp)
  refine (hseq (w.heap.size + 1)
   (fun j W => I j W ∧ W.heap[w.heap.size + 1]? = some (.loop (rec .ready none)) ∧ W.heap[w.heap.size]? = some (.deferred (some [])) ∧ KeepsOthers w W)
   (fun j W => ∃ c, Ix c j W ∧ W.heap[w.heap.size + 1]? = some (.loop (rec .done (some c))) ∧ W.heap[w.heap.size]? = some (.deferred (some [])) ∧ KeepsOthers w W)
   W1 (fun j W h => h.1) (fun j W W2 ⟨hi, hl, hk, ho⟩ hb => ⟨hI _ _ _ hi (sim_of_below hb (Nat.le_of_lt (Nat.lt_of_succ_lt (Array.getElem?_eq_some_iff.1 hl).1))), (hb.block _ (Array.getElem?_eq_some_iff.1 hl).1).trans hl, (hb.block _ (Array.getElem?_eq_some_iff.1 hk).1).trans hk, ho.trans (keeps_of_below hb)⟩) ?_ ⟨hI _ _ _ h0 hS1, hL1, hK1, hO1⟩).mono ?_
  ·rintro j W ⟨hi, hl, hk, ho⟩ hlen
   have hlt : w.heap.size + 1 < W.heap.size := (Array.getElem?_eq_some_iff.1 hl).1
   have hy := run_yield (P := P) (args := encs j) hl (by rw [hrec]; exact hps j)
   rw [hrec] at hy
   refine ⟨fn, _, assign, body, hy, roundIn_of_wpIn hfn (hassign _ j W _ ⟨_, run_beginRound hl (by rw [hrec]), ?_⟩)⟩
   have hl2 : (W.putObj (w.heap.size + 1) (.loop { rec .ready none with state := .busy })).heap[w.heap.size + 1]? = some (.loop { rec .ready none with state := .busy }) := World.putObj_heap_same hlt
   have hk2 : (W.putObj (w.heap.size + 1) (.loop { rec .ready none with state := .busy })).heap[w.heap.size]? = some (.deferred (some [])) := (World.putObj_heap_other (by omega)).trans hk
   have ho2 := put (.loop { rec .ready none with state := .busy }) (by omega) ho (l := w.heap.size + 1)
   refine wpIn_mono (hbody _ j _ (hI _ _ _ hi (sim_putObj _ (by omega) hl rfl)) hlen) ?_
   have fin : ∀ (jump : Option Code) (W3 : World), KeepsOthers (W.putObj (w.heap.size + 1) (.loop { rec .ready none with state := .busy })) W3 →
     (Instr.endRound (w.heap.size + 1) jump).run P W3 = .ok (.bool jump.isNone) (W3.putObj (w.heap.size + 1) (.loop (rec (if jump.isNone then .ready else .done) jump))) ∧
     Sim w.heap.size W3 (W3.putObj (w.heap.size + 1) (.loop (rec (if jump.isNone then .ready else .done) jump))) ∧
     (W3.putObj (w.heap.size + 1) (.loop (rec (if jump.isNone then .ready else .done) jump))).heap[w.heap.size + 1]? = some (.loop (rec (if jump.isNone then .ready else .done) jump)) ∧
     (W3.putObj (w.heap.size + 1) (.loop (rec (if jump.isNone then .ready else .done) jump))).heap[w.heap.size]? = some (.deferred (some [])) ∧
     KeepsOthers w (W3.putObj (w.heap.size + 1) (.loop (rec (if jump.isNone then .ready else .done) jump))) := fun jump W3 hk3 => by
    have hl3 := hk3.same _ _ hl2 rfl
    have := run_endRound (P := P) jump hl3
    rw [hrec] at this ⊢
    exact ⟨this, sim_putObj _ (by omega) hl3 rfl, World.putObj_heap_same (Array.getElem?_eq_some_iff.1 hl3).1, (World.putObj_heap_other (by omega)).trans (hk3.same _ _ hk2 rfl),
     put _ (by omega) (ho2.trans hk3)⟩
   rintro e a3 W3 hp
   cases e with
   | normal =>
    obtain ⟨hk3, hi3⟩ := hp
    obtain ⟨hr, hs, hl4, hk4, ho4⟩ := fin none W3 hk3
    exact ⟨_, _, hr, .inl ⟨rfl, hI _ _ _ hi3 hs, hl4, hk4, ho4⟩⟩
   | ret =>
    obtain ⟨hk3, hi3⟩ := hp
    obtain ⟨hr, hs, hl4, hk4, ho4⟩ := fin (some .ret) W3 hk3
    exact ⟨_, _, hr, .inr ⟨rfl, .ret, hIx _ _ _ _ hi3 hs, hl4, hk4, ho4⟩⟩
   | exit id =>
    obtain ⟨hk3, hi3⟩ := hp
    obtain ⟨hr, hs, hl4, hk4, ho4⟩ := fin (some (.exit id)) W3 hk3
    exact ⟨_, _, hr, .inr ⟨rfl, .exit id, hIx _ _ _ _ hi3 hs, hl4, hk4, ho4⟩⟩
   | goto t =>
    obtain ⟨hk3, hi3⟩ := hp
    obtain ⟨hr, hs, hl4, hk4, ho4⟩ := fin (some (.goto t)) W3 hk3
    exact ⟨_, _, hr, .inr ⟨rfl, .goto t, hIx _ _ _ _ hi3 hs, hl4, hk4, ho4⟩⟩
   | panic ch => exact hp.elim
   | outgrown => exact hp.elim
  ·rintro e W2 ⟨⟨v, rfl⟩, (⟨hi, hl, hk, ho⟩ | ⟨j, hj, c, hi, hl, hk, ho⟩)⟩
   ·exact ⟨none, _, by have := run_endLoop (P := P) hl (by rw [hrec]; simp); rw [hrec] at this; exact this,
     hdone _ _ (Nat.le_refl _) (hI _ _ _ hi (sim_putObj _ (by omega) hl rfl)) ((World.putObj_heap_other (by omega)).trans hk) (put _ (by omega) ho)⟩
   ·exact ⟨some c, _, by have := run_endLoop (P := P) hl (by rw [hrec]; simp); rw [hrec] at this; exact this,
     wpIn_wide.2 (hstop _ c j _ (Nat.le_refl _) hj (hIx _ _ _ _ hi (sim_putObj _ (by omega) hl rfl)) ((World.putObj_heap_other (by omega)).trans hk) (put _ (by omega) ho))⟩
theorem wp_range42 {P : Program} {g : Operand} {ps : Array Tmp} {assign body : Code} {Q : Exit → Act → World → Prop} {a : Act} {w : World}
  {gf : FuncId} {lb : Array Value} (hg : a.eval g = .func (.func gf) #[] lb) (eg : Goes P gf)
  {N : Nat} {encs : Nat → Array Value} (hps : ∀ j, (encs j).size = ps.size)
  (I : Nat → World → Prop) (Ix : Code → Nat → World → Prop) (hseq : Iterates4 P gf lb N encs I)
  (hI : ∀ j W W', I j W → Sim w.heap.size W W' → I j W') (hIx : ∀ c j W W', Ix c j W → Sim w.heap.size W W' → Ix c j W')
  (h0 : I 0 w) (f : Nat → Array Value → Array Value)
  (hassign : ∀ (l j : Nat) (W : World) (K : Act → World → Prop), K { tmps := f j a.tmps, defers := [] } W →
   assign.wpIn (Fence.wide.inRound l) 0 P (Exit.then K (fun _ _ _ => False)) { tmps := (ps.zip (encs j)).foldl (fun t (p, v) => t.setIfInBounds p v) a.tmps, defers := [] } W)
  (hbody : ∀ (l j : Nat) (W : World), I j W → j < N → body.wpIn (Fence.wide.inRound l) 0 P (rangePost I Ix j W) { tmps := f j a.tmps, defers := [] } W)
  (hdone : ∀ (D : Nat) (W : World), w.heap.size ≤ D → I N W → W.heap[D]? = some (.deferred (some [])) → KeepsOthers w W → Q .normal { a with defers := { target := .collected D, args := #[] } :: a.defers } W)
  (hstop : ∀ (D : Nat) (c : Code) (j : Nat) (W : World), w.heap.size ≤ D → j ≤ N → Ix c j W → W.heap[D]? = some (.deferred (some [])) → KeepsOthers w W → c.wp P Q { a with defers := { target := .collected D, args := #[] } :: a.defers } W) :
  (Code.rangeFunc g ps assign body).wp P Q a w :=
 wp_range4 hg eg hps I Ix hseq hI hIx h0 (fun j => { tmps := f j a.tmps, defers := [] }) hassign hbody hdone hstop
end Go.Proofs.YtggnipkfliompaaGreatDoor
namespace Go.Proofs.YtggnipkfliompaaGreatDoor
open Go.RowKit FP
attribute [local go_sem] Oper.semAt_some
theorem keeps_grown {W W' : World} {base size n : Nat} {e : TypeId} {v : Value} {xs : List Value} (h : W.ownsRow base e size v n xs) (hg : W.grownBy W' v.ownBlock) : KeepsOthers W W' :=
 ⟨hg.size, fun k o hk ho => (hg.block k (Array.getElem?_eq_some_iff.1 hk).1 (by
  rcases h.2 with ⟨rfl, -⟩ | ⟨g, cap, cur, rfl, -, hg2, -⟩
  ·intro e; cases e
  ·intro e
   have e2 : k = g := by injection e
   subst e2
   rw [hg2] at hk; cases hk; cases ho)).trans hk⟩
theorem own_sim {B : Nat} {W W' : World} {base size n : Nat} {e : TypeId} {v : Value} {xs : List Value} (h : W.ownsRow base e size v n xs) (hs : Sim B W W') : W'.ownsRow base e size v n xs := by
 obtain ⟨h1, h2⟩ := h
 refine ⟨h1, ?_⟩
 rcases h2 with h2 | ⟨g, cap, cur, a, b, c, d⟩
 ·exact .inl h2
 ·exact .inr ⟨g, cap, cur, a, b, hs.cells _ _ c rfl, d⟩
structure ColI (w : World) (g : Nat → Value) (j : Nat) (W : World) : Prop where
 be : Below w.heap.size w W
 sz : w.heap.size < W.heap.size
 row : ∃ L, W.heap[w.heap.size]? = some (.cells #[L] 22 (0, 0)) ∧ W.ownsRow (w.heap.size + 1) 23 1 L j ((List.range j).map g)
theorem colI_sim {w : World} {g : Nat → Value} {j B : Nat} {W W' : World} (h : ColI w g j W) (hB : w.heap.size ≤ B) (hs : Sim B W W') : ColI w g j W' := by
 obtain ⟨hb, hz, L, hr, ho⟩ := h
 exact ⟨hb.trans ((sim_below hs).mono hB), Nat.lt_of_lt_of_le hz hs.size, L, hs.cells _ _ hr rfl, own_sim ho hs⟩
theorem infoRows : (Tryz.prog.info? 23).map (fun i => (i.zero, i.size, i.bytes)) = some (some (.slice none 0 0), 1, 24) := by kernel_rfl
theorem own_pos {W : World} {base n : Nat} {e : TypeId} {v : Value} {xs : List Value} (h : W.ownsRow base e 1 v n xs) (hn : 0 < n) : ∃ g cap, v = .slice (some ⟨g, 0, none⟩) n cap ∧ n ≤ cap := by
 rcases h.2 with ⟨-, h0⟩ | ⟨g, cap, cur, rfl, -, -, hc, -⟩
 ·have := h.1; rw [h0] at this; simp at this; omega
 ·exact ⟨g, cap, rfl, hc⟩
theorem app_row_in {F : Fence} {m : Nat} {ops : Array Oper} {rest : List Oper} {o : Oper} {a : Act} {Q : Exit → Act → World → Prop} {W : World} (hgd : o.guard = none) (s x : Operand) (ho : o.op = .call { callee := .builtin .append, args := #[s, x], argTypes := #[22, 22] })
  (base n : Nat) (v : Value) (xs : List Value) (hs : a.eval s = v) (hown : W.ownsRow base 23 1 v n xs) (b c : Nat) (z : Value) (hx : a.eval x = .slice (some ⟨b, 0, none⟩) 1 c) (hcell : W.cell? ⟨b, 0, none⟩ = some z) (hz1 : z.oneCell' = true) (hn : n ≤ 1000000) (hbase : base ≤ W.heap.size)
  (h : ∀ v' w', w'.ownsRow base 23 1 v' (n + 1) (xs ++ [z]) → W.grownBy w' v.ownBlock → wpListIn F m Tryz.prog ops Q rest (a.put o.dst v') w') : wpListIn F m Tryz.prog ops Q (o :: rest) a W := by
 obtain ⟨i0, hi0, hz0, hs0, hb0⟩ := info_parts infoRows
 refine wpListIn_append_own W hgd s x 22 ho base 23 i0 (.slice none 0 0) 1 24 Tryz.underlying22 hi0 hz0 hs0 hb0 rfl (by decide) v n xs hs hown ⟨b, 0, none⟩ 1 c [z] hx rfl ?_ ?_ ?_ ?_ hbase ?_
 ·intro j u hu
  cases j with
  | zero => simp at hu; subst hu; rw [add_off]; exact hcell
  | succ j => simp at hu
 ·intro u hu; simp at hu; subst hu; exact hz1
 ·unfold maxLen; omega
 ·omega
 ·intro v' w' h1 h2 _; exact h v' w' h1 h2
theorem appendSeq_any (gf : FuncId) (lb : Array Value) (N : Nat) (g : Nat → Value) (w : World) (hgo : Goes Tryz.prog gf) (hg : ∀ j, ∃ a n c, g j = .slice a n c) (hN : N ≤ 1000000)
  (hseq : ∀ I : Nat → World → Prop, (∀ j W, I j W → Below w.heap.size w W) → Iterates4 Tryz.prog gf lb N (fun j => #[g j]) I) :
  Calls Tryz.prog 182 #[.slice none 0 0, .func (.func gf) #[] lb] w fun e w' => ∃ v, e = .returned v ∧ w'.ownsRow w.heap.size 23 1 v N ((List.range N).map g) ∧ Below w.heap.size w w' := by
 refine calls_of_range Tryz.func182 rfl ?_
 simp only [Tryz.ntmps182, List.size_toArray, List.length_cons, List.length_nil, Nat.reduceAdd, Nat.reduceSub, Array.replicate_succ, Array.replicate_zero, List.push_toArray, List.append_toArray, List.nil_append, List.cons_append]
 go_wp2_with fail
 have h0 : ColI w g 0 (w.alloc (.cells #[.slice none 0 0] 22)) := ⟨below_new _ _ _, by simp, _, World.alloc_heap_new _ _, World.ownsRow_nil _ _ _ _⟩
 refine wp_range42 (gf := gf) (lb := lb) (N := N) (encs := fun j => #[g j]) rfl hgo (fun _ => rfl)
  (fun j => ColI w g j) (fun _ _ _ => False) ?seq ?simI (fun _ _ _ _ h _ => h) h0
  (fun j t => (t.setIfInBounds 7 (g j)).setIfInBounds 5 (g j)) ?assign ?body ?done (fun _ _ _ _ _ _ h => h.elim)
 case seq => exact hseq _ (fun j W h => h.be)
 case simI => exact fun j W W' h hs => colI_sim h (by simp) hs
 case assign =>
  intro l j W K hK
  gi_wp2
  exact hK
 case body =>
  intro l j W hI hlt
  obtain ⟨hb, hz, L, hr, ho⟩ := hI
  obtain ⟨ga, gn, gc, hgj⟩ := hg j
  simp only [List.setIfInBounds_toArray, List.set_cons_succ, List.set_cons_zero]
  rw [hgj]
  have x0 : W.cell? ⟨w.heap.size, 0, none⟩ = some L := row_cell hr rfl
  have hn1 := below_new W #[.slice ga gn gc] 23
  have HO := Lib.hid (own_keep ho hn1)
  have hc1 : (W.alloc (.cells #[.slice ga gn gc] 23)).cell? ⟨W.heap.size, 0, none⟩ = some (.slice ga gn gc) := row_cell (World.alloc_heap_new _ _) rfl
  have HC1 := Lib.hid hc1
  have HR := Lib.hid ((hn1.block _ hz).trans hr)
  have HNE := Lib.hid (own_ne ho (b := w.heap.size) (.inr (by omega)))
  have HGJ := Lib.hid hgj
  have HBE := Lib.hid hb
  have hbs : w.heap.size + 1 ≤ (W.alloc (.cells #[.slice ga gn gc] 23)).heap.size := by simp; omega
  have HBS := Lib.hid hbs
  have hz2 : w.heap.size < (W.alloc (.cells #[.slice ga gn gc] 23)).heap.size := by simp; omega
  have HZ2 := Lib.hid hz2
  clear hn1 ho hc1 hr hgj hb hbs hz2
  gi_wp2_with (refine app_row_in rfl _ _ rfl (w.heap.size + 1) j _ ((List.range j).map g) rfl HO.out W.heap.size 1 _ rfl HC1.out rfl (by omega) HBS.out ?_; intro v8 w8 h8 o8; have hr8 := (o8.block _ HZ2.out (fun e => HNE.out e.symm)).trans HR.out; have y0 : w8.cell? ⟨w.heap.size, 0, none⟩ = some L := row_cell hr8 rfl; have f0 := row_free hr8 0; have HR8 := Lib.hid hr8; have H8 := Lib.hid h8; have O8 := Lib.hid o8; obtain ⟨g8, cap8, hv8, -⟩ := own_pos h8 (Nat.succ_pos _); subst hv8; clear h8 o8 hr8)
  have hb8 := own_below HO.out O8.out HBS.out
  refine ⟨((KeepsOthers.alloc _ _).trans (keeps_grown HO.out O8.out)).trans (KeepsOthers.setCell _ _ _), ⟨?_, ?_, _, row_set HR8.out 0 _, ?_⟩⟩
  ·exact ((HBE.out.trans ((below_new _ _ _).mono HBE.out.size)).trans (hb8.mono (Nat.le_succ _))).setCell (Nat.le_refl _) _
  ·exact Nat.lt_of_lt_of_le HZ2.out (by simpa [World.setCell] using hb8.size)
  ·refine own_keep_set ?_ (Nat.lt_succ_self _) _
   rw [range_snoc, HGJ.out]; exact H8.out
 case done =>
  intro D W hD hI hDW hO
  obtain ⟨hb, hz, L, hr, ho⟩ := hI
  have x0 : W.cell? ⟨w.heap.size, 0, none⟩ = some L := row_cell hr rfl
  go_wp2_with fail
  refine leaves_marks (B := w.heap.size) (v := L) ?_ ?_ _ _ ⟨⟨D, rfl, Nat.le_trans (by simp) hD, hDW, fun _ h => by cases h⟩, trivial⟩ ⟨_, rfl, own_low ho (Nat.le_succ _), hb⟩
  ·intro W1
   simp [results, Tryz.results182, go_sem]
  ·rintro W1 W2 ⟨v, h1, h2, h3⟩ hs
   exact ⟨v, h1, own_sim h2 hs, h3.trans (sim_below hs)⟩
end Go.Proofs.YtggnipkfliompaaGreatDoor
