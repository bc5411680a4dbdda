/- Maps with integer keys that a call has made, told as functions from keys to values. Package keygen: rows of complaints by dealer, in a map. Package keygen: the iterator of right dealings. The laws of complaints: small. The reference of dealing: Shares. The reference of dealing: Deal. The reference of dealing: Deal, whatever comes of it. The laws of complaints: sealed. -/
import Derived.Test.YtggnipkfliompaaGreatDoorMKgT
import Derived.Test.YtggnipkfliompaaGreatDoorMRdE
import Derived.Test.YtggnipkfliompaaGreatDoorMKgA
import Derived.Test.YtggnipkfliompaaGreatDoorMDeaW
import Derived.Test.YtggnipkfliompaaGreatDoorMProF
import Derived.Test.YtggnipkfliompaaGreatDoorMLinJ
import Derived.Test.YtggnipkfliompaaGreatDoorMRegL
import Derived.Maps.OwnSet
import Derived.ChangeMaps3
set_option maxHeartbeats 4000000
set_option maxRecDepth 100000
namespace Go.Proofs.YtggnipkfliompaaGreatDoor
open Go.RowKit
open Go.Maps (Keyed)
open Go.ChangeMaps (setBlock heap_setBlock_same heap_setBlock_other)
theorem keyZ : Keyed Tryz.prog 3 := Go.Maps.int_keyed Tryz.underlying3
theorem key_z {x : Int} (h : R64 x) : Go.keyOf Tryz.prog 3 (.int .i64 x) = some (.int .i64 x) := Go.Maps.keyOf_int_mk Tryz.underlying3 (WalkArith.wf_i64 h)
structure MapZ (w : World) (b : Nat) (F : Int → Option Value) : Prop where
 ex : ∃ es clock, w.heap[b]? = some (.map es clock) ∧ (∀ e ∈ es.toList, ∃ n, R64 n ∧ e.key = .int .i64 n) ∧ (es.toList.map (·.key)).Nodup ∧ ∀ n v, F n = some v ↔ ∃ e ∈ es.toList, e.key = .int .i64 n ∧ e.val = v
theorem MapZ.kept {w w' : World} {b : Nat} {F : Int → Option Value} (h : MapZ w b F) (hb : w'.heap[b]? = w.heap[b]?) : MapZ w' b F := by
 obtain ⟨es, clock, h1, h2⟩ := h.ex
 exact ⟨es, clock, hb.trans h1, h2⟩
theorem MapZ.lt {w : World} {b : Nat} {F : Int → Option Value} (h : MapZ w b F) : b < w.heap.size := by
 obtain ⟨es, clock, h1, -⟩ := h.ex
 exact (Array.getElem?_eq_some_iff.1 h1).1
theorem MapZ.below {w w' : World} {b : Nat} {F : Int → Option Value} (h : MapZ w b F) (hb : Below w.heap.size w w') : MapZ w' b F := h.kept (hb.block _ h.lt)
theorem MapZ.new (w : World) : MapZ (w.alloc (.map #[] 0)) w.heap.size (fun _ => none) :=
 ⟨#[], 0, (MapKept.heap_alloc w _).1, by simp, by simp, by simp⟩
def putZ (F : Int → Option Value) (n : Int) (v : Value) : Int → Option Value := fun m => if m = n then some v else F m
theorem zfind {w : World} {es : Array MapEntry} {n : Int} (hn : R64 n) (hk : ∀ e ∈ es.toList, ∃ n, R64 n ∧ e.key = .int .i64 n) :
  ((Instr.findKey 3 (.int .i64 n) es.toList).run Tryz.prog w = .ok none w ∧ ∀ e ∈ es.toList, e.key ≠ .int .i64 n) ∨
   ∃ j e, (Instr.findKey 3 (.int .i64 n) es.toList).run Tryz.prog w = .ok (some (j, e.val)) w ∧ es.toList[j]? = some e ∧ e.key = .int .i64 n :=
 keyZ.find w (key_z hn) es.toList (fun e he => by obtain ⟨m, hm, e1⟩ := hk e he; exact ⟨_, by rw [e1]; exact key_z hm⟩)
theorem MapZ.look {w : World} {b : Nat} {F : Int → Option Value} (h : MapZ w b F) {t e : TypeId} (ht : Tryz.prog.underlying t = some (.map 3 e)) {z : Value} (hz : (zeroValue e).run Tryz.prog w = .ok z w) {n : Int} (hn : R64 n) :
  (Instr.lookup t (.map (some b)) (.int .i64 n) false).run Tryz.prog w = .ok ((F n).getD z) w := by
 obtain ⟨es, clock, hb, hk, hnd, hF⟩ := h.ex
 rcases zfind (w := w) hn hk with ⟨h1, h2⟩ | ⟨j, e0, h1, h2, h3⟩
 ·have : F n = none := by
   cases e1 : F n with
   | none => rfl
   | some v => obtain ⟨e2, hm, hk2, -⟩ := (hF n v).1 e1; exact absurd hk2 (h2 e2 hm)
  rw [this]
  simp [Instr.lookup, run_underlying ht, MapKept.run_getObj_map hb, keyZ.check w _ (key_z hn), h1, hz, Result.andThen]
 ·have : F n = some e0.val := (hF n e0.val).2 ⟨e0, List.mem_of_getElem? h2, h3, rfl⟩
  rw [this]
  simp [Instr.lookup, run_underlying ht, MapKept.run_getObj_map hb, keyZ.check w _ (key_z hn), h1, Result.andThen]
theorem MapZ.look_ok {w : World} {b : Nat} {F : Int → Option Value} (h : MapZ w b F) {t e : TypeId} (ht : Tryz.prog.underlying t = some (.map 3 e)) {z : Value} (hz : (zeroValue e).run Tryz.prog w = .ok z w) {n : Int} (hn : R64 n) :
  (Instr.lookup t (.map (some b)) (.int .i64 n) true).run Tryz.prog w = .ok (.tuple #[(F n).getD z, .bool (F n).isSome]) w := by
 obtain ⟨es, clock, hb, hk, hnd, hF⟩ := h.ex
 rcases zfind (w := w) hn hk with ⟨h1, h2⟩ | ⟨j, e0, h1, h2, h3⟩
 ·have : F n = none := by
   cases e1 : F n with
   | none => rfl
   | some v => obtain ⟨e2, hm, hk2, -⟩ := (hF n v).1 e1; exact absurd hk2 (h2 e2 hm)
  rw [this]
  simp [Instr.lookup, run_underlying ht, MapKept.run_getObj_map hb, keyZ.check w _ (key_z hn), h1, hz, Result.andThen]
 ·have : F n = some e0.val := (hF n e0.val).2 ⟨e0, List.mem_of_getElem? h2, h3, rfl⟩
  rw [this]
  simp [Instr.lookup, run_underlying ht, MapKept.run_getObj_map hb, keyZ.check w _ (key_z hn), h1, Result.andThen]
theorem nodup_key {es : List MapEntry} (hnd : (es.map (·.key)).Nodup) {i j : Nat} {a c : MapEntry} (h1 : es[i]? = some a) (h2 : es[j]? = some c) (h : a.key = c.key) : i = j := by
 obtain ⟨hi, rfl⟩ := List.getElem?_eq_some_iff.1 h1
 obtain ⟨hj, rfl⟩ := List.getElem?_eq_some_iff.1 h2
 have hp := List.pairwise_iff_getElem.1 hnd
 rcases Nat.lt_trichotomy i j with h3 | h3 | h3
 ·exact absurd h (by have := hp i j (by simpa using hi) (by simpa using hj) h3; simpa using this)
 ·exact h3
 ·exact absurd h.symm (by have := hp j i (by simpa using hj) (by simpa using hi) h3; simpa using this)
theorem MapZ.put {w : World} {b : Nat} {F : Int → Option Value} (h : MapZ w b F) {t e : TypeId} (ht : Tryz.prog.underlying t = some (.map 3 e)) {n : Int} (hn : R64 n) (v : Value) :
  ∃ w', (Instr.mapUpdate t (.map (some b)) (.int .i64 n) v).run Tryz.prog w = .ok () w' ∧ MapZ w' b (putZ F n v) ∧ ∃ o, w' = setBlock w b o ∧ ∀ i, i ≠ b → w'.heap[i]? = w.heap[i]? := by
 obtain ⟨es, clock, hb, hk, hnd, hF⟩ := h.ex
 rcases zfind (w := w) hn hk with ⟨h1, h2⟩ | ⟨j, e0, h1, h2, h3⟩
 ·refine ⟨setBlock w b (.map (es.push ⟨.int .i64 n, v, clock⟩) (clock + 1)), ?_, ⟨_, _, heap_setBlock_same hb _, ?_, ?_, ?_⟩, _, rfl, fun i hi => heap_setBlock_other hb _ hi⟩
  ·simp [Instr.mapUpdate, run_underlying ht, MapKept.run_getObj_map hb, keyZ.check w false (key_z hn), h1, MapKept.run_setObj_map _ hb, Result.andThen, setBlock]
  ·intro x hx
   simp only [Array.toList_push, List.mem_append, List.mem_singleton] at hx
   rcases hx with hx | rfl
   ·exact hk x hx
   ·exact ⟨n, hn, rfl⟩
  ·rw [Array.toList_push, List.map_append, List.map_singleton, List.nodup_append]
   refine ⟨hnd, by simp, ?_⟩
   intro a ha c hc
   simp only [List.mem_singleton] at hc
   obtain ⟨x, hx, rfl⟩ := List.mem_map.1 ha
   rw [hc]; exact h2 x hx
  ·intro m u
   unfold putZ
   by_cases hm : m = n
   ·rw [if_pos hm]
    subst hm
    constructor
    ·intro e1; cases e1
     exact ⟨⟨.int .i64 m, v, clock⟩, by rw [Array.toList_push]; simp, rfl, rfl⟩
    ·rintro ⟨x, hx, hkx, rfl⟩
     rw [Array.toList_push, List.mem_append, List.mem_singleton] at hx
     rcases hx with hx | rfl
     ·exact absurd hkx (h2 x hx)
     ·rfl
   ·rw [if_neg hm, hF]
    constructor
    ·rintro ⟨x, hx, hkx, rfl⟩
     exact ⟨x, by rw [Array.toList_push]; simp [hx], hkx, rfl⟩
    ·rintro ⟨x, hx, hkx, rfl⟩
     rw [Array.toList_push, List.mem_append, List.mem_singleton] at hx
     rcases hx with hx | rfl
     ·exact ⟨x, hx, hkx, rfl⟩
     ·simp only [Value.int.injEq, true_and] at hkx; exact absurd hkx.symm hm
 ·have hj : es[j]? = some e0 := by simpa using h2
  have hlist : (es.modify j (fun e' => { e' with key := .int .i64 n, val := v })).toList = es.toList.set j { e0 with key := .int .i64 n, val := v } := by rw [Array.toList_modify, Go.ChangeMaps.modify_eq_set _ _ _ _ h2]
  have hjl : j < es.toList.length := (List.getElem?_eq_some_iff.1 h2).1
  have other : ∀ x, x ∈ es.toList.set j { e0 with key := .int .i64 n, val := v } → x = { e0 with key := .int .i64 n, val := v } ∨ (x ∈ es.toList ∧ x.key ≠ .int .i64 n) := by
   intro x hx
   obtain ⟨i, hi, ex⟩ := List.getElem_of_mem hx
   rw [List.getElem_set] at ex
   split at ex
   ·exact .inl ex.symm
   ·rename_i hne
    have hi' : i < es.toList.length := by simpa using hi
    refine .inr ⟨ex ▸ List.getElem_mem hi', fun e1 => hne ?_⟩
    exact nodup_key hnd h2 (by rw [List.getElem?_eq_getElem hi', ex]) (by rw [h3, e1])
  refine ⟨setBlock w b (.map (es.modify j (fun e' => { e' with key := .int .i64 n, val := v })) clock), ?_, ⟨_, _, heap_setBlock_same hb _, ?_, ?_, ?_⟩, _, rfl, fun i hi => heap_setBlock_other hb _ hi⟩
  ·simp [Instr.mapUpdate, run_underlying ht, MapKept.run_getObj_map hb, keyZ.check w false (key_z hn), h1, hj, h3, keyZ.stays w (key_z hn), MapKept.run_setObj_map _ hb, Result.andThen, setBlock]
  ·intro x hx
   rw [hlist] at hx
   rcases other x hx with rfl | ⟨hx', -⟩
   ·exact ⟨n, hn, rfl⟩
   ·exact hk x hx'
  ·rw [hlist, List.map_set]
   have e1 : (es.toList.map (·.key)).set j (.int .i64 n) = es.toList.map (·.key) := by
    rw [← h3]
    refine List.ext_getElem (by simp) fun i h4 h5 => ?_
    rw [List.getElem_set]
    split
    ·rename_i e4; subst e4
     rw [List.getElem_map]
     obtain ⟨_, e5⟩ := List.getElem?_eq_some_iff.1 h2
     rw [e5]
    ·rfl
   rw [e1]; exact hnd
  ·intro m u
   unfold putZ
   rw [hlist]
   by_cases hm : m = n
   ·rw [if_pos hm]
    subst hm
    constructor
    ·intro e1; cases e1
     exact ⟨_, List.mem_set hjl _, rfl, rfl⟩
    ·rintro ⟨x, hx, hkx, rfl⟩
     rcases other x hx with rfl | ⟨-, hne⟩
     ·rfl
     ·exact absurd hkx hne
   ·rw [if_neg hm, hF]
    constructor
    ·rintro ⟨x, hx, hkx, rfl⟩
     obtain ⟨i, hi, rfl⟩ := List.getElem_of_mem hx
     have hij : j ≠ i := fun e1 => by
      subst e1
      obtain ⟨_, e5⟩ := List.getElem?_eq_some_iff.1 h2
      rw [e5, h3] at hkx
      simp only [Value.int.injEq, true_and] at hkx
      exact hm hkx.symm
     refine ⟨es.toList[i], ?_, hkx, rfl⟩
     have : (es.toList.set j { e0 with key := .int .i64 n, val := v })[i]'(by simpa using hi) = es.toList[i] := List.getElem_set_ne hij _
     rw [← this]; exact List.getElem_mem _
    ·rintro ⟨x, hx, hkx, rfl⟩
     rcases other x hx with rfl | ⟨hx', -⟩
     ·simp only [Value.int.injEq, true_and] at hkx; exact absurd hkx.symm hm
     ·exact ⟨x, hx', hkx, rfl⟩
theorem below_turn {B b : Nat} {a w : World} {o : Obj} (h : Below B a w) (hb : B ≤ b) : Below B a (setBlock w b o) := by
 refine ⟨h.os, h.tape, h.output, by simpa [setBlock] using h.size, fun k hk => ?_⟩
 have : (setBlock w b o).heap[k]? = w.heap[k]? := by
  unfold setBlock
  exact Array.getElem?_setIfInBounds_ne (by omega)
 exact this.trans (h.block k hk)
end Go.Proofs.YtggnipkfliompaaGreatDoor
namespace Go.Proofs.YtggnipkfliompaaGreatDoor
open Go.RowKit FP
open Go.ChangeMaps (setBlock)
theorem look_map_wp {o : Oper} {a : Act} {K : Act → World → Prop} {Q : Exit → Act → World → Prop} {W : World} (t e : TypeId) (m k : Nat) (ho : o.op = .lookup t (.tmp m) (.tmp k) false) (ht : Tryz.prog.underlying t = some (.map 3 e)) {b : Nat} {F : Int → Option Value} (h : MapZ W b F) {z : Value} (hz : (zeroValue e).run Tryz.prog W = .ok z W) {n : Int} (hn : R64 n)
  (hm : a.tmps[m]?.getD undef = .map (some b)) (hk : a.tmps[k]?.getD undef = .int .i64 n) (hK : K (a.put o.dst ((F n).getD z)) W) : Oper.wp Tryz.prog o a W K Q := by
 have hm' : a.eval (.tmp m) = .map (some b) := by rw [← hm]; exact Array.getD_eq_getD_getElem?
 have hk' : a.eval (.tmp k) = .int .i64 n := by rw [← hk]; exact Array.getD_eq_getD_getElem?
 have hl := h.look ht hz hn
 unfold Oper.wp
 simp [execOp, ho, hm', hk', hl, Result.andThen]
 exact hK
theorem put_map_wp {o : Oper} {a : Act} {K : Act → World → Prop} {Q : Exit → Act → World → Prop} {W : World} (t e : TypeId) (m k x : Nat) (ho : o.op = .mapUpdate t (.tmp m) (.tmp k) (.tmp x)) (ht : Tryz.prog.underlying t = some (.map 3 e)) {b : Nat} {F : Int → Option Value} (h : MapZ W b F) {n : Int} (hn : R64 n) (v : Value)
  (hm : a.tmps[m]?.getD undef = .map (some b)) (hk : a.tmps[k]?.getD undef = .int .i64 n) (hx : a.tmps[x]?.getD undef = v)
  (hK : ∀ W', MapZ W' b (putZ F n v) → (∃ ob, W' = setBlock W b ob) → (∀ i, i ≠ b → W'.heap[i]? = W.heap[i]?) → K (a.put o.dst undef) W') : Oper.wp Tryz.prog o a W K Q := by
 have hm' : a.eval (.tmp m) = .map (some b) := by rw [← hm]; exact Array.getD_eq_getD_getElem?
 have hk' : a.eval (.tmp k) = .int .i64 n := by rw [← hk]; exact Array.getD_eq_getD_getElem?
 have hx' : a.eval (.tmp x) = v := by rw [← hx]; exact Array.getD_eq_getD_getElem?
 obtain ⟨w', h1, h2, ob, h3, h4⟩ := h.put ht hn v
 unfold Oper.wp
 simp [execOp, ho, hm', hk', hx', h1, Result.andThen]
 exact hK w' h2 ⟨ob, h3⟩ h4
def selC (rn : Int) (cl : List Cmp) (n : Int) : List Cmp := cl.filter fun c => decide (c.dealer = n) && belowB c.row rn
def putS (S : Int → List Cmp) (c : Cmp) : Int → List Cmp := fun m => if m = c.dealer then S m ++ [c] else S m
theorem selC_ok {rn : Int} {cl : List Cmp} {c : Cmp} (h : belowB c.row rn = true) : selC rn (cl ++ [c]) = putS (selC rn cl) c := by
 funext m
 unfold selC putS
 rw [List.filter_append]
 by_cases e : m = c.dealer
 ·rw [if_pos e, List.filter_cons_of_pos (by simp [h, e])]; rfl
 ·rw [if_neg e, List.filter_cons_of_neg (by simp; intro e2; exact absurd e2.symm e)]; simp
theorem selC_bad {rn : Int} {cl : List Cmp} {c : Cmp} (h : belowB c.row rn = false) : selC rn (cl ++ [c]) = selC rn cl := by
 funext m
 unfold selC
 rw [List.filter_append, List.filter_cons_of_neg (by simp [h])]; simp
theorem selC_len {rn : Int} {cl : List Cmp} {n : Int} : (selC rn cl n).length ≤ cl.length := List.length_filter_le ..
def valF (F : Int → Option Value) (n : Int) : Value := (F n).getD (.slice none 0 0)
theorem valF_same (F : Int → Option Value) (n : Int) (v : Value) : valF (putZ F n v) n = v := by unfold valF putZ; rw [if_pos rfl]; rfl
theorem valF_ne (F : Int → Option Value) {n m : Int} (v : Value) (h : m ≠ n) : valF (putZ F n v) m = valF F m := by unfold valF putZ; rw [if_neg h]
structure RowsC (base : Nat) (W : World) (F : Int → Option Value) (S : Int → List Cmp) : Prop where
 own : ∀ n, W.ownsRow base 34 5 (valF F n) (S n).length ((S n).flatMap cmpC)
 apart : ∀ n m, n ≠ m → ∀ g, (valF F n).ownBlock = some g → (valF F m).ownBlock ≠ some g
theorem own_block {w w' : World} {base size n : Nat} {e : TypeId} {v : Value} {xs : List Value} (h : w.ownsRow base e size v n xs) (hb : ∀ g, v.ownBlock = some g → w'.heap[g]? = w.heap[g]?) : w'.ownsRow base e size v n xs := by
 obtain ⟨h1, h2⟩ := h
 refine ⟨h1, ?_⟩
 rcases h2 with h2 | ⟨g, cap, cur, rfl, b, c, d⟩
 ·exact .inl h2
 ·exact .inr ⟨g, cap, cur, rfl, b, (hb g rfl).trans c, d⟩
theorem RowsC.nil (base : Nat) (W : World) : RowsC base W (fun _ => none) (fun _ => []) :=
 ⟨fun _ => ⟨rfl, .inl ⟨rfl, rfl⟩⟩, fun _ _ _ g h => by cases h⟩
theorem RowsC.kept {base : Nat} {W W' : World} {F : Int → Option Value} {S : Int → List Cmp} (h : RowsC base W F S) (hb : ∀ g, base ≤ g → g < W.heap.size → W'.heap[g]? = W.heap[g]?) : RowsC base W' F S :=
 ⟨fun n => own_block (h.own n) fun g e => hb g (own_lt (h.own n) g e).1 (own_lt (h.own n) g e).2, h.apart⟩
theorem RowsC.below {base : Nat} {W W' : World} {F : Int → Option Value} {S : Int → List Cmp} (h : RowsC base W F S) (hb : Below W.heap.size W W') : RowsC base W' F S :=
 h.kept fun g _ hg => hb.block g hg
theorem RowsC.app {base : Nat} {W W' : World} {F : Int → Option Value} {S : Int → List Cmp} (h : RowsC base W F S) (c : Cmp) {v : Value} (ho : Onto W (valF F c.dealer) W' v) (hv : W'.ownsRow base 34 5 v ((S c.dealer).length + 1) ((S c.dealer ++ [c]).flatMap cmpC)) : RowsC base W' (putZ F c.dealer v) (putS S c) := by
 have new : ∀ m, m ≠ c.dealer → ∀ g, v.ownBlock = some g → (valF F m).ownBlock ≠ some g := fun m hm g e e2 => by
  rcases ho.2 with h1 | ⟨g2, h1, h2⟩
  ·exact h.apart m c.dealer hm g e2 (h1 ▸ e)
  ·rw [h1] at e; injection e with e; subst e
   have := (own_lt (h.own m) _ e2).2
   omega
 refine ⟨fun m => ?_, fun n m hnm g e1 e2 => ?_⟩
 ·by_cases hm : m = c.dealer
  ·subst hm
   rw [valF_same, show putS S c c.dealer = S c.dealer ++ [c] from if_pos rfl, List.length_append]
   exact hv
  ·rw [valF_ne _ _ hm, show putS S c m = S m from if_neg hm]
   exact own_apart (h.own m) ho.1 fun g e1 e2 => h.apart m c.dealer hm g e1 e2
 ·by_cases hn : n = c.dealer
  ·subst hn
   rw [valF_same] at e1
   rw [valF_ne _ _ (fun e => hnm e.symm)] at e2
   exact new m (fun e => hnm e.symm) g e1 e2
  ·rw [valF_ne _ _ hn] at e1
   by_cases hm : m = c.dealer
   ·subst hm
    rw [valF_same] at e2
    exact new n hn g e2 e1
   ·rw [valF_ne _ _ hm] at e2
    exact h.apart n m hnm g e1 e2
theorem RowsC.cmps {base : Nat} {W : World} {F : Int → Option Value} {S : Int → List Cmp} (h : RowsC base W F S) (n : Int) (hr : ∀ c ∈ S n, CmpR c) (hl : (S n).length ≤ 1000000) : Cmps W (valF F n) (S n) := Cmps.own (h.own n) hr hl
theorem infoCmp : (Tryz.prog.info? 34).map (fun i => (i.zero.map (·.cells.size), i.size, i.bytes)) = some (some 5, 5, 40) := by kernel_rfl
theorem step_app_cmp {ops : Array Oper} {o : Oper} {a : Act} {K : Act → World → Prop} {Q : Exit → Act → World → Prop} {E : Prop} {W : World} (hgd : o.guard = none) (s x : Operand) (ho : o.op = .call { callee := .builtin .append, args := #[s, x], argTypes := #[62, 62] })
  (base : Nat) (v : Value) (l : List Cmp) (n : Nat) (hs : a.eval s = v) (hown : W.ownsRow base 34 5 v n (l.flatMap cmpC)) (b c : Nat) (z : Cmp) (hx : a.eval x = .slice (some ⟨b, 0, none⟩) 1 c) (hcell : ∀ j u, (cmpC z)[j]? = some u → W.cell? ⟨b, j, none⟩ = some u) (hn : n ≤ 1000000) (hbase : base ≤ W.heap.size)
  (h : ∀ g cap w', w'.ownsRow base 34 5 (.slice (some ⟨g, 0, none⟩) (n + 1) cap) (n + 1) ((l ++ [z]).flatMap cmpC) → Onto W v w' (.slice (some ⟨g, 0, none⟩) (n + 1) cap) → K (a.put o.dst (.slice (some ⟨g, 0, none⟩) (n + 1) cap)) w') :
  if Region.wanted o (yielded ops a.tmps) = true then Oper.wp Tryz.prog o a W K Q else E := by
 obtain ⟨i, hi, hzz⟩ := Option.map_eq_some_iff.1 infoCmp
 simp only [Prod.mk.injEq] at hzz
 obtain ⟨hz, hs1, hb⟩ := hzz
 obtain ⟨zv, hzv, hzs⟩ := Option.map_eq_some_iff.1 hz
 refine step_append_lies _ hgd s x 62 ho base 34 i zv 5 40 Tryz.underlying62 hi hzv hs1 hb hzs (by decide) v n (l.flatMap cmpC) hs hown ⟨b, 0, none⟩ 1 c (cmpC z) hx rfl ?_ ?_ (by decide) ?_ ?_ hbase W.heap.size rfl ?_
 ·intro j u hu
  rw [add_row]; exact hcell j u hu
 ·intro u hu
  simp only [cmpC, List.mem_cons, List.not_mem_nil, or_false] at hu
  rcases hu with rfl | rfl | rfl | rfl | rfl <;> rfl
 ·unfold maxLen; omega
 ·omega
 ·intro g cap w' h1 h2 h3 _
  refine h g cap w' (by rw [cflat_snoc]; exact h1) ⟨h2, ?_⟩
  rcases h3 with h3 | h3
  ·exact .inl (h3 ▸ rfl)
  ·exact .inr ⟨g, rfl, by omega⟩
theorem app_cmp_wp {o : Oper} {a : Act} {K : Act → World → Prop} {Q : Exit → Act → World → Prop} {W : World} (hgd : o.guard = none) (s x : Nat) (ho : o.op = .call { callee := .builtin .append, args := #[.tmp s, .tmp x], argTypes := #[62, 62] })
  (base : Nat) (v : Value) (l : List Cmp) (n : Nat) (hs : a.tmps[s]?.getD undef = v) (hown : W.ownsRow base 34 5 v n (l.flatMap cmpC)) (b c : Nat) (z : Cmp) (hx : a.tmps[x]?.getD undef = .slice (some ⟨b, 0, none⟩) 1 c) (hcell : ∀ j u, (cmpC z)[j]? = some u → W.cell? ⟨b, j, none⟩ = some u) (hn : n ≤ 1000000) (hbase : base ≤ W.heap.size)
  (h : ∀ g cap w', w'.ownsRow base 34 5 (.slice (some ⟨g, 0, none⟩) (n + 1) cap) (n + 1) ((l ++ [z]).flatMap cmpC) → Onto W v w' (.slice (some ⟨g, 0, none⟩) (n + 1) cap) → K (a.put o.dst (.slice (some ⟨g, 0, none⟩) (n + 1) cap)) w') :
  Oper.wp Tryz.prog o a W K Q := by
 have h1 := step_app_cmp (ops := #[]) (E := False) (Q := Q) hgd (.tmp s) (.tmp x) ho base v l n (by rw [← hs]; exact Array.getD_eq_getD_getElem?) hown b c z (by rw [← hx]; exact Array.getD_eq_getD_getElem?) hcell hn hbase h
 rw [if_pos (by unfold Region.wanted; rw [hgd])] at h1
 exact h1
def CmpBox (w : World) (v : Value) (z : Cmp) : Prop := ∃ b c, v = .slice (some ⟨b, 0, none⟩) 1 c ∧ ∀ j u, (cmpC z)[j]? = some u → w.cell? ⟨b, j, none⟩ = some u
theorem cmp_row {W : World} {b : Nat} {z : Cmp} {t : TypeId} (h : W.heap[b]? = some (.cells #[.int .i64 z.dealer, .int .i64 z.row, .int .i64 z.D, .int .i64 z.E, .int .i64 z.S] t (0, 0))) (j : Nat) (u : Value) (hj : (cmpC z)[j]? = some u) : W.cell? ⟨b, j, none⟩ = some u :=
 row_cell h (by
  match j with
  | 0 | 1 | 2 | 3 | 4 => exact hj
  | n + 5 => simp [cmpC] at hj)
theorem CmpBox.new (W : World) (z : Cmp) (t : TypeId) : CmpBox (W.alloc (.cells #[.int .i64 z.dealer, .int .i64 z.row, .int .i64 z.D, .int .i64 z.E, .int .i64 z.S] t)) (.slice (some ⟨W.heap.size, 0, none⟩) 1 1) z :=
 ⟨W.heap.size, 1, rfl, fun j u hj => cmp_row (World.alloc_heap_new _ _) j u hj⟩
structure AppC (mb tb cb base : Nat) (F : Int → Option Value) (S : Int → List Cmp) (c : Cmp) (d9 d10 : Bool) (v9 : Value) (W : World) : Prop where
 map0 : d10 = false → MapZ W mb F
 map1 : d10 = true → MapZ W mb (putZ F c.dealer v9)
 rows0 : d9 = false → RowsC base W F S
 rows1 : d9 = true → RowsC base W (putZ F c.dealer v9) (putS S c)
 cell : ∀ j u, (cmpC c)[j]? = some u → W.cell? ⟨cb, j, none⟩ = some u
 tab : W.cell? ⟨tb, 0, none⟩ = some (.map (some mb))
 far : d9 = false → (valF F c.dealer).ownBlock ≠ some cb
 lt : mb < base ∧ tb < base ∧ base ≤ cb ∧ cb < W.heap.size ∧ tb ≠ mb
section
variable {mb tb cb base : Nat} {F : Int → Option Value} {S : Int → List Cmp} {c : Cmp} {d9 d10 : Bool} {v9 : Value} {W W' : World}
theorem AppC.below (h : AppC mb tb cb base F S c d9 d10 v9 W) (hb : Below W.heap.size W W') : AppC mb tb cb base F S c d9 d10 v9 W' :=
 ⟨fun e => (h.map0 e).below hb, fun e => (h.map1 e).below hb, fun e => (h.rows0 e).below hb, fun e => (h.rows1 e).below hb, fun j u hj => below_cell hb (h.cell j u hj), below_cell hb h.tab, h.far, ⟨h.lt.1, h.lt.2.1, h.lt.2.2.1, Nat.lt_of_lt_of_le h.lt.2.2.2.1 hb.size, h.lt.2.2.2.2⟩⟩
theorem AppC.big (h : AppC mb tb cb base F S c d9 d10 v9 W) : base ≤ W.heap.size := by have := h.lt; omega
theorem AppC.app (h : AppC mb tb cb base F S c d9 d10 v9 W) (e : d9 = false) (e2 : d10 = false) {v : Value} (ho : Onto W (valF F c.dealer) W' v) (hv : W'.ownsRow base 34 5 v ((S c.dealer).length + 1) ((S c.dealer ++ [c]).flatMap cmpC)) :
  AppC mb tb cb base F S c true d10 v W' := by
 obtain ⟨l1, l2, l3, l4, l5⟩ := h.lt
 have hown := (h.rows0 e).own c.dealer
 refine ⟨fun _ => (h.map0 e2).kept (ho.1.block _ (by omega) (fun e3 => own_ne hown (.inr l1) e3.symm)), (fun e3 => by rw [e2] at e3; cases e3), (fun e3 => by cases e3), fun _ => (h.rows0 e).app c ho hv, fun j u hj => ?_, ?_, (fun e3 => by cases e3), l1, l2, l3, Nat.lt_of_lt_of_le l4 ho.1.size, l5⟩
 ·rw [onto_far ho l4 (h.far e)]; exact h.cell j u hj
 ·rw [onto_far ho (by omega) (own_ne hown (.inr l2))]; exact h.tab
theorem cell_kept {w w' : World} {b o : Nat} {v : Value} (h : w.cell? ⟨b, o, none⟩ = some v) (hb : w'.heap[b]? = w.heap[b]?) : w'.cell? ⟨b, o, none⟩ = some v := by
 unfold World.cell? at h ⊢
 rw [hb]; exact h
theorem AppC.turn (h : AppC mb tb cb base F S c d9 d10 v9 W) (e : d9 = true) (hm : MapZ W' mb (putZ F c.dealer v9)) (hs : W'.heap.size = W.heap.size) (hk : ∀ i, i ≠ mb → W'.heap[i]? = W.heap[i]?) : AppC mb tb cb base F S c d9 true v9 W' := by
 obtain ⟨l1, l2, l3, l4, l5⟩ := h.lt
 exact ⟨fun e3 => (by cases e3), fun _ => hm, fun e3 => (by rw [e] at e3; cases e3), fun _ => (h.rows1 e).kept fun g hg _ => hk g (by omega), fun j u hj => cell_kept (h.cell j u hj) (hk cb (by omega)), cell_kept h.tab (hk tb l5), h.far, l1, l2, l3, by omega, l5⟩
end
end Go.Proofs.YtggnipkfliompaaGreatDoor
namespace Go.Proofs.YtggnipkfliompaaGreatDoor
open Go.RowKit FP
attribute [local go_sem] Oper.semAt_some
def noD : Dlg := ⟨0, [], []⟩
def fineN (rows : List (List Int)) (l : List Dlg) (i : Nat) : Bool := fineB rows (l.getD i noD)
def fineI (rows : List (List Int)) (l : List Dlg) (k : Nat) : List Nat := (List.range k).filter (fineN rows l)
theorem fineN_at {rows : List (List Int)} {l : List Dlg} {i : Nat} (h : i < l.length) : fineN rows l i = fineB rows l[i] := by unfold fineN; rw [getD_at h]
theorem fineI_yes {rows : List (List Int)} {l : List Dlg} {n : Nat} (h : fineN rows l n = true) : fineI rows l (n + 1) = fineI rows l n ++ [n] := by
 unfold fineI; rw [List.range_succ, List.filter_append]; simp [h]
theorem fineI_no {rows : List (List Int)} {l : List Dlg} {n : Nat} (h : fineN rows l n = false) : fineI rows l (n + 1) = fineI rows l n := by
 unfold fineI; rw [List.range_succ, List.filter_append]; simp [h]
theorem fineI_split (rows : List (List Int)) (l : List Dlg) {n N : Nat} (h : n ≤ N) : ∃ r, fineI rows l N = fineI rows l n ++ r := by
 obtain ⟨k, rfl⟩ : ∃ k, N = n + k := ⟨N - n, by omega⟩
 unfold fineI
 rw [List.range_add, List.filter_append]
 exact ⟨_, rfl⟩
theorem fineI_at {rows : List (List Int)} {l : List Dlg} {n N : Nat} (h : n < N) (hm : fineN rows l n = true) : (fineI rows l N).getD (fineI rows l n).length 0 = n ∧ (fineI rows l n).length < (fineI rows l N).length := by
 obtain ⟨r, hr⟩ := fineI_split rows l (show n + 1 ≤ N by omega)
 rw [fineI_yes hm] at hr
 rw [hr]
 constructor
 ·simp [List.getD_eq_getElem?_getD]
 ·simp
def dlgV (l : List Dlg) (vs : DVals) (i : Nat) : Value := .agg #[.int .i64 (l.getD i noD).dealer, (vs i).1, (vs i).2]
def dlgE (l : List Dlg) (vs : DVals) (i : Nat) : Array Value := #[.int .i64 (l.getD i noD).dealer, dlgV l vs i]
theorem rights1_goes : Goes Tryz.prog 169 := goes_of Tryz.func169 (by kernel_rfl) rfl
theorem rights_any (rv ov : Value) (la : Option Addr) (ln lc : Nat) (w : World) (hR : ∃ a n c, rv = .slice a n c) (hO : ∃ a n c, ov = .slice a n c) :
  Calls Tryz.prog 101 #[.agg #[rv, ov], .slice la ln lc] w fun e w' =>
   e = .returned (.func (.func 169) #[] #[.pointer (some ⟨w.heap.size + 1, 0, none⟩), .pointer (some ⟨w.heap.size, 0, none⟩)]) ∧ w' = (w.alloc (.cells #[rv, ov] 25)).alloc (.cells #[.slice la ln lc] 55) := by
 have hmf : ∀ (fn : Fn) (first cap : Array Value) (w : World), (Instr.makeFunc fn first cap).run Tryz.prog w = .ok (.func fn first cap) w := fun _ _ _ _ => rfl
 obtain ⟨a1, n1, k1, rfl⟩ := hR
 obtain ⟨a2, n2, k2, rfl⟩ := hO
 go_enter Tryz.func101, Tryz.ntmps101
 go_wp2_with fail
 go_ret
 exact ⟨rfl, rfl⟩
theorem rights1_iterates (w : World) (lb pb : Nat) (rv ov lv : Value) (rows : List (List Int)) (l : List Dlg) (vs : DVals) (hR : Rows2 w rv rows) (hO : ∃ a n c, ov = .slice a n c) (hL : Dlgs w lv l vs) (I : Nat → World → Prop)
  (hF : ∀ j W, I j W → Below w.heap.size w W ∧ W.cell? ⟨lb, 0, none⟩ = some lv ∧ W.cell? ⟨pb, 0, none⟩ = some rv ∧ W.cell? ⟨pb, 1, none⟩ = some ov) :
  Iterates4 Tryz.prog 169 #[.pointer (some ⟨lb, 0, none⟩), .pointer (some ⟨pb, 0, none⟩)] (fineI rows l l.length).length (fun j => dlgE l vs ((fineI rows l l.length).getD j 0)) I := by
 intro ll J Jx W hJ hA hY h0
 obtain ⟨a1, k1, rfl, -⟩ := id hR
 obtain ⟨a2, n2, k2, rfl⟩ := hO
 obtain ⟨a3, k3, rfl, -, hl3, -⟩ := id hL
 obtain ⟨-, zl, -, -⟩ := hF 0 W (hJ 0 W h0)
 have HF := Lib.hid hF
 have HY := Lib.hid hY
 have HA := Lib.hid hA
 have HR := Lib.hid hR
 have HL := Lib.hid hL
 refine callsIn_of_wp Tryz.func169 rfl trivial ?_ rfl
 simp only [Tryz.ntmps169, List.size_toArray, List.length_cons, List.length_nil, Nat.reduceAdd, Nat.reduceSub, Array.replicate_succ, Array.replicate_zero, List.push_toArray, List.append_toArray, List.nil_append, List.cons_append]
 clear hF hY hA hR hL
 gi_wp2
 gi_loopw [5, 8] (fun _ i wr => ∃ j : Nat, j ≤ l.length ∧ i = .int .i64 j ∧ J (fineI rows l j).length wr) (fun _ i _ => l.length - (intOf i).toNat)
 case atStart => exact ⟨0, Nat.zero_le _, rfl, h0⟩
 case round =>
  obtain ⟨j, hj, rfl, hJj⟩ := hrel
  by_cases hlt : j < l.length
  ·obtain ⟨hbw, z0, zp0, zp1⟩ := HF.out _ wr (hJ _ wr hJj)
   obtain ⟨b, off, ea, hD⟩ := (HL.out.below hbw).at hlt
   have hdv : dlgE l vs j = #[.int .i64 l[j].dealer, .agg #[.int .i64 l[j].dealer, (vs j).1, (vs j).2]] := by unfold dlgE dlgV; rw [getD_at hlt]
   have HDV := Lib.hid hdv
   have HS := Lib.hid (fineN_at (rows := rows) hlt)
   have HCS := Lib.hid hD.cs
   have HPS := Lib.hid hD.ps
   have y1 := hD.c0
   have y2 := hD.c1
   have y3 := hD.c2
   subst ea
   clear hdv hD
   obtain ⟨d, hd⟩ : ∃ d, d = l[j] := ⟨_, rfl⟩
   rw [← hd] at y1 HDV HS HCS HPS
   clear hd
   obtain ⟨cv, hcv⟩ : ∃ v, v = (vs j).1 := ⟨_, rfl⟩
   obtain ⟨pv, hpv⟩ : ∃ v, v = (vs j).2 := ⟨_, rfl⟩
   rw [← hcv] at y2 HCS HDV
   rw [← hpv] at y3 HPS HDV
   clear hcv hpv
   obtain ⟨ac, kc, rfl, -⟩ := id HCS.out
   obtain ⟨ap, kp, rfl, -⟩ := id HPS.out
   obtain ⟨wn, hwn, hbn, hrn, hsn⟩ := box36 wr (.int .i64 d.dealer) (.slice ac d.cs.length kc) (.slice ap d.ps.length kp) 28
   have q0 : wn.cell? ⟨wr.heap.size, 0, none⟩ = some (.int .i64 d.dealer) := row_cell hrn rfl
   have q1 : wn.cell? ⟨wr.heap.size, 1, none⟩ = some (.slice ac d.cs.length kc) := row_cell hrn rfl
   have q2 : wn.cell? ⟨wr.heap.size, 2, none⟩ = some (.slice ap d.ps.length kp) := row_cell hrn rfl
   have qp0 := below_cell hbn zp0
   have qp1 := below_cell hbn zp1
   have HWN := Lib.hid hwn
   have HBN := Lib.hid hbn
   have HC := Lib.hid (kfine_any _ _ _ _ rows d wn (HR.out.below (hbw.trans (hbn.mono hbw.size))) ⟨a2, n2, k2, rfl⟩ (HCS.out.below hbn) (HPS.out.below hbn))
   have i0 : 0 ≤ (j : Int) := by omega
   have i1 : (j : Int) < (l.length : Int) := by omega
   have HJJ := Lib.hid hJj
   clear hwn hbn hrn hsn hJj hbw HCS HPS
   gi_wp2_with (rw [← HWN.out])
   refine ⟨trivial, rfl, (callsIn_wide (n := 0)).2 (HC.out.mono ?_)⟩
   rintro e w6 ⟨rfl, hb6⟩
   have HB6 := Lib.hid (HBN.out.trans (hb6.mono HBN.out.size))
   have t0 := below_cell hb6 q0
   have t1 := below_cell hb6 q1
   have t2 := below_cell hb6 q2
   clear hb6
   cases hx : fineB rows d with
   | true =>
    obtain ⟨hgn, hcn⟩ := fineI_at (rows := rows) (l := l) hlt (HS.out.trans hx)
    have HN := Lib.hid (show (fineI rows l (j + 1)).length = (fineI rows l j).length + 1 by rw [fineI_yes (HS.out.trans hx)]; simp)
    obtain ⟨fn, tmps, assign, body, hy, hR⟩ := HY.out _ w6 (HA.out _ wr w6 HJJ.out HB6.out) hcn
    simp only [hgn] at hy
    rw [HDV.out] at hy
    have HCN := Lib.hid hcn
    clear hx hgn hcn
    gi_wp2
    refine ⟨rfl, hR.mono ?_⟩
    rintro e W3 (⟨rfl, hJ3⟩ | ⟨rfl, hJx3⟩)
    ·gi_wp2
     go_roundw
     case rel => exact ⟨j + 1, by omega, by go_num, by rw [HN.out]; exact hJ3⟩
     case measure => simp [intOf]; omega
    ·gi_wp2
     refine bodyPost_ret (results_none rfl _ _ _) rfl ?_
     exact ⟨⟨_, rfl⟩, .inr ⟨_, by have := HCN.out; omega, hJx3⟩⟩
   | false =>
    have HN := Lib.hid (show (fineI rows l (j + 1)).length = (fineI rows l j).length by rw [fineI_no (HS.out.trans hx)])
    have HJ6 := Lib.hid (HA.out _ wr w6 HJJ.out HB6.out)
    clear hx
    gi_wp2
    refine ⟨fun _ h => (by cases h), ?_⟩
    gi_wp2
    go_roundw
    case rel => exact ⟨j + 1, by omega, by go_num, by rw [HN.out]; exact HJ6.out⟩
    case measure => simp [intOf]; omega
  ·obtain rfl : j = l.length := by omega
   gi_wp2
   go_end0
   exact ⟨⟨_, rfl⟩, .inl hJj⟩
end Go.Proofs.YtggnipkfliompaaGreatDoor
namespace Go.Proofs.YtggnipkfliompaaGreatDoor
open Go.RowKit FP
end Go.Proofs.YtggnipkfliompaaGreatDoor
namespace Go.Proofs.YtggnipkfliompaaGreatDoor
open Go.RowKit FP
section
variable {P : Program} {md : Region.Mode} {ops : Array Oper} {Q : Exit → Act → World → Prop} {S : World → Prop} {i : Nat} {oi : Oper} {fuel : Nat} {listed : Array Bool} {a : Act} {w : World}
end
end Go.Proofs.YtggnipkfliompaaGreatDoor
namespace Go.Proofs.YtggnipkfliompaaGreatDoor
open Go.RowKit FP
end Go.Proofs.YtggnipkfliompaaGreatDoor
namespace Go.Proofs.YtggnipkfliompaaGreatDoor
open Go.RowKit FP
end Go.Proofs.YtggnipkfliompaaGreatDoor
namespace Go.Proofs.YtggnipkfliompaaGreatDoor
open Go.RowKit FP
def put3 (W : World) (B : Nat) (a b c : Value) : World := ((W.setCell ⟨B, 0, none⟩ a).setCell ⟨B, 1, none⟩ b).setCell ⟨B, 2, none⟩ c
theorem put3_row {W : World} {B : Nat} {x y z : Value} (a b c : Value) (t : TypeId) (q : W.heap[B]? = some (.cells #[x, y, z] t (0, 0))) : (put3 W B a b c).heap[B]? = some (.cells #[a, b, c] t (0, 0)) := row_set (row_set (row_set q 0 a) 1 b) 2 c
theorem put3_other {W : World} {B K : Nat} (a b c : Value) (h : K ≠ B) : (put3 W B a b c).heap[K]? = W.heap[K]? := by
 unfold put3
 rw [Below.heap_setCell _ _ _ _ h, Below.heap_setCell _ _ _ _ h, Below.heap_setCell _ _ _ _ h]
theorem put3_below {n0 B : Nat} {w0 W : World} (a b c : Value) (hb : Below n0 w0 W) (hB : n0 ≤ B) : Below n0 w0 (put3 W B a b c) := ((hb.setCell hB _).setCell hB _).setCell hB _
theorem shares_at {w : World} {a : Option Addr} {n c : Nat} {l : List (Int × Int)} (h : Shares w (.slice a n c) l) {k : Nat} (hk : k < l.length) : ∃ b off, a = some ⟨b, off, none⟩ ∧ w.cell? ⟨b, off + k * 2, none⟩ = some (.int .i64 l[k].1) ∧ w.cell? ⟨b, off + k * 2 + 1, none⟩ = some (.int .i64 l[k].2) := by
 obtain ⟨a', cap, h1, -, -, -, h5⟩ := h
 cases h1
 exact h5 k hk
theorem parcels_put3 {w : World} {B n c : Nat} {a : Option Addr} {l : List Pcl} (h : Parcels w (.slice a n c) l) (hb : ∀ b o2, a = some ⟨b, o2, none⟩ → b ≠ B) (x y z : Value) : Parcels (put3 w B x y z) (.slice a n c) l := ((h.set hb _).set hb _).set hb _
end Go.Proofs.YtggnipkfliompaaGreatDoor
