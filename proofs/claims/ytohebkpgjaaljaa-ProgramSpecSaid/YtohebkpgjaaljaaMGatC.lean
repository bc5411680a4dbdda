/- Appends to a slice that is full; program.powers. program.Make's rows: the state of treat. -/
import Derived.Test.YtohebkpgjaaljaaMGatA
import Derived.Test.YtohebkpgjaaljaaMRegIn
import Derived.Test.YtohebkpgjaaljaaMRange4
import Derived.Test.YtohebkpgjaaljaaMDeaD
import Derived.Lib.AppendZerosOnto
import Derived.Laws.Append
namespace Go.Proofs.Ytohebkpgjaaljaa
open Go.RowKit

attribute [local go_sem] Oper.semAt_some

/-- A slice of integers that is full. -/
def FullI (w : World) (v : Value) (zs : List Int) : Prop := ∃ b off, v = .slice (some ⟨b, off, none⟩) zs.length zs.length ∧ zs ≠ [] ∧ (∀ z ∈ zs, R64 z) ∧ ∀ k (h : k < zs.length), w.cell? ⟨b, off + k, none⟩ = some (.int .i64 zs[k])
theorem FullI.ints {w : World} {v : Value} {zs : List Int} (h : FullI w v zs) (hl : zs.length ≤ 1000000) : Ints w v zs := by
  obtain ⟨b, off, rfl, -, hr, hk⟩ := h
  exact ⟨_, _, rfl, Nat.le_refl _, by omega, hr, fun k hk' => ⟨b, off, rfl, hk k hk'⟩⟩

theorem zero_int (n : Nat) : (Builtin.zeroCells ((Value.int IntKind.i64 0).cells) n).toList = List.replicate n (Value.int .i64 0) := by
  refine List.ext_getElem ?_ fun i h1 h2 => ?_
  · rw [Array.length_toList, size_zeroCells]; simp [Value.cells]
  · simp [Builtin.zeroCells, Value.cells, Nat.mod_one]
/-- A new row that begins with a list. -/
theorem own_grown (w : World) (n cap : Nat) (xs ys : List Value) (hx : xs.length = n) (hc : n + ys.length = cap) (hm : cap ≤ maxLen) :
    (w.drew.alloc (.cells (xs ++ ys).toArray 3)).ownsRow w.heap.size 3 1 (.slice (some ⟨w.heap.size, 0, none⟩) n cap) n xs := by
  refine ⟨by omega, .inr ⟨w.heap.size, cap, (xs ++ ys).toArray, rfl, Nat.le_refl _, World.alloc_heap_new w.drew _, by omega, hm, by simp; omega, ?_⟩⟩
  rw [Nat.mul_one, List.toList_toArray, List.take_left' hx]

theorem full_olds {w : World} {b off : Nat} {zs : List Int} (hk : ∀ k (h : k < zs.length), w.cell? ⟨b, off + k, none⟩ = some (.int .i64 zs[k])) : ∀ j u, (zs.map (Value.int .i64))[j]? = some u → w.cell? ((⟨b, off, none⟩ : Addr).add j) = some u := by
  intro j u hu
  rw [List.getElem?_map] at hu
  obtain ⟨z, hz1, rfl⟩ := Option.map_eq_some_iff.1 hu
  obtain ⟨hj, rfl⟩ := List.getElem?_eq_some_iff.1 hz1
  rw [add_off]
  exact hk j hj

set_option maxRecDepth 100000 in
/-- Zeros appended to a full slice: a new row of the call's own. -/
theorem app_full_zeros (w : World) (v : Value) (zs : List Int) (h : FullI w v zs) (k : Nat) (h0 : 0 < k) (hl : zs.length + k ≤ 1000) :
    ∃ v' w', (Builtin.append_ #[23, 3] 23 #[v, .int .i64 k]).run Try.prog w = .ok v' w' ∧ Below w.heap.size w w' ∧ w'.ownsRow w.heap.size 3 1 v' (zs.length + k) ((zs ++ List.replicate k 0).map (Value.int .i64)) := by
  obtain ⟨i, hi, hz, hs, hb⟩ := info_parts infoInt
  obtain ⟨b, off, rfl, -, hr, hk⟩ := h
  have hold := run_firstCells_some (P := Try.prog) w.drew i.size zs.length ⟨b, off, none⟩ zs.length zs.length (zs.map (Value.int .i64)) (by rw [hs]; simp) (full_olds hk)
  have h := Lib.run_append_grow_zeros (P := Try.prog) w 23 3 23 3 i (.int .i64 0) .i64 .i64 Try.underlying23 Try.underlying3 hi hz (some ⟨b, off, none⟩) zs.length zs.length (zs.map (Value.int .i64)) hold k h0 (by omega) (by omega) (by omega) (by rw [hb]; omega) (growslice_fits (by omega) (by rw [hb]; omega))
  have hge := grownCap_ge w (zs.length + k) zs.length 3
  have hle := grownCap_le_maxLen w (zs.length + k) zs.length 3 (by unfold maxLen; omega)
  refine ⟨_, _, h, ((Below.refl _ _).drew).alloc (Nat.le_refl _) _, ?_⟩
  have e : (zs.map (Value.int .i64)).toArray ++ Builtin.zeroCells (Value.int .i64 0).cells k ++ Builtin.zeroCells (Value.int .i64 0).cells (grownCap w (zs.length + k) zs.length 3 - (zs.length + k)) = ((zs ++ List.replicate k 0).map (Value.int .i64) ++ List.replicate (grownCap w (zs.length + k) zs.length 3 - (zs.length + k)) (Value.int .i64 0)).toArray := by
    apply Array.ext'
    rw [Array.toList_append, Array.toList_append, zero_int, zero_int]
    simp
  rw [e]
  exact own_grown w _ _ _ _ (by simp) (by simp; omega) hle
set_option maxRecDepth 100000 in
/-- An integer appended to a full slice. -/
theorem app_full_one (w : World) (v : Value) (zs : List Int) (h : FullI w v zs) (x : Int) (b2 c : Nat) (hx : w.cell? ⟨b2, 0, none⟩ = some (.int .i64 x)) (hl : zs.length ≤ 1000) :
    ∃ v' w', (Builtin.append_ #[23, 23] 23 #[v, .slice (some ⟨b2, 0, none⟩) 1 c]).run Try.prog w = .ok v' w' ∧ Below w.heap.size w w' ∧ w'.ownsRow w.heap.size 3 1 v' (zs.length + 1) ((zs ++ [x]).map (Value.int .i64)) := by
  obtain ⟨i, hi, hz, hs, hb⟩ := info_parts infoInt
  obtain ⟨b, off, rfl, -, hr, hk⟩ := h
  have h := run_append_grow (P := Try.prog) w 23 23 3 i (.int .i64 0) Try.underlying23 hi hz ⟨b, off, none⟩ zs.length zs.length (zs.map (Value.int .i64)) (by rw [hs]; simp) (full_olds hk) ⟨b2, 0, none⟩ 1 c [.int .i64 x] (by rw [hs]; rfl) (by
    intro j u hu
    cases j with
    | zero => simp at hu; subst hu; rw [add_off]; exact hx
    | succ j => simp at hu) (by omega) (by omega) (growslice_fits (by omega) (by rw [hb]; omega))
  have hge := grownCap_ge w (zs.length + 1) zs.length 3
  have hle := grownCap_le_maxLen w (zs.length + 1) zs.length 3 (by unfold maxLen; omega)
  refine ⟨_, _, h, ((Below.refl _ _).drew).alloc (Nat.le_refl _) _, ?_⟩
  have e : (zs.map (Value.int .i64)).toArray ++ [Value.int .i64 x].toArray ++ Builtin.zeroCells (Value.int .i64 0).cells (grownCap w (zs.length + 1) zs.length 3 - (zs.length + 1)) = ((zs ++ [x]).map (Value.int .i64) ++ List.replicate (grownCap w (zs.length + 1) zs.length 3 - (zs.length + 1)) (Value.int .i64 0)).toArray := by
    apply Array.ext'
    rw [Array.toList_append, Array.toList_append, zero_int]
    simp
  rw [e]
  exact own_grown w _ _ _ _ (by simp) (by simp; omega) hle

/-- The powers of a number. -/
def pwN (n : Int) : Nat → Int
  | 0 => 1
  | j + 1 => pwN n j * n % 1073741789
theorem pwN_pow (x : Nat) : ∀ j, pwN x (j + 1) = (x : Int) ^ (j + 1) % 1073741789
  | 0 => by show (1 * (x : Int)) % 1073741789 = _; rw [Int.one_mul, Int.pow_succ, Int.pow_zero, Int.one_mul]
  | j + 1 => by
    show pwN x (j + 1) * (x : Int) % 1073741789 = _
    rw [pwN_pow x j, Int.pow_succ (x : Int) (j + 1), Int.mul_emod, Int.emod_emod, ← Int.mul_emod]
theorem pwN_r64 (n : Int) : ∀ j, R64 (pwN n j)
  | 0 => R64.mk (by unfold pwN; omega) (by unfold pwN; omega)
  | j + 1 => mod_r64 _

set_option maxRecDepth 100000 in
set_option maxHeartbeats 2000000 in
theorem powers1_iterates (mb nb N : Nat) (n : Int) (hn : R64 n) (hN : N ≤ 1000000) (I : Nat → World → Prop) (hF : ∀ j W, I j W → W.cell? ⟨mb, 0, none⟩ = some (.int .i64 N) ∧ W.cell? ⟨nb, 0, none⟩ = some (.int .i64 n)) :
    Iterates4 Try.prog 89 #[.pointer (some ⟨mb, 0, none⟩), .pointer (some ⟨nb, 0, none⟩)] N (fun j => #[.int .i64 (pwN n (j + 1))]) I := by
  intro ll J Jx W hJ hA hY h0
  have HF := Lib.hid hF
  have HY := Lib.hid hY
  obtain ⟨c0, -⟩ := hF 0 W (hJ 0 W h0)
  refine callsIn_of_wp Try.func89 rfl trivial ?_ rfl
  simp only [Try.ntmps89, List.size_toArray, List.length_cons, List.length_nil, Nat.reduceAdd, Nat.reduceSub, Array.replicate_succ, Array.replicate_zero, List.push_toArray, List.append_toArray, List.nil_append, List.cons_append]
  clear hF hY
  gi_wp2
  gi_loopw [4, 6] (fun x i wr => ∃ j : Nat, j ≤ N ∧ i = .int .i64 j ∧ x = .int .i64 (pwN n j) ∧ J j wr) (fun _ i _ => N - (intOf i).toNat)
  case atStart => exact ⟨0, Nat.zero_le _, rfl, rfl, h0⟩
  case round =>
    obtain ⟨j, hj, rfl, rfl, hJj⟩ := hrel
    by_cases hlt : j < N
    · obtain ⟨-, c1⟩ := HF.out _ wr (hJ _ wr hJj)
      obtain ⟨fn, tmps, assign, body, hy, hR⟩ := HY.out j wr hJj hlt
      have hp := pwN_r64 n j
      have HE : Hid (pwN n (j + 1) = pwN n j * n % 1073741789) := Lib.hid rfl
      rw [HE.out] at hy
      have j1 : (j : Int) < (N : Int) := by omega
      generalize pwN n j = q at *
      gi_wp2
      refine ⟨trivial, rfl, CallsIn.mono ((callsIn_wide (n := 0)).2 (mul_any q n wr hp hn)) ?_⟩
      rintro e w2 ⟨rfl, rfl⟩
      gi_wp2
      refine ⟨rfl, hR.mono ?_⟩
      rintro e W3 (⟨rfl, hJ3⟩ | ⟨rfl, hJx3⟩)
      · gi_wp2
        go_roundw
        case rel => exact ⟨j + 1, by omega, by go_num, by rw [HE.out], hJ3⟩
        case measure => simp [intOf]; omega
      · gi_wp2
        refine bodyPost_ret (results_none rfl _ _ _) rfl ?_
        exact ⟨⟨_, rfl⟩, .inr ⟨j + 1, by omega, hJx3⟩⟩
    · obtain rfl : j = N := by omega
      gi_wp2
      go_end0
      exact ⟨⟨_, rfl⟩, .inl hJj⟩
set_option maxRecDepth 100000 in
theorem powers1_goes : Goes Try.prog 89 := goes_of Try.func89 (by kernel_rfl) rfl

set_option maxRecDepth 100000 in
theorem powers_any (n m : Int) (w : World) : Calls Try.prog 48 #[.int .i64 n, .int .i64 m] w fun e w' =>
    e = .returned (.func (.func 89) #[] #[.pointer (some ⟨w.heap.size + 1, 0, none⟩), .pointer (some ⟨w.heap.size, 0, none⟩)]) ∧ w' = (w.alloc (.cells #[.int .i64 n] 3)).alloc (.cells #[.int .i64 m] 3) := by
  have hmf : ∀ (fn : Fn) (first cap : Array Value) (w : World), (Instr.makeFunc fn first cap).run Try.prog w = .ok (.func fn first cap) w := fun _ _ _ _ => rfl
  go_enter Try.func48, Try.ntmps48
  go_wp2_with fail
  go_ret
  exact ⟨rfl, rfl⟩

end Go.Proofs.Ytohebkpgjaaljaa

namespace Go.Proofs.Ytohebkpgjaaljaa
open Go.RowKit

/-- Blocks that treat writes. -/
def Bad (PB CB : Nat) (W : World) (k : Nat) : Prop := k = PB ∨ k = CB ∨ ∃ L1 L2, W.heap[PB]? = some (.cells #[L1, L2] 25 (0, 0)) ∧ (L1.ownBlock = some k ∨ L2.ownBlock = some k)
structure StepM (PB CB : Nat) (W W' : World) : Prop where
  size : W.heap.size ≤ W'.heap.size
  same : ∀ k, k < W.heap.size → ¬ Bad PB CB W k → W'.heap[k]? = W.heap[k]?
  bad : ∀ k, k < W.heap.size → Bad PB CB W' k → Bad PB CB W k
theorem StepM.refl (PB CB : Nat) (W : World) : StepM PB CB W W := ⟨Nat.le_refl _, fun _ _ _ => rfl, fun _ _ h => h⟩
theorem StepM.trans {PB CB : Nat} {A B C : World} (h : StepM PB CB A B) (k : StepM PB CB B C) : StepM PB CB A C :=
  ⟨Nat.le_trans h.size k.size, fun i hi hn => (k.same i (Nat.lt_of_lt_of_le hi h.size) (fun hb => hn (h.bad i hi hb))).trans (h.same i hi hn),
   fun i hi hb => h.bad i hi (k.bad i (Nat.lt_of_lt_of_le hi h.size) hb)⟩
theorem StepM.of_below {PB CB : Nat} {W W' : World} (hb : Below W.heap.size W W') (hP : PB < W.heap.size) : StepM PB CB W W' :=
  ⟨hb.size, fun k hk _ => hb.block k hk, fun k _ h => by
    unfold Bad at h ⊢
    rwa [hb.block PB hP] at h⟩
/-- A full slice that treat does not write. -/
def SafeF (PB CB : Nat) (W : World) (v : Value) (zs : List Int) : Prop := FullI W v zs ∧ ∃ b off n c, v = .slice (some ⟨b, off, none⟩) n c ∧ b < W.heap.size ∧ ¬ Bad PB CB W b
theorem SafeF.step {PB CB : Nat} {W W' : World} {v : Value} {zs : List Int} (h : SafeF PB CB W v zs) (s : StepM PB CB W W') : SafeF PB CB W' v zs := by
  obtain ⟨⟨b, off, rfl, h1, h2, h3⟩, b', off', n, c, e, hb, hn⟩ := h
  simp only [Value.slice.injEq, Option.some.injEq, Addr.mk.injEq] at e
  obtain ⟨⟨rfl, rfl, -⟩, -, -⟩ := e
  exact ⟨⟨_, _, rfl, h1, h2, fun k hk => (World.cell?_of_block (a := ⟨b, off + k, none⟩) (s.same b hb hn)).trans (h3 k hk)⟩, _, _, _, _, rfl, Nat.lt_of_lt_of_le hb s.size, fun hb2 => hn (s.bad b hb hb2)⟩

structure Ord (w : World) (PB CB TB C : Nat) : Prop where
  p : w.heap.size ≤ PB
  c : w.heap.size ≤ CB
  pc : PB < C
  cc : CB < C
  tc : TB < C
  ne : PB ≠ CB
  tp : TB ≠ PB
  tcb : TB ≠ CB
/-- The state of treat: the rows that there are, and the columns. -/
structure MkI (w : World) (PB CB TB C : Nat) (R : List (List Int × Int)) (c : Int) (W : World) : Prop where
  be : Below w.heap.size w W
  cs : C ≤ W.heap.size
  tb : W.cell? ⟨TB, 0, none⟩ = some (.func (.func 47) #[] #[.pointer (some ⟨PB, 0, none⟩), .pointer (some ⟨CB, 0, none⟩), .pointer (some ⟨TB, 0, none⟩)])
  cb : W.heap[CB]? = some (.cells #[.int .i64 c] 3 (0, 0))
  pb : ∃ L1 L2 xs, W.heap[PB]? = some (.cells #[L1, L2] 25 (0, 0)) ∧ Two C W R.length R.length L1 L2 xs (R.map fun r => .int .i64 r.2) ∧ xs.length = R.length ∧ ∀ k (h1 : k < R.length) (h2 : k < xs.length), SafeF PB CB W xs[k] R[k].1
theorem MkI.lt {w : World} {PB CB TB C : Nat} {R : List (List Int × Int)} {c : Int} {W : World} (h : MkI w PB CB TB C R c W) : PB < W.heap.size := by
  obtain ⟨L1, L2, xs, h1, -⟩ := h.pb
  exact (Array.getElem?_eq_some_iff.1 h1).1
theorem MkI.later {w : World} {PB CB TB C : Nat} {R : List (List Int × Int)} {c : Int} {W W' : World} (h : MkI w PB CB TB C R c W) (hb : Below W.heap.size W W') : MkI w PB CB TB C R c W' := by
  have hs := StepM.of_below (CB := CB) hb h.lt
  obtain ⟨h1, h2, h3, h4, L1, L2, xs, h5, h6, h7, h8⟩ := h
  exact ⟨below_later h1 (Nat.le_refl _) hb, Nat.le_trans h2 hb.size, below_cell hb h3, (hb.block _ (Array.getElem?_eq_some_iff.1 h4).1).trans h4, L1, L2, xs, (hb.block _ (Array.getElem?_eq_some_iff.1 h5).1).trans h5, h6.keep hb, h7, fun k a b => (h8 k a b).step hs⟩
/-- The columns are stored. -/
theorem MkI.cols {w : World} {PB CB TB C : Nat} {R : List (List Int × Int)} {c c' : Int} {W : World} (h : MkI w PB CB TB C R c W) (ho : Ord w PB CB TB C) : MkI w PB CB TB C R c' (W.setCell ⟨CB, 0, none⟩ (.int .i64 c')) ∧ StepM PB CB W (W.setCell ⟨CB, 0, none⟩ (.int .i64 c')) := by
  have hlt := h.lt
  obtain ⟨h1, h2, h3, h4, L1, L2, xs, h5, h6, h7, h8⟩ := h
  have hpb : (W.setCell ⟨CB, 0, none⟩ (.int .i64 c')).heap[PB]? = W.heap[PB]? := Below.heap_setCell _ _ _ _ ho.ne
  have hs : StepM PB CB W (W.setCell ⟨CB, 0, none⟩ (.int .i64 c')) := ⟨by simp [World.setCell], fun k _ hn => Below.heap_setCell _ _ _ _ (fun e => hn (.inr (.inl e))), fun k _ hb => by
    unfold Bad at hb ⊢
    rwa [hpb] at hb⟩
  have hcc := ho.cc
  refine ⟨⟨h1.setCell ho.c _, by simpa [World.setCell] using h2, by rw [World.cell?_setCell_far _ _ _ _ (by show CB ≠ TB; exact fun e => ho.tcb e.symm)]; exact h3, row_set h4 0 _, L1, L2, xs, hpb.trans h5, ⟨own_keep_set h6.a hcc _, own_keep_set h6.b hcc _, h6.ap⟩, h7, fun k a b => (h8 k a b).step hs⟩, hs⟩

/-- Two rows have grown: the rest is as it was. -/
structure Near (L1 L2 : Value) (X0 X : World) : Prop where
  os : X.os = X0.os
  tape : X.tape = X0.tape
  output : X.output = X0.output
  size : X0.heap.size ≤ X.heap.size
  same : ∀ k, k < X0.heap.size → L1.ownBlock ≠ some k → L2.ownBlock ≠ some k → X.heap[k]? = X0.heap[k]?
theorem Near.refl (L1 L2 : Value) (X : World) : Near L1 L2 X X := ⟨rfl, rfl, rfl, Nat.le_refl _, fun _ _ _ _ => rfl⟩
theorem Near.below {L1 L2 : Value} {X0 X X' : World} (h : Near L1 L2 X0 X) (hb : Below X.heap.size X X') : Near L1 L2 X0 X' :=
  ⟨hb.os.trans h.os, hb.tape.trans h.tape, hb.output.trans h.output, Nat.le_trans h.size hb.size, fun k hk h1 h2 => (hb.block k (Nat.lt_of_lt_of_le hk h.size)).trans (h.same k hk h1 h2)⟩
theorem Near.one {L1 L2 : Value} {X0 X X' : World} (h : Near L1 L2 X0 X) (hg : X.grownBy X' L1.ownBlock) : Near L1 L2 X0 X' :=
  ⟨hg.os.trans h.os, hg.tape.trans h.tape, hg.output.trans h.output, Nat.le_trans h.size hg.size, fun k hk h1 h2 => (hg.block k (Nat.lt_of_lt_of_le hk h.size) (fun e => h1 e.symm)).trans (h.same k hk h1 h2)⟩
theorem Near.two {L1 L2 : Value} {X0 X X' : World} (h : Near L1 L2 X0 X) (hg : X.grownBy X' L2.ownBlock) : Near L1 L2 X0 X' :=
  ⟨hg.os.trans h.os, hg.tape.trans h.tape, hg.output.trans h.output, Nat.le_trans h.size hg.size, fun k hk h1 h2 => (hg.block k (Nat.lt_of_lt_of_le hk h.size) (fun e => h2 e.symm)).trans (h.same k hk h1 h2)⟩

/-- A leaf has become a row. -/
theorem MkI.leaf {w : World} {PB CB TB C : Nat} {R : List (List Int × Int)} {c : Int} {W X : World} {L1 L2 : Value} {xs : List Value} {v : Value} {zs : List Int} {p : Int} {g1 k1 c1 g2 k2 c2 : Nat} (ho : Ord w PB CB TB C)
    (hI : MkI w PB CB TB C R c W) (h5 : W.heap[PB]? = some (.cells #[L1, L2] 25 (0, 0))) (h7 : xs.length = R.length) (h8 : ∀ k (h1 : k < R.length) (h2 : k < xs.length), SafeF PB CB W xs[k] R[k].1) (hv : SafeF PB CB W v zs)
    (hOwn : Two C W R.length R.length L1 L2 (xs) (R.map fun r => .int .i64 r.2)) (hN : Near L1 L2 W X) (hT : Two C X (R.length + 1) (R.length + 1) (.slice (some ⟨g1, 0, none⟩) k1 c1) (.slice (some ⟨g2, 0, none⟩) k2 c2) (xs ++ [v]) ((R.map fun r => .int .i64 r.2) ++ [.int .i64 p]))
    (o1 : L1.ownBlock = some g1 ∨ W.heap.size ≤ g1) (o2 : L2.ownBlock = some g2 ∨ W.heap.size ≤ g2) :
    MkI w PB CB TB C (R ++ [(zs, p)]) c ((X.setCell ⟨PB, 0, none⟩ (.slice (some ⟨g1, 0, none⟩) k1 c1)).setCell ⟨PB, 1, none⟩ (.slice (some ⟨g2, 0, none⟩) k2 c2)) ∧
    StepM PB CB W ((X.setCell ⟨PB, 0, none⟩ (.slice (some ⟨g1, 0, none⟩) k1 c1)).setCell ⟨PB, 1, none⟩ (.slice (some ⟨g2, 0, none⟩) k2 c2)) := by
  have hlt := hI.lt
  have hpc := ho.pc
  have hcs := hI.cs
  have hnP : ∀ k, k < C → L1.ownBlock ≠ some k ∧ L2.ownBlock ≠ some k := fun k hk => ⟨own_ne hOwn.a (.inr hk), own_ne hOwn.b (.inr hk)⟩
  have x5 : X.heap[PB]? = some (.cells #[L1, L2] 25 (0, 0)) := (hN.same PB hlt (hnP PB hpc).1 (hnP PB hpc).2).trans h5
  have s1 := row_set x5 0 (.slice (some ⟨g1, 0, none⟩) k1 c1)
  have s2 := row_set s1 1 (.slice (some ⟨g2, 0, none⟩) k2 c2)
  obtain ⟨F, hF⟩ : ∃ F, F = (X.setCell ⟨PB, 0, none⟩ (.slice (some ⟨g1, 0, none⟩) k1 c1)).setCell ⟨PB, 1, none⟩ (.slice (some ⟨g2, 0, none⟩) k2 c2) := ⟨_, rfl⟩
  have f5 : F.heap[PB]? = some (.cells #[.slice (some ⟨g1, 0, none⟩) k1 c1, .slice (some ⟨g2, 0, none⟩) k2 c2] 25 (0, 0)) := by rw [hF]; exact s2
  have fo : ∀ k, k ≠ PB → F.heap[k]? = X.heap[k]? := fun k hk => by
    rw [hF, Below.heap_setCell _ _ _ _ hk, Below.heap_setCell _ _ _ _ hk]
  have fs : F.heap.size = X.heap.size := by rw [hF]; simp [World.setCell]
  have hst : StepM PB CB W F := by
    refine ⟨by rw [fs]; exact hN.size, fun k hk hn => ?_, fun k hk hb => ?_⟩
    · have hkP : k ≠ PB := fun e => hn (.inl e)
      rw [fo k hkP]
      exact hN.same k hk (fun e => hn (.inr (.inr ⟨L1, L2, h5, .inl e⟩))) (fun e => hn (.inr (.inr ⟨L1, L2, h5, .inr e⟩)))
    · rcases hb with e | e | ⟨M1, M2, h, e⟩
      · exact .inl e
      · exact .inr (.inl e)
      · rw [f5] at h
        simp only [Option.some.injEq, Obj.cells.injEq, Array.mk.injEq, List.cons.injEq, and_true] at h
        obtain ⟨rfl, rfl⟩ := h
        rcases e with e | e
        · have e2 : g1 = k := by injection e
          subst e2
          rcases o1 with o1 | o1
          · exact .inr (.inr ⟨L1, L2, h5, .inl o1⟩)
          · omega
        · have e2 : g2 = k := by injection e
          subst e2
          rcases o2 with o2 | o2
          · exact .inr (.inr ⟨L1, L2, h5, .inr o2⟩)
          · omega
  rw [← hF]
  have hcc := ho.cc
  have htc := ho.tc
  have hbX : Below w.heap.size w X := hI.be.trans ⟨hN.os, hN.tape, hN.output, hN.size, fun k hk => by
    have := ho.p
    exact hN.same k (by omega) (hnP k (by omega)).1 (hnP k (by omega)).2⟩
  refine ⟨⟨?_, by rw [fs]; exact Nat.le_trans hcs hN.size, ?_, ?_, _, _, xs ++ [v], f5, ?_, by simp [h7], ?_⟩, hst⟩
  · rw [hF]; exact (hbX.setCell ho.p _).setCell ho.p _
  · rw [World.cell?_of_block (a := ⟨TB, 0, none⟩) (fo TB ho.tp), World.cell?_of_block (a := ⟨TB, 0, none⟩) (hN.same TB (by omega) (hnP TB htc).1 (hnP TB htc).2)]; exact hI.tb
  · rw [fo CB (fun e => ho.ne e.symm), hN.same CB (by omega) (hnP CB hcc).1 (hnP CB hcc).2]; exact hI.cb
  · rw [List.length_append, List.map_append, hF]
    exact ⟨own_keep_set (own_keep_set hT.a hpc _) hpc _, own_keep_set (own_keep_set hT.b hpc _) hpc _, hT.ap⟩
  · intro k a b
    by_cases hk : k < R.length
    · rw [List.getElem_append_left (by omega), List.getElem_append_left hk]
      exact (h8 k hk (by omega)).step hst
    · have hk2 : k = R.length := by simp at a; omega
      subst hk2
      rw [List.getElem_append_right (by omega), List.getElem_append_right (by omega)]
      simp only [h7, Nat.sub_self, List.getElem_cons_zero]
      exact hv.step hst

end Go.Proofs.Ytohebkpgjaaljaa
