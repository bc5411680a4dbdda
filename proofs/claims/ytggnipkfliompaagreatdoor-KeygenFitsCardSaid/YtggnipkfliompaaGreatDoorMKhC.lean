/- The laws of keygen, in plain Lean: the complaints that are made (KeygenFits). Package keygen: what Qualified gives, inside a drawn region: its result, the key's box. -/
import Derived.Test.YtggnipkfliompaaGreatDoorMKgD
import Derived.Test.YtggnipkfliompaaGreatDoorMKgP
import Derived.Test.YtggnipkfliompaaGreatDoorMKgT
import Derived.Test.YtggnipkfliompaaGreatDoorMKgJ
import Derived.Laws.OwnMore
namespace Go.Proofs.YtggnipkfliompaaGreatDoor
open Go.RowKit FP

section
variable {rows : List (List Int)} {owners secrets keys : List Int}
/-- The complaints about a dealing, of the first rows. -/
def madeD (rows : List (List Int)) (owners secrets : List Int) (d : Dlg) (n : Nat) : List Cmp :=
  ((List.range n).filter fun i => mkB rows owners (secOf owners secrets i) d (i : Int)).map fun i => mkC rows owners (secOf owners secrets i) d (i : Int)
theorem madeD_yes {d : Dlg} {n : Nat} (h : mkB rows owners (secOf owners secrets n) d (n : Int) = true) : madeD rows owners secrets d (n + 1) = madeD rows owners secrets d n ++ [mkC rows owners (secOf owners secrets n) d (n : Int)] := by
  unfold madeD
  rw [List.range_succ, List.filter_append, List.filter_cons_of_pos (by simpa using h), List.map_append]; rfl
theorem madeD_no {d : Dlg} {n : Nat} (h : mkB rows owners (secOf owners secrets n) d (n : Int) = false) : madeD rows owners secrets d (n + 1) = madeD rows owners secrets d n := by
  unfold madeD
  rw [List.range_succ, List.filter_append, List.filter_cons_of_neg (by simp [h])]; simp
theorem madeD_len {d : Dlg} (n : Nat) : (madeD rows owners secrets d n).length ≤ n := by
  unfold madeD
  rw [List.length_map]
  exact Nat.le_trans (List.length_filter_le ..) (by simp)
theorem madeD_mem {d : Dlg} {n i : Nat} (hi : i < n) (h : mkB rows owners (secOf owners secrets i) d (i : Int) = true) : mkC rows owners (secOf owners secrets i) d (i : Int) ∈ madeD rows owners secrets d n :=
  List.mem_map.2 ⟨i, List.mem_filter.2 ⟨List.mem_range.2 hi, h⟩, rfl⟩
theorem mkC_r {d : Dlg} (hd : FineD rows d) (hp : progE rows owners = 0) {i : Nat} (hi : i < rows.length) (s : Int) : CmpR (mkC rows owners s d (i : Int)) := by
  have h64 := (progE_ok hp).few
  unfold mkC
  split
  · have h1 := hd.dealer
    have h2 := (hd.at hi).2.1
    exact ⟨R64.mk (by show (-4611686018427387904 : Int) ≤ d.dealer; omega) (by show d.dealer ≤ 4611686018427387904; omega), R64.mk (by show (-4611686018427387904 : Int) ≤ (i : Int); omega) (by show (i : Int) ≤ 4611686018427387904; omega), (el_powE h2 _).r64, num_r64 (prE_num _ _), num_r64 (prS_num _ _)⟩
  · exact ⟨R64.mk (by decide) (by decide), R64.mk (by decide) (by decide), R64.mk (by decide) (by decide), R64.mk (by decide) (by decide), R64.mk (by decide) (by decide)⟩
theorem madeD_r {d : Dlg} (hd : FineD rows d) (hp : progE rows owners = 0) {n : Nat} (hn : n ≤ rows.length) : ∀ c ∈ madeD rows owners secrets d n, CmpR c := fun c hc => by
  obtain ⟨i, hi, rfl⟩ := List.mem_map.1 hc
  have h2 := List.mem_range.1 (List.mem_filter.1 hi).1
  exact mkC_r hd hp (by omega) _
/-- The complaints about all of the first dealings. -/
def madF (rows : List (List Int)) (owners secrets : List Int) (d : Dlg) : List Cmp := if fineB rows d = true then madeD rows owners secrets d owners.length else []
def madL (rows : List (List Int)) (owners secrets : List Int) (l : List Dlg) : List Cmp := l.flatMap (madF rows owners secrets)
theorem madL_succ {l : List Dlg} {k : Nat} (h : k < l.length) : madL rows owners secrets (l.take (k + 1)) = madL rows owners secrets (l.take k) ++ madF rows owners secrets l[k] := by
  unfold madL
  rw [List.take_succ_eq_append_getElem h, List.flatMap_append]; simp
theorem madF_len (d : Dlg) : (madF rows owners secrets d).length ≤ owners.length := by
  unfold madF
  split
  · exact madeD_len _
  · simp
theorem madL_len (l : List Dlg) : (madL rows owners secrets l).length ≤ l.length * owners.length := by
  induction l with
  | nil => simp [madL]
  | cons d l ih =>
    unfold madL at ih ⊢
    rw [List.flatMap_cons, List.length_append, List.length_cons, Nat.add_mul, Nat.one_mul]
    have := madF_len (rows := rows) (owners := owners) (secrets := secrets) d
    omega
theorem madL_r (hp : progE rows owners = 0) (l : List Dlg) : ∀ c ∈ madL rows owners secrets l, CmpR c := fun c hc => by
  obtain ⟨d, -, hd⟩ := List.mem_flatMap.1 hc
  unfold madF at hd
  split at hd
  · next h => exact madeD_r (fineB_iff.1 h) hp (by rw [(progE_ok hp).len]; exact Nat.le_refl _) c hd
  · cases hd
theorem madL_mem {l : List Dlg} {d : Dlg} (hd : d ∈ l) (hf : fineB rows d = true) {i : Nat} (hi : i < owners.length) (h : mkB rows owners (secOf owners secrets i) d (i : Int) = true) : mkC rows owners (secOf owners secrets i) d (i : Int) ∈ madL rows owners secrets l :=
  List.mem_flatMap.2 ⟨d, hd, by unfold madF; rw [if_pos hf]; exact madeD_mem hi h⟩
theorem quE_370 {l : List Dlg} {cl : List Cmp} (hp : progE rows owners = 0) (hk : KeysOK owners keys) (h1 : l.length ≤ 64) (h2 : cl.length ≤ 4096) (ho : ordB l = true) : quE rows owners keys l cl = 0 ∨ quE rows owners keys l cl = 370 := by
  unfold quE
  rw [if_neg (by simp [hp]), if_neg (by rw [keysB_iff.2 hk]; simp), if_neg (by omega), if_neg (by rw [ho]; simp)]
  split
  · exact .inr rfl
  · exact .inl rfl
end

set_option maxRecDepth 100000 in
/-- A list of complaints is appended. -/
theorem app_cmps_any {ops : Array Oper} {rest : List Oper} {o : Oper} {a : Act} {Q : Exit → Act → World → Prop} {W : World} (hgd : o.guard = none) (s x : Operand) (ho : o.op = .call { callee := .builtin .append, args := #[s, x], argTypes := #[62, 62] })
    (base n : Nat) (v : Value) (xs : List Value) (hs : a.eval s = v) (hown : W.ownsRow base 34 5 v n xs) (ad : Addr) (c : Nat) (l : List Cmp) (hx : a.eval x = .slice (some ad) l.length c) (hI : Cmps W (.slice (some ad) l.length c) l) (hn : n + l.length ≤ 1000000) (hbase : base ≤ W.heap.size)
    (h : ∀ v' w', w'.ownsRow base 34 5 v' (n + l.length) (xs ++ l.flatMap cmpC) → Below base W w' → wpList Tryz.prog ops Q rest (a.put o.dst v') w') : wpList Tryz.prog ops Q (o :: rest) a W := by
  obtain ⟨ad2, c2, e0, hc, hl, hr, hk⟩ := hI
  simp only [Value.slice.injEq] at e0
  obtain ⟨rfl, -, rfl⟩ := e0
  obtain ⟨i, hi, hzz⟩ := Option.map_eq_some_iff.1 infoCmp
  simp only [Prod.mk.injEq] at hzz
  obtain ⟨hz, hs1, hb⟩ := hzz
  obtain ⟨zv, hzv, hzs⟩ := Option.map_eq_some_iff.1 hz
  refine wpList_append_own _ hgd s x 62 ho base 34 i zv 5 40 Tryz.underlying62 hi hzv hs1 hb hzs (by decide) _ n xs hs hown ad l.length c (l.flatMap cmpC) hx (cflat_size l) ?_ ?_ ?_ ?_ hbase ?_
  · intro j u hu
    have hj : j < (l.flatMap cmpC).length := (List.getElem?_eq_some_iff.1 hu).1
    rw [cflat_size] at hj
    obtain ⟨k, r, hr2, rfl⟩ : ∃ k r, r < 5 ∧ j = k * 5 + r := ⟨j / 5, j % 5, by omega, by omega⟩
    have hkl : k < l.length := by omega
    obtain ⟨b, off, e, q1⟩ := hk k hkl
    injection e with e
    subst e
    rw [cflat_at l k r hkl hr2] at hu
    rw [add_off, ← Nat.add_assoc]
    exact q1 r u hu
  · intro u hu
    obtain ⟨p, -, hp⟩ := List.mem_flatMap.1 hu
    simp only [cmpC, List.mem_cons, List.not_mem_nil, or_false] at hp
    rcases hp with rfl | rfl | rfl | rfl | rfl <;> rfl
  · unfold maxLen; omega
  · omega
  · intro v' w' h1 h2 _
    exact h v' w' h1 (own_below hown h2 hbase)

set_option maxRecDepth 100000 in
/-- Nothing is appended. -/
theorem app_cmps_none {ops : Array Oper} {rest : List Oper} {o : Oper} {a : Act} {Q : Exit → Act → World → Prop} {W : World} (hgd : o.guard = none) (s x : Operand) (ho : o.op = .call { callee := .builtin .append, args := #[s, x], argTypes := #[62, 62] })
    (base n : Nat) (v : Value) (xs : List Value) (hs : a.eval s = v) (hown : W.ownsRow base 34 5 v n xs) (c : Nat) (hx : a.eval x = .slice none 0 c)
    (h : wpList Tryz.prog ops Q rest (a.put o.dst v) W) : wpList Tryz.prog ops Q (o :: rest) a W := by
  obtain ⟨i, hi, -⟩ := Option.map_eq_some_iff.1 infoCmp
  refine wpList_plain hgd fun K hK => ?_
  have hrun : (Builtin.append_ #[62, 62] o.type #[v, .slice none 0 c]).run Tryz.prog W = .ok v W := by
    rcases hown.2 with ⟨rfl, rfl⟩ | ⟨g, cap, cur, rfl, _, _, hnc, _⟩
    · simp [Builtin.append_, run_underlying Tryz.underlying62, sizeOf, typeInfo, hi, Builtin.lenOf, Builtin.firstCells]
    · simp [Builtin.append_, run_underlying Tryz.underlying62, sizeOf, typeInfo, hi, Builtin.lenOf, Builtin.firstCells, hnc, storeCells]
  unfold Oper.wp
  simp [execOp, ho, resolve, invoke, builtin, hs, hx, hrun, Result.andThen]
  exact hK _ _ h
set_option maxRecDepth 100000 in
/-- A list of complaints is appended, or nothing. -/
theorem app_cmps {ops : Array Oper} {rest : List Oper} {o : Oper} {a : Act} {Q : Exit → Act → World → Prop} {W : World} (hgd : o.guard = none) (s x : Operand) (ho : o.op = .call { callee := .builtin .append, args := #[s, x], argTypes := #[62, 62] })
    (base n : Nat) (v : Value) (xs : List Value) (hs : a.eval s = v) (hown : W.ownsRow base 34 5 v n xs) (ad : Option Addr) (c : Nat) (l : List Cmp) (hx : a.eval x = .slice ad l.length c) (hI : Cmps W (.slice ad l.length c) l) (hn : n + l.length ≤ 1000000) (hbase : base ≤ W.heap.size)
    (h : ∀ v' w', w'.ownsRow base 34 5 v' (n + l.length) (xs ++ l.flatMap cmpC) → Below base W w' → wpList Tryz.prog ops Q rest (a.put o.dst v') w') : wpList Tryz.prog ops Q (o :: rest) a W := by
  cases ad with
  | some ad => exact app_cmps_any hgd s x ho base n v xs hs hown ad c l hx hI hn hbase h
  | none =>
    have h0 : l = [] := by
      cases l with
      | nil => rfl
      | cons y l =>
        obtain ⟨b, off, e, -⟩ := hI.at (k := 0) (by simp)
        cases e
    subst h0
    exact app_cmps_none hgd s x ho base n v xs hs hown c hx (h v W (by simpa using hown) (Below.refl _ _ |>.mono hbase))
/-- A complaint's box, in a drawn region. -/
def cmpZ : Cmp := ⟨0, 0, 0, 0, 0⟩
def MBox (n0 : Nat) (w : World) (d s : Bool) (v : Value) (c : Cmp) : Prop := d = true → ∃ B, v = .pointer (some ⟨B, 0, none⟩) ∧ n0 ≤ B ∧ B < w.heap.size ∧ w.heap[B]? = some (.cells (cmpA (if s = true then c else cmpZ)) 34 (0, 0))
theorem MBox.nil (n0 : Nat) (w : World) (v : Value) (c : Cmp) : MBox n0 w false false v c := fun h => by cases h
theorem MBox.below {n0 : Nat} {w w' : World} {d s : Bool} {v : Value} {c : Cmp} (h : MBox n0 w d s v c) (hb : Below w.heap.size w w') : MBox n0 w' d s v c := fun hd => by
  obtain ⟨B, e, h1, h2, h3⟩ := h hd
  exact ⟨B, e, h1, Nat.lt_of_lt_of_le h2 hb.size, (hb.block _ h2).trans h3⟩
theorem MBox.alloc {n0 : Nat} {w : World} {d s : Bool} {v : Value} {c : Cmp} (_h : MBox n0 w d s v c) (hs : s = false) (hn : n0 ≤ w.heap.size) : MBox n0 (w.alloc (.cells (cmpA cmpZ) 34)) true s (.pointer (some ⟨w.heap.size, 0, none⟩)) c := fun _ =>
  ⟨w.heap.size, rfl, hn, by simp, by rw [hs]; exact World.alloc_heap_new _ _⟩
theorem MBox.store {n0 : Nat} {w : World} {d s : Bool} {v : Value} {c : Cmp} {B : Nat} (h : MBox n0 w d s v c) (hv : v = .pointer (some ⟨B, 0, none⟩)) (hd : d = true) (hS : w.heap[B]? = some (.cells (cmpA cmpZ) 34 (0, 0))) : MBox n0 (cmpW w B c) d true v c := fun _ => by
  obtain ⟨B', e, h1, h2, -⟩ := h hd
  rw [hv] at e
  simp only [Value.pointer.injEq, Option.some.injEq, Addr.mk.injEq] at e
  obtain ⟨rfl, -, -⟩ := e
  refine ⟨B, hv, h1, by simpa [cmpW] using h2, ?_⟩
  rw [if_pos rfl]
  exact cmpW_row c rfl _ hS
/-- A share's box, in a drawn region. -/
def sputW (W : World) (B : Nat) (a b : Value) : World := (W.setCell ⟨B, 0, none⟩ a).setCell ⟨B, 1, none⟩ b
theorem sput_below {n0 C : Nat} {w0 W : World} (a b : Value) (hb : Below n0 w0 W) (hC : n0 ≤ C) : Below n0 w0 (sputW W C a b) := (hb.setCell hC _).setCell hC _
def SBox (n0 : Nat) (w : World) (d s : Bool) (v : Value) (r x : Int) : Prop := d = true → ∃ B, v = .pointer (some ⟨B, 0, none⟩) ∧ n0 ≤ B ∧ B < w.heap.size ∧ w.heap[B]? = some (.cells (if s = true then #[.int .i64 r, .int .i64 x] else #[.int .i64 0, .int .i64 0]) 68 (0, 0))
theorem SBox.nil (n0 : Nat) (w : World) (v : Value) (r x : Int) : SBox n0 w false false v r x := fun h => by cases h
theorem SBox.below {n0 : Nat} {w w' : World} {d s : Bool} {v : Value} {r x : Int} (h : SBox n0 w d s v r x) (hb : Below w.heap.size w w') : SBox n0 w' d s v r x := fun hd => by
  obtain ⟨B, e, h1, h2, h3⟩ := h hd
  exact ⟨B, e, h1, Nat.lt_of_lt_of_le h2 hb.size, (hb.block _ h2).trans h3⟩
theorem SBox.alloc {n0 : Nat} {w : World} {d s : Bool} {v : Value} {r x : Int} (_h : SBox n0 w d s v r x) (hs : s = false) (hn : n0 ≤ w.heap.size) : SBox n0 (w.alloc (.cells #[.int .i64 0, .int .i64 0] 68)) true s (.pointer (some ⟨w.heap.size, 0, none⟩)) r x := fun _ =>
  ⟨w.heap.size, rfl, hn, by simp, by rw [hs]; exact World.alloc_heap_new _ _⟩
theorem SBox.store {n0 : Nat} {w : World} {d s : Bool} {v : Value} {r x : Int} {B : Nat} (h : SBox n0 w d s v r x) (hv : v = .pointer (some ⟨B, 0, none⟩)) (hd : d = true) (hS : w.heap[B]? = some (.cells #[.int .i64 0, .int .i64 0] 68 (0, 0))) : SBox n0 (sputW w B (.int .i64 r) (.int .i64 x)) d true v r x := fun _ => by
  obtain ⟨B', e, h1, h2, -⟩ := h hd
  rw [hv] at e
  simp only [Value.pointer.injEq, Option.some.injEq, Addr.mk.injEq] at e
  obtain ⟨rfl, -, -⟩ := e
  refine ⟨B, hv, h1, by simpa [sputW] using h2, ?_⟩
  rw [if_pos rfl]
  exact row_set (row_set hS 0 _) 1 _

end Go.Proofs.YtggnipkfliompaaGreatDoor

namespace Go.Proofs.YtggnipkfliompaaGreatDoor
open Go.RowKit FP

section
variable {n0 : Nat} {w w' : World} {d s : Bool} {v rv ov : Value} {cs : List Int}
end
end Go.Proofs.YtggnipkfliompaaGreatDoor
