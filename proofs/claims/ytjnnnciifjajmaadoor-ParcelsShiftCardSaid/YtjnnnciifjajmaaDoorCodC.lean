/- Package codec: integers and lists of integers are written. -/
import Derived.Test.YtjnnnciifjajmaaDoorCodB
import Derived.Deep.RegionHeld3
namespace Go.Proofs.YtjnnnciifjajmaaDoor
open Go.RowKit

/-- What newWriter leaves: the table of the writers, and the variable that leads to it. -/
structure Wtr (B : Nat) (W : World) : Prop where
  int : W.cell? ⟨B, 1, none⟩ = some (.func (.func 85) #[] #[])
  list : W.cell? ⟨B, 3, none⟩ = some (.func (.func 89) #[] #[.pointer (some ⟨B + 1, 0, none⟩)])
  var : W.cell? ⟨B + 1, 0, none⟩ = some (.pointer (some ⟨B, 0, none⟩))
theorem Wtr.below {B : Nat} {W W' : World} (h : Wtr B W) (hb : Below W.heap.size W W') : Wtr B W' := ⟨below_cell hb h.int, below_cell hb h.list, below_cell hb h.var⟩

set_option maxRecDepth 100000 in
set_option maxHeartbeats 1000000 in
theorem newWriter_any (w : World) :
    Calls Tryd.prog 77 #[] w fun e w' => e = .returned (.pointer (some ⟨w.heap.size, 0, none⟩)) ∧ Wtr w.heap.size w' ∧ Below w.heap.size w w' := by
  have hmf : ∀ (fn : Fn) (first cap : Array Value) (w : World), (Instr.makeFunc fn first cap).run Tryd.prog w = .ok (.func fn first cap) w := fun _ _ _ _ => rfl
  have hA : ((w.alloc (.cells #[Value.nilFunc, Value.nilFunc, Value.nilFunc, Value.nilFunc] 103)).alloc (.cells #[.pointer (some ⟨w.heap.size, 0, none⟩)] 89)).heap[w.heap.size]? = some (.cells #[Value.nilFunc, Value.nilFunc, Value.nilFunc, Value.nilFunc] 103 (0, 0)) :=
    (Below.heap_alloc _ _ _ (by simp)).trans (World.alloc_heap_new w _)
  have c1 := row_cell hA (k := 1) rfl
  have c2 := row_cell hA (k := 2) rfl
  have c3 := row_cell hA (k := 3) rfl
  have f1 := row_free hA 1
  have f2 := row_free hA 2
  have f3 := row_free hA 3
  have HA := Lib.hid hA
  clear hA
  have hst := fun (a : Addr) (fn : Fn) (x y : Array Value) (w : World) => run_store Tryd.prog w a (.func fn x y) .plain rfl
  go_enter Tryd.func77, Tryd.ntmps77
  go_wp2_with fail
  go_ret
  refine ⟨rfl, ⟨?_, ?_, ?_⟩, ?_⟩
  · simp [go_sem]
  · simp [go_sem]
  · simp [go_sem]
  · repeat (first | exact Below.refl _ _ | refine Below.setCell ?_ (by simp) _ | refine Below.alloc ?_ (by simp) _ | refine Below.drew ?_)

set_option maxRecDepth 100000 in
/-- One byte is appended, as a step of a region that draws. -/
theorem step_app_byte {ops : Array Oper} {o : Oper} {a : Act} {K : Act → World → Prop} {Q : Exit → Act → World → Prop} {E : Prop} {W : World} (hgd : o.guard = none) (s x : Operand) (ho : o.op = .call { callee := .builtin .append, args := #[s, x], argTypes := #[45, 45] })
    (base : Nat) (v : Value) (xs : List Nat) (n : Nat) (hs : a.eval s = v) (hown : W.ownsRow base 5 1 v n (xs.map byteV)) (b c y : Nat) (hx : a.eval x = .slice (some ⟨b, 0, none⟩) 1 c) (hcell : W.cell? ⟨b, 0, none⟩ = some (byteV y)) (hn : n ≤ 17592186044416) (hbase : base ≤ W.heap.size)
    (h : ∀ v' w', w'.ownsRow base 5 1 v' (n + 1) ((xs ++ [y]).map byteV) → Onto W v w' v' → K (a.put o.dst v') w') :
    if Region.wanted o (yielded ops a.tmps) = true then Oper.wp Tryd.prog o a W K Q else E := by
  obtain ⟨i, hi, hzz⟩ := Option.map_eq_some_iff.1 infoB
  simp only [Prod.mk.injEq] at hzz
  obtain ⟨hz, hs1, hb⟩ := hzz
  refine step_append_lies _ hgd s x 45 ho base 5 i (.int .u8 0) 1 1 Tryd.underlying45 hi hz hs1 hb rfl (by decide) v n (xs.map byteV) hs hown ⟨b, 0, none⟩ 1 c [byteV y] hx rfl ?_ ?_ (by decide) ?_ ?_ hbase W.heap.size rfl ?_
  · intro j u hu
    cases j with
    | zero => simp at hu; subst hu; rw [add_off]; exact hcell
    | succ j => simp at hu
  · intro u hu; simp at hu; subst hu; rfl
  · unfold maxLen; omega
  · omega
  · intro g cap w' h1 h2 h3 _
    refine h _ w' (by rw [List.map_append]; exact h1) ⟨h2, ?_⟩
    rcases h3 with h3 | h3
    · exact .inl (h3 ▸ rfl)
    · exact .inr ⟨g, rfl, by omega⟩

theorem enc_snoc (xs : List Nat) (n : Int) : xs ++ [1] ++ num (zig n) = xs ++ encI n := by rw [List.append_assoc]; rfl
set_option maxRecDepth 100000 in
set_option maxHeartbeats 2000000 in
theorem write_int (base : Nat) (v : Value) (xs : List Nat) (n : Int) (w : World) (hn : R64 n) (hown : w.ownsRow base 5 1 v xs.length (xs.map byteV)) (hbase : base ≤ w.heap.size) (hl : xs.length ≤ 1099511627776) :
    Calls Tryd.prog 85 #[v, vInt n] w (Wrote base w v (xs ++ encI n)) := by
  unfold vInt
  have HO := Lib.hid hown
  have HNE := Lib.hid (own_ne hown (.inl (Nat.le_refl w.heap.size)))
  clear hown
  go_enter Tryd.func85, Tryd.ntmps85
  go_wp2_with fail
  go_region_law (first
    | (refine step_app_byte rfl _ _ rfl base _ xs _ rfl (own_keep HO.out (by repeat (first | exact Below.refl _ _ | refine Below.drew ?_ | refine Below.alloc ?_ (by simp) _))) (w.heap.size + 1) 1 1 rfl (by simp [go_sem, byteV]) (by omega) (by simp; omega) ?_; intro v8 w8 h8 o8; have hq : w8.cell? ⟨w.heap.size, 1, none⟩ = some (.int .i64 n) := (onto_far o8 (by simp; omega) HNE.out 1).trans (by simp [go_sem]); have H8 := Lib.hid h8; have O8 := Lib.hid o8; clear h8 o8)
    | (go_simp; go_at_call 87; with_reducible refine (unsigned_any n _ hn).mono ?_; rintro e w1 ⟨rfl, rfl⟩)
    | (go_simp; go_at_call 86; refine (numeral_any base _ (xs ++ [1]) (zig n) _ (by rw [List.length_append]; exact H8.out) (Nat.le_trans (by simp; omega) O8.out.1.size) (zig_lt hn) (by rw [List.length_append]; simp; omega)).mono ?_; rintro e w1 ⟨v9, rfl, h9, o9⟩; have H9 := Lib.hid h9; have O9 := Lib.hid o9; clear h9 o9))
  all_goals
    go_wp2_with fail
    go_ret
    exact ⟨_, rfl, (enc_snoc xs n) ▸ H9.out, (Onto.below (by repeat (first | exact Below.refl _ _ | refine Below.drew ?_ | refine Below.alloc ?_ (by simp) _)) v).trans (O8.out.trans O9.out)⟩

end Go.Proofs.YtjnnnciifjajmaaDoor
