/- Is a number from one to another one? Blocks that are known whole; rows of the call's own, and what keeps them. Package program: Check; slices.ContainsFunc at rows. -/
import Derived.Test.YtnbkbnbmmkfckaaGreatMBase
import Derived.Test.YtnbkbnbmmkfckaaGreatMLinG
import Derived.Deep.OwnRows
namespace Go.Proofs.YtnbkbnbmmkfckaaGreat

/-- Is a number from one to another one? -/
def inB (n lo hi : Int) : Bool := decide (lo ≤ n) && decide (n ≤ hi)
theorem inB_iff {n lo hi : Int} : inB n lo hi = true ↔ lo ≤ n ∧ n ≤ hi := by unfold inB; rw [Bool.and_eq_true, decide_eq_true_eq, decide_eq_true_eq]
theorem inB_false {n lo hi : Int} (h : ¬ (lo ≤ n ∧ n ≤ hi)) : inB n lo hi = false := by
  cases e : inB n lo hi with
  | false => rfl
  | true => exact absurd (inB_iff.1 e) h
end Go.Proofs.YtnbkbnbmmkfckaaGreat

namespace Go.Proofs.YtnbkbnbmmkfckaaGreat
open Go.RowKit

theorem row_cell {W : World} {b : Nat} {L : Array Value} {t : TypeId} (h : W.heap[b]? = some (.cells L t (0, 0))) {k : Nat} {v : Value} (hk : L[k]? = some v) : W.cell? ⟨b, k, none⟩ = some v := by
  simp [World.cell?, h, hk]
theorem row_free {W : World} {b : Nat} {L : Array Value} {t : TypeId} (h : W.heap[b]? = some (.cells L t (0, 0))) (k : Nat) : W.frozen? ⟨b, k, none⟩ = false := by
  simp [World.frozen?, h]
theorem row_lt {W : World} {b : Nat} {o : Obj} (h : W.heap[b]? = some o) : b < W.heap.size := (Array.getElem?_eq_some_iff.1 h).1
theorem row_set {W : World} {b : Nat} {L : Array Value} {t : TypeId} (h : W.heap[b]? = some (.cells L t (0, 0))) (k : Nat) (v : Value) : (W.setCell ⟨b, k, none⟩ v).heap[b]? = some (.cells (L.setIfInBounds k v) t (0, 0)) := by
  have hlt := row_lt h
  have h' : W.heap[b] = .cells L t (0, 0) := (Array.getElem?_eq_some_iff.1 h).2
  show (W.heap.modify b _)[b]? = _
  rw [Array.getElem?_eq_getElem (by simpa using hlt), Array.getElem_modify_self, h']
  rfl
theorem add_off (b off j : Nat) : (⟨b, off, none⟩ : Addr).add j = ⟨b, off + j, none⟩ := by
  unfold Addr.add
  by_cases h : j = 0
  · subst h; rfl
  · rw [if_neg h]
theorem own_below {W W' : World} {base size n : Nat} {e : TypeId} {v : Value} {xs : List Value} (h : W.ownsRow base e size v n xs) (hg : W.grownBy W' v.ownBlock) (hb : base ≤ W.heap.size) : Below base W W' :=
  ⟨hg.os, hg.tape, hg.output, hg.size, fun k hk => hg.block k (by omega) (by
    rcases h.2 with ⟨rfl, -⟩ | ⟨g, cap, cur, rfl, hg2, -⟩
    · intro e; cases e
    · intro e; have e2 : k = g := by injection e
      omega)⟩
/-- From W with v to W' with v': but for v's row all is as it was; v' lies in v's row or in new memory. -/
def Onto (W : World) (v : Value) (W' : World) (v' : Value) : Prop := W.grownBy W' v.ownBlock ∧ (v'.ownBlock = v.ownBlock ∨ ∃ g, v'.ownBlock = some g ∧ W.heap.size ≤ g)
theorem Onto.refl (W : World) (v : Value) : Onto W v W v := ⟨World.grownBy.refl _ _, .inl rfl⟩
theorem Onto.trans {A B C : World} {a b c : Value} (h : Onto A a B b) (k : Onto B b C c) : Onto A a C c := by
  obtain ⟨hg, ho⟩ := h
  obtain ⟨kg, ko⟩ := k
  refine ⟨⟨kg.os.trans hg.os, kg.tape.trans hg.tape, kg.output.trans hg.output, Nat.le_trans hg.size kg.size, fun k hk hr => (kg.block k (Nat.lt_of_lt_of_le hk hg.size) ?_).trans (hg.block k hk hr)⟩, ?_⟩
  · rcases ho with ho | ⟨g, ho, hge⟩
    · rw [ho]; exact hr
    · rw [ho]; intro e; injection e with e; omega
  · rcases ko with ko | ⟨g, ko, kge⟩
    · rcases ho with ho | ⟨g, ho, hge⟩
      · exact .inl (ko.trans ho)
      · exact .inr ⟨g, ko.trans ho, hge⟩
    · exact .inr ⟨g, ko, Nat.le_trans hg.size kge⟩
theorem Onto.below {A B : World} (h : Below A.heap.size A B) (v : Value) : Onto A v B v := ⟨⟨h.os, h.tape, h.output, h.size, fun k hk _ => h.block k hk⟩, .inl rfl⟩
/-- What is owned is so in later worlds. -/
theorem own_keep {W W' : World} {base size n : Nat} {e : TypeId} {v : Value} {xs : List Value} (h : W.ownsRow base e size v n xs) (hb : Below W.heap.size W W') : W'.ownsRow base e size v n xs := by
  obtain ⟨h1, h2⟩ := h
  refine ⟨h1, ?_⟩
  rcases h2 with h2 | ⟨g, cap, cur, a, b, c, d⟩
  · exact .inl h2
  · exact .inr ⟨g, cap, cur, a, b, (hb.block g (row_lt c)).trans c, d⟩
theorem own_lt {W : World} {base size n : Nat} {e : TypeId} {v : Value} {xs : List Value} (h : W.ownsRow base e size v n xs) : ∀ g, v.ownBlock = some g → base ≤ g ∧ g < W.heap.size := by
  intro g hg
  rcases h.2 with ⟨rfl, -⟩ | ⟨g', cap, cur, rfl, b, c, -⟩
  · cases hg
  · have : g' = g := by injection hg
    subst this
    exact ⟨b, row_lt c⟩
/-- A block that is not the row's is as it was. -/
theorem onto_far {W W' : World} {v v' : Value} (h : Onto W v W' v') {b : Nat} (hb : b < W.heap.size) (hne : v.ownBlock ≠ some b) (k : Nat) : W'.cell? ⟨b, k, none⟩ = W.cell? ⟨b, k, none⟩ :=
  World.cell?_of_block (w := W) (h.1.block b hb (fun e => hne e.symm))
theorem own_ne {W : World} {base size n : Nat} {e : TypeId} {v : Value} {xs : List Value} (h : W.ownsRow base e size v n xs) {b : Nat} (hb : W.heap.size ≤ b ∨ b < base) : v.ownBlock ≠ some b := fun e2 => by
  have := own_lt h b e2
  omega
/-- A row of the call's own, behind an append to another one. -/
theorem own_apart {W W' : World} {base size n : Nat} {e : TypeId} {v u : Value} {xs : List Value} (h : W.ownsRow base e size v n xs) (hg : W.grownBy W' u.ownBlock) (hne : ∀ g, v.ownBlock = some g → u.ownBlock ≠ some g) : W'.ownsRow base e size v n xs := by
  obtain ⟨h1, h2⟩ := h
  refine ⟨h1, ?_⟩
  rcases h2 with h2 | ⟨g, cap, cur, rfl, b, c, d⟩
  · exact .inl h2
  · refine .inr ⟨g, cap, cur, rfl, b, ?_, d⟩
    rw [hg.block g (Array.getElem?_eq_some_iff.1 c).1 (fun e2 => hne g rfl e2.symm)]; exact c
theorem own_low {w : World} {base base' size n : Nat} {e : TypeId} {v : Value} {xs : List Value} (h : w.ownsRow base e size v n xs) (hb : base' ≤ base) : w.ownsRow base' e size v n xs := by
  obtain ⟨h1, h2⟩ := h
  refine ⟨h1, ?_⟩
  rcases h2 with h2 | ⟨g, cap, cur, a, c, r⟩
  · exact .inl h2
  · exact .inr ⟨g, cap, cur, a, Nat.le_trans hb c, r⟩
theorem own_keep_set {W : World} {base size n b o : Nat} {e : TypeId} {v : Value} {xs : List Value} (h : W.ownsRow base e size v n xs) (hb : b < base) (u : Value) : (W.setCell ⟨b, o, none⟩ u).ownsRow base e size v n xs := by
  obtain ⟨h1, h2⟩ := h
  refine ⟨h1, ?_⟩
  rcases h2 with h2 | ⟨g, cap, cur, a, c, d, r⟩
  · exact .inl h2
  · exact .inr ⟨g, cap, cur, a, c, (Below.heap_setCell _ _ _ _ (by show g ≠ b; omega)).trans d, r⟩
theorem below_new (w : World) (c : Array Value) (t : TypeId) : Below w.heap.size w (w.alloc (.cells c t)) := (Below.refl _ _).alloc (Nat.le_refl _) _

end Go.Proofs.YtnbkbnbmmkfckaaGreat

namespace Go.Proofs.YtnbkbnbmmkfckaaGreat
open Go.RowKit

/-- Where the first row lies that meets a test, or -1. -/
def indexR (p : List Int → Bool) : List (List Int) → Int
  | [] => -1
  | z :: l => if p z then 0 else if indexR p l < 0 then -1 else indexR p l + 1
theorem indexR_lo (p : List Int → Bool) (l : List (List Int)) : -1 ≤ indexR p l := by
  induction l with
  | nil => simp [indexR]
  | cons z l ih =>
    unfold indexR
    split
    · omega
    · split <;> omega
theorem indexR_none (p : List Int → Bool) (l : List (List Int)) (h : ∀ z ∈ l, p z = false) : indexR p l = -1 := by
  induction l with
  | nil => rfl
  | cons z l ih => unfold indexR; rw [if_neg (by simp [h z]), ih (fun y hy => h y (by simp [hy]))]; rfl
theorem indexR_at (p : List Int → Bool) (l : List (List Int)) (k : Nat) (hk : k < l.length) (h : ∀ z ∈ l.take k, p z = false) (hp : p l[k] = true) : indexR p l = k := by
  induction l generalizing k with
  | nil => simp at hk
  | cons z l ih =>
    unfold indexR
    cases k with
    | zero => simp at hp; simp [hp]
    | succ k =>
      simp at hp hk
      rw [if_neg (by rw [h z (by simp)]; simp), ih k hk (fun y hy => h y (by simp [hy])) hp, if_neg (by omega)]; rfl
theorem indexR_any (p : List Int → Bool) (l : List (List Int)) : decide (0 ≤ indexR p l) = l.any p := by
  by_cases h : l.any p = true
  · rw [h]
    induction l with
    | nil => simp at h
    | cons z l ih =>
      unfold indexR
      by_cases hz : p z = true
      · simp [hz]
      · have h' : l.any p = true := by simpa [hz] using h
        have := ih h'
        simp at this
        simp [hz]; omega
  · have h' : ∀ z ∈ l, p z = false := by
      intro z hz; simp at h; simpa using h z hz
    rw [indexR_none p l h']; simp at h ⊢; exact h

/-- The callee answers the test p at rows, and nothing that was there turns. -/
def TestsR (f : FuncId) (cap : Array Value) (w : World) (p : List Int → Bool) : Prop :=
  ∀ r rv w', Below w.heap.size w w' → Ints w' rv r → Calls Tryz.prog f (#[rv] ++ cap) w' fun e w'' => e = .returned (.bool (p r)) ∧ Below w'.heap.size w' w''

set_option maxRecDepth 100000 in
set_option maxHeartbeats 1000000 in
theorem indexFuncR_any (f : FuncId) (cap : Array Value) (p : List Int → Bool) (v : Value) (rows : List (List Int)) (w : World) (hI : Rows2 w v rows) (hE : Goes Tryz.prog f) (hT : TestsR f cap w p) :
    Calls Tryz.prog 93 #[v, .func (.func f) #[] cap] w fun e w' => e = .returned (.int .i64 (indexR p rows)) ∧ Below w.heap.size w w' := by
  obtain ⟨a, cap', rfl, hcap, hlen, hk⟩ := hI
  have HT := Lib.hid hT
  clear hT
  have hE' : ∀ (args : Array Value) (w : World), (callFunc f args).run Tryz.prog w = .ok (.enter f args) w := hE
  clear hE
  have HK := Lib.hid hk
  clear hk
  go_enter Tryz.func93, Tryz.ntmps93
  go_wp2_with fail
  go_loopw [5, 8] (fun _ i wr => ∃ k : Nat, k ≤ rows.length ∧ i = .int .i64 k ∧ Hid (∀ z ∈ rows.take k, p z = false) ∧ Below w.heap.size w wr) (fun _ i _ => rows.length - (intOf i).toNat)
  case atStart => exact ⟨0, Nat.zero_le _, rfl, Lib.hid (by simp), Below.refl _ _⟩
  case round =>
    obtain ⟨k, hkl, rfl, HP, hb⟩ := hrel
    by_cases hlt : k < rows.length
    · obtain ⟨b, off, rv, rfl, hc, hI⟩ := HK.out k hlt
      have hc' : wr.cell? ⟨b, off + k, none⟩ = some rv := below_cell hb hc
      have HI := Lib.hid (hI.below hb)
      obtain ⟨ra, rc, rfl, -⟩ := id hI
      clear hI hc
      cases hp : p rows[k]
      · have HN := Lib.hid (show ∀ z ∈ rows.take (k + 1), p z = false by
          rw [List.take_succ_eq_append_getElem hlt]
          intro z hz
          rcases List.mem_append.1 hz with h | h
          · exact HP.out z h
          · rw [List.mem_singleton.1 h]; exact hp)
        have HQ := Lib.hid hp
        clear hp
        go_wp2_with fail
        refine (HT.out _ _ _ hb HI.out).mono ?_
        rintro e w1 ⟨rfl, hb1⟩
        rw [HQ.out]
        go_wp2_with fail
        go_roundw
        case rel => exact ⟨k + 1, by omega, by go_num, HN, below_later hb (Nat.le_refl _) hb1⟩
        case measure => simp [intOf]; omega
      · have HQ := Lib.hid hp
        clear hp
        have HR := Lib.hid (indexR_at p rows k hlt HP.out HQ.out)
        go_wp2_with fail
        refine (HT.out _ _ _ hb HI.out).mono ?_
        rintro e w1 ⟨rfl, hb1⟩
        rw [HQ.out]
        go_wp2_with fail
        go_ret
        exact ⟨ret_int HR.out.symm, below_later hb (Nat.le_refl _) hb1⟩
    · have HR := Lib.hid (indexR_none p rows (by have := HP.out; rwa [List.take_of_length_le (by omega)] at this))
      go_wp2_with fail
      go_ret
      exact ⟨ret_int HR.out.symm, hb⟩

set_option maxRecDepth 100000 in
set_option maxHeartbeats 400000 in
theorem containsFuncR_any (f : FuncId) (cap : Array Value) (p : List Int → Bool) (v : Value) (rows : List (List Int)) (w : World) (hI : Rows2 w v rows) (hE : Goes Tryz.prog f) (hT : TestsR f cap w p) :
    Calls Tryz.prog 58 #[v, .func (.func f) #[] cap] w fun e w' => e = .returned (.bool (rows.any p)) ∧ Below w.heap.size w w' := by
  have H := Lib.hid (indexR_any p rows)
  have hlo := indexR_lo p rows
  go_enter Tryz.func58, Tryz.ntmps58
  go_wp2_with (go_at_call 93; refine (indexFuncR_any f cap p v rows _ hI hE hT).mono ?_; rintro e w1 ⟨rfl, hb1⟩)
  go_ret
  exact ⟨ret_bool H.out, hb1⟩

/-! program.Check -/
set_option maxRecDepth 100000 in
theorem pwithin_any (n lo hi : Int) (w : World) : Calls Tryz.prog 60 #[.int .i64 n, .int .i64 lo, .int .i64 hi] w fun r w' => r = .returned (.bool (inB n lo hi)) ∧ w = w' := by
  by_cases h1 : lo ≤ n
  · have H := Lib.hid (show inB n lo hi = decide (n ≤ hi) by unfold inB; rw [decide_eq_true h1, Bool.true_and])
    go_enter Tryz.func60, Tryz.ntmps60
    go_wp2_with fail
    go_ret
    exact ⟨ret_bool H.out.symm, rfl⟩
  · have H := Lib.hid (show inB n lo hi = false by unfold inB; rw [decide_eq_false h1, Bool.false_and])
    go_enter Tryz.func60, Tryz.ntmps60
    go_wp2_with fail
    go_ret
    exact ⟨ret_bool H.out.symm, rfl⟩
set_option maxRecDepth 100000 in
theorem pperson_any (n : Int) (w : World) : Calls Tryz.prog 61 #[.int .i64 n] w fun r w' => r = .returned (.bool (inB n 0 63)) ∧ w = w' := by
  go_enter Tryz.func61, Tryz.ntmps61
  go_wp2_with fail
  with_reducible refine (pwithin_any n 0 63 _).mono ?_
  rintro r w1 ⟨rfl, rfl⟩
  go_wp2_with fail
  go_ret
  exact ⟨rfl, rfl⟩
theorem notin_odd (z : Int) : (!inB z 0 1073741788) = oddQ z := by
  cases e : oddQ z with
  | false =>
    have h : inB z 0 1073741788 = true := inB_iff.2 (by simp [oddQ] at e; omega)
    rw [h]; rfl
  | true =>
    have h : inB z 0 1073741788 = false := inB_false (by simp [oddQ] at e; omega)
    rw [h]; rfl
set_option maxRecDepth 100000 in
theorem podd_any (z : Int) (w : World) : Calls Tryz.prog 59 #[.int .i64 z] w fun r w' => r = .returned (.bool (oddQ z)) ∧ w = w' := by
  go_enter Tryz.func59, Tryz.ntmps59
  go_wp2_with fail
  with_reducible refine (pwithin_any z 0 1073741788 _).mono ?_
  rintro r w1 ⟨rfl, rfl⟩
  go_wp2_with fail
  go_ret
  exact ⟨ret_bool (notin_odd z), rfl⟩
theorem podd_tests (w : World) (zs : List Int) : Tests 59 #[] w oddQ zs :=
  fun z _ w' _ => (podd_any z w').mono fun _ _ ⟨h, e⟩ => ⟨h, e ▸ Below.refl _ _⟩
set_option maxRecDepth 100000 in
theorem podd_goes : Goes Tryz.prog 59 := goes_of Tryz.func59 (by kernel_rfl) rfl
def longR (r : List Int) : Bool := decide (64 < r.length)
set_option maxRecDepth 100000 in
theorem plong_any (rv : Value) (r : List Int) (w : World) (hI : Ints w rv r) : Calls Tryz.prog 57 #[rv] w fun e w' => e = .returned (.bool (longR r)) ∧ w = w' := by
  obtain ⟨a, cap, rfl, -⟩ := hI
  have H := Lib.hid (show longR r = decide ((64 : Int) < (r.length : Int)) from decide_eq_decide.2 (by omega))
  go_enter Tryz.func57, Tryz.ntmps57
  go_wp2_with fail
  go_ret
  exact ⟨ret_bool H.out.symm, rfl⟩
theorem plong_tests (w : World) : TestsR 57 #[] w longR :=
  fun r rv w' _ hI => (plong_any rv r w' hI).mono fun _ _ ⟨h, e⟩ => ⟨h, e ▸ Below.refl _ _⟩
set_option maxRecDepth 100000 in
theorem plong_goes : Goes Tryz.prog 57 := goes_of Tryz.func57 (by kernel_rfl) rfl

end Go.Proofs.YtnbkbnbmmkfckaaGreat
