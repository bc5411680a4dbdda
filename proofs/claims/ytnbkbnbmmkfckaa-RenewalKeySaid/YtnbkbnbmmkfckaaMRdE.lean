/- The reference of dealing: Numbers, Product, SameInts, Target. The reference of dealing: Shares. The reference of dealing: Deal. -/
import Derived.Test.YtnbkbnbmmkfckaaMRdA
namespace Go.Proofs.Ytnbkbnbmmkfckaa
open Go.RowKit FP

set_option maxRecDepth 100000 in
set_option maxHeartbeats 1000000 in
theorem rSameInts34_any (v u : Value) (a b : List Int) (w : World) (hI : Ints w v a) (hJ : Ints w u b) :
    Calls Try.prog 73 #[v, u] w fun e w' => e = .returned (.bool (sameQ a b)) ∧ Below w.heap.size w w' := by
  obtain ⟨pa, ca, rfl, ha1, ha2, ha3, hka⟩ := hI
  obtain ⟨pb, cb, rfl, hb1, hb2, hb3, hkb⟩ := hJ
  by_cases hl : a.length = b.length
  · have hl' : ((a.length : Int) != (b.length : Int)) = false := by rw [hl]; simp
    have HL := Lib.hid hl
    have hb1 : a.length ≤ cb := by omega
    have hcells : ∀ k (h : k < a.length), ∃ y, y = b[k]'(by rw [← HL.out]; exact h) ∧ ∃ q off, pb = some ⟨q, off, none⟩ ∧ w.cell? ⟨q, off + k, none⟩ = some (.int .i64 y) := fun k h => ⟨_, rfl, hkb k (by omega)⟩
    rw [← hl] at hl' ⊢
    clear hl hb2
    clear hkb
    go_enter Try.func73, Try.ntmps73
    go_wp2_with fail
    go_loopw [5] (fun i wr => ∃ k : Nat, k ≤ a.length ∧ i = .int .i64 k ∧ Hid (∀ j (h1 : j < a.length) (h2 : j < b.length), j < k → a[j] = b[j]) ∧ Below w.heap.size w wr) (fun i _ => a.length - (intOf i).toNat)
    case atStart => exact ⟨0, Nat.zero_le _, rfl, Lib.hid fun j _ _ h => absurd h (Nat.not_lt_zero _), Below.refl _ _⟩
    case round =>
      obtain ⟨k, hkl, rfl, HP, hb⟩ := hrel
      by_cases hlt : k < a.length
      · obtain ⟨p, off, rfl, hc⟩ := hka k hlt
        obtain ⟨y, hy, p', off', rfl, hc'⟩ := hcells k hlt
        have hc := below_cell hb hc
        have hc' := below_cell hb hc'
        obtain ⟨x, hx⟩ : ∃ x, x = a[k] := ⟨_, rfl⟩
        rw [← hx] at hc
        have i1 : (0 : Int) ≤ (k : Int) := by omega
        have i2 : (k : Int) < (a.length : Int) := by omega
        have HX := Lib.hid hx
        have HY := Lib.hid hy
        clear hcells hka hx hy
        by_cases he : x = y
        · have he' : (x != y) = false := by simpa using he
          have HN := Lib.hid (show ∀ j (h1 : j < a.length) (h2 : j < b.length), j < k + 1 → a[j] = b[j] from fun j h1 h2 h3 => by
            by_cases e : j = k
            · subst e; rw [← HX.out, ← HY.out, he]
            · exact HP.out j h1 h2 (by omega))
          clear he
          go_wp2_with fail
          go_quiet (fail)
          go_wp2_with fail
          go_roundw
          case rel => exact ⟨k + 1, by omega, by go_num, HN, below_drewN hb _⟩
          case measure => simp [intOf]; omega
        · have he' : (x != y) = true := by simpa using he
          have HN := Lib.hid (sameQ_at hlt (by rw [← HL.out]; exact hlt) (by rw [← HX.out, ← HY.out]; exact he))
          clear he
          go_wp2_with fail
          go_quiet (fail)
          go_wp2_with fail
          go_ret
          exact ⟨ret_bool HN.out.symm, below_drewN hb _⟩
      · have HN := Lib.hid (sameQ_all HL.out fun k h1 h2 => HP.out k h1 h2 (by omega))
        go_wp2_with fail
        go_ret
        exact ⟨ret_bool HN.out.symm, hb⟩
  · have hl' : ((a.length : Int) != (b.length : Int)) = true := by rw [bne_iff_ne]; omega
    have HL := Lib.hid (sameQ_len hl)
    clear hl
    go_enter Try.func73, Try.ntmps73
    go_wp2_with fail
    go_ret
    exact ⟨ret_bool HL.out.symm, Below.refl _ _⟩

end Go.Proofs.Ytnbkbnbmmkfckaa

namespace Go.Proofs.Ytnbkbnbmmkfckaa
open Go.RowKit FP

section
variable {P : Program} {md : Region.Mode} {ops : Array Oper} {Q : Exit → Act → World → Prop} {S : World → Prop} {i : Nat} {oi : Oper} {fuel : Nat} {listed : Array Bool} {a : Act} {w : World}
/-- An operation that yields in every world that meets S is taken first. -/
theorem take_yes (d : Option Tmp) (v : Value) (hi : ops[i]? = some oi) (hd : oi.dst = d) (hs : Region.noSelect ops = true) (hf : Region.free md ops listed i = true) (hr : (Region.ready md ops listed).contains i = true)
    (hQ : ∀ c a w, Q (.panic c) (a.put d v) w → Q (.panic c) a w) (hw : Region.wanted oi (yielded ops a.tmps) = true) (hy : ∀ w, S w → (execOp a.eval oi).run P w = .ok (.value v) w) (hS : S w)
    (h : wpAnyH P md ops Q S fuel (listed.setIfInBounds i true) (a.put d v) w) : wpAnyH P md ops Q S (fuel + 1) listed a w := by
  subst hd
  exact wpAnyH_take hi hs hf hr hQ (Or.inl ⟨hw, hy⟩) hS h
/-- An operation that its guard strikes is taken first. -/
theorem take_no (d : Option Tmp) (hi : ops[i]? = some oi) (hd : oi.dst = d) (hs : Region.noSelect ops = true) (hf : Region.free md ops listed i = true) (hr : (Region.ready md ops listed).contains i = true)
    (hQ : ∀ c a w, Q (.panic c) (a.put d undef) w → Q (.panic c) a w) (hw : Region.wanted oi (yielded ops a.tmps) = false) (hS : S w)
    (h : wpAnyH P md ops Q S fuel (listed.setIfInBounds i true) (a.put d undef) w) : wpAnyH P md ops Q S (fuel + 1) listed a w := by
  subst hd
  exact wpAnyH_take hi hs hf hr hQ (Or.inr ⟨hw, rfl⟩) hS h
end

end Go.Proofs.Ytnbkbnbmmkfckaa

namespace Go.Proofs.Ytnbkbnbmmkfckaa
open Go.RowKit FP

end Go.Proofs.Ytnbkbnbmmkfckaa
