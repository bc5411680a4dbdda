/- The functions of package slices that are called at slices of integers. -/
import Derived.Test.YtjjdgphjkoppgaaBase
namespace Go.Proofs.Ytjjdgphjkoppgaa
open Go.RowKit

/-- Where the first element lies that meets a test, or -1. -/
def indexI (p : Int → Bool) : List Int → Int
  | [] => -1
  | z :: l => if p z then 0 else if indexI p l < 0 then -1 else indexI p l + 1

theorem indexI_lo (p : Int → Bool) (l : List Int) : -1 ≤ indexI p l := by
  induction l with
  | nil => simp [indexI]
  | cons z l ih =>
    unfold indexI
    split
    · omega
    · split <;> omega
theorem indexI_none (p : Int → Bool) (l : List Int) (h : ∀ z ∈ l, p z = false) : indexI p l = -1 := by
  induction l with
  | nil => rfl
  | cons z l ih => unfold indexI; rw [if_neg (by simp [h z]), ih (fun y hy => h y (by simp [hy]))]; rfl
theorem indexI_at (p : Int → Bool) (l : List Int) (k : Nat) (hk : k < l.length) (h : ∀ z ∈ l.take k, p z = false) (hp : p l[k] = true) : indexI p l = k := by
  induction l generalizing k with
  | nil => simp at hk
  | cons z l ih =>
    unfold indexI
    cases k with
    | zero => simp at hp; simp [hp]
    | succ k =>
      simp at hp hk
      rw [if_neg (by rw [h z (by simp)]; simp), ih k hk (fun y hy => h y (by simp [hy])) hp, if_neg (by omega)]; rfl
theorem indexI_any (p : Int → Bool) (l : List Int) : decide (0 ≤ indexI p l) = l.any p := by
  by_cases h : l.any p = true
  · rw [h]
    induction l with
    | nil => simp at h
    | cons z l ih =>
      unfold indexI
      by_cases hz : p z = true
      · simp [hz]
      · have h' : l.any p = true := by simpa [hz] using h
        have := ih h'
        simp at this
        simp [hz]; omega
  · have h' : ∀ z ∈ l, p z = false := by
      intro z hz; simp at h; simpa using h z hz
    rw [indexI_none p l h']; simp at h ⊢; exact h

/-- The callee answers the test p, and nothing that was there turns. -/
def Tests (f : FuncId) (cap : Array Value) (w : World) (p : Int → Bool) (zs : List Int) : Prop :=
  ∀ z ∈ zs, ∀ w', Below w.heap.size w w' → Calls Try.prog f (#[.int .i64 z] ++ cap) w' fun e w'' => e = .returned (.bool (p z)) ∧ Below w'.heap.size w' w''

set_option maxHeartbeats 1000000 in
theorem indexFunc_any (f : FuncId) (cap : Array Value) (p : Int → Bool) (v : Value) (zs : List Int) (w : World) (hI : Ints w v zs) (hE : Goes Try.prog f) (hT : Tests f cap w p zs) :
    Calls Try.prog 57 #[v, .func (.func f) #[] cap] w fun e w' => e = .returned (.int .i64 (indexI p zs)) ∧ Below w.heap.size w w' := by
  obtain ⟨a, cap', rfl, hcap, hlen, hr, hk⟩ := hI
  have HT := Lib.hid hT
  clear hT
  have hE' : ∀ (args : Array Value) (w : World), (callFunc f args).run Try.prog w = .ok (.enter f args) w := hE
  clear hE
  go_enter Try.func57, Try.ntmps57
  go_wp2
  go_loopw [5, 8] (fun _ i wr => ∃ k : Nat, k ≤ zs.length ∧ i = .int .i64 k ∧ Hid (∀ z ∈ zs.take k, p z = false) ∧ Below w.heap.size w wr) (fun _ i _ => zs.length - (intOf i).toNat)
  case atStart => exact ⟨0, Nat.zero_le _, rfl, Lib.hid (by simp), Below.refl _ _⟩
  case round =>
    obtain ⟨k, hkl, rfl, HP, hb⟩ := hrel
    by_cases hlt : k < zs.length
    · obtain ⟨b, off, rfl, hc⟩ := hk k hlt
      have hc' : wr.cell? ⟨b, off + k, none⟩ = some (.int .i64 zs[k]) := below_cell hb hc
      clear hk hr hc
      cases hp : p zs[k]
      · have HN := Lib.hid (show ∀ z ∈ zs.take (k + 1), p z = false by
          rw [List.take_succ_eq_append_getElem hlt]
          intro z hz
          rcases List.mem_append.1 hz with h | h
          · exact HP.out z h
          · rw [List.mem_singleton.1 h]; exact hp)
        have HQ := Lib.hid hp
        clear hp
        go_wp2_with fail
        refine (HT.out _ (List.getElem_mem hlt) _ hb).mono ?_
        rintro e w1 ⟨rfl, hb1⟩
        rw [HQ.out]
        go_wp2
        go_roundw
        case rel => exact ⟨k + 1, by omega, by go_num, HN, below_later hb (Nat.le_refl _) hb1⟩
        case measure => simp [intOf]; omega
      · have HQ := Lib.hid hp
        clear hp
        have HR := Lib.hid (indexI_at p zs k hlt HP.out HQ.out)
        go_wp2_with fail
        refine (HT.out _ (List.getElem_mem hlt) _ hb).mono ?_
        rintro e w1 ⟨rfl, hb1⟩
        rw [HQ.out]
        go_wp2
        go_ret
        exact ⟨ret_int HR.out.symm, below_later hb (Nat.le_refl _) hb1⟩
    · have HR := Lib.hid (indexI_none p zs (by have := HP.out; rwa [List.take_of_length_le (by omega)] at this))
      go_wp2
      go_ret
      exact ⟨ret_int HR.out.symm, hb⟩

set_option maxHeartbeats 400000 in
theorem containsFunc_any (f : FuncId) (cap : Array Value) (p : Int → Bool) (v : Value) (zs : List Int) (w : World) (hI : Ints w v zs) (hE : Goes Try.prog f) (hT : Tests f cap w p zs) :
    Calls Try.prog 51 #[v, .func (.func f) #[] cap] w fun e w' => e = .returned (.bool (zs.any p)) ∧ Below w.heap.size w w' := by
  have H := Lib.hid (indexI_any p zs)
  have hlo := indexI_lo p zs
  go_enter Try.func51, Try.ntmps51
  go_wp2_with (go_at_call 57; refine (indexFunc_any f cap p v zs _ hI hE hT).mono ?_; rintro e w1 ⟨rfl, hb1⟩)
  go_ret
  exact ⟨ret_bool H.out, hb1⟩

end Go.Proofs.Ytjjdgphjkoppgaa
