/- The laws of dealing: the sum of two lists, in plain Lean. The laws of dealing: what is recovered from shares that were dealt; sums of dealings, in plain Lean. -/
import Derived.Test.YtnbkbnbmmkfckaaGreatMDeaV
import Derived.Test.YtnbkbnbmmkfckaaGreatMSane
namespace Go.Proofs.YtnbkbnbmmkfckaaGreat
open Go.RowKit FP

def addF (u v : List Int) (i : Nat) : Int := (nth u i + nth v i) % 1073741789
def addQ (u v : List Int) : List Int := (List.range u.length).map (addF u v)
theorem addQ_len (u v : List Int) : (addQ u v).length = u.length := by simp [addQ]
theorem nth_addQ {u v : List Int} {k : Nat} (h : k < u.length) : nth (addQ u v) k = (nth u k + nth v k) % 1073741789 := by
  rw [nth_at (by rw [addQ_len]; exact h)]
  simp [addQ, addF]
theorem prodF_add (row s t : List Int) : ∀ k, k ≤ s.length → prodF row (addQ s t) k = (prodF row s k + prodF row t k) % 1073741789
  | 0, _ => rfl
  | k + 1, hk => by
    show (prodF row (addQ s t) k + nth row k * nth (addQ s t) k % 1073741789) % 1073741789 = ((prodF row s k + nth row k * nth s k % 1073741789) % 1073741789 + (prodF row t k + nth row k * nth t k % 1073741789) % 1073741789) % 1073741789
    rw [prodF_add row s t k (by omega), nth_addQ (by omega)]
    have e : nth row k * ((nth s k + nth t k) % 1073741789) % 1073741789 = (nth row k * nth s k + nth row k * nth t k) % 1073741789 := by
      rw [← Int.mul_add, Int.mul_emod, Int.emod_emod, ← Int.mul_emod]
    rw [e]
    generalize nth row k * nth s k = x
    generalize nth row k * nth t k = y
    omega

end Go.Proofs.YtnbkbnbmmkfckaaGreat

namespace Go.Proofs.YtnbkbnbmmkfckaaGreat
open Go.RowKit FP

theorem deal_mem {rows : List (List Int)} {s : List Int} {p : Int × Int} (h : p ∈ dealL rows s) : ∃ k : Nat, k < rows.length ∧ p = ((k : Int), prodQ (rows.getD k []) s) := by
  obtain ⟨k, hk, rfl⟩ := List.mem_map.1 h
  exact ⟨k, List.mem_range.1 hk, rfl⟩
theorem sharesB_from {rows : List (List Int)} : ∀ (l : List (Int × Int)) (last : Int), (∀ p ∈ l, rightS rows p.1 p.2 = true) → (∀ p ∈ l, last < p.1) → l.Pairwise (fun a b => a.1 < b.1) → sharesB rows last l = true
  | [], _, _, _, _ => rfl
  | p :: l, last, h1, h2, h3 => by
    unfold sharesB
    rw [h1 p (by simp), decide_eq_true (h2 p (by simp)), Bool.true_and, Bool.true_and]
    obtain ⟨h4, h5⟩ := List.pairwise_cons.1 h3
    exact sharesB_from l p.1 (fun q hq => h1 q (by simp [hq])) h4 h5
theorem deal_right {rows : List (List Int)} {s : List Int} {p : Int × Int} (h : p ∈ dealL rows s) : rightS rows p.1 p.2 = true ∧ -1 < p.1 ∧ p.2 = prodQ (rows.getD p.1.toNat []) s := by
  obtain ⟨k, hk, rfl⟩ := deal_mem h
  refine ⟨rightS_iff.2 ⟨⟨by omega, by omega⟩, prodQ_num _ _⟩, by show (-1 : Int) < (k : Int); omega, ?_⟩
  show _ = prodQ (rows.getD (k : Int).toNat []) s
  rw [Int.toNat_natCast]
theorem deal_sorted (rows : List (List Int)) (s : List Int) : (dealL rows s).Pairwise (fun a b => a.1 < b.1) := by
  unfold dealL
  rw [List.pairwise_map]
  refine List.pairwise_lt_range.imp fun {a b} h => ?_
  show (a : Int) < (b : Int)
  omega
/-- A part of the shares that were dealt. -/
theorem part_shares {rows : List (List Int)} {s : List Int} {l : List (Int × Int)} (h : l.Sublist (dealL rows s)) : sharesB rows (-1) l = true :=
  sharesB_from l (-1) (fun _ hp => (deal_right (h.subset hp)).1) (fun _ hp => (deal_right (h.subset hp)).2.1) ((deal_sorted rows s).sublist h)
theorem recE_of {rows : List (List Int)} {owners : List Int} {l : List (Int × Int)} (hp : progE rows owners = 0) (hS : sharesB rows (-1) l = true) : recE rows owners l = 0 := by
  unfold recE; rw [if_neg (by simp [hp]), if_pos hS]
theorem recB_of {rows : List (List Int)} {owners : List Int} {l : List (Int × Int)} (hp : progE rows owners = 0) (hS : sharesB rows (-1) l = true) : recB rows owners l = recOk rows l := by
  unfold recB; rw [recE_of hp hS]; simp
/-- The sum of two dealings. -/
theorem sum_prod {rows : List (List Int)} {owners : List Int} {s t : List Int} (hP : ProgOK rows owners) (hs : s.length = colsQ rows) (k : Nat) (hk : k < rows.length) :
    prodQ (rows.getD k []) (addQ s t) = (prodQ (rows.getD k []) s + prodQ (rows.getD k []) t) % 1073741789 := by
  unfold prodQ
  rw [prodF_add _ _ _ _ (by rw [getD_at hk, hP.row hk]; omega)]
theorem sum_com {s t : List Int} {k : Nat} (hk : k < s.length) (ht : t.length = s.length) : nth (dealC (addQ s t)) k = nth (dealC s) k * nth (dealC t) k % 2147483579 := by
  unfold dealC
  rw [nth_mapv (by rw [addQ_len]; exact hk), nth_mapv hk, nth_mapv (by omega), nth_addQ hk, powE_mod, powE_add el_four]
theorem addQ_cons (x y : Int) (u v : List Int) : addQ (x :: u) (y :: v) = (x + y) % 1073741789 :: addQ u v := by
  unfold addQ
  rw [List.length_cons, List.range_succ_eq_map, List.map_cons, List.map_map]
  rfl
theorem addQ_num (u v : List Int) : ∀ z ∈ addQ u v, 0 ≤ z ∧ z < 1073741789 := fun z hz => by
  obtain ⟨i, -, rfl⟩ := List.mem_map.1 hz
  unfold addF; omega
end Go.Proofs.YtnbkbnbmmkfckaaGreat
