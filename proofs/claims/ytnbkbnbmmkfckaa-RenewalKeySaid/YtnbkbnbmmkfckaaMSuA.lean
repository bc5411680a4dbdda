/- The laws of dealing: the sum of two lists, in plain Lean. The laws of dealing: what is recovered from shares that were dealt; sums of dealings, in plain Lean. -/
import Derived.Test.YtnbkbnbmmkfckaaMDeaV
import Derived.Test.YtnbkbnbmmkfckaaMSane
namespace Go.Proofs.Ytnbkbnbmmkfckaa
open Go.RowKit FP

def addF (u v : List Int) (i : Nat) : Int := (nth u i + nth v i) % 1073741789
def addQ (u v : List Int) : List Int := (List.range u.length).map (addF u v)
theorem addQ_len (u v : List Int) : (addQ u v).length = u.length := by simp [addQ]
theorem nth_addQ {u v : List Int} {k : Nat} (h : k < u.length) : nth (addQ u v) k = (nth u k + nth v k) % 1073741789 := by
  rw [nth_at (by rw [addQ_len]; exact h)]
  simp [addQ, addF]
theorem prodF_add (row s t : List Int) : ∀ k, k ≤ s.length → prodF row (addQ s t) k = (prodF row s k + prodF row t k) % 1073741789
  | 0, _ => rfl
  | k + 1, hk => by
    show (prodF row (addQ s t) k + nth row k * nth (addQ s t) k % 1073741789) % 1073741789 = ((prodF row s k + nth row k * nth s k % 1073741789) % 1073741789 + (prodF row t k + nth row k * nth t k % 1073741789) % 1073741789) % 1073741789
    rw [prodF_add row s t k (by omega), nth_addQ (by omega)]
    have e : nth row k * ((nth s k + nth t k) % 1073741789) % 1073741789 = (nth row k * nth s k + nth row k * nth t k) % 1073741789 := by
      rw [← Int.mul_add, Int.mul_emod, Int.emod_emod, ← Int.mul_emod]
    rw [e]
    generalize nth row k * nth s k = x
    generalize nth row k * nth t k = y
    omega

end Go.Proofs.Ytnbkbnbmmkfckaa

namespace Go.Proofs.Ytnbkbnbmmkfckaa
open Go.RowKit FP

theorem cv_tgt {n : Nat} {j : Nat} (h : j < n) : cv (tgt n) j = if j = 0 then 1 else 0 := by
  unfold cv tgt
  rw [nth_map _ _ h]
  unfold tgtF
  split
  · exact cq_1
  · exact cq_0
theorem nth_num {s : List Int} (h : ∀ z ∈ s, 0 ≤ z ∧ z < 1073741789) (i : Nat) : 0 ≤ nth s i ∧ nth s i < 1073741789 := by
  by_cases hi : i < s.length
  · rw [nth_at hi]; exact h _ (List.getElem_mem hi)
  · rw [nth_out hi]; omega

/-- Shares that were dealt are recovered to the secret. -/
theorem rec_deal {rows : List (List Int)} {owners : List Int} {l : List (Int × Int)} {s : List Int} (hP : ProgOK rows owners) (hS : sharesB rows (-1) l = true) (hok : recOk rows l = true)
    (hn : ∀ z ∈ s, 0 ≤ z ∧ z < 1073741789) (hl : ∀ p ∈ l, p.2 = prodQ (rows.getD p.1.toNat []) s) : prodQ (recY rows l) (valsOf l) = nth s 0 := by
  have hR := rowsOf_right hP hS
  have hm := comb_makes hR (tgt_num _) hok
  have hlen : (rowsOf rows l).length = l.length := by simp [rowsOf]
  have hn1 := hP.cols
  refine cq_inj (prodQ_num _ _) (nth_num hn 0) ?_
  rw [cq_prodQ]
  unfold recY
  rw [rcombY_len, hlen]
  have hrow : ∀ i, i < l.length → cv (valsOf l) i = dt (colsQ rows) (fm (rowsOf rows l) i) (cv s) := fun i hi => by
    have hi2 : i < (rowsOf rows l).length := by omega
    have e1 : (rowsOf rows l)[i] = rows.getD l[i].1.toNat [] := by simp [rowsOf]
    have e2 := hR.len _ (List.getElem_mem hi2)
    rw [tgt_len] at e2
    show cq (nth (valsOf l) i) = _
    rw [nth_vals hi, hl _ (List.getElem_mem hi), ← e1, cq_prodQ, e2]
    exact dt_congr (fun j _ => (fm_row _ hi2 j).symm) (fun _ _ => rfl)
  rw [tgt_len] at hm
  show dt l.length (cv (rcombY (rowsOf rows l) (tgt (colsQ rows)))) (cv (valsOf l)) = cq (nth s 0)
  rw [dt_congr (fun _ _ => rfl) hrow]
  show sm l.length (fun i => cv (rcombY (rowsOf rows l) (tgt (colsQ rows))) i * dt (colsQ rows) (fm (rowsOf rows l) i) (cv s)) = _
  rw [← dt_sm]
  rw [dt_congr (u' := cv (tgt (colsQ rows))) (v' := cv s) (fun j hj => by rw [hm j hj, hlen]) (fun _ _ => rfl)]
  unfold dt
  rw [sm_one (k := 0) (by omega) (fun i hi he => by rw [cv_tgt hi, if_neg he]; grind), cv_tgt (by omega), if_pos rfl]
  show 1 * cq (nth s 0) = _
  grind

theorem deal_mem {rows : List (List Int)} {s : List Int} {p : Int × Int} (h : p ∈ dealL rows s) : ∃ k : Nat, k < rows.length ∧ p = ((k : Int), prodQ (rows.getD k []) s) := by
  obtain ⟨k, hk, rfl⟩ := List.mem_map.1 h
  exact ⟨k, List.mem_range.1 hk, rfl⟩
theorem sharesB_from {rows : List (List Int)} : ∀ (l : List (Int × Int)) (last : Int), (∀ p ∈ l, rightS rows p.1 p.2 = true) → (∀ p ∈ l, last < p.1) → l.Pairwise (fun a b => a.1 < b.1) → sharesB rows last l = true
  | [], _, _, _, _ => rfl
  | p :: l, last, h1, h2, h3 => by
    unfold sharesB
    rw [h1 p (by simp), decide_eq_true (h2 p (by simp)), Bool.true_and, Bool.true_and]
    obtain ⟨h4, h5⟩ := List.pairwise_cons.1 h3
    exact sharesB_from l p.1 (fun q hq => h1 q (by simp [hq])) h4 h5
theorem deal_right {rows : List (List Int)} {s : List Int} {p : Int × Int} (h : p ∈ dealL rows s) : rightS rows p.1 p.2 = true ∧ -1 < p.1 ∧ p.2 = prodQ (rows.getD p.1.toNat []) s := by
  obtain ⟨k, hk, rfl⟩ := deal_mem h
  refine ⟨rightS_iff.2 ⟨⟨by omega, by omega⟩, prodQ_num _ _⟩, by show (-1 : Int) < (k : Int); omega, ?_⟩
  show _ = prodQ (rows.getD (k : Int).toNat []) s
  rw [Int.toNat_natCast]
theorem deal_sorted (rows : List (List Int)) (s : List Int) : (dealL rows s).Pairwise (fun a b => a.1 < b.1) := by
  unfold dealL
  rw [List.pairwise_map]
  refine List.pairwise_lt_range.imp fun {a b} h => ?_
  show (a : Int) < (b : Int)
  omega
/-- A part of the shares that were dealt. -/
theorem part_shares {rows : List (List Int)} {s : List Int} {l : List (Int × Int)} (h : l.Sublist (dealL rows s)) : sharesB rows (-1) l = true :=
  sharesB_from l (-1) (fun _ hp => (deal_right (h.subset hp)).1) (fun _ hp => (deal_right (h.subset hp)).2.1) ((deal_sorted rows s).sublist h)
theorem recE_of {rows : List (List Int)} {owners : List Int} {l : List (Int × Int)} (hp : progE rows owners = 0) (hS : sharesB rows (-1) l = true) : recE rows owners l = 0 := by
  unfold recE; rw [if_neg (by simp [hp]), if_pos hS]
theorem recB_of {rows : List (List Int)} {owners : List Int} {l : List (Int × Int)} (hp : progE rows owners = 0) (hS : sharesB rows (-1) l = true) : recB rows owners l = recOk rows l := by
  unfold recB; rw [recE_of hp hS]; simp
theorem part_rec {rows : List (List Int)} {owners : List Int} {s : List Int} {l : List (Int × Int)} (hp : progE rows owners = 0) (hn : ∀ z ∈ s, 0 ≤ z ∧ z < 1073741789) (h : l.Sublist (dealL rows s)) :
    recE rows owners l = 0 ∧ recB rows owners l = recOk rows l ∧ recV rows owners l = (if recOk rows l = true then nth s 0 else 0) := by
  have hS := part_shares h
  refine ⟨recE_of hp hS, recB_of hp hS, ?_⟩
  unfold recV
  rw [recB_of hp hS]
  split
  · rename_i hok
    exact rec_deal (progE_ok hp) hS hok hn (fun p hq => (deal_right (h.subset hq)).2.2)
  · rfl

/-- The sum of two dealings. -/
theorem sum_prod {rows : List (List Int)} {owners : List Int} {s t : List Int} (hP : ProgOK rows owners) (hs : s.length = colsQ rows) (k : Nat) (hk : k < rows.length) :
    prodQ (rows.getD k []) (addQ s t) = (prodQ (rows.getD k []) s + prodQ (rows.getD k []) t) % 1073741789 := by
  unfold prodQ
  rw [prodF_add _ _ _ _ (by rw [getD_at hk, hP.row hk]; omega)]
theorem sum_com {s t : List Int} {k : Nat} (hk : k < s.length) (ht : t.length = s.length) : nth (dealC (addQ s t)) k = nth (dealC s) k * nth (dealC t) k % 2147483579 := by
  unfold dealC
  rw [nth_mapv (by rw [addQ_len]; exact hk), nth_mapv hk, nth_mapv (by omega), nth_addQ hk, powE_mod, powE_add el_four]
theorem addQ_cons (x y : Int) (u v : List Int) : addQ (x :: u) (y :: v) = (x + y) % 1073741789 :: addQ u v := by
  unfold addQ
  rw [List.length_cons, List.range_succ_eq_map, List.map_cons, List.map_map]
  rfl
theorem addQ_num (u v : List Int) : ∀ z ∈ addQ u v, 0 ≤ z ∧ z < 1073741789 := fun z hz => by
  obtain ⟨i, -, rfl⟩ := List.mem_map.1 hz
  unfold addF; omega
end Go.Proofs.Ytnbkbnbmmkfckaa
