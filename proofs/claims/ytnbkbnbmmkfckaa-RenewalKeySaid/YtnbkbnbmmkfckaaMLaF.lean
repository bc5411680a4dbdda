/- The examples of the chapter, reckoned. What Combine and Separate say: a target is made of rows exactly if no list proves that it is not. Separate's proofs; and the rank, row by row. -/
import Derived.Test.YtnbkbnbmmkfckaaMLaC
import Derived.Test.YtnbkbnbmmkfckaaMLinU
namespace Go.Proofs.Ytnbkbnbmmkfckaa

def pivMi (inv : Int → Int) (x : Mat) (n r c k : Nat) : Mat := clearA (scaleM (swapM x r k) r c (inv (x k c))) r c n
def stepMi (inv : Int → Int) (n : Nat) (s : Mat × List Nat) (c : Nat) : Mat × List Nat :=
  if findP s.1 n c s.2.length < n then (pivMi inv s.1 n s.2.length c (findP s.1 n c s.2.length), s.2 ++ [c]) else s
def redMi (inv : Int → Int) (n : Nat) (x : Mat) (many : Nat) : Mat × List Nat := (List.range many).foldl (stepMi inv n) (x, [])
theorem redMi_eq : redM = redMi invQ := rfl

/-- The power by squaring, with fuel. -/
def lpowE : Nat → Int → Nat → Int
  | 0, _, _ => 1
  | f + 1, a, n => if n = 0 then 1 else if n % 2 = 1 then lpowE f (a * a % 1073741789) (n / 2) * a % 1073741789 else lpowE f (a * a % 1073741789) (n / 2)
theorem powE_eq : ∀ (f : Nat) (a : Int) (n : Nat), n < 2 ^ f → lpowE f a n = a ^ n % 1073741789
  | 0, a, n, h => by
    obtain rfl : n = 0 := by simp at h; omega
    rw [Int.pow_zero]; rfl
  | f + 1, a, n, h => by
    unfold lpowE
    by_cases h0 : n = 0
    · subst h0; rw [if_pos rfl, Int.pow_zero]; rfl
    · rw [if_neg h0]
      have hlt : n / 2 < 2 ^ f := by rw [Nat.pow_succ] at h; omega
      have ih := powE_eq f (a * a % 1073741789) (n / 2) hlt
      rw [ih, powmod]
      by_cases h1 : n % 2 = 1
      · rw [if_pos h1, mulmod_l, pow_half a n, h1, Int.pow_succ, Int.pow_zero, Int.one_mul]
      · rw [if_neg h1, pow_half a n, show n % 2 = 0 by omega, Int.pow_zero, Int.mul_one]
def invE (n : Int) : Int := lpowE 30 n 1073741787
theorem invE_eq : invQ = invE := by
  funext n; unfold invQ powQ invE; rw [powE_eq 30 n 1073741787 (by decide)]
theorem redM_E : redM = redMi invE := by rw [redMi_eq, invE_eq]

theorem ex_comb1 : combOk [[1, 1], [0, 1]] [1, 0] = true ∧ combY [[1, 1], [0, 1]] [1, 0] = [1, 1073741788] := by
  unfold combOk combY combM; rw [redM_E]; decide +kernel
theorem ex_comb2 : combOk [[1, 1]] [1, 0] = false := by
  unfold combOk combM; rw [redM_E]; decide +kernel
theorem ex_comb3 : combOk [] [0, 0] = true ∧ combY [] [0, 0] = [] := by
  unfold combOk combY combM; rw [redM_E]; decide +kernel
theorem ex_comb4 : combOk [[1, 1], [2, 2], [0, 1]] [2, 3] = true ∧ combY [[1, 1], [2, 2], [0, 1]] [2, 3] = [2, 0, 1] := by
  unfold combOk combY combM; rw [redM_E]; decide +kernel
theorem ex_sep1 : sepQ [[1, 1]] [1, 0] = some [1, 1073741788] := by
  unfold sepQ sepC sepL sepM; rw [redM_E, invE_eq]; decide +kernel
theorem ex_sep2 : sepQ [[1, 1], [0, 1]] [1, 0] = none := by
  unfold sepQ sepC sepL sepM; rw [redM_E, invE_eq]; decide +kernel
theorem ex_sep3 : sepQ [] [0, 2] = some [0, 536870895] := by
  unfold sepQ sepC sepL sepM; rw [redM_E, invE_eq]; decide +kernel

end Go.Proofs.Ytnbkbnbmmkfckaa

namespace Go.Proofs.Ytnbkbnbmmkfckaa

/-- Rows, in the field. -/
def fm (rows : List (List Int)) : FMat := cm (matOf rows)
theorem fm_row (rows : List (List Int)) {i : Nat} (hi : i < rows.length) (j : Nat) : fm rows i j = cv rows[i] j := by
  show cq (((rows[i]?).getD [])[j]?.getD 0) = cq (rows[i][j]?.getD 0)
  rw [List.getElem?_eq_getElem hi]; rfl

theorem eq_left (rows : List (List Int)) (t : List Int) {k i : Nat} (hk : k < t.length) (hi : i < rows.length) : cm (matOf (eqRows rows t)) k i = fm rows i k := by
  show cq (matOf (eqRows rows t) k i) = _
  rw [← turn_eq hk]
  show cq ((colOf rows k ++ [nth t k])[i]?.getD 0) = _
  rw [List.getElem?_append_left (by simpa [colOf] using hi)]
  unfold colOf
  rw [List.getElem?_map, List.getElem?_eq_getElem hi, fm_row rows hi]; rfl
theorem eq_right (rows : List (List Int)) (t : List Int) {k : Nat} (hk : k < t.length) : cm (matOf (eqRows rows t)) k rows.length = cv t k := by
  show cq (matOf (eqRows rows t) k rows.length) = _
  rw [← turn_eq hk]
  show cq ((colOf rows k ++ [nth t k])[rows.length]?.getD 0) = _
  rw [List.getElem?_append_right (by simp [colOf])]
  simp [colOf]; rfl

/-- A vector, followed by -1. -/
def ext (n : Nat) (y : Nat → Fq) : Nat → Fq := fun j => if j = n then -1 else y j
theorem ext_lt {n j : Nat} (y : Nat → Fq) (h : j < n) : ext n y j = y j := if_neg (by omega)
theorem ext_at (n : Nat) (y : Nat → Fq) : ext n y n = -1 := if_pos rfl
theorem dt_ext (n : Nat) (u y : Nat → Fq) : dt (n + 1) u (ext n y) = sm n (fun j => u j * y j) + u n * (-1) := by
  show sm n (fun j => u j * ext n y j) + u n * ext n y n = _
  rw [ext_at, sm_congr (fun j hj => by rw [ext_lt y hj])]

/-- What a combination makes, as a vector of the kernel of the equations. -/
theorem ker_eq (rows : List (List Int)) (t : List Int) (y : Nat → Fq) : Ker t.length (rows.length + 1) (cm (matOf (eqRows rows t))) (ext rows.length y) ↔ ∀ k, k < t.length → cv t k = sm rows.length (fun i => y i * fm rows i k) := by
  have key : ∀ k, k < t.length → dt (rows.length + 1) (cm (matOf (eqRows rows t)) k) (ext rows.length y) = sm rows.length (fun i => y i * fm rows i k) - cv t k := fun k hk => by
    rw [dt_ext, eq_right rows t hk, sm_congr (g := fun i => y i * fm rows i k) (fun i hi => by rw [eq_left rows t hk hi]; exact Fin.mul_comm _ _)]
    grind
  constructor
  · intro h k hk
    have := h k hk
    rw [key k hk] at this
    grind
  · intro h k hk
    rw [key k hk, h k hk]; grind

theorem combF_at {x : Mat} {piv : List Nat} {n : Nat} (hs : ∀ k l, k < l → l < piv.length → pf piv k < pf piv l) : ∀ K, K ≤ piv.length → ∀ k, k < K → combF x piv n K (pf piv k) = x k n
  | 0, _, k, hk => absurd hk (Nat.not_lt_zero _)
  | K + 1, hK, k, hk => by
    show (if pf piv k = pf piv K then x K n else combF x piv n K (pf piv k)) = _
    by_cases e : k = K
    · rw [if_pos (by rw [e]), e]
    · have := hs k K (by omega) (by omega)
      rw [if_neg (by omega)]; exact combF_at hs K (by omega) k (by omega)
theorem combF_ne {x : Mat} {piv : List Nat} {n j : Nat} : ∀ K, (∀ k, k < K → pf piv k ≠ j) → combF x piv n K j = 0
  | 0, _ => rfl
  | K + 1, h => by
    show (if j = pf piv K then x K n else combF x piv n K j) = _
    rw [if_neg (fun e => h K (by omega) e.symm)]; exact combF_ne K (fun k hk => h k (by omega))

theorem comb_red {rows : List (List Int)} {t : List Int} (h : Right rows t.length) (ht : ∀ z ∈ t, 0 ≤ z ∧ z < 1073741789) : Red t.length (rows.length + 1) (cm (matOf (eqRows rows t))) (cm (rcombM rows t).1) (rcombM rows t).2.length (pf (rcombM rows t).2) rows.length :=
  redR_red (eq_num h ht) rows.length (by omega)

theorem nth_map (n : Nat) (f : Nat → Int) {i : Nat} (hi : i < n) : nth ((List.range n).map f) i = f i := by unfold nth; simp [hi]

/-- The combination makes the target. -/
theorem comb_makes {rows : List (List Int)} {t : List Int} (h : Right rows t.length) (ht : ∀ z ∈ t, 0 ≤ z ∧ z < 1073741789) (hok : rcombOk rows t = true) : ∀ k, k < t.length → cv t k = sm rows.length (fun i => cv (rcombY rows t) i * fm rows i k) := by
  have hR := comb_red h ht
  have hlt : (∀ p ∈ (rcombM rows t).2, p < rows.length) ∧ Sorted (rcombM rows t).2 := redR_lt _ _ _
  have hy : ∀ i, i < rows.length → cv (rcombY rows t) i = cq (combF (rcombM rows t).1 (rcombM rows t).2 rows.length (rcombM rows t).2.length i) := fun i hi => by
    unfold cv rcombY; rw [nth_map _ _ hi]
  have hz : ∀ q, (rcombM rows t).2.length ≤ q → q < t.length → (rcombM rows t).1 q rows.length = 0 := fun q h1 h2 => by
    have := List.all_eq_true.1 hok (q - (rcombM rows t).2.length) (List.mem_range.2 (by omega))
    rw [show (rcombM rows t).2.length + (q - (rcombM rows t).2.length) = q by omega] at this
    simpa using this
  generalize hx : (rcombM rows t).1 = x at *
  generalize hp : (rcombM rows t).2 = piv at *
  rw [← ker_eq]
  refine (hR.ker _).1 fun q hq => ?_
  rw [dt_ext]
  by_cases hqr : q < piv.length
  · rw [sm_pivots (p := pf piv) (r := piv.length) (fun k hk => hR.pc k hk) hR.mono (fun j hj hno => by
      show cm x q j * cv (rcombY rows t) j = 0
      rw [hy j hj, combF_ne _ hno, cq_0]; grind), sm_one (k := q) hqr (fun k hk hne => by
      show cm x q (pf piv k) * cv (rcombY rows t) (pf piv k) = 0
      rw [hR.zero k q hk hq (fun e => hne e.symm)]; grind)]
    show cm x q (pf piv q) * cv (rcombY rows t) (pf piv q) + _ = 0
    rw [hR.one q hqr, hy _ (hR.pc q hqr), combF_at (pf_mono hlt.2) _ (Nat.le_refl _) q hqr]
    show 1 * cm x q rows.length + cm x q rows.length * (-1) = 0
    grind
  · rw [sm_zero (fun j hj => by
      show cm x q j * cv (rcombY rows t) j = 0
      rw [hR.low q j (by omega) hq hj]; grind)]
    show 0 + cq (x q rows.length) * (-1) = 0
    rw [hz q (by omega) hq, cq_0]; grind

end Go.Proofs.Ytnbkbnbmmkfckaa

namespace Go.Proofs.Ytnbkbnbmmkfckaa

end Go.Proofs.Ytnbkbnbmmkfckaa
