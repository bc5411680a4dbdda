/- Rebuilding a share, in plain Lean. Rebuilding a share, in plain Lean: what parts hide, and what too few helpers know. -/
import Derived.Test.YtnbkbnbmmkfckaaMDeaV
import Derived.Test.YtnbkbnbmmkfckaaMSuA
import Derived.Test.YtnbkbnbmmkfckaaMSane
namespace Go.Proofs.Ytnbkbnbmmkfckaa
open Go.RowKit

/-! Sums. -/
def totQ (l : List Int) : Int := l.foldl (fun n x => (n + x) % 1073741789) 0
theorem totQ_snoc (l : List Int) (x : Int) : totQ (l ++ [x]) = (totQ l + x) % 1073741789 := by unfold totQ; rw [List.foldl_append]; rfl
theorem totQ_take (l : List Int) {k : Nat} (h : k < l.length) : totQ (l.take (k + 1)) = (totQ (l.take k) + l[k]) % 1073741789 := by
  rw [List.take_succ_eq_append_getElem h, totQ_snoc]
theorem totQ_num (l : List Int) : 0 ≤ totQ l ∧ totQ l < 1073741789 := by
  rcases List.eq_nil_or_concat l with rfl | ⟨t, x, rfl⟩
  · decide
  · rw [List.concat_eq_append, totQ_snoc]; omega
theorem cq_totQ (l : List Int) : ∀ k, k ≤ l.length → cq (totQ (l.take k)) = sm k (fun i => cv l i)
  | 0, _ => by rw [List.take_zero]; exact cq_0
  | k + 1, h => by
    rw [totQ_take l (by omega), cq_mod, cq_add, cq_totQ l k (by omega)]
    show _ + _ = sm k _ + cq (nth l k)
    rw [nth_at (show k < l.length by omega)]
theorem cq_tot (l : List Int) : cq (totQ l) = sm l.length (fun i => cv l i) := by
  have h := cq_totQ l l.length (Nat.le_refl _)
  rwa [List.take_length] at h

/-! Helpers. -/
def pairs (hs : List Int) : List (Int × Int) := hs.map fun r => (r, 0)
theorem pairs_len (hs : List Int) : (pairs hs).length = hs.length := by simp [pairs]
theorem pairs_take (hs : List Int) (k : Nat) : (pairs hs).take k = pairs (hs.take k) := by unfold pairs; rw [List.map_take]
theorem pairs_at (hs : List Int) (k : Nat) (h : k < hs.length) (h2 : k < (pairs hs).length) : (pairs hs)[k] = (hs[k], 0) := by simp [pairs]
/-- Are rows helpers for a row? -/
def helpB (rows : List (List Int)) (row : Int) (hs : List Int) : Bool := sharesB rows (-1) (pairs hs) && hs.all fun r => decide (r ≠ row)
def lastH (hs : List Int) : Int := lastR (-1) (pairs hs)
def helpOne (n : Nat) (row last r : Int) : Bool := decide (last < r) && (decide (r < (n : Int)) && decide (r ≠ row))
theorem lastH_ge {rows : List (List Int)} {row : Int} {hs : List Int} (h : helpB rows row hs = true) : -1 ≤ lastH hs := by
  unfold helpB at h
  rw [Bool.and_eq_true] at h
  rcases List.eq_nil_or_concat hs with rfl | ⟨t, x, rfl⟩
  · decide
  · have h2 := (sharesB_all h.1).1 (x, 0) (by simp [pairs])
    have h3 := (rightS_iff.1 h2).1
    have e : lastH (t.concat x) = x := by unfold lastH pairs; rw [List.concat_eq_append, List.map_append]; exact lastR_snoc _ _ _
    rw [e]; simp only at h3; omega
theorem lastH_take {hs : List Int} {k : Nat} (h : k < hs.length) : lastH (hs.take (k + 1)) = hs[k] := by
  have h2 : k < (pairs hs).length := by rw [pairs_len]; exact h
  unfold lastH
  rw [← pairs_take, lastR_take h2, pairs_at hs k h h2]
theorem helpB_take {rows : List (List Int)} {row : Int} {hs : List Int} {k : Nat} (h : k < hs.length) (hk : helpB rows row (hs.take k) = true) : helpB rows row (hs.take (k + 1)) = helpOne rows.length row (lastH (hs.take k)) hs[k] := by
  have hl := lastH_ge hk
  have h2 : k < (pairs hs).length := by rw [pairs_len]; exact h
  unfold helpB at hk ⊢
  rw [Bool.and_eq_true] at hk
  rw [← pairs_take] at hk ⊢
  rw [sharesB_take h2, hk.1, List.take_succ_eq_append_getElem h, List.all_append, hk.2, pairs_at hs k h h2, pairs_take]
  have e : rightS rows hs[k] 0 = (decide (0 ≤ hs[k]) && decide (hs[k] < (rows.length : Int))) := by unfold rightS; rw [show oddQ 0 = false by decide]; simp
  rw [e]
  show (_ && ((decide (0 ≤ hs[k]) && decide (hs[k] < (rows.length : Int))) && decide (lastH (hs.take k) < hs[k])) && _) = _
  unfold helpOne
  by_cases h1 : lastH (hs.take k) < hs[k]
  · have h0 : 0 ≤ hs[k] := by omega
    simp [h0, h1]
  · simp [h1]
theorem helpB_bad {rows : List (List Int)} {row : Int} {hs : List Int} {k : Nat} (h : helpB rows row (hs.take k) = false) : helpB rows row hs = false := by
  cases e : helpB rows row hs with
  | false => rfl
  | true =>
    unfold helpB at e h
    rw [Bool.and_eq_true] at e
    rw [← pairs_take, sharesB_front e.1] at h
    have h2 : ((hs.take k).all fun r => decide (r ≠ row)) = true := List.all_eq_true.2 fun r hr => List.all_eq_true.1 e.2 r (List.mem_of_mem_take hr)
    rw [h2] at h; cases h
theorem helpB_in {rows : List (List Int)} {row : Int} {hs : List Int} (h : helpB rows row hs = true) : ∀ r ∈ hs, (0 ≤ r ∧ r < (rows.length : Int)) ∧ r ≠ row := fun r hr => by
  unfold helpB at h
  rw [Bool.and_eq_true] at h
  have h2 := (sharesB_all h.1).1 (r, 0) (List.mem_map.2 ⟨r, hr, rfl⟩)
  exact ⟨(rightS_iff.1 h2).1, of_decide_eq_true (List.all_eq_true.1 h.2 r hr)⟩
/-- The rows of helpers. -/
def someQ (rows : List (List Int)) (hs : List Int) : List (List Int) := rowsOf rows (pairs hs)
theorem someQ_len (rows : List (List Int)) (hs : List Int) : (someQ rows hs).length = hs.length := by unfold someQ rowsOf; rw [List.length_map, pairs_len]
theorem someQ_at (rows : List (List Int)) (hs : List Int) {k : Nat} (h : k < hs.length) (h2 : k < (someQ rows hs).length) : (someQ rows hs)[k] = rows.getD hs[k].toNat [] := by
  simp only [someQ, rowsOf, List.getElem_map, pairs]
theorem someQ_take (rows : List (List Int)) (hs : List Int) {k : Nat} (h : k < hs.length) : someQ rows (hs.take (k + 1)) = someQ rows (hs.take k) ++ [rows.getD hs[k].toNat []] := by
  unfold someQ rowsOf pairs
  rw [List.take_succ_eq_append_getElem h, List.map_append, List.map_append]; rfl
theorem some_right {rows : List (List Int)} {owners : List Int} {row : Int} {hs : List Int} (hP : ProgOK rows owners) (hh : helpB rows row hs = true) : Right (someQ rows hs) (colsQ rows) := by
  unfold helpB at hh
  rw [Bool.and_eq_true] at hh
  have := rowsOf_right hP hh.1
  rwa [tgt_len] at this
theorem help_len {rows : List (List Int)} {owners : List Int} {row : Int} {hs : List Int} (hP : ProgOK rows owners) (hh : helpB rows row hs = true) : hs.length ≤ 64 := by
  have h1 := (some_right hP hh).few
  rwa [someQ_len] at h1
theorem row_right {rows : List (List Int)} {owners : List Int} (hP : ProgOK rows owners) {row : Int} (h : 0 ≤ row ∧ row < (rows.length : Int)) : (rows.getD row.toNat []).length = colsQ rows ∧ ∀ z ∈ rows.getD row.toNat [], 0 ≤ z ∧ z < 1073741789 := by
  have hk : row.toNat < rows.length := by omega
  rw [getD_at hk]
  exact ⟨hP.row hk, hP.right.num _ (List.getElem_mem hk)⟩

/-! Plan, Part, Finish. -/
def planE (rows : List (List Int)) (owners : List Int) (row : Int) (hs : List Int) : Int :=
  if progE rows owners ≠ 0 then progE rows owners else if (0 ≤ row ∧ row < (rows.length : Int)) ∧ helpB rows row hs = true then 0 else 1
def planOk (rows : List (List Int)) (owners : List Int) (row : Int) (hs : List Int) : Bool := decide (planE rows owners row hs = 0) && rcombOk (someQ rows hs) (rows.getD row.toNat [])
def planY (rows : List (List Int)) (owners : List Int) (row : Int) (hs : List Int) : List Int := if planOk rows owners row hs = true then rcombY (someQ rows hs) (rows.getD row.toNat []) else []
structure PlanOK (rows : List (List Int)) (owners : List Int) (row : Int) (hs : List Int) : Prop where
  prog : ProgOK rows owners
  inr : 0 ≤ row ∧ row < (rows.length : Int)
  help : helpB rows row hs = true
theorem planE_ok {rows : List (List Int)} {owners : List Int} {row : Int} {hs : List Int} (h : planE rows owners row hs = 0) : progE rows owners = 0 ∧ PlanOK rows owners row hs := by
  unfold planE at h
  by_cases hp : progE rows owners = 0
  · rw [if_neg (by simp [hp])] at h
    by_cases hc : (0 ≤ row ∧ row < (rows.length : Int)) ∧ helpB rows row hs = true
    · exact ⟨hp, progE_ok hp, hc.1, hc.2⟩
    · rw [if_neg hc] at h; cases h
  · rw [if_pos hp] at h; exact absurd h hp
def partE (y r v : Int) (ms : List Int) : Int := if oddQ y = true ∨ 64 < ms.length ∨ ms.any oddQ = true then 1 else if r < 0 ∨ 64 ≤ r ∨ oddQ v = true then 340 else 0
def partV (y r v : Int) (ms : List Int) : Int := if partE y r v ms = 0 then (y * v % 1073741789 + totQ ms) % 1073741789 else 0
def finE (rows : List (List Int)) (owners cs : List Int) (row : Int) (parts : List Int) : Int :=
  if pubE rows owners cs row ≠ 0 then pubE rows owners cs row else if 64 < parts.length ∨ parts.any oddQ = true then 1 else 0
def finB (rows : List (List Int)) (owners cs : List Int) (row : Int) (parts : List Int) : Bool := decide (finE rows owners cs row parts = 0) && fitB rows owners cs row (totQ parts)
def finR (rows : List (List Int)) (owners cs : List Int) (row : Int) (parts : List Int) : Int := if finB rows owners cs row parts = true then row else 0
def finV (rows : List (List Int)) (owners cs : List Int) (row : Int) (parts : List Int) : Int := if finB rows owners cs row parts = true then totQ parts else 0

/-! Masks that add up to 0. -/
def maskV (many : Nat) (given : List Int) (k : Nat) (prev : List Int) : Int := if k + 1 = many then (1073741789 - totQ prev) % 1073741789 else nth given k
def maskP (many : Nat) (given : List Int) : Nat → List Int
  | 0 => []
  | k + 1 => maskP many given k ++ [maskV many given k (maskP many given k)]
theorem maskP_len (many : Nat) (given : List Int) : ∀ k, (maskP many given k).length = k
  | 0 => rfl
  | k + 1 => by show (_ ++ [_]).length = _; rw [List.length_append, maskP_len many given k]; rfl
theorem maskV_num (many : Nat) (given : List Int) (hg : ∀ z ∈ given, 0 ≤ z ∧ z < 1073741789) (k : Nat) (prev : List Int) : 0 ≤ maskV many given k prev ∧ maskV many given k prev < 1073741789 := by
  unfold maskV
  split
  · omega
  · exact nth_num hg k
theorem maskP_num (many : Nat) (given : List Int) (hg : ∀ z ∈ given, 0 ≤ z ∧ z < 1073741789) : ∀ k, ∀ z ∈ maskP many given k, 0 ≤ z ∧ z < 1073741789
  | 0, z, hz => by cases hz
  | k + 1, z, hz => by
    rcases List.mem_append.1 hz with h | h
    · exact maskP_num many given hg k z h
    · rw [List.mem_singleton.1 h]; exact maskV_num many given hg k _
theorem maskP_at (many : Nat) (given : List Int) : ∀ n k, k < n → nth (maskP many given n) k = maskV many given k (maskP many given k)
  | 0, k, h => absurd h (Nat.not_lt_zero _)
  | n + 1, k, h => by
    show nth (maskP many given n ++ [_]) k = _
    by_cases hk : k < n
    · unfold nth
      rw [List.getElem?_append_left (by rw [maskP_len]; exact hk)]
      exact maskP_at many given n k hk
    · obtain rfl : k = n := by omega
      unfold nth
      rw [List.getElem?_append_right (by rw [maskP_len]; exact Nat.le_refl _), maskP_len, Nat.sub_self]; rfl
theorem maskP_sum (many : Nat) (given : List Int) : totQ (maskP many given many) = 0 := by
  cases many with
  | zero => rfl
  | succ n =>
    show totQ (maskP (n + 1) given n ++ [_]) = 0
    rw [totQ_snoc]
    unfold maskV
    rw [if_pos rfl]
    have := totQ_num (maskP (n + 1) given n)
    omega

/-! The laws. -/
theorem cq_modn (a : Int) : cq (a % 1073741789) = cq a := cq_mod a
/-- The parts of dealt shares. -/
def partsL (y vs ms : List Int) (n : Nat) : List Int := (List.range n).map fun i => (nth y i * nth vs i % 1073741789 + nth ms i) % 1073741789
theorem partsL_len (y vs ms : List Int) (n : Nat) : (partsL y vs ms n).length = n := by simp [partsL]
theorem partsL_s (y vs ms : List Int) (n : Nat) : partsL y vs ms (n + 1) = partsL y vs ms n ++ [(nth y n * nth vs n % 1073741789 + nth ms n) % 1073741789] := by
  unfold partsL; rw [List.range_succ, List.map_append]; rfl
theorem partsL_num (y vs ms : List Int) (n : Nat) : ∀ z ∈ partsL y vs ms n, 0 ≤ z ∧ z < 1073741789 := fun z hz => by
  obtain ⟨i, -, rfl⟩ := List.mem_map.1 hz; omega
theorem cv_parts (y vs ms : List Int) {n i : Nat} (h : i < n) : cv (partsL y vs ms n) i = cv y i * cv vs i + cv ms i := by
  show cq (nth (partsL y vs ms n) i) = _
  unfold partsL
  rw [nth_map n _ h, cq_mod, cq_add, cq_mod, cq_mul]; rfl
/-- What parts with masks that add up to 0 sum up to. -/
theorem parts_sum (y vs ms : List Int) (n : Nat) (hm : ms.length = n) (h0 : totQ ms = 0) : cq (totQ (partsL y vs ms n)) = sm n (fun i => cv y i * cv vs i) := by
  rw [cq_tot, partsL_len, sm_congr (g := fun i => cv y i * cv vs i + cv ms i) (fun i hi => cv_parts y vs ms hi), sm_add]
  have h1 := cq_tot ms
  rw [hm, h0, cq_0] at h1
  rw [← h1]; grind
/-- A helper's share is made of the numbers. -/
def valsH (rows : List (List Int)) (s hs : List Int) : List Int := hs.map fun r => prodQ (rows.getD r.toNat []) s
theorem whole_sum {rows : List (List Int)} {owners : List Int} {row : Int} {hs s ms : List Int} (hP : PlanOK rows owners row hs) (hok : rcombOk (someQ rows hs) (rows.getD row.toNat []) = true) (hm : ms.length = hs.length) (h0 : totQ ms = 0) :
    totQ (partsL (rcombY (someQ rows hs) (rows.getD row.toNat [])) (valsH rows s hs) ms hs.length) = prodQ (rows.getD row.toNat []) s := by
  refine cq_inj (totQ_num _) (prodQ_num _ _) ?_
  obtain ⟨hl, hn⟩ := row_right hP.prog hP.inr
  have hR := some_right hP.prog hP.help
  rw [← hl] at hR
  have hmk := comb_makes hR hn hok
  rw [parts_sum _ _ _ _ hm h0, cq_prodQ]
  rw [dt_congr (u' := fun j => sm (someQ rows hs).length (fun i => cv (rcombY (someQ rows hs) (rows.getD row.toNat [])) i * fm (someQ rows hs) i j)) (v' := cv s) (fun j hj => hmk j hj) (fun _ _ => rfl), dt_sm, someQ_len]
  refine sm_congr fun i hi => ?_
  have hi2 : i < (someQ rows hs).length := by rw [someQ_len]; exact hi
  have e1 := hR.len _ (List.getElem_mem hi2)
  have e2 : cv (valsH rows s hs) i = dt (rows.getD row.toNat []).length (fm (someQ rows hs) i) (cv s) := by
    show cq (nth (valsH rows s hs) i) = _
    rw [show nth (valsH rows s hs) i = prodQ (someQ rows hs)[i] s by
      rw [someQ_at rows hs hi hi2]
      unfold valsH nth
      rw [List.getElem?_map, List.getElem?_eq_getElem hi]; rfl]
    rw [cq_prodQ, e1]
    exact dt_congr (fun j _ => (fm_row _ hi2 j).symm) (fun _ _ => rfl)
  rw [e2]

end Go.Proofs.Ytnbkbnbmmkfckaa

namespace Go.Proofs.Ytnbkbnbmmkfckaa
open Go.RowKit

/-- Sums of products. -/
def mulF (y v : List Int) : Nat → Int
  | 0 => 0
  | k + 1 => (mulF y v k + nth y k * nth v k) % 1073741789
theorem mulF_num (y v : List Int) : ∀ k, 0 ≤ mulF y v k ∧ mulF y v k < 1073741789
  | 0 => by unfold mulF; omega
  | k + 1 => by unfold mulF; omega
theorem cq_mulF (y v : List Int) : ∀ k, cq (mulF y v k) = sm k (fun i => cv y i * cv v i)
  | 0 => cq_0
  | k + 1 => by
    show cq ((mulF y v k + nth y k * nth v k) % 1073741789) = sm k _ + _
    rw [cq_mod, cq_add, cq_mul, cq_mulF y v k]; rfl
def partX (y v m : List Int) (i : Nat) : Int := (nth y i * nth v i % 1073741789 + nth m i) % 1073741789
def othV (y v o m : List Int) (i : Nat) : Int := (partX y v m i - nth y i * nth o i % 1073741789 + 1073741789) % 1073741789
def othF (y v o m : List Int) : Nat → Int
  | 0 => 0
  | k + 1 => (othF y v o m k + othV y v o m k) % 1073741789
theorem othF_num (y v o m : List Int) : ∀ k, 0 ≤ othF y v o m k ∧ othF y v o m k < 1073741789
  | 0 => by unfold othF; omega
  | k + 1 => by unfold othF; omega
theorem oth_part (y v o m : List Int) (i : Nat) : (nth y i * nth o i % 1073741789 + othV y v o m i) % 1073741789 = partX y v m i := by
  unfold othV partX; omega
theorem cq_oth (y v o m : List Int) (i : Nat) : cq (othV y v o m i) = cv y i * cv v i + cv m i - cv y i * cv o i := by
  have h := congrArg cq (oth_part y v o m i)
  unfold partX at h
  rw [cq_mod, cq_add, cq_mod, cq_mul, cq_mod, cq_add, cq_mod, cq_mul] at h
  have h' : cv y i * cv o i + cq (othV y v o m i) = cv y i * cv v i + cv m i := h
  grind
theorem cq_othF (y v o m : List Int) : ∀ k, cq (othF y v o m k) = sm k (fun i => cv y i * cv v i) + sm k (fun i => cv m i) - sm k (fun i => cv y i * cv o i)
  | 0 => by show cq 0 = 0 + 0 - 0; rw [cq_0]; grind
  | k + 1 => by
    show cq ((othF y v o m k + othV y v o m k) % 1073741789) = (sm k _ + _) + (sm k _ + _) - (sm k _ + _)
    rw [cq_mod, cq_add, cq_othF y v o m k, cq_oth]
    grind
theorem oth_sum {y v o m : List Int} {n : Nat} (hm : m.length = n) (h0 : totQ m = 0) (h : mulF y v n = mulF y o n) : othF y v o m n = 0 := by
  refine cq_inj (othF_num _ _ _ _ _) (by omega) ?_
  have h1 := cq_tot m
  rw [hm, h0, cq_0] at h1
  have h2 := congrArg cq h
  rw [cq_mulF, cq_mulF] at h2
  rw [cq_othF, ← h1, h2, cq_0]
  grind

/-! Too few helpers. -/
def moveL (s w : List Int) (b : Int) : List Int := (List.range s.length).map fun i => (nth s i + b * nth w i) % 1073741789
theorem moveL_len (s w : List Int) (b : Int) : (moveL s w b).length = s.length := by simp [moveL]
theorem moveL_num (s w : List Int) (b : Int) : ∀ z ∈ moveL s w b, 0 ≤ z ∧ z < 1073741789 := fun z hz => by
  obtain ⟨i, -, rfl⟩ := List.mem_map.1 hz; omega
theorem cv_move (s w : List Int) (b : Int) {i : Nat} (h : i < s.length) : cv (moveL s w b) i = cv s i + cq b * cv w i := by
  show cq (nth (moveL s w b) i) = _
  unfold moveL
  rw [nth_map _ _ h, cq_mod, cq_add, cq_mul]; rfl
theorem prod_move {row s w : List Int} (b : Int) (h : row.length = s.length) : cq (prodQ row (moveL s w b)) = cq (prodQ row s) + cq b * dt row.length (cv row) (cv w) := by
  rw [cq_prodQ, cq_prodQ, dt_congr (u' := cv row) (v' := fun j => cv s j + cq b * cv w j) (fun _ _ => rfl) (fun j hj => cv_move s w b (by omega)), dt_add, dt_mul]
theorem needs_w {rows : List (List Int)} {owners : List Int} {row : Int} {hs : List Int} (hP : PlanOK rows owners row hs) (hok : rcombOk (someQ rows hs) (rows.getD row.toNat []) = false) :
    ∃ w, rsepQ (someQ rows hs) (rows.getD row.toNat []) = some w ∧ w.length = colsQ rows ∧ dt (colsQ rows) (cv (rows.getD row.toNat [])) (cv w) = 1 ∧ ∀ r ∈ hs, dt (colsQ rows) (cv (rows.getD r.toNat [])) (cv w) = 0 := by
  obtain ⟨hl, hn⟩ := row_right hP.prog hP.inr
  have hR := some_right hP.prog hP.help
  rw [← hl] at hR
  have hnm : ¬ Made (someQ rows hs) (rows.getD row.toNat []) := fun h => by
    rw [(comb_span hR hn).2 h] at hok; cases hok
  obtain ⟨w, hw⟩ := Option.isSome_iff_exists.1 ((sep_made hR).2 hnm)
  obtain ⟨h1, h2, h3⟩ := (proves_iff hR).1 (sep_some hR hw)
  rw [hl] at h1 h2 h3
  refine ⟨w, hw, h1, h3, fun r hr => ?_⟩
  obtain ⟨i, hi, rfl⟩ := List.mem_iff_getElem.1 hr
  have hi2 : i < (someQ rows hs).length := by rw [someQ_len]; exact hi
  have h4 := h2 i hi2
  rw [← someQ_at rows hs hi hi2, ← h4]
  exact dt_congr (fun j _ => (fm_row _ hi2 j).symm) (fun _ _ => rfl)
theorem needs_row {rows : List (List Int)} {owners : List Int} {row value : Int} {s w : List Int} (hP : ProgOK rows owners) (hr : 0 ≤ row ∧ row < (rows.length : Int)) (hs : s.length = colsQ rows) (hv : 0 ≤ value ∧ value < 1073741789) (hd : dt (colsQ rows) (cv (rows.getD row.toNat [])) (cv w) = 1) :
    prodQ (rows.getD row.toNat []) (moveL s w ((value - prodQ (rows.getD row.toNat []) s + 1073741789) % 1073741789)) = value := by
  obtain ⟨hl, -⟩ := row_right hP hr
  have h0 := prodQ_num (rows.getD row.toNat []) s
  refine cq_inj (prodQ_num _ _) hv ?_
  rw [prod_move _ (by rw [hl, hs]), hl, hd]
  generalize prodQ (rows.getD row.toNat []) s = q at *
  have h1 : (q + (value - q + 1073741789) % 1073741789) % 1073741789 = value := by omega
  have h2 := congrArg cq h1
  rw [cq_mod, cq_add] at h2
  rw [← h2]; grind
theorem needs_help {rows : List (List Int)} {owners : List Int} {r b : Int} {s w : List Int} (hP : ProgOK rows owners) (hr : 0 ≤ r ∧ r < (rows.length : Int)) (hs : s.length = colsQ rows) (hd : dt (colsQ rows) (cv (rows.getD r.toNat [])) (cv w) = 0) :
    prodQ (rows.getD r.toNat []) (moveL s w b) = prodQ (rows.getD r.toNat []) s := by
  obtain ⟨hl, -⟩ := row_right hP hr
  refine cq_inj (prodQ_num _ _) (prodQ_num _ _) ?_
  rw [prod_move _ (by rw [hl, hs]), hl, hd]; grind

end Go.Proofs.Ytnbkbnbmmkfckaa
