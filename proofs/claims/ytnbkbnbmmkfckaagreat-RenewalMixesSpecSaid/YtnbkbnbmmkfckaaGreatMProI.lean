/- The laws of dealing: DealingEnough, the walk. The laws of dealing: DealingHides, the walk. Dealings that are renewed, in plain Lean. The numbers and the people of the laws of renewing. -/
import Derived.Test.YtnbkbnbmmkfckaaGreatMProG
import Derived.Test.YtnbkbnbmmkfckaaGreatMReK
namespace Go.Proofs.YtnbkbnbmmkfckaaGreat
open Go.RowKit FP

end Go.Proofs.YtnbkbnbmmkfckaaGreat

namespace Go.Proofs.YtnbkbnbmmkfckaaGreat
open Go.RowKit FP

end Go.Proofs.YtnbkbnbmmkfckaaGreat

namespace Go.Proofs.YtnbkbnbmmkfckaaGreat
open Go.RowKit

theorem DealOK.full {rows : List (List Int)} {owners : List Int} {x : Int} {u : List Int} (h : DealOK rows owners x u) : (x :: u).length = colsQ rows := by rw [List.length_cons]; exact h.len
theorem dealC_len (s : List Int) : (dealC s).length = s.length := by simp [dealC]
theorem com_deal_B {rows : List (List Int)} {owners : List Int} {x : Int} {u : List Int} (h : DealOK rows owners x u) (hp : progE rows owners = 0) : comB rows (dealC (x :: u)) = true ∧ dchkE rows owners (dealC (x :: u)) = 0 := by
  have h0 := dchkE_of (com_deal h hp)
  refine ⟨?_, h0⟩
  rw [comB_E hp] at h0
  cases e : comB rows (dealC (x :: u)) with
  | true => rfl
  | false => rw [e] at h0; cases h0
theorem key_deal {rows : List (List Int)} {owners : List Int} {x ep : Int} {u : List Int} (h : DealOK rows owners x u) (hp : progE rows owners = 0) (h0 : 0 ≤ ep) (h1 : ep ≤ 64) : keyB rows ep (dealC (x :: u)) = true := by
  unfold keyB; rw [(com_deal_B h hp).1, decide_eq_true h0, decide_eq_true h1]; rfl
theorem fitL_deal {rows : List (List Int)} {owners : List Int} {x : Int} {u : List Int} {l : List (Int × Int)} (h : DealOK rows owners x u) (hp : progE rows owners = 0) (hl : l.Sublist (dealL rows (x :: u))) : fitL rows (dealC (x :: u)) l = true := by
  unfold fitL
  rw [part_shares hl, Bool.true_and, List.all_eq_true]
  intro p hq
  obtain ⟨k, hk, rfl⟩ := deal_mem (hl.subset hq)
  have h1 := (fit_deal h hp hk (prodQ_num (rows.getD k []) (x :: u))).2
  rw [(fitB_is (com_deal_B h hp).2).2, decide_eq_true rfl, Bool.and_eq_true] at h1
  exact h1.2
theorem mulL_deal {s t : List Int} (h : t.length = s.length) : mulL (dealC s) (dealC t) = dealC (addQ s t) := by
  refine List.ext_getElem (by rw [mulL_len, dealC_len, dealC_len, addQ_len]) fun k h1 h2 => ?_
  have hk : k < s.length := by rw [mulL_len, dealC_len] at h1; exact h1
  have h3 := sum_com hk h
  rw [nth_at h2] at h3
  rw [h3]
  simp [mulL]
theorem addS_deal {rows : List (List Int)} {owners s t : List Int} (hP : ProgOK rows owners) (hs : s.length = colsQ rows) : addS (dealL rows s) (dealL rows t) = dealL rows (addQ s t) := by
  refine List.ext_getElem (by rw [addS_len, dealL_len, dealL_len]) fun k h1 h2 => ?_
  have hk : k < rows.length := by rw [dealL_len] at h2; exact h2
  rw [dealL_at rows _ h2, sum_prod hP hs k hk]
  have e : (addS (dealL rows s) (dealL rows t))[k] = addP (dealL rows s) (dealL rows t) k := by simp [addS]
  rw [e]
  unfold addP
  rw [getD_at (show k < (dealL rows s).length by rw [dealL_len]; exact hk), getD_at (show k < (dealL rows t).length by rw [dealL_len]; exact hk), dealL_at, dealL_at]
theorem rowsS_deal (rows : List (List Int)) (s t : List Int) : rowsS (dealL rows s) = rowsS (dealL rows t) := by
  unfold rowsS dealL
  rw [List.map_map, List.map_map]
  rfl
/-- The numbers of some dealings of nothing on top of others. -/
def sumZ (u : List Int) (zs : List (List Int)) : List Int := zs.foldl addQ u
theorem addQ_zero {s : Int} (hs : 0 ≤ s ∧ s < 1073741789) (u z : List Int) : addQ (s :: u) (0 :: z) = s :: addQ u z := by
  rw [addQ_cons, Int.add_zero, Int.emod_eq_of_lt hs.1 hs.2]
theorem sumZ_ok {rows : List (List Int)} {owners : List Int} {x : Int} : ∀ {zs : List (List Int)} {u : List Int}, DealOK rows owners x u → DealOK rows owners x (sumZ u zs)
  | [], _, h => h
  | z :: t, u, h => by
    have h2 : DealOK rows owners x (addQ u z) := ⟨h.prog, h.hx, addQ_num u z, by rw [addQ_len]; exact h.len⟩
    exact sumZ_ok (zs := t) h2
def zerC (zs : List (List Int)) : List (List Int) := zs.map fun z => dealC (0 :: z)
def zerL (rows : List (List Int)) (zs : List (List Int)) : List (List (Int × Int)) := zs.map fun z => dealL rows (0 :: z)
theorem renC_deal {rows : List (List Int)} {owners : List Int} {x : Int} : ∀ {zs : List (List Int)} {u : List Int}, DealOK rows owners x u → (∀ z ∈ zs, DealOK rows owners 0 z) → renC (dealC (x :: u)) (zerC zs) = dealC (x :: sumZ u zs)
  | [], _, _, _ => rfl
  | z :: t, u, h, hz => by
    have hz0 := hz z List.mem_cons_self
    have h2 : DealOK rows owners x (addQ u z) := ⟨h.prog, h.hx, addQ_num u z, by rw [addQ_len]; exact h.len⟩
    show renC (mulL (dealC (x :: u)) (dealC (0 :: z))) (zerC t) = _
    rw [mulL_deal (by rw [h.full, hz0.full]), addQ_zero h.hx]
    exact renC_deal (zs := t) h2 (fun y hy => hz y (List.mem_cons_of_mem _ hy))
theorem renL_deal {rows : List (List Int)} {owners : List Int} {x : Int} : ∀ {zs : List (List Int)} {u : List Int}, DealOK rows owners x u → (∀ z ∈ zs, DealOK rows owners 0 z) → renL (dealL rows (x :: u)) (zerL rows zs) = dealL rows (x :: sumZ u zs)
  | [], _, _, _ => rfl
  | z :: t, u, h, hz => by
    have h2 : DealOK rows owners x (addQ u z) := ⟨h.prog, h.hx, addQ_num u z, by rw [addQ_len]; exact h.len⟩
    show renL (addS (dealL rows (x :: u)) (dealL rows (0 :: z))) (zerL rows t) = _
    rw [addS_deal h.prog h.full, addQ_zero h.hx]
    exact renL_deal (zs := t) h2 (fun y hy => hz y (List.mem_cons_of_mem _ hy))
theorem renE_deal {rows : List (List Int)} {owners : List Int} {x ep : Int} {u : List Int} {zs : List (List Int)} (h : DealOK rows owners x u) (hp : progE rows owners = 0) (hz : ∀ z ∈ zs, DealOK rows owners 0 z) (h0 : 0 ≤ ep) (h1 : ep < 64) (hl : zs.length ≤ 64) :
    renE rows owners ep (dealC (x :: u)) (dealL rows (x :: u)) (zerC zs) (zerL rows zs) = 0 := by
  have e1 : (zerC zs).length = zs.length := by simp [zerC]
  have e2 : (zerL rows zs).length = zs.length := by simp [zerL]
  have hall : zerosB rows (dealL rows (x :: u)) (zerC zs) (zerL rows zs) (zerC zs).length = true := by
    refine List.all_eq_true.2 fun i hi => ?_
    have hi2 : i < zs.length := by rw [e1] at hi; exact List.mem_range.1 hi
    have hz1 := hz zs[i] (List.getElem_mem hi2)
    unfold zeroN
    rw [getD_at (show i < (zerC zs).length by omega), getD_at (show i < (zerL rows zs).length by omega)]
    have g1 : (zerC zs)[i]'(by omega) = dealC (0 :: zs[i]) := by simp [zerC]
    have g2 : (zerL rows zs)[i]'(by omega) = dealL rows (0 :: zs[i]) := by simp [zerL]
    rw [g1, g2]
    unfold zeroB
    rw [(com_deal_B hz1 hp).1, fitL_deal hz1 hp (List.Sublist.refl _), decide_eq_true (rowsS_deal rows _ _)]
    have : nth (dealC (0 :: zs[i])) 0 = 1 := by
      unfold dealC; rw [nth_mapv (by simp)]; exact powE_0 4
    rw [this]
    rfl
  rw [renE_key hp, if_neg (by rw [key_deal h hp h0 (by omega)]; decide), if_neg (by omega), fitL_deal h hp (List.Sublist.refl _), if_neg (by decide), if_neg (by omega), hall, if_pos rfl]
/-! One list alone. -/
/-! Numbers that are moved, and moved back. -/
end Go.Proofs.YtnbkbnbmmkfckaaGreat

namespace Go.Proofs.YtnbkbnbmmkfckaaGreat
open Go.RowKit FP


end Go.Proofs.YtnbkbnbmmkfckaaGreat
