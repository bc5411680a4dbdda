/- The generator of the group, and what a proof of equality commits to. -/
import Derived.Test.YtjnnnciifjajmaaDoorElt
namespace Go.Proofs.YtjnnnciifjajmaaDoor
open FP

theorem el_four : El 4 := by
  refine el_of (by omega) ?_
  have e : cp 4 = cp 2 * cp 2 := by rw [← cp_mul]; rfl
  have h2 : cp 2 ≠ 0 := fun h => by rw [cp_zero] at h; exact absurd h (by decide)
  obtain ⟨n, hn, hq⟩ : ∃ n : Nat, n + 1 + 1 = 2147483579 ∧ nQ + nQ = n + 1 := ⟨2147483577, rfl, rfl⟩
  rw [e, fp_prod, ← fp_add, hq, FP.pow_s]
  exact FP.fermat_n n hn h2
theorem four_ne : (4 : Int) ≠ 1 := by decide
theorem not_el_0 : ¬ El 0 := fun h => absurd h.lo (by decide)
theorem not_el_2 : ¬ El 2 := fun h => by
  have e := euler (a := 2) (h := nQ) rfl (by decide) (by decide)
  have c2 : FP.natq 2 = cp 2 := rfl
  have h2 : cntJ nQ 2 % 2 = 0 := e.1 h.pw
  rw [cntJ_two, nQ_eq] at h2
  omega
/-- What a proof commits to. -/
def rE (key E S : Int) : Int := powE 4 S * powE key (-E) % 2147483579
def sE (a d E S : Int) : Int := powE a S * powE d (-E) % 2147483579
theorem el_rE {key : Int} (h : El key) (E S : Int) : El (rE key E S) := el_mul (el_powE el_four _) (el_powE h _)
theorem el_sE {a d : Int} (ha : El a) (hd : El d) (E S : Int) : El (sE a d E S) := el_mul (el_powE ha _) (el_powE hd _)
/-- An honest proof commits to the powers with the nonce. -/
theorem sE_honest {a : Int} (ha : El a) (x k E : Int) : sE a (powE a x) E ((k + E * x) % 1073741789) = powE a k := by
  unfold sE
  rw [powE_mod, powE_mul ha, ← powE_add ha]
  congr 1
  grind
theorem rE_honest (x k E : Int) : rE (powE 4 x) E ((k + E * x) % 1073741789) = powE 4 k := sE_honest el_four x k E

end Go.Proofs.YtjnnnciifjajmaaDoor
