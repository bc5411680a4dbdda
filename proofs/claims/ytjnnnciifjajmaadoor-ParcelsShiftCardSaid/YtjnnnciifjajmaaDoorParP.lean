/- Package parcels, in plain Lean: pads, conditions, errors. -/
import Derived.Test.YtjnnnciifjajmaaDoorEqD
namespace Go.Proofs.YtjnnnciifjajmaaDoor
open Go.RowKit FP

/-- The tag of pads. -/
def tagP : ByteArray := ⟨#[112, 97, 100]⟩
/-- The pad of an element, a dealer and a row. -/
def padV (d dealer row : Int) : Int := hashG (strB tagP) (encL [d, dealer, row])
theorem padV_num (d dealer row : Int) : 0 ≤ padV d dealer row ∧ padV d dealer row < 1073741789 := hashG_num _ _

/-- The error of the first condition that does not hold. -/
def firstE : List (Bool × Int) → Int
  | [] => 0
  | (true, _) :: l => firstE l
  | (false, e) :: _ => e
theorem firstE_cons (b : Bool) (e : Int) (l : List (Bool × Int)) : firstE ((b, e) :: l) = if b = true then firstE l else e := by
  cases b <;> rfl
/-- Is a number from one to another one? -/
def inB (n lo hi : Int) : Bool := decide (lo ≤ n) && decide (n ≤ hi)
theorem inB_iff {n lo hi : Int} : inB n lo hi = true ↔ lo ≤ n ∧ n ≤ hi := by unfold inB; rw [Bool.and_eq_true, decide_eq_true_eq, decide_eq_true_eq]
/-- Is a parcel right? -/
def rightB (row pt c : Int) : Bool := inB row 0 63 && (elB pt && inB c 0 1073741788)
theorem rightB_first (row pt c : Int) : (firstE [(inB row 0 63, 350), (elB pt, 350), (inB c 0 1073741788, 350)] == 0) = rightB row pt c := by
  unfold rightB
  cases inB row 0 63 <;> cases elB pt <;> cases inB c 0 1073741788 <;> rfl
/-- Errors. -/
def sealE (u key dealer row value : Int) : Int := firstE [(inB u 1 1073741788, 110), (elB key, 100), (inB dealer 0 63, 1), (inB row 0 63, 1), (inB value 0 1073741788, 350)]
def openE (s dealer row pt c : Int) : Int := firstE [(inB s 1 1073741788, 110), (inB dealer 0 63, 1), (rightB row pt c, 350)]
def withE (d dealer row pt c : Int) : Int := firstE [(elB d, 100), (inB dealer 0 63, 1), (rightB row pt c, 350)]
structure Sealed (u key dealer row value : Int) : Prop where
  u : 1 ≤ u ∧ u ≤ 1073741788
  key : El key
  dealer : 0 ≤ dealer ∧ dealer ≤ 63
  row : 0 ≤ row ∧ row ≤ 63
  value : 0 ≤ value ∧ value ≤ 1073741788
structure RightP (row pt c : Int) : Prop where
  row : 0 ≤ row ∧ row ≤ 63
  pt : El pt
  c : 0 ≤ c ∧ c ≤ 1073741788
theorem rightB_iff {row pt c : Int} : rightB row pt c = true ↔ RightP row pt c := by
  unfold rightB
  rw [Bool.and_eq_true, Bool.and_eq_true, inB_iff, elB_iff, inB_iff]
  exact ⟨fun ⟨a, b, c⟩ => ⟨a, b, c⟩, fun ⟨a, b, c⟩ => ⟨a, b, c⟩⟩
theorem sealE_ok {u key dealer row value : Int} : sealE u key dealer row value = 0 ↔ Sealed u key dealer row value := by
  have h : sealE u key dealer row value = 0 ↔ inB u 1 1073741788 = true ∧ elB key = true ∧ inB dealer 0 63 = true ∧ inB row 0 63 = true ∧ inB value 0 1073741788 = true := by
    unfold sealE
    cases inB u 1 1073741788 <;> cases elB key <;> cases inB dealer 0 63 <;> cases inB row 0 63 <;> cases inB value 0 1073741788 <;> simp [firstE]
  rw [h, inB_iff, elB_iff, inB_iff, inB_iff, inB_iff]
  exact ⟨fun ⟨a, b, c, d, e⟩ => ⟨a, b, c, d, e⟩, fun ⟨a, b, c, d, e⟩ => ⟨a, b, c, d, e⟩⟩
theorem openE_ok {s dealer row pt c : Int} : openE s dealer row pt c = 0 ↔ (1 ≤ s ∧ s ≤ 1073741788) ∧ (0 ≤ dealer ∧ dealer ≤ 63) ∧ RightP row pt c := by
  have h : openE s dealer row pt c = 0 ↔ inB s 1 1073741788 = true ∧ inB dealer 0 63 = true ∧ rightB row pt c = true := by
    unfold openE
    cases inB s 1 1073741788 <;> cases inB dealer 0 63 <;> cases rightB row pt c <;> simp [firstE]
  rw [h, inB_iff, inB_iff, rightB_iff]
theorem withE_ok {d dealer row pt c : Int} : withE d dealer row pt c = 0 ↔ El d ∧ (0 ≤ dealer ∧ dealer ≤ 63) ∧ RightP row pt c := by
  have h : withE d dealer row pt c = 0 ↔ elB d = true ∧ inB dealer 0 63 = true ∧ rightB row pt c = true := by
    unfold withE
    cases elB d <;> cases inB dealer 0 63 <;> cases rightB row pt c <;> simp [firstE]
  rw [h, elB_iff, inB_iff, rightB_iff]
/-- What is sealed, and what is opened. -/
def cipV (u key dealer row value : Int) : Int := (value + padV (powE key u) dealer row) % 1073741789
def opnV (d dealer row c : Int) : Int := (c - padV d dealer row + 1073741789) % 1073741789
theorem cipV_num (u key dealer row value : Int) : 0 ≤ cipV u key dealer row value ∧ cipV u key dealer row value < 1073741789 := by unfold cipV; omega
theorem opnV_num (d dealer row c : Int) : 0 ≤ opnV d dealer row c ∧ opnV d dealer row c < 1073741789 := by unfold opnV; omega
theorem opnV_cipV {u key dealer row value : Int} (h : 0 ≤ value ∧ value ≤ 1073741788) : opnV (powE key u) dealer row (cipV u key dealer row value) = value := by
  unfold opnV cipV
  have := padV_num (powE key u) dealer row
  omega
/-- The power of the point is the power of the key. -/
theorem point_key (u s : Int) : powE (powE 4 u) s = powE (powE 4 s) u := by
  rw [powE_mul el_four, powE_mul el_four, Int.mul_comm]
theorem sealed_right {u key dealer row value : Int} (h : Sealed u key dealer row value) : RightP row (powE 4 u) (cipV u key dealer row value) :=
  ⟨h.row, el_powE el_four u, by have := cipV_num u key dealer row value; omega⟩

end Go.Proofs.YtjnnnciifjajmaaDoor
