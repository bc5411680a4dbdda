/- Package complaints: what Make tries. The laws of complaints, in plain Lean: what Make and Settle answer about a sealed dealing. The laws of dealing: the sum of two lists, in plain Lean. What LinearSums and LinearChanged say, without a program: combinations of sums; rows that are changed. The laws of dealing: what is recovered from shares that were dealt; sums of dealings, in plain Lean. Products of commitments and sums of what is dealt, in plain Lean. -/
import Derived.Test.YtggnipkfliompaaGreatDoorMCoE
import Derived.Test.YtggnipkfliompaaGreatDoorMParF
import Derived.Test.YtggnipkfliompaaGreatDoorMEqA
import Derived.Test.YtggnipkfliompaaGreatDoorMDeaJ
namespace Go.Proofs.YtggnipkfliompaaGreatDoor
open Go.RowKit FP

theorem Parcels.at {w : World} {a : Option Addr} {n c : Nat} {l : List Pcl} (h : Parcels w (.slice a n c) l) {k : Nat} (hk : k < l.length) : ∃ b off, a = some ⟨b, off, none⟩ ∧ w.cell? ⟨b, off + k * 3, none⟩ = some (.int .i64 l[k].1) ∧ w.cell? ⟨b, off + k * 3 + 1, none⟩ = some (.int .i64 l[k].2.1) ∧ w.cell? ⟨b, off + k * 3 + 2, none⟩ = some (.int .i64 l[k].2.2) ∧ R64 l[k].2.1 := by
  obtain ⟨a', cap, h1, -, -, h4, h5⟩ := h
  cases h1
  obtain ⟨b, off, e, h6, h7, h8⟩ := h5 k hk
  exact ⟨b, off, e, h6, h7, h8, (h4 _ (List.getElem_mem hk)).2.1⟩

end Go.Proofs.YtggnipkfliompaaGreatDoor

namespace Go.Proofs.YtggnipkfliompaaGreatDoor
open Go.RowKit FP

section
variable {rows : List (List Int)} {owners ss : List Int} {x : Int} {rnd : List Int} {dealer row by' : Int} {i : Nat}
end

end Go.Proofs.YtggnipkfliompaaGreatDoor

namespace Go.Proofs.YtggnipkfliompaaGreatDoor
open Go.RowKit FP

end Go.Proofs.YtggnipkfliompaaGreatDoor

namespace Go.Proofs.YtggnipkfliompaaGreatDoor

end Go.Proofs.YtggnipkfliompaaGreatDoor

namespace Go.Proofs.YtggnipkfliompaaGreatDoor
open Go.RowKit FP

end Go.Proofs.YtggnipkfliompaaGreatDoor

namespace Go.Proofs.YtggnipkfliompaaGreatDoor
open Go.RowKit FP

def mulL (a b : List Int) : List Int := (List.range a.length).map fun i => nth a i * nth b i % 2147483579
def renC (cs : List Int) (css : List (List Int)) : List Int := css.foldl mulL cs
theorem mulL_len (a b : List Int) : (mulL a b).length = a.length := by simp [mulL]
theorem mulL_el {a b : List Int} (ha : ∀ c ∈ a, El c) (hb : ∀ c ∈ b, El c) (hl : a.length ≤ b.length) : ∀ c ∈ mulL a b, El c := by
  intro c hc
  obtain ⟨i, hi, rfl⟩ := List.mem_map.1 hc
  have hi2 : i < a.length := by simpa using hi
  exact el_mul (ha _ (by rw [nth_at hi2]; exact List.getElem_mem _)) (hb _ (by rw [nth_at (show i < b.length by omega)]; exact List.getElem_mem _))
theorem comB_el {rows : List (List Int)} {cs : List Int} (h : comB rows cs = true) : (∀ c ∈ cs, El c) ∧ cs.length = colsQ rows := by
  unfold comB at h
  simp only [Bool.and_eq_true, decide_eq_true_eq, Bool.not_eq_true'] at h
  exact ⟨any_notel h.1, h.2⟩
theorem com_deal_B {rows : List (List Int)} {owners : List Int} {x : Int} {u : List Int} (h : DealOK rows owners x u) (hp : progE rows owners = 0) : comB rows (dealC (x :: u)) = true ∧ dchkE rows owners (dealC (x :: u)) = 0 := by
  have h0 := dchkE_of (com_deal h hp)
  refine ⟨?_, h0⟩
  rw [comB_E hp] at h0
  cases e : comB rows (dealC (x :: u)) with
  | true => rfl
  | false => rw [e] at h0; cases h0
end Go.Proofs.YtggnipkfliompaaGreatDoor
