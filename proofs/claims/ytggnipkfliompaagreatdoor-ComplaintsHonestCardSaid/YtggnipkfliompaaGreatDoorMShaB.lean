/- SHA-256, in plain Lean: the last blocks. -/
import Derived.Test.YtggnipkfliompaaGreatDoorMLinP
namespace Go.Proofs.YtggnipkfliompaaGreatDoor

theorem be8_at (n : Nat) {j : Nat} (h : j < 8) : (be8 n)[j]? = some (n / 2 ^ (8 * (7 - j)) % 256) := by
  match j, h with
  | 0, _ | 1, _ | 2, _ | 3, _ | 4, _ | 5, _ | 6, _ => rfl
  | 7, _ => show some (n % 256) = some (n / 2 ^ (8 * (7 - 7)) % 256); simp
theorem be4_at (n : Nat) {j : Nat} (h : j < 4) : (be4 n)[j]? = some (n / 2 ^ (8 * (3 - j)) % 256) := by
  match j, h with
  | 0, _ | 1, _ | 2, _ => rfl
  | 3, _ => show some (n % 256) = some (n / 2 ^ (8 * (3 - 3)) % 256); simp
/-- So long is what is left of the padded bytes behind the whole blocks. -/
def tailL (n : Nat) : Nat := if n % 64 > 55 then 128 else 64
theorem padded_len2 (b : List Nat) : (padded b).length = 64 * (b.length / 64) + tailL b.length := by
  unfold padded zeros be8 padN tailL
  rw [List.length_append, List.length_cons, List.length_append, List.length_replicate]
  simp only [List.length_cons, List.length_nil]
  split <;> omega
theorem padded_blocks (b : List Nat) : (padded b).length / 64 = b.length / 64 + tailL b.length / 64 := by
  rw [padded_len2]; unfold tailL; split <;> omega
theorem pad_low (b : List Nat) {i : Nat} (h : i < b.length) : (padded b).getD i 0 = b[i] := by
  unfold padded
  rw [List.getD_eq_getElem?_getD, List.getElem?_append_left h, List.getElem?_eq_getElem h]; rfl
theorem pad_mark (b : List Nat) : (padded b).getD b.length 0 = 128 := by
  unfold padded
  rw [List.getD_eq_getElem?_getD, List.getElem?_append_right (Nat.le_refl _), Nat.sub_self]; rfl
theorem pad_zero (b : List Nat) {i : Nat} (h : b.length < i) (h2 : i < b.length + 1 + padN b.length) : (padded b).getD i 0 = 0 := by
  unfold padded
  rw [List.getD_eq_getElem?_getD, List.getElem?_append_right (by omega)]
  obtain ⟨j, hj⟩ : ∃ j, i - b.length = j + 1 := ⟨i - b.length - 1, by omega⟩
  rw [hj, List.getElem?_cons_succ, List.getElem?_append_left (by unfold zeros; rw [List.length_replicate]; omega)]
  unfold zeros
  rw [List.getElem?_replicate]
  split <;> rfl
theorem pad_size (b : List Nat) {j : Nat} (h : j < 8) : (padded b).getD (b.length + 1 + padN b.length + j) 0 = b.length * 8 / 2 ^ (8 * (7 - j)) % 256 := by
  unfold padded
  rw [List.getD_eq_getElem?_getD, List.getElem?_append_right (by omega)]
  have e : b.length + 1 + padN b.length + j - b.length = (padN b.length + j) + 1 := by omega
  rw [e, List.getElem?_cons_succ, List.getElem?_append_right (by unfold zeros; rw [List.length_replicate]; omega)]
  unfold zeros
  rw [List.length_replicate, Nat.add_sub_cancel_left, be8_at _ h]; rfl
theorem tail_end (b : List Nat) : b.length + 1 + padN b.length + 8 = 64 * (b.length / 64) + tailL b.length := by
  unfold padN tailL; split <;> omega
/-- What is left, byte by byte. -/
theorem tail_at (b : List Nat) {k : Nat} (hk : k < tailL b.length) :
    (padded b).getD (64 * (b.length / 64) + k) 0 =
      if h : k < b.length % 64 then b[64 * (b.length / 64) + k]'(by omega) else if k = b.length % 64 then 128 else if k < tailL b.length - 8 then 0
      else b.length * 8 / 2 ^ (8 * (8 - 1 - (k - (tailL b.length - 8)))) % 256 := by
  have he := tail_end b
  have hl : 64 ≤ tailL b.length := by unfold tailL; split <;> omega
  by_cases h1 : k < b.length % 64
  · rw [dif_pos h1]; exact pad_low b _
  · rw [dif_neg h1]
    by_cases h2 : k = b.length % 64
    · rw [if_pos h2]
      have : 64 * (b.length / 64) + k = b.length := by omega
      rw [this]; exact pad_mark b
    · rw [if_neg h2]
      by_cases h3 : k < tailL b.length - 8
      · rw [if_pos h3]; exact pad_zero b (by omega) (by omega)
      · rw [if_neg h3]
        have e : 64 * (b.length / 64) + k = b.length + 1 + padN b.length + (k - (tailL b.length - 8)) := by omega
        rw [e, pad_size b (by omega)]
theorem blk_low (b : List Nat) (hb : ∀ x ∈ b, x < 256) {i k : Nat} (h : 64 * i + k < b.length) : blk (padded b) i k = b[64 * i + k] := by
  unfold blk
  rw [pad_low b h, Nat.mod_eq_of_lt (hb _ (List.getElem_mem h))]
theorem blk_lt (p : List Nat) (i k : Nat) : blk p i k < 256 := Nat.mod_lt _ (by decide)
/-- The bytes of a state. -/
theorem bytes_at (s : St) {i j : Nat} (hi : i < 8) (hj : j < 4) : s.bytes[4 * i + j]? = some (s.at i / 2 ^ (8 * (4 - 1 - j)) % 256) := by
  rw [show 4 - 1 - j = 3 - j by omega]
  have e := be4_at (s.at i) hj
  rw [← e]
  match i, hi, j, hj with
  | 0, _, 0, _ | 0, _, 1, _ | 0, _, 2, _ | 0, _, 3, _ => rfl
  | 1, _, 0, _ | 1, _, 1, _ | 1, _, 2, _ | 1, _, 3, _ => rfl
  | 2, _, 0, _ | 2, _, 1, _ | 2, _, 2, _ | 2, _, 3, _ => rfl
  | 3, _, 0, _ | 3, _, 1, _ | 3, _, 2, _ | 3, _, 3, _ => rfl
  | 4, _, 0, _ | 4, _, 1, _ | 4, _, 2, _ | 4, _, 3, _ => rfl
  | 5, _, 0, _ | 5, _, 1, _ | 5, _, 2, _ | 5, _, 3, _ => rfl
  | 6, _, 0, _ | 6, _, 1, _ | 6, _, 2, _ | 6, _, 3, _ => rfl
  | 7, _, 0, _ | 7, _, 1, _ | 7, _, 2, _ | 7, _, 3, _ => rfl

end Go.Proofs.YtggnipkfliompaaGreatDoor
