/- Package digest: a number is written into bytes. -/
import Derived.Test.YtjnnnciifjajmaaDoorDigA
namespace Go.Proofs.YtjnnnciifjajmaaDoor
open Go.RowKit

theorem cell_other {W : World} {b o b' o' : Nat} {u : Value} (h : b ≠ b' ∨ o ≠ o') : (W.setCell ⟨b, o, none⟩ u).cell? ⟨b', o', none⟩ = W.cell? ⟨b', o', none⟩ := by
  have hne : (⟨b, o, none⟩ : Addr) ≠ ⟨b', o', none⟩ := by
    intro e
    have e1 : b = b' := congrArg Addr.block e
    have e2 : o = o' := congrArg Addr.off e
    rcases h with h | h
    · exact h e1
    · exact h e2
  simp [World.cell?_setCell_other, hne]

/-- The world behind j stores. -/
def putN (w : World) (b off L n : Nat) : Nat → World
  | 0 => w
  | j + 1 => (putN w b off L n j).setCell ⟨b, off + (L - 1 - j), none⟩ (.int .u8 ((n / 2 ^ (8 * j) % 256 : Nat) : Int))
/-- Cells of a block that may be written. -/
structure Room (w : World) (b off L : Nat) : Prop where
  cell : ∀ k, k < L → ∃ v, w.cell? ⟨b, off + k, none⟩ = some v
  free : ∀ k, k < L → w.frozen? ⟨b, off + k, none⟩ = false
theorem putN_frozen (w : World) (b off L n : Nat) (a : Addr) : ∀ j, (putN w b off L n j).frozen? a = w.frozen? a
  | 0 => rfl
  | j + 1 => by rw [putN, World.frozen?_setCell]; exact putN_frozen w b off L n a j
theorem putN_size (w : World) (b off L n : Nat) : ∀ j, (putN w b off L n j).heap.size = w.heap.size
  | 0 => rfl
  | j + 1 => by rw [putN, ← putN_size w b off L n j]; simp [World.setCell]
theorem putN_other (w : World) (b off L n : Nat) {b' o : Nat} (h : b' ≠ b ∨ o < off ∨ off + L ≤ o) : ∀ j, j ≤ L → (putN w b off L n j).cell? ⟨b', o, none⟩ = w.cell? ⟨b', o, none⟩
  | 0, _ => rfl
  | j + 1, hj => by
    rw [putN, cell_other]
    · exact putN_other w b off L n h j (by omega)
    · rcases h with h | h | h
      · exact .inl (fun e => h e.symm)
      · exact .inr (by omega)
      · exact .inr (by omega)
theorem putN_old {w : World} {b off L n : Nat} {k : Nat} : ∀ j, j ≤ L → k < L - j → (putN w b off L n j).cell? ⟨b, off + k, none⟩ = w.cell? ⟨b, off + k, none⟩
  | 0, _, _ => rfl
  | j + 1, _, hk => by
    rw [putN, cell_other (.inr (by omega))]
    exact putN_old j (by omega) (by omega)
theorem putN_new {w : World} {b off L n : Nat} (hR : Room w b off L) {k : Nat} (hk : k < L) : ∀ j, j ≤ L → L - j ≤ k → (putN w b off L n j).cell? ⟨b, off + k, none⟩ = some (.int .u8 ((n / 2 ^ (8 * (L - 1 - k)) % 256 : Nat) : Int))
  | 0, _, h => by omega
  | j + 1, hj, h => by
    rw [putN]
    by_cases e : k = L - 1 - j
    · subst e
      rw [show L - 1 - (L - 1 - j) = j by omega]
      obtain ⟨v, hv⟩ := hR.cell (L - 1 - j) hk
      exact World.cell?_setCell_same' _ _ _ (by rw [putN_old j (by omega) (by omega), hv]; rfl)
    · rw [cell_other (.inr (by omega))]
      exact putN_new hR hk j (by omega) (by omega)
theorem putN_below {w0 w : World} {b off L n B : Nat} (h : Below B w0 w) (hb : B ≤ b) : ∀ j, Below B w0 (putN w b off L n j)
  | 0 => h
  | j + 1 => by rw [putN]; exact (putN_below h hb j).setCell hb _

theorem u64_shr_byte (n j : Nat) : IntKind.u8.wrap ((n : Int) / 2 ^ (8 * j)) = ((n / 2 ^ (8 * j) % 256 : Nat) : Int) := by
  rw [IntKind.wrap_u8', Int.natCast_emod, Int.natCast_ediv, Int.natCast_pow]; rfl

set_option maxRecDepth 100000 in
set_option maxHeartbeats 1000000 in
theorem put_any (b off L cap n : Nat) (w : World) (hL : L ≤ 8) (hcap : L ≤ cap) (_hn : n < 18446744073709551616) (hR : Room w b off L) :
    Calls Tryd.prog 82 #[.slice (some ⟨b, off, none⟩) L cap, .int .u64 n] w fun e w' => e = .returned (.tuple #[]) ∧ w' = putN w b off L n L := by
  go_enter Tryd.func82, Tryd.ntmps82
  go_wp2_with fail
  go_loopw [7] (fun i W => ∃ j : Nat, j ≤ L ∧ i = .int .i64 j ∧ W = putN w b off L n j) (fun i _ => L - (intOf i).toNat)
  case atStart => exact ⟨0, Nat.zero_le _, rfl, rfl⟩
  case round =>
    obtain ⟨j, hj, rfl, hW⟩ := hrel
    by_cases hlt : j < L
    · obtain ⟨v, hv⟩ := hR.cell (L - 1 - j) (by omega)
      have hcl : wr.cell? ⟨b, off + (L - 1 - j), none⟩ = some v := by rw [hW, putN_old j hj (by omega)]; exact hv
      have hfr : wr.frozen? ⟨b, off + (L - 1 - j), none⟩ = false := by rw [hW, putN_frozen]; exact hR.free _ (by omega)
      have HW := Lib.hid hW
      clear hW
      have hlL : decide (j < L) = true := decide_eq_true hlt
      have e1 : ((L : Int) - 1 - (j : Int)).toNat = L - 1 - j := by omega
      have e2 : 0 ≤ (L : Int) - 1 - (j : Int) := by omega
      have e3 : (L : Int) - 1 - (j : Int) < L := by omega
      go_wp2_with fail
      go_roundw
      case rel => exact ⟨j + 1, by omega, by go_num, by rw [putN, ← u64_shr_byte n j, IntKind.wrap_u8', HW.out]⟩
      case measure => simp [intOf]; omega
    · obtain rfl : j = L := by omega
      have HW := Lib.hid hW
      clear hW
      go_wp2_with fail
      go_end0
      exact ⟨rfl, HW.out⟩

end Go.Proofs.YtjnnnciifjajmaaDoor
