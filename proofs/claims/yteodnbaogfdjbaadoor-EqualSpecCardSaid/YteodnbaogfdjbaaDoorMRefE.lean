/- The reference of digest: ror, word. -/
import Derived.Test.YteodnbaogfdjbaaDoorMDigD
import Derived.BigQuiet
namespace Go.Proofs.YteodnbaogfdjbaaDoor
open Go.RowKit

set_option maxRecDepth 100000 in
set_option maxHeartbeats 1000000 in
theorem ror_any (x n : Nat) (w : World) (hx : x < 4294967296) (hn : n = 2 ∨ n = 6 ∨ n = 7 ∨ n = 11 ∨ n = 13 ∨ n = 17 ∨ n = 18 ∨ n = 19 ∨ n = 22 ∨ n = 25) :
    Calls Tryd.prog 96 #[.int .u32 x, .int .i64 n] w fun e w' => e = .returned (.int .u32 (rotr x n)) ∧ ∃ m, w' = w.drewN m := by
  obtain ⟨s, hs⟩ : ∃ s, n + s = 32 := ⟨32 - n, by omega⟩
  have s1 : 1 ≤ s := by omega
  have s2 : s < 32 := by omega
  have e1 : (32 : Int) - (n : Int) = s := by omega
  have n1 : (0 : Int) ≤ n := by omega
  have n2 : n < 32 := by omega
  have HO : Hid (bits .or .u32 ((x : Int) / 2 ^ n) ((x : Int) * 2 ^ s % 4294967296) = ((rotr x n : Nat) : Int)) := Lib.hid (by
    have h := rot_or x n s hx hs
    rw [show 32 - s = n by omega] at h
    rw [← h]
    have e1 : (x : Int) * 2 ^ s % 4294967296 = ((x * 2 ^ s % 4294967296 : Nat) : Int) := by rw [Int.natCast_emod, Int.natCast_mul, Int.natCast_pow]; rfl
    have e2 : (x : Int) / 2 ^ n = ((x / 2 ^ n : Nat) : Int) := by rw [Int.natCast_ediv, Int.natCast_pow]; rfl
    have h1 : x * 2 ^ s % 4294967296 < 4294967296 := Nat.mod_lt _ (by decide)
    have h2 : x / 2 ^ n < 4294967296 := Nat.lt_of_le_of_lt (Nat.div_le_self _ _) hx
    rw [e1, e2, u32_or_nat _ _ h2 h1, u32_or_nat _ _ h1 h2, Nat.or_comm])
  clear hn
  go_enter Tryd.func96, Tryd.ntmps96
  go_wp2_with fail
  go_quiet (fail)
  go_wp2_with fail
  go_ret
  exact ⟨ret_int HO.out, ⟨_, rfl⟩⟩

theorem word_or (g0 g1 g2 g3 : Nat) (h0 : g0 < 256) (h1 : g1 < 256) (h2 : g2 < 256) (h3 : g3 < 256) :
    bits .or .u32 (bits .or .u32 (bits .or .u32 ((g0 : Int) * 16777216) ((g1 : Int) * 65536)) ((g2 : Int) * 256)) (g3 : Int) = ((wd g0 g1 g2 g3 : Nat) : Int) := by
  have e0 : (g0 : Int) * 16777216 = ((g0 * 16777216 : Nat) : Int) := by omega
  have e1 : (g1 : Int) * 65536 = ((g1 * 65536 : Nat) : Int) := by omega
  have e2 : (g2 : Int) * 256 = ((g2 * 256 : Nat) : Int) := by omega
  rw [e0, e1, e2, u32_or_nat _ _ (by omega) (by omega), nat_join 24 (g0 * 16777216) (g1 * 65536) (by omega) (by omega),
    u32_or_nat _ _ (by omega) (by omega), nat_join 16 (g0 * 16777216 + g1 * 65536) (g2 * 256) (by omega) (by omega),
    u32_or_nat _ _ (by omega) (by omega), nat_join 8 (g0 * 16777216 + g1 * 65536 + g2 * 256) g3 (by omega) (by omega)]
  unfold wd
  omega

set_option maxRecDepth 100000 in
set_option maxHeartbeats 1000000 in
theorem rword_any (a : Addr) (b off n cap : Nat) (ha : a = ⟨b, off, none⟩) (hn : 4 ≤ n) (_hcap : n ≤ cap) (f : Nat → Nat) (hf : ∀ k, f k < 256) (w : World)
    (hc : ∀ k, k < 4 → w.cell? ⟨b, off + k, none⟩ = some (.int .u8 (f k : Nat))) :
    Calls Tryd.prog 95 #[.slice (some a) n cap] w fun e w' => e = .returned (.int .u32 (wd (f 0) (f 1) (f 2) (f 3) : Nat)) ∧ ∃ m, w' = w.drewN m := by
  subst ha
  have f0 := hf 0
  have f1 := hf 1
  have f2 := hf 2
  have f3 := hf 3
  have c0 := hc 0 (by omega)
  have c1 := hc 1 (by omega)
  have c2 := hc 2 (by omega)
  have c3 := hc 3 (by omega)
  clear hc hf
  rw [Nat.add_zero] at c0
  generalize f 0 = g0 at *
  generalize f 1 = g1 at *
  generalize f 2 = g2 at *
  generalize f 3 = g3 at *
  have HO := Lib.hid (word_or g0 g1 g2 g3 f0 f1 f2 f3)
  have k0 : IntKind.u32.wrap (g0 : Int) = g0 := by rw [IntKind.wrap_u32]; omega
  have k1 : IntKind.u32.wrap (g1 : Int) = g1 := by rw [IntKind.wrap_u32]; omega
  have k2 : IntKind.u32.wrap (g2 : Int) = g2 := by rw [IntKind.wrap_u32]; omega
  have k3 : IntKind.u32.wrap (g3 : Int) = g3 := by rw [IntKind.wrap_u32]; omega
  go_enter Tryd.func95, Tryd.ntmps95
  go_wp2_with fail
  go_quiet (fail)
  go_wp2_with fail
  go_ret
  exact ⟨ret_int HO.out, ⟨_, rfl⟩⟩

end Go.Proofs.YteodnbaogfdjbaaDoor
