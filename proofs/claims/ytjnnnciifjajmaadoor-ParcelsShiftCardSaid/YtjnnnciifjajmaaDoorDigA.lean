/- Package digest: rotations, words of bytes. -/
import Derived.Test.YtjnnnciifjajmaaDoorBase
import Derived.Test.YtjnnnciifjajmaaDoorSha
import Derived.Laws.BitsAllLaws
namespace Go.Proofs.YtjnnnciifjajmaaDoor
open Go.RowKit

theorem u32_shl (x k : Nat) : IntKind.u32.wrap ((x : Int) * ((k : Nat) : Int)) = ((x * k % 4294967296 : Nat) : Int) := by
  rw [IntKind.wrap_u32', Int.natCast_emod, Int.natCast_mul]; rfl

theorem rot_or (x n s : Nat) (hx : x < 4294967296) (h : n + s = 32) : bits .or .u32 ((x : Int) * 2 ^ s % 4294967296) ((x : Int) / 2 ^ (32 - s)) = ((rotr x n : Nat) : Int) := by
  have e1 : (x : Int) * 2 ^ s % 4294967296 = ((x * 2 ^ s % 4294967296 : Nat) : Int) := by rw [Int.natCast_emod, Int.natCast_mul, Int.natCast_pow]; rfl
  have e2 : (x : Int) / 2 ^ (32 - s) = ((x / 2 ^ (32 - s) : Nat) : Int) := by rw [Int.natCast_ediv, Int.natCast_pow]; rfl
  rw [e1, e2, u32_or_nat _ _ (Nat.mod_lt _ (by decide)) (Nat.lt_of_le_of_lt (Nat.div_le_self _ _) hx)]
  obtain rfl : n = 32 - s := by omega
  unfold rotr
  rw [show 32 - (32 - s) = s by omega]

set_option maxRecDepth 100000 in
set_option maxHeartbeats 400000 in
theorem rot_any (x n : Nat) (m : Int) (hm : m = -(n : Int)) (w : World) (hx : x < 4294967296) (hn : n = 2 ∨ n = 6 ∨ n = 7 ∨ n = 11 ∨ n = 13 ∨ n = 17 ∨ n = 18 ∨ n = 19 ∨ n = 22 ∨ n = 25) :
    Calls Tryd.prog 97 #[.int .u32 x, .int .i64 m] w fun e w' => e = .returned (.int .u32 (rotr x n)) ∧ w = w' := by
  have key : ∀ (s : Nat) (hs : n + s = 32) (hn1 : 1 ≤ n) (hs1 : 1 ≤ s), bits .and .u64 (IntKind.u64.wrap m) 31 = (s : Int) := by
    intro s hs _ _
    have h1 : IntKind.u64.wrap m = ((18446744073709551616 - n : Nat) : Int) := by
      rw [IntKind.wrap_u64]; omega
    rw [h1, show (31 : Int) = ((31 : Nat) : Int) from rfl, u64_and_nat _ _ (by omega) (by omega), nat_mask5]
    omega
  obtain ⟨s, hs⟩ : ∃ s, n + s = 32 := ⟨32 - n, by omega⟩
  have hb := key s hs (by omega) (by omega)
  have s1 : 1 ≤ s := by omega
  have s2 : s < 32 := by omega
  clear key hm hn
  go_enter Tryd.func97, Tryd.ntmps97
  go_wp2_with fail
  go_ret
  exact ⟨ret_int (rot_or x n s hx hs), rfl⟩

set_option maxRecDepth 100000 in
set_option maxHeartbeats 400000 in
theorem rotated_any (x a b c : Nat) (ia ib ic : Int) (ea : ia = a) (eb : ib = b) (ec : ic = c) (w : World) (hx : x < 4294967296) (h : (a = 6 ∧ b = 11 ∧ c = 25) ∨ (a = 2 ∧ b = 13 ∧ c = 22)) :
    Calls Tryd.prog 98 #[.int .u32 x, .int .i64 ia, .int .i64 ib, .int .i64 ic] w fun e w' => e = .returned (.int .u32 (rot3 x a b c)) ∧ w = w' := by
  subst ea
  subst eb
  subst ec
  have l1 := rotr_lt (n := a) hx
  have l2 := rotr_lt (n := b) hx
  have l3 := rotr_lt (n := c) hx
  have H := Lib.hid (show bits .xor .u32 (bits .xor .u32 (rotr x a) (rotr x b)) (rotr x c) = ((rot3 x a b c : Nat) : Int) by
    rw [u32_xor_nat _ _ l1 l2, u32_xor_nat _ _ (xor_lt32 l1 l2) l3]; rfl)
  have ha : a = 2 ∨ a = 6 ∨ a = 7 ∨ a = 11 ∨ a = 13 ∨ a = 17 ∨ a = 18 ∨ a = 19 ∨ a = 22 ∨ a = 25 := by omega
  have hb : b = 2 ∨ b = 6 ∨ b = 7 ∨ b = 11 ∨ b = 13 ∨ b = 17 ∨ b = 18 ∨ b = 19 ∨ b = 22 ∨ b = 25 := by omega
  have hc : c = 2 ∨ c = 6 ∨ c = 7 ∨ c = 11 ∨ c = 13 ∨ c = 17 ∨ c = 18 ∨ c = 19 ∨ c = 22 ∨ c = 25 := by omega
  have a9 : a ≤ 40 := by omega
  have b9 : b ≤ 40 := by omega
  have c9 : c ≤ 40 := by omega
  clear h
  have ha := Lib.hid ha
  have hb := Lib.hid hb
  have hc := Lib.hid hc
  go_enter Tryd.func98, Tryd.ntmps98
  go_wp2_with fail
  with_reducible refine (rot_any x a _ rfl _ hx ha.out).mono ?_
  rintro e w1 ⟨rfl, rfl⟩
  go_wp2_with fail
  with_reducible refine (rot_any x b _ rfl _ hx hb.out).mono ?_
  rintro e w1 ⟨rfl, rfl⟩
  go_wp2_with fail
  with_reducible refine (rot_any x c _ rfl _ hx hc.out).mono ?_
  rintro e w1 ⟨rfl, rfl⟩
  go_wp2_with fail
  go_ret
  exact ⟨ret_int H.out, rfl⟩

/-- The slice v reads as the bytes. -/
def Byts (w : World) (v : Value) (bs : List Nat) : Prop :=
  ∃ a cap, v = .slice a bs.length cap ∧ bs.length ≤ cap ∧ bs.length ≤ 17592186044416 ∧ (∀ x ∈ bs, x < 256) ∧
    ∀ k (h : k < bs.length), ∃ b off, a = some ⟨b, off, none⟩ ∧ w.cell? ⟨b, off + k, none⟩ = some (.int .u8 (bs[k] : Nat))

theorem u32_join8 (n c : Nat) (hn : n < 16777216) (hc : c < 256) : bits .or .u32 ((n : Int) * 256 % 4294967296) (c : Int) = ((n * 256 + c : Nat) : Int) := by
  have e1 : (n : Int) * 256 % 4294967296 = ((n * 256 : Nat) : Int) := by omega
  rw [e1, u32_or_nat _ _ (by omega) (by omega), nat_join 8 (n * 256) c (by omega) hc]
theorem u32_join8' (n c : Nat) (hn : n < 16777216) (hc : c < 256) : bits .or .u32 ((n : Int) * 256) (c : Int) = ((n * 256 + c : Nat) : Int) := by
  have e1 : (n : Int) * 256 = ((n * 256 : Nat) : Int) := by omega
  rw [e1, u32_or_nat _ _ (by omega) (by omega), nat_join 8 (n * 256) c (by omega) hc]

theorem u32_joinI (n : Int) (c : Nat) (h0 : 0 ≤ n) (hn : n < 16777216) (hc : c < 256) : bits .or .u32 (n * 256) (c : Int) = n * 256 + (c : Int) := by
  obtain ⟨m, rfl⟩ := Int.eq_ofNat_of_zero_le h0
  exact (u32_join8' m c (by omega) hc).trans (by omega)
theorem val_u32 {a b : Int} (h : a = b) : Value.int .u32 a = .int .u32 b := by rw [h]

set_option maxRecDepth 100000 in
set_option maxHeartbeats 1000000 in
/-- A word is the first four bytes. -/
theorem word_any (a : Addr) (b off n cap : Nat) (ha : a = ⟨b, off, none⟩) (hn : 4 ≤ n) (hcap : n ≤ cap) (f : Nat → Nat) (hf : ∀ k, f k < 256) (w : World)
    (hc : ∀ k, k < 4 → w.cell? ⟨b, off + k, none⟩ = some (.int .u8 (f k : Nat))) :
    Calls Tryd.prog 96 #[.slice (some a) n cap] w fun e w' => e = .returned (.int .u32 (wd (f 0) (f 1) (f 2) (f 3) : Nat)) ∧ w = w' := by
  subst ha
  have f0 := hf 0
  have f1 := hf 1
  have f2 := hf 2
  have f3 := hf 3
  have c0 := hc 0 (by omega)
  have c1 := hc 1 (by omega)
  have c2 := hc 2 (by omega)
  have c3 := hc 3 (by omega)
  clear hc hf
  rw [Nat.add_zero] at c0
  go_enter Tryd.func96, Tryd.ntmps96
  go_wp2_with fail
  go_loop [2, 8] (fun x i => (i = .int .i64 0 ∧ x = .int .u32 0) ∨ (i = .int .i64 1 ∧ x = .int .u32 (f 0)) ∨ (i = .int .i64 2 ∧ x = .int .u32 (f 0 * 256 + f 1 : Nat)) ∨ (i = .int .i64 3 ∧ x = .int .u32 ((f 0 * 256 + f 1) * 256 + f 2 : Nat)) ∨ (i = .int .i64 4 ∧ x = .int .u32 (wd (f 0) (f 1) (f 2) (f 3) : Nat))) (fun _ i => 4 - (intOf i).toNat)
  case atStart => exact .inl ⟨rfl, rfl⟩
  case round =>
    rcases hrel with ⟨rfl, rfl⟩ | ⟨rfl, rfl⟩ | ⟨rfl, rfl⟩ | ⟨rfl, rfl⟩ | ⟨rfl, rfl⟩
    · go_wp2_with fail
      go_round
      case rel => exact .inr (.inl ⟨rfl, by rw [show (0 : Int) = ((0 : Nat) : Int) from rfl, u32_or_nat _ _ (by omega) (by omega), Nat.zero_or]⟩)
      case measure => simp [intOf]
    · go_wp2_with fail
      go_round
      case rel => exact .inr (.inr (.inl ⟨rfl, val_u32 (by rw [u32_joinI _ _ (by omega) (by omega) f1]; omega)⟩))
      case measure => simp [intOf]
    · go_wp2_with fail
      go_round
      case rel => exact .inr (.inr (.inr (.inl ⟨rfl, val_u32 (by rw [u32_joinI _ _ (by omega) (by omega) f2]; omega)⟩)))
      case measure => simp [intOf]
    · go_wp2_with fail
      go_round
      case rel => exact .inr (.inr (.inr (.inr ⟨rfl, val_u32 (by rw [u32_joinI _ _ (by omega) (by omega) f3]; unfold wd; omega)⟩)))
      case measure => simp [intOf]
    · go_wp2_with fail
      go_ret
      exact ⟨rfl, rfl⟩

end Go.Proofs.YtjnnnciifjajmaaDoor
