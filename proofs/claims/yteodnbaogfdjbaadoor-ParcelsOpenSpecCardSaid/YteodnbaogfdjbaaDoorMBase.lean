/- The words in which the contracts of this claim are stated: slices of integers that read as lists, worlds that only grew. SHA-256, in plain Lean: words, the schedule of a block, the rounds. Package digest: rotations, words of bytes. Package digest: a number is written into bytes. Blocks that are known whole; rows of the call's own, and what keeps them. -/
import Derived.Test.YteodnbaogfdjbaaDoorProg
import Derived.WalkKit
import Derived.BigQuiet
import Derived.Lib.Hide
import Derived.Laws.BitsAllLaws
import Derived.Deep.OwnRows
namespace Go.Proofs.YteodnbaogfdjbaaDoor
open Go.RowKit

theorem ret_int {k : IntKind} {a b : Int} (h : a = b) : Ending.returned (.int k a) = .returned (.int k b) := by rw [h]

theorem ret_bool {a b : Bool} (h : a = b) : Ending.returned (.bool a) = .returned (.bool b) := by rw [h]

/-- A call of the function enters it. -/
def Goes (P : Program) (f : FuncId) : Prop := ∀ (args : Array Value) (w : World), (callFunc f args).run P w = .ok (.enter f args) w
theorem goes_of {P : Program} {f : FuncId} {fn : Func} {c : Code} (hf : P.funcs[f]? = some fn) (hname : (fn.name == "runtime.NumGoroutine") = false) (hb : fn.body = some c) : Goes P f := by
  intro args w
  have h1 : fn.name ≠ "runtime.NumGoroutine" := by simpa using hname
  simp [callFunc, hf, h1, hb, mark]

/-- The range of an int. -/
def R64 (n : Int) : Prop := -9223372036854775808 ≤ n ∧ n ≤ 9223372036854775807
theorem R64.mk {n : Int} (h : -4611686018427387904 ≤ n) (h' : n ≤ 4611686018427387904) : R64 n := ⟨by omega, by omega⟩

/-- A number of the field. -/
def Num (n : Int) : Prop := 0 ≤ n ∧ n < 1073741789
theorem Num.r64 {n : Int} (h : Num n) : R64 n := ⟨by unfold Num at h; omega, by unfold Num at h; omega⟩

/-- A cell of a block that lies there. -/
theorem lt_of_cell {w : World} {b o : Nat} {v : Value} (h : w.cell? ⟨b, o, none⟩ = some v) : b < w.heap.size := by
  by_cases hb : b < w.heap.size
  · exact hb
  · simp [World.cell?, Array.getElem?_eq_none (Nat.le_of_not_lt hb)] at h

theorem below_cell {w w' : World} (h : Below w.heap.size w w') {b o : Nat} {v : Value} (hc : w.cell? ⟨b, o, none⟩ = some v) : w'.cell? ⟨b, o, none⟩ = some v := by
  rw [h.cell (p := ⟨b, o, none⟩) (lt_of_cell hc)]; exact hc

/-- The slice v reads as the integers zs. -/
def Ints (w : World) (v : Value) (zs : List Int) : Prop :=
  ∃ a cap, v = .slice a zs.length cap ∧ zs.length ≤ cap ∧ zs.length ≤ 17592186044416 ∧ (∀ z ∈ zs, R64 z) ∧
    ∀ k (h : k < zs.length), ∃ b off, a = some ⟨b, off, none⟩ ∧ w.cell? ⟨b, off + k, none⟩ = some (.int .i64 zs[k])

theorem Ints.below {w w' : World} {v : Value} {zs : List Int} (h : Ints w v zs) (hb : Below w.heap.size w w') : Ints w' v zs := by
  obtain ⟨a, cap, rfl, hc, hl, hr, hk⟩ := h
  refine ⟨a, cap, rfl, hc, hl, hr, fun k hlt => ?_⟩
  obtain ⟨b, off, ha, hcell⟩ := hk k hlt
  exact ⟨b, off, ha, below_cell hb hcell⟩

theorem Ints.nil (w : World) (a : Option Addr) (cap : Nat) : Ints w (.slice a 0 cap) [] :=
  ⟨a, cap, rfl, Nat.zero_le _, by simp, by simp, fun k h => absurd h (Nat.not_lt_zero _)⟩

/-- The slice v reads as the rows. -/
def Rows2 (w : World) (v : Value) (rows : List (List Int)) : Prop :=
  ∃ a cap, v = .slice a rows.length cap ∧ rows.length ≤ cap ∧ rows.length ≤ 17592186044416 ∧
    ∀ k (h : k < rows.length), ∃ b off r, a = some ⟨b, off, none⟩ ∧ w.cell? ⟨b, off + k, none⟩ = some r ∧ Ints w r rows[k]

theorem Rows2.below {w w' : World} {v : Value} {rows : List (List Int)} (h : Rows2 w v rows) (hb : Below w.heap.size w w') : Rows2 w' v rows := by
  obtain ⟨a, cap, rfl, hc, hl, hk⟩ := h
  refine ⟨a, cap, rfl, hc, hl, fun k hlt => ?_⟩
  obtain ⟨b, off, r, ha, hcell, hr⟩ := hk k hlt
  exact ⟨b, off, r, ha, below_cell hb hcell, hr.below hb⟩

theorem Rows2.nil (w : World) (a : Option Addr) (cap : Nat) : Rows2 w (.slice a 0 cap) [] :=
  ⟨a, cap, rfl, Nat.zero_le _, by simp, fun k h => absurd h (Nat.not_lt_zero _)⟩

end Go.Proofs.YteodnbaogfdjbaaDoor

namespace Go.Proofs.YteodnbaogfdjbaaDoor

/-- A rotation of a word to the right. -/
def rotr (x n : Nat) : Nat := x * 2 ^ (32 - n) % 4294967296 ||| x / 2 ^ n
theorem or_lt32 {a b : Nat} (ha : a < 4294967296) (hb : b < 4294967296) : a ||| b < 4294967296 := Nat.or_lt_two_pow (n := 32) ha hb
theorem xor_lt32 {a b : Nat} (ha : a < 4294967296) (hb : b < 4294967296) : a ^^^ b < 4294967296 := Nat.xor_lt_two_pow (n := 32) ha hb
theorem and_lt32 {a b : Nat} (ha : a < 4294967296) : a &&& b < 4294967296 := Nat.lt_of_le_of_lt Nat.and_le_left ha
theorem rotr_lt {x n : Nat} (hx : x < 4294967296) : rotr x n < 4294967296 :=
  or_lt32 (Nat.mod_lt _ (by decide)) (Nat.lt_of_le_of_lt (Nat.div_le_self _ _) hx)

/-- Three rotations. -/
def rot3 (x a b c : Nat) : Nat := (rotr x a ^^^ rotr x b) ^^^ rotr x c
/-- Two rotations and a shift. -/
def mix (x a b c : Nat) : Nat := (rotr x a ^^^ rotr x b) ^^^ (x / 2 ^ c)
def add32 (a b : Nat) : Nat := (a + b) % 4294967296
theorem add32_lt (a b : Nat) : add32 a b < 4294967296 := Nat.mod_lt _ (by decide)

/-- Four bytes as a word. -/
def wd (a b c d : Nat) : Nat := ((a * 256 + b) * 256 + c) * 256 + d
theorem wd_lt {a b c d : Nat} (ha : a < 256) (hb : b < 256) (hc : c < 256) (hd : d < 256) : wd a b c d < 4294967296 := by unfold wd; omega

/-- The schedule of a block, given by its bytes. -/
def schd (f : Nat → Nat) (t : Nat) : Nat :=
  if h : t < 16 then wd (f (4 * t)) (f (4 * t + 1)) (f (4 * t + 2)) (f (4 * t + 3))
  else add32 (add32 (add32 (schd f (t - 16)) (mix (schd f (t - 15)) 7 18 3)) (schd f (t - 7))) (mix (schd f (t - 2)) 17 19 10)
termination_by t
theorem schd_small (f : Nat → Nat) {t : Nat} (h : t < 16) : schd f t = wd (f (4 * t)) (f (4 * t + 1)) (f (4 * t + 2)) (f (4 * t + 3)) := by
  rw [schd, dif_pos h]
theorem schd_great (f : Nat → Nat) {t : Nat} (h : 16 ≤ t) : schd f t = add32 (add32 (add32 (schd f (t - 16)) (mix (schd f (t - 15)) 7 18 3)) (schd f (t - 7))) (mix (schd f (t - 2)) 17 19 10) := by
  rw [schd, dif_neg (by omega)]
theorem schd_lt {f : Nat → Nat} (hf : ∀ k, f k < 256) (t : Nat) : schd f t < 4294967296 := by
  by_cases h : t < 16
  · rw [schd_small f h]; exact wd_lt (hf _) (hf _) (hf _) (hf _)
  · rw [schd_great f (by omega)]; exact add32_lt _ _

/-- The state of the rounds: eight words. -/
structure St where
  a : Nat
  b : Nat
  c : Nat
  d : Nat
  e : Nat
  f : Nat
  g : Nat
  h : Nat
def St.at (s : St) : Nat → Nat
  | 0 => s.a
  | 1 => s.b
  | 2 => s.c
  | 3 => s.d
  | 4 => s.e
  | 5 => s.f
  | 6 => s.g
  | _ => s.h
structure St.Ok (s : St) : Prop where
  a : s.a < 4294967296
  b : s.b < 4294967296
  c : s.c < 4294967296
  d : s.d < 4294967296
  e : s.e < 4294967296
  f : s.f < 4294967296
  g : s.g < 4294967296
  h : s.h < 4294967296
def chv (s : St) : Nat := s.g ^^^ (s.e &&& (s.f ^^^ s.g))
def mjv (s : St) : Nat := (s.a &&& s.b) ||| (s.c &&& (s.a ||| s.b))
def t1 (s : St) (k w : Nat) : Nat := add32 (add32 (add32 (add32 s.h (rot3 s.e 6 11 25)) (chv s)) k) w
def t2 (s : St) : Nat := add32 (rot3 s.a 2 13 22) (mjv s)
def St.next (s : St) (k w : Nat) : St := ⟨add32 (t1 s k w) (t2 s), s.a, s.b, s.c, add32 s.d (t1 s k w), s.e, s.f, s.g⟩
theorem St.Ok.next {s : St} (h : s.Ok) (k w : Nat) : (s.next k w).Ok := ⟨add32_lt _ _, h.a, h.b, h.c, add32_lt _ _, h.e, h.f, h.g⟩
/-- The numbers of the rounds. -/
def kNum : List Nat := [1116352408, 1899447441, 3049323471, 3921009573, 961987163, 1508970993, 2453635748, 2870763221, 3624381080, 310598401, 607225278, 1426881987, 1925078388, 2162078206, 2614888103, 3248222580, 3835390401, 4022224774, 264347078, 604807628, 770255983, 1249150122, 1555081692, 1996064986, 2554220882, 2821834349, 2952996808, 3210313671, 3336571891, 3584528711, 113926993, 338241895, 666307205, 773529912, 1294757372, 1396182291, 1695183700, 1986661051, 2177026350, 2456956037, 2730485921, 2820302411, 3259730800, 3345764771, 3516065817, 3600352804, 4094571909, 275423344, 430227734, 506948616, 659060556, 883997877, 958139571, 1322822218, 1537002063, 1747873779, 1955562222, 2024104815, 2227730452, 2361852424, 2428436474, 2756734187, 3204031479, 3329325298]
def kAt (t : Nat) : Nat := kNum.getD t 0
theorem kNum_all : ∀ x ∈ kNum, x < 4294967296 := by decide
theorem kAt_lt (t : Nat) : kAt t < 4294967296 := by
  unfold kAt
  rw [List.getD_eq_getElem?_getD]
  cases h : kNum[t]? with
  | none => decide
  | some x => exact kNum_all x (List.mem_of_getElem? h)
/-- So many rounds. -/
def St.rounds (s : St) (f : Nat → Nat) : Nat → St
  | 0 => s
  | t + 1 => (s.rounds f t).next (kAt t) (schd f t)
theorem St.Ok.rounds {s : St} (h : s.Ok) (f : Nat → Nat) : ∀ t, (s.rounds f t).Ok
  | 0 => h
  | t + 1 => (h.rounds f t).next _ _
def St.plus (s v : St) : St := ⟨add32 s.a v.a, add32 s.b v.b, add32 s.c v.c, add32 s.d v.d, add32 s.e v.e, add32 s.f v.f, add32 s.g v.g, add32 s.h v.h⟩
theorem St.plus_ok (s v : St) : (s.plus v).Ok := ⟨add32_lt _ _, add32_lt _ _, add32_lt _ _, add32_lt _ _, add32_lt _ _, add32_lt _ _, add32_lt _ _, add32_lt _ _⟩
/-- A block is absorbed. -/
def St.absorb (s : St) (f : Nat → Nat) : St := s.plus (s.rounds f 64)
theorem St.absorb_ok (s : St) (f : Nat → Nat) : (s.absorb f).Ok := St.plus_ok _ _
/-- The state at the start. -/
def st0 : St := ⟨1779033703, 3144134277, 1013904242, 2773480762, 1359893119, 2600822924, 528734635, 1541459225⟩
theorem st0_ok : st0.Ok := ⟨by decide, by decide, by decide, by decide, by decide, by decide, by decide, by decide⟩

/-- The bytes with their end. -/
def be8 (n : Nat) : List Nat := [n / 72057594037927936 % 256, n / 281474976710656 % 256, n / 1099511627776 % 256, n / 4294967296 % 256, n / 16777216 % 256, n / 65536 % 256, n / 256 % 256, n % 256]
def be4 (n : Nat) : List Nat := [n / 16777216 % 256, n / 65536 % 256, n / 256 % 256, n % 256]
def zeros (n : Nat) : List Nat := List.replicate n 0
/-- How many zeros. -/
def padN (n : Nat) : Nat := (119 - n % 64) % 64
def padded (b : List Nat) : List Nat := b ++ (128 :: (zeros (padN b.length) ++ be8 (b.length * 8)))
theorem padded_len (b : List Nat) : (padded b).length % 64 = 0 := by
  unfold padded zeros be8
  rw [List.length_append, List.length_cons, List.length_append, List.length_replicate]
  simp only [List.length_cons, List.length_nil]
  unfold padN; omega
/-- The blocks of a list, from block i on, so many. -/
def blk (p : List Nat) (i : Nat) : Nat → Nat := fun k => p.getD (64 * i + k) 0 % 256
def St.blocks (s : St) (p : List Nat) : Nat → St
  | 0 => s
  | i + 1 => (s.blocks p i).absorb (blk p i)
theorem St.Ok.blocks {s : St} (h : s.Ok) (p : List Nat) : ∀ i, (s.blocks p i).Ok
  | 0 => h
  | _ + 1 => St.absorb_ok _ _
def St.bytes (s : St) : List Nat := be4 s.a ++ be4 s.b ++ be4 s.c ++ be4 s.d ++ be4 s.e ++ be4 s.f ++ be4 s.g ++ be4 s.h
/-- SHA-256. -/
def sha (b : List Nat) : List Nat := (st0.blocks (padded b) ((padded b).length / 64)).bytes
theorem sha_len (b : List Nat) : (sha b).length = 32 := rfl
theorem be4_all (n : Nat) : ∀ x ∈ be4 n, x < 256 := by
  intro x hx
  unfold be4 at hx
  simp only [List.mem_cons, List.not_mem_nil, or_false] at hx
  rcases hx with rfl | rfl | rfl | rfl <;> exact Nat.mod_lt _ (by decide)
theorem sha_all (b : List Nat) : ∀ x ∈ sha b, x < 256 := by
  intro x hx
  unfold sha St.bytes at hx
  simp only [List.mem_append] at hx
  rcases hx with ((((((h | h) | h) | h) | h) | h) | h) | h <;> exact be4_all _ x h
/-- A hash under a tag. -/
def shaTag (t b : List Nat) : List Nat := sha (sha t ++ b)

end Go.Proofs.YteodnbaogfdjbaaDoor

namespace Go.Proofs.YteodnbaogfdjbaaDoor
open Go.RowKit

theorem rot_or (x n s : Nat) (hx : x < 4294967296) (h : n + s = 32) : bits .or .u32 ((x : Int) * 2 ^ s % 4294967296) ((x : Int) / 2 ^ (32 - s)) = ((rotr x n : Nat) : Int) := by
  have e1 : (x : Int) * 2 ^ s % 4294967296 = ((x * 2 ^ s % 4294967296 : Nat) : Int) := by rw [Int.natCast_emod, Int.natCast_mul, Int.natCast_pow]; rfl
  have e2 : (x : Int) / 2 ^ (32 - s) = ((x / 2 ^ (32 - s) : Nat) : Int) := by rw [Int.natCast_ediv, Int.natCast_pow]; rfl
  rw [e1, e2, u32_or_nat _ _ (Nat.mod_lt _ (by decide)) (Nat.lt_of_le_of_lt (Nat.div_le_self _ _) hx)]
  obtain rfl : n = 32 - s := by omega
  unfold rotr
  rw [show 32 - (32 - s) = s by omega]

set_option maxRecDepth 100000 in
set_option maxHeartbeats 400000 in
theorem rot_any (x n : Nat) (m : Int) (hm : m = -(n : Int)) (w : World) (hx : x < 4294967296) (hn : n = 2 ∨ n = 6 ∨ n = 7 ∨ n = 11 ∨ n = 13 ∨ n = 17 ∨ n = 18 ∨ n = 19 ∨ n = 22 ∨ n = 25) :
    Calls Tryd.prog 93 #[.int .u32 x, .int .i64 m] w fun e w' => e = .returned (.int .u32 (rotr x n)) ∧ w = w' := by
  have key : ∀ (s : Nat) (hs : n + s = 32) (hn1 : 1 ≤ n) (hs1 : 1 ≤ s), bits .and .u64 (IntKind.u64.wrap m) 31 = (s : Int) := by
    intro s hs _ _
    have h1 : IntKind.u64.wrap m = ((18446744073709551616 - n : Nat) : Int) := by
      rw [IntKind.wrap_u64]; omega
    rw [h1, show (31 : Int) = ((31 : Nat) : Int) from rfl, u64_and_nat _ _ (by omega) (by omega), nat_mask5]
    omega
  obtain ⟨s, hs⟩ : ∃ s, n + s = 32 := ⟨32 - n, by omega⟩
  have hb := key s hs (by omega) (by omega)
  have s1 : 1 ≤ s := by omega
  have s2 : s < 32 := by omega
  clear key hm hn
  go_enter Tryd.func93, Tryd.ntmps93
  go_wp2_with fail
  go_ret
  exact ⟨ret_int (rot_or x n s hx hs), rfl⟩

set_option maxRecDepth 100000 in
set_option maxHeartbeats 400000 in
theorem rotated_any (x a b c : Nat) (ia ib ic : Int) (ea : ia = a) (eb : ib = b) (ec : ic = c) (w : World) (hx : x < 4294967296) (h : (a = 6 ∧ b = 11 ∧ c = 25) ∨ (a = 2 ∧ b = 13 ∧ c = 22)) :
    Calls Tryd.prog 94 #[.int .u32 x, .int .i64 ia, .int .i64 ib, .int .i64 ic] w fun e w' => e = .returned (.int .u32 (rot3 x a b c)) ∧ w = w' := by
  subst ea
  subst eb
  subst ec
  have l1 := rotr_lt (n := a) hx
  have l2 := rotr_lt (n := b) hx
  have l3 := rotr_lt (n := c) hx
  have H := Lib.hid (show bits .xor .u32 (bits .xor .u32 (rotr x a) (rotr x b)) (rotr x c) = ((rot3 x a b c : Nat) : Int) by
    rw [u32_xor_nat _ _ l1 l2, u32_xor_nat _ _ (xor_lt32 l1 l2) l3]; rfl)
  have ha : a = 2 ∨ a = 6 ∨ a = 7 ∨ a = 11 ∨ a = 13 ∨ a = 17 ∨ a = 18 ∨ a = 19 ∨ a = 22 ∨ a = 25 := by omega
  have hb : b = 2 ∨ b = 6 ∨ b = 7 ∨ b = 11 ∨ b = 13 ∨ b = 17 ∨ b = 18 ∨ b = 19 ∨ b = 22 ∨ b = 25 := by omega
  have hc : c = 2 ∨ c = 6 ∨ c = 7 ∨ c = 11 ∨ c = 13 ∨ c = 17 ∨ c = 18 ∨ c = 19 ∨ c = 22 ∨ c = 25 := by omega
  have a9 : a ≤ 40 := by omega
  have b9 : b ≤ 40 := by omega
  have c9 : c ≤ 40 := by omega
  clear h
  have ha := Lib.hid ha
  have hb := Lib.hid hb
  have hc := Lib.hid hc
  go_enter Tryd.func94, Tryd.ntmps94
  go_wp2_with fail
  with_reducible refine (rot_any x a _ rfl _ hx ha.out).mono ?_
  rintro e w1 ⟨rfl, rfl⟩
  go_wp2_with fail
  with_reducible refine (rot_any x b _ rfl _ hx hb.out).mono ?_
  rintro e w1 ⟨rfl, rfl⟩
  go_wp2_with fail
  with_reducible refine (rot_any x c _ rfl _ hx hc.out).mono ?_
  rintro e w1 ⟨rfl, rfl⟩
  go_wp2_with fail
  go_ret
  exact ⟨ret_int H.out, rfl⟩

/-- The slice v reads as the bytes. -/
def Byts (w : World) (v : Value) (bs : List Nat) : Prop :=
  ∃ a cap, v = .slice a bs.length cap ∧ bs.length ≤ cap ∧ bs.length ≤ 17592186044416 ∧ (∀ x ∈ bs, x < 256) ∧
    ∀ k (h : k < bs.length), ∃ b off, a = some ⟨b, off, none⟩ ∧ w.cell? ⟨b, off + k, none⟩ = some (.int .u8 (bs[k] : Nat))

theorem u32_join8' (n c : Nat) (hn : n < 16777216) (hc : c < 256) : bits .or .u32 ((n : Int) * 256) (c : Int) = ((n * 256 + c : Nat) : Int) := by
  have e1 : (n : Int) * 256 = ((n * 256 : Nat) : Int) := by omega
  rw [e1, u32_or_nat _ _ (by omega) (by omega), nat_join 8 (n * 256) c (by omega) hc]

theorem u32_joinI (n : Int) (c : Nat) (h0 : 0 ≤ n) (hn : n < 16777216) (hc : c < 256) : bits .or .u32 (n * 256) (c : Int) = n * 256 + (c : Int) := by
  obtain ⟨m, rfl⟩ := Int.eq_ofNat_of_zero_le h0
  exact (u32_join8' m c (by omega) hc).trans (by omega)
theorem val_u32 {a b : Int} (h : a = b) : Value.int .u32 a = .int .u32 b := by rw [h]

set_option maxRecDepth 100000 in
set_option maxHeartbeats 1000000 in
/-- A word is the first four bytes. -/
theorem word_any (a : Addr) (b off n cap : Nat) (ha : a = ⟨b, off, none⟩) (hn : 4 ≤ n) (hcap : n ≤ cap) (f : Nat → Nat) (hf : ∀ k, f k < 256) (w : World)
    (hc : ∀ k, k < 4 → w.cell? ⟨b, off + k, none⟩ = some (.int .u8 (f k : Nat))) :
    Calls Tryd.prog 92 #[.slice (some a) n cap] w fun e w' => e = .returned (.int .u32 (wd (f 0) (f 1) (f 2) (f 3) : Nat)) ∧ w = w' := by
  subst ha
  have f0 := hf 0
  have f1 := hf 1
  have f2 := hf 2
  have f3 := hf 3
  have c0 := hc 0 (by omega)
  have c1 := hc 1 (by omega)
  have c2 := hc 2 (by omega)
  have c3 := hc 3 (by omega)
  clear hc hf
  rw [Nat.add_zero] at c0
  go_enter Tryd.func92, Tryd.ntmps92
  go_wp2_with fail
  go_loop [2, 8] (fun x i => (i = .int .i64 0 ∧ x = .int .u32 0) ∨ (i = .int .i64 1 ∧ x = .int .u32 (f 0)) ∨ (i = .int .i64 2 ∧ x = .int .u32 (f 0 * 256 + f 1 : Nat)) ∨ (i = .int .i64 3 ∧ x = .int .u32 ((f 0 * 256 + f 1) * 256 + f 2 : Nat)) ∨ (i = .int .i64 4 ∧ x = .int .u32 (wd (f 0) (f 1) (f 2) (f 3) : Nat))) (fun _ i => 4 - (intOf i).toNat)
  case atStart => exact .inl ⟨rfl, rfl⟩
  case round =>
    rcases hrel with ⟨rfl, rfl⟩ | ⟨rfl, rfl⟩ | ⟨rfl, rfl⟩ | ⟨rfl, rfl⟩ | ⟨rfl, rfl⟩
    · go_wp2_with fail
      go_round
      case rel => exact .inr (.inl ⟨rfl, by rw [show (0 : Int) = ((0 : Nat) : Int) from rfl, u32_or_nat _ _ (by omega) (by omega), Nat.zero_or]⟩)
      case measure => simp [intOf]
    · go_wp2_with fail
      go_round
      case rel => exact .inr (.inr (.inl ⟨rfl, val_u32 (by rw [u32_joinI _ _ (by omega) (by omega) f1]; omega)⟩))
      case measure => simp [intOf]
    · go_wp2_with fail
      go_round
      case rel => exact .inr (.inr (.inr (.inl ⟨rfl, val_u32 (by rw [u32_joinI _ _ (by omega) (by omega) f2]; omega)⟩)))
      case measure => simp [intOf]
    · go_wp2_with fail
      go_round
      case rel => exact .inr (.inr (.inr (.inr ⟨rfl, val_u32 (by rw [u32_joinI _ _ (by omega) (by omega) f3]; unfold wd; omega)⟩)))
      case measure => simp [intOf]
    · go_wp2_with fail
      go_ret
      exact ⟨rfl, rfl⟩

end Go.Proofs.YteodnbaogfdjbaaDoor

namespace Go.Proofs.YteodnbaogfdjbaaDoor
open Go.RowKit

theorem cell_other {W : World} {b o b' o' : Nat} {u : Value} (h : b ≠ b' ∨ o ≠ o') : (W.setCell ⟨b, o, none⟩ u).cell? ⟨b', o', none⟩ = W.cell? ⟨b', o', none⟩ := by
  have hne : (⟨b, o, none⟩ : Addr) ≠ ⟨b', o', none⟩ := by
    intro e
    have e1 : b = b' := congrArg Addr.block e
    have e2 : o = o' := congrArg Addr.off e
    rcases h with h | h
    · exact h e1
    · exact h e2
  simp [World.cell?_setCell_other, hne]

/-- The world behind j stores. -/
def putN (w : World) (b off L n : Nat) : Nat → World
  | 0 => w
  | j + 1 => (putN w b off L n j).setCell ⟨b, off + (L - 1 - j), none⟩ (.int .u8 ((n / 2 ^ (8 * j) % 256 : Nat) : Int))
/-- Cells of a block that may be written. -/
structure Room (w : World) (b off L : Nat) : Prop where
  cell : ∀ k, k < L → ∃ v, w.cell? ⟨b, off + k, none⟩ = some v
  free : ∀ k, k < L → w.frozen? ⟨b, off + k, none⟩ = false
theorem putN_frozen (w : World) (b off L n : Nat) (a : Addr) : ∀ j, (putN w b off L n j).frozen? a = w.frozen? a
  | 0 => rfl
  | j + 1 => by rw [putN, World.frozen?_setCell]; exact putN_frozen w b off L n a j
theorem putN_other (w : World) (b off L n : Nat) {b' o : Nat} (h : b' ≠ b ∨ o < off ∨ off + L ≤ o) : ∀ j, j ≤ L → (putN w b off L n j).cell? ⟨b', o, none⟩ = w.cell? ⟨b', o, none⟩
  | 0, _ => rfl
  | j + 1, hj => by
    rw [putN, cell_other]
    · exact putN_other w b off L n h j (by omega)
    · rcases h with h | h | h
      · exact .inl (fun e => h e.symm)
      · exact .inr (by omega)
      · exact .inr (by omega)
theorem putN_old {w : World} {b off L n : Nat} {k : Nat} : ∀ j, j ≤ L → k < L - j → (putN w b off L n j).cell? ⟨b, off + k, none⟩ = w.cell? ⟨b, off + k, none⟩
  | 0, _, _ => rfl
  | j + 1, _, hk => by
    rw [putN, cell_other (.inr (by omega))]
    exact putN_old j (by omega) (by omega)
theorem putN_new {w : World} {b off L n : Nat} (hR : Room w b off L) {k : Nat} (hk : k < L) : ∀ j, j ≤ L → L - j ≤ k → (putN w b off L n j).cell? ⟨b, off + k, none⟩ = some (.int .u8 ((n / 2 ^ (8 * (L - 1 - k)) % 256 : Nat) : Int))
  | 0, _, h => by omega
  | j + 1, hj, h => by
    rw [putN]
    by_cases e : k = L - 1 - j
    · subst e
      rw [show L - 1 - (L - 1 - j) = j by omega]
      obtain ⟨v, hv⟩ := hR.cell (L - 1 - j) hk
      exact World.cell?_setCell_same' _ _ _ (by rw [putN_old j (by omega) (by omega), hv]; rfl)
    · rw [cell_other (.inr (by omega))]
      exact putN_new hR hk j (by omega) (by omega)
theorem putN_below {w0 w : World} {b off L n B : Nat} (h : Below B w0 w) (hb : B ≤ b) : ∀ j, Below B w0 (putN w b off L n j)
  | 0 => h
  | j + 1 => by rw [putN]; exact (putN_below h hb j).setCell hb _

theorem u64_shr_byte (n j : Nat) : IntKind.u8.wrap ((n : Int) / 2 ^ (8 * j)) = ((n / 2 ^ (8 * j) % 256 : Nat) : Int) := by
  rw [IntKind.wrap_u8', Int.natCast_emod, Int.natCast_ediv, Int.natCast_pow]; rfl

set_option maxRecDepth 100000 in
set_option maxHeartbeats 1000000 in
theorem put_any (b off L cap n : Nat) (w : World) (hL : L ≤ 8) (hcap : L ≤ cap) (_hn : n < 18446744073709551616) (hR : Room w b off L) :
    Calls Tryd.prog 78 #[.slice (some ⟨b, off, none⟩) L cap, .int .u64 n] w fun e w' => e = .returned (.tuple #[]) ∧ w' = putN w b off L n L := by
  go_enter Tryd.func78, Tryd.ntmps78
  go_wp2_with fail
  go_loopw [7] (fun i W => ∃ j : Nat, j ≤ L ∧ i = .int .i64 j ∧ W = putN w b off L n j) (fun i _ => L - (intOf i).toNat)
  case atStart => exact ⟨0, Nat.zero_le _, rfl, rfl⟩
  case round =>
    obtain ⟨j, hj, rfl, hW⟩ := hrel
    by_cases hlt : j < L
    · obtain ⟨v, hv⟩ := hR.cell (L - 1 - j) (by omega)
      have hcl : wr.cell? ⟨b, off + (L - 1 - j), none⟩ = some v := by rw [hW, putN_old j hj (by omega)]; exact hv
      have hfr : wr.frozen? ⟨b, off + (L - 1 - j), none⟩ = false := by rw [hW, putN_frozen]; exact hR.free _ (by omega)
      have HW := Lib.hid hW
      clear hW
      have hlL : decide (j < L) = true := decide_eq_true hlt
      have e1 : ((L : Int) - 1 - (j : Int)).toNat = L - 1 - j := by omega
      have e2 : 0 ≤ (L : Int) - 1 - (j : Int) := by omega
      have e3 : (L : Int) - 1 - (j : Int) < L := by omega
      go_wp2_with fail
      go_roundw
      case rel => exact ⟨j + 1, by omega, by go_num, by rw [putN, ← u64_shr_byte n j, IntKind.wrap_u8', HW.out]⟩
      case measure => simp [intOf]; omega
    · obtain rfl : j = L := by omega
      have HW := Lib.hid hW
      clear hW
      go_wp2_with fail
      go_end0
      exact ⟨rfl, HW.out⟩

end Go.Proofs.YteodnbaogfdjbaaDoor

namespace Go.Proofs.YteodnbaogfdjbaaDoor
open Go.RowKit

theorem row_cell {W : World} {b : Nat} {L : Array Value} {t : TypeId} (h : W.heap[b]? = some (.cells L t (0, 0))) {k : Nat} {v : Value} (hk : L[k]? = some v) : W.cell? ⟨b, k, none⟩ = some v := by
  simp [World.cell?, h, hk]
theorem row_free {W : World} {b : Nat} {L : Array Value} {t : TypeId} (h : W.heap[b]? = some (.cells L t (0, 0))) (k : Nat) : W.frozen? ⟨b, k, none⟩ = false := by
  simp [World.frozen?, h]
theorem row_lt {W : World} {b : Nat} {o : Obj} (h : W.heap[b]? = some o) : b < W.heap.size := (Array.getElem?_eq_some_iff.1 h).1
theorem row_set {W : World} {b : Nat} {L : Array Value} {t : TypeId} (h : W.heap[b]? = some (.cells L t (0, 0))) (k : Nat) (v : Value) : (W.setCell ⟨b, k, none⟩ v).heap[b]? = some (.cells (L.setIfInBounds k v) t (0, 0)) := by
  have hlt := row_lt h
  have h' : W.heap[b] = .cells L t (0, 0) := (Array.getElem?_eq_some_iff.1 h).2
  show (W.heap.modify b _)[b]? = _
  rw [Array.getElem?_eq_getElem (by simpa using hlt), Array.getElem_modify_self, h']
  rfl
theorem add_row (b j : Nat) : (⟨b, 0, none⟩ : Addr).add j = ⟨b, j, none⟩ := by
  unfold Addr.add
  by_cases h : j = 0
  · subst h; rfl
  · rw [if_neg h, Nat.zero_add]
theorem add_off (b off j : Nat) : (⟨b, off, none⟩ : Addr).add j = ⟨b, off + j, none⟩ := by
  unfold Addr.add
  by_cases h : j = 0
  · subst h; rfl
  · rw [if_neg h]
theorem own_below {W W' : World} {base size n : Nat} {e : TypeId} {v : Value} {xs : List Value} (h : W.ownsRow base e size v n xs) (hg : W.grownBy W' v.ownBlock) (hb : base ≤ W.heap.size) : Below base W W' :=
  ⟨hg.os, hg.tape, hg.output, hg.size, fun k hk => hg.block k (by omega) (by
    rcases h.2 with ⟨rfl, -⟩ | ⟨g, cap, cur, rfl, hg2, -⟩
    · intro e; cases e
    · intro e; have e2 : k = g := by injection e
      omega)⟩
/-- From W with v to W' with v': but for v's row all is as it was; v' lies in v's row or in new memory. -/
def Onto (W : World) (v : Value) (W' : World) (v' : Value) : Prop := W.grownBy W' v.ownBlock ∧ (v'.ownBlock = v.ownBlock ∨ ∃ g, v'.ownBlock = some g ∧ W.heap.size ≤ g)
theorem Onto.refl (W : World) (v : Value) : Onto W v W v := ⟨World.grownBy.refl _ _, .inl rfl⟩
theorem Onto.trans {A B C : World} {a b c : Value} (h : Onto A a B b) (k : Onto B b C c) : Onto A a C c := by
  obtain ⟨hg, ho⟩ := h
  obtain ⟨kg, ko⟩ := k
  refine ⟨⟨kg.os.trans hg.os, kg.tape.trans hg.tape, kg.output.trans hg.output, Nat.le_trans hg.size kg.size, fun k hk hr => (kg.block k (Nat.lt_of_lt_of_le hk hg.size) ?_).trans (hg.block k hk hr)⟩, ?_⟩
  · rcases ho with ho | ⟨g, ho, hge⟩
    · rw [ho]; exact hr
    · rw [ho]; intro e; injection e with e; omega
  · rcases ko with ko | ⟨g, ko, kge⟩
    · rcases ho with ho | ⟨g, ho, hge⟩
      · exact .inl (ko.trans ho)
      · exact .inr ⟨g, ko.trans ho, hge⟩
    · exact .inr ⟨g, ko, Nat.le_trans hg.size kge⟩
theorem Onto.below {A B : World} (h : Below A.heap.size A B) (v : Value) : Onto A v B v := ⟨⟨h.os, h.tape, h.output, h.size, fun k hk _ => h.block k hk⟩, .inl rfl⟩
/-- What is owned is so in later worlds. -/
theorem own_keep {W W' : World} {base size n : Nat} {e : TypeId} {v : Value} {xs : List Value} (h : W.ownsRow base e size v n xs) (hb : Below W.heap.size W W') : W'.ownsRow base e size v n xs := by
  obtain ⟨h1, h2⟩ := h
  refine ⟨h1, ?_⟩
  rcases h2 with h2 | ⟨g, cap, cur, a, b, c, d⟩
  · exact .inl h2
  · exact .inr ⟨g, cap, cur, a, b, (hb.block g (row_lt c)).trans c, d⟩
theorem own_lt {W : World} {base size n : Nat} {e : TypeId} {v : Value} {xs : List Value} (h : W.ownsRow base e size v n xs) : ∀ g, v.ownBlock = some g → base ≤ g ∧ g < W.heap.size := by
  intro g hg
  rcases h.2 with ⟨rfl, -⟩ | ⟨g', cap, cur, rfl, b, c, -⟩
  · cases hg
  · have : g' = g := by injection hg
    subst this
    exact ⟨b, row_lt c⟩
/-- A block that is not the row's is as it was. -/
theorem onto_far {W W' : World} {v v' : Value} (h : Onto W v W' v') {b : Nat} (hb : b < W.heap.size) (hne : v.ownBlock ≠ some b) (k : Nat) : W'.cell? ⟨b, k, none⟩ = W.cell? ⟨b, k, none⟩ :=
  World.cell?_of_block (w := W) (h.1.block b hb (fun e => hne e.symm))
theorem own_ne {W : World} {base size n : Nat} {e : TypeId} {v : Value} {xs : List Value} (h : W.ownsRow base e size v n xs) {b : Nat} (hb : W.heap.size ≤ b ∨ b < base) : v.ownBlock ≠ some b := fun e2 => by
  have := own_lt h b e2
  omega
theorem own_low {w : World} {base base' size n : Nat} {e : TypeId} {v : Value} {xs : List Value} (h : w.ownsRow base e size v n xs) (hb : base' ≤ base) : w.ownsRow base' e size v n xs := by
  obtain ⟨h1, h2⟩ := h
  refine ⟨h1, ?_⟩
  rcases h2 with h2 | ⟨g, cap, cur, a, c, r⟩
  · exact .inl h2
  · exact .inr ⟨g, cap, cur, a, Nat.le_trans hb c, r⟩
theorem own_keep_set {W : World} {base size n b o : Nat} {e : TypeId} {v : Value} {xs : List Value} (h : W.ownsRow base e size v n xs) (hb : b < base) (u : Value) : (W.setCell ⟨b, o, none⟩ u).ownsRow base e size v n xs := by
  obtain ⟨h1, h2⟩ := h
  refine ⟨h1, ?_⟩
  rcases h2 with h2 | ⟨g, cap, cur, a, c, d, r⟩
  · exact .inl h2
  · exact .inr ⟨g, cap, cur, a, c, (Below.heap_setCell _ _ _ _ (by show g ≠ b; omega)).trans d, r⟩
theorem below_new (w : World) (c : Array Value) (t : TypeId) : Below w.heap.size w (w.alloc (.cells c t)) := (Below.refl _ _).alloc (Nat.le_refl _) _

end Go.Proofs.YteodnbaogfdjbaaDoor
