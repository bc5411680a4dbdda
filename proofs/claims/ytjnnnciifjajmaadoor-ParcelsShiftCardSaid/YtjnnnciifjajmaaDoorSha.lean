/- SHA-256, in plain Lean: words, the schedule of a block, the rounds. -/
namespace Go.Proofs.YtjnnnciifjajmaaDoor

/-- A rotation of a word to the right. -/
def rotr (x n : Nat) : Nat := x * 2 ^ (32 - n) % 4294967296 ||| x / 2 ^ n
theorem or_lt32 {a b : Nat} (ha : a < 4294967296) (hb : b < 4294967296) : a ||| b < 4294967296 := Nat.or_lt_two_pow (n := 32) ha hb
theorem xor_lt32 {a b : Nat} (ha : a < 4294967296) (hb : b < 4294967296) : a ^^^ b < 4294967296 := Nat.xor_lt_two_pow (n := 32) ha hb
theorem and_lt32 {a b : Nat} (ha : a < 4294967296) : a &&& b < 4294967296 := Nat.lt_of_le_of_lt Nat.and_le_left ha
theorem rotr_lt {x n : Nat} (hx : x < 4294967296) : rotr x n < 4294967296 :=
  or_lt32 (Nat.mod_lt _ (by decide)) (Nat.lt_of_le_of_lt (Nat.div_le_self _ _) hx)

/-- Three rotations. -/
def rot3 (x a b c : Nat) : Nat := (rotr x a ^^^ rotr x b) ^^^ rotr x c
theorem rot3_lt {x a b c : Nat} (hx : x < 4294967296) : rot3 x a b c < 4294967296 := xor_lt32 (xor_lt32 (rotr_lt hx) (rotr_lt hx)) (rotr_lt hx)
/-- Two rotations and a shift. -/
def mix (x a b c : Nat) : Nat := (rotr x a ^^^ rotr x b) ^^^ (x / 2 ^ c)
theorem mix_lt {x a b c : Nat} (hx : x < 4294967296) : mix x a b c < 4294967296 := xor_lt32 (xor_lt32 (rotr_lt hx) (rotr_lt hx)) (Nat.lt_of_le_of_lt (Nat.div_le_self _ _) hx)
def add32 (a b : Nat) : Nat := (a + b) % 4294967296
theorem add32_lt (a b : Nat) : add32 a b < 4294967296 := Nat.mod_lt _ (by decide)

/-- Four bytes as a word. -/
def wd (a b c d : Nat) : Nat := ((a * 256 + b) * 256 + c) * 256 + d
theorem wd_lt {a b c d : Nat} (ha : a < 256) (hb : b < 256) (hc : c < 256) (hd : d < 256) : wd a b c d < 4294967296 := by unfold wd; omega

/-- The schedule of a block, given by its bytes. -/
def schd (f : Nat → Nat) (t : Nat) : Nat :=
  if h : t < 16 then wd (f (4 * t)) (f (4 * t + 1)) (f (4 * t + 2)) (f (4 * t + 3))
  else add32 (add32 (add32 (schd f (t - 16)) (mix (schd f (t - 15)) 7 18 3)) (schd f (t - 7))) (mix (schd f (t - 2)) 17 19 10)
termination_by t
theorem schd_small (f : Nat → Nat) {t : Nat} (h : t < 16) : schd f t = wd (f (4 * t)) (f (4 * t + 1)) (f (4 * t + 2)) (f (4 * t + 3)) := by
  rw [schd, dif_pos h]
theorem schd_great (f : Nat → Nat) {t : Nat} (h : 16 ≤ t) : schd f t = add32 (add32 (add32 (schd f (t - 16)) (mix (schd f (t - 15)) 7 18 3)) (schd f (t - 7))) (mix (schd f (t - 2)) 17 19 10) := by
  rw [schd, dif_neg (by omega)]
theorem schd_lt {f : Nat → Nat} (hf : ∀ k, f k < 256) (t : Nat) : schd f t < 4294967296 := by
  by_cases h : t < 16
  · rw [schd_small f h]; exact wd_lt (hf _) (hf _) (hf _) (hf _)
  · rw [schd_great f (by omega)]; exact add32_lt _ _

/-- The state of the rounds: eight words. -/
structure St where
  a : Nat
  b : Nat
  c : Nat
  d : Nat
  e : Nat
  f : Nat
  g : Nat
  h : Nat
def St.at (s : St) : Nat → Nat
  | 0 => s.a
  | 1 => s.b
  | 2 => s.c
  | 3 => s.d
  | 4 => s.e
  | 5 => s.f
  | 6 => s.g
  | _ => s.h
structure St.Ok (s : St) : Prop where
  a : s.a < 4294967296
  b : s.b < 4294967296
  c : s.c < 4294967296
  d : s.d < 4294967296
  e : s.e < 4294967296
  f : s.f < 4294967296
  g : s.g < 4294967296
  h : s.h < 4294967296
def chv (s : St) : Nat := s.g ^^^ (s.e &&& (s.f ^^^ s.g))
def mjv (s : St) : Nat := (s.a &&& s.b) ||| (s.c &&& (s.a ||| s.b))
def t1 (s : St) (k w : Nat) : Nat := add32 (add32 (add32 (add32 s.h (rot3 s.e 6 11 25)) (chv s)) k) w
def t2 (s : St) : Nat := add32 (rot3 s.a 2 13 22) (mjv s)
def St.next (s : St) (k w : Nat) : St := ⟨add32 (t1 s k w) (t2 s), s.a, s.b, s.c, add32 s.d (t1 s k w), s.e, s.f, s.g⟩
theorem St.Ok.next {s : St} (h : s.Ok) (k w : Nat) : (s.next k w).Ok := ⟨add32_lt _ _, h.a, h.b, h.c, add32_lt _ _, h.e, h.f, h.g⟩
theorem chv_lt {s : St} (h : s.Ok) : chv s < 4294967296 := xor_lt32 h.g (and_lt32 h.e)
theorem mjv_lt {s : St} (h : s.Ok) : mjv s < 4294967296 := or_lt32 (and_lt32 h.a) (and_lt32 h.c)
/-- The numbers of the rounds. -/
def kNum : List Nat := [1116352408, 1899447441, 3049323471, 3921009573, 961987163, 1508970993, 2453635748, 2870763221, 3624381080, 310598401, 607225278, 1426881987, 1925078388, 2162078206, 2614888103, 3248222580, 3835390401, 4022224774, 264347078, 604807628, 770255983, 1249150122, 1555081692, 1996064986, 2554220882, 2821834349, 2952996808, 3210313671, 3336571891, 3584528711, 113926993, 338241895, 666307205, 773529912, 1294757372, 1396182291, 1695183700, 1986661051, 2177026350, 2456956037, 2730485921, 2820302411, 3259730800, 3345764771, 3516065817, 3600352804, 4094571909, 275423344, 430227734, 506948616, 659060556, 883997877, 958139571, 1322822218, 1537002063, 1747873779, 1955562222, 2024104815, 2227730452, 2361852424, 2428436474, 2756734187, 3204031479, 3329325298]
def kAt (t : Nat) : Nat := kNum.getD t 0
theorem kNum_all : ∀ x ∈ kNum, x < 4294967296 := by decide
theorem kAt_lt (t : Nat) : kAt t < 4294967296 := by
  unfold kAt
  rw [List.getD_eq_getElem?_getD]
  cases h : kNum[t]? with
  | none => decide
  | some x => exact kNum_all x (List.mem_of_getElem? h)
/-- So many rounds. -/
def St.rounds (s : St) (f : Nat → Nat) : Nat → St
  | 0 => s
  | t + 1 => (s.rounds f t).next (kAt t) (schd f t)
theorem St.Ok.rounds {s : St} (h : s.Ok) (f : Nat → Nat) : ∀ t, (s.rounds f t).Ok
  | 0 => h
  | t + 1 => (h.rounds f t).next _ _
def St.plus (s v : St) : St := ⟨add32 s.a v.a, add32 s.b v.b, add32 s.c v.c, add32 s.d v.d, add32 s.e v.e, add32 s.f v.f, add32 s.g v.g, add32 s.h v.h⟩
theorem St.plus_ok (s v : St) : (s.plus v).Ok := ⟨add32_lt _ _, add32_lt _ _, add32_lt _ _, add32_lt _ _, add32_lt _ _, add32_lt _ _, add32_lt _ _, add32_lt _ _⟩
/-- A block is absorbed. -/
def St.absorb (s : St) (f : Nat → Nat) : St := s.plus (s.rounds f 64)
theorem St.absorb_ok (s : St) (f : Nat → Nat) : (s.absorb f).Ok := St.plus_ok _ _
/-- The state at the start. -/
def st0 : St := ⟨1779033703, 3144134277, 1013904242, 2773480762, 1359893119, 2600822924, 528734635, 1541459225⟩
theorem st0_ok : st0.Ok := ⟨by decide, by decide, by decide, by decide, by decide, by decide, by decide, by decide⟩

/-- The bytes with their end. -/
def be8 (n : Nat) : List Nat := [n / 72057594037927936 % 256, n / 281474976710656 % 256, n / 1099511627776 % 256, n / 4294967296 % 256, n / 16777216 % 256, n / 65536 % 256, n / 256 % 256, n % 256]
def be4 (n : Nat) : List Nat := [n / 16777216 % 256, n / 65536 % 256, n / 256 % 256, n % 256]
def zeros (n : Nat) : List Nat := List.replicate n 0
/-- How many zeros. -/
def padN (n : Nat) : Nat := (119 - n % 64) % 64
def padded (b : List Nat) : List Nat := b ++ (128 :: (zeros (padN b.length) ++ be8 (b.length * 8)))
theorem padded_len (b : List Nat) : (padded b).length % 64 = 0 := by
  unfold padded zeros be8
  rw [List.length_append, List.length_cons, List.length_append, List.length_replicate]
  simp only [List.length_cons, List.length_nil]
  unfold padN; omega
/-- The blocks of a list, from block i on, so many. -/
def blk (p : List Nat) (i : Nat) : Nat → Nat := fun k => p.getD (64 * i + k) 0 % 256
def St.blocks (s : St) (p : List Nat) : Nat → St
  | 0 => s
  | i + 1 => (s.blocks p i).absorb (blk p i)
theorem St.Ok.blocks {s : St} (h : s.Ok) (p : List Nat) : ∀ i, (s.blocks p i).Ok
  | 0 => h
  | _ + 1 => St.absorb_ok _ _
def St.bytes (s : St) : List Nat := be4 s.a ++ be4 s.b ++ be4 s.c ++ be4 s.d ++ be4 s.e ++ be4 s.f ++ be4 s.g ++ be4 s.h
/-- SHA-256. -/
def sha (b : List Nat) : List Nat := (st0.blocks (padded b) ((padded b).length / 64)).bytes
theorem sha_len (b : List Nat) : (sha b).length = 32 := rfl
theorem be4_all (n : Nat) : ∀ x ∈ be4 n, x < 256 := by
  intro x hx
  unfold be4 at hx
  simp only [List.mem_cons, List.not_mem_nil, or_false] at hx
  rcases hx with rfl | rfl | rfl | rfl <;> exact Nat.mod_lt _ (by decide)
theorem sha_all (b : List Nat) : ∀ x ∈ sha b, x < 256 := by
  intro x hx
  unfold sha St.bytes at hx
  simp only [List.mem_append] at hx
  rcases hx with ((((((h | h) | h) | h) | h) | h) | h) | h <;> exact be4_all _ x h
/-- A hash under a tag. -/
def shaTag (t b : List Nat) : List Nat := sha (sha t ++ b)

end Go.Proofs.YtjnnnciifjajmaaDoor
