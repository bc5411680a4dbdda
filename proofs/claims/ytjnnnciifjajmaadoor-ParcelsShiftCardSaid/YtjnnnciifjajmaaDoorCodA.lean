/- Package codec: numbers as numerals. -/
import Derived.Test.YtjnnnciifjajmaaDoorCat
import Derived.Deep.AppendLies
import Derived.Lib.Zigzag
namespace Go.Proofs.YtjnnnciifjajmaaDoor
open Go.RowKit

/-! The bytes of a numeral, and of a list of integers. -/
def num (u : Nat) : List Nat := if h : u < 128 then [u] else (u % 128 + 128) :: num (u / 128)
termination_by u
def zig (n : Int) : Nat := if 0 ≤ n then (2 * n).toNat else (-2 * n - 1).toNat
def encI (n : Int) : List Nat := 1 :: num (zig n)
def encL (zs : List Int) : List Nat := 3 :: (num zs.length ++ zs.flatMap encI)
theorem num_small {u : Nat} (h : u < 128) : num u = [u] := by rw [num, dif_pos h]
theorem num_great {u : Nat} (h : 128 ≤ u) : num u = (u % 128 + 128) :: num (u / 128) := by rw [num, dif_neg (by omega)]
theorem num_all (u : Nat) : ∀ x ∈ num u, x < 256 := by
  induction u using Nat.strongRecOn with
  | ind u ih =>
    by_cases h : u < 128
    · rw [num_small h]; intro x hx; simp at hx; omega
    · rw [num_great (by omega)]
      intro x hx
      rcases List.mem_cons.1 hx with rfl | hx
      · omega
      · exact ih (u / 128) (by omega) x hx
theorem num_len : ∀ (k u : Nat), u < 128 ^ (k + 1) → (num u).length ≤ k + 1
  | 0, u, h => by rw [num_small (by simpa using h)]; simp
  | k + 1, u, h => by
    by_cases h1 : u < 128
    · rw [num_small h1]; simp
    · rw [num_great (by omega), List.length_cons]
      have := num_len k (u / 128) (by rw [Nat.pow_succ] at h; omega)
      omega
theorem num_ten {u : Nat} (h : u < 18446744073709551616) : (num u).length ≤ 10 := num_len 9 u (by omega)
theorem num_pos (u : Nat) : 0 < (num u).length := by rw [num]; split <;> simp
theorem zig_lt {n : Int} (h : R64 n) : zig n < 18446744073709551616 := by unfold zig; obtain ⟨h1, h2⟩ := h; split <;> omega
theorem encI_all (n : Int) : ∀ x ∈ encI n, x < 256 := by
  intro x hx
  rcases List.mem_cons.1 hx with rfl | hx
  · decide
  · exact num_all _ x hx
theorem encI_len {n : Int} (h : R64 n) : (encI n).length ≤ 11 := by unfold encI; rw [List.length_cons]; have := num_ten (zig_lt h); omega
theorem encL_all (zs : List Int) : ∀ x ∈ encL zs, x < 256 := by
  intro x hx
  unfold encL at hx
  rcases List.mem_cons.1 hx with rfl | hx
  · decide
  · rcases List.mem_append.1 hx with hx | hx
    · exact num_all _ x hx
    · obtain ⟨n, -, hn⟩ := List.mem_flatMap.1 hx
      exact encI_all n x hn
theorem flat_len : ∀ (zs : List Int), (∀ z ∈ zs, R64 z) → (zs.flatMap encI).length ≤ 11 * zs.length
  | [], _ => by simp
  | z :: zs, h => by
    rw [List.flatMap_cons, List.length_append, List.length_cons]
    have h1 := encI_len (h z (by simp))
    have h2 := flat_len zs (fun x hx => h x (by simp [hx]))
    omega
theorem encL_len {zs : List Int} (h : ∀ z ∈ zs, R64 z) (hl : zs.length ≤ 1000000) : (encL zs).length ≤ 11 * zs.length + 11 := by
  unfold encL
  rw [List.length_cons, List.length_append]
  have h1 := flat_len zs h
  have h2 := num_ten (u := zs.length) (by omega)
  omega
theorem encL_pos (zs : List Int) : 0 < (encL zs).length := by unfold encL; simp

set_option maxRecDepth 100000 in
set_option maxHeartbeats 400000 in
theorem unsigned_any (n : Int) (w : World) (hn : R64 n) :
    Calls Tryd.prog 87 #[.int .i64 n] w fun e w' => e = .returned (.int .u64 (zig n : Nat)) ∧ w = w' := by
  obtain ⟨h1, h2⟩ := hn
  by_cases h0 : 0 ≤ n
  · have e2 : n / 9223372036854775808 = 0 := by omega
    have H : Hid (bits .xor .u64 (n * 2) 0 = (zig n : Nat)) := Lib.hid (by
      have e : n * 2 = ((zig n : Nat) : Int) := by unfold zig; rw [if_pos h0]; omega
      rw [e, show (0 : Int) = ((0 : Nat) : Int) from rfl, u64_xor_nat _ _ (zig_lt ⟨h1, h2⟩) (by omega), Nat.xor_zero])
    go_enter Tryd.func87, Tryd.ntmps87
    go_wp2_with fail
    go_ret
    exact ⟨ret_int H.out, rfl⟩
  · have e2 : n / 9223372036854775808 = -1 := by omega
    go_enter Tryd.func87, Tryd.ntmps87
    have H : Hid (bits .xor .u64 (IntKind.u64.wrap (IntKind.u64.wrap n * 2)) (IntKind.u64.wrap (-1)) = (zig n : Nat)) := Lib.hid (by
      have e1 : IntKind.u64.wrap (IntKind.u64.wrap n * 2) = ((18446744073709551615 - zig n : Nat) : Int) := by
        have h3 := zig_lt ⟨h1, h2⟩
        have h4 : ((zig n : Nat) : Int) = -2 * n - 1 := by unfold zig; rw [if_neg h0]; omega
        rw [IntKind.wrap_u64, IntKind.wrap_u64]; omega
      have e3 : IntKind.u64.wrap (-1) = ((2 ^ 64 - 1 : Nat) : Int) := by rw [IntKind.wrap_u64]; omega
      have h3 := zig_lt ⟨h1, h2⟩
      rw [e1, e3, u64_xor_nat _ _ (by omega) (by omega), Nat.xor_comm, Lib.xor_ones64 _ (by omega)]
      omega)
    go_wp2_with fail
    go_ret
    exact ⟨ret_int H.out, rfl⟩

/-! Slices that grow. -/
/-- From W with v to W' with v': but for v's row all is as it was; v' lies in v's row or in new memory. -/
def Onto (W : World) (v : Value) (W' : World) (v' : Value) : Prop := W.grownBy W' v.ownBlock ∧ (v'.ownBlock = v.ownBlock ∨ ∃ g, v'.ownBlock = some g ∧ W.heap.size ≤ g)
theorem Onto.refl (W : World) (v : Value) : Onto W v W v := ⟨World.grownBy.refl _ _, .inl rfl⟩
theorem Onto.trans {A B C : World} {a b c : Value} (h : Onto A a B b) (k : Onto B b C c) : Onto A a C c := by
  obtain ⟨hg, ho⟩ := h
  obtain ⟨kg, ko⟩ := k
  refine ⟨⟨kg.os.trans hg.os, kg.tape.trans hg.tape, kg.output.trans hg.output, Nat.le_trans hg.size kg.size, fun k hk hr => (kg.block k (Nat.lt_of_lt_of_le hk hg.size) ?_).trans (hg.block k hk hr)⟩, ?_⟩
  · rcases ho with ho | ⟨g, ho, hge⟩
    · rw [ho]; exact hr
    · rw [ho]; intro e; injection e with e; omega
  · rcases ko with ko | ⟨g, ko, kge⟩
    · rcases ho with ho | ⟨g, ho, hge⟩
      · exact .inl (ko.trans ho)
      · exact .inr ⟨g, ko.trans ho, hge⟩
    · exact .inr ⟨g, ko, Nat.le_trans hg.size kge⟩
theorem Onto.below {A B : World} (h : Below A.heap.size A B) (v : Value) : Onto A v B v := ⟨⟨h.os, h.tape, h.output, h.size, fun k hk _ => h.block k hk⟩, .inl rfl⟩
/-- What is owned is so in later worlds. -/
theorem own_keep {W W' : World} {base size n : Nat} {e : TypeId} {v : Value} {xs : List Value} (h : W.ownsRow base e size v n xs) (hb : Below W.heap.size W W') : W'.ownsRow base e size v n xs := by
  obtain ⟨h1, h2⟩ := h
  refine ⟨h1, ?_⟩
  rcases h2 with h2 | ⟨g, cap, cur, a, b, c, d⟩
  · exact .inl h2
  · exact .inr ⟨g, cap, cur, a, b, (hb.block g (row_lt c)).trans c, d⟩
theorem own_lt {W : World} {base size n : Nat} {e : TypeId} {v : Value} {xs : List Value} (h : W.ownsRow base e size v n xs) : ∀ g, v.ownBlock = some g → base ≤ g ∧ g < W.heap.size := by
  intro g hg
  rcases h.2 with ⟨rfl, -⟩ | ⟨g', cap, cur, rfl, b, c, -⟩
  · cases hg
  · have : g' = g := by injection hg
    subst this
    exact ⟨b, row_lt c⟩
/-- A block that is not the row's is as it was. -/
theorem onto_far {W W' : World} {v v' : Value} (h : Onto W v W' v') {b : Nat} (hb : b < W.heap.size) (hne : v.ownBlock ≠ some b) (k : Nat) : W'.cell? ⟨b, k, none⟩ = W.cell? ⟨b, k, none⟩ :=
  World.cell?_of_block (w := W) (h.1.block b hb (fun e => hne e.symm))
theorem own_ne {W : World} {base size n : Nat} {e : TypeId} {v : Value} {xs : List Value} (h : W.ownsRow base e size v n xs) {b : Nat} (hb : W.heap.size ≤ b ∨ b < base) : v.ownBlock ≠ some b := fun e2 => by
  have := own_lt h b e2
  omega
/-- Below the row's floor nothing turns. -/
theorem onto_below {W W' : World} {v v' : Value} {base size n : Nat} {e : TypeId} {xs : List Value} (h : W.ownsRow base e size v n xs) (ho : Onto W v W' v') (hb : base ≤ W.heap.size) : Below base W W' := own_below h ho.1 hb

set_option maxRecDepth 100000 in
/-- One byte is appended. -/
theorem app_byte {ops : Array Oper} {rest : List Oper} {o : Oper} {a : Act} {Q : Exit → Act → World → Prop} {W : World} (hgd : o.guard = none) (s x : Operand) (ho : o.op = .call { callee := .builtin .append, args := #[s, x], argTypes := #[45, 45] })
    (base : Nat) (v : Value) (xs : List Nat) (n : Nat) (hn0 : xs.length = n) (hs : a.eval s = v) (hown : W.ownsRow base 5 1 v n (xs.map byteV)) (b c y : Nat) (hx : a.eval x = .slice (some ⟨b, 0, none⟩) 1 c) (hcell : W.cell? ⟨b, 0, none⟩ = some (byteV y)) (hn : n ≤ 17592186044416) (hbase : base ≤ W.heap.size)
    (h : ∀ v' w', w'.ownsRow base 5 1 v' (n + 1) ((xs ++ [y]).map byteV) → Onto W v w' v' → wpList Tryd.prog ops Q rest (a.put o.dst v') w') : wpList Tryd.prog ops Q (o :: rest) a W := by
  obtain ⟨i, hi, hzz⟩ := Option.map_eq_some_iff.1 infoB
  simp only [Prod.mk.injEq] at hzz
  obtain ⟨hz, hs1, hb⟩ := hzz
  refine wpList_append_lies _ hgd s x 45 ho base 5 i (.int .u8 0) 1 1 Tryd.underlying45 hi hz hs1 hb rfl (by decide) v n (xs.map byteV) hs hown ⟨b, 0, none⟩ 1 c [byteV y] hx rfl ?_ ?_ (by decide) ?_ ?_ hbase W.heap.size rfl ?_
  · intro j u hu
    cases j with
    | zero => simp at hu; subst hu; rw [add_off]; exact hcell
    | succ j => simp at hu
  · intro u hu; simp at hu; subst hu; rfl
  · unfold maxLen; omega
  · omega
  · intro g cap w' h1 h2 h3 _
    refine h _ w' (by rw [List.map_append]; exact h1) ⟨h2, ?_⟩
    rcases h3 with h3 | h3
    · exact .inl (h3 ▸ rfl)
    · exact .inr ⟨g, rfl, by omega⟩
theorem one_cell (W : World) (v : Value) (t : TypeId) : ∃ W1, W1 = W.alloc (.cells #[v] t) ∧ Below W.heap.size W W1 ∧ W1.cell? ⟨W.heap.size, 0, none⟩ = some v ∧ W1.heap.size = W.heap.size + 1 :=
  ⟨_, rfl, (Below.refl _ _).alloc (Nat.le_refl _) _, row_cell (World.alloc_heap_new W _) rfl, by simp⟩

theorem below_one (W : World) (v : Value) (t : TypeId) : Below W.heap.size W (W.alloc (.cells #[v] t)) := (Below.refl _ _).alloc (Nat.le_refl _) _
theorem new_one (W : World) (v : Value) (t : TypeId) : (W.alloc (.cells #[v] t)).cell? ⟨W.heap.size, 0, none⟩ = some v := row_cell (World.alloc_heap_new W _) rfl
theorem or_128 : ∀ x, x < 256 → x ||| 128 = x % 128 + 128 := by decide +kernel
theorem byte_or (u : Nat) : bits .or .u8 ((u : Int) % 256) 128 = ((u % 128 + 128 : Nat) : Int) := by
  rw [show (u : Int) % 256 = ((u % 256 : Nat) : Int) by omega, show (128 : Int) = ((128 : Nat) : Int) from rfl, u8_or_nat _ _ (by omega) (by omega), or_128 _ (by omega)]
  congr 2
  omega

/-- What a writer of bytes leaves. -/
def Wrote (base : Nat) (w : World) (v : Value) (ys : List Nat) (e : Ending) (w' : World) : Prop := ∃ v', e = .returned v' ∧ w'.ownsRow base 5 1 v' ys.length (ys.map byteV) ∧ Onto w v w' v'

set_option maxRecDepth 100000 in
set_option maxHeartbeats 1000000 in
theorem numeral_any (base : Nat) (v : Value) (xs : List Nat) (u : Nat) (w : World) (hown : w.ownsRow base 5 1 v xs.length (xs.map byteV)) (hbase : base ≤ w.heap.size) (hu : u < 18446744073709551616) (hl : xs.length ≤ 8796093022208) :
    Calls Tryd.prog 86 #[v, .int .u64 u] w (Wrote base w v (xs ++ num u)) := by
  have hten := num_ten hu
  have HU := Lib.hid hu
  clear hu
  have HO := Lib.hid hown
  clear hown
  go_enter Tryd.func86, Tryd.ntmps86
  go_wp2_with fail
  go_loopw [0, 1] (fun b x W => ∃ (ys : List Nat) (t : Nat), x = .int .u64 t ∧ t ≤ u ∧ ys ++ num t = xs ++ num u ∧ W.ownsRow base 5 1 b ys.length (ys.map byteV) ∧ Onto w v W b) (fun _ x _ => (intOf x).toNat)
  case atStart => exact ⟨xs, u, rfl, Nat.le_refl _, rfl, HO.out, Onto.refl _ _⟩
  case round =>
    obtain ⟨ys, t, rfl, htu, hyt, hoy, hon⟩ := hrel
    have hyl : ys.length + (num t).length = xs.length + (num u).length := by rw [← List.length_append, ← List.length_append, hyt]
    have htp := num_pos t
    have HYT := Lib.hid hyt
    have hbr : base ≤ wr.heap.size := Nat.le_trans hbase hon.1.size
    have HOY := Lib.hid hoy
    clear hyt hoy
    by_cases hlt : t < 128
    · have hnt := num_small hlt
      have hge : decide ((t : Int) ≥ 128) = false := decide_eq_false (by omega)
      have HNT := Lib.hid hnt
      clear hnt
      have HK := Lib.hid (own_keep HOY.out (below_one wr (.int .u8 (t : Int)) 5))
      have HC := Lib.hid (new_one wr (.int .u8 (t : Int)) 5)
      have HB := Lib.hid (Nat.le_trans hbr (below_one wr (.int .u8 (t : Int)) 5).size)
      go_wp2_with (refine app_byte rfl _ _ rfl base _ ys _ rfl rfl HK.out wr.heap.size 1 t rfl HC.out (by omega) HB.out ?_; intro v8 w8 h8 o8; have H8 := Lib.hid h8; have O8 := Lib.hid o8; clear h8 o8)
      go_ret
      exact ⟨_, rfl, by have e := HYT.out; rw [HNT.out] at e; rw [← e, List.length_append]; exact H8.out, hon.trans ((Onto.below (below_one wr _ _) _).trans O8.out)⟩
    · have hnt := num_great (u := t) (by omega)
      have hge : decide ((t : Int) ≥ 128) = true := decide_eq_true (by omega)
      have HNT := Lib.hid hnt
      have hyl2 : (num t).length = (num (t / 128)).length + 1 := by rw [hnt, List.length_cons]
      clear hnt
      have HV := Lib.hid (byte_or t)
      have HK := Lib.hid (own_keep HOY.out (below_one wr (.int .u8 (bits .or .u8 ((t : Int) % 256) 128)) 5))
      have HC : Hid ((wr.alloc (.cells #[.int .u8 (bits .or .u8 ((t : Int) % 256) 128)] 5)).cell? ⟨wr.heap.size, 0, none⟩ = some (byteV (t % 128 + 128))) := Lib.hid (by rw [new_one, HV.out]; rfl)
      have HB := Lib.hid (Nat.le_trans hbr (below_one wr (.int .u8 (bits .or .u8 ((t : Int) % 256) 128)) 5).size)
      go_wp2_with (refine app_byte rfl _ _ rfl base _ ys _ rfl rfl HK.out wr.heap.size 1 (t % 128 + 128) rfl HC.out (by omega) HB.out ?_; intro v8 w8 h8 o8; have H8 := Lib.hid h8; have O8 := Lib.hid o8; clear h8 o8)
      go_roundw
      case rel => exact ⟨ys ++ [t % 128 + 128], t / 128, by go_num, by omega, by have e := HYT.out; rw [HNT.out] at e; rw [← e, List.append_assoc]; rfl, by rw [List.length_append]; exact H8.out, hon.trans ((Onto.below (below_one wr _ _) _).trans O8.out)⟩
      case measure => simp [intOf]; omega

end Go.Proofs.YtjnnnciifjajmaaDoor
