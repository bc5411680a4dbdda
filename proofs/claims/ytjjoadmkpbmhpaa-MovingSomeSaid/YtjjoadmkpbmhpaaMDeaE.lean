/- Package dealing: shares as lists; appends; slices.Concat of a number and a list. slices.Concat of a number and a list; what a right program is; what is dealt, in plain Lean. The field of the numbers modulo the prime 2147483579: an element's inverse is its power. -/
import Derived.Test.YtjjoadmkpbmhpaaMDeaC
import Derived.Deep.AppendLies
import Derived.Lib.AppendZeros
namespace Go.Proofs.Ytjjoadmkpbmhpaa
open Go.RowKit

/-- The cells of a share. -/
def shaC (p : Int × Int) : List Value := [.int .i64 p.1, .int .i64 p.2]
/-- The slice v reads as shares. -/
def Shares (w : World) (v : Value) (l : List (Int × Int)) : Prop :=
  ∃ a cap, v = .slice a l.length cap ∧ l.length ≤ cap ∧ l.length ≤ 17592186044416 ∧ (∀ p ∈ l, R64 p.1 ∧ R64 p.2) ∧
    ∀ k (h : k < l.length), ∃ b off, a = some ⟨b, off, none⟩ ∧ w.cell? ⟨b, off + k * 2, none⟩ = some (.int .i64 l[k].1) ∧ w.cell? ⟨b, off + k * 2 + 1, none⟩ = some (.int .i64 l[k].2)
theorem Shares.below {w w' : World} {v : Value} {l : List (Int × Int)} (h : Shares w v l) (hb : Below w.heap.size w w') : Shares w' v l := by
  obtain ⟨a, cap, rfl, hc, hl, hr, hk⟩ := h
  refine ⟨a, cap, rfl, hc, hl, hr, fun k hlt => ?_⟩
  obtain ⟨b, off, ha, h1, h2⟩ := hk k hlt
  exact ⟨b, off, ha, below_cell hb h1, below_cell hb h2⟩
theorem Shares.nil (w : World) (a : Option Addr) (cap : Nat) : Shares w (.slice a 0 cap) [] :=
  ⟨a, cap, rfl, Nat.zero_le _, by simp, by simp, fun k h => absurd h (Nat.not_lt_zero _)⟩
theorem sflat_at : ∀ (l : List (Int × Int)) (k j : Nat) (hk : k < l.length), j < 2 → (l.flatMap shaC)[k * 2 + j]? = (shaC l[k])[j]?
  | [], k, _, hk, _ => absurd hk (Nat.not_lt_zero k)
  | z :: l, 0, j, _, hj => by
    rw [List.flatMap_cons, Nat.zero_mul, Nat.zero_add, List.getElem?_append_left (by show j < 2; exact hj)]; rfl
  | z :: l, k + 1, j, hk, hj => by
    rw [List.flatMap_cons, List.getElem?_append_right (by show 2 ≤ _; omega)]
    have e : (k + 1) * 2 + j - (shaC z).length = k * 2 + j := by show (k + 1) * 2 + j - 2 = _; omega
    rw [e, sflat_at l k j (by simpa using hk) hj]; rfl
theorem sflat_size (l : List (Int × Int)) : (l.flatMap shaC).length = l.length * 2 := by
  induction l with
  | nil => rfl
  | cons z l ih => rw [List.flatMap_cons, List.length_append, ih, List.length_cons]; show 2 + _ = _; omega
theorem sflat_snoc (l : List (Int × Int)) (z : Int × Int) : (l ++ [z]).flatMap shaC = l.flatMap shaC ++ shaC z := by rw [List.flatMap_append]; simp
theorem Shares.own {w : World} {base n : Nat} {v : Value} {l : List (Int × Int)} (h : w.ownsRow base 35 2 v n (l.flatMap shaC)) (hr : ∀ p ∈ l, R64 p.1 ∧ R64 p.2) (hl : l.length ≤ 1000000) : Shares w v l := by
  obtain ⟨hn, h⟩ := h
  rw [sflat_size] at hn
  obtain rfl : n = l.length := by omega
  rcases h with ⟨rfl, h0⟩ | ⟨g, cap, cur, rfl, -, hg, hnc, -, hcs, hcur⟩
  · exact ⟨none, 0, by rw [h0], by omega, by omega, hr, fun k hk => absurd hk (by omega)⟩
  · refine ⟨some ⟨g, 0, none⟩, cap, rfl, hnc, by omega, hr, fun k hk => ⟨g, 0, rfl, ?_⟩⟩
    have e : ∀ j, j < 2 → cur[k * 2 + j]? = (shaC l[k])[j]? := fun j hj => by
      have e2 : (cur.toList.take (l.length * 2))[k * 2 + j]? = (shaC l[k])[j]? := by rw [hcur, sflat_at l k j hk hj]
      rw [List.getElem?_take, if_pos (by omega)] at e2
      rw [← Array.getElem?_toList]; exact e2
    rw [Nat.zero_add]
    exact ⟨row_cell hg (e 0 (by omega)), row_cell hg (e 1 (by omega))⟩

set_option maxRecDepth 100000 in
theorem infoS : (Try.prog.info? 35).map (fun i => (i.zero.map (·.cells.size), i.size, i.bytes)) = some (some 2, 2, 16) := by kernel_rfl
set_option maxRecDepth 100000 in
/-- One share is appended. -/
theorem app_share {ops : Array Oper} {rest : List Oper} {o : Oper} {a : Act} {Q : Exit → Act → World → Prop} {W : World} (hgd : o.guard = none) (s x : Operand) (ho : o.op = .call { callee := .builtin .append, args := #[s, x], argTypes := #[31, 31] })
    (base : Nat) (v : Value) (l : List (Int × Int)) (n : Nat) (hs : a.eval s = v) (hown : W.ownsRow base 35 2 v n (l.flatMap shaC)) (b off c : Nat) (z : Int × Int) (hx : a.eval x = .slice (some ⟨b, off, none⟩) 1 c) (h0 : W.cell? ⟨b, off, none⟩ = some (.int .i64 z.1)) (h1 : W.cell? ⟨b, off + 1, none⟩ = some (.int .i64 z.2)) (hn : n ≤ 1000000) (hbase : base ≤ W.heap.size)
    (h : ∀ g cap w', w'.ownsRow base 35 2 (.slice (some ⟨g, 0, none⟩) (n + 1) cap) (n + 1) ((l ++ [z]).flatMap shaC) → Onto W v w' (.slice (some ⟨g, 0, none⟩) (n + 1) cap) → wpList Try.prog ops Q rest (a.put o.dst (.slice (some ⟨g, 0, none⟩) (n + 1) cap)) w') : wpList Try.prog ops Q (o :: rest) a W := by
  obtain ⟨i, hi, hzz⟩ := Option.map_eq_some_iff.1 infoS
  simp only [Prod.mk.injEq] at hzz
  obtain ⟨hz, hs1, hb⟩ := hzz
  obtain ⟨zv, hzv, hzs⟩ := Option.map_eq_some_iff.1 hz
  refine wpList_append_lies _ hgd s x 31 ho base 35 i zv 2 16 Try.underlying31 hi hzv hs1 hb hzs (by decide) v n (l.flatMap shaC) hs hown ⟨b, off, none⟩ 1 c (shaC z) hx rfl ?_ ?_ (by decide) ?_ ?_ hbase W.heap.size rfl ?_
  · intro j u hu
    rw [add_off]
    match j with
    | 0 => simp [shaC] at hu; rw [← hu]; exact h0
    | 1 => simp [shaC] at hu; rw [← hu]; exact h1
    | n + 2 => simp [shaC] at hu
  · intro u hu
    simp only [shaC, List.mem_cons, List.not_mem_nil, or_false] at hu
    rcases hu with rfl | rfl <;> rfl
  · unfold maxLen; omega
  · omega
  · intro g cap w' h1 h2 h3 _
    refine h g cap w' (by rw [sflat_snoc]; exact h1) ⟨h2, ?_⟩
    rcases h3 with h3 | h3
    · exact .inl (h3 ▸ rfl)
    · exact .inr ⟨g, rfl, by omega⟩

set_option maxRecDepth 100000 in
/-- Any integers are appended to a row of the call's own that is not nil. -/
theorem app_ints_any {ops : Array Oper} {rest : List Oper} {o : Oper} {a : Act} {Q : Exit → Act → World → Prop} {W : World} (hgd : o.guard = none) (s x : Operand) (ho : o.op = .call { callee := .builtin .append, args := #[s, x], argTypes := #[23, 23] })
    (base g n cap : Nat) (xs : List Value) (hs : a.eval s = .slice (some ⟨g, 0, none⟩) n cap) (hown : W.ownsRow base 3 1 (.slice (some ⟨g, 0, none⟩) n cap) n xs) (u : Value) (zs : List Int) (hx : a.eval x = u) (hI : Ints W u zs) (hn : n + zs.length ≤ 17592186044416) (hcap : n ≤ cap) (hbase : base ≤ W.heap.size)
    (h : ∀ v' w', w'.ownsRow base 3 1 v' (n + zs.length) (xs ++ zs.map (Value.int .i64)) → Below base W w' → wpList Try.prog ops Q rest (a.put o.dst v') w') : wpList Try.prog ops Q (o :: rest) a W := by
  obtain ⟨ad, c, rfl, hc, hl, hr, hk⟩ := hI
  cases ad with
  | none =>
    have h0 : zs = [] := by
      cases zs with
      | nil => rfl
      | cons z l => obtain ⟨b, off, e, -⟩ := hk 0 (by simp); cases e
    subst h0
    obtain ⟨i0, hi0, hz0, hz1, hz2⟩ := info_parts infoInt
    have hsrc : Src Try.prog i0.size 23 (.slice none 0 c) 0 [] W := Src.ofNil W Try.underlying23 c
    have hrun := run_append_room_src (P := Try.prog) W 23 23 o.type 3 i0 Try.underlying23 hi0 g 0 n cap (.slice none 0 c) 0 [] hsrc (by omega) (fun j hj => absurd hj (Nat.not_lt_zero _)) (fun j hj => absurd hj (Nat.not_lt_zero _))
    refine wpList_app_run hgd s x 23 ho _ _ _ hs hx hrun ?_
    refine h _ _ ?_ ?_
    · simpa [World.setCells] using hown
    · simpa [World.setCells] using Below.refl base W
  | some ad =>
    refine app_ints hgd s x ho base n _ xs hs hown ad c zs hx ?_ hn hbase ?_
    · intro j hj
      obtain ⟨b, off, e, hcell⟩ := hk j hj
      injection e with e
      subst e
      rw [add_off]; exact hcell
    · intro v' w' h1 h2
      exact h v' w' h1 (own_below hown h2 hbase)

/-- A row of the call's own reads as integers. -/
theorem Ints.own {w : World} {base n : Nat} {v : Value} {zs : List Int} (h : w.ownsRow base 3 1 v n (zs.map (Value.int .i64))) (hr : ∀ z ∈ zs, R64 z) (hl : zs.length ≤ 17592186044416) : Ints w v zs := by
  obtain ⟨hn, h⟩ := h
  rw [List.length_map, Nat.mul_one] at hn
  rcases h with ⟨rfl, rfl⟩ | ⟨g, cap, cur, rfl, -, hg, hnc, -, hcs, hcur⟩
  · exact ⟨none, 0, by rw [hn], by omega, hl, hr, fun k hk => absurd hk (by omega)⟩
  · subst hn
    refine ⟨some ⟨g, 0, none⟩, cap, rfl, hnc, hl, hr, fun k hk => ⟨g, 0, rfl, ?_⟩⟩
    rw [Nat.zero_add]
    have e : cur.toList[k]? = some (Value.int .i64 zs[k]) := by
      have e2 : (cur.toList.take (zs.length * 1))[k]? = some (Value.int .i64 zs[k]) := by rw [hcur, List.getElem?_map, List.getElem?_eq_getElem hk]; rfl
      rwa [List.getElem?_take, if_pos (by omega)] at e2
    exact row_cell hg (by rw [← Array.getElem?_toList]; exact e)

end Go.Proofs.Ytjjoadmkpbmhpaa

namespace Go.Proofs.Ytjjoadmkpbmhpaa
open Go.RowKit

set_option maxRecDepth 100000 in
theorem igrow_made (n : Nat) (h0 : 0 < n) (hn : n ≤ 35184372088832) (w : World) : ∃ c w', (Builtin.append_ #[23, 3] 23 #[.slice none 0 0, .int .i64 n]).run Try.prog w = .ok (.slice (some ⟨w.heap.size, 0, none⟩) n c) w' ∧ n ≤ c ∧
    w'.ownsRow w.heap.size 3 1 (.slice (some ⟨w.heap.size, 0, none⟩) 0 c) 0 [] ∧ Below w.heap.size w w' ∧ w.heap.size < w'.heap.size := by
  obtain ⟨i, hi, hz, hs, hb⟩ := info_parts infoInt
  have h := Lib.run_append_nil_zeros (P := Try.prog) w 23 3 23 3 i (.int .i64 0) .i64 .i64 Try.underlying23 Try.underlying3 hi hz n h0 (by omega) (by omega) (by rw [hb]; omega)
  have hc := grownCap_ge w n 0 3
  have hc2 := grownCap_le_maxLen w n 0 3 (by unfold maxLen; omega)
  refine ⟨_, _, h, hc, ⟨rfl, .inr ⟨_, _, _, rfl, Nat.le_refl _, World.alloc_heap_new w.drew _, Nat.zero_le _, hc2, ?_, by simp⟩⟩, ((Below.refl _ _).drew).alloc (Nat.le_refl _) _, by simp⟩
  rw [Array.size_append, size_zeroCells, size_zeroCells]
  show n * 1 + (grownCap w n 0 3 - n) * 1 = _
  omega
def IGrown (n : Nat) (w : World) (e : Ending) (w' : World) : Prop := ∃ c, e = .returned (.slice (some ⟨w.heap.size, 0, none⟩) 0 c) ∧ n ≤ c ∧ w'.ownsRow w.heap.size 3 1 (.slice (some ⟨w.heap.size, 0, none⟩) 0 c) 0 [] ∧ Below w.heap.size w w' ∧ w.heap.size < w'.heap.size
set_option maxRecDepth 100000 in
set_option maxHeartbeats 400000 in
theorem igrow_int (n : Nat) (m : Int) (hm : (n : Int) = m) (h0 : 0 < n) (hn : n ≤ 35184372088832) (w : World) :
    Calls Try.prog 63 #[.slice none 0 0, .int .i64 m] w (IGrown n w) := by
  subst hm
  obtain ⟨c, w', hr, hc, ho, hb, hz⟩ := igrow_made n h0 hn w
  have h1 : ¬ ((n : Int) < 0) := by omega
  have h2 : decide ((n : Int) > 0) = true := decide_eq_true (by omega)
  have HP : Hid (IGrown n w (.returned (.slice (some ⟨w.heap.size, 0, none⟩) 0 c)) w') := Lib.hid ⟨c, rfl, hc, ho, hb, hz⟩
  have HR := Lib.hid hr
  clear hr ho
  go_enter Try.func63, Try.ntmps63
  go_wp2_with (at_builtin; refine Lib.wpList_append_run _ rfl _ _ _ _ rfl _ _ rfl rfl _ _ HR.out ?_)
  go_ret
  exact HP.out

theorem own_some {W : World} {base n : Nat} {e : TypeId} {v : Value} {x : Value} {xs : List Value} (h : W.ownsRow base e 1 v n (x :: xs)) : ∃ g cap, v = .slice (some ⟨g, 0, none⟩) n cap ∧ n ≤ cap := by
  rcases h.2 with ⟨-, h0⟩ | ⟨g, cap, cur, rfl, -, -, hn, -⟩
  · have := h.1; rw [h0] at this; simp at this
  · exact ⟨g, cap, rfl, hn⟩

set_option maxRecDepth 100000 in
set_option maxHeartbeats 2000000 in
theorem iconcat_any (sb : Nat) (v1 v2 : Value) (x : Int) (l : List Int) (w : World) (h1 : Ints w v1 [x]) (h2 : Ints w v2 l) (hl : l.length ≤ 1000000) (c0 : w.cell? ⟨sb, 0, none⟩ = some v1) (c1 : w.cell? ⟨sb, 1, none⟩ = some v2) :
    Calls Try.prog 31 #[.slice (some ⟨sb, 0, none⟩) 2 2] w fun e w' => ∃ v', e = .returned v' ∧ Ints w' v' (x :: l) ∧ Below w.heap.size w w' := by
  obtain ⟨a1, k1, e1, -⟩ := id h1
  obtain ⟨a2, k2, e2, -⟩ := id h2
  subst e1
  subst e2
  have H1 := Lib.hid h1
  have H2 := Lib.hid h2
  have HX : Hid (∀ z ∈ x :: l, R64 z) := Lib.hid (by
    obtain ⟨_, _, _, _, _, r1, _⟩ := h1
    obtain ⟨_, _, _, _, _, r2, _⟩ := h2
    intro z hz
    rcases List.mem_cons.1 hz with rfl | hz
    · exact r1 z (by simp)
    · exact r2 z hz)
  clear h1 h2
  have p1 : 0 ≤ (1 : Int) + (l.length : Int) := by omega
  have p2 : ¬ ((1 : Int) + (l.length : Int) < 0) := by omega
  go_enter Try.func31, Try.ntmps31
  go_wp2_with fail
  go_loop [3, 11] (fun s i => (i = .int .i64 0 ∧ s = .int .i64 0) ∨ (i = .int .i64 1 ∧ s = .int .i64 1) ∨ (i = .int .i64 2 ∧ s = .int .i64 (1 + l.length : Nat))) (fun _ i => 2 - (intOf i).toNat)
  case atStart => exact .inl ⟨rfl, rfl⟩
  case round =>
    rcases hrel with ⟨rfl, rfl⟩ | ⟨rfl, rfl⟩ | ⟨rfl, rfl⟩
    · go_wp2_with fail
      go_round
      case rel => exact .inr (.inl ⟨rfl, by go_num⟩)
      case measure => simp [intOf]
    · go_wp2_with fail
      go_round
      case rel => exact .inr (.inr ⟨rfl, by go_num⟩)
      case measure => simp [intOf]
    · go_wp2_with fail
      with_reducible refine (igrow_int (1 + l.length) (1 + (l.length : Int)) (by omega) (by omega) (by omega) _).mono ?_
      rintro e w1 ⟨c, rfl, hcc, ho, hb, hz⟩
      have c0' := below_cell hb c0
      have c1' := below_cell hb c1
      have HO := Lib.hid ho
      have C0 := Lib.hid c0
      have C1 := Lib.hid c1
      clear ho c0 c1
      go_wp2_with fail
      go_loopw [6, 27] (fun v i W => Below w.heap.size w W ∧ w.heap.size < W.heap.size ∧ ((i = .int .i64 0 ∧ v = .slice (some ⟨w.heap.size, 0, none⟩) 0 c ∧ W.ownsRow w.heap.size 3 1 (.slice (some ⟨w.heap.size, 0, none⟩) 0 c) 0 []) ∨ (i = .int .i64 1 ∧ ∃ g cap, v = .slice (some ⟨g, 0, none⟩) 1 cap ∧ 1 ≤ cap ∧ W.ownsRow w.heap.size 3 1 (.slice (some ⟨g, 0, none⟩) 1 cap) 1 [.int .i64 x]) ∨ (i = .int .i64 2 ∧ W.ownsRow w.heap.size 3 1 v (1 + l.length) ((x :: l).map (Value.int .i64))))) (fun _ i _ => 2 - (intOf i).toNat)
      case atStart => exact ⟨hb, hz, .inl ⟨rfl, rfl, HO.out⟩⟩
      case round =>
        clear c0' c1' hb hz
        obtain ⟨hb, hz, hr⟩ := hrel
        rcases hr with ⟨rfl, rfl, hr⟩ | ⟨rfl, g, cap, rfl, hcap, hr⟩ | ⟨rfl, hr⟩
        · have q := below_cell hb C0.out
          have HB := Lib.hid (H1.out.below hb)
          have HR := Lib.hid hr
          clear hr
          go_wp2_with (refine app_ints_any rfl _ _ rfl w.heap.size w.heap.size 0 c [] rfl HR.out _ [x] rfl HB.out (by simp) (Nat.zero_le _) (by omega) ?_; intro v8 w8 hown8 hbl8; have HOW := Lib.hid hown8; have HG := Lib.hid hbl8; clear hown8 hbl8)
          obtain ⟨g8, cap8, rfl, hc8⟩ := own_some (x := .int .i64 x) (xs := []) HOW.out
          go_roundw
          case rel => exact ⟨hb.trans HG.out, Nat.lt_of_lt_of_le hz HG.out.size, .inr (.inl ⟨rfl, _, _, rfl, hc8, HOW.out⟩)⟩
          case measure => simp [intOf]
        · have q := below_cell hb C1.out
          have HB := Lib.hid (H2.out.below hb)
          have HR := Lib.hid hr
          clear hr
          go_wp2_with (refine app_ints_any rfl _ _ rfl w.heap.size g 1 cap _ rfl HR.out _ l rfl HB.out (by omega) hcap (by omega) ?_; intro v8 w8 hown8 hbl8; have HOW := Lib.hid hown8; have HG := Lib.hid hbl8; clear hown8 hbl8)
          go_roundw
          case rel => exact ⟨hb.trans HG.out, Nat.lt_of_lt_of_le hz HG.out.size, .inr (.inr ⟨rfl, HOW.out⟩)⟩
          case measure => simp [intOf]
        · have HP := Lib.hid (Ints.own (zs := x :: l) hr HX.out (by simp; omega))
          clear hr
          go_wp2_with fail
          go_ret
          exact ⟨_, rfl, HP.out, hb⟩

/-- What a right program is. -/
structure ProgOK (rows : List (List Int)) (owners : List Int) : Prop where
  few : rows.length ≤ 64
  len : rows.length = owners.length
  right : Right rows (wide rows)
  pos : rows ≠ [] → 1 ≤ wide rows
  own : ∀ o ∈ owners, 0 ≤ o ∧ o ≤ 63
theorem rowBad_false {m : Nat} {r : List Int} {o : Int} (h : rowBad m r o = false) : r.length ≠ 0 ∧ r.length = m ∧ (0 ≤ o ∧ o ≤ 63) ∧ ∀ z ∈ r, 0 ≤ z ∧ z < 1073741789 := by
  unfold rowBad at h
  simp only [Bool.or_eq_false_iff, decide_eq_false_iff_not, Bool.not_eq_false'] at h
  obtain ⟨h0, h1, h2, h3⟩ := h
  refine ⟨h0, by simpa using h1, inB_iff.1 h2, fun z hz => oddQ_num ?_⟩
  cases e : oddQ z with
  | false => rfl
  | true => rw [any_of_mem hz e] at h3; cases h3
where any_of_mem {l : List Int} {z : Int} (hz : z ∈ l) (e : oddQ z = true) : l.any oddQ = true := List.any_eq_true.2 ⟨z, hz, e⟩
theorem progE_ok {rows : List (List Int)} {owners : List Int} (h : progE rows owners = 0) : ProgOK rows owners := by
  unfold progE at h
  split at h
  · cases h
  · rename_i h1
    split at h
    · cases h
    · rename_i h2
      split at h
      · cases h
      · rename_i h3
        have hlen : rows.length = owners.length := by omega
        have hfew : rows.length ≤ 64 := by
          by_cases hh : 64 < rows.length
          · exact absurd (.inl hh) h1
          · omega
        have hk : ∀ k (hk : k < rows.length), rowBad (wide rows) rows[k] (owners[k]'(by omega)) = false := fun k hk => by
          cases e : rowBad (wide rows) rows[k] (owners[k]'(by omega)) with
          | false => rfl
          | true =>
            have hz : k < (rows.zip owners).length := by simp; omega
            exact absurd (List.any_eq_true.2 ⟨(rows.zip owners)[k], List.getElem_mem hz, by rw [zip_at hlen hk]; exact e⟩) h3
        have hs : ∀ r ∈ rows, r.length ≤ 64 := fun r hr => by
          by_cases hl : 64 < r.length
          · exact absurd (.inr (List.any_eq_true.2 ⟨r, hr, by simpa [longR] using hl⟩)) h1
          · omega
        refine ⟨hfew, hlen, ⟨hfew, ?_, ?_, ?_⟩, ?_, ?_⟩
        · cases rows with
          | nil => exact .inr rfl
          | cons r l => exact .inl (hs r (by simp))
        · intro r hr
          obtain ⟨k, hk1, rfl⟩ := List.mem_iff_getElem.1 hr
          exact (rowBad_false (hk k hk1)).2.1
        · intro r hr
          obtain ⟨k, hk1, rfl⟩ := List.mem_iff_getElem.1 hr
          exact (rowBad_false (hk k hk1)).2.2.2
        · intro hne
          have hk1 : 0 < rows.length := List.length_pos_iff.2 hne
          have := rowBad_false (hk 0 hk1)
          omega
        · intro o ho
          obtain ⟨k, hk1, rfl⟩ := List.mem_iff_getElem.1 ho
          exact (rowBad_false (hk k (by omega))).2.2.1
theorem ProgOK.cols {rows : List (List Int)} {owners : List Int} (h : ProgOK rows owners) : 1 ≤ colsQ rows := by
  unfold colsQ; split
  · omega
  · rename_i h0; exact h.pos (fun e => h0 (by rw [e]; rfl))
theorem ProgOK.row {rows : List (List Int)} {owners : List Int} (h : ProgOK rows owners) {k : Nat} (hk : k < rows.length) : rows[k].length = colsQ rows := by
  unfold colsQ; rw [if_neg (by omega)]; exact h.right.len _ (List.getElem_mem hk)

end Go.Proofs.Ytjjoadmkpbmhpaa

namespace Go.Proofs.Ytjjoadmkpbmhpaa.FP

abbrev Fp := Fin 2147483579

def cp (z : Int) : Fp := ⟨(z % 2147483579).toNat, by omega⟩

theorem cp_val (z : Int) : ((cp z).val : Int) = z % 2147483579 := by
  show (((z % 2147483579).toNat : Nat) : Int) = _; omega
theorem fq_ext {a b : Fp} (h : (a.val : Int) = b.val) : a = b := Fin.ext (by omega)
theorem fq_add_val (a b : Fp) : ((a + b).val : Int) = ((a.val : Int) + b.val) % 2147483579 := by
  rw [Fin.val_add]; omega
theorem fq_mul_val (a b : Fp) : ((a * b).val : Int) = ((a.val : Int) * b.val) % 2147483579 := by
  rw [Fin.val_mul]; simp
theorem fq_neg_val (a : Fp) : ((-a).val : Int) = (-(a.val : Int)) % 2147483579 := by
  have h := a.isLt
  rw [Fin.val_neg']; omega
theorem cp_add (a b : Int) : cp (a + b) = cp a + cp b := by
  apply fq_ext; rw [fq_add_val, cp_val, cp_val, cp_val]; omega
theorem cp_mul (a b : Int) : cp (a * b) = cp a * cp b := by
  apply fq_ext; rw [fq_mul_val, cp_val, cp_val, cp_val]; exact Int.mul_emod a b _
theorem cp_mod (a : Int) : cp (a % 2147483579) = cp a := by
  apply fq_ext; rw [cp_val, cp_val]; omega
theorem cp_0 : cp 0 = 0 := by decide +kernel
theorem cp_1 : cp 1 = 1 := by decide +kernel
theorem cp_zero {a : Int} : cp a = 0 ↔ a % 2147483579 = 0 := by
  constructor
  · intro h
    have := cp_val a
    rw [h] at this; exact this.symm
  · intro h; apply fq_ext; rw [cp_val, h]; rfl
theorem cp_inj {a b : Int} (ha : 0 ≤ a ∧ a < 2147483579) (hb : 0 ≤ b ∧ b < 2147483579) (h : cp a = cp b) : a = b := by
  have h1 := cp_val a
  have h2 := cp_val b
  rw [h] at h1; omega
theorem cp_lift (a : Fp) : cp (a.val : Int) = a := by
  apply fq_ext; rw [cp_val]; have := a.isLt; omega

/-! The number is prime. -/
def chkQ : Nat → Nat → Bool
  | 0, d => 2147483579 % d != 0
  | k + 1, d => chkQ k d && chkQ k (d + 2 ^ k)
theorem chkQ_sound : ∀ (k d : Nat), chkQ k d = true → ∀ e, d ≤ e → e < d + 2 ^ k → 2147483579 % e ≠ 0
  | 0, d, h, e, h1, h2 => by
    obtain rfl : e = d := by simp at h2; omega
    simpa [chkQ] using h
  | k + 1, d, h, e, h1, h2 => by
    simp only [chkQ, Bool.and_eq_true] at h
    by_cases hlt : e < d + 2 ^ k
    · exact chkQ_sound k d h.1 e h1 hlt
    · exact chkQ_sound k (d + 2 ^ k) h.2 e (by omega) (by rw [Nat.pow_succ] at h2; omega)
theorem chkQ_all : chkQ 16 2 = true := by decide +kernel
theorem prime_small {d : Nat} (h : d ∣ 2147483579) (hd : d ≤ 65537) : d = 1 := by
  by_cases h1 : d = 1
  · exact h1
  · by_cases h0 : d = 0
    · subst h0; simp at h
    · exact absurd (Nat.mod_eq_zero_of_dvd h) (chkQ_sound 16 2 chkQ_all d (by omega) (by omega))
theorem prime_div {d : Nat} (h : d ∣ 2147483579) : d = 1 ∨ d = 2147483579 := by
  by_cases hd : d ≤ 65537
  · exact .inl (prime_small h hd)
  · obtain ⟨e, he⟩ := h
    have hle : e ≤ 65537 := by
      by_cases hc : e ≤ 65537
      · exact hc
      · have := Nat.mul_le_mul (show 65538 ≤ d by omega) (show 65538 ≤ e by omega); omega
    have := prime_small ⟨d, by rw [Nat.mul_comm]; exact he⟩ hle
    rw [this] at he; right; omega
theorem prime_cop {a : Nat} (h : ¬ 2147483579 ∣ a) : Nat.Coprime 2147483579 a := by
  rcases prime_div (Nat.gcd_dvd_left 2147483579 a) with h1 | h1
  · exact h1
  · exact absurd (h1 ▸ Nat.gcd_dvd_right 2147483579 a) h
theorem prime_euclid {a b : Nat} (h : 2147483579 ∣ a * b) (ha : ¬ 2147483579 ∣ a) : 2147483579 ∣ b :=
  (prime_cop ha).dvd_of_dvd_mul_left h
theorem fq_mul_zero {a b : Fp} (h : a * b = 0) : a = 0 ∨ b = 0 := by
  have h' : (a * b).val = 0 := by rw [h]; rfl
  rw [Fin.val_mul] at h'
  by_cases ha : 2147483579 ∣ a.val
  · left; apply Fin.ext; exact Nat.eq_zero_of_dvd_of_lt ha a.isLt
  · right; apply Fin.ext
    exact Nat.eq_zero_of_dvd_of_lt (prime_euclid (Nat.dvd_of_mod_eq_zero h') ha) b.isLt

/-! The power of a sum: (a + 1)^Q = a^Q + 1. -/
def chooseN : Nat → Nat → Nat
  | _, 0 => 1
  | 0, _ + 1 => 0
  | n + 1, k + 1 => chooseN n k + chooseN n (k + 1)
theorem choose_0 (n : Nat) : chooseN n 0 = 1 := by cases n <;> rfl
theorem choose_gt : ∀ (n k : Nat), n < k → chooseN n k = 0
  | 0, k + 1, _ => rfl
  | n + 1, k + 1, h => by rw [chooseN, choose_gt n k (by omega), choose_gt n (k + 1) (by omega)]
theorem choose_self : ∀ n, chooseN n n = 1
  | 0 => rfl
  | n + 1 => by rw [chooseN, choose_self n, choose_gt n (n + 1) (by omega)]
theorem choose_mul : ∀ (n k : Nat), (k + 1) * chooseN (n + 1) (k + 1) = (n + 1) * chooseN n k
  | 0, 0 => rfl
  | 0, k + 1 => by rw [choose_gt 1 (k + 2) (by omega), choose_gt 0 (k + 1) (by omega)]; simp
  | n + 1, 0 => by
    have := choose_mul n 0
    rw [show chooseN (n + 1 + 1) (0 + 1) = chooseN (n + 1) 0 + chooseN (n + 1) (0 + 1) from rfl, Nat.mul_add, this, choose_0, choose_0]; omega
  | n + 1, k + 1 => by
    have h1 := choose_mul n k
    have h2 := choose_mul n (k + 1)
    rw [show chooseN (n + 1 + 1) (k + 1 + 1) = chooseN (n + 1) (k + 1) + chooseN (n + 1) (k + 1 + 1) from rfl, Nat.mul_add, h2]
    have e : (k + 1 + 1) * chooseN (n + 1) (k + 1) = (n + 1) * chooseN n k + chooseN (n + 1) (k + 1) := by rw [← h1]; grind
    rw [e]
    have e3 : chooseN (n + 1) (k + 1) = chooseN n k + chooseN n (k + 1) := rfl
    rw [e3]; grind
theorem choose_div {k : Nat} (h0 : 0 < k) (h1 : k < 2147483579) : 2147483579 ∣ chooseN 2147483579 k := by
  obtain ⟨j, rfl⟩ : ∃ j, k = j + 1 := ⟨k - 1, by omega⟩
  have h := choose_mul 2147483578 j
  refine prime_euclid (a := j + 1) ⟨chooseN 2147483578 j, h⟩ (fun hd => ?_)
  have := Nat.le_of_dvd (by omega) hd; omega

def sm : Nat → (Nat → Fp) → Fp
  | 0, _ => 0
  | n + 1, f => sm n f + f n
theorem sm_congr {n : Nat} {f g : Nat → Fp} (h : ∀ i, i < n → f i = g i) : sm n f = sm n g := by
  induction n with
  | zero => rfl
  | succ n ih => rw [sm, sm, ih (fun i hi => h i (by omega)), h n (by omega)]
theorem sm_add (n : Nat) (f g : Nat → Fp) : sm n (fun i => f i + g i) = sm n f + sm n g := by
  induction n with
  | zero => rfl
  | succ n ih => rw [sm, sm, sm, ih]; grind
theorem sm_mul (n : Nat) (a : Fp) (f : Nat → Fp) : sm n (fun i => a * f i) = a * sm n f := by
  induction n with
  | zero => simp only [sm]; grind
  | succ n ih => rw [sm, sm, ih]; grind
theorem sm_mul_r (n : Nat) (a : Fp) (f : Nat → Fp) : sm n (fun i => f i * a) = sm n f * a := by
  rw [Fin.mul_comm, ← sm_mul]; exact sm_congr fun i _ => Fin.mul_comm _ _
theorem sm_zero {n : Nat} {f : Nat → Fp} (h : ∀ i, i < n → f i = 0) : sm n f = 0 := by
  induction n with
  | zero => rfl
  | succ n ih => rw [sm, ih (fun i hi => h i (by omega)), h n (by omega)]; rfl
theorem sm_one {n k : Nat} {f : Nat → Fp} (hk : k < n) (h : ∀ i, i < n → i ≠ k → f i = 0) : sm n f = f k := by
  induction n with
  | zero => omega
  | succ n ih =>
    rw [sm]
    by_cases e : k = n
    · subst e; rw [sm_zero (fun i hi => h i (by omega) (by omega))]; simp
    · rw [ih (by omega) (fun i hi => h i (by omega)), h n (by omega) (by omega)]; simp
theorem sm_swap (n m : Nat) (f : Nat → Nat → Fp) : sm n (fun i => sm m (fun j => f i j)) = sm m (fun j => sm n (fun i => f i j)) := by
  induction n with
  | zero => exact (sm_zero (fun _ _ => rfl)).symm
  | succ n ih => rw [sm, ih, ← sm_add]; exact sm_congr fun _ _ => rfl
theorem sm_shift (n : Nat) (f : Nat → Fp) : sm (n + 1) f = f 0 + sm n (fun i => f (i + 1)) := by
  induction n with
  | zero => simp [sm]
  | succ n ih => rw [sm, ih, sm]; grind

def natq (k : Nat) : Fp := cp k
theorem natq_add (a b : Nat) : natq (a + b) = natq a + natq b := by unfold natq; rw [← cp_add]; rfl
theorem natq_zero {k : Nat} (h : 2147483579 ∣ k) : natq k = 0 := by unfold natq; rw [cp_zero]; omega
theorem natq_1 : natq 1 = 1 := cp_1
theorem pow_0 (a : Fp) : a ^ 0 = 1 := by grind
theorem pow_s (a : Fp) (n : Nat) : a ^ (n + 1) = a ^ n * a := by grind
theorem pow_sum (a : Fp) : ∀ n, (a + 1) ^ n = sm (n + 1) (fun k => natq (chooseN n k) * a ^ k)
  | 0 => by show (a + 1) ^ 0 = 0 + natq (chooseN 0 0) * a ^ 0; rw [choose_0, natq_1, pow_0, pow_0]; rfl
  | n + 1 => by
    rw [pow_s, pow_sum a n, sm_shift (n + 1)]
    have e1 : sm (n + 1) (fun i => natq (chooseN (n + 1) (i + 1)) * a ^ (i + 1)) = sm (n + 1) (fun i => natq (chooseN n i) * a ^ i) * a + sm (n + 1) (fun i => natq (chooseN n (i + 1)) * a ^ (i + 1)) := by
      rw [← sm_mul_r, ← sm_add]
      refine sm_congr fun i _ => ?_
      rw [show chooseN (n + 1) (i + 1) = chooseN n i + chooseN n (i + 1) from rfl, natq_add, pow_s]; grind
    have e2 : sm (n + 1) (fun k => natq (chooseN n k) * a ^ k) = natq (chooseN n 0) * a ^ 0 + sm (n + 1) (fun i => natq (chooseN n (i + 1)) * a ^ (i + 1)) := by
      rw [sm_shift]
      congr 1
      show _ = sm n _ + natq (chooseN n (n + 1)) * a ^ (n + 1)
      rw [choose_gt n (n + 1) (by omega), natq_zero ⟨0, rfl⟩]; grind
    rw [e1, choose_0]
    rw [choose_0] at e2
    grind
theorem pow_mid (a : Fp) (n : Nat) (h : ∀ i, i < n → natq (chooseN (n + 1) (i + 1)) = 0) : (a + 1) ^ (n + 1) = a ^ (n + 1) + 1 := by
  rw [pow_sum a (n + 1)]
  show sm (n + 1) _ + natq (chooseN (n + 1) (n + 1)) * a ^ (n + 1) = _
  rw [choose_self, natq_1, sm_shift n, choose_0, natq_1, sm_zero]
  · rw [pow_0]; grind
  · intro i hi
    rw [h i hi]; grind
theorem pow_frob (a : Fp) (n : Nat) (hn : n + 1 = 2147483579) : (a + 1) ^ (n + 1) = a ^ (n + 1) + 1 :=
  pow_mid a n fun i hi => natq_zero (by rw [hn]; exact choose_div (by omega) (by omega))
theorem pow_nat (n : Nat) (hn : n + 1 = 2147483579) : ∀ k : Nat, natq k ^ (n + 1) = natq k
  | 0 => by rw [show natq 0 = 0 from cp_0, pow_s]; grind
  | k + 1 => by rw [natq_add, natq_1, pow_frob _ n hn, pow_nat n hn k]
theorem natq_val (a : Fp) : natq a.val = a := cp_lift a
theorem fermat_of {a b c : Fp} (h : a ≠ 0) (h1 : c * a = a) (h2 : c = b * a) : b * a = 1 := by
  have h3 : a * (b * a - 1) = 0 := by rw [← h2]; grind
  rcases fq_mul_zero h3 with h4 | h4
  · exact absurd h4 h
  · generalize b * a = u at *
    grind
theorem fermat_n {a : Fp} (n : Nat) (hn : n + 1 + 1 = 2147483579) (h : a ≠ 0) : a ^ n * a = 1 := by
  have h1 := pow_nat (n + 1) hn a.val
  rw [natq_val, pow_s] at h1
  exact fermat_of h h1 (pow_s a n)
theorem cp_pow (z : Int) : ∀ n : Nat, cp (z ^ n) = cp z ^ n
  | 0 => by rw [pow_0, Int.pow_zero, cp_1]
  | n + 1 => by rw [pow_s, Int.pow_succ, cp_mul, cp_pow z n]
def powR (a : Int) (n : Nat) : Int := a ^ n % 2147483579
theorem inv_n {z : Int} (n : Nat) (hn : n + 1 + 1 = 2147483579) (h : cp z ≠ 0) : cp (powR z n) * cp z = 1 := by
  unfold powR; rw [cp_mod, cp_pow]; exact fermat_n n hn h
theorem inv_z {z : Int} (h : cp z ≠ 0) : cp (powR z 2147483577) * cp z = 1 := inv_n 2147483577 rfl h
end Go.Proofs.Ytjjoadmkpbmhpaa.FP
