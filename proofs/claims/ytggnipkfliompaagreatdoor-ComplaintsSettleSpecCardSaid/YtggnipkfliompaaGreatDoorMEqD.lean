/- Package equal: Prove. Package parcels, in plain Lean: pads, conditions, errors. Package complaints: parcels as lists; an append of a parcel. slices.Concat of a number and a list; what a right program is; what is dealt, in plain Lean. Package dealing: Deal. Package dealing: Deal, where it deals. Package dealing: check, Public. -/
import Derived.Test.YtggnipkfliompaaGreatDoorMHash
import Derived.Test.YtggnipkfliompaaGreatDoorMLinF
import Derived.Test.YtggnipkfliompaaGreatDoorMLinP
import Derived.Test.YtggnipkfliompaaGreatDoorMRange3
import Derived.Deep.RegionWith
import Derived.Lib.MinMax
namespace Go.Proofs.YtggnipkfliompaaGreatDoor
open Go.RowKit FP

/-- The nonce of a proof, its E, its S. -/
def prN (x a : Int) : Int := max 1 (hashG (strB tagN) (encL [x, a]))
def prE (x a : Int) : Int := chal (powE 4 x) a (powE a x) (powE 4 (prN x a)) (powE a (prN x a))
def prS (x a : Int) : Int := (prN x a + prE x a * x) % 1073741789
theorem prN_num (x a : Int) : 1 ≤ prN x a ∧ prN x a < 1073741789 := by
  unfold prN
  have := hashG_num (strB tagN) (encL [x, a])
  omega
theorem prE_num (x a : Int) : 0 ≤ prE x a ∧ prE x a < 1073741789 := chal_num _ _ _ _ _
theorem prS_num (x a : Int) : 0 ≤ prS x a ∧ prS x a < 1073741789 := by unfold prS; omega

theorem below_cells2 (w : World) (t : TypeId) : ∃ W, W = w.alloc (.cells #[.int .i64 0, .int .i64 0] t) ∧ Below w.heap.size w W ∧ W.heap[w.heap.size]? = some (.cells #[.int .i64 0, .int .i64 0] t (0, 0)) :=
  ⟨_, rfl, below_new _ _ _, World.alloc_heap_new _ _⟩

set_option maxRecDepth 100000 in
set_option maxHeartbeats 2000000 in
theorem prove_yes (x a : Int) (w : World) (h1 : 1 ≤ x) (h2 : x < 1073741789) (ha : El a) (hG : Glob w) :
    Calls Tryz.prog 23 #[.int .i64 x, .int .i64 a] w fun e w' => e = .returned (.tuple #[.int .i64 (powE a x), .agg #[.int .i64 (prE x a), .int .i64 (prS x a)], .int .i64 0]) ∧ Below w.heap.size w w' := by
  obtain ⟨W1, hW1, hb1, hr1⟩ := below_cells2 w 32
  have HW1 := Lib.hid hW1
  clear hW1
  have hx64 : R64 x := ⟨by omega, by omega⟩
  obtain ⟨n1, n2⟩ := prN_num x a
  have hN64 : R64 (prN x a) := ⟨by omega, by omega⟩
  have HNV : Hid (max 1 (hashG (strB tagN) (encL [x, a])) = prN x a) := Lib.hid rfl
  obtain ⟨E1, E2⟩ := prE_num x a
  have HEV : Hid (chal (powE 4 x) a (powE a x) (powE 4 (prN x a)) (powE a (prN x a)) = prE x a) := Lib.hid rfl
  have HSV : Hid ((prN x a + prE x a * x) % 1073741789 = prS x a) := Lib.hid rfl
  have hm1 : 0 ≤ prE x a * x := Int.mul_nonneg E1 (by omega)
  have hm2 : prE x a * x ≤ 1073741789 * 1073741789 := Int.mul_le_mul (by omega) (by omega) (by omega) (by omega)
  have HM1 := Lib.hid hm1
  have HM2 : Hid (prE x a * x ≤ 1152921429444920521) := Lib.hid (by omega)
  generalize prN x a = kk at *
  generalize prE x a = EE at *
  generalize prS x a = SS at *
  clear hm1 hm2
  go_enter Tryz.func23, Tryz.ntmps23
  go_wp2_with fail
  rw [← HW1.out]
  with_reducible refine (pow_yes a x _ ha hx64).mono ?_
  rintro e w2 ⟨rfl, hb2⟩
  have hb3 := hb1.trans (hb2.mono hb1.size)
  go_wp2_with fail
  with_reducible refine (epow_any 4 x _ el_four hx64).mono ?_
  rintro e w3 ⟨rfl, hb4⟩
  have hb5 := hb3.trans (hb4.mono hb3.size)
  go_wp2_with fail
  refine (text_any _ [x, a] _ (pair_ints _ x a _ _ rfl hx64 ha.r64) (by simp)).mono ?_
  rintro e w4 ⟨v4, rfl, hv4, hb6⟩
  have hb7 := (hb5.alloc hb5.size (.cells #[.int .i64 x, .int .i64 a] 3))
  have hb8 := hb7.trans (hb6.mono hb7.size)
  have HV4 := Lib.hid hv4
  clear hv4
  go_wp2_with fail
  refine (hash_any tagN v4 (encL [x, a]) _ (by decide) HV4.out (encL_pos _) (by have := encL_len (zs := [x, a]) (by intro z hz; simp at hz; rcases hz with rfl | rfl; exact hx64; exact ha.r64) (by simp); simp at this; omega) (hG.below hb8)).mono ?_
  rintro e w5 ⟨rfl, hb9⟩
  have hb10 := hb8.trans (hb9.mono hb8.size)
  generalize hashG (strB tagN) (encL [x, a]) = hh at *
  have hg10 := hG.below hb10
  have hr10 : w5.heap[w.heap.size]? = some (.cells #[.int .i64 0, .int .i64 0] 32 (0, 0)) := by
    have e1 := (hb2.block _ (row_lt hr1)).trans hr1
    have e2 := (hb4.block _ (row_lt e1)).trans e1
    have e3 := ((below_new w3 #[.int .i64 x, .int .i64 a] 3).block _ (row_lt e2)).trans e2
    have e4 := (hb6.block _ (row_lt e3)).trans e3
    exact (hb9.block _ (row_lt e4)).trans e4
  clear hr1 hb1 hb2 hb3 hb4 hb5 hb6 hb7 hb8 hb9 HV4
  go_wp2_with fail
  rw [HNV.out]
  with_reducible refine (epow_any 4 kk _ el_four hN64).mono ?_
  rintro e w6 ⟨rfl, hb11⟩
  have hb12 := hb10.trans (hb11.mono hb10.size)
  have hr12 := (hb11.block _ (row_lt hr10)).trans hr10
  clear hr10 hb11
  go_wp2_with fail
  with_reducible refine (epow_any a kk _ ha hN64).mono ?_
  rintro e w7 ⟨rfl, hb13⟩
  have hb14 := hb12.trans (hb13.mono hb12.size)
  have hr14 := (hb13.block _ (row_lt hr12)).trans hr12
  have hg14 := hG.below hb14
  have HRS := Lib.hid (show ∀ z ∈ [powE 4 x, a, powE a x, powE 4 kk, powE a kk], R64 z by intro z hz; simp at hz; rcases hz with rfl | rfl | rfl | rfl | rfl; exact (el_powE el_four x).r64; exact ha.r64; exact (el_powE ha x).r64; exact (el_powE el_four kk).r64; exact (el_powE ha kk).r64)
  clear hr12 hb13 hb12 hb10 hg10
  go_wp2_with fail
  with_reducible refine (challenge_any _ _ _ _ _ _ HRS.out hg14).mono ?_
  rintro e w8 ⟨rfl, hb15⟩
  rw [HEV.out]
  have hb16 := hb14.trans (hb15.mono hb14.size)
  have hr16 := (hb15.block _ (row_lt hr14)).trans hr14
  have c0 : w8.cell? ⟨w.heap.size, 0, none⟩ = some (.int .i64 0) := row_cell hr16 rfl
  have c1 : w8.cell? ⟨w.heap.size, 1, none⟩ = some (.int .i64 0) := row_cell hr16 rfl
  have f0 := row_free hr16 0
  have f1 := row_free hr16 1
  have hr20 := row_set (row_set (row_set (row_set hr16 0 (.int .i64 EE)) 1 (.int .i64 SS)) 0 (.int .i64 EE)) 1 (.int .i64 SS)
  have d0 := Lib.hid (row_cell hr20 (k := 0) (v := .int .i64 EE) rfl)
  have d1 := Lib.hid (row_cell hr20 (k := 1) (v := .int .i64 SS) rfl)
  clear hr14 hb15 hb14 hg14 hr16 hr20
  have hm1 := HM1.out
  have hm2 := HM2.out
  go_wp2_with fail
  rw [HSV.out]
  clear hm1 hm2
  go_region_with (fail)
  all_goals
    go_wp2_with fail
    refine bodyPost_ret (v := .tuple #[.int .i64 (powE a x), .agg #[.int .i64 EE, .int .i64 SS], .int .i64 0]) (by simp [results, Tryz.results23, go_sem, d0.out, d1.out]) rfl ⟨rfl, ?_⟩
    repeat (first | exact hb16 | refine Below.drew ?_ | refine Below.setCell ?_ (by simp) _ | refine Below.alloc ?_ (by simp) _)

end Go.Proofs.YtggnipkfliompaaGreatDoor

namespace Go.Proofs.YtggnipkfliompaaGreatDoor
open Go.RowKit FP

/-- The tag of pads. -/
def tagP : ByteArray := ⟨#[112, 97, 100]⟩
/-- The pad of an element, a dealer and a row. -/
def padV (d dealer row : Int) : Int := hashG (strB tagP) (encL [d, dealer, row])
theorem padV_num (d dealer row : Int) : 0 ≤ padV d dealer row ∧ padV d dealer row < 1073741789 := hashG_num _ _

/-- The error of the first condition that does not hold. -/
def firstE : List (Bool × Int) → Int
  | [] => 0
  | (true, _) :: l => firstE l
  | (false, e) :: _ => e
/-- Is a parcel right? -/
def rightB (row pt c : Int) : Bool := inB row 0 63 && (elB pt && inB c 0 1073741788)
theorem rightB_first (row pt c : Int) : (firstE [(inB row 0 63, 350), (elB pt, 350), (inB c 0 1073741788, 350)] == 0) = rightB row pt c := by
  unfold rightB
  cases inB row 0 63 <;> cases elB pt <;> cases inB c 0 1073741788 <;> rfl
/-- Errors. -/
def sealE (u key dealer row value : Int) : Int := firstE [(inB u 1 1073741788, 110), (elB key, 100), (inB dealer 0 63, 1), (inB row 0 63, 1), (inB value 0 1073741788, 350)]
def openE (s dealer row pt c : Int) : Int := firstE [(inB s 1 1073741788, 110), (inB dealer 0 63, 1), (rightB row pt c, 350)]
def withE (d dealer row pt c : Int) : Int := firstE [(elB d, 100), (inB dealer 0 63, 1), (rightB row pt c, 350)]
structure Sealed (u key dealer row value : Int) : Prop where
  u : 1 ≤ u ∧ u ≤ 1073741788
  key : El key
  dealer : 0 ≤ dealer ∧ dealer ≤ 63
  row : 0 ≤ row ∧ row ≤ 63
  value : 0 ≤ value ∧ value ≤ 1073741788
structure RightP (row pt c : Int) : Prop where
  row : 0 ≤ row ∧ row ≤ 63
  pt : El pt
  c : 0 ≤ c ∧ c ≤ 1073741788
theorem rightB_iff {row pt c : Int} : rightB row pt c = true ↔ RightP row pt c := by
  unfold rightB
  rw [Bool.and_eq_true, Bool.and_eq_true, inB_iff, elB_iff, inB_iff]
  exact ⟨fun ⟨a, b, c⟩ => ⟨a, b, c⟩, fun ⟨a, b, c⟩ => ⟨a, b, c⟩⟩
theorem sealE_ok {u key dealer row value : Int} : sealE u key dealer row value = 0 ↔ Sealed u key dealer row value := by
  have h : sealE u key dealer row value = 0 ↔ inB u 1 1073741788 = true ∧ elB key = true ∧ inB dealer 0 63 = true ∧ inB row 0 63 = true ∧ inB value 0 1073741788 = true := by
    unfold sealE
    cases inB u 1 1073741788 <;> cases elB key <;> cases inB dealer 0 63 <;> cases inB row 0 63 <;> cases inB value 0 1073741788 <;> simp [firstE]
  rw [h, inB_iff, elB_iff, inB_iff, inB_iff, inB_iff]
  exact ⟨fun ⟨a, b, c, d, e⟩ => ⟨a, b, c, d, e⟩, fun ⟨a, b, c, d, e⟩ => ⟨a, b, c, d, e⟩⟩
theorem openE_ok {s dealer row pt c : Int} : openE s dealer row pt c = 0 ↔ (1 ≤ s ∧ s ≤ 1073741788) ∧ (0 ≤ dealer ∧ dealer ≤ 63) ∧ RightP row pt c := by
  have h : openE s dealer row pt c = 0 ↔ inB s 1 1073741788 = true ∧ inB dealer 0 63 = true ∧ rightB row pt c = true := by
    unfold openE
    cases inB s 1 1073741788 <;> cases inB dealer 0 63 <;> cases rightB row pt c <;> simp [firstE]
  rw [h, inB_iff, inB_iff, rightB_iff]
theorem withE_ok {d dealer row pt c : Int} : withE d dealer row pt c = 0 ↔ El d ∧ (0 ≤ dealer ∧ dealer ≤ 63) ∧ RightP row pt c := by
  have h : withE d dealer row pt c = 0 ↔ elB d = true ∧ inB dealer 0 63 = true ∧ rightB row pt c = true := by
    unfold withE
    cases elB d <;> cases inB dealer 0 63 <;> cases rightB row pt c <;> simp [firstE]
  rw [h, elB_iff, inB_iff, rightB_iff]
/-- What is sealed, and what is opened. -/
def cipV (u key dealer row value : Int) : Int := (value + padV (powE key u) dealer row) % 1073741789
def opnV (d dealer row c : Int) : Int := (c - padV d dealer row + 1073741789) % 1073741789
theorem cipV_num (u key dealer row value : Int) : 0 ≤ cipV u key dealer row value ∧ cipV u key dealer row value < 1073741789 := by unfold cipV; omega
theorem opnV_num (d dealer row c : Int) : 0 ≤ opnV d dealer row c ∧ opnV d dealer row c < 1073741789 := by unfold opnV; omega
theorem opnV_cipV {u key dealer row value : Int} (h : 0 ≤ value ∧ value ≤ 1073741788) : opnV (powE key u) dealer row (cipV u key dealer row value) = value := by
  unfold opnV cipV
  have := padV_num (powE key u) dealer row
  omega
/-- The power of the point is the power of the key. -/
theorem point_key (u s : Int) : powE (powE 4 u) s = powE (powE 4 s) u := by
  rw [powE_mul el_four, powE_mul el_four, Int.mul_comm]
end Go.Proofs.YtggnipkfliompaaGreatDoor

namespace Go.Proofs.YtggnipkfliompaaGreatDoor
open Go.RowKit FP

/-- A parcel: row, point, cipher. -/
abbrev Pcl := Int × Int × Int
/-- The cells of a parcel. -/
def parC (p : Pcl) : List Value := [.int .i64 p.1, .int .i64 p.2.1, .int .i64 p.2.2]
/-- The slice v reads as parcels. -/
def Parcels (w : World) (v : Value) (l : List Pcl) : Prop :=
  ∃ a cap, v = .slice a l.length cap ∧ l.length ≤ cap ∧ l.length ≤ 17592186044416 ∧ (∀ p ∈ l, R64 p.1 ∧ R64 p.2.1 ∧ R64 p.2.2) ∧
    ∀ k (h : k < l.length), ∃ b off, a = some ⟨b, off, none⟩ ∧ w.cell? ⟨b, off + k * 3, none⟩ = some (.int .i64 l[k].1) ∧ w.cell? ⟨b, off + k * 3 + 1, none⟩ = some (.int .i64 l[k].2.1) ∧ w.cell? ⟨b, off + k * 3 + 2, none⟩ = some (.int .i64 l[k].2.2)
theorem Parcels.below {w w' : World} {v : Value} {l : List Pcl} (h : Parcels w v l) (hb : Below w.heap.size w w') : Parcels w' v l := by
  obtain ⟨a, cap, rfl, hc, hl, hr, hk⟩ := h
  refine ⟨a, cap, rfl, hc, hl, hr, fun k hlt => ?_⟩
  obtain ⟨b, off, ha, h1, h2, h3⟩ := hk k hlt
  exact ⟨b, off, ha, below_cell hb h1, below_cell hb h2, below_cell hb h3⟩
theorem Parcels.nil (w : World) (a : Option Addr) (cap : Nat) : Parcels w (.slice a 0 cap) [] :=
  ⟨a, cap, rfl, Nat.zero_le _, by simp, by simp, fun k h => absurd h (Nat.not_lt_zero _)⟩
theorem pflat_at : ∀ (l : List Pcl) (k j : Nat) (hk : k < l.length), j < 3 → (l.flatMap parC)[k * 3 + j]? = (parC l[k])[j]?
  | [], k, _, hk, _ => absurd hk (Nat.not_lt_zero k)
  | z :: l, 0, j, _, hj => by
    rw [List.flatMap_cons, Nat.zero_mul, Nat.zero_add, List.getElem?_append_left (by show j < 3; exact hj)]; rfl
  | z :: l, k + 1, j, hk, hj => by
    rw [List.flatMap_cons, List.getElem?_append_right (by show 3 ≤ _; omega)]
    have e : (k + 1) * 3 + j - (parC z).length = k * 3 + j := by show (k + 1) * 3 + j - 3 = _; omega
    rw [e, pflat_at l k j (by simpa using hk) hj]; rfl
theorem pflat_size (l : List Pcl) : (l.flatMap parC).length = l.length * 3 := by
  induction l with
  | nil => rfl
  | cons z l ih => rw [List.flatMap_cons, List.length_append, ih, List.length_cons]; show 3 + _ = _; omega
theorem pflat_snoc (l : List Pcl) (z : Pcl) : (l ++ [z]).flatMap parC = l.flatMap parC ++ parC z := by rw [List.flatMap_append]; simp
theorem Parcels.own {w : World} {base n : Nat} {v : Value} {l : List Pcl} (h : w.ownsRow base 49 3 v n (l.flatMap parC)) (hr : ∀ p ∈ l, R64 p.1 ∧ R64 p.2.1 ∧ R64 p.2.2) (hl : l.length ≤ 1000000) : Parcels w v l := by
  obtain ⟨hn, h⟩ := h
  rw [pflat_size] at hn
  obtain rfl : n = l.length := by omega
  rcases h with ⟨rfl, h0⟩ | ⟨g, cap, cur, rfl, -, hg, hnc, -, hcs, hcur⟩
  · exact ⟨none, 0, by rw [h0], by omega, by omega, hr, fun k hk => absurd hk (by omega)⟩
  · refine ⟨some ⟨g, 0, none⟩, cap, rfl, hnc, by omega, hr, fun k hk => ⟨g, 0, rfl, ?_⟩⟩
    have e : ∀ j, j < 3 → cur[k * 3 + j]? = (parC l[k])[j]? := fun j hj => by
      have e2 : (cur.toList.take (l.length * 3))[k * 3 + j]? = (parC l[k])[j]? := by rw [hcur, pflat_at l k j hk hj]
      rw [List.getElem?_take, if_pos (by omega)] at e2
      rw [← Array.getElem?_toList]; exact e2
    rw [Nat.zero_add]
    exact ⟨row_cell hg (e 0 (by omega)), row_cell hg (e 1 (by omega)), row_cell hg (e 2 (by omega))⟩

set_option maxRecDepth 100000 in
theorem infoPar : (Tryz.prog.info? 49).map (fun i => (i.zero.map (·.cells.size), i.size, i.bytes)) = some (some 3, 3, 24) := by kernel_rfl
set_option maxRecDepth 100000 in
/-- One parcel is appended. -/
theorem app_parcel {ops : Array Oper} {rest : List Oper} {o : Oper} {a : Act} {Q : Exit → Act → World → Prop} {W : World} (hgd : o.guard = none) (s x : Operand) (ho : o.op = .call { callee := .builtin .append, args := #[s, x], argTypes := #[26, 26] })
    (base : Nat) (v : Value) (l : List Pcl) (n : Nat) (hs : a.eval s = v) (hown : W.ownsRow base 49 3 v n (l.flatMap parC)) (b off c : Nat) (z : Pcl) (hx : a.eval x = .slice (some ⟨b, off, none⟩) 1 c) (h0 : W.cell? ⟨b, off, none⟩ = some (.int .i64 z.1)) (h1 : W.cell? ⟨b, off + 1, none⟩ = some (.int .i64 z.2.1)) (h2 : W.cell? ⟨b, off + 2, none⟩ = some (.int .i64 z.2.2)) (hn : n ≤ 1000000) (hbase : base ≤ W.heap.size)
    (h : ∀ g cap w', w'.ownsRow base 49 3 (.slice (some ⟨g, 0, none⟩) (n + 1) cap) (n + 1) ((l ++ [z]).flatMap parC) → Onto W v w' (.slice (some ⟨g, 0, none⟩) (n + 1) cap) → wpList Tryz.prog ops Q rest (a.put o.dst (.slice (some ⟨g, 0, none⟩) (n + 1) cap)) w') : wpList Tryz.prog ops Q (o :: rest) a W := by
  obtain ⟨i, hi, hzz⟩ := Option.map_eq_some_iff.1 infoPar
  simp only [Prod.mk.injEq] at hzz
  obtain ⟨hz, hs1, hb⟩ := hzz
  obtain ⟨zv, hzv, hzs⟩ := Option.map_eq_some_iff.1 hz
  refine wpList_append_lies _ hgd s x 26 ho base 49 i zv 3 24 Tryz.underlying26 hi hzv hs1 hb hzs (by decide) v n (l.flatMap parC) hs hown ⟨b, off, none⟩ 1 c (parC z) hx rfl ?_ ?_ (by decide) ?_ ?_ hbase W.heap.size rfl ?_
  · intro j u hu
    rw [add_off]
    match j with
    | 0 => simp [parC] at hu; rw [← hu]; exact h0
    | 1 => simp [parC] at hu; rw [← hu]; exact h1
    | 2 => simp [parC] at hu; rw [← hu]; exact h2
    | n + 3 => simp [parC] at hu
  · intro u hu
    simp only [parC, List.mem_cons, List.not_mem_nil, or_false] at hu
    rcases hu with rfl | rfl | rfl <;> rfl
  · unfold maxLen; omega
  · omega
  · intro g cap w' h1 h2 h3 _
    refine h g cap w' (by rw [pflat_snoc]; exact h1) ⟨h2, ?_⟩
    rcases h3 with h3 | h3
    · exact .inl (h3 ▸ rfl)
    · exact .inr ⟨g, rfl, by omega⟩

/-- Are the parcels numbered? -/
def numB (ps : List Pcl) : Bool := (List.range ps.length).all fun k => (ps.getD k (0, 0, 0)).1 == (k : Int)
theorem numB_iff {ps : List Pcl} : numB ps = true ↔ ∀ k (h : k < ps.length), ps[k].1 = (k : Int) := by
  unfold numB
  rw [List.all_eq_true]
  constructor
  · intro h k hk
    have := h k (List.mem_range.2 hk)
    rw [List.getD_eq_getElem?_getD, List.getElem?_eq_getElem hk] at this
    simpa using this
  · intro h k hk
    have hk := List.mem_range.1 hk
    rw [List.getD_eq_getElem?_getD, List.getElem?_eq_getElem hk]
    simpa using h k hk
theorem numB_bad {ps : List Pcl} {k : Nat} (h : k < ps.length) (hn : ps[k].1 ≠ (k : Int)) : numB ps = false := by
  cases e : numB ps with
  | false => rfl
  | true => exact absurd (numB_iff.1 e k h) hn

end Go.Proofs.YtggnipkfliompaaGreatDoor

namespace Go.Proofs.YtggnipkfliompaaGreatDoor
open Go.RowKit

theorem own_some {W : World} {base n : Nat} {e : TypeId} {v : Value} {x : Value} {xs : List Value} (h : W.ownsRow base e 1 v n (x :: xs)) : ∃ g cap, v = .slice (some ⟨g, 0, none⟩) n cap ∧ n ≤ cap := by
  rcases h.2 with ⟨-, h0⟩ | ⟨g, cap, cur, rfl, -, -, hn, -⟩
  · have := h.1; rw [h0] at this; simp at this
  · exact ⟨g, cap, rfl, hn⟩

/-- What a right program is. -/
structure ProgOK (rows : List (List Int)) (owners : List Int) : Prop where
  few : rows.length ≤ 64
  len : rows.length = owners.length
  right : Right rows (wide rows)
  pos : rows ≠ [] → 1 ≤ wide rows
  own : ∀ o ∈ owners, 0 ≤ o ∧ o ≤ 63
theorem rowBad_false {m : Nat} {r : List Int} {o : Int} (h : rowBad m r o = false) : r.length ≠ 0 ∧ r.length = m ∧ (0 ≤ o ∧ o ≤ 63) ∧ ∀ z ∈ r, 0 ≤ z ∧ z < 1073741789 := by
  unfold rowBad at h
  simp only [Bool.or_eq_false_iff, decide_eq_false_iff_not, Bool.not_eq_false'] at h
  obtain ⟨h0, h1, h2, h3⟩ := h
  refine ⟨h0, by simpa using h1, inB_iff.1 h2, fun z hz => oddQ_num ?_⟩
  cases e : oddQ z with
  | false => rfl
  | true => rw [any_of_mem hz e] at h3; cases h3
where any_of_mem {l : List Int} {z : Int} (hz : z ∈ l) (e : oddQ z = true) : l.any oddQ = true := List.any_eq_true.2 ⟨z, hz, e⟩
theorem progE_ok {rows : List (List Int)} {owners : List Int} (h : progE rows owners = 0) : ProgOK rows owners := by
  unfold progE at h
  split at h
  · cases h
  · rename_i h1
    split at h
    · cases h
    · rename_i h2
      split at h
      · cases h
      · rename_i h3
        have hlen : rows.length = owners.length := by omega
        have hfew : rows.length ≤ 64 := by
          by_cases hh : 64 < rows.length
          · exact absurd (.inl hh) h1
          · omega
        have hk : ∀ k (hk : k < rows.length), rowBad (wide rows) rows[k] (owners[k]'(by omega)) = false := fun k hk => by
          cases e : rowBad (wide rows) rows[k] (owners[k]'(by omega)) with
          | false => rfl
          | true =>
            have hz : k < (rows.zip owners).length := by simp; omega
            exact absurd (List.any_eq_true.2 ⟨(rows.zip owners)[k], List.getElem_mem hz, by rw [zip_at hlen hk]; exact e⟩) h3
        have hs : ∀ r ∈ rows, r.length ≤ 64 := fun r hr => by
          by_cases hl : 64 < r.length
          · exact absurd (.inr (List.any_eq_true.2 ⟨r, hr, by simpa [longR] using hl⟩)) h1
          · omega
        refine ⟨hfew, hlen, ⟨hfew, ?_, ?_, ?_⟩, ?_, ?_⟩
        · cases rows with
          | nil => exact .inr rfl
          | cons r l => exact .inl (hs r (by simp))
        · intro r hr
          obtain ⟨k, hk1, rfl⟩ := List.mem_iff_getElem.1 hr
          exact (rowBad_false (hk k hk1)).2.1
        · intro r hr
          obtain ⟨k, hk1, rfl⟩ := List.mem_iff_getElem.1 hr
          exact (rowBad_false (hk k hk1)).2.2.2
        · intro hne
          have hk1 : 0 < rows.length := List.length_pos_iff.2 hne
          have := rowBad_false (hk 0 hk1)
          omega
        · intro o ho
          obtain ⟨k, hk1, rfl⟩ := List.mem_iff_getElem.1 ho
          exact (rowBad_false (hk k (by omega))).2.2.1
theorem ProgOK.row {rows : List (List Int)} {owners : List Int} (h : ProgOK rows owners) {k : Nat} (hk : k < rows.length) : rows[k].length = colsQ rows := by
  unfold colsQ; rw [if_neg (by omega)]; exact h.right.len _ (List.getElem_mem hk)

end Go.Proofs.YtggnipkfliompaaGreatDoor

namespace Go.Proofs.YtggnipkfliompaaGreatDoor
open Go.RowKit FP

theorem ProgOK.cols_le {rows : List (List Int)} {owners : List Int} (h : ProgOK rows owners) : colsQ rows ≤ 64 := by
  unfold colsQ; split
  · omega
  · rename_i h0
    rcases h.right.narrow with h1 | h1
    · exact h1
    · exact absurd (by rw [h1]; rfl) h0
def dealC (s : List Int) : List Int := s.map (powE 4)
structure DealOK (rows : List (List Int)) (owners : List Int) (x : Int) (rnd : List Int) : Prop where
  prog : ProgOK rows owners
  hx : 0 ≤ x ∧ x < 1073741789
  hr : ∀ z ∈ rnd, 0 ≤ z ∧ z < 1073741789
  len : rnd.length + 1 = colsQ rows
theorem oddQ_of {z : Int} (h : 0 ≤ z ∧ z < 1073741789) : oddQ z = false := by simp [oddQ]; omega
theorem ints_one (w : World) (x : Int) (t : TypeId) (B : Nat) (hB : w.heap.size = B) (hx : R64 x) : Ints (w.alloc (.cells #[.int .i64 x] t)) (.slice (some ⟨B, 0, none⟩) 1 1) [x] := by
  subst hB
  refine ⟨_, 1, rfl, by simp, by simp, by simpa using hx, fun k hk => ⟨_, _, rfl, ?_⟩⟩
  obtain rfl : k = 0 := by simp at hk; omega
  exact row_cell (World.alloc_heap_new w _) rfl
theorem one_any (x : Int) : [x].any oddQ = oddQ x := by simp

end Go.Proofs.YtggnipkfliompaaGreatDoor

namespace Go.Proofs.YtggnipkfliompaaGreatDoor
open Go.RowKit FP

theorem getD_at {α : Type} {l : List α} {k : Nat} (h : k < l.length) (d : α) : l.getD k d = l[k] := by
  rw [List.getD_eq_getElem?_getD, List.getElem?_eq_getElem h]; rfl
end Go.Proofs.YtggnipkfliompaaGreatDoor

namespace Go.Proofs.YtggnipkfliompaaGreatDoor
open Go.RowKit FP

def notEl (x : Int) : Bool := !elB x
set_option maxRecDepth 100000 in
theorem notel_any (z : Int) (w : World) (hz : R64 z) : Calls Tryz.prog 176 #[.int .i64 z] w fun r w' => r = .returned (.bool (notEl z)) ∧ w = w' := by
  go_enter Tryz.func176, Tryz.ntmps176
  go_wp2_with fail
  with_reducible refine (valid_any z _ hz).mono ?_
  rintro r w1 ⟨rfl, rfl⟩
  go_wp2_with fail
  go_ret
  exact ⟨rfl, rfl⟩
theorem notel_tests (w : World) (zs : List Int) (hr : ∀ z ∈ zs, R64 z) : Tests 176 #[] w notEl zs :=
  fun z hz w' _ => (notel_any z w' (hr z hz)).mono fun _ _ ⟨h, e⟩ => ⟨h, e ▸ Below.refl _ _⟩
set_option maxRecDepth 100000 in
theorem notel_goes : Goes Tryz.prog 176 := goes_of Tryz.func176 (by kernel_rfl) rfl

/-- The error of commitments. -/
def dchkE (rows : List (List Int)) (owners cs : List Int) : Int :=
  if progE rows owners ≠ 0 then progE rows owners else if cs.length ≠ colsQ rows ∨ cs.any notEl = true then 340 else 0
structure ComOK (rows : List (List Int)) (owners cs : List Int) : Prop where
  prog : ProgOK rows owners
  prog0 : progE rows owners = 0
  len : cs.length = colsQ rows
  el : ∀ c ∈ cs, El c
theorem any_notel {l : List Int} (h : l.any notEl = false) : ∀ z ∈ l, El z := fun z hz => by
  refine elB_iff.1 ?_
  cases e : elB z with
  | true => rfl
  | false => rw [List.any_eq_true.2 ⟨z, hz, by unfold notEl; rw [e]; rfl⟩] at h; cases h
theorem dchkE_ok {rows : List (List Int)} {owners cs : List Int} (h : dchkE rows owners cs = 0) : ComOK rows owners cs := by
  unfold dchkE at h
  by_cases hp : progE rows owners = 0
  · rw [if_neg (by simp [hp])] at h
    split at h
    · cases h
    · rename_i h2
      refine ⟨progE_ok hp, hp, ?_, any_notel ?_⟩
      · by_cases e : cs.length = colsQ rows
        · exact e
        · exact absurd (.inl e) h2
      · cases e : cs.any notEl with
        | false => rfl
        | true => exact absurd (.inr e) h2
  · rw [if_pos hp] at h; exact absurd h hp
theorem dchkE_of {rows : List (List Int)} {owners cs : List Int} (h : ComOK rows owners cs) : dchkE rows owners cs = 0 := by
  unfold dchkE
  rw [if_neg (by simp [h.prog0]), if_neg]
  rintro (e | e)
  · exact e h.len
  · obtain ⟨z, hz, e2⟩ := List.any_eq_true.1 e
    unfold notEl at e2; rw [elB_iff.2 (h.el z hz)] at e2; cases e2

set_option maxRecDepth 100000 in
set_option maxHeartbeats 4000000 in
theorem dcheck_any (rv ov cv : Value) (rows : List (List Int)) (owners cs : List Int) (w : World) (hR : Rows2 w rv rows) (hO : Ints w ov owners) (hC : Ints w cv cs) :
    Calls Tryz.prog 112 #[.agg #[rv, ov], cv] w fun r w' => r = .returned (.int .i64 (dchkE rows owners cs)) ∧ Below w.heap.size w w' := by
  obtain ⟨W1, hW1, hb1, hr1, hz⟩ := box_prog w rv ov 25
  have HR1 := Lib.hid (hR.below hb1)
  have HO1 := Lib.hid (hO.below hb1)
  have HC1 := Lib.hid (hC.below hb1)
  have HPC := Lib.hid (pCheck_any rv ov rows owners W1 HR1.out HO1.out)
  obtain ⟨a, cap, rfl, -, hlen, -⟩ := id hR
  obtain ⟨a2, cap2, rfl, -, hlen2, -⟩ := id hO
  obtain ⟨a3, cap3, rfl, -, hlen3, hcr, -⟩ := id hC
  have c0 : W1.cell? ⟨w.heap.size, 0, none⟩ = some (.slice a rows.length cap) := row_cell hr1 rfl
  have c1 : W1.cell? ⟨w.heap.size, 1, none⟩ = some (.slice a2 owners.length cap2) := row_cell hr1 rfl
  have HW1 := Lib.hid hW1
  have HB1 := Lib.hid hb1
  have HCR := Lib.hid hcr
  clear hR hO hC hr1 hW1 hb1 hcr
  by_cases hp : progE rows owners = 0
  · have HV : Hid (dchkE rows owners cs = if cs.length ≠ colsQ rows ∨ cs.any notEl = true then 340 else 0) := Lib.hid (by unfold dchkE; rw [if_neg (by simp [hp])])
    have HPO := Lib.hid (progE_ok hp)
    rw [hp] at HPC
    have hcu := HPO.out.cols_le
    clear hp
    go_enter Tryz.func112, Tryz.ntmps112
    go_wp2_with fail
    rw [← HW1.out]
    refine HPC.out.mono ?_
    rintro r w2 ⟨rfl, hb2⟩
    have HB2 := Lib.hid (HB1.out.trans (hb2.mono HB1.out.size))
    have HC2 := Lib.hid (HC1.out.below hb2)
    have HR2 := Lib.hid (HR1.out.below hb2)
    have HO2 := Lib.hid (HO1.out.below hb2)
    have d0 := below_cell hb2 c0
    have d1 := below_cell hb2 c1
    clear hb2
    go_wp2_with fail
    refine (columns_any _ _ rows owners _ HR2.out HO2.out).mono ?_
    rintro r w3 ⟨rfl, hb3⟩
    have HB3 := Lib.hid (HB2.out.trans (hb3.mono HB2.out.size))
    have HC3 := Lib.hid (HC2.out.below hb3)
    clear hb3 d0 d1
    by_cases hl : cs.length = colsQ rows
    · have hlb : ((cs.length : Int) != ((colsQ rows : Nat) : Int)) = false := by rw [hl]; exact bne_self_eq_false _
      have HCF := Lib.hid (containsFunc_any 176 #[] notEl _ cs _ HC3.out notel_goes (notel_tests _ _ HCR.out))
      cases en : cs.any notEl with
      | true =>
        have HV2 : Hid (dchkE rows owners cs = 340) := Lib.hid (by rw [HV.out, if_pos (.inr en)])
        rw [en] at HCF
        clear en hl
        go_wp2_with fail
        refine HCF.out.mono ?_
        rintro r w4 ⟨rfl, hb4⟩
        go_wp2_with fail
        go_ret
        exact ⟨ret_int HV2.out.symm, HB3.out.trans (hb4.mono HB3.out.size)⟩
      | false =>
        have HV2 : Hid (dchkE rows owners cs = 0) := Lib.hid (by rw [HV.out, if_neg]; rw [en]; rintro (h | h); exact h hl; cases h)
        rw [en] at HCF
        clear en hl
        go_wp2_with fail
        refine HCF.out.mono ?_
        rintro r w4 ⟨rfl, hb4⟩
        go_wp2_with fail
        go_ret
        exact ⟨ret_int HV2.out.symm, HB3.out.trans (hb4.mono HB3.out.size)⟩
    · have hlb : ((cs.length : Int) != ((colsQ rows : Nat) : Int)) = true := bne_iff_ne.2 (by omega)
      have HV2 : Hid (dchkE rows owners cs = 340) := Lib.hid (by rw [HV.out, if_pos (.inl hl)])
      clear hl
      go_wp2_with fail
      go_ret
      exact ⟨ret_int HV2.out.symm, HB3.out⟩
  · have HV : Hid (dchkE rows owners cs = progE rows owners) := Lib.hid (by unfold dchkE; rw [if_pos hp])
    have h2 : (progE rows owners != 0) = true := bne_iff_ne.2 hp
    go_enter Tryz.func112, Tryz.ntmps112
    go_wp2_with fail
    rw [← HW1.out]
    refine HPC.out.mono ?_
    rintro r w2 ⟨rfl, hb2⟩
    go_wp2_with fail
    go_ret
    exact ⟨ret_int HV.out.symm, HB1.out.trans (hb2.mono HB1.out.size)⟩

/-- What a share has to fit, after j columns. -/
def pubF (row cs : List Int) : Nat → Int
  | 0 => 1
  | j + 1 => pubF row cs j * powE (nth cs j) (nth row j) % 2147483579
def pubQ (row cs : List Int) : Int := pubF row cs cs.length
theorem el_pubF {row cs : List Int} (h : ∀ c ∈ cs, El c) : ∀ j, j ≤ cs.length → El (pubF row cs j)
  | 0, _ => el_one
  | j + 1, hj => el_mul (el_pubF h j (by omega)) (el_powE (h _ (by rw [nth_at (by omega)]; exact List.getElem_mem _)) _)
/-- The error of Public; its value. -/
def pubE (rows : List (List Int)) (owners cs : List Int) (r : Int) : Int :=
  if dchkE rows owners cs ≠ 0 then dchkE rows owners cs else if r < 0 ∨ (rows.length : Int) ≤ r then 1 else 0
def pubR (rows : List (List Int)) (owners cs : List Int) (r : Int) : Int := if pubE rows owners cs r = 0 then pubQ (rows.getD r.toNat []) cs else 0

set_option maxRecDepth 100000 in
set_option maxHeartbeats 4000000 in
theorem public_any (rv ov cv : Value) (rows : List (List Int)) (owners cs : List Int) (r : Int) (w : World) (hR : Rows2 w rv rows) (hO : Ints w ov owners) (hC : Ints w cv cs) (hr : R64 r) :
    Calls Tryz.prog 114 #[.agg #[rv, ov], cv, .int .i64 r] w fun e w' => e = .returned (.tuple #[.int .i64 (pubR rows owners cs r), .int .i64 (pubE rows owners cs r)]) ∧ Below w.heap.size w w' := by
  obtain ⟨W1, hW1, hb1, hr1, hz⟩ := box_prog w rv ov 25
  have HR1 := Lib.hid (hR.below hb1)
  have HO1 := Lib.hid (hO.below hb1)
  have HC1 := Lib.hid (hC.below hb1)
  have HDC := Lib.hid (dcheck_any rv ov cv rows owners cs W1 HR1.out HO1.out HC1.out)
  obtain ⟨a, cap, rfl, -, hlen, -⟩ := id hR
  obtain ⟨a2, cap2, rfl, -, hlen2, -⟩ := id hO
  obtain ⟨a3, cap3, rfl, -, hlen3, hcr, -⟩ := id hC
  have c0 : W1.cell? ⟨w.heap.size, 0, none⟩ = some (.slice a rows.length cap) := row_cell hr1 rfl
  have c1 : W1.cell? ⟨w.heap.size, 1, none⟩ = some (.slice a2 owners.length cap2) := row_cell hr1 rfl
  have HW1 := Lib.hid hW1
  have HB1 := Lib.hid hb1
  clear hR hO hC hr1 hW1 hb1 hcr
  by_cases hp : dchkE rows owners cs = 0
  · have HK := Lib.hid (dchkE_ok hp)
    have HP0 := Lib.hid hp
    rw [hp] at HDC
    clear hp
    by_cases hneg : r < 0
    · have HV : Hid (pubE rows owners cs r = 1) := Lib.hid (by unfold pubE; rw [if_neg (by simp [HP0.out]), if_pos (.inl hneg)])
      have HW : Hid (pubR rows owners cs r = 0) := Lib.hid (by unfold pubR; rw [HV.out]; rfl)
      go_enter Tryz.func114, Tryz.ntmps114
      go_wp2_with fail
      rw [← HW1.out]
      refine HDC.out.mono ?_
      rintro e w2 ⟨rfl, hb2⟩
      go_wp2_with fail
      go_ret2
      exact ⟨by rw [HV.out, HW.out]; rfl, HB1.out.trans (hb2.mono HB1.out.size)⟩
    · have hn0 : 0 ≤ r := by omega
      by_cases hgt : (rows.length : Int) ≤ r
      · have HV : Hid (pubE rows owners cs r = 1) := Lib.hid (by unfold pubE; rw [if_neg (by simp [HP0.out]), if_pos (.inr hgt)])
        have HW : Hid (pubR rows owners cs r = 0) := Lib.hid (by unfold pubR; rw [HV.out]; rfl)
        go_enter Tryz.func114, Tryz.ntmps114
        go_wp2_with fail
        rw [← HW1.out]
        refine HDC.out.mono ?_
        rintro e w2 ⟨rfl, hb2⟩
        have d0 := below_cell hb2 c0
        go_wp2_with fail
        go_ret2
        exact ⟨by rw [HV.out, HW.out]; rfl, HB1.out.trans (hb2.mono HB1.out.size)⟩
      · obtain ⟨n, hn⟩ : ∃ n : Nat, r = n := ⟨r.toNat, by omega⟩
        have hlt : n < rows.length := by omega
        have HV : Hid (pubE rows owners cs r = 0) := Lib.hid (by unfold pubE; rw [if_neg (by simp [HP0.out]), if_neg (by omega)])
        have HW : Hid (pubR rows owners cs r = pubF rows[n] cs cs.length) := Lib.hid (by unfold pubR pubQ; rw [if_pos HV.out, hn, Int.toNat_natCast, getD_at hlt])
        subst hn
        obtain ⟨row, hrow⟩ : ∃ row, row = rows[n] := ⟨_, rfl⟩
        rw [← hrow] at HW
        have HROW := Lib.hid hrow
        clear hrow
        have hgt2 : (n : Int) < (rows.length : Int) := by omega
        have hd1 : decide ((n : Int) < 0) = false := decide_eq_false (by omega)
        have hd2 : decide (rows.length ≤ n) = false := decide_eq_false (by omega)
        clear hneg hgt
        go_enter Tryz.func114, Tryz.ntmps114
        go_wp2_with fail
        rw [← HW1.out]
        refine HDC.out.mono ?_
        rintro e w2 ⟨rfl, hb2⟩
        have d0 := below_cell hb2 c0
        have HR2 := Lib.hid (HR1.out.below hb2)
        have HC2 := Lib.hid (HC1.out.below hb2)
        have HB2 := Lib.hid (HB1.out.trans (hb2.mono HB1.out.size))
        clear hb2
        go_wp2_with fail
        go_loopw [6, 30] (fun x i W => ∃ j : Nat, j ≤ cs.length ∧ i = .int .i64 j ∧ x = .int .i64 (pubF row cs j) ∧ Below w2.heap.size w2 W) (fun _ i _ => cs.length - (intOf i).toNat)
        case atStart => exact ⟨0, Nat.zero_le _, rfl, rfl, Below.refl _ _⟩
        case round =>
          obtain ⟨j, hjl, rfl, rfl, hb⟩ := hrel
          have f0 := below_cell hb d0
          by_cases hj : j < cs.length
          · obtain ⟨aa, cc, e1, -, -, hk⟩ := HR2.out
            obtain ⟨b, off, rr, ha, q1, hI⟩ := hk n hlt
            simp only [Value.slice.injEq] at e1
            obtain ⟨rfl, -, rfl⟩ := e1
            subst ha
            have y1 := below_cell hb q1
            have hrl := HK.out.prog.row hlt
            rw [← HROW.out] at hI hrl
            have hj2 : j < row.length := by rw [hrl, ← HK.out.len]; exact hj
            obtain ⟨hr2, b2, off2, n2, k2, e2, q2⟩ := (hI.below hb).get hj2
            obtain ⟨hr3, b3, off3, n3, k3, e3, q3⟩ := (HC2.out.below hb).get hj
            obtain ⟨ra, rc, e4, -, -, -, -⟩ := id hI
            rw [e4] at e2 y1
            simp only [Value.slice.injEq] at e2 e3
            obtain ⟨e2, -, -⟩ := e2
            obtain ⟨e3, -, -⟩ := e3
            subst e2 e3
            have hel : El (nth cs j) := HK.out.el _ (by rw [nth_at hj]; exact List.getElem_mem _)
            have hep := el_pubF (row := row) HK.out.el j (by omega)
            have HPW := Lib.hid (fun w => pow_yes (nth cs j) (nth row j) w hel hr2)
            have HML := Lib.hid (fun w => mul_yes (pubF row cs j) (powE (nth cs j) (nth row j)) w hep (el_powE hel _))
            have HNX := Lib.hid (show pubF row cs (j + 1) = pubF row cs j * powE (nth cs j) (nth row j) % 2147483579 from rfl)
            have i0 : 0 ≤ (j : Int) := by omega
            have i1 : (j : Int) < (row.length : Int) := by omega
            have i2 : (j : Int) < (cs.length : Int) := by omega
            have i3 : 0 ≤ (n : Int) := by omega
            have HBW := Lib.hid hb
            clear hk q1 hI hb e4 hel hep hrl
            generalize pubF row cs j = p1 at *
            generalize powE (nth cs j) (nth row j) = pw at *
            generalize nth cs j = cj at *
            generalize nth row j = rj at *
            go_wp2_with fail
            refine (HPW.out _).mono ?_
            rintro e w3 ⟨rfl, hb3⟩
            go_wp2_with fail
            refine (HML.out _).mono ?_
            rintro e w4 ⟨rfl, rfl⟩
            go_wp2_with fail
            go_roundw
            case rel => exact ⟨j + 1, by omega, by go_num, by rw [HNX.out], HBW.out.trans (hb3.mono HBW.out.size)⟩
            case measure => simp [intOf]; omega
          · obtain rfl : j = cs.length := by omega
            have HF := Lib.hid (HB2.out.trans (hb.mono HB2.out.size))
            clear hb f0
            go_wp2_with fail
            go_ret2
            exact ⟨by rw [HV.out, HW.out]; rfl, HF.out⟩
  · have HV : Hid (pubE rows owners cs r = dchkE rows owners cs) := Lib.hid (by unfold pubE; rw [if_pos hp])
    have HW : Hid (pubR rows owners cs r = 0) := Lib.hid (by unfold pubR; rw [HV.out, if_neg hp])
    have h2 : (dchkE rows owners cs != 0) = true := bne_iff_ne.2 hp
    go_enter Tryz.func114, Tryz.ntmps114
    go_wp2_with fail
    rw [← HW1.out]
    refine HDC.out.mono ?_
    rintro e w2 ⟨rfl, hb2⟩
    go_wp2_with fail
    go_ret2
    exact ⟨by rw [HV.out, HW.out]; rfl, HB1.out.trans (hb2.mono HB1.out.size)⟩

end Go.Proofs.YtggnipkfliompaaGreatDoor
