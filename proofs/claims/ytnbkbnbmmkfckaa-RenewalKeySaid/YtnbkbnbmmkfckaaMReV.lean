/- The laws of renewing: what a drawn region that renews has put. A law's argument that is a list of lists of words. The laws of renewing: RenewalKey. -/
import Derived.Test.YtnbkbnbmmkfckaaMReN
import Derived.Test.YtnbkbnbmmkfckaaMRegIn
import Derived.Test.YtnbkbnbmmkfckaaMProI
import Derived.Test.YtnbkbnbmmkfckaaMOpen
import Derived.Test.YtnbkbnbmmkfckaaMSuC
import Derived.Test.YtnbkbnbmmkfckaaMReQ
import Derived.Test.YtnbkbnbmmkfckaaMDeaS
namespace Go.Proofs.Ytnbkbnbmmkfckaa
open Go.RowKit FP

def projV (k : Nat) (t : Value) : Value := match t with
  | .tuple xs => xs.getD k undef
  | _ => undef
def RenOut (rv ov : Value) (rows : List (List Int)) (x : Int) (u y : List Int) (w : World) (t : Value) : Prop :=
  ∃ al cl ac cc ad cd ay cy, t = .tuple #[.agg #[.int .i64 0, rv, ov, .slice ac (colsQ rows) cc], .agg #[.int .i64 1, rv, ov, .slice ad (colsQ rows) cd], .slice al rows.length cl, .slice ay rows.length cy, .bool true] ∧
      Ints w (.slice ac (colsQ rows) cc) (dealC (x :: u)) ∧ Ints w (.slice ad (colsQ rows) cd) (dealC (x :: y)) ∧ Shares w (.slice al rows.length cl) (dealL rows (x :: u)) ∧ Shares w (.slice ay rows.length cy) (dealL rows (x :: y))
theorem RenOut.below {rv ov : Value} {rows : List (List Int)} {x : Int} {u y : List Int} {w w' : World} {t : Value} (h : RenOut rv ov rows x u y w t) (hb : Below w.heap.size w w') : RenOut rv ov rows x u y w' t := by
  obtain ⟨al, cl, ac, cc, ad, cd, ay, cy, e, h1, h2, h3, h4⟩ := h
  exact ⟨al, cl, ac, cc, ad, cd, ay, cy, e, h1.below hb, h2.below hb, h3.below hb, h4.below hb⟩
abbrev zeroK : Array Value := #[.int .i64 0, .slice none 0 0, .slice none 0 0, .slice none 0 0]
theorem RenOut.put {rv ov : Value} {rows : List (List Int)} {x : Int} {u y : List Int} {w : World} {t : Value} {B : Nat} {ty : TypeId} (h : RenOut rv ov rows x u y w t) (hS : w.heap[B]? = some (.cells zeroK ty (0, 0))) (e a b c : Value) : RenOut rv ov rows x u y (putKey w B e a b c) t := by
  obtain ⟨al, cl, ac, cc, ad, cd, ay, cy, e1, h1, h2, h3, h4⟩ := h
  exact ⟨al, cl, ac, cc, ad, cd, ay, cy, e1, h1.keyW0 hS (dealC_pos _) _ _ _ _, h2.keyW0 hS (dealC_pos _) _ _ _ _, h3.keyW0 hS _ _ _ _, h4.keyW0 hS _ _ _ _⟩
def aggC : Value → Array Value
  | .agg xs => xs
  | _ => #[]
/-- A box that a drawn region makes, and stores a key into. -/
def KeyBox (n0 : Nat) (ty : TypeId) (w : World) (d s : Bool) (v c : Value) : Prop := d = true → ∃ B, v = .pointer (some ⟨B, 0, none⟩) ∧ n0 ≤ B ∧ B < w.heap.size ∧ w.heap[B]? = some (.cells (if s = true then aggC c else zeroK) ty (0, 0))
structure Boxes (n0 : Nat) (ty : TypeId) (w : World) (dA dB sA sB : Bool) (vA vB cA cB : Value) : Prop where
  a0 : KeyBox n0 ty w dA sA vA cA
  b0 : KeyBox n0 ty w dB sB vB cB
  ne : dA = true → dB = true → vA ≠ vB
theorem KeyBox.below {n0 : Nat} {ty : TypeId} {w w' : World} {d s : Bool} {v c : Value} (h : KeyBox n0 ty w d s v c) (hb : Below w.heap.size w w') : KeyBox n0 ty w' d s v c := fun hd => by
  obtain ⟨B, e, h1, h2, h3⟩ := h hd
  exact ⟨B, e, h1, Nat.lt_of_lt_of_le h2 hb.size, (hb.block _ h2).trans h3⟩
theorem Boxes.below {n0 : Nat} {ty : TypeId} {w w' : World} {dA dB sA sB : Bool} {vA vB cA cB : Value} (h : Boxes n0 ty w dA dB sA sB vA vB cA cB) (hb : Below w.heap.size w w') : Boxes n0 ty w' dA dB sA sB vA vB cA cB := ⟨h.a0.below hb, h.b0.below hb, h.ne⟩
theorem Boxes.symm {n0 : Nat} {ty : TypeId} {w : World} {dA dB sA sB : Bool} {vA vB cA cB : Value} (h : Boxes n0 ty w dA dB sA sB vA vB cA cB) : Boxes n0 ty w dB dA sB sA vB vA cB cA := ⟨h.b0, h.a0, fun h1 h2 e => h.ne h2 h1 e.symm⟩
theorem Boxes.nil (n0 : Nat) (ty : TypeId) (w : World) (vA vB cA cB : Value) : Boxes n0 ty w false false false false vA vB cA cB := ⟨(fun h => by cases h), (fun h => by cases h), (fun h => by cases h)⟩
theorem Boxes.other {n0 : Nat} {ty : TypeId} {w : World} {dA dB sA sB : Bool} {vA vB cA cB cA' cB' : Value} (h : Boxes n0 ty w dA dB sA sB vA vB cA cB) (hA : sA = false) (hB : sB = false) : Boxes n0 ty w dA dB sA sB vA vB cA' cB' := by
  subst hA hB
  exact ⟨h.a0, h.b0, h.ne⟩
theorem Boxes.allocA {n0 : Nat} {ty : TypeId} {w : World} {dA dB sA sB : Bool} {vA vB cA cB : Value} (h : Boxes n0 ty w dA dB sA sB vA vB cA cB) (hs : sA = false) (hn : n0 ≤ w.heap.size) : Boxes n0 ty (w.alloc (.cells zeroK ty)) true dB sA sB (.pointer (some ⟨w.heap.size, 0, none⟩)) vB cA cB := by
  refine ⟨fun _ => ⟨w.heap.size, rfl, hn, by simp, ?_⟩, h.b0.below (below_new _ _ _), fun _ hd e => ?_⟩
  · rw [hs, if_neg (by decide)]
    exact World.alloc_heap_new _ _
  · obtain ⟨B, e1, h1, h2, -⟩ := h.b0 hd
    rw [e1] at e
    simp only [Value.pointer.injEq, Option.some.injEq, Addr.mk.injEq] at e
    omega
theorem Boxes.allocB {n0 : Nat} {ty : TypeId} {w : World} {dA dB sA sB : Bool} {vA vB cA cB : Value} (h : Boxes n0 ty w dA dB sA sB vA vB cA cB) (hs : sB = false) (hn : n0 ≤ w.heap.size) : Boxes n0 ty (w.alloc (.cells zeroK ty)) dA true sA sB vA (.pointer (some ⟨w.heap.size, 0, none⟩)) cA cB := (h.symm.allocA hs hn).symm
theorem Boxes.storeA {n0 : Nat} {ty : TypeId} {w : World} {dA dB sA sB : Bool} {vA vB cA cB : Value} {B : Nat} (h : Boxes n0 ty w dA dB sA sB vA vB cA cB) (hv : vA = .pointer (some ⟨B, 0, none⟩)) (hd : dA = true) {e a b c : Value} (hc : cA = .agg #[e, a, b, c]) (hS : w.heap[B]? = some (.cells zeroK ty (0, 0))) : Boxes n0 ty (putKey w B e a b c) dA dB true sB vA vB cA cB := by
  obtain ⟨B', e1, h1, h2, -⟩ := h.a0 hd
  have e2 : B' = B := by
    rw [hv] at e1
    simp only [Value.pointer.injEq, Option.some.injEq, Addr.mk.injEq] at e1
    exact e1.1.symm
  subst e2
  have hsz : ∀ B, B < w.heap.size → B < (putKey w B' e a b c).heap.size := fun B hB => by
    have := (keyW_below (n := 0) (Below.refl 0 w) (Nat.zero_le B') e a b c).size
    omega
  refine ⟨fun _ => ⟨B', hv, h1, hsz _ h2, ?_⟩, fun hb => ?_, h.ne⟩
  · rw [if_pos rfl, hc]
    exact keyW_heap hS _ _ _ _
  · obtain ⟨B2, e3, h3, h4, h5⟩ := h.b0 hb
    refine ⟨B2, e3, h3, hsz _ h4, ?_⟩
    rw [keyW_other w (show B2 ≠ B' from fun e => h.ne hd hb (by rw [hv, e3, e])), h5]
theorem Boxes.storeB {n0 : Nat} {ty : TypeId} {w : World} {dA dB sA sB : Bool} {vA vB cA cB : Value} {B : Nat} (h : Boxes n0 ty w dA dB sA sB vA vB cA cB) (hv : vB = .pointer (some ⟨B, 0, none⟩)) (hd : dB = true) {e a b c : Value} (hc : cB = .agg #[e, a, b, c]) (hS : w.heap[B]? = some (.cells zeroK ty (0, 0))) : Boxes n0 ty (putKey w B e a b c) dA dB sA true vA vB cA cB := (h.symm.storeA hv hd hc hS).symm

end Go.Proofs.Ytnbkbnbmmkfckaa

namespace Go.Proofs.Ytnbkbnbmmkfckaa
open Go.ChangeShapes Go.WideShapes Go.ChangeAt Go.RowKit Go.Deep

/-- The slice v reads as lists of words. -/
def WRows (w : World) (v : Value) (rows : List (List Int)) : Prop :=
  ∃ a cap, v = .slice a rows.length cap ∧ rows.length ≤ cap ∧ rows.length ≤ 17592186044416 ∧
    ∀ k (h : k < rows.length), ∃ b off r, a = some ⟨b, off, none⟩ ∧ w.cell? ⟨b, off + k, none⟩ = some r ∧ Words w r rows[k]
theorem WRows.below {w w' : World} {v : Value} {rows : List (List Int)} (h : WRows w v rows) (hb : Below w.heap.size w w') : WRows w' v rows := by
  obtain ⟨a, cap, h1, h2, h3, h4⟩ := h
  refine ⟨a, cap, h1, h2, h3, fun k hk => ?_⟩
  obtain ⟨b, off, r, h5, h6, h7⟩ := h4 k hk
  exact ⟨b, off, r, h5, below_cell hb h6, h7.below hb⟩
theorem WRows.nil (w : World) (a : Option Addr) (cap : Nat) : WRows w (.slice a 0 cap) [] := ⟨a, cap, rfl, Nat.zero_le _, Nat.zero_le _, fun _ h => absurd h (Nat.not_lt_zero _)⟩
theorem WRows.get {w : World} {v : Value} {ls : List (List Int)} (h : WRows w v ls) {k : Nat} (hk : k < ls.length) : ∃ b off n c r, v = .slice (some ⟨b, off, none⟩) n c ∧ w.cell? ⟨b, off + k, none⟩ = some r ∧ Words w r (ls.getD k []) := by
  obtain ⟨a, cap, h1, h2, h3, h4⟩ := h
  obtain ⟨b, off, r, rfl, h6, h7⟩ := h4 k hk
  exact ⟨b, off, _, _, r, h1, h6, by rw [getD_at hk]; exact h7⟩
set_option maxRecDepth 100000 in
theorem cellsWRow : Try.prog.cellsOf 57 = 1 := by kernel_rfl
set_option maxRecDepth 100000 in
theorem bytesWRow : Try.prog.bytesOf 57 = 24 := by kernel_rfl

section
variable {H : Type} {enc : TypeId × Value → H} {W : World}
set_option maxRecDepth 100000 in
theorem wordRow_light {A : Option Addr} {L : Nat} {zs : List Int} (h : Light 57 (intRow (H := H) .u32 A L zs)) (hA : A ≠ none) : zs.length ≤ 35184372088832 := by
  cases A with
  | none => exact absurd rfl hA
  | some a =>
    have h2 : ((zs.take L).length + (zs.drop L).length) * 4 ≤ reachBytes := h _ (by
      simp only [intRow, DataW.weights, Try.underlying57, bytesWord, lits, List.length_map]
      exact List.mem_cons_self ..)
    rw [reach_is] at h2
    simp at h2
    omega

set_option maxRecDepth 100000 in
/-- Lists of words as an argument. -/
theorem open_wrows {v : Value} {d : DataW H} {ps : List MemPlace} (hs : ∃ a n c, v = .slice a n c) (h : DataW.Trod enc Try.prog W 0 (fun _ => true) true 69 v d ps) (hl : Light 69 d) : ∃ rows, WRows W v rows := by
  obtain ⟨a0, len, cap, rfl⟩ := hs
  obtain ⟨fuel, hf⟩ := h
  rcases open_int_rows Try.underlying69 Try.underlying57 Try.underlying42 cellsWRow cellsWord hf with ⟨hcs, -⟩ | ⟨a, len', cap', A, L, C, Z, hcs, -, hle, hm, hx, hrows⟩
  · simp [Value.cells] at hcs
    obtain ⟨rfl, rfl, rfl⟩ := hcs
    exact ⟨[], WRows.nil _ _ _⟩
  · simp [Value.cells] at hcs
    obtain ⟨rfl, rfl, rfl⟩ := hcs
    simp only [Prod.mk.injEq] at hx
    have hlen : cap * 24 ≤ reachBytes := by
      have := hl ((len + (cap - len)) * 24) (by
        rw [hx.1]
        simp only [DataW.weights, Try.underlying69, bytesWRow, List.length_map, List.length_range]
        exact List.mem_cons_self ..)
      rwa [show len + (cap - len) = cap by omega] at this
    rw [reach_is] at hlen
    have hrow : ∀ r, r < len → ∃ zs : List Int, Words W (.slice (A r) (L r) (C r)) zs := fun r hr => by
      obtain ⟨h1, h2, h3, h4, h5, h6, h7⟩ := hrows r (by omega)
      cases hA : A r with
      | none =>
        have := h6 hA
        have hL : L r = 0 := by omega
        rw [hL]; exact ⟨[], Words.nil _ _ _⟩
      | some a' =>
        obtain ⟨-, hcell⟩ := h7 a' hA
        have hlt : Light 57 (intRow (H := H) .u32 (A r) (L r) (Z r)) := fun n hn => hl n (by
          rw [hx.1]
          simp only [DataW.weights, Try.underlying69]
          refine List.mem_cons_of_mem _ (List.mem_append_left _ (weightsAll_mem (List.mem_map.2 ⟨r, List.mem_range.2 hr, rfl⟩) hn)))
        have hzl := wordRow_light hlt (by rw [hA]; simp)
        refine ⟨(Z r).take (L r), some a', C r, by simp [h4, h2], by simp; omega, by simp; omega, fun z hzz => wf_u32 (h5 z (List.mem_of_mem_take hzz)), fun k hk => ?_⟩
        simp at hk
        obtain ⟨b, o, sp⟩ := a'
        have hsp : sp = none := by
          have h0 := World.cell?_spot (hcell 0 (by omega))
          simpa [Addr.add] using h0
        subst hsp
        refine ⟨b, o, rfl, ?_⟩
        rw [← add_plain, hcell k (by omega)]
        simp [List.getD, List.getElem?_eq_getElem (show k < (Z r).length by omega)]
    obtain ⟨f, hfz⟩ : ∃ f : Nat → List Int, ∀ r, r < len → Words W (.slice (A r) (L r) (C r)) (f r) :=
      ⟨fun r => if hr : r < len then (hrow r hr).choose else [], fun r hr => by simp only [dif_pos hr]; exact (hrow r hr).choose_spec⟩
    refine ⟨(List.range len).map f, some a, cap, by simp, by simp [hle], by simp; omega, fun k hk => ?_⟩
    simp at hk
    obtain ⟨b, o, sp⟩ := a
    have hsp : sp = none := by
      have h0 := World.cell?_spot (hrows 0 (by omega)).1
      simpa [Addr.add] using h0
    subst hsp
    refine ⟨b, o, .slice (A k) (L k) (C k), rfl, ?_, ?_⟩
    · rw [← add_plain]; exact (hrows k (by omega)).1
    · simpa using hfz k hk

end

end Go.Proofs.Ytnbkbnbmmkfckaa

namespace Go.Proofs.Ytnbkbnbmmkfckaa
open Go.RowKit FP

set_option maxRecDepth 100000 in
set_option maxHeartbeats 4000000 in
theorem numbers38_typed (rv ov lv : Value) (rows : List (List Int)) (owners l : List Int) (w : World) (hR : Rows2 w rv rows) (hO : Ints w ov owners) (hL : Words w lv l) (hp : ProgOK rows owners) :
    Calls Try.prog 32 #[.agg #[rv, ov], lv] w fun e w' => ∃ v, e = .returned v ∧ RI w' v (randQ rows l) ∧ Below w.heap.size w w' := by
  obtain ⟨W1, hW1, hb1, hr1, hz⟩ := box_prog w rv ov 25
  have HCO := Lib.hid (rcolumns_any rv ov rows owners W1 (hR.below hb1) (hO.below hb1))
  have HL1 := Lib.hid (hL.below hb1)
  obtain ⟨a, cap, rfl, -, hlen, -⟩ := id hR
  obtain ⟨a2, cap2, rfl, -, hlen2, -⟩ := id hO
  obtain ⟨a3, cap3, rfl, -, hlen3, -⟩ := id hL
  have c0 : W1.cell? ⟨w.heap.size, 0, none⟩ = some (.slice a rows.length cap) := row_cell hr1 rfl
  have c1 : W1.cell? ⟨w.heap.size, 1, none⟩ = some (.slice a2 owners.length cap2) := row_cell hr1 rfl
  have HW1 := Lib.hid hW1
  have HB1 := Lib.hid hb1
  have hci := hp.cols
  have hcu := hp.cols_le
  have HRQ : Hid (randQ rows l = (List.range (colsQ rows - 1)).map (randN l)) := Lib.hid rfl
  clear hR hO hL hr1 hW1 hb1 hp
  generalize colsQ rows = cq at *
  have hci2 : (1 : Int) ≤ (cq : Int) := by omega
  have hcv : (cq : Int) ≤ 64 := by omega
  go_enter Try.func32, Try.ntmps32
  go_wp2_with fail
  rw [← HW1.out]
  refine HCO.out.mono ?_
  rintro r w2 ⟨rfl, hb2⟩
  have HL2 := Lib.hid (HL1.out.below hb2)
  have HB2 := Lib.hid (HB1.out.trans (hb2.mono HB1.out.size))
  have h00 : w2.ownsRow w2.heap.size 3 1 (.slice none 0 0) 0 (((List.range 0).map (randN l)).map (Value.int .i64)) := World.ownsRow_nil _ _ _ _
  clear hb2 HCO c0 c1 HL1
  go_wp2_with fail
  go_loopw [4, 10] (fun C i W => ∃ k : Nat, k ≤ cq - 1 ∧ i = .int .i64 k ∧ W.ownsRow w2.heap.size 3 1 C k (((List.range k).map (randN l)).map (Value.int .i64)) ∧ Below w2.heap.size w2 W) (fun _ i _ => (cq - 1) - (intOf i).toNat)
  case atStart => exact ⟨0, Nat.zero_le _, rfl, h00, Below.refl _ _⟩
  case round =>
    clear h00
    obtain ⟨k, hkl, rfl, hown, hb⟩ := hrel
    by_cases hlt : k < cq - 1
    · have hd : decide ((k : Int) < (cq : Int) - 1) = true := decide_eq_true (by omega)
      have hk64 : k ≤ 64 := by omega
      by_cases hin : k < l.length
      · obtain ⟨aa, cc, e1, -, -, hr, hk⟩ := HL2.out
        obtain ⟨b, off, ha, q1⟩ := hk k hin
        simp only [Value.slice.injEq] at e1
        obtain ⟨rfl, -, rfl⟩ := e1
        subst ha
        have y1 := below_cell hb q1
        have hz := hr _ (List.getElem_mem hin)
        have HT : Hid (((List.range (k + 1)).map (randN l)).map (Value.int .i64) = ((List.range k).map (randN l)).map (Value.int .i64) ++ [.int .i64 (l[k] % 1073741789)]) := Lib.hid (by
          rw [range_snoc, List.map_append]; unfold randN; rw [if_pos hin, getD_at hin]; rfl)
        have hi1 : (k : Int) < (l.length : Int) := by omega
        have hz0 := hz.1
        have hz1 := hz.2
        have HBW := Lib.hid hb
        have HOW := Lib.hid hown
        clear hk hr q1 hb hown hz
        generalize l[k] = z at *
        have hm : z.tmod 1073741789 = z % 1073741789 := by rw [Int.tmod_eq_emod_of_nonneg hz0]
        have hw : IntKind.i64.wrap z = z := IntWalk.i64_in _ (by omega)
        have hmb := mod_r64 z
        have HN := Lib.hid (below_new wr #[.int .i64 (z % 1073741789)] 3)
        have HOX := Lib.hid (own_keep HOW.out HN.out)
        have hq0 : (wr.alloc (.cells #[.int .i64 (z % 1073741789)] 3)).cell? ⟨wr.heap.size, 0, none⟩ = some (.int .i64 (z % 1073741789)) := row_cell (World.alloc_heap_new _ _) rfl
        have HQ0 := Lib.hid hq0
        have HB9 := Lib.hid (HBW.out.trans (HN.out.mono HBW.out.size))
        have HBS := Lib.hid HB9.out.size
        clear hq0
        go_wp2_with (refine app_int rfl _ _ rfl w2.heap.size k _ _ rfl HOX.out wr.heap.size 1 (z % 1073741789) rfl HQ0.out (by omega) HBS.out ?_; intro v9 w9 h9 o9; have H9 := Lib.hid h9; have O9 := Lib.hid o9; clear h9 o9)
        go_roundw
        case rel => exact ⟨k + 1, by omega, by go_num, by rw [HT.out]; exact H9.out, HB9.out.trans (own_below HOX.out O9.out HBS.out)⟩
        case measure => simp [intOf]; omega
      · have HT : Hid (((List.range (k + 1)).map (randN l)).map (Value.int .i64) = ((List.range k).map (randN l)).map (Value.int .i64) ++ [.int .i64 0]) := Lib.hid (by
          rw [range_snoc, List.map_append]; unfold randN; rw [if_neg hin]; rfl)
        have hi1 : decide ((k : Int) < (l.length : Int)) = false := decide_eq_false (by omega)
        have hi2 : decide (k < l.length) = false := decide_eq_false (by omega)
        have HBW := Lib.hid hb
        have HOW := Lib.hid hown
        clear hb hown
        have HN := Lib.hid (below_new wr #[.int .i64 0] 3)
        have HOX := Lib.hid (own_keep HOW.out HN.out)
        have hq0 : (wr.alloc (.cells #[.int .i64 0] 3)).cell? ⟨wr.heap.size, 0, none⟩ = some (.int .i64 0) := row_cell (World.alloc_heap_new _ _) rfl
        have HQ0 := Lib.hid hq0
        have HB9 := Lib.hid (HBW.out.trans (HN.out.mono HBW.out.size))
        have HBS := Lib.hid HB9.out.size
        clear hq0
        go_wp2_with (refine app_int rfl _ _ rfl w2.heap.size k _ _ rfl HOX.out wr.heap.size 1 0 rfl HQ0.out (by omega) HBS.out ?_; intro v9 w9 h9 o9; have H9 := Lib.hid h9; have O9 := Lib.hid o9; clear h9 o9)
        go_roundw
        case rel => exact ⟨k + 1, by omega, by go_num, by rw [HT.out]; exact H9.out, HB9.out.trans (own_below HOX.out O9.out HBS.out)⟩
        case measure => simp [intOf]; omega
    · obtain rfl : k = cq - 1 := by omega
      have hd : decide (((cq - 1 : Nat) : Int) < (cq : Int) - 1) = false := decide_eq_false (by omega)
      have HIF := Lib.hid (RI.own (zs := randQ rows l) (by rw [HRQ.out]; exact hown) (by
        rw [HRQ.out]
        intro z hz
        obtain ⟨i, -, rfl⟩ := List.mem_map.1 hz
        exact num_r64 (randN_num l i)) (by rw [HRQ.out]; simp; omega))
      have HF := Lib.hid (HB2.out.trans (hb.mono HB2.out.size))
      clear hown hb
      go_wp2_with fail
      go_ret
      exact ⟨_, rfl, HIF.out, HF.out⟩




structure FKey (w0 : World) (rv ov lva alv : Value) (s : Int) (rows : List (List Int)) (R Y : List Int) (done : Nat → Bool) (v : Nat → Value) (w : World) : Prop where
  b : Below w0.heap.size w0 w
  f0 : done 0 = true → v 0 = .agg #[rv, ov]
  f1 : done 1 = true → v 1 = .int .i64 s
  f2 : done 2 = true → v 2 = .agg #[rv, ov]
  f3 : done 3 = true → v 3 = lva
  f4 : done 4 = true → done 6 = false → Ints w (v 4) R
  f5 : done 5 = true → v 5 = alv
  f6 : done 6 = true → RenOut rv ov rows s R Y w (v 6)
  f7 : done 7 = true → v 7 = v 6
  f8 : done 8 = true → v 8 = projV 0 (v 6)
  f9 : done 9 = true → v 9 = projV 1 (v 6)
  f10 : done 10 = true → v 10 = projV 2 (v 6)
  f11 : done 11 = true → v 11 = projV 3 (v 6)
  f12 : done 12 = true → v 12 = projV 4 (v 6)
  f17 : done 17 = true → v 17 = projV 2 (v 6)
  f18 : done 18 = true → v 18 = projV 3 (v 6)
  f19 : done 19 = true → v 19 = projV 4 (v 6)
  bx : Boxes w0.heap.size 38 w (done 13) (done 14) (done 15) (done 16) (v 13) (v 14) (projV 0 (v 6)) (projV 1 (v 6))

def rndF (rows : List (List Int)) (zss : List (List Int)) (k : Nat) : List Int := randQ rows (zss.getD k [])
theorem rndF_at (rows zss : List (List Int)) {k : Nat} (h : k < (zss.map (randQ rows)).length) : (zss.map (randQ rows))[k] = rndF rows zss k := by
  have hk : k < zss.length := by simpa using h
  unfold rndF
  rw [getD_at hk]
  simp
theorem dealC_first' (x : Int) (u : List Int) : nth (dealC (x :: u)) 0 = powE 4 x := by unfold dealC; rw [nth_mapv (by simp)]; rfl

set_option maxRecDepth 100000 in
set_option maxHeartbeats 16000000 in
theorem renewalKey_any (rv ov lv1 zv : Value) (rows : List (List Int)) (owners : List Int) (a : Int) (l1 : List Int) (zss : List (List Int)) (bs : Int) (w : World) (hR : Rows2 w rv rows) (hO : Ints w ov owners) (ha : 0 ≤ a ∧ a < 4294967296) (hL1 : Words w lv1 l1) (hZ : WRows w zv zss) (hbs : 0 ≤ bs ∧ bs < 18446744073709551616) :
    Calls Try.prog 9 #[.agg #[rv, ov], .int .u32 a, lv1, zv, .int .u64 bs] w fun e w' => e = .returned (.bool true) ∧ Below w.heap.size w w' := by
  obtain ⟨W1, hW1, hb1, hr1, hz⟩ := box_prog w rv ov 25
  have HR := Lib.hid (hR.below hb1)
  have HO := Lib.hid (hO.below hb1)
  have HX1 := Lib.hid (hL1.below hb1)
  have HZ := Lib.hid (hZ.below hb1)
  obtain ⟨ar, cap, rfl, -, hlen, -⟩ := id hR
  obtain ⟨a2, cap2, rfl, -, hlen2, -⟩ := id hO
  obtain ⟨a3, cap3, rfl, -⟩ := id hL1
  obtain ⟨a4, cap4, rfl, -, hlen4, -⟩ := id hZ
  have c0 : W1.cell? ⟨w.heap.size, 0, none⟩ = some (.slice ar rows.length cap) := row_cell hr1 rfl
  have c1 : W1.cell? ⟨w.heap.size, 1, none⟩ = some (.slice a2 owners.length cap2) := row_cell hr1 rfl
  have HW1 := Lib.hid hW1
  have HB := Lib.hid hb1
  have HS := Lib.hid (sane38_any W1)
  clear hR hO hL1 hZ hr1 hW1 hb1
  cases hsm : smallQ rows owners with
  | false =>
    have HSM := Lib.hid hsm
    clear hsm
    go_enter Try.func9, Try.ntmps9
    go_wp2_with fail
    rw [← HW1.out]
    with_reducible refine (HS.out).mono ?_
    rintro e w2 ⟨rfl, hb2⟩
    replace c0 := below_cell hb2 c0
    replace c1 := below_cell hb2 c1
    replace HR := Lib.hid (HR.out.below hb2)
    replace HO := Lib.hid (HO.out.below hb2)
    replace HX1 := Lib.hid (HX1.out.below hb2)
    replace HZ := Lib.hid (HZ.out.below hb2)
    replace HB := Lib.hid (HB.out.trans (hb2.mono HB.out.size))
    clear hb2
    go_wp2_with fail
    with_reducible refine (rsmall_any _ _ rows owners _ HR.out HO.out).mono ?_
    rintro e w3 ⟨rfl, hb3⟩
    replace c0 := below_cell hb3 c0
    replace c1 := below_cell hb3 c1
    replace HR := Lib.hid (HR.out.below hb3)
    replace HO := Lib.hid (HO.out.below hb3)
    replace HX1 := Lib.hid (HX1.out.below hb3)
    replace HZ := Lib.hid (HZ.out.below hb3)
    replace HB := Lib.hid (HB.out.trans (hb3.mono HB.out.size))
    clear hb3
    rw [HSM.out]
    go_wp2_with fail
    go_ret
    exact ⟨rfl, HB.out⟩
  | true =>
  by_cases hfew : zss.length ≤ 3
  case neg =>
    have HSM := Lib.hid hsm
    have hg3 : decide ((3 : Int) < (zss.length : Int)) = true := decide_eq_true (by omega)
    clear hsm
    go_enter Try.func9, Try.ntmps9
    go_wp2_with fail
    rw [← HW1.out]
    with_reducible refine (HS.out).mono ?_
    rintro e w2 ⟨rfl, hb2⟩
    replace c0 := below_cell hb2 c0
    replace c1 := below_cell hb2 c1
    replace HR := Lib.hid (HR.out.below hb2)
    replace HO := Lib.hid (HO.out.below hb2)
    replace HX1 := Lib.hid (HX1.out.below hb2)
    replace HZ := Lib.hid (HZ.out.below hb2)
    replace HB := Lib.hid (HB.out.trans (hb2.mono HB.out.size))
    clear hb2
    go_wp2_with fail
    with_reducible refine (rsmall_any _ _ rows owners _ HR.out HO.out).mono ?_
    rintro e w3 ⟨rfl, hb3⟩
    replace c0 := below_cell hb3 c0
    replace c1 := below_cell hb3 c1
    replace HR := Lib.hid (HR.out.below hb3)
    replace HO := Lib.hid (HO.out.below hb3)
    replace HX1 := Lib.hid (HX1.out.below hb3)
    replace HZ := Lib.hid (HZ.out.below hb3)
    replace HB := Lib.hid (HB.out.trans (hb3.mono HB.out.size))
    clear hb3
    rw [HSM.out]
    go_wp2_with fail
    go_ret
    exact ⟨rfl, HB.out⟩
  case pos =>
    have HSM := Lib.hid hsm
    have hg3 : decide ((3 : Int) < (zss.length : Int)) = false := decide_eq_false (by omega)
    obtain ⟨hrl, hp0, hcl⟩ := small_ok hsm
    have HPE := Lib.hid (fun w => people38_any bs w hbs.1 hbs.2)
    have HPR := Lib.hid (people_right bs)
    obtain ⟨who, hwho⟩ : ∃ who, who = peopleQ bs := ⟨_, rfl⟩
    rw [← hwho] at HPE HPR
    have HQ1 : Hid (questE rows owners who = 0) := Lib.hid (questE_of hp0 HPR.out)
    obtain ⟨s, hs⟩ : ∃ s, s = a % 1073741789 := ⟨_, rfl⟩
    have hsn : 0 ≤ s ∧ s < 1073741789 := by omega
    have hP := progE_ok hp0
    have hm1 : a.tmod 1073741789 = s := by rw [hs, Int.tmod_eq_emod_of_nonneg ha.1]
    have hw1 : IntKind.i64.wrap a = a := IntWalk.i64_in _ (by omega)
    have hd1 := rand_ok (owners := owners) hp0 l1 hsn
    have HD1 := Lib.hid (fun ww h1 h2 h3 => numbers38_any (.slice ar rows.length cap) (.slice a2 owners.length cap2) (.slice a3 l1.length cap3) rows owners l1 ww h1 h2 h3 hP)
    have HDT := Lib.hid (fun k (lv : Value) ww h1 h2 h3 => show Calls Try.prog 32 #[.agg #[.slice ar rows.length cap, .slice a2 owners.length cap2], lv] ww fun e w' => ∃ v, e = .returned v ∧ RI w' v (rndF rows zss k) ∧ Below ww.heap.size ww w' from numbers38_typed (.slice ar rows.length cap) (.slice a2 owners.length cap2) lv rows owners (zss.getD k []) ww h1 h2 h3 hP)
    obtain ⟨R, hRR⟩ : ∃ R, R = randQ rows l1 := ⟨_, rfl⟩
    rw [← hRR] at HD1 hd1
    have hz0 : ∀ z ∈ zss.map (randQ rows), DealOK rows owners 0 z := fun z hz => by
      obtain ⟨l, -, rfl⟩ := List.mem_map.1 hz
      exact rand_ok hp0 l (by decide)
    have HN1 := Lib.hid (fun mv zv ww h1 h2 h3 h4 => renewed_any (.slice ar rows.length cap) (.slice a2 owners.length cap2) mv zv rows owners s R (zss.map (randQ rows)) ww h1 h2 h3 h4 hd1 hp0 hz0 (by rw [List.length_map]; omega))
    obtain ⟨Y, hY⟩ : ∃ y, y = sumZ R (zss.map (randQ rows)) := ⟨_, rfl⟩
    have hd3 : DealOK rows owners s Y := hY ▸ sumZ_ok hd1
    rw [← hY] at HN1
    obtain ⟨ok, hok⟩ : ∃ ok, ok = accOk rows owners who := ⟨_, rfl⟩
    obtain ⟨C, hC⟩ : ∃ C, C = dealC (s :: R) := ⟨_, rfl⟩
    obtain ⟨C2, hC2⟩ : ∃ C, C = dealC (s :: Y) := ⟨_, rfl⟩
    obtain ⟨D, hD⟩ : ∃ D, D = dealL rows (s :: R) := ⟨_, rfl⟩
    obtain ⟨D2, hD2⟩ : ∃ D, D = dealL rows (s :: Y) := ⟨_, rfl⟩
    have hDl2 : D2.length = rows.length := by rw [hD2, dealL_len]
    have HDA := Lib.hid (fun k (h : k < D2.length) => show D2[k] = ((k : Int), prodQ (rows.getD k []) (s :: Y)) by subst hD2; exact dealL_at rows (s :: Y) h)
    have HFT := Lib.hid (fun (cv : Value) k (hk : k < rows.length) W h1 h2 h3 => (fits_any (.slice ar rows.length cap) (.slice a2 owners.length cap2) cv rows owners C2 k (prodQ (rows.getD k []) (s :: Y)) W h1 h2 h3 (R64.mk (by omega) (by omega)) (num_r64 (prodQ_num _ _))))
    have HFY := Lib.hid (fun k (hk : k < rows.length) => show fitE rows owners C2 k (prodQ (rows.getD k []) (s :: Y)) = 0 ∧ fitB rows owners C2 k (prodQ (rows.getD k []) (s :: Y)) = true by
      have := fit_deal hd3 hp0 hk (prodQ_num (rows.getD k []) (s :: Y))
      rw [hC2]
      exact ⟨this.1, this.2.trans (decide_eq_true rfl)⟩)
    have HI2 := Lib.hid (hD2 ▸ deal_in (s := s :: Y) hP)
    have hpl := peopleB_len HPR.out
    have hpl2 : who.length ≤ 100 := by omega
    have HOF := Lib.hid (fun (lv wv : Value) W h1 h2 h3 => of_any (.slice ar rows.length cap) (.slice a2 owners.length cap2) lv wv owners who D2 W ⟨_, _, _, rfl⟩ h1 h2 h3 (by omega) hpl2 HI2.out)
    have hrc := recovers_part (owners := owners) (s := s :: Y) hp0 hd3.nums (of_sub (rows := rows) (owners := owners) (s := s :: Y) HPR.out)
    rw [of_ok hp0 HPR.out, ← hD2, ← hok] at hrc
    obtain ⟨F, hF⟩ : ∃ F, F = ofQ owners who D2 := ⟨_, rfl⟩
    rw [← hF] at HOF hrc
    obtain ⟨n, hn⟩ : ∃ n, n = if ok = true then nth (s :: Y) 0 else 0 := ⟨_, rfl⟩
    rw [← hn] at hrc
    have HN := Lib.hid (show n = if ok = true then s else 0 from hn)
    have HRC := Lib.hid hrc
    have HC0 : Hid (nth C 0 = powE 4 s) := Lib.hid (by rw [hC]; exact dealC_first' s R)
    have HC02 : Hid (nth C2 0 = powE 4 s) := Lib.hid (by rw [hC2]; exact dealC_first' s Y)
    obtain ⟨cq, hcq⟩ : ∃ cq, cq = colsQ rows := ⟨_, rfl⟩
    have hCl : C.length = cq := by rw [hC, dealC_len, hcq]; exact hd1.full
    have hCl2 : C2.length = cq := by rw [hC2, dealC_len, hcq]; exact hd3.full
    have hcq1 : 1 ≤ cq := by have := hP.cols; omega
    have HOK := Lib.hid hok
    obtain ⟨key, hkey⟩ : ∃ key, key = powE 4 s := ⟨_, rfl⟩
    rw [← hkey] at HC0 HC02
    have HREN := Lib.hid (fun w t (h : RenOut (.slice ar rows.length cap) (.slice a2 owners.length cap2) rows s R Y w t) => show ∃ al cl ac cc ad cd ay cy, t = .tuple #[.agg #[.int .i64 0, .slice ar rows.length cap, .slice a2 owners.length cap2, .slice ac cq cc], .agg #[.int .i64 1, .slice ar rows.length cap, .slice a2 owners.length cap2, .slice ad cq cd], .slice al rows.length cl, .slice ay rows.length cy, .bool true] ∧ Ints w (.slice ac cq cc) C ∧ Ints w (.slice ad cq cd) C2 ∧ Shares w (.slice al rows.length cl) D ∧ Shares w (.slice ay rows.length cy) D2 by rw [hcq, hC, hC2, hD, hD2]; exact h)
    have ha0 := ha.1
    have ha1 := ha.2
    have HS1 := Lib.hid hs
    clear hsm hs hP hRR hY hd1 hd3 hz0 hC hC2 hD hD2 hcq hok hp0 ha hwho hbs hkey hrc hn hF
    go_enter Try.func9, Try.ntmps9
    go_wp2_with fail
    rw [← HW1.out]
    with_reducible refine (HS.out).mono ?_
    rintro e w2 ⟨rfl, hb2⟩
    replace c0 := below_cell hb2 c0
    replace c1 := below_cell hb2 c1
    replace HR := Lib.hid (HR.out.below hb2)
    replace HO := Lib.hid (HO.out.below hb2)
    replace HX1 := Lib.hid (HX1.out.below hb2)
    replace HZ := Lib.hid (HZ.out.below hb2)
    replace HB := Lib.hid (HB.out.trans (hb2.mono HB.out.size))
    clear hb2
    go_wp2_with fail
    with_reducible refine (rsmall_any _ _ rows owners _ HR.out HO.out).mono ?_
    rintro e w3 ⟨rfl, hb3⟩
    replace c0 := below_cell hb3 c0
    replace c1 := below_cell hb3 c1
    replace HR := Lib.hid (HR.out.below hb3)
    replace HO := Lib.hid (HO.out.below hb3)
    replace HX1 := Lib.hid (HX1.out.below hb3)
    replace HZ := Lib.hid (HZ.out.below hb3)
    replace HB := Lib.hid (HB.out.trans (hb3.mono HB.out.size))
    clear hb3
    rw [HSM.out]
    go_wp2_with fail
    have HACC := Acc2.nil w3.heap.size w3 (rndF rows zss) (fun _ => [])
    go_loopw [11, 43] (fun A i W => ∃ (k : Nat) (xs : List Value), k ≤ zss.length ∧ i = .int .i64 k ∧ Acc2 w3.heap.size W k 0 A (.slice none 0 0) xs [] (rndF rows zss) (fun _ => []) ∧ Below w3.heap.size w3 W) (fun _ i _ => zss.length - (intOf i).toNat)
    case atStart => exact ⟨0, [], Nat.zero_le _, rfl, HACC, Below.refl _ _⟩
    case round =>
      clear HACC
      obtain ⟨k, xs, hkl, rfl, hacc, hb⟩ := hrel
      have HACC := Lib.hid hacc
      have HBW := Lib.hid hb
      by_cases hlt : k < zss.length
      · obtain ⟨b, o, n', c, r, e, q, hI⟩ := HZ.out.get hlt
        simp only [Value.slice.injEq] at e
        obtain ⟨rfl, -, -⟩ := e
        have y1 := below_cell hb q
        have HI := Lib.hid (hI.below hb)
        have hI0 := HI.out
        generalize hzk : zss.getD k [] = zk at hI0
        obtain ⟨ra, rc, rfl, -⟩ := id hI0
        have HRw := Lib.hid (HR.out.below hb)
        have HOw := Lib.hid (HO.out.below hb)
        have d0 := below_cell hb c0
        have d1 := below_cell hb c1
        have i0 : 0 ≤ (k : Int) := by omega
        have i1 : (k : Int) < (zss.length : Int) := by omega
        have hk6 : k ≤ 1000000 := by omega
        clear q hI hI0 hacc hb hzk
        go_wp2_with fail
        with_reducible refine (HDT.out k _ _ HRw.out HOw.out HI.out).mono ?_
        rintro e w6 ⟨nv, rfl, hn6, hb6⟩
        obtain ⟨rn, hrn⟩ : ∃ r, r = rndF rows zss k := ⟨_, rfl⟩
        rw [← hrn] at hn6
        have HRF := Lib.hid hrn
        obtain ⟨na, nc, rfl, -⟩ := id hn6.ints
        have hn1 := below_new w6 #[.slice na rn.length nc] 23
        have HA1 := Lib.hid ((HACC.out.keep hb6).keep hn1)
        have HX1' : Hid (RI (w6.alloc (.cells #[.slice na rn.length nc] 23)) (.slice na rn.length nc) (rndF rows zss k)) := Lib.hid (by rw [← hrn]; exact hn6.below hn1)
        have HB1 := Lib.hid ((HBW.out.trans (hb6.mono HBW.out.size)).trans (hn1.mono (HBW.out.trans (hb6.mono HBW.out.size)).size))
        have HS1' := Lib.hid HB1.out.size
        clear hn6 hb6 hn1 d0 d1 y1 HACC HBW HI HRw HOw hrn
        go_wp2_with (refine app_rowT rfl _ _ rfl w3.heap.size k _ xs rfl HA1.out.o1 w6.heap.size 1 (.slice na rn.length nc) rfl (row_cell (World.alloc_heap_new _ _) rfl) rfl hk6 HS1'.out ?_; intro v9 w9 h9 o9; have HA2 := Lib.hid (HA1.out.one HX1'.out h9 o9); have HB2 := Lib.hid (HB1.out.trans (own_below HA1.out.o1 o9 HS1'.out)); clear h9 o9)
        go_roundw
        case rel => exact ⟨k + 1, _, by omega, by go_num, HA2.out, HB2.out⟩
        case measure => simp [intOf]; omega
      · obtain rfl : k = zss.length := by omega
        have HAL := Lib.hid (hacc.rows (css := zss.map (randQ rows)) (by simp) (by omega) (fun k h => rndF_at rows zss h))
        obtain ⟨aa, ca, eAL, -⟩ := id HAL.out
        rw [List.length_map] at eAL
        subst eAL
        have hdk : decide (zss.length < zss.length) = false := decide_eq_false (by omega)
        replace c0 := below_cell hb c0
        replace c1 := below_cell hb c1
        replace HR := Lib.hid (HR.out.below hb)
        replace HO := Lib.hid (HO.out.below hb)
        replace HX1 := Lib.hid (HX1.out.below hb)
        replace HZ := Lib.hid (HZ.out.below hb)
        replace HB := Lib.hid (HB.out.trans (hb.mono HB.out.size))
        clear hb
        obtain ⟨wl, hwl⟩ : ∃ wl : World, wl = wr := ⟨_, rfl⟩
        rw [← hwl] at HR HO HX1 HB HAL c0 c1 ⊢
        clear hwl hacc HACC HBW HZ HDT
        go_upto_region 12 with fail
        try rw [← HS1.out]
        refine wp_region_flows (by kernel_rfl) (by kernel_rfl) (by kernel_rfl) (by kernel_rfl) (fun done v W => FKey wl (.slice ar rows.length cap) (.slice a2 owners.length cap2) (.slice a3 l1.length cap3) (.slice aa zss.length ca) s rows R Y done v W) (fun v => ?_) ?_ (fun v W h => ?_)
        · exact ⟨(Below.refl _ _).drew, (fun h => by cases h), (fun h => by cases h), (fun h => by cases h), (fun h => by cases h), (fun h => by cases h), (fun h => by cases h), (fun h => by cases h), (fun h => by cases h), (fun h => by cases h), (fun h => by cases h), (fun h => by cases h), (fun h => by cases h), (fun h => by cases h), (fun h => by cases h), (fun h => by cases h), (fun h => by cases h), Boxes.nil _ _ _ _ _ _ _⟩
        · refine ⟨?_, ?_, ?_, ?_, ?_, ?_, ?_, ?_, ?_, ?_, ?_, ?_, ?_, ?_, ?_, ?_, ?_, ?_, ?_, ?_, trivial⟩
          · intro done v W A h hd hp hu hA hB
            have e : A.tmps[5]?.getD undef = .pointer (some ⟨w.heap.size, 0, none⟩) := hB 5 rfl
            have x0 := below_cell h.b c0
            have x1 := below_cell h.b c1
            clear hA hB hp hu
            go_simp
            exact ⟨_, rfl, ⟨h.b, (fun _ => rfl), h.f1, h.f2, h.f3, h.f4, h.f5, h.f6, h.f7, h.f8, h.f9, h.f10, h.f11, h.f12, h.f17, h.f18, h.f19, (h.bx)⟩⟩
          · intro done v W A h hd hp hu hA hB
            have e : A.tmps[14]?.getD undef = .int .i64 s := hB 14 rfl
            clear hA hB hp hu
            go_simp
            exact ⟨_, rfl, ⟨h.b, h.f0, (fun _ => rfl), h.f2, h.f3, h.f4, h.f5, h.f6, h.f7, h.f8, h.f9, h.f10, h.f11, h.f12, h.f17, h.f18, h.f19, (h.bx)⟩⟩
          · intro done v W A h hd hp hu hA hB
            have e : A.tmps[5]?.getD undef = .pointer (some ⟨w.heap.size, 0, none⟩) := hB 5 rfl
            have x0 := below_cell h.b c0
            have x1 := below_cell h.b c1
            clear hA hB hp hu
            go_simp
            exact ⟨_, rfl, ⟨h.b, h.f0, h.f1, (fun _ => rfl), h.f3, h.f4, h.f5, h.f6, h.f7, h.f8, h.f9, h.f10, h.f11, h.f12, h.f17, h.f18, h.f19, (h.bx)⟩⟩
          · intro done v W A h hd hp hu hA hB
            have e : A.tmps[2]?.getD undef = .slice a3 l1.length cap3 := hB 2 rfl
            clear hA hB hp hu
            go_simp
            exact ⟨_, rfl, ⟨h.b, h.f0, h.f1, h.f2, (fun _ => rfl), h.f4, h.f5, h.f6, h.f7, h.f8, h.f9, h.f10, h.f11, h.f12, h.f17, h.f18, h.f19, (h.bx)⟩⟩
          · intro done v W A h hd hp hu hA hB
            have hd2 : done 2 = true := hp 2 rfl
            have hd3 : done 3 = true := hp 3 rfl
            have e2 := (hA 2 60 rfl hd2).trans (h.f2 hd2)
            have e3 := (hA 3 61 rfl hd3).trans (h.f3 hd3)
            clear hA hB hp hu
            go_simp
            with_reducible refine (HD1.out _ (HR.out.below h.b) (HO.out.below h.b) (HX1.out.below h.b)).mono ?_
            rintro e wq ⟨y, rfl, hy, hb⟩
            exact ⟨_, rfl, ⟨h.b.trans (hb.mono h.b.size), h.f0, h.f1, h.f2, h.f3, (fun _ _ => hy), h.f5, (fun h1 => (h.f6 h1).below hb), h.f7, h.f8, h.f9, h.f10, h.f11, h.f12, h.f17, h.f18, h.f19, (h.bx.below hb)⟩⟩
          · intro done v W A h hd hp hu hA hB
            have e : A.tmps[11]?.getD undef = .slice aa zss.length ca := hB 11 rfl
            clear hA hB hp hu
            go_simp
            exact ⟨_, rfl, ⟨h.b, h.f0, h.f1, h.f2, h.f3, h.f4, (fun _ => rfl), h.f6, h.f7, h.f8, h.f9, h.f10, h.f11, h.f12, h.f17, h.f18, h.f19, (h.bx)⟩⟩
          · intro done v W A h hd hp hu hA hB
            have n7_6 : done 7 = false := flow_not (fun hj => hu 7 6 rfl (hj)) hd
            have n8_6 : done 8 = false := flow_not (fun hj => hu 7 6 rfl (hu 8 7 rfl (hj))) hd
            have n9_6 : done 9 = false := flow_not (fun hj => hu 7 6 rfl (hu 9 7 rfl (hj))) hd
            have n10_6 : done 10 = false := flow_not (fun hj => hu 7 6 rfl (hu 10 7 rfl (hj))) hd
            have n11_6 : done 11 = false := flow_not (fun hj => hu 7 6 rfl (hu 11 7 rfl (hj))) hd
            have n12_6 : done 12 = false := flow_not (fun hj => hu 7 6 rfl (hu 12 7 rfl (hj))) hd
            have n17_6 : done 17 = false := flow_not (fun hj => hu 17 6 rfl (hj)) hd
            have n18_6 : done 18 = false := flow_not (fun hj => hu 18 6 rfl (hj)) hd
            have n19_6 : done 19 = false := flow_not (fun hj => hu 19 6 rfl (hj)) hd
            have n15_6 : done 15 = false := flow_not (fun hj => hu 15 6 rfl (hj)) hd
            have n16_6 : done 16 = false := flow_not (fun hj => hu 16 6 rfl (hj)) hd
            have hd0 : done 0 = true := hp 0 rfl
            have hd1 : done 1 = true := hp 1 rfl
            have hd4 : done 4 = true := hp 4 rfl
            have hd5 : done 5 = true := hp 5 rfl
            have e0 := (hA 0 58 rfl hd0).trans (h.f0 hd0)
            have e1 := (hA 1 59 rfl hd1).trans (h.f1 hd1)
            have e5 := hA 4 62 rfl hd4
            have e7 := (hA 5 63 rfl hd5).trans (h.f5 hd5)
            have h5 := h.f4 hd4 hd
            clear hA hB hp hu
            go_simp
            with_reducible refine (HN1.out _ _ _ (HR.out.below h.b) (HO.out.below h.b) h5 (HAL.out.below h.b)).mono ?_
            rintro e wq ⟨al, cl, ac, cc, ad, cd, ay, cy, rfl, i1, i2, s1, s2, hb⟩
            exact ⟨_, rfl, ⟨h.b.trans (hb.mono h.b.size), h.f0, h.f1, h.f2, h.f3, (fun _ h2 => absurd (show true = false from h2) (by decide)), h.f5, (fun _ => ⟨al, cl, ac, cc, ad, cd, ay, cy, rfl, i1, i2, s1, s2⟩), (fun hj => absurd (hj.symm.trans n7_6) (by decide)), (fun hj => absurd (hj.symm.trans n8_6) (by decide)), (fun hj => absurd (hj.symm.trans n9_6) (by decide)), (fun hj => absurd (hj.symm.trans n10_6) (by decide)), (fun hj => absurd (hj.symm.trans n11_6) (by decide)), (fun hj => absurd (hj.symm.trans n12_6) (by decide)), (fun hj => absurd (hj.symm.trans n17_6) (by decide)), (fun hj => absurd (hj.symm.trans n18_6) (by decide)), (fun hj => absurd (hj.symm.trans n19_6) (by decide)), ((h.bx.other n15_6 n16_6).below hb)⟩⟩
          · intro done v W A h hd hp hu hA hB
            have hd6 : done 6 = true := hp 6 rfl
            have e : A.tmps[64]?.getD undef = v 6 := hA 6 64 rfl hd6
            clear hA hB hp hu
            go_simp
            exact ⟨_, rfl, ⟨h.b, h.f0, h.f1, h.f2, h.f3, h.f4, h.f5, h.f6, (fun _ => rfl), h.f8, h.f9, h.f10, h.f11, h.f12, h.f17, h.f18, h.f19, (h.bx)⟩⟩
          · intro done v W A h hd hp hu hA hB
            have hd6 : done 6 = true := hu 7 6 rfl (hp 7 rfl)
            have hd7 : done 7 = true := hp 7 rfl
            obtain ⟨al, cl, ac, cc, ad, cd, ay, cy, e8, -⟩ := h.f6 hd6
            have e := (hA 7 57 rfl hd7).trans ((h.f7 hd7).trans e8)
            clear hA hB hp hu
            go_simp
            exact ⟨_, rfl, ⟨h.b, h.f0, h.f1, h.f2, h.f3, h.f4, h.f5, h.f6, h.f7, (fun _ => (by show _ = projV 0 (v 6); rw [e8]; rfl)), h.f9, h.f10, h.f11, h.f12, h.f17, h.f18, h.f19, (h.bx)⟩⟩
          · intro done v W A h hd hp hu hA hB
            have hd6 : done 6 = true := hu 7 6 rfl (hp 7 rfl)
            have hd7 : done 7 = true := hp 7 rfl
            obtain ⟨al, cl, ac, cc, ad, cd, ay, cy, e8, -⟩ := h.f6 hd6
            have e := (hA 7 57 rfl hd7).trans ((h.f7 hd7).trans e8)
            clear hA hB hp hu
            go_simp
            exact ⟨_, rfl, ⟨h.b, h.f0, h.f1, h.f2, h.f3, h.f4, h.f5, h.f6, h.f7, h.f8, (fun _ => (by show _ = projV 1 (v 6); rw [e8]; rfl)), h.f10, h.f11, h.f12, h.f17, h.f18, h.f19, (h.bx)⟩⟩
          · intro done v W A h hd hp hu hA hB
            have hd6 : done 6 = true := hu 7 6 rfl (hp 7 rfl)
            have hd7 : done 7 = true := hp 7 rfl
            obtain ⟨al, cl, ac, cc, ad, cd, ay, cy, e8, -⟩ := h.f6 hd6
            have e := (hA 7 57 rfl hd7).trans ((h.f7 hd7).trans e8)
            clear hA hB hp hu
            go_simp
            exact ⟨_, rfl, ⟨h.b, h.f0, h.f1, h.f2, h.f3, h.f4, h.f5, h.f6, h.f7, h.f8, h.f9, (fun _ => (by show _ = projV 2 (v 6); rw [e8]; rfl)), h.f11, h.f12, h.f17, h.f18, h.f19, (h.bx)⟩⟩
          · intro done v W A h hd hp hu hA hB
            have hd6 : done 6 = true := hu 7 6 rfl (hp 7 rfl)
            have hd7 : done 7 = true := hp 7 rfl
            obtain ⟨al, cl, ac, cc, ad, cd, ay, cy, e8, -⟩ := h.f6 hd6
            have e := (hA 7 57 rfl hd7).trans ((h.f7 hd7).trans e8)
            clear hA hB hp hu
            go_simp
            exact ⟨_, rfl, ⟨h.b, h.f0, h.f1, h.f2, h.f3, h.f4, h.f5, h.f6, h.f7, h.f8, h.f9, h.f10, (fun _ => (by show _ = projV 3 (v 6); rw [e8]; rfl)), h.f12, h.f17, h.f18, h.f19, (h.bx)⟩⟩
          · intro done v W A h hd hp hu hA hB
            have hd6 : done 6 = true := hu 7 6 rfl (hp 7 rfl)
            have hd7 : done 7 = true := hp 7 rfl
            obtain ⟨al, cl, ac, cc, ad, cd, ay, cy, e8, -⟩ := h.f6 hd6
            have e := (hA 7 57 rfl hd7).trans ((h.f7 hd7).trans e8)
            clear hA hB hp hu
            go_simp
            exact ⟨_, rfl, ⟨h.b, h.f0, h.f1, h.f2, h.f3, h.f4, h.f5, h.f6, h.f7, h.f8, h.f9, h.f10, h.f11, (fun _ => (by show _ = projV 4 (v 6); rw [e8]; rfl)), h.f17, h.f18, h.f19, (h.bx)⟩⟩
          · intro done v W A h hd hp hu hA hB
            have n15_13 : done 15 = false := flow_not (fun hj => hu 15 13 rfl (hj)) hd
            have hb := below_new W zeroK 38
            have hn := h.b.size
            clear hA hB hp hu
            go_simp
            exact ⟨_, rfl, ⟨h.b.trans (hb.mono h.b.size), h.f0, h.f1, h.f2, h.f3, (fun h1 h2 => (h.f4 h1 h2).below hb), h.f5, (fun h1 => (h.f6 h1).below hb), h.f7, h.f8, h.f9, h.f10, h.f11, h.f12, h.f17, h.f18, h.f19, (h.bx.allocA n15_13 hn)⟩⟩
          · intro done v W A h hd hp hu hA hB
            have n16_14 : done 16 = false := flow_not (fun hj => hu 16 14 rfl (hj)) hd
            have hb := below_new W zeroK 38
            have hn := h.b.size
            clear hA hB hp hu
            go_simp
            exact ⟨_, rfl, ⟨h.b.trans (hb.mono h.b.size), h.f0, h.f1, h.f2, h.f3, (fun h1 h2 => (h.f4 h1 h2).below hb), h.f5, (fun h1 => (h.f6 h1).below hb), h.f7, h.f8, h.f9, h.f10, h.f11, h.f12, h.f17, h.f18, h.f19, (h.bx.allocB n16_14 hn)⟩⟩
          · intro done v W A h hd hp hu hA hB
            have hd6 : done 6 = true := hp 6 rfl
            have hd8 : done 8 = true := hp 8 rfl
            have hd13 : done 13 = true := hp 13 rfl
            obtain ⟨al, cl, ac, cc, ad, cd, ay, cy, e8, -⟩ := h.f6 hd6
            obtain ⟨B, eB, hn0, -, hS⟩ := h.bx.a0 hd13
            simp only [hd, Bool.false_eq_true, if_false] at hS
            have e1 := (hA 13 15 rfl hd13).trans eB
            have e2 := (hA 8 65 rfl hd8).trans ((h.f8 hd8).trans (congrArg (projV 0) e8))
            simp only [projV, Array.getD_eq_getD_getElem?, List.getElem?_toArray, List.getElem?_cons_zero, Option.getD_some] at e2
            have u0 := row_cell hS (k := 0) rfl
            have u1 := row_cell hS (k := 1) rfl
            have u2 := row_cell hS (k := 2) rfl
            have u3 := row_cell hS (k := 3) rfl
            have g0 := row_free hS 0
            have g1 := row_free hS 1
            have g2 := row_free hS 2
            have g3 := row_free hS 3
            clear hA hB hp hu
            go_simp
            exact ⟨undef, ⟨keyW_below h.b hn0 _ _ _ _, h.f0, h.f1, h.f2, h.f3, (fun _ h2 => absurd (hd6.symm.trans h2) (by decide)), h.f5, (fun h1 => (h.f6 h1).put hS _ _ _ _), h.f7, h.f8, h.f9, h.f10, h.f11, h.f12, h.f17, h.f18, h.f19, (h.bx.storeA eB hd13 (congrArg (projV 0) e8) hS)⟩⟩
          · intro done v W A h hd hp hu hA hB
            have hd6 : done 6 = true := hp 6 rfl
            have hd9 : done 9 = true := hp 9 rfl
            have hd14 : done 14 = true := hp 14 rfl
            obtain ⟨al, cl, ac, cc, ad, cd, ay, cy, e8, -⟩ := h.f6 hd6
            obtain ⟨B, eB, hn0, -, hS⟩ := h.bx.b0 hd14
            simp only [hd, Bool.false_eq_true, if_false] at hS
            have e1 := (hA 14 16 rfl hd14).trans eB
            have e2 := (hA 9 66 rfl hd9).trans ((h.f9 hd9).trans (congrArg (projV 1) e8))
            simp only [projV, Array.getD_eq_getD_getElem?, List.getElem?_toArray, List.getElem?_cons_zero, List.getElem?_cons_succ, Option.getD_some] at e2
            have u0 := row_cell hS (k := 0) rfl
            have u1 := row_cell hS (k := 1) rfl
            have u2 := row_cell hS (k := 2) rfl
            have u3 := row_cell hS (k := 3) rfl
            have g0 := row_free hS 0
            have g1 := row_free hS 1
            have g2 := row_free hS 2
            have g3 := row_free hS 3
            clear hA hB hp hu
            go_simp
            exact ⟨undef, ⟨keyW_below h.b hn0 _ _ _ _, h.f0, h.f1, h.f2, h.f3, (fun _ h2 => absurd (hd6.symm.trans h2) (by decide)), h.f5, (fun h1 => (h.f6 h1).put hS _ _ _ _), h.f7, h.f8, h.f9, h.f10, h.f11, h.f12, h.f17, h.f18, h.f19, (h.bx.storeB eB hd14 (congrArg (projV 1) e8) hS)⟩⟩
          · intro done v W A h hd hp hu hA hB
            have hd10 : done 10 = true := hp 10 rfl
            have e : A.tmps[67]?.getD undef = v 10 := hA 10 67 rfl hd10
            clear hA hB hp hu
            go_simp
            exact ⟨_, rfl, ⟨h.b, h.f0, h.f1, h.f2, h.f3, h.f4, h.f5, h.f6, h.f7, h.f8, h.f9, h.f10, h.f11, h.f12, (fun _ => h.f10 hd10), h.f18, h.f19, (h.bx)⟩⟩
          · intro done v W A h hd hp hu hA hB
            have hd11 : done 11 = true := hp 11 rfl
            have e : A.tmps[68]?.getD undef = v 11 := hA 11 68 rfl hd11
            clear hA hB hp hu
            go_simp
            exact ⟨_, rfl, ⟨h.b, h.f0, h.f1, h.f2, h.f3, h.f4, h.f5, h.f6, h.f7, h.f8, h.f9, h.f10, h.f11, h.f12, h.f17, (fun _ => h.f11 hd11), h.f19, (h.bx)⟩⟩
          · intro done v W A h hd hp hu hA hB
            have hd12 : done 12 = true := hp 12 rfl
            have e : A.tmps[69]?.getD undef = v 12 := hA 12 69 rfl hd12
            clear hA hB hp hu
            go_simp
            exact ⟨_, rfl, ⟨h.b, h.f0, h.f1, h.f2, h.f3, h.f4, h.f5, h.f6, h.f7, h.f8, h.f9, h.f10, h.f11, h.f12, h.f17, h.f18, (fun _ => h.f12 hd12), (h.bx)⟩⟩
        have hb4 := h.b
        obtain ⟨al, cl, ac, cc, ad, cd, ay, cy, e9, i1, i2, s1, s2⟩ := HREN.out _ _ (h.f6 rfl)
        have e20 : v 17 = .slice al rows.length cl := (h.f17 rfl).trans (congrArg (projV 2) e9)
        have e21 : v 18 = .slice ay rows.length cy := (h.f18 rfl).trans (congrArg (projV 3) e9)
        have e22 : v 19 = .bool true := (h.f19 rfl).trans (congrArg (projV 4) e9)
        obtain ⟨B, eB, -, -, hqA⟩ := h.bx.a0 rfl
        obtain ⟨B', eB', -, -, hqB⟩ := h.bx.b0 rfl
        rw [e9] at hqA hqB
        have QA : Hid (W.heap[B]? = some (.cells #[.int .i64 0, .slice ar rows.length cap, .slice a2 owners.length cap2, .slice ac cq cc] 38 (0, 0))) := Lib.hid hqA
        have QB : Hid (W.heap[B']? = some (.cells #[.int .i64 1, .slice ar rows.length cap, .slice a2 owners.length cap2, .slice ad cq cd] 38 (0, 0))) := Lib.hid hqB
        have HC1 := Lib.hid i1
        have HC2 := Lib.hid i2
        have HDB := Lib.hid s2
        clear i1 i2 s1 s2 hqA hqB h
        replace c0 := below_cell hb4 c0
        replace c1 := below_cell hb4 c1
        replace HR := Lib.hid (HR.out.below hb4)
        replace HO := Lib.hid (HO.out.below hb4)
        replace HX1 := Lib.hid (HX1.out.below hb4)
        replace HAL := Lib.hid (HAL.out.below hb4)
        replace HB := Lib.hid (HB.out.trans (hb4.mono HB.out.size))
        clear hb4
        clear HX1 HD1 HN1 HREN HAL
        simp only [putL, Act.put, Nat.reduceAdd, List.setIfInBounds_toArray, List.set_cons_zero, List.set_cons_succ, e20, e21, e22, eB, eB']
        clear e9 e20 e21 e22 eB eB'
        obtain ⟨-, bd, od, nd, kd, ed, qd⟩ := HC1.out.get (k := 0) (by omega)
        simp only [Value.slice.injEq] at ed
        obtain ⟨rfl, -, -⟩ := ed
        rw [HC0.out, Nat.add_zero] at qd
        obtain ⟨-, be, oe, ne, ke, ee, qe⟩ := HC2.out.get (k := 0) (by omega)
        simp only [Value.slice.injEq] at ee
        obtain ⟨rfl, -, -⟩ := ee
        rw [HC02.out, Nat.add_zero] at qe
        have x0 := row_cell QA.out (k := 0) (v := .int .i64 0) rfl
        have x3 := row_cell QA.out (k := 3) (v := .slice (some ⟨bd, od, none⟩) cq cc) rfl
        have y0 := row_cell QB.out (k := 0) (v := .int .i64 1) rfl
        have y3 := row_cell QB.out (k := 3) (v := .slice (some ⟨be, oe, none⟩) cq cd) rfl
        have hcz : ((cq : Int) != (cq : Int)) = false := by simp
        have hkz : (key != key) = false := by simp
        have hcq2 : (0 : Int) < (cq : Int) := by omega
        have hcq3 : 0 < cq := by omega
        clear QA QB
        go_upto_region 13 with fail
        have hbd : Below W.heap.size W W.drew := (Below.refl _ _).drew
        replace HR := Lib.hid (HR.out.below hbd)
        replace HO := Lib.hid (HO.out.below hbd)
        replace HC1 := Lib.hid (HC1.out.below hbd)
        replace HC2 := Lib.hid (HC2.out.below hbd)
        replace HDB := Lib.hid (HDB.out.below hbd)
        replace HB := Lib.hid (HB.out.drew)
        clear hbd
        go_region_held3 (fun w' => w'.cell? ⟨B, 0, none⟩ = some (.int .i64 0) ∧ w'.cell? ⟨B, 3, none⟩ = some (.slice (some ⟨bd, od, none⟩) cq cc) ∧ w'.cell? ⟨B', 0, none⟩ = some (.int .i64 1) ∧ w'.cell? ⟨B', 3, none⟩ = some (.slice (some ⟨be, oe, none⟩) cq cd) ∧ w'.cell? ⟨bd, od, none⟩ = some (.int .i64 key) ∧ w'.cell? ⟨be, oe, none⟩ = some (.int .i64 key)) (first | go_keep | exact ⟨x0, x3, y0, y3, qd, qe⟩) (fail)
        obtain ⟨wm, hwm⟩ : ∃ wm : World, wm = W.drew := ⟨_, rfl⟩
        have hbm : Below W.heap.size W wm := hwm ▸ (Below.refl _ _).drew
        rw [← hwm] at HR HO HB HC1 HC2 HDB ⊢
        replace c0 := below_cell hbm c0
        replace c1 := below_cell hbm c1
        replace y3 := below_cell hbm y3
        clear x0 x3 y0 qd qe hcz hkz hbm hwm HC1
        go_wp2_with fail
        go_loopw [21, 22, 102] (fun _ _ i W' => ∃ k : Nat, k ≤ rows.length ∧ i = .int .i64 k ∧ Below wm.heap.size wm W') (fun _ _ i _ => rows.length - (intOf i).toNat)
        case atStart => exact ⟨0, Nat.zero_le _, rfl, Below.refl _ _⟩
        case round =>
          obtain ⟨k, hkl2, rfl, hb⟩ := hrel
          by_cases hlt : k < rows.length
          · obtain ⟨aS, cS, eS, -, -, -, hk⟩ := HDB.out
            have hkD : k < D2.length := by rw [hDl2]; exact hlt
            obtain ⟨b, off, ea, qa, qb⟩ := hk k hkD
            simp only [Value.slice.injEq] at eS
            obtain ⟨rfl, -, -⟩ := eS
            subst ea
            rw [HDA.out k hkD] at qa qb
            have z1 := below_cell hb qa
            have z2 := below_cell hb qb
            simp only at z1 z2
            have HFK := Lib.hid (HFT.out (.slice (some ⟨be, oe, none⟩) cq cd) k hlt)
            have hF1 := (HFY.out k hlt).1
            have hF2 := (HFY.out k hlt).2
            rw [hF1, hF2] at HFK
            have i0 : 0 ≤ (k : Int) := by omega
            have i1 : (k : Int) < (rows.length : Int) := by omega
            have HBW := Lib.hid hb
            clear hk qa qb hb hF1 hF2
            generalize prodQ (rows.getD k []) (s :: Y) = p at *
            have hbn := below_new wr #[.int .i64 k, .int .i64 p] 27
            have HB9 := Lib.hid (HBW.out.trans (hbn.mono HBW.out.size))
            have z0 : (wr.alloc (.cells #[.int .i64 k, .int .i64 p] 27)).heap[wr.heap.size]? = some (.cells #[.int .i64 k, .int .i64 p] 27 (0, 0)) := World.alloc_heap_new _ _
            have z3 := row_cell z0 (k := 0) rfl
            have z4 := row_cell z0 (k := 1) rfl
            have HR9 := Lib.hid (HR.out.below HB9.out)
            have HO9 := Lib.hid (HO.out.below HB9.out)
            have HC9 := Lib.hid (HC2.out.below HB9.out)
            have d0 := below_cell HB9.out c0
            have d1 := below_cell HB9.out c1
            have d3 := below_cell HB9.out y3
            clear hbn z0
            go_wp2_with fail
            with_reducible refine (HFK.out _ HR9.out HO9.out HC9.out).mono ?_
            rintro e w6 ⟨rfl, hb6⟩
            have HB10 := Lib.hid (HB9.out.trans (hb6.mono HB9.out.size))
            clear d0 d1 d3 z1 z2 z3 z4
            go_wp2_with fail
            refine ⟨?_, ?measure⟩
            repeat apply Exists.intro
            refine ⟨?rel, ?eqq⟩
            case eqq => congr 1
            case rel => exact ⟨k + 1, by omega, by go_num, HB10.out⟩
            case measure => simp [intOf]; omega
          · obtain rfl : k = rows.length := by omega
            have hdk2 : decide (rows.length < rows.length) = false := decide_eq_false (by omega)
            replace c0 := below_cell hb c0
            replace c1 := below_cell hb c1
            replace y3 := below_cell hb y3
            replace HR := Lib.hid (HR.out.below hb)
            replace HO := Lib.hid (HO.out.below hb)
            replace HC2 := Lib.hid (HC2.out.below hb)
            replace HDB := Lib.hid (HDB.out.below hb)
            replace HB := Lib.hid (HB.out.trans (hb.mono HB.out.size))
            clear hb
            obtain ⟨wn, hwn⟩ : ∃ wn : World, wn = wr := ⟨_, rfl⟩
            rw [← hwn] at HR HO HB HDB c0 c1 ⊢
            clear hwn y3 HC2
            go_wp2_with fail
            with_reducible refine (HPE.out _).mono ?_
            rintro e w16 ⟨wv, rfl, hwv, hb16⟩
            replace c0 := below_cell hb16 c0
            replace c1 := below_cell hb16 c1
            replace HR := Lib.hid (HR.out.below hb16)
            replace HO := Lib.hid (HO.out.below hb16)
            replace HDB := Lib.hid (HDB.out.below hb16)
            replace HB := Lib.hid (HB.out.trans (hb16.mono HB.out.size))
            clear hb16
            have HWH := Lib.hid hwv
            obtain ⟨aw, cw, rfl, -⟩ := id hwv
            clear hwv
            go_wp2_with fail
            with_reducible refine (accepts_any _ _ _ rows owners who _ HR.out HO.out HWH.out).mono ?_
            rintro e w17 ⟨yv, rfl, hyv, hb17⟩
            replace c0 := below_cell hb17 c0
            replace c1 := below_cell hb17 c1
            replace HR := Lib.hid (HR.out.below hb17)
            replace HO := Lib.hid (HO.out.below hb17)
            replace HDB := Lib.hid (HDB.out.below hb17)
            replace HWH := Lib.hid (HWH.out.below hb17)
            replace HB := Lib.hid (HB.out.trans (hb17.mono HB.out.size))
            clear hb17
            rw [HQ1.out, ← HOK.out]
            obtain ⟨ya, yc, rfl, -⟩ := id hyv
            clear hyv
            go_upto_region 24 with fail
            have hbd : Below w17.heap.size w17 w17.drew := (Below.refl _ _).drew
            replace HR := Lib.hid (HR.out.below hbd)
            replace HO := Lib.hid (HO.out.below hbd)
            replace HDB := Lib.hid (HDB.out.below hbd)
            replace HWH := Lib.hid (HWH.out.below hbd)
            replace HB := Lib.hid (HB.out.drew)
            clear hbd
            go_region_held3 (fun w' => w'.cell? ⟨w.heap.size, 0, none⟩ = some (.slice ar rows.length cap) ∧ w'.cell? ⟨w.heap.size, 1, none⟩ = some (.slice a2 owners.length cap2)) (first | go_keep | exact ⟨c0, c1⟩)
              (first
                | (go_at_call 42; (with_reducible refine (HOF.out _ _ _ HO.out HDB.out HWH.out).mono ?_); rintro e w18 ⟨fv, rfl, hfv, hb18⟩; have HF := Lib.hid hfv; clear hfv; replace c0 := below_cell hb18 c0; replace c1 := below_cell hb18 c1; replace HR := Lib.hid (HR.out.below hb18); replace HO := Lib.hid (HO.out.below hb18); replace HDB := Lib.hid (HDB.out.below hb18); replace HWH := Lib.hid (HWH.out.below hb18); replace HB := Lib.hid (HB.out.trans (hb18.mono HB.out.size)); clear hb18)
                | (go_at_call 41; (with_reducible refine (HRC.out _ _ _ _ HR.out HO.out HF.out).mono ?_); rintro e w19 ⟨rfl, hb19⟩; replace c0 := below_cell hb19 c0; replace c1 := below_cell hb19 c1; replace HR := Lib.hid (HR.out.below hb19); replace HO := Lib.hid (HO.out.below hb19); replace HDB := Lib.hid (HDB.out.below hb19); replace HWH := Lib.hid (HWH.out.below hb19); replace HB := Lib.hid (HB.out.trans (hb19.mono HB.out.size)); clear hb19))
            cases hok : ok with
            | false =>
              have hrx : n = 0 := by rw [HN.out, hok]; rfl
              subst hrx
              go_wp2_with fail
              go_ret
              exact ⟨rfl, HB.out⟩
            | true =>
              have hrx : n = s := by rw [HN.out, hok]; rfl
              subst hrx
              have hxx : (n == n) = true := by simp
              go_wp2_with fail
              go_ret
              exact ⟨rfl, HB.out⟩

end Go.Proofs.Ytnbkbnbmmkfckaa
