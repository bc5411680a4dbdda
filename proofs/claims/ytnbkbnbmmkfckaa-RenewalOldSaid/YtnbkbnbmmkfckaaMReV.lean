/- The laws of renewing: what a drawn region that renews has put. The laws of renewing: RenewalOld. -/
import Derived.Test.YtnbkbnbmmkfckaaMReN
import Derived.Test.YtnbkbnbmmkfckaaMRegIn
import Derived.Test.YtnbkbnbmmkfckaaMProI
import Derived.Test.YtnbkbnbmmkfckaaMReQ
import Derived.Test.YtnbkbnbmmkfckaaMDeaS
import Derived.Test.YtnbkbnbmmkfckaaMOpen
namespace Go.Proofs.Ytnbkbnbmmkfckaa
open Go.RowKit FP

def projV (k : Nat) (t : Value) : Value := match t with
  | .tuple xs => xs.getD k undef
  | _ => undef
def RenOut (rv ov : Value) (rows : List (List Int)) (x : Int) (u y : List Int) (w : World) (t : Value) : Prop :=
  ∃ al cl ac cc ad cd ay cy, t = .tuple #[.agg #[.int .i64 0, rv, ov, .slice ac (colsQ rows) cc], .agg #[.int .i64 1, rv, ov, .slice ad (colsQ rows) cd], .slice al rows.length cl, .slice ay rows.length cy, .bool true] ∧
      Ints w (.slice ac (colsQ rows) cc) (dealC (x :: u)) ∧ Ints w (.slice ad (colsQ rows) cd) (dealC (x :: y)) ∧ Shares w (.slice al rows.length cl) (dealL rows (x :: u)) ∧ Shares w (.slice ay rows.length cy) (dealL rows (x :: y))
theorem RenOut.below {rv ov : Value} {rows : List (List Int)} {x : Int} {u y : List Int} {w w' : World} {t : Value} (h : RenOut rv ov rows x u y w t) (hb : Below w.heap.size w w') : RenOut rv ov rows x u y w' t := by
  obtain ⟨al, cl, ac, cc, ad, cd, ay, cy, e, h1, h2, h3, h4⟩ := h
  exact ⟨al, cl, ac, cc, ad, cd, ay, cy, e, h1.below hb, h2.below hb, h3.below hb, h4.below hb⟩
abbrev zeroK : Array Value := #[.int .i64 0, .slice none 0 0, .slice none 0 0, .slice none 0 0]
theorem RenOut.put {rv ov : Value} {rows : List (List Int)} {x : Int} {u y : List Int} {w : World} {t : Value} {B : Nat} {ty : TypeId} (h : RenOut rv ov rows x u y w t) (hS : w.heap[B]? = some (.cells zeroK ty (0, 0))) (e a b c : Value) : RenOut rv ov rows x u y (putKey w B e a b c) t := by
  obtain ⟨al, cl, ac, cc, ad, cd, ay, cy, e1, h1, h2, h3, h4⟩ := h
  exact ⟨al, cl, ac, cc, ad, cd, ay, cy, e1, h1.keyW0 hS (dealC_pos _) _ _ _ _, h2.keyW0 hS (dealC_pos _) _ _ _ _, h3.keyW0 hS _ _ _ _, h4.keyW0 hS _ _ _ _⟩
def aggC : Value → Array Value
  | .agg xs => xs
  | _ => #[]
/-- A box that a drawn region makes, and stores a key into. -/
def KeyBox (n0 : Nat) (ty : TypeId) (w : World) (d s : Bool) (v c : Value) : Prop := d = true → ∃ B, v = .pointer (some ⟨B, 0, none⟩) ∧ n0 ≤ B ∧ B < w.heap.size ∧ w.heap[B]? = some (.cells (if s = true then aggC c else zeroK) ty (0, 0))
structure Boxes (n0 : Nat) (ty : TypeId) (w : World) (dA dB sA sB : Bool) (vA vB cA cB : Value) : Prop where
  a0 : KeyBox n0 ty w dA sA vA cA
  b0 : KeyBox n0 ty w dB sB vB cB
  ne : dA = true → dB = true → vA ≠ vB
theorem KeyBox.below {n0 : Nat} {ty : TypeId} {w w' : World} {d s : Bool} {v c : Value} (h : KeyBox n0 ty w d s v c) (hb : Below w.heap.size w w') : KeyBox n0 ty w' d s v c := fun hd => by
  obtain ⟨B, e, h1, h2, h3⟩ := h hd
  exact ⟨B, e, h1, Nat.lt_of_lt_of_le h2 hb.size, (hb.block _ h2).trans h3⟩
theorem Boxes.below {n0 : Nat} {ty : TypeId} {w w' : World} {dA dB sA sB : Bool} {vA vB cA cB : Value} (h : Boxes n0 ty w dA dB sA sB vA vB cA cB) (hb : Below w.heap.size w w') : Boxes n0 ty w' dA dB sA sB vA vB cA cB := ⟨h.a0.below hb, h.b0.below hb, h.ne⟩
theorem Boxes.symm {n0 : Nat} {ty : TypeId} {w : World} {dA dB sA sB : Bool} {vA vB cA cB : Value} (h : Boxes n0 ty w dA dB sA sB vA vB cA cB) : Boxes n0 ty w dB dA sB sA vB vA cB cA := ⟨h.b0, h.a0, fun h1 h2 e => h.ne h2 h1 e.symm⟩
theorem Boxes.nil (n0 : Nat) (ty : TypeId) (w : World) (vA vB cA cB : Value) : Boxes n0 ty w false false false false vA vB cA cB := ⟨(fun h => by cases h), (fun h => by cases h), (fun h => by cases h)⟩
theorem Boxes.other {n0 : Nat} {ty : TypeId} {w : World} {dA dB sA sB : Bool} {vA vB cA cB cA' cB' : Value} (h : Boxes n0 ty w dA dB sA sB vA vB cA cB) (hA : sA = false) (hB : sB = false) : Boxes n0 ty w dA dB sA sB vA vB cA' cB' := by
  subst hA hB
  exact ⟨h.a0, h.b0, h.ne⟩
theorem Boxes.allocA {n0 : Nat} {ty : TypeId} {w : World} {dA dB sA sB : Bool} {vA vB cA cB : Value} (h : Boxes n0 ty w dA dB sA sB vA vB cA cB) (hs : sA = false) (hn : n0 ≤ w.heap.size) : Boxes n0 ty (w.alloc (.cells zeroK ty)) true dB sA sB (.pointer (some ⟨w.heap.size, 0, none⟩)) vB cA cB := by
  refine ⟨fun _ => ⟨w.heap.size, rfl, hn, by simp, ?_⟩, h.b0.below (below_new _ _ _), fun _ hd e => ?_⟩
  · rw [hs, if_neg (by decide)]
    exact World.alloc_heap_new _ _
  · obtain ⟨B, e1, h1, h2, -⟩ := h.b0 hd
    rw [e1] at e
    simp only [Value.pointer.injEq, Option.some.injEq, Addr.mk.injEq] at e
    omega
theorem Boxes.allocB {n0 : Nat} {ty : TypeId} {w : World} {dA dB sA sB : Bool} {vA vB cA cB : Value} (h : Boxes n0 ty w dA dB sA sB vA vB cA cB) (hs : sB = false) (hn : n0 ≤ w.heap.size) : Boxes n0 ty (w.alloc (.cells zeroK ty)) dA true sA sB vA (.pointer (some ⟨w.heap.size, 0, none⟩)) cA cB := (h.symm.allocA hs hn).symm
theorem Boxes.storeA {n0 : Nat} {ty : TypeId} {w : World} {dA dB sA sB : Bool} {vA vB cA cB : Value} {B : Nat} (h : Boxes n0 ty w dA dB sA sB vA vB cA cB) (hv : vA = .pointer (some ⟨B, 0, none⟩)) (hd : dA = true) {e a b c : Value} (hc : cA = .agg #[e, a, b, c]) (hS : w.heap[B]? = some (.cells zeroK ty (0, 0))) : Boxes n0 ty (putKey w B e a b c) dA dB true sB vA vB cA cB := by
  obtain ⟨B', e1, h1, h2, -⟩ := h.a0 hd
  have e2 : B' = B := by
    rw [hv] at e1
    simp only [Value.pointer.injEq, Option.some.injEq, Addr.mk.injEq] at e1
    exact e1.1.symm
  subst e2
  have hsz : ∀ B, B < w.heap.size → B < (putKey w B' e a b c).heap.size := fun B hB => by
    have := (keyW_below (n := 0) (Below.refl 0 w) (Nat.zero_le B') e a b c).size
    omega
  refine ⟨fun _ => ⟨B', hv, h1, hsz _ h2, ?_⟩, fun hb => ?_, h.ne⟩
  · rw [if_pos rfl, hc]
    exact keyW_heap hS _ _ _ _
  · obtain ⟨B2, e3, h3, h4, h5⟩ := h.b0 hb
    refine ⟨B2, e3, h3, hsz _ h4, ?_⟩
    rw [keyW_other w (show B2 ≠ B' from fun e => h.ne hd hb (by rw [hv, e3, e])), h5]
theorem Boxes.storeB {n0 : Nat} {ty : TypeId} {w : World} {dA dB sA sB : Bool} {vA vB cA cB : Value} {B : Nat} (h : Boxes n0 ty w dA dB sA sB vA vB cA cB) (hv : vB = .pointer (some ⟨B, 0, none⟩)) (hd : dB = true) {e a b c : Value} (hc : cB = .agg #[e, a, b, c]) (hS : w.heap[B]? = some (.cells zeroK ty (0, 0))) : Boxes n0 ty (putKey w B e a b c) dA dB sA true vA vB cA cB := (h.symm.storeA hv hd hc hS).symm

end Go.Proofs.Ytnbkbnbmmkfckaa

namespace Go.Proofs.Ytnbkbnbmmkfckaa
open Go.RowKit FP

structure FOld (w0 : World) (rv ov lva lvb : Value) (s : Int) (rows : List (List Int)) (R N Y : List Int) (done : Nat → Bool) (v : Nat → Value) (w : World) : Prop where
  b : Below w0.heap.size w0 w
  f0 : done 0 = true → v 0 = .agg #[rv, ov]
  f1 : done 1 = true → v 1 = .int .i64 s
  f2 : done 2 = true → v 2 = .agg #[rv, ov]
  f3 : done 3 = true → v 3 = lva
  f4 : done 4 = true → done 9 = false → Ints w (v 4) R
  f5 : done 5 = true → v 5 = .agg #[rv, ov]
  f6 : done 6 = true → v 6 = lvb
  f7 : done 7 = true → done 9 = false → Ints w (v 7) N
  f8 : done 8 = true → done 9 = false → Rows2 w (v 8) [N]
  f9 : done 9 = true → RenOut rv ov rows s R Y w (v 9)
  f10 : done 10 = true → v 10 = v 9
  f11 : done 11 = true → v 11 = projV 0 (v 9)
  f12 : done 12 = true → v 12 = projV 1 (v 9)
  f13 : done 13 = true → v 13 = projV 2 (v 9)
  f14 : done 14 = true → v 14 = projV 3 (v 9)
  f15 : done 15 = true → v 15 = projV 4 (v 9)
  f20 : done 20 = true → v 20 = projV 2 (v 9)
  f21 : done 21 = true → v 21 = projV 3 (v 9)
  f22 : done 22 = true → v 22 = projV 4 (v 9)
  bx : Boxes w0.heap.size 38 w (done 16) (done 17) (done 18) (done 19) (v 16) (v 17) (projV 0 (v 9)) (projV 1 (v 9))

theorem dealC_first (x : Int) (u : List Int) : nth (dealC (x :: u)) 0 = powE 4 x := by unfold dealC; rw [nth_mapv (by simp)]; rfl

set_option maxRecDepth 100000 in
set_option maxHeartbeats 16000000 in
theorem renewalOld_any (rv ov lv1 lv2 : Value) (rows : List (List Int)) (owners : List Int) (a : Int) (l1 l2 : List Int) (bs : Int) (w : World) (hR : Rows2 w rv rows) (hO : Ints w ov owners) (ha : 0 ≤ a ∧ a < 4294967296) (hL1 : Words w lv1 l1) (hL2 : Words w lv2 l2) (hbs : 0 ≤ bs ∧ bs < 18446744073709551616) :
    Calls Try.prog 10 #[.agg #[rv, ov], .int .u32 a, lv1, lv2, .int .u64 bs] w fun e w' => e = .returned (.bool true) ∧ Below w.heap.size w w' := by
  obtain ⟨W1, hW1, hb1, hr1, hz⟩ := box_prog w rv ov 25
  have HR := Lib.hid (hR.below hb1)
  have HO := Lib.hid (hO.below hb1)
  have HX1 := Lib.hid (hL1.below hb1)
  have HX2 := Lib.hid (hL2.below hb1)
  obtain ⟨ar, cap, rfl, -, hlen, -⟩ := id hR
  obtain ⟨a2, cap2, rfl, -, hlen2, -⟩ := id hO
  obtain ⟨a3, cap3, rfl, -⟩ := id hL1
  obtain ⟨a4, cap4, rfl, -⟩ := id hL2
  have c0 : W1.cell? ⟨w.heap.size, 0, none⟩ = some (.slice ar rows.length cap) := row_cell hr1 rfl
  have c1 : W1.cell? ⟨w.heap.size, 1, none⟩ = some (.slice a2 owners.length cap2) := row_cell hr1 rfl
  have HW1 := Lib.hid hW1
  have HB := Lib.hid hb1
  have HS := Lib.hid (sane38_any W1)
  clear hR hO hL1 hL2 hr1 hW1 hb1
  cases hsm : smallQ rows owners with
  | false =>
    have HSM := Lib.hid hsm
    clear hsm
    go_enter Try.func10, Try.ntmps10
    go_wp2_with fail
    rw [← HW1.out]
    with_reducible refine (HS.out).mono ?_
    rintro e w2 ⟨rfl, hb2⟩
    replace c0 := below_cell hb2 c0
    replace c1 := below_cell hb2 c1
    replace HR := Lib.hid (HR.out.below hb2)
    replace HO := Lib.hid (HO.out.below hb2)
    replace HX1 := Lib.hid (HX1.out.below hb2)
    replace HX2 := Lib.hid (HX2.out.below hb2)
    replace HB := Lib.hid (HB.out.trans (hb2.mono HB.out.size))
    clear hb2
    go_wp2_with fail
    with_reducible refine (rsmall_any _ _ rows owners _ HR.out HO.out).mono ?_
    rintro e w3 ⟨rfl, hb3⟩
    replace c0 := below_cell hb3 c0
    replace c1 := below_cell hb3 c1
    replace HR := Lib.hid (HR.out.below hb3)
    replace HO := Lib.hid (HO.out.below hb3)
    replace HX1 := Lib.hid (HX1.out.below hb3)
    replace HX2 := Lib.hid (HX2.out.below hb3)
    replace HB := Lib.hid (HB.out.trans (hb3.mono HB.out.size))
    clear hb3
    rw [HSM.out]
    go_wp2_with fail
    go_ret
    exact ⟨rfl, HB.out⟩
  | true =>
    have HSM := Lib.hid hsm
    obtain ⟨hrl, hp0, hcl⟩ := small_ok hsm
    have HPE := Lib.hid (fun w => people38_any bs w hbs.1 hbs.2)
    have HPR := Lib.hid (people_right bs)
    obtain ⟨who, hwho⟩ : ∃ who, who = peopleQ bs := ⟨_, rfl⟩
    rw [← hwho] at HPE HPR
    have HQ1 : Hid (questE rows owners who = 0) := Lib.hid (questE_of hp0 HPR.out)
    obtain ⟨s, hs⟩ : ∃ s, s = a % 1073741789 := ⟨_, rfl⟩
    have hsn : 0 ≤ s ∧ s < 1073741789 := by omega
    have hP := progE_ok hp0
    have hm1 : a.tmod 1073741789 = s := by rw [hs, Int.tmod_eq_emod_of_nonneg ha.1]
    have hw1 : IntKind.i64.wrap a = a := IntWalk.i64_in _ (by omega)
    have HPW := Lib.hid (fun w => pow_yes 4 s w el_four (num_r64 hsn))
    have hd1 := rand_ok (owners := owners) hp0 l1 hsn
    have hd2 := rand_ok (owners := owners) hp0 l2 (x := 0) (by decide)
    have HD1 := Lib.hid (fun ww h1 h2 h3 => numbers38_any (.slice ar rows.length cap) (.slice a2 owners.length cap2) (.slice a3 l1.length cap3) rows owners l1 ww h1 h2 h3 hP)
    have HD2 := Lib.hid (fun ww h1 h2 h3 => numbers38_any (.slice ar rows.length cap) (.slice a2 owners.length cap2) (.slice a4 l2.length cap4) rows owners l2 ww h1 h2 h3 hP)
    obtain ⟨R, hRR⟩ : ∃ R, R = randQ rows l1 := ⟨_, rfl⟩
    obtain ⟨N, hNN⟩ : ∃ N, N = randQ rows l2 := ⟨_, rfl⟩
    rw [← hRR] at HD1 hd1
    rw [← hNN] at HD2 hd2
    have HN1 := Lib.hid (fun mv zv ww h1 h2 h3 h4 => renewed_any (.slice ar rows.length cap) (.slice a2 owners.length cap2) mv zv rows owners s R [N] ww h1 h2 h3 h4 hd1 hp0 (by simp [hd2]) (by simp))
    obtain ⟨Y, hY⟩ : ∃ y, y = sumZ R [N] := ⟨_, rfl⟩
    have hd3 : DealOK rows owners s Y := hY ▸ sumZ_ok hd1
    rw [← hY] at HN1
    obtain ⟨ok, hok⟩ : ∃ ok, ok = accOk rows owners who := ⟨_, rfl⟩
    obtain ⟨⟨hm1e, hm1b⟩, hm2e, hm2b⟩ := mix_deal hd1 hd3 hp0 HPR.out hok.symm
    obtain ⟨C, hC⟩ : ∃ C, C = dealC (s :: R) := ⟨_, rfl⟩
    obtain ⟨C2, hC2⟩ : ∃ C, C = dealC (s :: Y) := ⟨_, rfl⟩
    obtain ⟨D, hD⟩ : ∃ D, D = dealL rows (s :: R) := ⟨_, rfl⟩
    obtain ⟨D2, hD2⟩ : ∃ D, D = dealL rows (s :: Y) := ⟨_, rfl⟩
    have hDl : D.length ≤ 100 := by rw [hD, dealL_len]; omega
    have hDl2 : D2.length ≤ 100 := by rw [hD2, dealL_len]; omega
    have HI1 := Lib.hid (hD ▸ deal_in (s := s :: R) hP)
    have HI2 := Lib.hid (hD2 ▸ deal_in (s := s :: Y) hP)
    have hpl := peopleB_len HPR.out
    have hpl2 : who.length ≤ 100 := by omega
    have HOFA := Lib.hid (fun (lv wv : Value) W h1 h2 h3 => of_any (.slice ar rows.length cap) (.slice a2 owners.length cap2) lv wv owners who D W ⟨_, _, _, rfl⟩ h1 h2 h3 hDl hpl2 HI1.out)
    have HOFB := Lib.hid (fun (lv wv : Value) W h1 h2 h3 => of_any (.slice ar rows.length cap) (.slice a2 owners.length cap2) lv wv owners who D2 W ⟨_, _, _, rfl⟩ h1 h2 h3 hDl2 hpl2 HI2.out)
    rw [← hC, ← hC2, ← hD] at hm1e hm1b
    rw [← hC, ← hC2, ← hD2] at hm2e hm2b
    have HMX1 := Lib.hid (fun cv cv2 av W h1 h2 h3 h4 h5 => mixes_any 0 1 (.slice ar rows.length cap) (.slice a2 owners.length cap2) cv (.slice ar rows.length cap) (.slice a2 owners.length cap2) cv2 av (.slice none 0 0) rows rows owners owners C C2 (ofQ owners who D) [] W h1 h2 h3 h1 h2 h4 h5 (Shares.nil W none 0))
    have HMX2 := Lib.hid (fun cv cv2 bv W h1 h2 h3 h4 h5 => mixes_any 0 1 (.slice ar rows.length cap) (.slice a2 owners.length cap2) cv (.slice ar rows.length cap) (.slice a2 owners.length cap2) cv2 (.slice none 0 0) bv rows rows owners owners C C2 [] (ofQ owners who D2) W h1 h2 h3 h1 h2 h4 (Shares.nil W none 0) h5)
    rw [hm1e, hm1b] at HMX1
    rw [hm2e, hm2b] at HMX2
    have HC0 : Hid (nth C 0 = powE 4 s) := Lib.hid (by rw [hC]; exact dealC_first s R)
    obtain ⟨cq, hcq⟩ : ∃ cq, cq = colsQ rows := ⟨_, rfl⟩
    have hCl : C.length = cq := by rw [hC, dealC_len, hcq]; exact hd1.full
    have hcq1 : 1 ≤ cq := by have := hP.cols; omega
    have HOK := Lib.hid hok
    obtain ⟨key, hkey⟩ : ∃ key, key = powE 4 s := ⟨_, rfl⟩
    rw [← hkey] at HPW HC0
    have HREN := Lib.hid (fun w t (h : RenOut (.slice ar rows.length cap) (.slice a2 owners.length cap2) rows s R Y w t) => show ∃ al cl ac cc ad cd ay cy, t = .tuple #[.agg #[.int .i64 0, .slice ar rows.length cap, .slice a2 owners.length cap2, .slice ac cq cc], .agg #[.int .i64 1, .slice ar rows.length cap, .slice a2 owners.length cap2, .slice ad cq cd], .slice al rows.length cl, .slice ay rows.length cy, .bool true] ∧ Ints w (.slice ac cq cc) C ∧ Ints w (.slice ad cq cd) C2 ∧ Shares w (.slice al rows.length cl) D ∧ Shares w (.slice ay rows.length cy) D2 by rw [hcq, hC, hC2, hD, hD2]; exact h)
    have ha0 := ha.1
    have ha1 := ha.2
    have HS1 := Lib.hid hs
    clear hsm hs hP hRR hNN hY hd1 hd2 hd3 hm1e hm1b hm2e hm2b hC hC2 hD hD2 hcq hok hp0 ha hwho hbs hkey
    go_enter Try.func10, Try.ntmps10
    go_wp2_with fail
    rw [← HW1.out]
    with_reducible refine (HS.out).mono ?_
    rintro e w2 ⟨rfl, hb2⟩
    replace c0 := below_cell hb2 c0
    replace c1 := below_cell hb2 c1
    replace HR := Lib.hid (HR.out.below hb2)
    replace HO := Lib.hid (HO.out.below hb2)
    replace HX1 := Lib.hid (HX1.out.below hb2)
    replace HX2 := Lib.hid (HX2.out.below hb2)
    replace HB := Lib.hid (HB.out.trans (hb2.mono HB.out.size))
    clear hb2
    go_wp2_with fail
    with_reducible refine (rsmall_any _ _ rows owners _ HR.out HO.out).mono ?_
    rintro e w3 ⟨rfl, hb3⟩
    replace c0 := below_cell hb3 c0
    replace c1 := below_cell hb3 c1
    replace HR := Lib.hid (HR.out.below hb3)
    replace HO := Lib.hid (HO.out.below hb3)
    replace HX1 := Lib.hid (HX1.out.below hb3)
    replace HX2 := Lib.hid (HX2.out.below hb3)
    replace HB := Lib.hid (HB.out.trans (hb3.mono HB.out.size))
    clear hb3
    rw [HSM.out]
    go_upto_region 6 with fail
    try rw [← HS1.out]
    refine wp_region_flows (by kernel_rfl) (by kernel_rfl) (by kernel_rfl) (by kernel_rfl) (fun done v W => FOld w3 (.slice ar rows.length cap) (.slice a2 owners.length cap2) (.slice a3 l1.length cap3) (.slice a4 l2.length cap4) s rows R N Y done v W) (fun v => ?_) ?_ (fun v W h => ?_)
    · exact ⟨(Below.refl _ _).drew, (fun h => by cases h), (fun h => by cases h), (fun h => by cases h), (fun h => by cases h), (fun h => by cases h), (fun h => by cases h), (fun h => by cases h), (fun h => by cases h), (fun h => by cases h), (fun h => by cases h), (fun h => by cases h), (fun h => by cases h), (fun h => by cases h), (fun h => by cases h), (fun h => by cases h), (fun h => by cases h), (fun h => by cases h), (fun h => by cases h), (fun h => by cases h), Boxes.nil _ _ _ _ _ _ _⟩
    · refine ⟨?_, ?_, ?_, ?_, ?_, ?_, ?_, ?_, ?_, ?_, ?_, ?_, ?_, ?_, ?_, ?_, ?_, ?_, ?_, ?_, ?_, ?_, ?_, trivial⟩
      · intro done v W A h hd hp hu hA hB
        have e : A.tmps[5]?.getD undef = .pointer (some ⟨w.heap.size, 0, none⟩) := hB 5 rfl
        have x0 := below_cell h.b c0
        have x1 := below_cell h.b c1
        clear hA hB hp hu
        go_simp
        exact ⟨_, rfl, ⟨h.b, (fun _ => rfl), h.f1, h.f2, h.f3, h.f4, h.f5, h.f6, h.f7, h.f8, h.f9, h.f10, h.f11, h.f12, h.f13, h.f14, h.f15, h.f20, h.f21, h.f22, (h.bx)⟩⟩
      · intro done v W A h hd hp hu hA hB
        have e : A.tmps[11]?.getD undef = .int .i64 s := hB 11 rfl
        clear hA hB hp hu
        go_simp
        exact ⟨_, rfl, ⟨h.b, h.f0, (fun _ => rfl), h.f2, h.f3, h.f4, h.f5, h.f6, h.f7, h.f8, h.f9, h.f10, h.f11, h.f12, h.f13, h.f14, h.f15, h.f20, h.f21, h.f22, (h.bx)⟩⟩
      · intro done v W A h hd hp hu hA hB
        have e : A.tmps[5]?.getD undef = .pointer (some ⟨w.heap.size, 0, none⟩) := hB 5 rfl
        have x0 := below_cell h.b c0
        have x1 := below_cell h.b c1
        clear hA hB hp hu
        go_simp
        exact ⟨_, rfl, ⟨h.b, h.f0, h.f1, (fun _ => rfl), h.f3, h.f4, h.f5, h.f6, h.f7, h.f8, h.f9, h.f10, h.f11, h.f12, h.f13, h.f14, h.f15, h.f20, h.f21, h.f22, (h.bx)⟩⟩
      · intro done v W A h hd hp hu hA hB
        have e : A.tmps[2]?.getD undef = .slice a3 l1.length cap3 := hB 2 rfl
        clear hA hB hp hu
        go_simp
        exact ⟨_, rfl, ⟨h.b, h.f0, h.f1, h.f2, (fun _ => rfl), h.f4, h.f5, h.f6, h.f7, h.f8, h.f9, h.f10, h.f11, h.f12, h.f13, h.f14, h.f15, h.f20, h.f21, h.f22, (h.bx)⟩⟩
      · intro done v W A h hd hp hu hA hB
        have hd2 : done 2 = true := hp 2 rfl
        have hd3 : done 3 = true := hp 3 rfl
        have e2 := (hA 2 38 rfl hd2).trans (h.f2 hd2)
        have e3 := (hA 3 39 rfl hd3).trans (h.f3 hd3)
        clear hA hB hp hu
        go_simp
        with_reducible refine (HD1.out _ (HR.out.below h.b) (HO.out.below h.b) (HX1.out.below h.b)).mono ?_
        rintro e wq ⟨y, rfl, hy, hb⟩
        exact ⟨_, rfl, ⟨h.b.trans (hb.mono h.b.size), h.f0, h.f1, h.f2, h.f3, (fun _ _ => hy), h.f5, h.f6, (fun h1 h2 => (h.f7 h1 h2).below hb), (fun h1 h2 => (h.f8 h1 h2).below hb), (fun h1 => (h.f9 h1).below hb), h.f10, h.f11, h.f12, h.f13, h.f14, h.f15, h.f20, h.f21, h.f22, (h.bx.below hb)⟩⟩
      · intro done v W A h hd hp hu hA hB
        have e : A.tmps[5]?.getD undef = .pointer (some ⟨w.heap.size, 0, none⟩) := hB 5 rfl
        have x0 := below_cell h.b c0
        have x1 := below_cell h.b c1
        clear hA hB hp hu
        go_simp
        exact ⟨_, rfl, ⟨h.b, h.f0, h.f1, h.f2, h.f3, h.f4, (fun _ => rfl), h.f6, h.f7, h.f8, h.f9, h.f10, h.f11, h.f12, h.f13, h.f14, h.f15, h.f20, h.f21, h.f22, (h.bx)⟩⟩
      · intro done v W A h hd hp hu hA hB
        have e : A.tmps[3]?.getD undef = .slice a4 l2.length cap4 := hB 3 rfl
        clear hA hB hp hu
        go_simp
        exact ⟨_, rfl, ⟨h.b, h.f0, h.f1, h.f2, h.f3, h.f4, h.f5, (fun _ => rfl), h.f7, h.f8, h.f9, h.f10, h.f11, h.f12, h.f13, h.f14, h.f15, h.f20, h.f21, h.f22, (h.bx)⟩⟩
      · intro done v W A h hd hp hu hA hB
        have hd5 : done 5 = true := hp 5 rfl
        have hd6 : done 6 = true := hp 6 rfl
        have e2 := (hA 5 41 rfl hd5).trans (h.f5 hd5)
        have e3 := (hA 6 42 rfl hd6).trans (h.f6 hd6)
        clear hA hB hp hu
        go_simp
        with_reducible refine (HD2.out _ (HR.out.below h.b) (HO.out.below h.b) (HX2.out.below h.b)).mono ?_
        rintro e wq ⟨y, rfl, hy, hb⟩
        exact ⟨_, rfl, ⟨h.b.trans (hb.mono h.b.size), h.f0, h.f1, h.f2, h.f3, (fun h1 h2 => (h.f4 h1 h2).below hb), h.f5, h.f6, (fun _ _ => hy), (fun h1 h2 => (h.f8 h1 h2).below hb), (fun h1 => (h.f9 h1).below hb), h.f10, h.f11, h.f12, h.f13, h.f14, h.f15, h.f20, h.f21, h.f22, (h.bx.below hb)⟩⟩
      · intro done v W A h hd hp hu hA hB
        have n9_8 : done 9 = false := flow_not (fun hj => hu 9 8 rfl (hj)) hd
        have hd7 : done 7 = true := hp 7 rfl
        have n9 := n9_8
        have h7 := h.f7 hd7 n9
        obtain ⟨na, nc, e7, -⟩ := id h7
        have e := (hA 7 43 rfl hd7).trans e7
        rw [e7] at h7
        have hb := below_new W #[.slice na N.length nc] 23
        clear hA hB hp hu
        go_simp
        exact ⟨_, rfl, ⟨h.b.trans (hb.mono h.b.size), h.f0, h.f1, h.f2, h.f3, (fun h1 h2 => (h.f4 h1 h2).below hb), h.f5, h.f6, (fun h1 h2 => (h.f7 h1 h2).below hb), (fun _ _ => Rows2.one h7 _), (fun h1 => (h.f9 h1).below hb), h.f10, h.f11, h.f12, h.f13, h.f14, h.f15, h.f20, h.f21, h.f22, (h.bx.below hb)⟩⟩
      · intro done v W A h hd hp hu hA hB
        have n10_9 : done 10 = false := flow_not (fun hj => hu 10 9 rfl (hj)) hd
        have n11_9 : done 11 = false := flow_not (fun hj => hu 10 9 rfl (hu 11 10 rfl (hj))) hd
        have n12_9 : done 12 = false := flow_not (fun hj => hu 10 9 rfl (hu 12 10 rfl (hj))) hd
        have n13_9 : done 13 = false := flow_not (fun hj => hu 10 9 rfl (hu 13 10 rfl (hj))) hd
        have n14_9 : done 14 = false := flow_not (fun hj => hu 10 9 rfl (hu 14 10 rfl (hj))) hd
        have n15_9 : done 15 = false := flow_not (fun hj => hu 10 9 rfl (hu 15 10 rfl (hj))) hd
        have n20_9 : done 20 = false := flow_not (fun hj => hu 20 9 rfl (hj)) hd
        have n21_9 : done 21 = false := flow_not (fun hj => hu 21 9 rfl (hj)) hd
        have n22_9 : done 22 = false := flow_not (fun hj => hu 22 9 rfl (hj)) hd
        have n18_9 : done 18 = false := flow_not (fun hj => hu 18 9 rfl (hj)) hd
        have n19_9 : done 19 = false := flow_not (fun hj => hu 19 9 rfl (hj)) hd
        have hd0 : done 0 = true := hp 0 rfl
        have hd1 : done 1 = true := hp 1 rfl
        have hd4 : done 4 = true := hp 4 rfl
        have hd8 : done 8 = true := hp 8 rfl
        have e0 := (hA 0 36 rfl hd0).trans (h.f0 hd0)
        have e1 := (hA 1 37 rfl hd1).trans (h.f1 hd1)
        have e5 := hA 4 40 rfl hd4
        have e7 := hA 8 44 rfl hd8
        have h5 := h.f4 hd4 hd
        have h7 := h.f8 hd8 hd
        clear hA hB hp hu
        go_simp
        with_reducible refine (HN1.out _ _ _ (HR.out.below h.b) (HO.out.below h.b) h5 h7).mono ?_
        rintro e wq ⟨al, cl, ac, cc, ad, cd, ay, cy, rfl, i1, i2, s1, s2, hb⟩
        exact ⟨_, rfl, ⟨h.b.trans (hb.mono h.b.size), h.f0, h.f1, h.f2, h.f3, (fun _ h2 => absurd (show true = false from h2) (by decide)), h.f5, h.f6, (fun _ h2 => absurd (show true = false from h2) (by decide)), (fun _ h2 => absurd (show true = false from h2) (by decide)), (fun _ => ⟨al, cl, ac, cc, ad, cd, ay, cy, rfl, i1, i2, s1, s2⟩), (fun hj => absurd (hj.symm.trans n10_9) (by decide)), (fun hj => absurd (hj.symm.trans n11_9) (by decide)), (fun hj => absurd (hj.symm.trans n12_9) (by decide)), (fun hj => absurd (hj.symm.trans n13_9) (by decide)), (fun hj => absurd (hj.symm.trans n14_9) (by decide)), (fun hj => absurd (hj.symm.trans n15_9) (by decide)), (fun hj => absurd (hj.symm.trans n20_9) (by decide)), (fun hj => absurd (hj.symm.trans n21_9) (by decide)), (fun hj => absurd (hj.symm.trans n22_9) (by decide)), ((h.bx.other n18_9 n19_9).below hb)⟩⟩
      · intro done v W A h hd hp hu hA hB
        have hd9 : done 9 = true := hp 9 rfl
        have e : A.tmps[45]?.getD undef = v 9 := hA 9 45 rfl hd9
        clear hA hB hp hu
        go_simp
        exact ⟨_, rfl, ⟨h.b, h.f0, h.f1, h.f2, h.f3, h.f4, h.f5, h.f6, h.f7, h.f8, h.f9, (fun _ => rfl), h.f11, h.f12, h.f13, h.f14, h.f15, h.f20, h.f21, h.f22, (h.bx)⟩⟩
      · intro done v W A h hd hp hu hA hB
        have hd9 : done 9 = true := hu 10 9 rfl (hp 10 rfl)
        have hd10 : done 10 = true := hp 10 rfl
        obtain ⟨al, cl, ac, cc, ad, cd, ay, cy, e8, -⟩ := h.f9 hd9
        have e := (hA 10 35 rfl hd10).trans ((h.f10 hd10).trans e8)
        clear hA hB hp hu
        go_simp
        exact ⟨_, rfl, ⟨h.b, h.f0, h.f1, h.f2, h.f3, h.f4, h.f5, h.f6, h.f7, h.f8, h.f9, h.f10, (fun _ => (by show _ = projV 0 (v 9); rw [e8]; rfl)), h.f12, h.f13, h.f14, h.f15, h.f20, h.f21, h.f22, (h.bx)⟩⟩
      · intro done v W A h hd hp hu hA hB
        have hd9 : done 9 = true := hu 10 9 rfl (hp 10 rfl)
        have hd10 : done 10 = true := hp 10 rfl
        obtain ⟨al, cl, ac, cc, ad, cd, ay, cy, e8, -⟩ := h.f9 hd9
        have e := (hA 10 35 rfl hd10).trans ((h.f10 hd10).trans e8)
        clear hA hB hp hu
        go_simp
        exact ⟨_, rfl, ⟨h.b, h.f0, h.f1, h.f2, h.f3, h.f4, h.f5, h.f6, h.f7, h.f8, h.f9, h.f10, h.f11, (fun _ => (by show _ = projV 1 (v 9); rw [e8]; rfl)), h.f13, h.f14, h.f15, h.f20, h.f21, h.f22, (h.bx)⟩⟩
      · intro done v W A h hd hp hu hA hB
        have hd9 : done 9 = true := hu 10 9 rfl (hp 10 rfl)
        have hd10 : done 10 = true := hp 10 rfl
        obtain ⟨al, cl, ac, cc, ad, cd, ay, cy, e8, -⟩ := h.f9 hd9
        have e := (hA 10 35 rfl hd10).trans ((h.f10 hd10).trans e8)
        clear hA hB hp hu
        go_simp
        exact ⟨_, rfl, ⟨h.b, h.f0, h.f1, h.f2, h.f3, h.f4, h.f5, h.f6, h.f7, h.f8, h.f9, h.f10, h.f11, h.f12, (fun _ => (by show _ = projV 2 (v 9); rw [e8]; rfl)), h.f14, h.f15, h.f20, h.f21, h.f22, (h.bx)⟩⟩
      · intro done v W A h hd hp hu hA hB
        have hd9 : done 9 = true := hu 10 9 rfl (hp 10 rfl)
        have hd10 : done 10 = true := hp 10 rfl
        obtain ⟨al, cl, ac, cc, ad, cd, ay, cy, e8, -⟩ := h.f9 hd9
        have e := (hA 10 35 rfl hd10).trans ((h.f10 hd10).trans e8)
        clear hA hB hp hu
        go_simp
        exact ⟨_, rfl, ⟨h.b, h.f0, h.f1, h.f2, h.f3, h.f4, h.f5, h.f6, h.f7, h.f8, h.f9, h.f10, h.f11, h.f12, h.f13, (fun _ => (by show _ = projV 3 (v 9); rw [e8]; rfl)), h.f15, h.f20, h.f21, h.f22, (h.bx)⟩⟩
      · intro done v W A h hd hp hu hA hB
        have hd9 : done 9 = true := hu 10 9 rfl (hp 10 rfl)
        have hd10 : done 10 = true := hp 10 rfl
        obtain ⟨al, cl, ac, cc, ad, cd, ay, cy, e8, -⟩ := h.f9 hd9
        have e := (hA 10 35 rfl hd10).trans ((h.f10 hd10).trans e8)
        clear hA hB hp hu
        go_simp
        exact ⟨_, rfl, ⟨h.b, h.f0, h.f1, h.f2, h.f3, h.f4, h.f5, h.f6, h.f7, h.f8, h.f9, h.f10, h.f11, h.f12, h.f13, h.f14, (fun _ => (by show _ = projV 4 (v 9); rw [e8]; rfl)), h.f20, h.f21, h.f22, (h.bx)⟩⟩
      · intro done v W A h hd hp hu hA hB
        have n18_16 : done 18 = false := flow_not (fun hj => hu 18 16 rfl (hj)) hd
        have hb := below_new W zeroK 38
        have hn := h.b.size
        clear hA hB hp hu
        go_simp
        exact ⟨_, rfl, ⟨h.b.trans (hb.mono h.b.size), h.f0, h.f1, h.f2, h.f3, (fun h1 h2 => (h.f4 h1 h2).below hb), h.f5, h.f6, (fun h1 h2 => (h.f7 h1 h2).below hb), (fun h1 h2 => (h.f8 h1 h2).below hb), (fun h1 => (h.f9 h1).below hb), h.f10, h.f11, h.f12, h.f13, h.f14, h.f15, h.f20, h.f21, h.f22, (h.bx.allocA n18_16 hn)⟩⟩
      · intro done v W A h hd hp hu hA hB
        have n19_17 : done 19 = false := flow_not (fun hj => hu 19 17 rfl (hj)) hd
        have hb := below_new W zeroK 38
        have hn := h.b.size
        clear hA hB hp hu
        go_simp
        exact ⟨_, rfl, ⟨h.b.trans (hb.mono h.b.size), h.f0, h.f1, h.f2, h.f3, (fun h1 h2 => (h.f4 h1 h2).below hb), h.f5, h.f6, (fun h1 h2 => (h.f7 h1 h2).below hb), (fun h1 h2 => (h.f8 h1 h2).below hb), (fun h1 => (h.f9 h1).below hb), h.f10, h.f11, h.f12, h.f13, h.f14, h.f15, h.f20, h.f21, h.f22, (h.bx.allocB n19_17 hn)⟩⟩
      · intro done v W A h hd hp hu hA hB
        have hd9 : done 9 = true := hp 9 rfl
        have hd11 : done 11 = true := hp 11 rfl
        have hd16 : done 16 = true := hp 16 rfl
        obtain ⟨al, cl, ac, cc, ad, cd, ay, cy, e8, -⟩ := h.f9 hd9
        obtain ⟨B, eB, hn0, -, hS⟩ := h.bx.a0 hd16
        simp only [hd, Bool.false_eq_true, if_false] at hS
        have e1 := (hA 16 12 rfl hd16).trans eB
        have e2 := (hA 11 46 rfl hd11).trans ((h.f11 hd11).trans (congrArg (projV 0) e8))
        simp only [projV, Array.getD_eq_getD_getElem?, List.getElem?_toArray, List.getElem?_cons_zero, Option.getD_some] at e2
        have u0 := row_cell hS (k := 0) rfl
        have u1 := row_cell hS (k := 1) rfl
        have u2 := row_cell hS (k := 2) rfl
        have u3 := row_cell hS (k := 3) rfl
        have g0 := row_free hS 0
        have g1 := row_free hS 1
        have g2 := row_free hS 2
        have g3 := row_free hS 3
        clear hA hB hp hu
        go_simp
        exact ⟨undef, ⟨keyW_below h.b hn0 _ _ _ _, h.f0, h.f1, h.f2, h.f3, (fun _ h2 => absurd (hd9.symm.trans h2) (by decide)), h.f5, h.f6, (fun _ h2 => absurd (hd9.symm.trans h2) (by decide)), (fun _ h2 => absurd (hd9.symm.trans h2) (by decide)), (fun h1 => (h.f9 h1).put hS _ _ _ _), h.f10, h.f11, h.f12, h.f13, h.f14, h.f15, h.f20, h.f21, h.f22, (h.bx.storeA eB hd16 (congrArg (projV 0) e8) hS)⟩⟩
      · intro done v W A h hd hp hu hA hB
        have hd9 : done 9 = true := hp 9 rfl
        have hd12 : done 12 = true := hp 12 rfl
        have hd17 : done 17 = true := hp 17 rfl
        obtain ⟨al, cl, ac, cc, ad, cd, ay, cy, e8, -⟩ := h.f9 hd9
        obtain ⟨B, eB, hn0, -, hS⟩ := h.bx.b0 hd17
        simp only [hd, Bool.false_eq_true, if_false] at hS
        have e1 := (hA 17 13 rfl hd17).trans eB
        have e2 := (hA 12 47 rfl hd12).trans ((h.f12 hd12).trans (congrArg (projV 1) e8))
        simp only [projV, Array.getD_eq_getD_getElem?, List.getElem?_toArray, List.getElem?_cons_zero, List.getElem?_cons_succ, Option.getD_some] at e2
        have u0 := row_cell hS (k := 0) rfl
        have u1 := row_cell hS (k := 1) rfl
        have u2 := row_cell hS (k := 2) rfl
        have u3 := row_cell hS (k := 3) rfl
        have g0 := row_free hS 0
        have g1 := row_free hS 1
        have g2 := row_free hS 2
        have g3 := row_free hS 3
        clear hA hB hp hu
        go_simp
        exact ⟨undef, ⟨keyW_below h.b hn0 _ _ _ _, h.f0, h.f1, h.f2, h.f3, (fun _ h2 => absurd (hd9.symm.trans h2) (by decide)), h.f5, h.f6, (fun _ h2 => absurd (hd9.symm.trans h2) (by decide)), (fun _ h2 => absurd (hd9.symm.trans h2) (by decide)), (fun h1 => (h.f9 h1).put hS _ _ _ _), h.f10, h.f11, h.f12, h.f13, h.f14, h.f15, h.f20, h.f21, h.f22, (h.bx.storeB eB hd17 (congrArg (projV 1) e8) hS)⟩⟩
      · intro done v W A h hd hp hu hA hB
        have hd13 : done 13 = true := hp 13 rfl
        have e : A.tmps[48]?.getD undef = v 13 := hA 13 48 rfl hd13
        clear hA hB hp hu
        go_simp
        exact ⟨_, rfl, ⟨h.b, h.f0, h.f1, h.f2, h.f3, h.f4, h.f5, h.f6, h.f7, h.f8, h.f9, h.f10, h.f11, h.f12, h.f13, h.f14, h.f15, (fun _ => h.f13 hd13), h.f21, h.f22, (h.bx)⟩⟩
      · intro done v W A h hd hp hu hA hB
        have hd14 : done 14 = true := hp 14 rfl
        have e : A.tmps[49]?.getD undef = v 14 := hA 14 49 rfl hd14
        clear hA hB hp hu
        go_simp
        exact ⟨_, rfl, ⟨h.b, h.f0, h.f1, h.f2, h.f3, h.f4, h.f5, h.f6, h.f7, h.f8, h.f9, h.f10, h.f11, h.f12, h.f13, h.f14, h.f15, h.f20, (fun _ => h.f14 hd14), h.f22, (h.bx)⟩⟩
      · intro done v W A h hd hp hu hA hB
        have hd15 : done 15 = true := hp 15 rfl
        have e : A.tmps[50]?.getD undef = v 15 := hA 15 50 rfl hd15
        clear hA hB hp hu
        go_simp
        exact ⟨_, rfl, ⟨h.b, h.f0, h.f1, h.f2, h.f3, h.f4, h.f5, h.f6, h.f7, h.f8, h.f9, h.f10, h.f11, h.f12, h.f13, h.f14, h.f15, h.f20, h.f21, (fun _ => h.f15 hd15), (h.bx)⟩⟩
    have hb4 := h.b
    obtain ⟨al, cl, ac, cc, ad, cd, ay, cy, e9, i1, i2, s1, s2⟩ := HREN.out _ _ (h.f9 rfl)
    have e20 : v 20 = .slice al rows.length cl := (h.f20 rfl).trans (congrArg (projV 2) e9)
    have e21 : v 21 = .slice ay rows.length cy := (h.f21 rfl).trans (congrArg (projV 3) e9)
    have e22 : v 22 = .bool true := (h.f22 rfl).trans (congrArg (projV 4) e9)
    obtain ⟨B, eB, -, -, hqA⟩ := h.bx.a0 rfl
    obtain ⟨B', eB', -, -, hqB⟩ := h.bx.b0 rfl
    rw [e9] at hqA hqB
    have QA : Hid (W.heap[B]? = some (.cells #[.int .i64 0, .slice ar rows.length cap, .slice a2 owners.length cap2, .slice ac cq cc] 38 (0, 0))) := Lib.hid hqA
    have QB : Hid (W.heap[B']? = some (.cells #[.int .i64 1, .slice ar rows.length cap, .slice a2 owners.length cap2, .slice ad cq cd] 38 (0, 0))) := Lib.hid hqB
    have HC1 := Lib.hid i1
    have HC2 := Lib.hid i2
    have HDA := Lib.hid s1
    have HDB := Lib.hid s2
    clear i1 i2 s1 s2 hqA hqB h
    replace c0 := below_cell hb4 c0
    replace c1 := below_cell hb4 c1
    replace HR := Lib.hid (HR.out.below hb4)
    replace HO := Lib.hid (HO.out.below hb4)
    replace HX1 := Lib.hid (HX1.out.below hb4)
    replace HX2 := Lib.hid (HX2.out.below hb4)
    replace HB := Lib.hid (HB.out.trans (hb4.mono HB.out.size))
    clear hb4
    clear HX1 HX2 HD1 HD2 HN1 HREN
    simp only [putL, Act.put, Nat.reduceAdd, List.setIfInBounds_toArray, List.set_cons_zero, List.set_cons_succ, e20, e21, e22, eB, eB']
    clear e9 e20 e21 e22 eB eB'
    have u3 := row_cell QA.out (k := 3) (v := .slice ac cq cc) rfl
    have hcz : ((cq : Int) == 0) = false := by simp; omega
    go_wp2_with fail
    clear u3
    with_reducible refine (HPW.out _).mono ?_
    rintro e w5 ⟨rfl, hb5⟩
    replace c0 := below_cell hb5 c0
    replace c1 := below_cell hb5 c1
    replace HR := Lib.hid (HR.out.below hb5)
    replace HO := Lib.hid (HO.out.below hb5)
    replace HC1 := Lib.hid (HC1.out.below hb5)
    replace HC2 := Lib.hid (HC2.out.below hb5)
    replace HDA := Lib.hid (HDA.out.below hb5)
    replace HDB := Lib.hid (HDB.out.below hb5)
    replace QA := Lib.hid ((hb5.block _ (row_lt QA.out)).trans QA.out)
    replace QB := Lib.hid ((hb5.block _ (row_lt QB.out)).trans QB.out)
    replace HB := Lib.hid (HB.out.trans (hb5.mono HB.out.size))
    clear hb5
    go_wp2_with fail
    with_reducible refine (HPE.out _).mono ?_
    rintro e w6 ⟨wv, rfl, hwv, hb6⟩
    replace c0 := below_cell hb6 c0
    replace c1 := below_cell hb6 c1
    replace HR := Lib.hid (HR.out.below hb6)
    replace HO := Lib.hid (HO.out.below hb6)
    replace HC1 := Lib.hid (HC1.out.below hb6)
    replace HC2 := Lib.hid (HC2.out.below hb6)
    replace HDA := Lib.hid (HDA.out.below hb6)
    replace HDB := Lib.hid (HDB.out.below hb6)
    replace QA := Lib.hid ((hb6.block _ (row_lt QA.out)).trans QA.out)
    replace QB := Lib.hid ((hb6.block _ (row_lt QB.out)).trans QB.out)
    replace HB := Lib.hid (HB.out.trans (hb6.mono HB.out.size))
    clear hb6
    have HWH := Lib.hid hwv
    obtain ⟨aw, cw, rfl, -⟩ := id hwv
    clear hwv
    go_wp2_with fail
    with_reducible refine (accepts_any _ _ _ rows owners who _ HR.out HO.out HWH.out).mono ?_
    rintro e w7 ⟨yv, rfl, hyv, hb7⟩
    replace c0 := below_cell hb7 c0
    replace c1 := below_cell hb7 c1
    replace HR := Lib.hid (HR.out.below hb7)
    replace HO := Lib.hid (HO.out.below hb7)
    replace HC1 := Lib.hid (HC1.out.below hb7)
    replace HC2 := Lib.hid (HC2.out.below hb7)
    replace HDA := Lib.hid (HDA.out.below hb7)
    replace HDB := Lib.hid (HDB.out.below hb7)
    replace HWH := Lib.hid (HWH.out.below hb7)
    replace QA := Lib.hid ((hb7.block _ (row_lt QA.out)).trans QA.out)
    replace QB := Lib.hid ((hb7.block _ (row_lt QB.out)).trans QB.out)
    replace HB := Lib.hid (HB.out.trans (hb7.mono HB.out.size))
    clear hb7
    rw [HQ1.out, ← HOK.out]
    obtain ⟨ya, yc, rfl, -⟩ := id hyv
    clear hyv
    obtain ⟨-, bd, od, nd, kd, ed, qd⟩ := HC1.out.get (k := 0) (by omega)
    simp only [Value.slice.injEq] at ed
    obtain ⟨rfl, -, -⟩ := ed
    rw [HC0.out, Nat.add_zero] at qd
    have x0 := row_cell QA.out (k := 0) (v := .int .i64 0) rfl
    have x1 := row_cell QA.out (k := 1) (v := .slice ar rows.length cap) rfl
    have x2 := row_cell QA.out (k := 2) (v := .slice a2 owners.length cap2) rfl
    have x3 := row_cell QA.out (k := 3) (v := .slice (some ⟨bd, od, none⟩) cq cc) rfl
    have y0 := row_cell QB.out (k := 0) (v := .int .i64 1) rfl
    have y1 := row_cell QB.out (k := 1) (v := .slice ar rows.length cap) rfl
    have y2 := row_cell QB.out (k := 2) (v := .slice a2 owners.length cap2) rfl
    have y3 := row_cell QB.out (k := 3) (v := .slice ad cq cd) rfl
    clear QA QB
    go_upto_region 12 with fail
    have hbd : Below w7.heap.size w7 w7.drew := (Below.refl _ _).drew
    replace HR := Lib.hid (HR.out.below hbd)
    replace HO := Lib.hid (HO.out.below hbd)
    replace HC1 := Lib.hid (HC1.out.below hbd)
    replace HC2 := Lib.hid (HC2.out.below hbd)
    replace HDA := Lib.hid (HDA.out.below hbd)
    replace HDB := Lib.hid (HDB.out.below hbd)
    replace HWH := Lib.hid (HWH.out.below hbd)
    replace HB := Lib.hid (HB.out.drew)
    clear hbd
    go_region_held3 (fun w' => w'.cell? ⟨w.heap.size, 0, none⟩ = some (.slice ar rows.length cap) ∧ w'.cell? ⟨w.heap.size, 1, none⟩ = some (.slice a2 owners.length cap2) ∧ w'.cell? ⟨B, 0, none⟩ = some (.int .i64 0) ∧ w'.cell? ⟨B, 1, none⟩ = some (.slice ar rows.length cap) ∧ w'.cell? ⟨B, 2, none⟩ = some (.slice a2 owners.length cap2) ∧ w'.cell? ⟨B, 3, none⟩ = some (.slice (some ⟨bd, od, none⟩) cq cc) ∧ w'.cell? ⟨B', 0, none⟩ = some (.int .i64 1) ∧ w'.cell? ⟨B', 1, none⟩ = some (.slice ar rows.length cap) ∧ w'.cell? ⟨B', 2, none⟩ = some (.slice a2 owners.length cap2) ∧ w'.cell? ⟨B', 3, none⟩ = some (.slice ad cq cd)) (first | go_keep | exact ⟨c0, c1, x0, x1, x2, x3, y0, y1, y2, y3⟩)
      (first
        | (go_at_call 42; (with_reducible refine (HOFA.out _ _ _ HO.out HDA.out HWH.out).mono ?_); rintro e w8 ⟨fv, rfl, hfv, hb8⟩; have HF := Lib.hid hfv; clear hfv; replace c0 := below_cell hb8 c0; replace c1 := below_cell hb8 c1; replace x0 := below_cell hb8 x0; replace x1 := below_cell hb8 x1; replace x2 := below_cell hb8 x2; replace x3 := below_cell hb8 x3; replace y0 := below_cell hb8 y0; replace y1 := below_cell hb8 y1; replace y2 := below_cell hb8 y2; replace y3 := below_cell hb8 y3; replace qd := below_cell hb8 qd; replace HR := Lib.hid (HR.out.below hb8); replace HO := Lib.hid (HO.out.below hb8); replace HC1 := Lib.hid (HC1.out.below hb8); replace HC2 := Lib.hid (HC2.out.below hb8); replace HDA := Lib.hid (HDA.out.below hb8); replace HDB := Lib.hid (HDB.out.below hb8); replace HWH := Lib.hid (HWH.out.below hb8); replace HB := Lib.hid (HB.out.trans (hb8.mono HB.out.size)); clear hb8)
        | (go_at_call 44; (with_reducible refine (HMX1.out _ _ _ _ HR.out HO.out HC1.out HC2.out HF.out).mono ?_); rintro e w9 ⟨rfl, hb9⟩; replace c0 := below_cell hb9 c0; replace c1 := below_cell hb9 c1; replace x0 := below_cell hb9 x0; replace x1 := below_cell hb9 x1; replace x2 := below_cell hb9 x2; replace x3 := below_cell hb9 x3; replace y0 := below_cell hb9 y0; replace y1 := below_cell hb9 y1; replace y2 := below_cell hb9 y2; replace y3 := below_cell hb9 y3; replace qd := below_cell hb9 qd; replace HR := Lib.hid (HR.out.below hb9); replace HO := Lib.hid (HO.out.below hb9); replace HC1 := Lib.hid (HC1.out.below hb9); replace HC2 := Lib.hid (HC2.out.below hb9); replace HDA := Lib.hid (HDA.out.below hb9); replace HDB := Lib.hid (HDB.out.below hb9); replace HWH := Lib.hid (HWH.out.below hb9); replace HB := Lib.hid (HB.out.trans (hb9.mono HB.out.size)); clear hb9))
    clear HF HMX1
    go_upto_region 13 with fail
    have hbd : Below w9.heap.size w9 w9.drew := (Below.refl _ _).drew
    replace HR := Lib.hid (HR.out.below hbd)
    replace HO := Lib.hid (HO.out.below hbd)
    replace HC1 := Lib.hid (HC1.out.below hbd)
    replace HC2 := Lib.hid (HC2.out.below hbd)
    replace HDA := Lib.hid (HDA.out.below hbd)
    replace HDB := Lib.hid (HDB.out.below hbd)
    replace HWH := Lib.hid (HWH.out.below hbd)
    replace HB := Lib.hid (HB.out.drew)
    clear hbd
    go_region_held3 (fun w' => w'.cell? ⟨w.heap.size, 0, none⟩ = some (.slice ar rows.length cap) ∧ w'.cell? ⟨w.heap.size, 1, none⟩ = some (.slice a2 owners.length cap2) ∧ w'.cell? ⟨B, 0, none⟩ = some (.int .i64 0) ∧ w'.cell? ⟨B, 1, none⟩ = some (.slice ar rows.length cap) ∧ w'.cell? ⟨B, 2, none⟩ = some (.slice a2 owners.length cap2) ∧ w'.cell? ⟨B, 3, none⟩ = some (.slice (some ⟨bd, od, none⟩) cq cc) ∧ w'.cell? ⟨B', 0, none⟩ = some (.int .i64 1) ∧ w'.cell? ⟨B', 1, none⟩ = some (.slice ar rows.length cap) ∧ w'.cell? ⟨B', 2, none⟩ = some (.slice a2 owners.length cap2) ∧ w'.cell? ⟨B', 3, none⟩ = some (.slice ad cq cd)) (first | go_keep | exact ⟨c0, c1, x0, x1, x2, x3, y0, y1, y2, y3⟩)
      (first
        | (go_at_call 42; (with_reducible refine (HOFB.out _ _ _ HO.out HDB.out HWH.out).mono ?_); rintro e w10 ⟨fv, rfl, hfv, hb10⟩; have HF := Lib.hid hfv; clear hfv; replace c0 := below_cell hb10 c0; replace c1 := below_cell hb10 c1; replace x0 := below_cell hb10 x0; replace x1 := below_cell hb10 x1; replace x2 := below_cell hb10 x2; replace x3 := below_cell hb10 x3; replace y0 := below_cell hb10 y0; replace y1 := below_cell hb10 y1; replace y2 := below_cell hb10 y2; replace y3 := below_cell hb10 y3; replace qd := below_cell hb10 qd; replace HR := Lib.hid (HR.out.below hb10); replace HO := Lib.hid (HO.out.below hb10); replace HC1 := Lib.hid (HC1.out.below hb10); replace HC2 := Lib.hid (HC2.out.below hb10); replace HDA := Lib.hid (HDA.out.below hb10); replace HDB := Lib.hid (HDB.out.below hb10); replace HWH := Lib.hid (HWH.out.below hb10); replace HB := Lib.hid (HB.out.trans (hb10.mono HB.out.size)); clear hb10)
        | (go_at_call 44; (with_reducible refine (HMX2.out _ _ _ _ HR.out HO.out HC1.out HC2.out HF.out).mono ?_); rintro e w11 ⟨rfl, hb11⟩; replace c0 := below_cell hb11 c0; replace c1 := below_cell hb11 c1; replace x0 := below_cell hb11 x0; replace x1 := below_cell hb11 x1; replace x2 := below_cell hb11 x2; replace x3 := below_cell hb11 x3; replace y0 := below_cell hb11 y0; replace y1 := below_cell hb11 y1; replace y2 := below_cell hb11 y2; replace y3 := below_cell hb11 y3; replace qd := below_cell hb11 qd; replace HR := Lib.hid (HR.out.below hb11); replace HO := Lib.hid (HO.out.below hb11); replace HC1 := Lib.hid (HC1.out.below hb11); replace HC2 := Lib.hid (HC2.out.below hb11); replace HDA := Lib.hid (HDA.out.below hb11); replace HDB := Lib.hid (HDB.out.below hb11); replace HWH := Lib.hid (HWH.out.below hb11); replace HB := Lib.hid (HB.out.trans (hb11.mono HB.out.size)); clear hb11))
    have hcq2 : (0 : Int) < (cq : Int) := by omega
    have hkk : (key == key) = true := by simp
    have hoo : (ok == ok) = true := by simp
    go_wp2_with fail
    go_ret
    exact ⟨rfl, HB.out⟩

end Go.Proofs.Ytnbkbnbmmkfckaa
