/- The laws of renewing: what a drawn region that renews has put. The laws of renewing: RenewalMixed. -/
import Derived.Test.YtnbkbnbmmkfckaaMReN
import Derived.Test.YtnbkbnbmmkfckaaMRegIn
import Derived.Test.YtnbkbnbmmkfckaaMProI
import Derived.Test.YtnbkbnbmmkfckaaMReQ
import Derived.Test.YtnbkbnbmmkfckaaMReS
import Derived.Test.YtnbkbnbmmkfckaaMOpen
namespace Go.Proofs.Ytnbkbnbmmkfckaa
open Go.RowKit FP

def projV (k : Nat) (t : Value) : Value := match t with
  | .tuple xs => xs.getD k undef
  | _ => undef
def RenOut (rv ov : Value) (rows : List (List Int)) (x : Int) (u y : List Int) (w : World) (t : Value) : Prop :=
  ∃ al cl ac cc ad cd ay cy, t = .tuple #[.agg #[.int .i64 0, rv, ov, .slice ac (colsQ rows) cc], .agg #[.int .i64 1, rv, ov, .slice ad (colsQ rows) cd], .slice al rows.length cl, .slice ay rows.length cy, .bool true] ∧
      Ints w (.slice ac (colsQ rows) cc) (dealC (x :: u)) ∧ Ints w (.slice ad (colsQ rows) cd) (dealC (x :: y)) ∧ Shares w (.slice al rows.length cl) (dealL rows (x :: u)) ∧ Shares w (.slice ay rows.length cy) (dealL rows (x :: y))
theorem RenOut.below {rv ov : Value} {rows : List (List Int)} {x : Int} {u y : List Int} {w w' : World} {t : Value} (h : RenOut rv ov rows x u y w t) (hb : Below w.heap.size w w') : RenOut rv ov rows x u y w' t := by
  obtain ⟨al, cl, ac, cc, ad, cd, ay, cy, e, h1, h2, h3, h4⟩ := h
  exact ⟨al, cl, ac, cc, ad, cd, ay, cy, e, h1.below hb, h2.below hb, h3.below hb, h4.below hb⟩
abbrev zeroK : Array Value := #[.int .i64 0, .slice none 0 0, .slice none 0 0, .slice none 0 0]
theorem RenOut.put {rv ov : Value} {rows : List (List Int)} {x : Int} {u y : List Int} {w : World} {t : Value} {B : Nat} {ty : TypeId} (h : RenOut rv ov rows x u y w t) (hS : w.heap[B]? = some (.cells zeroK ty (0, 0))) (e a b c : Value) : RenOut rv ov rows x u y (putKey w B e a b c) t := by
  obtain ⟨al, cl, ac, cc, ad, cd, ay, cy, e1, h1, h2, h3, h4⟩ := h
  exact ⟨al, cl, ac, cc, ad, cd, ay, cy, e1, h1.keyW0 hS (dealC_pos _) _ _ _ _, h2.keyW0 hS (dealC_pos _) _ _ _ _, h3.keyW0 hS _ _ _ _, h4.keyW0 hS _ _ _ _⟩
def aggC : Value → Array Value
  | .agg xs => xs
  | _ => #[]
/-- A box that a drawn region makes, and stores a key into. -/
def KeyBox (n0 : Nat) (ty : TypeId) (w : World) (d s : Bool) (v c : Value) : Prop := d = true → ∃ B, v = .pointer (some ⟨B, 0, none⟩) ∧ n0 ≤ B ∧ B < w.heap.size ∧ w.heap[B]? = some (.cells (if s = true then aggC c else zeroK) ty (0, 0))
structure Boxes (n0 : Nat) (ty : TypeId) (w : World) (dA dB sA sB : Bool) (vA vB cA cB : Value) : Prop where
  a0 : KeyBox n0 ty w dA sA vA cA
  b0 : KeyBox n0 ty w dB sB vB cB
  ne : dA = true → dB = true → vA ≠ vB
theorem KeyBox.below {n0 : Nat} {ty : TypeId} {w w' : World} {d s : Bool} {v c : Value} (h : KeyBox n0 ty w d s v c) (hb : Below w.heap.size w w') : KeyBox n0 ty w' d s v c := fun hd => by
  obtain ⟨B, e, h1, h2, h3⟩ := h hd
  exact ⟨B, e, h1, Nat.lt_of_lt_of_le h2 hb.size, (hb.block _ h2).trans h3⟩
theorem Boxes.below {n0 : Nat} {ty : TypeId} {w w' : World} {dA dB sA sB : Bool} {vA vB cA cB : Value} (h : Boxes n0 ty w dA dB sA sB vA vB cA cB) (hb : Below w.heap.size w w') : Boxes n0 ty w' dA dB sA sB vA vB cA cB := ⟨h.a0.below hb, h.b0.below hb, h.ne⟩
theorem Boxes.symm {n0 : Nat} {ty : TypeId} {w : World} {dA dB sA sB : Bool} {vA vB cA cB : Value} (h : Boxes n0 ty w dA dB sA sB vA vB cA cB) : Boxes n0 ty w dB dA sB sA vB vA cB cA := ⟨h.b0, h.a0, fun h1 h2 e => h.ne h2 h1 e.symm⟩
theorem Boxes.nil (n0 : Nat) (ty : TypeId) (w : World) (vA vB cA cB : Value) : Boxes n0 ty w false false false false vA vB cA cB := ⟨(fun h => by cases h), (fun h => by cases h), (fun h => by cases h)⟩
theorem Boxes.other {n0 : Nat} {ty : TypeId} {w : World} {dA dB sA sB : Bool} {vA vB cA cB cA' cB' : Value} (h : Boxes n0 ty w dA dB sA sB vA vB cA cB) (hA : sA = false) (hB : sB = false) : Boxes n0 ty w dA dB sA sB vA vB cA' cB' := by
  subst hA hB
  exact ⟨h.a0, h.b0, h.ne⟩
theorem Boxes.allocA {n0 : Nat} {ty : TypeId} {w : World} {dA dB sA sB : Bool} {vA vB cA cB : Value} (h : Boxes n0 ty w dA dB sA sB vA vB cA cB) (hs : sA = false) (hn : n0 ≤ w.heap.size) : Boxes n0 ty (w.alloc (.cells zeroK ty)) true dB sA sB (.pointer (some ⟨w.heap.size, 0, none⟩)) vB cA cB := by
  refine ⟨fun _ => ⟨w.heap.size, rfl, hn, by simp, ?_⟩, h.b0.below (below_new _ _ _), fun _ hd e => ?_⟩
  · rw [hs, if_neg (by decide)]
    exact World.alloc_heap_new _ _
  · obtain ⟨B, e1, h1, h2, -⟩ := h.b0 hd
    rw [e1] at e
    simp only [Value.pointer.injEq, Option.some.injEq, Addr.mk.injEq] at e
    omega
theorem Boxes.allocB {n0 : Nat} {ty : TypeId} {w : World} {dA dB sA sB : Bool} {vA vB cA cB : Value} (h : Boxes n0 ty w dA dB sA sB vA vB cA cB) (hs : sB = false) (hn : n0 ≤ w.heap.size) : Boxes n0 ty (w.alloc (.cells zeroK ty)) dA true sA sB vA (.pointer (some ⟨w.heap.size, 0, none⟩)) cA cB := (h.symm.allocA hs hn).symm
theorem Boxes.storeA {n0 : Nat} {ty : TypeId} {w : World} {dA dB sA sB : Bool} {vA vB cA cB : Value} {B : Nat} (h : Boxes n0 ty w dA dB sA sB vA vB cA cB) (hv : vA = .pointer (some ⟨B, 0, none⟩)) (hd : dA = true) {e a b c : Value} (hc : cA = .agg #[e, a, b, c]) (hS : w.heap[B]? = some (.cells zeroK ty (0, 0))) : Boxes n0 ty (putKey w B e a b c) dA dB true sB vA vB cA cB := by
  obtain ⟨B', e1, h1, h2, -⟩ := h.a0 hd
  have e2 : B' = B := by
    rw [hv] at e1
    simp only [Value.pointer.injEq, Option.some.injEq, Addr.mk.injEq] at e1
    exact e1.1.symm
  subst e2
  have hsz : ∀ B, B < w.heap.size → B < (putKey w B' e a b c).heap.size := fun B hB => by
    have := (keyW_below (n := 0) (Below.refl 0 w) (Nat.zero_le B') e a b c).size
    omega
  refine ⟨fun _ => ⟨B', hv, h1, hsz _ h2, ?_⟩, fun hb => ?_, h.ne⟩
  · rw [if_pos rfl, hc]
    exact keyW_heap hS _ _ _ _
  · obtain ⟨B2, e3, h3, h4, h5⟩ := h.b0 hb
    refine ⟨B2, e3, h3, hsz _ h4, ?_⟩
    rw [keyW_other w (show B2 ≠ B' from fun e => h.ne hd hb (by rw [hv, e3, e])), h5]
theorem Boxes.storeB {n0 : Nat} {ty : TypeId} {w : World} {dA dB sA sB : Bool} {vA vB cA cB : Value} {B : Nat} (h : Boxes n0 ty w dA dB sA sB vA vB cA cB) (hv : vB = .pointer (some ⟨B, 0, none⟩)) (hd : dB = true) {e a b c : Value} (hc : cB = .agg #[e, a, b, c]) (hS : w.heap[B]? = some (.cells zeroK ty (0, 0))) : Boxes n0 ty (putKey w B e a b c) dA dB sA true vA vB cA cB := (h.symm.storeA hv hd hc hS).symm

end Go.Proofs.Ytnbkbnbmmkfckaa

namespace Go.Proofs.Ytnbkbnbmmkfckaa
open Go.RowKit FP

structure MixPack (rows : List (List Int)) (owners : List Int) (s t b bn : Int) (R N vl wl MU BK Y1 Y2 : List Int) (wa wb : List Int) : Prop where
  d1 : DealOK rows owners s R
  d2 : DealOK rows owners 0 N
  d3 : DealOK rows owners t MU
  d4 : DealOK rows owners 0 BK
  vn : vl.length = R.length + 1
  wn : wl.length = R.length + 1
  nn : N.length = R.length
  r64 : R.length ≤ 64
  bb : 0 ≤ b ∧ b < 1073741789
  bm : 0 ≤ bn ∧ bn < 1073741789
  e1 : sumZ R [N] = Y1
  e2 : sumZ MU [BK] = Y2
  mu : MU = movQ R vl b
  bk : BK = movQ (movQ N wl b) vl bn
  o1 : ofQ owners wa (dealL rows (t :: MU)) = ofQ owners wa (dealL rows (s :: R))
  o2 : ofQ owners wb (dealL rows (t :: Y2)) = ofQ owners wb (dealL rows (s :: Y1))
theorem refY_len {rows : List (List Int)} {owners who vl : List Int} (hp : progE rows owners = 0) (hw : peopleB (-1) who = true) (hq : refY rows owners who = some vl) : provesQ (pownR rows owners who) (tgt (colsQ rows)) vl = true ∧ vl.length = colsQ rows := by
  have hP := progE_ok hp
  have hpr : provesQ (pownR rows owners who) (tgt (colsQ rows)) vl = true := by
    unfold refY at hq
    rw [if_pos (questE_of hp hw)] at hq
    exact sep_some (pownR_right hP) hq
  have hl := ((proves_iff (pownR_right hP)).1 hpr).1
  rw [tgt_len] at hl
  exact ⟨hpr, hl⟩
theorem mix_pack {rows : List (List Int)} {owners : List Int} {s t b bn : Int} (hp : progE rows owners = 0) (hs : 0 ≤ s ∧ s < 1073741789) (ht : 0 ≤ t ∧ t < 1073741789) (hb : b = (t + (1073741789 - s)) % 1073741789) (hbn : bn = (0 + (1073741789 - b)) % 1073741789) (l1 l2 wa wb vl wl : List Int) (ha : peopleB (-1) wa = true) (hbw : peopleB (-1) wb = true) (h1 : refY rows owners wa = some vl) (h2 : refY rows owners wb = some wl) :
    MixPack rows owners s t b bn (randQ rows l1) (randQ rows l2) vl wl (movQ (randQ rows l1) vl b) (movQ (movQ (randQ rows l2) wl b) vl bn) (addQ (randQ rows l1) (randQ rows l2)) (movQ (addQ (randQ rows l1) (randQ rows l2)) wl b) wa wb := by
  obtain ⟨p1, n1⟩ := refY_len hp ha h1
  obtain ⟨p2, n2⟩ := refY_len hp hbw h2
  have d1 := rand_ok hp l1 hs
  have d2 := rand_ok (owners := owners) hp l2 (x := 0) (by decide)
  have hP := d1.prog
  have hc := hP.cols_le
  have hci := hP.cols
  have hl1 := randQ_len rows l1
  have hl2 := randQ_len rows l2
  generalize randQ rows l1 = R at *
  generalize randQ rows l2 = N at *
  have hd1 := d1.len
  have hd2 := d2.len
  have sY : DealOK rows owners s (addQ R N) := ⟨hP, hs, addQ_num _ _, by rw [addQ_len]; exact hd1⟩
  refine ⟨d1, d2, ⟨hP, ht, movQ_num _ _ _, by rw [movQ_len]; exact hd1⟩, ⟨hP, by decide, movQ_num _ _ _, by rw [movQ_len, movQ_len]; exact hd2⟩, by omega, by omega, by omega, by omega, by omega, by omega, rfl, ?_, rfl, rfl, mov_of hP ha hd1 hb p1, mov_of hP hbw sY.len hb p2⟩
  show addQ (movQ R vl b) (movQ (movQ N wl b) vl bn) = _
  rw [hbn]
  exact back_mov (by omega)

structure FMix (w0 : World) (rv ov rnv ylv bkv : Value) (t by_ : Int) (rows : List (List Int)) (R vl BK MU Y : List Int) (done : Nat → Bool) (v : Nat → Value) (w : World) : Prop where
  b : Below w0.heap.size w0 w
  f0 : done 0 = true → v 0 = .agg #[rv, ov]
  f1 : done 1 = true → v 1 = .int .i64 t
  f2 : done 2 = true → v 2 = rnv
  f3 : done 3 = true → v 3 = ylv
  f4 : done 4 = true → v 4 = .int .i64 by_
  f5 : done 5 = true → done 8 = false → Ints w (v 5) MU
  f6 : done 6 = true → v 6 = bkv
  f7 : done 7 = true → done 8 = false → Rows2 w (v 7) [BK]
  f8 : done 8 = true → RenOut rv ov rows t MU Y w (v 8)
  f9 : done 9 = true → v 9 = v 8
  f10 : done 10 = true → v 10 = projV 0 (v 8)
  f11 : done 11 = true → v 11 = projV 1 (v 8)
  f12 : done 12 = true → v 12 = projV 2 (v 8)
  f13 : done 13 = true → v 13 = projV 3 (v 8)
  f14 : done 14 = true → v 14 = projV 4 (v 8)
  f19 : done 19 = true → v 19 = projV 2 (v 8)
  f20 : done 20 = true → v 20 = projV 3 (v 8)
  f21 : done 21 = true → v 21 = projV 4 (v 8)
  bx : Boxes w0.heap.size 38 w (done 15) (done 16) (done 17) (done 18) (v 15) (v 16) (projV 0 (v 8)) (projV 1 (v 8))

set_option maxRecDepth 100000 in
set_option maxHeartbeats 16000000 in
theorem renewalMixed_any (rv ov lv1 lv2 : Value) (rows : List (List Int)) (owners : List Int) (a c : Int) (l1 l2 : List Int) (bs os : Int) (w : World) (hR : Rows2 w rv rows) (hO : Ints w ov owners) (ha : 0 ≤ a ∧ a < 4294967296) (hc : 0 ≤ c ∧ c < 4294967296) (hL1 : Words w lv1 l1) (hL2 : Words w lv2 l2) (hbs : 0 ≤ bs ∧ bs < 18446744073709551616) (hos : 0 ≤ os ∧ os < 18446744073709551616) :
    Calls Try.prog 11 #[.agg #[rv, ov], .int .u32 a, .int .u32 c, lv1, lv2, .int .u64 bs, .int .u64 os] w fun e w' => e = .returned (.bool true) ∧ Below w.heap.size w w' := by
  obtain ⟨W1, hW1, hb1, hr1, hz⟩ := box_prog w rv ov 25
  have HR := Lib.hid (hR.below hb1)
  have HO := Lib.hid (hO.below hb1)
  have HX1 := Lib.hid (hL1.below hb1)
  have HX2 := Lib.hid (hL2.below hb1)
  obtain ⟨ar, cap, rfl, -, hlen, -⟩ := id hR
  obtain ⟨a2, cap2, rfl, -, hlen2, -⟩ := id hO
  obtain ⟨a3, cap3, rfl, -⟩ := id hL1
  obtain ⟨a4, cap4, rfl, -⟩ := id hL2
  have c0 : W1.cell? ⟨w.heap.size, 0, none⟩ = some (.slice ar rows.length cap) := row_cell hr1 rfl
  have c1 : W1.cell? ⟨w.heap.size, 1, none⟩ = some (.slice a2 owners.length cap2) := row_cell hr1 rfl
  have HW1 := Lib.hid hW1
  have HB := Lib.hid hb1
  have HS := Lib.hid (sane38_any W1)
  clear hR hO hL1 hL2 hr1 hW1 hb1
  cases hsm : smallQ rows owners with
  | false =>
    have HSM := Lib.hid hsm
    clear hsm
    go_enter Try.func11, Try.ntmps11
    go_wp2_with fail
    rw [← HW1.out]
    with_reducible refine (HS.out).mono ?_
    rintro e w2 ⟨rfl, hb2⟩
    replace c0 := below_cell hb2 c0
    replace c1 := below_cell hb2 c1
    replace HR := Lib.hid (HR.out.below hb2)
    replace HO := Lib.hid (HO.out.below hb2)
    replace HX1 := Lib.hid (HX1.out.below hb2)
    replace HX2 := Lib.hid (HX2.out.below hb2)
    replace HB := Lib.hid (HB.out.trans (hb2.mono HB.out.size))
    clear hb2
    go_wp2_with fail
    with_reducible refine (rsmall_any _ _ rows owners _ HR.out HO.out).mono ?_
    rintro e w3 ⟨rfl, hb3⟩
    replace c0 := below_cell hb3 c0
    replace c1 := below_cell hb3 c1
    replace HR := Lib.hid (HR.out.below hb3)
    replace HO := Lib.hid (HO.out.below hb3)
    replace HX1 := Lib.hid (HX1.out.below hb3)
    replace HX2 := Lib.hid (HX2.out.below hb3)
    replace HB := Lib.hid (HB.out.trans (hb3.mono HB.out.size))
    clear hb3
    rw [HSM.out]
    go_wp2_with fail
    go_ret
    exact ⟨rfl, HB.out⟩
  | true =>
    have HSM := Lib.hid hsm
    obtain ⟨hrl, hp0, hcl⟩ := small_ok hsm
    have HPE := Lib.hid (fun w => people38_any bs w hbs.1 hbs.2)
    have HPF := Lib.hid (fun w => people38_any os w hos.1 hos.2)
    have HPR := Lib.hid (people_right bs)
    have HPS := Lib.hid (people_right os)
    obtain ⟨wa, hwa⟩ : ∃ who, who = peopleQ bs := ⟨_, rfl⟩
    obtain ⟨wb, hwb⟩ : ∃ who, who = peopleQ os := ⟨_, rfl⟩
    rw [← hwa] at HPE HPR
    rw [← hwb] at HPF HPS
    have HQ1 : Hid (questE rows owners wa = 0) := Lib.hid (questE_of hp0 HPR.out)
    have HQ2 : Hid (questE rows owners wb = 0) := Lib.hid (questE_of hp0 HPS.out)
    have HRL := Lib.hid hrl
    have HP0 := Lib.hid hp0
    have HA := Lib.hid ha
    have HC := Lib.hid hc
    clear hsm hwa hwb hbs hos hp0 ha hc
    go_enter Try.func11, Try.ntmps11
    go_wp2_with fail
    rw [← HW1.out]
    with_reducible refine (HS.out).mono ?_
    rintro e w2 ⟨rfl, hb2⟩
    replace c0 := below_cell hb2 c0
    replace c1 := below_cell hb2 c1
    replace HR := Lib.hid (HR.out.below hb2)
    replace HO := Lib.hid (HO.out.below hb2)
    replace HX1 := Lib.hid (HX1.out.below hb2)
    replace HX2 := Lib.hid (HX2.out.below hb2)
    replace HB := Lib.hid (HB.out.trans (hb2.mono HB.out.size))
    clear hb2
    go_wp2_with fail
    with_reducible refine (rsmall_any _ _ rows owners _ HR.out HO.out).mono ?_
    rintro e w3 ⟨rfl, hb3⟩
    replace c0 := below_cell hb3 c0
    replace c1 := below_cell hb3 c1
    replace HR := Lib.hid (HR.out.below hb3)
    replace HO := Lib.hid (HO.out.below hb3)
    replace HX1 := Lib.hid (HX1.out.below hb3)
    replace HX2 := Lib.hid (HX2.out.below hb3)
    replace HB := Lib.hid (HB.out.trans (hb3.mono HB.out.size))
    clear hb3
    rw [HSM.out]
    go_wp2_with fail
    with_reducible refine (HPE.out _).mono ?_
    rintro e w4 ⟨wv, rfl, hwv, hb4⟩
    replace c0 := below_cell hb4 c0
    replace c1 := below_cell hb4 c1
    replace HR := Lib.hid (HR.out.below hb4)
    replace HO := Lib.hid (HO.out.below hb4)
    replace HX1 := Lib.hid (HX1.out.below hb4)
    replace HX2 := Lib.hid (HX2.out.below hb4)
    replace HB := Lib.hid (HB.out.trans (hb4.mono HB.out.size))
    clear hb4
    have HWA := Lib.hid hwv
    obtain ⟨aw, cw, rfl, -⟩ := id hwv
    clear hwv
    go_wp2_with fail
    with_reducible refine (HPF.out _).mono ?_
    rintro e w5 ⟨wv, rfl, hwv, hb5⟩
    replace c0 := below_cell hb5 c0
    replace c1 := below_cell hb5 c1
    replace HR := Lib.hid (HR.out.below hb5)
    replace HO := Lib.hid (HO.out.below hb5)
    replace HX1 := Lib.hid (HX1.out.below hb5)
    replace HX2 := Lib.hid (HX2.out.below hb5)
    replace HWA := Lib.hid (HWA.out.below hb5)
    replace HB := Lib.hid (HB.out.trans (hb5.mono HB.out.size))
    clear hb5
    have HWB := Lib.hid hwv
    obtain ⟨bw, dw, rfl, -⟩ := id hwv
    clear hwv
    go_wp2_with fail
    with_reducible refine (refuses_any _ _ _ rows owners wa _ HR.out HO.out HWA.out).mono ?_
    rintro e w6 ⟨yv, rfl, hyv, hb6⟩
    replace c0 := below_cell hb6 c0
    replace c1 := below_cell hb6 c1
    replace HR := Lib.hid (HR.out.below hb6)
    replace HO := Lib.hid (HO.out.below hb6)
    replace HX1 := Lib.hid (HX1.out.below hb6)
    replace HX2 := Lib.hid (HX2.out.below hb6)
    replace HWA := Lib.hid (HWA.out.below hb6)
    replace HWB := Lib.hid (HWB.out.below hb6)
    replace HB := Lib.hid (HB.out.trans (hb6.mono HB.out.size))
    clear hb6
    rw [HQ1.out]
    have HY := Lib.hid hyv
    obtain ⟨ya, yc, rfl, -⟩ := id hyv
    clear hyv
    go_wp2_with fail
    with_reducible refine (refuses_any _ _ _ rows owners wb _ HR.out HO.out HWB.out).mono ?_
    rintro e w7 ⟨yv, rfl, hyv, hb7⟩
    replace c0 := below_cell hb7 c0
    replace c1 := below_cell hb7 c1
    replace HR := Lib.hid (HR.out.below hb7)
    replace HO := Lib.hid (HO.out.below hb7)
    replace HX1 := Lib.hid (HX1.out.below hb7)
    replace HX2 := Lib.hid (HX2.out.below hb7)
    replace HWA := Lib.hid (HWA.out.below hb7)
    replace HWB := Lib.hid (HWB.out.below hb7)
    replace HY := Lib.hid (HY.out.below hb7)
    replace HB := Lib.hid (HB.out.trans (hb7.mono HB.out.size))
    clear hb7
    rw [HQ2.out]
    have HZ := Lib.hid hyv
    obtain ⟨za, zc, rfl, -⟩ := id hyv
    clear hyv
    cases hq : refY rows owners wa with
    | none =>
      go_wp2_with fail
      go_ret
      exact ⟨rfl, HB.out⟩
    | some vl =>
    cases hq2 : refY rows owners wb with
    | none =>
      go_wp2_with fail
      go_ret
      exact ⟨rfl, HB.out⟩
    | some wl =>
      have HQA := Lib.hid hq
      have HQB := Lib.hid hq2
      rw [hq] at HY
      rw [hq2] at HZ
      simp only [Option.getD_some] at HY HZ
      have HVL := HY
      have HWL := HZ
      clear hq hq2 HY HZ
      simp only [Option.getD_some, Option.isSome_some]
      obtain ⟨s, hs⟩ : ∃ s, s = a % 1073741789 := ⟨_, rfl⟩
      obtain ⟨t, htt⟩ : ∃ z, z = c % 1073741789 := ⟨_, rfl⟩
      have ha0 := HA.out.1
      have ha1 := HA.out.2
      have hcc0 := HC.out.1
      have hcc1 := HC.out.2
      have hsn : 0 ≤ s ∧ s < 1073741789 := by omega
      have htn : 0 ≤ t ∧ t < 1073741789 := by omega
      have hP := progE_ok HP0.out
      have hm1 : a.tmod 1073741789 = s := by rw [hs, Int.tmod_eq_emod_of_nonneg ha0]
      have hw1 : IntKind.i64.wrap a = a := IntWalk.i64_in _ (by omega)
      have hm2 : c.tmod 1073741789 = t := by rw [htt, Int.tmod_eq_emod_of_nonneg hcc0]
      have hw2 : IntKind.i64.wrap c = c := IntWalk.i64_in _ (by omega)
      have hw3 : IntKind.i64.wrap (1073741789 - s) = 1073741789 - s := IntWalk.i64_in _ (by omega)
      have HADD := Lib.hid (fun w => add_any t (1073741789 - s) w (num_r64 htn) (R64.mk (by omega) (by omega)))
      obtain ⟨b, hb⟩ : ∃ b, b = (t + (1073741789 - s)) % 1073741789 := ⟨_, rfl⟩
      have hbn0 : 0 ≤ b ∧ b < 1073741789 := by omega
      have hw4 : IntKind.i64.wrap (1073741789 - b) = 1073741789 - b := IntWalk.i64_in _ (by omega)
      have HADE := Lib.hid (fun w => add_any 0 (1073741789 - b) w (R64.mk (by omega) (by omega)) (R64.mk (by omega) (by omega)))
      obtain ⟨bn, hbn⟩ : ∃ bn, bn = (0 + (1073741789 - b)) % 1073741789 := ⟨_, rfl⟩
      rw [← hb] at HADD
      rw [← hbn] at HADE
      have HK := Lib.hid (mix_pack HP0.out hsn htn hb hbn l1 l2 wa wb vl wl HPR.out HPS.out HQA.out HQB.out)
      have HD1 := Lib.hid (fun ww h1 h2 h3 => numbers38_any (.slice ar rows.length cap) (.slice a2 owners.length cap2) (.slice a3 l1.length cap3) rows owners l1 ww h1 h2 h3 hP)
      have HD2 := Lib.hid (fun ww h1 h2 h3 => numbers38_any (.slice ar rows.length cap) (.slice a2 owners.length cap2) (.slice a4 l2.length cap4) rows owners l2 ww h1 h2 h3 hP)
      obtain ⟨R, hRR⟩ : ∃ R, R = randQ rows l1 := ⟨_, rfl⟩
      obtain ⟨N, hNN⟩ : ∃ N, N = randQ rows l2 := ⟨_, rfl⟩
      rw [← hRR, ← hNN] at HK
      rw [← hRR] at HD1
      rw [← hNN] at HD2
      obtain ⟨N1, hN1⟩ : ∃ x, x = movQ N wl b := ⟨_, rfl⟩
      have hN1l : N1.length = N.length := by rw [hN1, movQ_len]
      obtain ⟨MU, hMU⟩ : ∃ x, x = movQ R vl b := ⟨_, rfl⟩
      obtain ⟨Y1, hY1⟩ : ∃ x, x = addQ R N := ⟨_, rfl⟩
      obtain ⟨Y2, hY2⟩ : ∃ x, x = movQ Y1 wl b := ⟨_, rfl⟩
      rw [← hMU, ← hN1, ← hY1, ← hY2] at HK
      obtain ⟨BK, hBK⟩ : ∃ x, x = movQ N1 vl bn := ⟨_, rfl⟩
      rw [← hBK] at HK
      have HMN := Lib.hid (fun (nv : Value) ww (h1 : Ints ww nv N) h2 => moved38_any nv (.slice za wl.length zc) N wl b ww h1 h2 (by have := HK.out.wn; have := HK.out.nn; omega) HK.out.bb (by have := HK.out.r64; have := HK.out.nn; omega))
      have HMB := Lib.hid (fun (nv : Value) ww (h1 : Ints ww nv N1) h2 => moved38_any nv (.slice ya vl.length yc) N1 vl bn ww h1 h2 (by have := HK.out.vn; have := HK.out.nn; omega) HK.out.bm (by have := HK.out.r64; have := HK.out.nn; omega))
      have HMV0 := Lib.hid (fun (rn : Value) ww (h1 : Ints ww rn R) h2 => moved38_any rn (.slice ya vl.length yc) R vl b ww h1 h2 HK.out.vn HK.out.bb HK.out.r64)
      rw [← hN1] at HMN
      rw [← hBK] at HMB
      rw [← hMU] at HMV0
      have HN1 := Lib.hid (fun mv zv ww h1 h2 h3 h4 => renewed_any (.slice ar rows.length cap) (.slice a2 owners.length cap2) mv zv rows owners s R [N] ww h1 h2 h3 h4 HK.out.d1 HP0.out (by simp [HK.out.d2]) (by simp))
      have HN2 := Lib.hid (fun mv zv ww h1 h2 h3 h4 => renewed_any (.slice ar rows.length cap) (.slice a2 owners.length cap2) mv zv rows owners t MU [BK] ww h1 h2 h3 h4 HK.out.d3 HP0.out (by simp [HK.out.d4]) (by simp))
      rw [HK.out.e1] at HN1
      rw [HK.out.e2] at HN2
      have HO1 := Lib.hid HK.out.o1
      have HO2 := Lib.hid HK.out.o2
      have HI1 := Lib.hid (deal_in (s := s :: R) hP)
      have HI2 := Lib.hid (deal_in (s := t :: MU) hP)
      have HI3 := Lib.hid (deal_in (s := s :: Y1) hP)
      have HI4 := Lib.hid (deal_in (s := t :: Y2) hP)
      have HPL1 := Lib.hid (peopleB_len HPR.out)
      have HPL2 := Lib.hid (peopleB_len HPS.out)
      have hne1 : ((vl.length : Int) != (R.length : Int) + 1) = false := by rw [HK.out.vn]; simp
      have hne2 : ((wl.length : Int) != (R.length : Int) + 1) = false := by rw [HK.out.wn]; simp
      have hr64 := HK.out.r64
      have HS1 := Lib.hid hs
      have HT1 := Lib.hid htt
      have hs0 := hsn.1
      have hs1 := hsn.2
      have hb0' := hbn0.1
      have hb1' := hbn0.2
      clear hs htt hb hbn hsn htn hbn0 hP hRR hNN hN1 hN1l hMU hY1 hY2 hBK HQA HQB HA HC HPR HPS HPE HPF HQ1 HQ2 HK
      go_upto_region 12 with fail
      go_cut [23, 24, 25, 26] from 74 to 85 (fun q q2 r u W => ∃ ra rc na nc, q = .int .i64 s ∧ q2 = .int .i64 t ∧ r = .slice ra R.length rc ∧ u = .slice na N.length nc ∧ Ints W (.slice ra R.length rc) R ∧ Ints W (.slice na N.length nc) N ∧ Below w7.heap.size w7 W)
      case first =>
        have HBX := Lib.hid (Below.refl w7.heap.size w7)
        have hbd : Below w7.heap.size w7 w7.drew := (Below.refl _ _).drew
        replace HR := Lib.hid (HR.out.below hbd)
        replace HO := Lib.hid (HO.out.below hbd)
        replace HX1 := Lib.hid (HX1.out.below hbd)
        replace HX2 := Lib.hid (HX2.out.below hbd)
        replace HWA := Lib.hid (HWA.out.below hbd)
        replace HWB := Lib.hid (HWB.out.below hbd)
        replace HVL := Lib.hid (HVL.out.below hbd)
        replace HWL := Lib.hid (HWL.out.below hbd)
        replace HB := Lib.hid (HB.out.drew)
        replace HBX := Lib.hid (HBX.out.drew)
        clear hbd
        try rw [← HS1.out]
        try rw [← HT1.out]
        go_region_held3 (fun w' => w'.cell? ⟨w.heap.size, 0, none⟩ = some (.slice ar rows.length cap) ∧ w'.cell? ⟨w.heap.size, 1, none⟩ = some (.slice a2 owners.length cap2)) (first | go_keep | exact ⟨c0, c1⟩)
          (first
            | (go_at_call 32; (with_reducible refine (HD1.out _ HR.out HO.out HX1.out).mono ?_); rintro e wq ⟨v, rfl, hrn, hbq⟩; have H1 := Lib.hid hrn; obtain ⟨ra, rc, rfl, -⟩ := id hrn; clear hrn; (try replace H2 := Lib.hid (H2.out.below hbq)); replace c0 := below_cell hbq c0; replace c1 := below_cell hbq c1; replace HR := Lib.hid (HR.out.below hbq); replace HO := Lib.hid (HO.out.below hbq); replace HX1 := Lib.hid (HX1.out.below hbq); replace HX2 := Lib.hid (HX2.out.below hbq); replace HWA := Lib.hid (HWA.out.below hbq); replace HWB := Lib.hid (HWB.out.below hbq); replace HVL := Lib.hid (HVL.out.below hbq); replace HWL := Lib.hid (HWL.out.below hbq); replace HB := Lib.hid (HB.out.trans (hbq.mono HB.out.size)); replace HBX := Lib.hid (HBX.out.trans (hbq.mono HBX.out.size)); clear hbq)
            | (go_at_call 32; (with_reducible refine (HD2.out _ HR.out HO.out HX2.out).mono ?_); rintro e wq ⟨v, rfl, hrn, hbq⟩; have H2 := Lib.hid hrn; obtain ⟨na, nc, rfl, -⟩ := id hrn; clear hrn; (try replace H1 := Lib.hid (H1.out.below hbq)); replace c0 := below_cell hbq c0; replace c1 := below_cell hbq c1; replace HR := Lib.hid (HR.out.below hbq); replace HO := Lib.hid (HO.out.below hbq); replace HX1 := Lib.hid (HX1.out.below hbq); replace HX2 := Lib.hid (HX2.out.below hbq); replace HWA := Lib.hid (HWA.out.below hbq); replace HWB := Lib.hid (HWB.out.below hbq); replace HVL := Lib.hid (HVL.out.below hbq); replace HWL := Lib.hid (HWL.out.below hbq); replace HB := Lib.hid (HB.out.trans (hbq.mono HB.out.size)); replace HBX := Lib.hid (HBX.out.trans (hbq.mono HBX.out.size)); clear hbq))
        all_goals
          go_wp2_with fail
          go_meet
          exact ⟨ra, rc, na, nc, rfl, rfl, rfl, rfl, H1.out, H2.out, HBX.out⟩
      case rest =>
      obtain ⟨ra, rc, na, nc, rfl, rfl, rfl, rfl, h1, h2, hb8⟩ := hcut
      have HRN := Lib.hid h1
      have HNN := Lib.hid h2
      clear h1 h2
      replace c0 := below_cell hb8 c0
      replace c1 := below_cell hb8 c1
      replace HR := Lib.hid (HR.out.below hb8)
      replace HO := Lib.hid (HO.out.below hb8)
      replace HX1 := Lib.hid (HX1.out.below hb8)
      replace HX2 := Lib.hid (HX2.out.below hb8)
      replace HWA := Lib.hid (HWA.out.below hb8)
      replace HWB := Lib.hid (HWB.out.below hb8)
      replace HVL := Lib.hid (HVL.out.below hb8)
      replace HWL := Lib.hid (HWL.out.below hb8)
      replace HB := Lib.hid (HB.out.trans (hb8.mono HB.out.size))
      clear hb8
      clear HX1 HX2 HD1 HD2
      obtain ⟨W5, hW5, hb5, hz5⟩ : ∃ W, W = wc.alloc (.cells #[.slice na N.length nc] 23) ∧ Below wc.heap.size wc W ∧ Rows2 W (.slice (some ⟨wc.heap.size, 0, none⟩) 1 1) [N] := ⟨_, rfl, below_new _ _ _, Rows2.one HNN.out _⟩
      have HW5 := Lib.hid hW5
      have HZ5 := Lib.hid hz5
      have x0 := c0
      have x1 := c1
      clear hW5 hz5
      replace c0 := below_cell hb5 c0
      replace c1 := below_cell hb5 c1
      replace HR := Lib.hid (HR.out.below hb5)
      replace HO := Lib.hid (HO.out.below hb5)
      replace HWA := Lib.hid (HWA.out.below hb5)
      replace HWB := Lib.hid (HWB.out.below hb5)
      replace HVL := Lib.hid (HVL.out.below hb5)
      replace HWL := Lib.hid (HWL.out.below hb5)
      replace HRN := Lib.hid (HRN.out.below hb5)
      replace HNN := Lib.hid (HNN.out.below hb5)
      replace HB := Lib.hid (HB.out.trans (hb5.mono HB.out.size))
      clear hb5
      go_wp2_with (rw [← HW5.out])
      clear x0 x1
      with_reducible refine (HN1.out _ _ _ HR.out HO.out HRN.out HZ5.out).mono ?_
      rintro e w9 ⟨al, cl, ac, cc, ad, cd, ay, cy, rfl, -, -, hs1', hs2', hb9⟩
      replace c0 := below_cell hb9 c0
      replace c1 := below_cell hb9 c1
      replace HR := Lib.hid (HR.out.below hb9)
      replace HO := Lib.hid (HO.out.below hb9)
      replace HWA := Lib.hid (HWA.out.below hb9)
      replace HWB := Lib.hid (HWB.out.below hb9)
      replace HVL := Lib.hid (HVL.out.below hb9)
      replace HWL := Lib.hid (HWL.out.below hb9)
      replace HRN := Lib.hid (HRN.out.below hb9)
      replace HNN := Lib.hid (HNN.out.below hb9)
      replace HB := Lib.hid (HB.out.trans (hb9.mono HB.out.size))
      clear hb9
      have HDA := Lib.hid hs1'
      have HDB := Lib.hid hs2'
      clear hs1' hs2' HZ5 HN1
      obtain ⟨W7, hW7, hb7, -, -⟩ := box_key2 w9 (.int .i64 0) (.slice ar rows.length cap) (.slice a2 owners.length cap2) (.slice ac (colsQ rows) cc) (.int .i64 1) (.slice ar rows.length cap) (.slice a2 owners.length cap2) (.slice ad (colsQ rows) cd) 38
      have HW7 := Lib.hid hW7
      clear hW7
      replace c0 := below_cell hb7 c0
      replace c1 := below_cell hb7 c1
      replace HR := Lib.hid (HR.out.below hb7)
      replace HO := Lib.hid (HO.out.below hb7)
      replace HWA := Lib.hid (HWA.out.below hb7)
      replace HWB := Lib.hid (HWB.out.below hb7)
      replace HVL := Lib.hid (HVL.out.below hb7)
      replace HWL := Lib.hid (HWL.out.below hb7)
      replace HRN := Lib.hid (HRN.out.below hb7)
      replace HNN := Lib.hid (HNN.out.below hb7)
      replace HDA := Lib.hid (HDA.out.below hb7)
      replace HDB := Lib.hid (HDB.out.below hb7)
      replace HB := Lib.hid (HB.out.trans (hb7.mono HB.out.size))
      clear hb7
      go_wp2_with (rw [← HW7.out])
      with_reducible refine (HADD.out _).mono ?_
      rintro e w10 ⟨rfl, hb10⟩
      replace c0 := below_cell hb10 c0
      replace c1 := below_cell hb10 c1
      replace HR := Lib.hid (HR.out.below hb10)
      replace HO := Lib.hid (HO.out.below hb10)
      replace HWA := Lib.hid (HWA.out.below hb10)
      replace HWB := Lib.hid (HWB.out.below hb10)
      replace HVL := Lib.hid (HVL.out.below hb10)
      replace HWL := Lib.hid (HWL.out.below hb10)
      replace HRN := Lib.hid (HRN.out.below hb10)
      replace HNN := Lib.hid (HNN.out.below hb10)
      replace HDA := Lib.hid (HDA.out.below hb10)
      replace HDB := Lib.hid (HDB.out.below hb10)
      replace HB := Lib.hid (HB.out.trans (hb10.mono HB.out.size))
      clear hb10
      go_wp2_with fail
      with_reducible refine (HMN.out _ _ HNN.out HWL.out).mono ?_
      rintro e w11 ⟨v1, rfl, hv1, hb11⟩
      replace c0 := below_cell hb11 c0
      replace c1 := below_cell hb11 c1
      replace HR := Lib.hid (HR.out.below hb11)
      replace HO := Lib.hid (HO.out.below hb11)
      replace HWA := Lib.hid (HWA.out.below hb11)
      replace HWB := Lib.hid (HWB.out.below hb11)
      replace HVL := Lib.hid (HVL.out.below hb11)
      replace HWL := Lib.hid (HWL.out.below hb11)
      replace HRN := Lib.hid (HRN.out.below hb11)
      replace HNN := Lib.hid (HNN.out.below hb11)
      replace HDA := Lib.hid (HDA.out.below hb11)
      replace HDB := Lib.hid (HDB.out.below hb11)
      replace HB := Lib.hid (HB.out.trans (hb11.mono HB.out.size))
      clear hb11
      have HV1 := Lib.hid hv1
      obtain ⟨ma, mc, rfl, -⟩ := id hv1
      clear hv1
      go_wp2_with fail
      with_reducible refine (HADE.out _).mono ?_
      rintro e w12 ⟨rfl, hb12⟩
      replace c0 := below_cell hb12 c0
      replace c1 := below_cell hb12 c1
      replace HR := Lib.hid (HR.out.below hb12)
      replace HO := Lib.hid (HO.out.below hb12)
      replace HWA := Lib.hid (HWA.out.below hb12)
      replace HWB := Lib.hid (HWB.out.below hb12)
      replace HVL := Lib.hid (HVL.out.below hb12)
      replace HWL := Lib.hid (HWL.out.below hb12)
      replace HRN := Lib.hid (HRN.out.below hb12)
      replace HNN := Lib.hid (HNN.out.below hb12)
      replace HDA := Lib.hid (HDA.out.below hb12)
      replace HDB := Lib.hid (HDB.out.below hb12)
      replace HV1 := Lib.hid (HV1.out.below hb12)
      replace HB := Lib.hid (HB.out.trans (hb12.mono HB.out.size))
      clear hb12
      go_wp2_with fail
      with_reducible refine (HMB.out _ _ HV1.out HVL.out).mono ?_
      rintro e w13 ⟨v2, rfl, hv2, hb13⟩
      replace c0 := below_cell hb13 c0
      replace c1 := below_cell hb13 c1
      replace HR := Lib.hid (HR.out.below hb13)
      replace HO := Lib.hid (HO.out.below hb13)
      replace HWA := Lib.hid (HWA.out.below hb13)
      replace HWB := Lib.hid (HWB.out.below hb13)
      replace HVL := Lib.hid (HVL.out.below hb13)
      replace HWL := Lib.hid (HWL.out.below hb13)
      replace HRN := Lib.hid (HRN.out.below hb13)
      replace HNN := Lib.hid (HNN.out.below hb13)
      replace HDA := Lib.hid (HDA.out.below hb13)
      replace HDB := Lib.hid (HDB.out.below hb13)
      replace HV1 := Lib.hid (HV1.out.below hb13)
      replace HB := Lib.hid (HB.out.trans (hb13.mono HB.out.size))
      clear hb13
      have HBK := Lib.hid hv2
      obtain ⟨ba, bc, rfl, -⟩ := id hv2
      clear hv2 HMN HMB HADD HADE HV1
      go_upto_region 18 with fail
      have HMV := Lib.hid (fun ww h1 h2 => HMV0.out (.slice ra R.length rc) ww h1 h2)
      refine wp_region_flows (by kernel_rfl) (by kernel_rfl) (by kernel_rfl) (by kernel_rfl) (fun done v W => FMix w13 (.slice ar rows.length cap) (.slice a2 owners.length cap2) (.slice ra R.length rc) (.slice ya vl.length yc) (.slice ba BK.length bc) t b rows R vl BK MU Y2 done v W) (fun v => ?_) ?_ (fun v W h => ?_)
      · exact ⟨(Below.refl _ _).drew, (fun h => by cases h), (fun h => by cases h), (fun h => by cases h), (fun h => by cases h), (fun h => by cases h), (fun h => by cases h), (fun h => by cases h), (fun h => by cases h), (fun h => by cases h), (fun h => by cases h), (fun h => by cases h), (fun h => by cases h), (fun h => by cases h), (fun h => by cases h), (fun h => by cases h), (fun h => by cases h), (fun h => by cases h), (fun h => by cases h), Boxes.nil _ _ _ _ _ _ _⟩
      · refine ⟨?_, ?_, ?_, ?_, ?_, ?_, ?_, ?_, ?_, ?_, ?_, ?_, ?_, ?_, ?_, ?_, ?_, ?_, ?_, ?_, ?_, ?_, trivial⟩
        · intro done v W A h hd hp hu hA hB
          have e : A.tmps[7]?.getD undef = .pointer (some ⟨w.heap.size, 0, none⟩) := hB 7 rfl
          have x0 := below_cell h.b c0
          have x1 := below_cell h.b c1
          clear hA hB hp hu
          go_simp
          exact ⟨_, rfl, ⟨h.b, (fun _ => rfl), h.f1, h.f2, h.f3, h.f4, h.f5, h.f6, h.f7, h.f8, h.f9, h.f10, h.f11, h.f12, h.f13, h.f14, h.f19, h.f20, h.f21, (h.bx)⟩⟩
        · intro done v W A h hd hp hu hA hB
          have e : A.tmps[24]?.getD undef = .int .i64 t := hB 24 rfl
          clear hA hB hp hu
          go_simp
          exact ⟨_, rfl, ⟨h.b, h.f0, (fun _ => rfl), h.f2, h.f3, h.f4, h.f5, h.f6, h.f7, h.f8, h.f9, h.f10, h.f11, h.f12, h.f13, h.f14, h.f19, h.f20, h.f21, (h.bx)⟩⟩
        · intro done v W A h hd hp hu hA hB
          have e : A.tmps[25]?.getD undef = .slice ra R.length rc := hB 25 rfl
          clear hA hB hp hu
          go_simp
          exact ⟨_, rfl, ⟨h.b, h.f0, h.f1, (fun _ => rfl), h.f3, h.f4, h.f5, h.f6, h.f7, h.f8, h.f9, h.f10, h.f11, h.f12, h.f13, h.f14, h.f19, h.f20, h.f21, (h.bx)⟩⟩
        · intro done v W A h hd hp hu hA hB
          have e : A.tmps[17]?.getD undef = .slice ya vl.length yc := hB 17 rfl
          clear hA hB hp hu
          go_simp
          exact ⟨_, rfl, ⟨h.b, h.f0, h.f1, h.f2, (fun _ => rfl), h.f4, h.f5, h.f6, h.f7, h.f8, h.f9, h.f10, h.f11, h.f12, h.f13, h.f14, h.f19, h.f20, h.f21, (h.bx)⟩⟩
        · intro done v W A h hd hp hu hA hB
          have e : A.tmps[32]?.getD undef = .int .i64 b := hB 32 rfl
          clear hA hB hp hu
          go_simp
          exact ⟨_, rfl, ⟨h.b, h.f0, h.f1, h.f2, h.f3, (fun _ => rfl), h.f5, h.f6, h.f7, h.f8, h.f9, h.f10, h.f11, h.f12, h.f13, h.f14, h.f19, h.f20, h.f21, (h.bx)⟩⟩
        · intro done v W A h hd hp hu hA hB
          have hd2 : done 2 = true := hp 2 rfl
          have hd3 : done 3 = true := hp 3 rfl
          have hd4 : done 4 = true := hp 4 rfl
          have e2 := (hA 2 128 rfl hd2).trans (h.f2 hd2)
          have e3 := (hA 3 129 rfl hd3).trans (h.f3 hd3)
          have e4 := (hA 4 130 rfl hd4).trans (h.f4 hd4)
          clear hA hB hp hu
          go_simp
          with_reducible refine (HMV.out _ (HRN.out.below h.b) (HVL.out.below h.b)).mono ?_
          rintro e wq ⟨y, rfl, hy, hb⟩
          exact ⟨_, rfl, ⟨h.b.trans (hb.mono h.b.size), h.f0, h.f1, h.f2, h.f3, h.f4, (fun _ _ => hy), h.f6, (fun h1 h2 => (h.f7 h1 h2).below hb), (fun h1 => (h.f8 h1).below hb), h.f9, h.f10, h.f11, h.f12, h.f13, h.f14, h.f19, h.f20, h.f21, (h.bx.below hb)⟩⟩
        · intro done v W A h hd hp hu hA hB
          have e : A.tmps[33]?.getD undef = .slice ba BK.length bc := hB 33 rfl
          clear hA hB hp hu
          go_simp
          exact ⟨_, rfl, ⟨h.b, h.f0, h.f1, h.f2, h.f3, h.f4, h.f5, (fun _ => rfl), h.f7, h.f8, h.f9, h.f10, h.f11, h.f12, h.f13, h.f14, h.f19, h.f20, h.f21, (h.bx)⟩⟩
        · intro done v W A h hd hp hu hA hB
          have hd6 : done 6 = true := hp 6 rfl
          have e := (hA 6 132 rfl hd6).trans (h.f6 hd6)
          have hb := below_new W #[.slice ba BK.length bc] 23
          clear hA hB hp hu
          go_simp
          exact ⟨_, rfl, ⟨h.b.trans (hb.mono h.b.size), h.f0, h.f1, h.f2, h.f3, h.f4, (fun h1 h2 => (h.f5 h1 h2).below hb), h.f6, (fun _ _ => Rows2.one (HBK.out.below h.b) _), (fun h1 => (h.f8 h1).below hb), h.f9, h.f10, h.f11, h.f12, h.f13, h.f14, h.f19, h.f20, h.f21, (h.bx.below hb)⟩⟩
        · intro done v W A h hd hp hu hA hB
          have n9_8 : done 9 = false := flow_not (fun hj => hu 9 8 rfl (hj)) hd
          have n10_8 : done 10 = false := flow_not (fun hj => hu 9 8 rfl (hu 10 9 rfl (hj))) hd
          have n11_8 : done 11 = false := flow_not (fun hj => hu 9 8 rfl (hu 11 9 rfl (hj))) hd
          have n12_8 : done 12 = false := flow_not (fun hj => hu 9 8 rfl (hu 12 9 rfl (hj))) hd
          have n13_8 : done 13 = false := flow_not (fun hj => hu 9 8 rfl (hu 13 9 rfl (hj))) hd
          have n14_8 : done 14 = false := flow_not (fun hj => hu 9 8 rfl (hu 14 9 rfl (hj))) hd
          have n19_8 : done 19 = false := flow_not (fun hj => hu 19 8 rfl (hj)) hd
          have n20_8 : done 20 = false := flow_not (fun hj => hu 20 8 rfl (hj)) hd
          have n21_8 : done 21 = false := flow_not (fun hj => hu 21 8 rfl (hj)) hd
          have n17_8 : done 17 = false := flow_not (fun hj => hu 17 8 rfl (hj)) hd
          have n18_8 : done 18 = false := flow_not (fun hj => hu 18 8 rfl (hj)) hd
          have hd0 : done 0 = true := hp 0 rfl
          have hd1 : done 1 = true := hp 1 rfl
          have hd5 : done 5 = true := hp 5 rfl
          have hd7 : done 7 = true := hp 7 rfl
          have e0 := (hA 0 126 rfl hd0).trans (h.f0 hd0)
          have e1 := (hA 1 127 rfl hd1).trans (h.f1 hd1)
          have e5 := hA 5 131 rfl hd5
          have e7 := hA 7 133 rfl hd7
          have h5 := h.f5 hd5 hd
          have h7 := h.f7 hd7 hd
          clear hA hB hp hu
          go_simp
          with_reducible refine (HN2.out _ _ _ (HR.out.below h.b) (HO.out.below h.b) h5 h7).mono ?_
          rintro e wq ⟨al, cl, ac, cc, ad, cd, ay, cy, rfl, i1, i2, s1, s2, hb⟩
          exact ⟨_, rfl, ⟨h.b.trans (hb.mono h.b.size), h.f0, h.f1, h.f2, h.f3, h.f4, (fun _ h2 => absurd (show true = false from h2) (by decide)), h.f6, (fun _ h2 => absurd (show true = false from h2) (by decide)), (fun _ => ⟨al, cl, ac, cc, ad, cd, ay, cy, rfl, i1, i2, s1, s2⟩), (fun hj => absurd (hj.symm.trans n9_8) (by decide)), (fun hj => absurd (hj.symm.trans n10_8) (by decide)), (fun hj => absurd (hj.symm.trans n11_8) (by decide)), (fun hj => absurd (hj.symm.trans n12_8) (by decide)), (fun hj => absurd (hj.symm.trans n13_8) (by decide)), (fun hj => absurd (hj.symm.trans n14_8) (by decide)), (fun hj => absurd (hj.symm.trans n19_8) (by decide)), (fun hj => absurd (hj.symm.trans n20_8) (by decide)), (fun hj => absurd (hj.symm.trans n21_8) (by decide)), ((h.bx.other n17_8 n18_8).below hb)⟩⟩
        · intro done v W A h hd hp hu hA hB
          have hd8 : done 8 = true := hp 8 rfl
          have e : A.tmps[134]?.getD undef = v 8 := hA 8 134 rfl hd8
          clear hA hB hp hu
          go_simp
          exact ⟨_, rfl, ⟨h.b, h.f0, h.f1, h.f2, h.f3, h.f4, h.f5, h.f6, h.f7, h.f8, (fun _ => rfl), h.f10, h.f11, h.f12, h.f13, h.f14, h.f19, h.f20, h.f21, (h.bx)⟩⟩
        · intro done v W A h hd hp hu hA hB
          have hd8 : done 8 = true := hu 9 8 rfl (hp 9 rfl)
          have hd9 : done 9 = true := hp 9 rfl
          obtain ⟨al, cl, ac, cc, ad, cd, ay, cy, e8, -⟩ := h.f8 hd8
          have e := (hA 9 125 rfl hd9).trans ((h.f9 hd9).trans e8)
          clear hA hB hp hu
          go_simp
          exact ⟨_, rfl, ⟨h.b, h.f0, h.f1, h.f2, h.f3, h.f4, h.f5, h.f6, h.f7, h.f8, h.f9, (fun _ => (by show _ = projV 0 (v 8); rw [e8]; rfl)), h.f11, h.f12, h.f13, h.f14, h.f19, h.f20, h.f21, (h.bx)⟩⟩
        · intro done v W A h hd hp hu hA hB
          have hd8 : done 8 = true := hu 9 8 rfl (hp 9 rfl)
          have hd9 : done 9 = true := hp 9 rfl
          obtain ⟨al, cl, ac, cc, ad, cd, ay, cy, e8, -⟩ := h.f8 hd8
          have e := (hA 9 125 rfl hd9).trans ((h.f9 hd9).trans e8)
          clear hA hB hp hu
          go_simp
          exact ⟨_, rfl, ⟨h.b, h.f0, h.f1, h.f2, h.f3, h.f4, h.f5, h.f6, h.f7, h.f8, h.f9, h.f10, (fun _ => (by show _ = projV 1 (v 8); rw [e8]; rfl)), h.f12, h.f13, h.f14, h.f19, h.f20, h.f21, (h.bx)⟩⟩
        · intro done v W A h hd hp hu hA hB
          have hd8 : done 8 = true := hu 9 8 rfl (hp 9 rfl)
          have hd9 : done 9 = true := hp 9 rfl
          obtain ⟨al, cl, ac, cc, ad, cd, ay, cy, e8, -⟩ := h.f8 hd8
          have e := (hA 9 125 rfl hd9).trans ((h.f9 hd9).trans e8)
          clear hA hB hp hu
          go_simp
          exact ⟨_, rfl, ⟨h.b, h.f0, h.f1, h.f2, h.f3, h.f4, h.f5, h.f6, h.f7, h.f8, h.f9, h.f10, h.f11, (fun _ => (by show _ = projV 2 (v 8); rw [e8]; rfl)), h.f13, h.f14, h.f19, h.f20, h.f21, (h.bx)⟩⟩
        · intro done v W A h hd hp hu hA hB
          have hd8 : done 8 = true := hu 9 8 rfl (hp 9 rfl)
          have hd9 : done 9 = true := hp 9 rfl
          obtain ⟨al, cl, ac, cc, ad, cd, ay, cy, e8, -⟩ := h.f8 hd8
          have e := (hA 9 125 rfl hd9).trans ((h.f9 hd9).trans e8)
          clear hA hB hp hu
          go_simp
          exact ⟨_, rfl, ⟨h.b, h.f0, h.f1, h.f2, h.f3, h.f4, h.f5, h.f6, h.f7, h.f8, h.f9, h.f10, h.f11, h.f12, (fun _ => (by show _ = projV 3 (v 8); rw [e8]; rfl)), h.f14, h.f19, h.f20, h.f21, (h.bx)⟩⟩
        · intro done v W A h hd hp hu hA hB
          have hd8 : done 8 = true := hu 9 8 rfl (hp 9 rfl)
          have hd9 : done 9 = true := hp 9 rfl
          obtain ⟨al, cl, ac, cc, ad, cd, ay, cy, e8, -⟩ := h.f8 hd8
          have e := (hA 9 125 rfl hd9).trans ((h.f9 hd9).trans e8)
          clear hA hB hp hu
          go_simp
          exact ⟨_, rfl, ⟨h.b, h.f0, h.f1, h.f2, h.f3, h.f4, h.f5, h.f6, h.f7, h.f8, h.f9, h.f10, h.f11, h.f12, h.f13, (fun _ => (by show _ = projV 4 (v 8); rw [e8]; rfl)), h.f19, h.f20, h.f21, (h.bx)⟩⟩
        · intro done v W A h hd hp hu hA hB
          have n17_15 : done 17 = false := flow_not (fun hj => hu 17 15 rfl (hj)) hd
          have hb := below_new W zeroK 38
          have hn := h.b.size
          clear hA hB hp hu
          go_simp
          exact ⟨_, rfl, ⟨h.b.trans (hb.mono h.b.size), h.f0, h.f1, h.f2, h.f3, h.f4, (fun h1 h2 => (h.f5 h1 h2).below hb), h.f6, (fun h1 h2 => (h.f7 h1 h2).below hb), (fun h1 => (h.f8 h1).below hb), h.f9, h.f10, h.f11, h.f12, h.f13, h.f14, h.f19, h.f20, h.f21, (h.bx.allocA n17_15 hn)⟩⟩
        · intro done v W A h hd hp hu hA hB
          have n18_16 : done 18 = false := flow_not (fun hj => hu 18 16 rfl (hj)) hd
          have hb := below_new W zeroK 38
          have hn := h.b.size
          clear hA hB hp hu
          go_simp
          exact ⟨_, rfl, ⟨h.b.trans (hb.mono h.b.size), h.f0, h.f1, h.f2, h.f3, h.f4, (fun h1 h2 => (h.f5 h1 h2).below hb), h.f6, (fun h1 h2 => (h.f7 h1 h2).below hb), (fun h1 => (h.f8 h1).below hb), h.f9, h.f10, h.f11, h.f12, h.f13, h.f14, h.f19, h.f20, h.f21, (h.bx.allocB n18_16 hn)⟩⟩
        · intro done v W A h hd hp hu hA hB
          have hd8 : done 8 = true := hp 8 rfl
          have hd10 : done 10 = true := hp 10 rfl
          have hd15 : done 15 = true := hp 15 rfl
          obtain ⟨al, cl, ac, cc, ad, cd, ay, cy, e8, -⟩ := h.f8 hd8
          obtain ⟨B, eB, hn0, -, hS⟩ := h.bx.a0 hd15
          simp only [hd, Bool.false_eq_true, if_false] at hS
          have e1 := (hA 15 34 rfl hd15).trans eB
          have e2 := (hA 10 135 rfl hd10).trans ((h.f10 hd10).trans (congrArg (projV 0) e8))
          simp only [projV, Array.getD_eq_getD_getElem?, List.getElem?_toArray, List.getElem?_cons_zero, Option.getD_some] at e2
          have u0 := row_cell hS (k := 0) rfl
          have u1 := row_cell hS (k := 1) rfl
          have u2 := row_cell hS (k := 2) rfl
          have u3 := row_cell hS (k := 3) rfl
          have g0 := row_free hS 0
          have g1 := row_free hS 1
          have g2 := row_free hS 2
          have g3 := row_free hS 3
          clear hA hB hp hu
          go_simp
          exact ⟨undef, ⟨keyW_below h.b hn0 _ _ _ _, h.f0, h.f1, h.f2, h.f3, h.f4, (fun _ h2 => absurd (hd8.symm.trans h2) (by decide)), h.f6, (fun _ h2 => absurd (hd8.symm.trans h2) (by decide)), (fun h1 => (h.f8 h1).put hS _ _ _ _), h.f9, h.f10, h.f11, h.f12, h.f13, h.f14, h.f19, h.f20, h.f21, (h.bx.storeA eB hd15 (congrArg (projV 0) e8) hS)⟩⟩
        · intro done v W A h hd hp hu hA hB
          have hd8 : done 8 = true := hp 8 rfl
          have hd11 : done 11 = true := hp 11 rfl
          have hd16 : done 16 = true := hp 16 rfl
          obtain ⟨al, cl, ac, cc, ad, cd, ay, cy, e8, -⟩ := h.f8 hd8
          obtain ⟨B, eB, hn0, -, hS⟩ := h.bx.b0 hd16
          simp only [hd, Bool.false_eq_true, if_false] at hS
          have e1 := (hA 16 35 rfl hd16).trans eB
          have e2 := (hA 11 136 rfl hd11).trans ((h.f11 hd11).trans (congrArg (projV 1) e8))
          simp only [projV, Array.getD_eq_getD_getElem?, List.getElem?_toArray, List.getElem?_cons_zero, List.getElem?_cons_succ, Option.getD_some] at e2
          have u0 := row_cell hS (k := 0) rfl
          have u1 := row_cell hS (k := 1) rfl
          have u2 := row_cell hS (k := 2) rfl
          have u3 := row_cell hS (k := 3) rfl
          have g0 := row_free hS 0
          have g1 := row_free hS 1
          have g2 := row_free hS 2
          have g3 := row_free hS 3
          clear hA hB hp hu
          go_simp
          exact ⟨undef, ⟨keyW_below h.b hn0 _ _ _ _, h.f0, h.f1, h.f2, h.f3, h.f4, (fun _ h2 => absurd (hd8.symm.trans h2) (by decide)), h.f6, (fun _ h2 => absurd (hd8.symm.trans h2) (by decide)), (fun h1 => (h.f8 h1).put hS _ _ _ _), h.f9, h.f10, h.f11, h.f12, h.f13, h.f14, h.f19, h.f20, h.f21, (h.bx.storeB eB hd16 (congrArg (projV 1) e8) hS)⟩⟩
        · intro done v W A h hd hp hu hA hB
          have hd12 : done 12 = true := hp 12 rfl
          have e : A.tmps[137]?.getD undef = v 12 := hA 12 137 rfl hd12
          clear hA hB hp hu
          go_simp
          exact ⟨_, rfl, ⟨h.b, h.f0, h.f1, h.f2, h.f3, h.f4, h.f5, h.f6, h.f7, h.f8, h.f9, h.f10, h.f11, h.f12, h.f13, h.f14, (fun _ => h.f12 hd12), h.f20, h.f21, (h.bx)⟩⟩
        · intro done v W A h hd hp hu hA hB
          have hd13 : done 13 = true := hp 13 rfl
          have e : A.tmps[138]?.getD undef = v 13 := hA 13 138 rfl hd13
          clear hA hB hp hu
          go_simp
          exact ⟨_, rfl, ⟨h.b, h.f0, h.f1, h.f2, h.f3, h.f4, h.f5, h.f6, h.f7, h.f8, h.f9, h.f10, h.f11, h.f12, h.f13, h.f14, h.f19, (fun _ => h.f13 hd13), h.f21, (h.bx)⟩⟩
        · intro done v W A h hd hp hu hA hB
          have hd14 : done 14 = true := hp 14 rfl
          have e : A.tmps[139]?.getD undef = v 14 := hA 14 139 rfl hd14
          clear hA hB hp hu
          go_simp
          exact ⟨_, rfl, ⟨h.b, h.f0, h.f1, h.f2, h.f3, h.f4, h.f5, h.f6, h.f7, h.f8, h.f9, h.f10, h.f11, h.f12, h.f13, h.f14, h.f19, h.f20, (fun _ => h.f14 hd14), (h.bx)⟩⟩
      have hb14 := h.b
      obtain ⟨am, cm, ae, ce, af, cf, ax, cx, e8, -, -, hm, hx⟩ := h.f8 rfl
      have e19 : v 19 = .slice am rows.length cm := (h.f19 rfl).trans (congrArg (projV 2) e8)
      have e20 : v 20 = .slice ax rows.length cx := (h.f20 rfl).trans (congrArg (projV 3) e8)
      have e21 : v 21 = .bool true := (h.f21 rfl).trans (congrArg (projV 4) e8)
      have HDC := Lib.hid hm
      have HDD := Lib.hid hx
      clear hm hx e8 h
      replace c0 := below_cell hb14 c0
      replace c1 := below_cell hb14 c1
      replace HR := Lib.hid (HR.out.below hb14)
      replace HO := Lib.hid (HO.out.below hb14)
      replace HWA := Lib.hid (HWA.out.below hb14)
      replace HWB := Lib.hid (HWB.out.below hb14)
      replace HVL := Lib.hid (HVL.out.below hb14)
      replace HWL := Lib.hid (HWL.out.below hb14)
      replace HRN := Lib.hid (HRN.out.below hb14)
      replace HNN := Lib.hid (HNN.out.below hb14)
      replace HDA := Lib.hid (HDA.out.below hb14)
      replace HDB := Lib.hid (HDB.out.below hb14)
      replace HBK := Lib.hid (HBK.out.below hb14)
      replace HB := Lib.hid (HB.out.trans (hb14.mono HB.out.size))
      clear hb14
      simp only [putL, Act.put, Nat.reduceAdd, List.setIfInBounds_toArray, List.set_cons_zero, List.set_cons_succ, e19, e20, e21]
      clear e19 e20 e21
      have HOF1 := Lib.hid (fun W h1 h2 h3 => of_any (.slice ar rows.length cap) (.slice a2 owners.length cap2) (.slice al rows.length cl) (.slice aw wa.length cw) owners wa (dealL rows (s :: R)) W ⟨_, _, _, rfl⟩ h1 h2 h3 (by rw [dealL_len]; have := HRL.out; omega) (by have := HPL1.out; omega) HI1.out)
      have HOF2 := Lib.hid (fun W h1 h2 h3 => of_any (.slice ar rows.length cap) (.slice a2 owners.length cap2) (.slice am rows.length cm) (.slice aw wa.length cw) owners wa (dealL rows (t :: MU)) W ⟨_, _, _, rfl⟩ h1 h2 h3 (by rw [dealL_len]; have := HRL.out; omega) (by have := HPL1.out; omega) HI2.out)
      have HOF3 := Lib.hid (fun W h1 h2 h3 => of_any (.slice ar rows.length cap) (.slice a2 owners.length cap2) (.slice ay rows.length cy) (.slice bw wb.length dw) owners wb (dealL rows (s :: Y1)) W ⟨_, _, _, rfl⟩ h1 h2 h3 (by rw [dealL_len]; have := HRL.out; omega) (by have := HPL2.out; omega) HI3.out)
      have HOF4 := Lib.hid (fun W h1 h2 h3 => of_any (.slice ar rows.length cap) (.slice a2 owners.length cap2) (.slice ax rows.length cx) (.slice bw wb.length dw) owners wb (dealL rows (t :: Y2)) W ⟨_, _, _, rfl⟩ h1 h2 h3 (by rw [dealL_len]; have := HRL.out; omega) (by have := HPL2.out; omega) HI4.out)
      rw [HO1.out] at HOF2
      rw [HO2.out] at HOF4
      obtain ⟨F, hF⟩ : ∃ F, F = ofQ owners wa (dealL rows (s :: R)) := ⟨_, rfl⟩
      obtain ⟨G, hG⟩ : ∃ G, G = ofQ owners wb (dealL rows (s :: Y1)) := ⟨_, rfl⟩
      rw [← hF] at HOF1 HOF2
      rw [← hG] at HOF3 HOF4
      have HSF : Hid (sameS F F = true) := Lib.hid (decide_eq_true rfl)
      have HSG : Hid (sameS G G = true) := Lib.hid (decide_eq_true rfl)
      clear hF hG HO1 HO2
      have hbd : Below W.heap.size W W.drew := (Below.refl _ _).drew
      replace HR := Lib.hid (HR.out.below hbd)
      replace HO := Lib.hid (HO.out.below hbd)
      replace HWA := Lib.hid (HWA.out.below hbd)
      replace HWB := Lib.hid (HWB.out.below hbd)
      replace HVL := Lib.hid (HVL.out.below hbd)
      replace HWL := Lib.hid (HWL.out.below hbd)
      replace HRN := Lib.hid (HRN.out.below hbd)
      replace HNN := Lib.hid (HNN.out.below hbd)
      replace HDA := Lib.hid (HDA.out.below hbd)
      replace HDB := Lib.hid (HDB.out.below hbd)
      replace HBK := Lib.hid (HBK.out.below hbd)
      replace HDC := Lib.hid (HDC.out.below hbd)
      replace HDD := Lib.hid (HDD.out.below hbd)
      replace HB := Lib.hid (HB.out.drew)
      clear hbd
      go_wp2_with fail
      go_region_held3 (fun w' => w'.cell? ⟨w.heap.size, 0, none⟩ = some (.slice ar rows.length cap) ∧ w'.cell? ⟨w.heap.size, 1, none⟩ = some (.slice a2 owners.length cap2)) (first | go_keep | exact ⟨c0, c1⟩)
        (first
          | (go_at_call 42; (with_reducible refine (HOF1.out _ HO.out HDA.out HWA.out).mono ?_); rintro e wq ⟨fv, rfl, hfv, hbq⟩; have HF1 := Lib.hid hfv; clear hfv; (try replace HF2 := Lib.hid (HF2.out.below hbq)); replace c0 := below_cell hbq c0; replace c1 := below_cell hbq c1; replace HR := Lib.hid (HR.out.below hbq); replace HO := Lib.hid (HO.out.below hbq); replace HWA := Lib.hid (HWA.out.below hbq); replace HWB := Lib.hid (HWB.out.below hbq); replace HVL := Lib.hid (HVL.out.below hbq); replace HWL := Lib.hid (HWL.out.below hbq); replace HRN := Lib.hid (HRN.out.below hbq); replace HNN := Lib.hid (HNN.out.below hbq); replace HDA := Lib.hid (HDA.out.below hbq); replace HDB := Lib.hid (HDB.out.below hbq); replace HBK := Lib.hid (HBK.out.below hbq); replace HDC := Lib.hid (HDC.out.below hbq); replace HDD := Lib.hid (HDD.out.below hbq); replace HB := Lib.hid (HB.out.trans (hbq.mono HB.out.size)); clear hbq)
          | (go_at_call 42; (with_reducible refine (HOF2.out _ HO.out HDC.out HWA.out).mono ?_); rintro e wq ⟨fv, rfl, hfv, hbq⟩; have HF2 := Lib.hid hfv; clear hfv; (try replace HF1 := Lib.hid (HF1.out.below hbq)); replace c0 := below_cell hbq c0; replace c1 := below_cell hbq c1; replace HR := Lib.hid (HR.out.below hbq); replace HO := Lib.hid (HO.out.below hbq); replace HWA := Lib.hid (HWA.out.below hbq); replace HWB := Lib.hid (HWB.out.below hbq); replace HVL := Lib.hid (HVL.out.below hbq); replace HWL := Lib.hid (HWL.out.below hbq); replace HRN := Lib.hid (HRN.out.below hbq); replace HNN := Lib.hid (HNN.out.below hbq); replace HDA := Lib.hid (HDA.out.below hbq); replace HDB := Lib.hid (HDB.out.below hbq); replace HBK := Lib.hid (HBK.out.below hbq); replace HDC := Lib.hid (HDC.out.below hbq); replace HDD := Lib.hid (HDD.out.below hbq); replace HB := Lib.hid (HB.out.trans (hbq.mono HB.out.size)); clear hbq)
          | (go_at_call 37; (with_reducible refine (rsame_any _ _ F F _ HF1.out HF2.out).mono ?_); rintro e wq ⟨rfl, hbq⟩; rw [HSF.out]; clear HF1 HF2; replace c0 := below_cell hbq c0; replace c1 := below_cell hbq c1; replace HR := Lib.hid (HR.out.below hbq); replace HO := Lib.hid (HO.out.below hbq); replace HWA := Lib.hid (HWA.out.below hbq); replace HWB := Lib.hid (HWB.out.below hbq); replace HVL := Lib.hid (HVL.out.below hbq); replace HWL := Lib.hid (HWL.out.below hbq); replace HRN := Lib.hid (HRN.out.below hbq); replace HNN := Lib.hid (HNN.out.below hbq); replace HDA := Lib.hid (HDA.out.below hbq); replace HDB := Lib.hid (HDB.out.below hbq); replace HBK := Lib.hid (HBK.out.below hbq); replace HDC := Lib.hid (HDC.out.below hbq); replace HDD := Lib.hid (HDD.out.below hbq); replace HB := Lib.hid (HB.out.trans (hbq.mono HB.out.size)); clear hbq)
          | (go_at_call 42; (with_reducible refine (HOF3.out _ HO.out HDB.out HWB.out).mono ?_); rintro e wq ⟨fv, rfl, hfv, hbq⟩; have HG1 := Lib.hid hfv; clear hfv; (try replace HG2 := Lib.hid (HG2.out.below hbq)); replace c0 := below_cell hbq c0; replace c1 := below_cell hbq c1; replace HR := Lib.hid (HR.out.below hbq); replace HO := Lib.hid (HO.out.below hbq); replace HWA := Lib.hid (HWA.out.below hbq); replace HWB := Lib.hid (HWB.out.below hbq); replace HVL := Lib.hid (HVL.out.below hbq); replace HWL := Lib.hid (HWL.out.below hbq); replace HRN := Lib.hid (HRN.out.below hbq); replace HNN := Lib.hid (HNN.out.below hbq); replace HDA := Lib.hid (HDA.out.below hbq); replace HDB := Lib.hid (HDB.out.below hbq); replace HBK := Lib.hid (HBK.out.below hbq); replace HDC := Lib.hid (HDC.out.below hbq); replace HDD := Lib.hid (HDD.out.below hbq); replace HB := Lib.hid (HB.out.trans (hbq.mono HB.out.size)); clear hbq)
          | (go_at_call 42; (with_reducible refine (HOF4.out _ HO.out HDD.out HWB.out).mono ?_); rintro e wq ⟨fv, rfl, hfv, hbq⟩; have HG2 := Lib.hid hfv; clear hfv; (try replace HG1 := Lib.hid (HG1.out.below hbq)); replace c0 := below_cell hbq c0; replace c1 := below_cell hbq c1; replace HR := Lib.hid (HR.out.below hbq); replace HO := Lib.hid (HO.out.below hbq); replace HWA := Lib.hid (HWA.out.below hbq); replace HWB := Lib.hid (HWB.out.below hbq); replace HVL := Lib.hid (HVL.out.below hbq); replace HWL := Lib.hid (HWL.out.below hbq); replace HRN := Lib.hid (HRN.out.below hbq); replace HNN := Lib.hid (HNN.out.below hbq); replace HDA := Lib.hid (HDA.out.below hbq); replace HDB := Lib.hid (HDB.out.below hbq); replace HBK := Lib.hid (HBK.out.below hbq); replace HDC := Lib.hid (HDC.out.below hbq); replace HDD := Lib.hid (HDD.out.below hbq); replace HB := Lib.hid (HB.out.trans (hbq.mono HB.out.size)); clear hbq)
          | (go_at_call 37; (with_reducible refine (rsame_any _ _ G G _ HG1.out HG2.out).mono ?_); rintro e wq ⟨rfl, hbq⟩; rw [HSG.out]; clear HG1 HG2; replace c0 := below_cell hbq c0; replace c1 := below_cell hbq c1; replace HR := Lib.hid (HR.out.below hbq); replace HO := Lib.hid (HO.out.below hbq); replace HWA := Lib.hid (HWA.out.below hbq); replace HWB := Lib.hid (HWB.out.below hbq); replace HVL := Lib.hid (HVL.out.below hbq); replace HWL := Lib.hid (HWL.out.below hbq); replace HRN := Lib.hid (HRN.out.below hbq); replace HNN := Lib.hid (HNN.out.below hbq); replace HDA := Lib.hid (HDA.out.below hbq); replace HDB := Lib.hid (HDB.out.below hbq); replace HBK := Lib.hid (HBK.out.below hbq); replace HDC := Lib.hid (HDC.out.below hbq); replace HDD := Lib.hid (HDD.out.below hbq); replace HB := Lib.hid (HB.out.trans (hbq.mono HB.out.size)); clear hbq))
      all_goals
        go_wp2_with fail
        go_ret
        exact ⟨rfl, HB.out⟩

end Go.Proofs.Ytnbkbnbmmkfckaa
