/- The reference of dealing: Deal, whatever comes of it. The laws of complaints: sealed. -/
import Derived.Test.YtggnipkfliompaaGreatDoorMKgI
import Derived.Test.YtggnipkfliompaaGreatDoorMRegF
namespace Go.Proofs.YtggnipkfliompaaGreatDoor
open Go.RowKit FP

set_option maxRecDepth 100000 in
set_option maxHeartbeats 4000000 in
theorem rDeal_no (rv ov mv : Value) (rows : List (List Int)) (owners : List Int) (x : Int) (rnd : List Int) (w : World) (hR : Rows2 w rv rows) (hO : Ints w ov owners) (hM : Ints w mv rnd) (he : dealE rows owners x rnd ≠ 0) :
    Calls Tryz.prog 69 #[.agg #[rv, ov], .int .i64 x, mv] w fun r w' => r = .returned (.tuple #[.slice none 0 0, .slice none 0 0, .int .i64 (dealE rows owners x rnd)]) ∧ Below w.heap.size w w' := by
  obtain ⟨W1, hW1, hb1, hr1, hz⟩ := box_prog w rv ov 25
  have HR1 := Lib.hid (hR.below hb1)
  have HO1 := Lib.hid (hO.below hb1)
  have HM1 := Lib.hid (hM.below hb1)
  have HPC := Lib.hid (rpCheck_any rv ov rows owners W1 HR1.out HO1.out)
  obtain ⟨a, cap, rfl, -, hlen, -⟩ := id hR
  obtain ⟨a2, cap2, rfl, -, hlen2, -⟩ := id hO
  obtain ⟨a3, cap3, rfl, -, hlen3, -⟩ := id hM
  have c0 : W1.cell? ⟨w.heap.size, 0, none⟩ = some (.slice a rows.length cap) := row_cell hr1 rfl
  have c1 : W1.cell? ⟨w.heap.size, 1, none⟩ = some (.slice a2 owners.length cap2) := row_cell hr1 rfl
  have HW1 := Lib.hid hW1
  have HB1 := Lib.hid hb1
  clear hR hO hM hr1 hW1 hb1
  by_cases hp : progE rows owners = 0
  · have HV : Hid (dealE rows owners x rnd = 1) := Lib.hid (by
      unfold dealE at he ⊢
      rw [if_neg (by simp [hp])] at he ⊢
      split at he
      · rename_i h2; rw [if_pos h2]
      · exact absurd rfl he)
    have HPO := Lib.hid (progE_ok hp)
    rw [hp] at HPC
    have HE0 := Lib.hid he
    have HP0 := Lib.hid hp
    clear he hp
    have hcc := HPO.out.cols
    have hcu := HPO.out.cols_le
    have hci : (1 : Int) ≤ (colsQ rows : Nat) := by omega
    have hcv : ((colsQ rows : Nat) : Int) ≤ 64 := by omega
    cases ex : oddQ x with
    | true =>
      have HX : Hid ((!oddQ x) = false) := Lib.hid (by rw [ex]; rfl)
      clear ex
      go_enter Tryz.func69, Tryz.ntmps69
      go_wp2_with fail
      rw [← HW1.out]
      refine HPC.out.mono ?_
      rintro r w2 ⟨rfl, hb2⟩
      have HB2 := Lib.hid (HB1.out.trans (hb2.mono HB1.out.size))
      have d0 := below_cell hb2 c0
      have d1 := below_cell hb2 c1
      clear hb2
      go_wp2_with fail
      with_reducible refine (rnumber34_any x _).mono ?_
      rintro r w3 ⟨rfl, rfl⟩
      rw [HX.out]
      go_wp2_with fail
      go_ret3
      exact ⟨by rw [HV.out]; rfl, HB2.out⟩
    | false =>
      have HXE := Lib.hid ex
      have HX : Hid ((!oddQ x) = true) := Lib.hid (by rw [ex]; rfl)
      clear ex
      by_cases hl : rnd.length + 1 = colsQ rows
      · have hlb : ((rnd.length : Int) != ((colsQ rows : Nat) : Int) - 1) = false := bne_eq_false_iff_eq.2 (by omega)
        have HRn : Hid ((!rnd.any oddQ) = false) := Lib.hid (by
          cases er : rnd.any oddQ with
          | true => rfl
          | false =>
            exfalso
            apply HE0.out
            unfold dealE
            rw [if_neg (by simp [HP0.out]), if_neg]
            rw [HXE.out, er]
            rintro (h | h | h)
            · cases h
            · cases h
            · exact h hl)
        go_enter Tryz.func69, Tryz.ntmps69
        go_wp2_with fail
        rw [← HW1.out]
        refine HPC.out.mono ?_
        rintro r w2 ⟨rfl, hb2⟩
        have HB2 := Lib.hid (HB1.out.trans (hb2.mono HB1.out.size))
        have HM2 := Lib.hid (HM1.out.below hb2)
        have HR2 := Lib.hid (HR1.out.below hb2)
        have HO2 := Lib.hid (HO1.out.below hb2)
        have d0 := below_cell hb2 c0
        have d1 := below_cell hb2 c1
        clear hb2
        go_wp2_with fail
        with_reducible refine (rnumber34_any x _).mono ?_
        rintro r w3 ⟨rfl, rfl⟩
        rw [HX.out]
        go_wp2_with fail
        refine (rcolumns_any _ _ rows owners _ HR2.out HO2.out).mono ?_
        rintro r w6 ⟨rfl, hb6⟩
        have HM6 := Lib.hid (HM2.out.below hb6)
        have HB6 := Lib.hid (HB2.out.trans (hb6.mono HB2.out.size))
        clear hb6
        go_wp2_with fail
        refine (rNumbers34_any _ rnd _ HM6.out).mono ?_
        rintro r w7 ⟨rfl, rfl⟩
        rw [HRn.out]
        go_wp2_with fail
        go_ret3
        exact ⟨by rw [HV.out]; rfl, HB6.out⟩
      · have hlb : ((rnd.length : Int) != ((colsQ rows : Nat) : Int) - 1) = true := bne_iff_ne.2 (by omega)
        go_enter Tryz.func69, Tryz.ntmps69
        go_wp2_with fail
        rw [← HW1.out]
        refine HPC.out.mono ?_
        rintro r w2 ⟨rfl, hb2⟩
        have HB2 := Lib.hid (HB1.out.trans (hb2.mono HB1.out.size))
        have HR2 := Lib.hid (HR1.out.below hb2)
        have HO2 := Lib.hid (HO1.out.below hb2)
        have d0 := below_cell hb2 c0
        have d1 := below_cell hb2 c1
        clear hb2
        go_wp2_with fail
        with_reducible refine (rnumber34_any x _).mono ?_
        rintro r w3 ⟨rfl, rfl⟩
        rw [HX.out]
        go_wp2_with fail
        refine (rcolumns_any _ _ rows owners _ HR2.out HO2.out).mono ?_
        rintro r w6 ⟨rfl, hb6⟩
        go_wp2_with fail
        go_ret3
        exact ⟨by rw [HV.out]; rfl, HB2.out.trans (hb6.mono HB2.out.size)⟩
  · have HV : Hid (dealE rows owners x rnd = progE rows owners) := Lib.hid (by unfold dealE; rw [if_pos hp])
    have h2 : (progE rows owners != 0) = true := bne_iff_ne.2 hp
    clear he
    go_enter Tryz.func69, Tryz.ntmps69
    go_wp2_with fail
    rw [← HW1.out]
    refine HPC.out.mono ?_
    rintro r w2 ⟨rfl, hb2⟩
    go_wp2_with fail
    go_ret3
    exact ⟨by rw [HV.out]; rfl, HB1.out.trans (hb2.mono HB1.out.size)⟩

set_option maxRecDepth 100000 in
theorem rDeal_any (rv ov mv : Value) (rows : List (List Int)) (owners : List Int) (x : Int) (rnd : List Int) (w : World) (hR : Rows2 w rv rows) (hO : Ints w ov owners) (hM : Ints w mv rnd) :
    Calls Tryz.prog 69 #[.agg #[rv, ov], .int .i64 x, mv] w fun r w' => ∃ lv cv, r = .returned (.tuple #[lv, cv, .int .i64 (dealE rows owners x rnd)]) ∧ Shares w' lv (if dealE rows owners x rnd = 0 then dealL rows (x :: rnd) else []) ∧ Ints w' cv (if dealE rows owners x rnd = 0 then dealC (x :: rnd) else []) ∧ Below w.heap.size w w' := by
  by_cases he : dealE rows owners x rnd = 0
  · have hp : progE rows owners = 0 := by
      unfold dealE at he
      by_cases hp : progE rows owners = 0
      · exact hp
      · rw [if_pos hp] at he; exact absurd he hp
    rw [if_pos he, if_pos he, he]
    exact rDeal_yes rv ov mv rows owners x rnd w hR hO hM (dealE_ok he) hp
  · rw [if_neg he, if_neg he]
    exact (rDeal_no rv ov mv rows owners x rnd w hR hO hM he).mono fun r w' ⟨h1, h2⟩ => ⟨_, _, h1, Shares.nil _ _ _, Ints.nil _ _ _, h2⟩

end Go.Proofs.YtggnipkfliompaaGreatDoor

namespace Go.Proofs.YtggnipkfliompaaGreatDoor
open Go.RowKit FP

/-- A part of a tuple. -/
def projV (k : Nat) (t : Value) : Value := match t with
  | .tuple a => a.getD k undef
  | _ => undef
/-- A box of three values. -/
def zero3 : Array Value := #[.int .i64 0, .int .i64 0, .int .i64 0]
def put3 (W : World) (B : Nat) (a b c : Value) : World := ((W.setCell ⟨B, 0, none⟩ a).setCell ⟨B, 1, none⟩ b).setCell ⟨B, 2, none⟩ c
theorem put3_row {W : World} {B : Nat} {x y z : Value} (a b c : Value) (t : TypeId) (q : W.heap[B]? = some (.cells #[x, y, z] t (0, 0))) : (put3 W B a b c).heap[B]? = some (.cells #[a, b, c] t (0, 0)) := row_set (row_set (row_set q 0 a) 1 b) 2 c
theorem put3_other {W : World} {B K : Nat} (a b c : Value) (h : K ≠ B) : (put3 W B a b c).heap[K]? = W.heap[K]? := by
  unfold put3
  rw [Below.heap_setCell _ _ _ _ h, Below.heap_setCell _ _ _ _ h, Below.heap_setCell _ _ _ _ h]
theorem put3_below {n0 B : Nat} {w0 W : World} (a b c : Value) (hb : Below n0 w0 W) (hB : n0 ≤ B) : Below n0 w0 (put3 W B a b c) := ((hb.setCell hB _).setCell hB _).setCell hB _
theorem put3_size (W : World) (B : Nat) (a b c : Value) : (put3 W B a b c).heap.size = W.heap.size := by simp [put3, World.setCell]
def Box3 (n0 : Nat) (w : World) (d s : Bool) (v a b c : Value) : Prop := d = true → ∃ B, v = .pointer (some ⟨B, 0, none⟩) ∧ n0 ≤ B ∧ B < w.heap.size ∧ w.heap[B]? = some (.cells (if s = true then #[a, b, c] else zero3) 49 (0, 0))
theorem Box3.nil (n0 : Nat) (w : World) (v a b c : Value) : Box3 n0 w false false v a b c := fun h => by cases h
theorem Box3.below {n0 : Nat} {w w' : World} {d s : Bool} {v a b c : Value} (h : Box3 n0 w d s v a b c) (hb : Below w.heap.size w w') : Box3 n0 w' d s v a b c := fun hd => by
  obtain ⟨B, e, h1, h2, h3⟩ := h hd
  exact ⟨B, e, h1, Nat.lt_of_lt_of_le h2 hb.size, (hb.block _ h2).trans h3⟩
theorem Box3.alloc {n0 : Nat} {w : World} {d s : Bool} {v a b c : Value} (_h : Box3 n0 w d s v a b c) (hs : s = false) (hn : n0 ≤ w.heap.size) : Box3 n0 (w.alloc (.cells zero3 49)) true s (.pointer (some ⟨w.heap.size, 0, none⟩)) a b c := fun _ =>
  ⟨w.heap.size, rfl, hn, by simp, by rw [hs]; exact World.alloc_heap_new _ _⟩
theorem Box3.store {n0 : Nat} {w : World} {d s : Bool} {v a b c : Value} {B : Nat} (h : Box3 n0 w d s v a b c) (hv : v = .pointer (some ⟨B, 0, none⟩)) (hd : d = true) (hS : w.heap[B]? = some (.cells zero3 49 (0, 0))) : Box3 n0 (put3 w B a b c) d true v a b c := fun _ => by
  obtain ⟨B', e, h1, h2, -⟩ := h hd
  rw [hv] at e
  simp only [Value.pointer.injEq, Option.some.injEq, Addr.mk.injEq] at e
  obtain ⟨rfl, -, -⟩ := e
  exact ⟨B, hv, h1, by rw [put3_size]; exact h2, put3_row a b c _ hS⟩

theorem shares_at {w : World} {a : Option Addr} {n c : Nat} {l : List (Int × Int)} (h : Shares w (.slice a n c) l) {k : Nat} (hk : k < l.length) : ∃ b off, a = some ⟨b, off, none⟩ ∧ w.cell? ⟨b, off + k * 2, none⟩ = some (.int .i64 l[k].1) ∧ w.cell? ⟨b, off + k * 2 + 1, none⟩ = some (.int .i64 l[k].2) := by
  obtain ⟨a', cap, h1, -, -, -, h5⟩ := h
  cases h1
  exact h5 k hk
theorem parcels_put3 {w : World} {B n c : Nat} {a : Option Addr} {l : List Pcl} (h : Parcels w (.slice a n c) l) (hb : ∀ b o2, a = some ⟨b, o2, none⟩ → b ≠ B) (x y z : Value) : Parcels (put3 w B x y z) (.slice a n c) l := ((h.set hb _).set hb _).set hb _
end Go.Proofs.YtggnipkfliompaaGreatDoor
