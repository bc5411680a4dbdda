/- The laws of renewing: the examples, reckoned; calls whose values are known; the program of three rows. The laws of renewing: the examples hold (sane). -/
import Derived.Test.YtnbkbnbmmkfckaaGreatMReN
import Derived.Test.YtnbkbnbmmkfckaaGreatMRbK
namespace Go.Proofs.YtnbkbnbmmkfckaaGreat
open Go.RowKit FP

abbrev C4 : List Int := dealC [10, 4]
abbrev C9 : List Int := dealC [10, 9]
theorem exn_ok4 : DealOK R3 W3 10 [4] := dealE_ok (by decide)
theorem exn_ok9 : DealOK R3 W3 10 [9] := dealE_ok (by decide)
theorem exn_ok5 : DealOK R3 W3 0 [5] := dealE_ok (by decide)
theorem exn_l4 : dealL R3 [10, 4] = [(0, 14), (1, 18), (2, 22)] := by decide
theorem exn_l9 : dealL R3 [10, 9] = [(0, 19), (1, 28), (2, 37)] := by decide
theorem exn_p10 : powE 4 10 ≠ 1 := fun h => by
  have := el_order2 el_four four_ne (show powE 4 10 = powE 4 0 by rw [h, powE_0])
  omega
theorem exn_c4 : nth C4 0 = powE 4 10 := nth_mapv (f := powE 4) (by decide)
theorem exn_c9 : nth C9 0 = powE 4 10 := nth_mapv (f := powE 4) (by decide)
theorem exn_f1 : fitL R3 C4 [(0, 14)] = true := by
  have h := fitL_deal exn_ok4 exk_p (List.take_sublist 1 (dealL R3 [10, 4]))
  rwa [exn_l4] at h
theorem exn_f2 : fitL R3 C9 [(1, 28)] = true := by
  have h := fitL_deal exn_ok9 exk_p (l := [(1, 28)]) (by rw [exn_l9]; exact ((List.take_sublist 1 [(1, 28), (2, 37)]).trans (List.drop_sublist 1 [(0, 19), (1, 28), (2, 37)])))
  exact h
theorem exn_f3 : fitL R3 C9 [(0, 19), (1, 28)] = true := by
  have h := fitL_deal exn_ok9 exk_p (List.take_sublist 2 (dealL R3 [10, 9]))
  rwa [exn_l9] at h
theorem exn_f4 : fitL R3 C4 [] = true := fitL_deal exn_ok4 exk_p (List.nil_sublist _)
theorem exn_2 : renE R3 W3 2 C4 [(0, 14)] [] [] = 0 := by
  rw [renE_key exk_p, key_deal exn_ok4 exk_p (by decide) (by decide), if_neg (by decide), if_neg (by decide), exn_f1]
  rfl
theorem exn_3 : renE R3 W3 64 C4 (dealL R3 [10, 4]) [] [] = 2 := by
  rw [renE_key exk_p, key_deal exn_ok4 exk_p (by decide) (by decide), if_neg (by decide), if_pos (by decide)]
theorem exn_4 : renE R3 W3 2 C4 (dealL R3 [10, 4]) [C4] [dealL R3 [10, 4]] = 380 := by
  rw [renE_key exk_p, key_deal exn_ok4 exk_p (by decide) (by decide), if_neg (by decide), if_neg (by decide), fitL_deal exn_ok4 exk_p (List.Sublist.refl _), if_neg (by decide), if_neg (by decide), if_neg]
  intro h
  have h2 := zerosB_at h (i := 0) (by decide)
  unfold zeroN zeroB at h2
  simp only [List.getD_cons_zero, Bool.and_eq_true, beq_iff_eq] at h2
  exact exn_p10 (exn_c4 ▸ h2.2.1)
theorem exn_5 : mixE R3 W3 2 C4 R3 W3 2 C4 [] [] = 380 ∧ mixB R3 W3 2 C4 R3 W3 2 C4 [] [] = false := by
  have h : mixE R3 W3 2 C4 R3 W3 2 C4 [] [] = 380 := by
    unfold mixE
    rw [if_neg (by simp [exk_p]), if_neg (by simp), if_neg (by rw [key_deal exn_ok4 exk_p (by decide) (by decide)]; decide), if_pos (.inr (by decide))]
  exact ⟨h, by unfold mixB; rw [h]; rfl⟩
theorem exn_m {a b l : List (Int × Int)} (ha : fitL R3 C4 a = true) (hb : fitL R3 C9 b = true) (hl : mrgL a b = l) (hs : sharesB R3 (-1) l = true) : mixE R3 W3 2 C4 R3 W3 3 C9 a b = 0 ∧ mixB R3 W3 2 C4 R3 W3 3 C9 a b = (recOk R3 l && powE 4 (if recOk R3 l = true then prodQ (recY R3 l) (valsOf l) else 0) == powE 4 10) := by
  have h : mixE R3 W3 2 C4 R3 W3 3 C9 a b = 0 := by
    unfold mixE
    rw [if_neg (by simp [exk_p]), if_neg (by simp), if_neg (by rw [key_deal exn_ok4 exk_p (by decide) (by decide), key_deal exn_ok9 exk_p (by decide) (by decide)]; decide), if_neg (by rw [exn_c4, exn_c9]; simp), if_neg (by rw [ha, hb]; decide), hl]
    exact recE_of exk_p hs
  refine ⟨h, ?_⟩
  unfold mixB recV
  rw [h, hl, recB_of exk_p hs, exn_c4]
  rfl
theorem exn_y (v w : Int) : recOk R3 [(0, v), (1, w)] = true ∧ recY R3 [(0, v), (1, w)] = [2, 1073741788] := by
  have h := comb_same (rows := [[1, 1], [1, 2]]) (t := [1, 0]) (right_lit _ _ (by decide)) (num_lit _ (by decide))
  have hc : combOk [[1, 1], [1, 2]] [1, 0] = true ∧ combY [[1, 1], [1, 2]] [1, 0] = [2, 1073741788] := by
    unfold combOk combY combM; rw [redM_E]; decide +kernel
  have hr : rowsOf R3 [(0, v), (1, w)] = [[1, 1], [1, 2]] := by simp [rowsOf]
  constructor
  · unfold recOk; rw [hr]
    show rcombOk [[1, 1], [1, 2]] [1, 0] = true
    rw [← h.1, hc.1]
  · unfold recY; rw [hr]
    show rcombY [[1, 1], [1, 2]] [1, 0] = _
    rw [← h.2, hc.2]
theorem exn_6 : mixE R3 W3 2 C4 R3 W3 3 C9 [(0, 14)] [(1, 28)] = 0 ∧ mixB R3 W3 2 C4 R3 W3 3 C9 [(0, 14)] [(1, 28)] = false := by
  obtain ⟨h1, h2⟩ := exn_m exn_f1 exn_f2 (l := [(0, 14), (1, 28)]) (by decide) (by decide)
  refine ⟨h1, ?_⟩
  obtain ⟨e1, e2⟩ := exn_y 14 28
  rw [h2, e1, if_pos rfl, e2, show prodQ [2, 1073741788] (valsOf [(0, 14), (1, 28)]) = 0 by decide, powE_0, Bool.true_and]
  exact beq_eq_false_iff_ne.2 (fun h => exn_p10 h.symm)
theorem exn_7 : mixE R3 W3 2 C4 R3 W3 3 C9 [] [(0, 19), (1, 28)] = 0 ∧ mixB R3 W3 2 C4 R3 W3 3 C9 [] [(0, 19), (1, 28)] = true := by
  obtain ⟨h1, h2⟩ := exn_m exn_f4 exn_f3 (l := [(0, 19), (1, 28)]) (by decide) (by decide)
  refine ⟨h1, ?_⟩
  obtain ⟨e1, e2⟩ := exn_y 19 28
  rw [h2, e1, if_pos rfl, e2, show prodQ [2, 1073741788] (valsOf [(0, 19), (1, 28)]) = 10 by decide]
  simp

set_option maxRecDepth 100000 in
theorem ren_err (ep : Int) (rv ov cv lv ccv mcv : Value) (rows : List (List Int)) (owners cs : List Int) (l : List (Int × Int)) (css : List (List Int)) (more : List (List (Int × Int))) (e : Int) (w : World) (hR : Rows2 w rv rows) (hO : Ints w ov owners) (hC : Ints w cv cs) (hL : Shares w lv l) (hCC : Rows2 w ccv css) (hMM : SRows w mcv more) (h : renE rows owners ep cs l css more = e) (he : e ≠ 0) :
    Calls Tryz.prog 9 #[.agg #[.int .i64 ep, rv, ov, cv], lv, ccv, mcv] w fun r w' => r = .returned (.tuple #[.agg #[.int .i64 0, .slice none 0 0, .slice none 0 0, .slice none 0 0], .slice none 0 0, .int .i64 e]) ∧ Below w.heap.size w w' := by
  refine (renew_any ep rv ov cv lv ccv mcv rows owners cs l css more w hR hO hC hL hCC hMM).mono ?_
  rintro r w' ⟨kv, yv, rfl, -, hN, hb⟩
  rw [h] at hN ⊢
  obtain ⟨rfl, rfl⟩ := hN he
  exact ⟨rfl, hb⟩
set_option maxRecDepth 100000 in
theorem ren_same (ep : Int) (rv ov cv lv : Value) (rows : List (List Int)) (owners cs : List Int) (l : List (Int × Int)) (w : World) (hR : Rows2 w rv rows) (hO : Ints w ov owners) (hC : Ints w cv cs) (hL : Shares w lv l) (h : renE rows owners ep cs l [] [] = 0) :
    Calls Tryz.prog 9 #[.agg #[.int .i64 ep, rv, ov, cv], lv, .slice none 0 0, .slice none 0 0] w fun r w' => ∃ ac cc ay cy, r = .returned (.tuple #[.agg #[.int .i64 (ep + 1), rv, ov, .slice ac cs.length cc], .slice ay l.length cy, .int .i64 0]) ∧ Ints w' (.slice ac cs.length cc) cs ∧ Shares w' (.slice ay l.length cy) l ∧ Below w.heap.size w w' := by
  refine (renew_any ep rv ov cv lv _ _ rows owners cs l [] [] w hR hO hC hL (Rows2.nil _ _ _) (SRows.nil _ _ _)).mono ?_
  rintro r w' ⟨kv, yv, rfl, hY, -, hb⟩
  obtain ⟨cv', rfl, hi, hs⟩ := hY h
  rw [h]
  obtain ⟨ac, cc, rfl, -⟩ := id hi
  obtain ⟨ay, cy, rfl, -⟩ := id hs
  exact ⟨_, _, _, _, rfl, hi, hs, hb⟩
set_option maxRecDepth 100000 in
theorem mix_val (ep ep2 : Int) (rv ov cv rv2 ov2 cv2 av bv : Value) (rows rows2 : List (List Int)) (owners owners2 cs cs2 : List Int) (a b : List (Int × Int)) (e : Int) (t : Bool) (w : World) (hR : Rows2 w rv rows) (hO : Ints w ov owners) (hC : Ints w cv cs) (hR2 : Rows2 w rv2 rows2) (hO2 : Ints w ov2 owners2) (hC2 : Ints w cv2 cs2) (hA : Shares w av a) (hB : Shares w bv b)
    (h : mixE rows owners ep cs rows2 owners2 ep2 cs2 a b = e ∧ mixB rows owners ep cs rows2 owners2 ep2 cs2 a b = t) :
    Calls Tryz.prog 14 #[.agg #[.int .i64 ep, rv, ov, cv], .agg #[.int .i64 ep2, rv2, ov2, cv2], av, bv] w fun r w' => r = .returned (.tuple #[.bool t, .int .i64 e]) ∧ Below w.heap.size w w' := by
  obtain ⟨rfl, rfl⟩ := h
  exact mixes_any ep ep2 rv ov cv rv2 ov2 cv2 av bv rows rows2 owners owners2 cs cs2 a b w hR hO hC hR2 hO2 hC2 hA hB


set_option maxRecDepth 100000 in
set_option maxHeartbeats 4000000 in
theorem three38_any (w : World) :
    Calls Tryz.prog 17 #[] w fun r w' => ∃ a c b d, r = .returned (.agg #[.slice a 3 c, .slice b 3 d]) ∧ Rows2 w' (.slice a 3 c) R3 ∧ Ints w' (.slice b 3 d) W3 ∧ Below w.heap.size w w' := by
  have r : ∀ x : Int, -10 ≤ x ∧ x ≤ 10 → R64 x := fun x h => R64.mk (by omega) (by omega)
  have HR := Lib.hid r
  clear r
  go_enter Tryz.func17, Tryz.ntmps17
  go_wp2_with fail
  refine bodyPost_ret (v := .agg #[.slice (some ⟨w.heap.size + 1 + 1 + 1 + 1, 0, none⟩) 3 3, .slice (some ⟨w.heap.size + 1 + 1 + 1 + 1 + 1, 0, none⟩) 3 3]) (by simp [results, Tryz.results17, go_sem]) rfl ?_
  refine ⟨_, _, _, _, rfl, rows_of3 (r := .slice (some ⟨w.heap.size + 1, 0, none⟩) 2 2) (s := .slice (some ⟨w.heap.size + 1 + 1, 0, none⟩) 2 2) (t := .slice (some ⟨w.heap.size + 1 + 1 + 1, 0, none⟩) 2 2) (by simp [go_sem]) (by simp [go_sem]) (by simp [go_sem])
    (ints_of2 (by simp [go_sem]) (by simp [go_sem]) (HR.out _ (by omega)) (HR.out _ (by omega)) (Nat.le_refl _)) (ints_of2 (by simp [go_sem]) (by simp [go_sem]) (HR.out _ (by omega)) (HR.out _ (by omega)) (Nat.le_refl _)) (ints_of2 (by simp [go_sem]) (by simp [go_sem]) (HR.out _ (by omega)) (HR.out _ (by omega)) (Nat.le_refl _)) (Nat.le_refl _),
    ints_of3 (by simp [go_sem]) (by simp [go_sem]) (by simp [go_sem]) (HR.out _ (by omega)) (HR.out _ (by omega)) (HR.out _ (by omega)) (Nat.le_refl _), ?_⟩
  repeat (first | exact Below.refl _ _ | refine Below.setCell ?_ (by simp; try omega) _ | refine Below.alloc ?_ (by simp; try omega) _ | refine Below.drew ?_)

end Go.Proofs.YtnbkbnbmmkfckaaGreat

namespace Go.Proofs.YtnbkbnbmmkfckaaGreat
open Go.RowKit FP

theorem lit_ints38 (w : World) (zs : List Int) (n : Nat) (cs : Array Value) (hc : cs = (zs.map (Value.int .i64)).toArray) (hr : (zs.all fun z => decide (-9223372036854775808 ≤ z ∧ z ≤ 9223372036854775807)) = true) (hl : zs.length = n) (hn : zs.length ≤ 1000) : ∃ W, W = w.alloc (.cells cs 3) ∧ Below w.heap.size w W ∧ Ints W (.slice (some ⟨w.heap.size, 0, none⟩) n n) zs := by
  subst hl
  exact ⟨_, rfl, below_a _ _, ints_lit w zs cs _ hc (rall zs hr) hn⟩
theorem SRows.one {w : World} {v : Value} {t : List (Int × Int)} (h : Shares w v t) (T : TypeId) : SRows (w.alloc (.cells #[v] T)) (.slice (some ⟨w.heap.size, 0, none⟩) 1 1) [t] := by
  refine ⟨_, 1, rfl, by simp, by simp, fun k hk => ⟨_, _, v, rfl, ?_, ?_⟩⟩
  · rw [World.cell?_alloc_at _ _ _ _ rfl]
    have : k = 0 := by simp at hk; omega
    subst this; rfl
  · have : k = 0 := by simp at hk; omega
    subst this
    exact h.below (below_new _ _ _)
theorem Shares.takeN {w : World} {a : Option Addr} {n cap : Nat} {l : List (Int × Int)} (h : Shares w (.slice a n cap) l) {k : Nat} (hk : k ≤ l.length) : Shares w (.slice a k cap) (l.take k) := by
  obtain ⟨a', cap', h1, h2, h3, h4, h5⟩ := h
  simp only [Value.slice.injEq] at h1
  obtain ⟨rfl, rfl, rfl⟩ := h1
  have hl : (l.take k).length = k := by rw [List.length_take]; omega
  refine ⟨a, cap, by rw [hl], by omega, by omega, fun p hp => h4 p (List.mem_of_mem_take hp), fun j hj => ?_⟩
  obtain ⟨b, o, e, q0, q1⟩ := h5 j (by omega)
  exact ⟨b, o, e, by rw [List.getElem_take]; exact q0, by rw [List.getElem_take]; exact q1⟩

theorem drew_at {W w13 : World} {o : Obj} (hb13 : Below (W.alloc o).drew.heap.size (W.alloc o).drew w13) : w13.heap[W.heap.size]? = some o :=
  (hb13.block _ (row_lt (W := W.alloc o) (World.alloc_heap_new W o))).trans (World.alloc_heap_new W o)
theorem sh_lit3 (w : World) (B : Nat) (hB : w.heap.size = B) (x y x2 y2 x3 y3 : Int) (t : TypeId) (hx : R64 x) (hy : R64 y) (hx2 : R64 x2) (hy2 : R64 y2) (hx3 : R64 x3) (hy3 : R64 y3) : Shares (w.alloc (.cells #[.int .i64 x, .int .i64 y, .int .i64 x2, .int .i64 y2, .int .i64 x3, .int .i64 y3] t)) (.slice (some ⟨B, 0, none⟩) 3 3) [(x, y), (x2, y2), (x3, y3)] := by
  subst hB
  refine ⟨_, 3, rfl, by simp, by simp, by simp [hx, hy, hx2, hy2, hx3, hy3], fun k hk => ⟨w.heap.size, 0, rfl, ?_⟩⟩
  have h := World.alloc_heap_new w (.cells #[.int .i64 x, .int .i64 y, .int .i64 x2, .int .i64 y2, .int .i64 x3, .int .i64 y3] t)
  match k, hk with
  | 0, _ => exact ⟨row_cell h rfl, row_cell h rfl⟩
  | 1, _ => exact ⟨row_cell h rfl, row_cell h rfl⟩
  | 2, _ => exact ⟨row_cell h rfl, row_cell h rfl⟩

theorem Shares.mid {w : World} {b o n c : Nat} {x y : Int × Int} {l : List (Int × Int)} (h : Shares w (.slice (some ⟨b, o, none⟩) n c) (x :: y :: l)) : Shares w (.slice (some ⟨b, o + 2, none⟩) 1 (c - 1)) [y] := by
  obtain ⟨a, cap, h1, h2, h3, h4, h5⟩ := h
  simp only [Value.slice.injEq] at h1
  obtain ⟨rfl, -, rfl⟩ := h1
  simp only [List.length_cons] at h2 h3
  refine ⟨_, _, rfl, by simp; omega, by simp, fun p hp => h4 p (by rw [List.mem_singleton.1 hp]; simp), fun k hk => ?_⟩
  have : k = 0 := by simp at hk; omega
  subst this
  obtain ⟨b', o', e, q0, q1⟩ := h5 1 (by simp)
  simp only [Option.some.injEq, Addr.mk.injEq] at e
  obtain ⟨rfl, rfl, -⟩ := e
  exact ⟨b, o + 2, rfl, by simpa using q0, by simpa using q1⟩

abbrev S4 : List (Int × Int) := dealL R3 [10, 4]
abbrev S9 : List (Int × Int) := dealL R3 [10, 9]
set_option maxRecDepth 100000 in
theorem deal38_a (rv ov mv : Value) (w : World) (hR : Rows2 w rv R3) (hO : Ints w ov W3) (hM : Ints w mv [4]) :
    Calls Tryz.prog 16 #[.agg #[rv, ov], .int .i64 10, mv] w fun r w' => ∃ al cl ac cc, r = .returned (.tuple #[.slice al 3 cl, .slice ac 2 cc, .int .i64 0]) ∧ Shares w' (.slice al 3 cl) S4 ∧ Ints w' (.slice ac 2 cc) C4 ∧ Below w.heap.size w w' := by
  have h := deal_ok rv ov mv R3 W3 10 [4] w hR hO hM exn_ok4 exk_p
  rw [show colsQ R3 = 2 by decide] at h
  exact h
set_option maxRecDepth 100000 in
theorem zero38_a (rv ov mv : Value) (w : World) (hR : Rows2 w rv R3) (hO : Ints w ov W3) (hM : Ints w mv [5]) :
    Calls Tryz.prog 7 #[.agg #[rv, ov], mv] w fun r w' => ∃ al cl ac cc, r = .returned (.tuple #[.slice al 3 cl, .slice ac 2 cc, .int .i64 0]) ∧ RS w' (.slice al 3 cl) (dealL R3 [0, 5]) ∧ RI w' (.slice ac 2 cc) (dealC [0, 5]) ∧ Below w.heap.size w w' := by
  have h := zero_typed rv ov mv R3 W3 [5] w hR hO hM exn_ok5 exk_p
  rw [show colsQ R3 = 2 by decide] at h
  exact h
set_option maxRecDepth 100000 in
theorem renew38_a (rv ov cv lv ccv mcv : Value) (w : World) (hR : Rows2 w rv R3) (hO : Ints w ov W3) (hC : Ints w cv C4) (hL : Shares w lv S4) (hCC : Rows2 w ccv [dealC [0, 5]]) (hMM : SRows w mcv [dealL R3 [0, 5]]) :
    Calls Tryz.prog 9 #[.agg #[.int .i64 2, rv, ov, cv], lv, ccv, mcv] w fun r w' => ∃ ac cc ay cy, r = .returned (.tuple #[.agg #[.int .i64 3, rv, ov, .slice ac 2 cc], .slice ay 3 cy, .int .i64 0]) ∧ Ints w' (.slice ac 2 cc) C9 ∧ Shares w' (.slice ay 3 cy) S9 ∧ Below w.heap.size w w' := by
  have h := renew_ok 2 rv ov cv lv ccv mcv R3 W3 10 [4] [[5]] w hR hO hC hL hCC hMM exn_ok4 exk_p (fun z hz => by rw [List.mem_singleton.1 hz]; exact exn_ok5) (by decide) (by decide) (by decide)
  rw [show colsQ R3 = 2 by decide, show sumZ [4] [[5]] = [9] by decide] at h
  exact h
set_option maxRecDepth 100000 in
theorem renew38_b (rv ov cv lv : Value) (w : World) (hR : Rows2 w rv R3) (hO : Ints w ov W3) (hC : Ints w cv C4) (hL : Shares w lv [(0, 14)]) :
    Calls Tryz.prog 9 #[.agg #[.int .i64 2, rv, ov, cv], lv, .slice none 0 0, .slice none 0 0] w fun r w' => ∃ ac cc ay cy, r = .returned (.tuple #[.agg #[.int .i64 3, rv, ov, .slice ac 2 cc], .slice ay 1 cy, .int .i64 0]) ∧ Ints w' (.slice ac 2 cc) C4 ∧ Shares w' (.slice ay 1 cy) [(0, 14)] ∧ Below w.heap.size w w' :=
  ren_same 2 rv ov cv lv R3 W3 C4 [(0, 14)] w hR hO hC hL exn_2
theorem exn_c5 : nth (dealC [0, 5]) 0 = 1 := (nth_mapv (f := powE 4) (by decide)).trans (powE_0 4)

set_option maxRecDepth 100000 in
set_option maxHeartbeats 16000000 in
theorem sane38_any (w : World) :
    Calls Tryz.prog 5 #[] w fun r w' => r = .returned (.bool true) ∧ Below w.heap.size w w' := by
  have HG := Lib.hid (exn_c4)
  have HG9 := Lib.hid (exn_c9)
  have HP4 := Lib.hid (dealC_pos [10, 4])
  have HE3 := Lib.hid (fun rv ov cv lv w h1 h2 h3 h4 => ren_err 64 rv ov cv lv (.slice none 0 0) (.slice none 0 0) R3 W3 C4 S4 [] [] 2 w h1 h2 h3 h4 (Rows2.nil _ _ _) (SRows.nil _ _ _) exn_3 (by decide))
  have HE4 := Lib.hid (fun rv ov cv lv ccv mcv w h1 h2 h3 h4 h5 h6 => ren_err 2 rv ov cv lv ccv mcv R3 W3 C4 S4 [C4] [S4] 380 w h1 h2 h3 h4 h5 h6 exn_4 (by decide))
  have HM5 := Lib.hid (fun rv ov cv w h1 h2 h3 => mix_val 2 2 rv ov cv rv ov cv (.slice none 0 0) (.slice none 0 0) R3 R3 W3 W3 C4 C4 [] [] 380 false w h1 h2 h3 h1 h2 h3 (Shares.nil _ _ _) (Shares.nil _ _ _) exn_5)
  have HM6 := Lib.hid (fun rv ov cv cv2 av bv w h1 h2 h3 h4 h5 h6 => mix_val 2 3 rv ov cv rv ov cv2 av bv R3 R3 W3 W3 C4 C9 [(0, 14)] [(1, 28)] 0 false w h1 h2 h3 h1 h2 h4 h5 h6 exn_6)
  have HM7 := Lib.hid (fun rv ov cv cv2 bv w h1 h2 h3 h4 h5 => mix_val 2 3 rv ov cv rv ov cv2 (.slice none 0 0) bv R3 R3 W3 W3 C4 C9 [] [(0, 19), (1, 28)] 0 true w h1 h2 h3 h1 h2 h4 (Shares.nil _ _ _) h5 exn_7)
  have HB := Lib.hid (Below.refl w.heap.size w)
  go_enter Tryz.func5, Tryz.ntmps5
  go_wp2_with fail
  with_reducible refine (three38_any _).mono ?_
  rintro e w1 ⟨a1, k1, b1, d1, rfl, hr, ho, hb1⟩
  replace HB := Lib.hid (HB.out.trans (hb1.mono HB.out.size))
  clear hb1
  have HR := Lib.hid hr
  have HO := Lib.hid ho
  clear hr ho
  obtain ⟨W2, hW2, hb2, hi⟩ := lit_ints38 w1 [4] 1 #[.int .i64 4] rfl (by decide) rfl (by decide)
  have HI := Lib.hid hi
  have HW2 := Lib.hid hW2
  clear hi hW2
  replace HR := Lib.hid (HR.out.below hb2)
  replace HO := Lib.hid (HO.out.below hb2)
  replace HB := Lib.hid (HB.out.trans (hb2.mono HB.out.size))
  clear hb2
  go_wp2_with (rw [← HW2.out])
  with_reducible refine (deal38_a _ _ _ _ HR.out HO.out HI.out).mono ?_
  rintro e w3 ⟨al, cl, ac, cc, rfl, hl, hc, hb3⟩
  replace HR := Lib.hid (HR.out.below hb3)
  replace HO := Lib.hid (HO.out.below hb3)
  replace HB := Lib.hid (HB.out.trans (hb3.mono HB.out.size))
  clear hb3
  have HL := Lib.hid hl
  have HC := Lib.hid hc
  clear hl hc HR HO HI
  go_wp2_with fail
  with_reducible refine (three38_any _).mono ?_
  rintro e w4 ⟨a1, k1, b1, d1, rfl, hr, ho, hb4⟩
  replace HL := Lib.hid (HL.out.below hb4)
  replace HC := Lib.hid (HC.out.below hb4)
  replace HB := Lib.hid (HB.out.trans (hb4.mono HB.out.size))
  clear hb4
  have HR := Lib.hid hr
  have HO := Lib.hid ho
  clear hr ho
  obtain ⟨W5, hW5, hb5, hi⟩ := lit_ints38 w4 [5] 1 #[.int .i64 5] rfl (by decide) rfl (by decide)
  have HI := Lib.hid hi
  have HW5 := Lib.hid hW5
  clear hi hW5
  replace HL := Lib.hid (HL.out.below hb5)
  replace HC := Lib.hid (HC.out.below hb5)
  replace HR := Lib.hid (HR.out.below hb5)
  replace HO := Lib.hid (HO.out.below hb5)
  replace HB := Lib.hid (HB.out.trans (hb5.mono HB.out.size))
  clear hb5
  go_wp2_with (rw [← HW5.out])
  with_reducible refine (zero38_a _ _ _ _ HR.out HO.out HI.out).mono ?_
  rintro e w6 ⟨az, cz, an, cn, rfl, hl, hc, hb6⟩
  replace HL := Lib.hid (HL.out.below hb6)
  replace HC := Lib.hid (HC.out.below hb6)
  replace HR := Lib.hid (HR.out.below hb6)
  replace HO := Lib.hid (HO.out.below hb6)
  replace HB := Lib.hid (HB.out.trans (hb6.mono HB.out.size))
  clear hb6
  have HLZ := Lib.hid hl.shares
  have HCZ := Lib.hid hc.ints
  clear hl hc HR HO HI
  obtain ⟨-, bn, on, nn, kn, en, qn⟩ := HCZ.out.get (k := 0) (by decide)
  simp only [Value.slice.injEq] at en
  obtain ⟨rfl, -, -⟩ := en
  rw [exn_c5, Nat.add_zero] at qn
  go_wp2_with fail
  clear qn
  with_reducible refine (three38_any _).mono ?_
  rintro e w7 ⟨a1, k1, b1, d1, rfl, hr, ho, hb7⟩
  replace HL := Lib.hid (HL.out.below hb7)
  replace HC := Lib.hid (HC.out.below hb7)
  replace HLZ := Lib.hid (HLZ.out.below hb7)
  replace HCZ := Lib.hid (HCZ.out.below hb7)
  replace HB := Lib.hid (HB.out.trans (hb7.mono HB.out.size))
  clear hb7
  have HR := Lib.hid hr
  have HO := Lib.hid ho
  clear hr ho
  obtain ⟨W8, hW8, hb8, hr8, hs8⟩ := box_key w7 (.int .i64 2) (.slice a1 3 k1) (.slice b1 3 d1) (.slice ac 2 cc) 27
  have Q7 := Lib.hid hr8
  have HW8 := Lib.hid hW8
  clear hW8 hr8 hs8
  replace HL := Lib.hid (HL.out.below hb8)
  replace HC := Lib.hid (HC.out.below hb8)
  replace HLZ := Lib.hid (HLZ.out.below hb8)
  replace HCZ := Lib.hid (HCZ.out.below hb8)
  replace HR := Lib.hid (HR.out.below hb8)
  replace HO := Lib.hid (HO.out.below hb8)
  replace HB := Lib.hid (HB.out.trans (hb8.mono HB.out.size))
  clear hb8
  have q0 := row_cell Q7.out (k := 0) (v := .int .i64 2) rfl
  have q1 := row_cell Q7.out (k := 1) (v := .slice a1 3 k1) rfl
  have q2 := row_cell Q7.out (k := 2) (v := .slice b1 3 d1) rfl
  have q3 := row_cell Q7.out (k := 3) (v := .slice ac 2 cc) rfl
  obtain ⟨W9, hW9⟩ : ∃ W9, W9 = W8.alloc (.cells #[.slice (some ⟨bn, on, none⟩) 2 cn] 23) := ⟨_, rfl⟩
  have hb9 : Below W8.heap.size W8 W9 := by rw [hW9]; exact below_new _ _ _
  have HCC := Lib.hid (show Rows2 W9 (.slice (some ⟨W8.heap.size, 0, none⟩) 1 1) [dealC [0, 5]] by rw [hW9]; exact Rows2.one HCZ.out _)
  replace HL := Lib.hid (HL.out.below hb9)
  replace HC := Lib.hid (HC.out.below hb9)
  replace HLZ := Lib.hid (HLZ.out.below hb9)
  replace HCZ := Lib.hid (HCZ.out.below hb9)
  replace HR := Lib.hid (HR.out.below hb9)
  replace HO := Lib.hid (HO.out.below hb9)
  replace Q7 := Lib.hid ((hb9.block _ (row_lt Q7.out)).trans Q7.out)
  replace HB := Lib.hid (HB.out.trans (hb9.mono HB.out.size))
  clear hb9
  obtain ⟨W10, hW10⟩ : ∃ W10, W10 = W9.alloc (.cells #[.slice az 3 cz] 28) := ⟨_, rfl⟩
  have hb10 : Below W9.heap.size W9 W10 := by rw [hW10]; exact below_new _ _ _
  have HMM := Lib.hid (show SRows W10 (.slice (some ⟨W9.heap.size, 0, none⟩) 1 1) [dealL R3 [0, 5]] by rw [hW10]; exact SRows.one HLZ.out _)
  replace HL := Lib.hid (HL.out.below hb10)
  replace HC := Lib.hid (HC.out.below hb10)
  replace HLZ := Lib.hid (HLZ.out.below hb10)
  replace HCZ := Lib.hid (HCZ.out.below hb10)
  replace HR := Lib.hid (HR.out.below hb10)
  replace HO := Lib.hid (HO.out.below hb10)
  replace HCC := Lib.hid (HCC.out.below hb10)
  replace Q7 := Lib.hid ((hb10.block _ (row_lt Q7.out)).trans Q7.out)
  replace HB := Lib.hid (HB.out.trans (hb10.mono HB.out.size))
  clear hb10
  have HW9 := Lib.hid hW9
  have HW10 := Lib.hid hW10
  clear hW9 hW10
  go_wp2_with (first | rw [← HW8.out] | rw [← HW9.out] | rw [← HW10.out])
  clear q0 q1 q2 q3
  with_reducible refine (renew38_a _ _ _ _ _ _ _ HR.out HO.out HC.out HL.out HCC.out HMM.out).mono ?_
  rintro e w11 ⟨ad, cd, ay, cy, rfl, hc2, hs2, hb11⟩
  replace HL := Lib.hid (HL.out.below hb11)
  replace HC := Lib.hid (HC.out.below hb11)
  replace HLZ := Lib.hid (HLZ.out.below hb11)
  replace HCZ := Lib.hid (HCZ.out.below hb11)
  replace HR := Lib.hid (HR.out.below hb11)
  replace HO := Lib.hid (HO.out.below hb11)
  replace HCC := Lib.hid (HCC.out.below hb11)
  replace HMM := Lib.hid (HMM.out.below hb11)
  replace Q7 := Lib.hid ((hb11.block _ (row_lt Q7.out)).trans Q7.out)
  replace HB := Lib.hid (HB.out.trans (hb11.mono HB.out.size))
  clear hb11
  have HC9 := Lib.hid hc2
  have HL9 := Lib.hid hs2
  clear hc2 hs2 HCC HMM HLZ HCZ
  obtain ⟨W12, hW12, hb12, hr12, hs12⟩ := box_key w11 (.int .i64 3) (.slice a1 3 k1) (.slice b1 3 d1) (.slice ad 2 cd) 27
  have Q8 := Lib.hid hr12
  have HW12 := Lib.hid hW12
  clear hW12 hr12 hs12
  replace HL := Lib.hid (HL.out.below hb12)
  replace HC := Lib.hid (HC.out.below hb12)
  replace HR := Lib.hid (HR.out.below hb12)
  replace HO := Lib.hid (HO.out.below hb12)
  replace HC9 := Lib.hid (HC9.out.below hb12)
  replace HL9 := Lib.hid (HL9.out.below hb12)
  replace Q7 := Lib.hid ((hb12.block _ (row_lt Q7.out)).trans Q7.out)
  replace HB := Lib.hid (HB.out.trans (hb12.mono HB.out.size))
  clear hb12
  go_upto_region 7 with (first | rw [← HW12.out])
  have hcl3 : 3 ≤ cl := by
    obtain ⟨a', c', e, h, -⟩ := HL.out
    simp only [Value.slice.injEq] at e
    obtain ⟨-, -, rfl⟩ := e
    exact h
  have hcl1 : (1 : Int) ≤ (cl : Int) := by omega
  have HT1 := Lib.hid (HL.out.takeN (k := 1) (by decide))
  rw [show List.take 1 S4 = [(0, 14)] by decide] at HT1
  go_cut [11, 12, 13] from 87 to 94 (fun b y e W => ∃ B ac' cc' ay' cy', b = .pointer (some ⟨B, 0, none⟩) ∧ y = .slice ay' 1 cy' ∧ e = .int .i64 0 ∧ W.heap[B]? = some (.cells #[.int .i64 3, .slice a1 3 k1, .slice b1 3 d1, .slice ac' 2 cc'] 27 (0, 0)) ∧ Ints W (.slice ac' 2 cc') C4 ∧ Shares W (.slice ay' 1 cy') [(0, 14)] ∧ Below W12.heap.size W12 W)
  case first =>
    have q0 := row_cell Q7.out (k := 0) (v := .int .i64 2) rfl
    have q1 := row_cell Q7.out (k := 1) (v := .slice a1 3 k1) rfl
    have q2 := row_cell Q7.out (k := 2) (v := .slice b1 3 d1) rfl
    have q3 := row_cell Q7.out (k := 3) (v := .slice ac 2 cc) rfl
    have hb7l := row_lt Q7.out
    go_region_with (first
        | (go_at_call 9; with_reducible refine (renew38_b _ _ _ _ _ (HR.out.below (by first | exact (Below.refl _ _).drew | exact ((Below.refl _ _).drew).alloc (Nat.le_refl _) _ | exact ((Below.refl _ _).alloc (Nat.le_refl _) _).drew)) (HO.out.below (by first | exact (Below.refl _ _).drew | exact ((Below.refl _ _).drew).alloc (Nat.le_refl _) _ | exact ((Below.refl _ _).alloc (Nat.le_refl _) _).drew)) (HC.out.below (by first | exact (Below.refl _ _).drew | exact ((Below.refl _ _).drew).alloc (Nat.le_refl _) _ | exact ((Below.refl _ _).alloc (Nat.le_refl _) _).drew)) (HT1.out.below (by first | exact (Below.refl _ _).drew | exact ((Below.refl _ _).drew).alloc (Nat.le_refl _) _ | exact ((Below.refl _ _).alloc (Nat.le_refl _) _).drew))).mono ?_; rintro e w13 ⟨ac', cc', ay', cy', rfl, hc3, hs3, hb13⟩; have hB3 := Below.trans (show Below W12.heap.size W12 _ from (by first | exact (Below.refl _ _).drew | exact ((Below.refl _ _).drew).alloc (Nat.le_refl _) _ | exact ((Below.refl _ _).alloc (Nat.le_refl _) _).drew)) (hb13.mono (Below.size (show Below W12.heap.size W12 _ from (by first | exact (Below.refl _ _).drew | exact ((Below.refl _ _).drew).alloc (Nat.le_refl _) _ | exact ((Below.refl _ _).alloc (Nat.le_refl _) _).drew)))); (try (have hq8 := drew_at hb13; have t0 := row_cell hq8 (k := 0) (v := .int .i64 0) rfl; have t1 := row_cell hq8 (k := 1) (v := .slice none 0 0) rfl; have t2 := row_cell hq8 (k := 2) (v := .slice none 0 0) rfl; have t3 := row_cell hq8 (k := 3) (v := .slice none 0 0) rfl; have g0 := row_free hq8 0; have g1 := row_free hq8 1; have g2 := row_free hq8 2; have g3 := row_free hq8 3)); have z0 := below_cell hb13 (below_cell (show Below W12.heap.size W12 _ from (by first | exact (Below.refl _ _).drew | exact ((Below.refl _ _).drew).alloc (Nat.le_refl _) _ | exact ((Below.refl _ _).alloc (Nat.le_refl _) _).drew)) q0); have z1 := below_cell hb13 (below_cell (show Below W12.heap.size W12 _ from (by first | exact (Below.refl _ _).drew | exact ((Below.refl _ _).drew).alloc (Nat.le_refl _) _ | exact ((Below.refl _ _).alloc (Nat.le_refl _) _).drew)) q1); have z2 := below_cell hb13 (below_cell (show Below W12.heap.size W12 _ from (by first | exact (Below.refl _ _).drew | exact ((Below.refl _ _).drew).alloc (Nat.le_refl _) _ | exact ((Below.refl _ _).alloc (Nat.le_refl _) _).drew)) q2); have z3 := below_cell hb13 (below_cell (show Below W12.heap.size W12 _ from (by first | exact (Below.refl _ _).drew | exact ((Below.refl _ _).drew).alloc (Nat.le_refl _) _ | exact ((Below.refl _ _).alloc (Nat.le_refl _) _).drew)) q3)))
    all_goals
      go_wp2_with fail
      go_meet
      first
        | (have hqq := hq8
           refine ⟨W12.heap.size, ac', cc', ay', cy', rfl, rfl, rfl, ?_, ?_, ?_, ?_⟩
           · exact keyW_heap hq8 _ _ _ _
           · exact hc3.keyW0 hq8 HP4.out _ _ _ _
           · exact hs3.keyW0 hq8 _ _ _ _
           · exact keyW_below hB3 (Nat.le_refl _) _ _ _ _)
        | (refine ⟨w13.heap.size, ac', cc', ay', cy', rfl, rfl, rfl, ?_, ?_, ?_, ?_⟩
           · exact World.alloc_heap_new _ _
           · exact hc3.below (below_new _ _ _)
           · exact hs3.below (below_new _ _ _)
           · exact hB3.trans ((below_new _ _ _).mono hB3.size))
  case rest =>
  obtain ⟨B11, ac', cc', ay', cy', rfl, rfl, rfl, hq11, hi11, hs11, hb13⟩ := hcut
  have Q11 := Lib.hid hq11
  have HC11 := Lib.hid hi11
  have HL11 := Lib.hid hs11
  clear hq11 hi11 hs11
  replace HL := Lib.hid (HL.out.below hb13)
  replace HC := Lib.hid (HC.out.below hb13)
  replace HR := Lib.hid (HR.out.below hb13)
  replace HO := Lib.hid (HO.out.below hb13)
  replace HC9 := Lib.hid (HC9.out.below hb13)
  replace HL9 := Lib.hid (HL9.out.below hb13)
  replace HT1 := Lib.hid (HT1.out.below hb13)
  replace Q7 := Lib.hid ((hb13.block _ (row_lt Q7.out)).trans Q7.out)
  replace Q8 := Lib.hid ((hb13.block _ (row_lt Q8.out)).trans Q8.out)
  replace HB := Lib.hid (HB.out.trans (hb13.mono HB.out.size))
  clear hb13
  obtain ⟨-, bd, od, nd, kd, ed, qd⟩ := HC9.out.get (k := 0) (by decide)
  simp only [Value.slice.injEq] at ed
  obtain ⟨rfl, -, -⟩ := ed
  obtain ⟨-, bc, oc, nc, kc, ec, qc⟩ := HC.out.get (k := 0) (by decide)
  simp only [Value.slice.injEq] at ec
  obtain ⟨rfl, -, -⟩ := ec
  rw [HG9.out, Nat.add_zero] at qd
  rw [HG.out, Nat.add_zero] at qc
  obtain ⟨g, hg⟩ : ∃ g, g = powE 4 10 := ⟨_, rfl⟩
  rw [← hg] at qd qc
  have hgg : (g != g) = false := by simp
  clear hg
  have s1 := row_cell Q8.out (k := 0) (v := .int .i64 3) rfl
  have s2 := row_cell Q8.out (k := 3) (v := .slice (some ⟨bd, od, none⟩) 2 cd) rfl
  have s3 := row_cell Q11.out (k := 0) (v := .int .i64 3) rfl
  have s4 := row_cell Q11.out (k := 3) (v := .slice ac' 2 cc') rfl
  have hbd : Below wc.heap.size wc wc.drew := (Below.refl _ _).drew
  replace HL := Lib.hid (HL.out.below hbd)
  replace HC := Lib.hid (HC.out.below hbd)
  replace HR := Lib.hid (HR.out.below hbd)
  replace HO := Lib.hid (HO.out.below hbd)
  replace HC9 := Lib.hid (HC9.out.below hbd)
  replace HL9 := Lib.hid (HL9.out.below hbd)
  replace HT1 := Lib.hid (HT1.out.below hbd)
  replace HC11 := Lib.hid (HC11.out.below hbd)
  replace HL11 := Lib.hid (HL11.out.below hbd)
  replace HB := Lib.hid (HB.out.drew)
  clear hbd
  have s5 := qd
  have s6 := qc
  clear qd qc
  have HSM1 : Hid (sameQ C4 C4 = true) := Lib.hid (decide_eq_true rfl)
  have HSM2 : Hid (sameS [(0, 14)] [(0, 14)] = true) := Lib.hid (by decide)
  have HSM3 : Hid (sameS S9 [(0, 19), (1, 28), (2, 37)] = true) := Lib.hid (by decide)
  go_wp2_with fail
  go_region_held3 (fun w' => w'.cell? ⟨w11.heap.size, 0, none⟩ = some (.int .i64 3) ∧ w'.cell? ⟨w11.heap.size, 3, none⟩ = some (.slice (some ⟨bd, od, none⟩) 2 cd) ∧ w'.cell? ⟨B11, 0, none⟩ = some (.int .i64 3) ∧ w'.cell? ⟨B11, 3, none⟩ = some (.slice ac' 2 cc') ∧ w'.cell? ⟨bd, od, none⟩ = some (.int .i64 g) ∧ w'.cell? ⟨bc, oc, none⟩ = some (.int .i64 g)) (first | go_keep | exact ⟨s1, s2, s3, s4, s5, s6⟩)
    (first
      | (go_at_call 12; (with_reducible refine (rSameInts34_any _ _ C4 C4 _ HC11.out HC.out).mono ?_); rintro e wq ⟨rfl, hbq⟩; rw [HSM1.out]; replace s1 := below_cell hbq s1; replace s2 := below_cell hbq s2; replace s3 := below_cell hbq s3; replace s4 := below_cell hbq s4; replace s5 := below_cell hbq s5; replace s6 := below_cell hbq s6; replace HL := Lib.hid (HL.out.below hbq); replace HC := Lib.hid (HC.out.below hbq); replace HR := Lib.hid (HR.out.below hbq); replace HO := Lib.hid (HO.out.below hbq); replace HC9 := Lib.hid (HC9.out.below hbq); replace HL9 := Lib.hid (HL9.out.below hbq); replace HT1 := Lib.hid (HT1.out.below hbq); replace HC11 := Lib.hid (HC11.out.below hbq); replace HL11 := Lib.hid (HL11.out.below hbq); replace Q7 := Lib.hid ((hbq.block _ (row_lt Q7.out)).trans Q7.out); replace Q8 := Lib.hid ((hbq.block _ (row_lt Q8.out)).trans Q8.out); replace Q11 := Lib.hid ((hbq.block _ (row_lt Q11.out)).trans Q11.out); replace HB := Lib.hid (HB.out.trans (hbq.mono HB.out.size)); clear hbq)
      | (go_at_call 11; (with_reducible refine (rsame_any _ _ [(0, 14)] [(0, 14)] _ HL11.out HT1.out).mono ?_); rintro e wq ⟨rfl, hbq⟩; rw [HSM2.out]; replace s1 := below_cell hbq s1; replace s2 := below_cell hbq s2; replace s3 := below_cell hbq s3; replace s4 := below_cell hbq s4; replace s5 := below_cell hbq s5; replace s6 := below_cell hbq s6; replace HL := Lib.hid (HL.out.below hbq); replace HC := Lib.hid (HC.out.below hbq); replace HR := Lib.hid (HR.out.below hbq); replace HO := Lib.hid (HO.out.below hbq); replace HC9 := Lib.hid (HC9.out.below hbq); replace HL9 := Lib.hid (HL9.out.below hbq); replace HT1 := Lib.hid (HT1.out.below hbq); replace HC11 := Lib.hid (HC11.out.below hbq); replace HL11 := Lib.hid (HL11.out.below hbq); replace Q7 := Lib.hid ((hbq.block _ (row_lt Q7.out)).trans Q7.out); replace Q8 := Lib.hid ((hbq.block _ (row_lt Q8.out)).trans Q8.out); replace Q11 := Lib.hid ((hbq.block _ (row_lt Q11.out)).trans Q11.out); replace HB := Lib.hid (HB.out.trans (hbq.mono HB.out.size)); clear hbq)
      | (go_at_call 11; have hbn := below_new wq #[.int .i64 0, .int .i64 19, .int .i64 1, .int .i64 28, .int .i64 2, .int .i64 37] 47; replace s1 := below_cell hbn s1; replace s2 := below_cell hbn s2; replace s3 := below_cell hbn s3; replace s4 := below_cell hbn s4; replace s5 := below_cell hbn s5; replace s6 := below_cell hbn s6; replace HL := Lib.hid (HL.out.below hbn); replace HC := Lib.hid (HC.out.below hbn); replace HR := Lib.hid (HR.out.below hbn); replace HO := Lib.hid (HO.out.below hbn); replace HC9 := Lib.hid (HC9.out.below hbn); replace HL9 := Lib.hid (HL9.out.below hbn); replace HT1 := Lib.hid (HT1.out.below hbn); replace HC11 := Lib.hid (HC11.out.below hbn); replace HL11 := Lib.hid (HL11.out.below hbn); replace Q7 := Lib.hid ((hbn.block _ (row_lt Q7.out)).trans Q7.out); replace Q8 := Lib.hid ((hbn.block _ (row_lt Q8.out)).trans Q8.out); replace Q11 := Lib.hid ((hbn.block _ (row_lt Q11.out)).trans Q11.out); replace HB := Lib.hid (HB.out.trans (hbn.mono HB.out.size)); clear hbn; (with_reducible refine (rsame_any _ _ S9 [(0, 19), (1, 28), (2, 37)] _ HL9.out (sh_lit3 wq _ rfl _ _ _ _ _ _ _ (R64.mk (by omega) (by omega)) (R64.mk (by omega) (by omega)) (R64.mk (by omega) (by omega)) (R64.mk (by omega) (by omega)) (R64.mk (by omega) (by omega)) (R64.mk (by omega) (by omega)))).mono ?_); rintro e wq2 ⟨rfl, hbq⟩; rw [HSM3.out]; replace s1 := below_cell hbq s1; replace s2 := below_cell hbq s2; replace s3 := below_cell hbq s3; replace s4 := below_cell hbq s4; replace s5 := below_cell hbq s5; replace s6 := below_cell hbq s6; replace HL := Lib.hid (HL.out.below hbq); replace HC := Lib.hid (HC.out.below hbq); replace HR := Lib.hid (HR.out.below hbq); replace HO := Lib.hid (HO.out.below hbq); replace HC9 := Lib.hid (HC9.out.below hbq); replace HL9 := Lib.hid (HL9.out.below hbq); replace HT1 := Lib.hid (HT1.out.below hbq); replace HC11 := Lib.hid (HC11.out.below hbq); replace HL11 := Lib.hid (HL11.out.below hbq); replace Q7 := Lib.hid ((hbq.block _ (row_lt Q7.out)).trans Q7.out); replace Q8 := Lib.hid ((hbq.block _ (row_lt Q8.out)).trans Q8.out); replace Q11 := Lib.hid ((hbq.block _ (row_lt Q11.out)).trans Q11.out); replace HB := Lib.hid (HB.out.trans (hbq.mono HB.out.size)); clear hbq))
  clear s1 s2 s3 s4 s5 s6 HSM1 HSM2 HSM3 HC11 HL11 Q11 HG HG9 HP4
  obtain ⟨W14, hW14, hb14, hr14, hs14⟩ := box_key wq2 (.int .i64 64) (.slice a1 3 k1) (.slice b1 3 d1) (.slice (some ⟨bc, oc, none⟩) 2 cc) 27
  have HW14 := Lib.hid hW14
  have q0 := row_cell Q7.out (k := 0) (v := .int .i64 2) rfl
  have q1 := row_cell Q7.out (k := 1) (v := .slice a1 3 k1) rfl
  have q2 := row_cell Q7.out (k := 2) (v := .slice b1 3 d1) rfl
  have q3 := row_cell Q7.out (k := 3) (v := .slice (some ⟨bc, oc, none⟩) 2 cc) rfl
  have t0 := row_cell hr14 (k := 0) (v := .int .i64 64) rfl
  have t1 := row_cell hr14 (k := 1) (v := .slice a1 3 k1) rfl
  have t2 := row_cell hr14 (k := 2) (v := .slice b1 3 d1) rfl
  have t3 := row_cell hr14 (k := 3) (v := .slice (some ⟨bc, oc, none⟩) 2 cc) rfl
  clear hW14 hr14 hs14
  replace HL := Lib.hid (HL.out.below hb14)
  replace HC := Lib.hid (HC.out.below hb14)
  replace HR := Lib.hid (HR.out.below hb14)
  replace HO := Lib.hid (HO.out.below hb14)
  replace HC9 := Lib.hid (HC9.out.below hb14)
  replace HL9 := Lib.hid (HL9.out.below hb14)
  replace HT1 := Lib.hid (HT1.out.below hb14)
  replace Q7 := Lib.hid ((hb14.block _ (row_lt Q7.out)).trans Q7.out)
  replace Q8 := Lib.hid ((hb14.block _ (row_lt Q8.out)).trans Q8.out)
  replace HB := Lib.hid (HB.out.trans (hb14.mono HB.out.size))
  clear hb14
  go_wp2_with (rw [← HW14.out])
  clear q0 q1 q2 q3 t0 t1 t2 t3
  with_reducible refine (HE3.out _ _ _ _ _ HR.out HO.out HC.out HL.out).mono ?_
  rintro e w15 ⟨rfl, hb15⟩
  replace HL := Lib.hid (HL.out.below hb15)
  replace HC := Lib.hid (HC.out.below hb15)
  replace HR := Lib.hid (HR.out.below hb15)
  replace HO := Lib.hid (HO.out.below hb15)
  replace HC9 := Lib.hid (HC9.out.below hb15)
  replace HL9 := Lib.hid (HL9.out.below hb15)
  replace HT1 := Lib.hid (HT1.out.below hb15)
  replace Q7 := Lib.hid ((hb15.block _ (row_lt Q7.out)).trans Q7.out)
  replace Q8 := Lib.hid ((hb15.block _ (row_lt Q8.out)).trans Q8.out)
  replace HB := Lib.hid (HB.out.trans (hb15.mono HB.out.size))
  clear hb15
  obtain ⟨W16, hW16, hb16, hzW16, -⟩ := box_key w15 (.int .i64 0) (.slice none 0 0) (.slice none 0 0) (.slice none 0 0) 27
  have HW16 := Lib.hid hW16
  have t0 := row_cell hzW16 (k := 0) (v := .int .i64 0) rfl
  have t1 := row_cell hzW16 (k := 1) (v := .slice none 0 0) rfl
  have t2 := row_cell hzW16 (k := 2) (v := .slice none 0 0) rfl
  have t3 := row_cell hzW16 (k := 3) (v := .slice none 0 0) rfl
  have g0 := row_free hzW16 0
  have g1 := row_free hzW16 1
  have g2 := row_free hzW16 2
  have g3 := row_free hzW16 3
  clear hW16 hzW16
  replace HL := Lib.hid (HL.out.below hb16)
  replace HC := Lib.hid (HC.out.below hb16)
  replace HR := Lib.hid (HR.out.below hb16)
  replace HO := Lib.hid (HO.out.below hb16)
  replace HC9 := Lib.hid (HC9.out.below hb16)
  replace HL9 := Lib.hid (HL9.out.below hb16)
  replace HT1 := Lib.hid (HT1.out.below hb16)
  replace Q7 := Lib.hid ((hb16.block _ (row_lt Q7.out)).trans Q7.out)
  replace Q8 := Lib.hid ((hb16.block _ (row_lt Q8.out)).trans Q8.out)
  replace HB := Lib.hid (HB.out.trans (hb16.mono HB.out.size))
  clear hb16
  have q0 := row_cell Q7.out (k := 0) (v := .int .i64 2) rfl
  have q1 := row_cell Q7.out (k := 1) (v := .slice a1 3 k1) rfl
  have q2 := row_cell Q7.out (k := 2) (v := .slice b1 3 d1) rfl
  have q3 := row_cell Q7.out (k := 3) (v := .slice (some ⟨bc, oc, none⟩) 2 cc) rfl
  obtain ⟨W17, hW17⟩ : ∃ W17, W17 = W16.alloc (.cells #[.slice (some ⟨bc, oc, none⟩) 2 cc] 23) := ⟨_, rfl⟩
  have hb17 : Below W16.heap.size W16 W17 := by rw [hW17]; exact below_new _ _ _
  have HCC := Lib.hid (show Rows2 W17 (.slice (some ⟨W16.heap.size, 0, none⟩) 1 1) [C4] by rw [hW17]; exact Rows2.one HC.out _)
  replace HL := Lib.hid (HL.out.below hb17)
  replace HC := Lib.hid (HC.out.below hb17)
  replace HR := Lib.hid (HR.out.below hb17)
  replace HO := Lib.hid (HO.out.below hb17)
  replace HC9 := Lib.hid (HC9.out.below hb17)
  replace HL9 := Lib.hid (HL9.out.below hb17)
  replace HT1 := Lib.hid (HT1.out.below hb17)
  replace Q7 := Lib.hid ((hb17.block _ (row_lt Q7.out)).trans Q7.out)
  replace Q8 := Lib.hid ((hb17.block _ (row_lt Q8.out)).trans Q8.out)
  replace HB := Lib.hid (HB.out.trans (hb17.mono HB.out.size))
  clear hb17
  obtain ⟨W18, hW18⟩ : ∃ W18, W18 = W17.alloc (.cells #[.slice al 3 cl] 28) := ⟨_, rfl⟩
  have hb18 : Below W17.heap.size W17 W18 := by rw [hW18]; exact below_new _ _ _
  have HMM := Lib.hid (show SRows W18 (.slice (some ⟨W17.heap.size, 0, none⟩) 1 1) [S4] by rw [hW18]; exact SRows.one HL.out _)
  replace HL := Lib.hid (HL.out.below hb18)
  replace HC := Lib.hid (HC.out.below hb18)
  replace HR := Lib.hid (HR.out.below hb18)
  replace HO := Lib.hid (HO.out.below hb18)
  replace HC9 := Lib.hid (HC9.out.below hb18)
  replace HL9 := Lib.hid (HL9.out.below hb18)
  replace HT1 := Lib.hid (HT1.out.below hb18)
  replace HCC := Lib.hid (HCC.out.below hb18)
  replace Q7 := Lib.hid ((hb18.block _ (row_lt Q7.out)).trans Q7.out)
  replace Q8 := Lib.hid ((hb18.block _ (row_lt Q8.out)).trans Q8.out)
  replace HB := Lib.hid (HB.out.trans (hb18.mono HB.out.size))
  clear hb18
  have HW17 := Lib.hid hW17
  have HW18 := Lib.hid hW18
  clear hW17 hW18
  go_wp2_with (first | rw [← HW16.out] | rw [set_same t0, set_same t1, set_same t2, set_same t3] | rw [← HW17.out] | rw [← HW18.out])
  clear q0 q1 q2 q3 t0 t1 t2 t3 g0 g1 g2 g3
  with_reducible refine (HE4.out _ _ _ _ _ _ _ HR.out HO.out HC.out HL.out HCC.out HMM.out).mono ?_
  rintro e w19 ⟨rfl, hb19⟩
  replace HL := Lib.hid (HL.out.below hb19)
  replace HC := Lib.hid (HC.out.below hb19)
  replace HR := Lib.hid (HR.out.below hb19)
  replace HO := Lib.hid (HO.out.below hb19)
  replace HC9 := Lib.hid (HC9.out.below hb19)
  replace HL9 := Lib.hid (HL9.out.below hb19)
  replace HT1 := Lib.hid (HT1.out.below hb19)
  replace HCC := Lib.hid (HCC.out.below hb19)
  replace HMM := Lib.hid (HMM.out.below hb19)
  replace Q7 := Lib.hid ((hb19.block _ (row_lt Q7.out)).trans Q7.out)
  replace Q8 := Lib.hid ((hb19.block _ (row_lt Q8.out)).trans Q8.out)
  replace HB := Lib.hid (HB.out.trans (hb19.mono HB.out.size))
  clear hb19
  clear HCC HMM
  obtain ⟨W20, hW20, hb20, hzW20, -⟩ := box_key w19 (.int .i64 0) (.slice none 0 0) (.slice none 0 0) (.slice none 0 0) 27
  have HW20 := Lib.hid hW20
  have t0 := row_cell hzW20 (k := 0) (v := .int .i64 0) rfl
  have t1 := row_cell hzW20 (k := 1) (v := .slice none 0 0) rfl
  have t2 := row_cell hzW20 (k := 2) (v := .slice none 0 0) rfl
  have t3 := row_cell hzW20 (k := 3) (v := .slice none 0 0) rfl
  have g0 := row_free hzW20 0
  have g1 := row_free hzW20 1
  have g2 := row_free hzW20 2
  have g3 := row_free hzW20 3
  clear hW20 hzW20
  replace HL := Lib.hid (HL.out.below hb20)
  replace HC := Lib.hid (HC.out.below hb20)
  replace HR := Lib.hid (HR.out.below hb20)
  replace HO := Lib.hid (HO.out.below hb20)
  replace HC9 := Lib.hid (HC9.out.below hb20)
  replace HL9 := Lib.hid (HL9.out.below hb20)
  replace HT1 := Lib.hid (HT1.out.below hb20)
  replace Q7 := Lib.hid ((hb20.block _ (row_lt Q7.out)).trans Q7.out)
  replace Q8 := Lib.hid ((hb20.block _ (row_lt Q8.out)).trans Q8.out)
  replace HB := Lib.hid (HB.out.trans (hb20.mono HB.out.size))
  clear hb20
  have q0 := row_cell Q7.out (k := 0) (v := .int .i64 2) rfl
  have q1 := row_cell Q7.out (k := 1) (v := .slice a1 3 k1) rfl
  have q2 := row_cell Q7.out (k := 2) (v := .slice b1 3 d1) rfl
  have q3 := row_cell Q7.out (k := 3) (v := .slice (some ⟨bc, oc, none⟩) 2 cc) rfl
  go_wp2_with (first | rw [← HW20.out] | rw [set_same t0, set_same t1, set_same t2, set_same t3])
  clear q0 q1 q2 q3 t0 t1 t2 t3 g0 g1 g2 g3
  with_reducible refine (HM5.out _ _ _ _ HR.out HO.out HC.out).mono ?_
  rintro e w21 ⟨rfl, hb21⟩
  replace HL := Lib.hid (HL.out.below hb21)
  replace HC := Lib.hid (HC.out.below hb21)
  replace HR := Lib.hid (HR.out.below hb21)
  replace HO := Lib.hid (HO.out.below hb21)
  replace HC9 := Lib.hid (HC9.out.below hb21)
  replace HL9 := Lib.hid (HL9.out.below hb21)
  replace HT1 := Lib.hid (HT1.out.below hb21)
  replace Q7 := Lib.hid ((hb21.block _ (row_lt Q7.out)).trans Q7.out)
  replace Q8 := Lib.hid ((hb21.block _ (row_lt Q8.out)).trans Q8.out)
  replace HB := Lib.hid (HB.out.trans (hb21.mono HB.out.size))
  clear hb21
  have hbd : Below w21.heap.size w21 w21.drew := (Below.refl _ _).drew
  replace HL := Lib.hid (HL.out.below hbd)
  replace HC := Lib.hid (HC.out.below hbd)
  replace HR := Lib.hid (HR.out.below hbd)
  replace HO := Lib.hid (HO.out.below hbd)
  replace HC9 := Lib.hid (HC9.out.below hbd)
  replace HL9 := Lib.hid (HL9.out.below hbd)
  replace HT1 := Lib.hid (HT1.out.below hbd)
  replace HB := Lib.hid (HB.out.drew)
  clear hbd
  obtain ⟨ya, yc, eY, hyc, -, -, hky⟩ := id HL9.out
  obtain ⟨by', oy, ey, -, -⟩ := hky 0 (by decide)
  simp only [Value.slice.injEq] at eY
  obtain ⟨rfl, -, rfl⟩ := eY
  subst ey
  have hcy3 : 3 ≤ cy := hyc
  have hcy2 : (2 : Int) ≤ (cy : Int) := by omega
  have hcy0 : ¬ cy = 1 := by omega
  have hS9 : S9 = [(0, 19), (1, 28), (2, 37)] := by decide
  have hL9 := HL9.out
  rw [hS9] at hL9
  have HY1 := Lib.hid hL9.mid
  have HY2 := Lib.hid (hL9.takeN (k := 2) (by decide))
  rw [show List.take 2 [((0 : Int), (19 : Int)), (1, 28), (2, 37)] = [(0, 19), (1, 28)] from rfl] at HY2
  clear hky hyc hL9 hS9
  have q0 := row_cell Q7.out (k := 0) (v := .int .i64 2) rfl
  have q1 := row_cell Q7.out (k := 1) (v := .slice a1 3 k1) rfl
  have q2 := row_cell Q7.out (k := 2) (v := .slice b1 3 d1) rfl
  have q3 := row_cell Q7.out (k := 3) (v := .slice (some ⟨bc, oc, none⟩) 2 cc) rfl
  have t0 := row_cell Q8.out (k := 0) (v := .int .i64 3) rfl
  have t1 := row_cell Q8.out (k := 1) (v := .slice a1 3 k1) rfl
  have t2 := row_cell Q8.out (k := 2) (v := .slice b1 3 d1) rfl
  have t3 := row_cell Q8.out (k := 3) (v := .slice (some ⟨bd, od, none⟩) 2 cd) rfl
  go_wp2_with fail
  go_region_held3 (fun w' => w'.cell? ⟨w7.heap.size, 0, none⟩ = some (.int .i64 2) ∧ w'.cell? ⟨w7.heap.size, 1, none⟩ = some (.slice a1 3 k1) ∧ w'.cell? ⟨w7.heap.size, 2, none⟩ = some (.slice b1 3 d1) ∧ w'.cell? ⟨w7.heap.size, 3, none⟩ = some (.slice (some ⟨bc, oc, none⟩) 2 cc) ∧ w'.cell? ⟨w11.heap.size, 0, none⟩ = some (.int .i64 3) ∧ w'.cell? ⟨w11.heap.size, 1, none⟩ = some (.slice a1 3 k1) ∧ w'.cell? ⟨w11.heap.size, 2, none⟩ = some (.slice b1 3 d1) ∧ w'.cell? ⟨w11.heap.size, 3, none⟩ = some (.slice (some ⟨bd, od, none⟩) 2 cd)) (first | go_keep | exact ⟨q0, q1, q2, q3, t0, t1, t2, t3⟩)
    (first
      | (go_at_call 14; (with_reducible refine (HM6.out _ _ _ _ _ _ _ HR.out HO.out HC.out HC9.out HT1.out HY1.out).mono ?_); rintro e w22 ⟨rfl, hb22⟩; replace q0 := below_cell hb22 q0; replace q1 := below_cell hb22 q1; replace q2 := below_cell hb22 q2; replace q3 := below_cell hb22 q3; replace t0 := below_cell hb22 t0; replace t1 := below_cell hb22 t1; replace t2 := below_cell hb22 t2; replace t3 := below_cell hb22 t3; replace HL := Lib.hid (HL.out.below hb22); replace HC := Lib.hid (HC.out.below hb22); replace HR := Lib.hid (HR.out.below hb22); replace HO := Lib.hid (HO.out.below hb22); replace HC9 := Lib.hid (HC9.out.below hb22); replace HL9 := Lib.hid (HL9.out.below hb22); replace HT1 := Lib.hid (HT1.out.below hb22); replace HY1 := Lib.hid (HY1.out.below hb22); replace HY2 := Lib.hid (HY2.out.below hb22); replace Q7 := Lib.hid ((hb22.block _ (row_lt Q7.out)).trans Q7.out); replace Q8 := Lib.hid ((hb22.block _ (row_lt Q8.out)).trans Q8.out); replace HB := Lib.hid (HB.out.trans (hb22.mono HB.out.size)); clear hb22))
  clear q0 q1 q2 q3 t0 t1 t2 t3 HT1 HY1
  have hbd : Below w22.heap.size w22 w22.drew := (Below.refl _ _).drew
  replace HL := Lib.hid (HL.out.below hbd)
  replace HC := Lib.hid (HC.out.below hbd)
  replace HR := Lib.hid (HR.out.below hbd)
  replace HO := Lib.hid (HO.out.below hbd)
  replace HC9 := Lib.hid (HC9.out.below hbd)
  replace HL9 := Lib.hid (HL9.out.below hbd)
  replace HY2 := Lib.hid (HY2.out.below hbd)
  replace HB := Lib.hid (HB.out.drew)
  clear hbd
  have q0 := row_cell Q7.out (k := 0) (v := .int .i64 2) rfl
  have q1 := row_cell Q7.out (k := 1) (v := .slice a1 3 k1) rfl
  have q2 := row_cell Q7.out (k := 2) (v := .slice b1 3 d1) rfl
  have q3 := row_cell Q7.out (k := 3) (v := .slice (some ⟨bc, oc, none⟩) 2 cc) rfl
  have t0 := row_cell Q8.out (k := 0) (v := .int .i64 3) rfl
  have t1 := row_cell Q8.out (k := 1) (v := .slice a1 3 k1) rfl
  have t2 := row_cell Q8.out (k := 2) (v := .slice b1 3 d1) rfl
  have t3 := row_cell Q8.out (k := 3) (v := .slice (some ⟨bd, od, none⟩) 2 cd) rfl
  go_wp2_with fail
  go_region_held3 (fun w' => w'.cell? ⟨w7.heap.size, 0, none⟩ = some (.int .i64 2) ∧ w'.cell? ⟨w7.heap.size, 1, none⟩ = some (.slice a1 3 k1) ∧ w'.cell? ⟨w7.heap.size, 2, none⟩ = some (.slice b1 3 d1) ∧ w'.cell? ⟨w7.heap.size, 3, none⟩ = some (.slice (some ⟨bc, oc, none⟩) 2 cc) ∧ w'.cell? ⟨w11.heap.size, 0, none⟩ = some (.int .i64 3) ∧ w'.cell? ⟨w11.heap.size, 1, none⟩ = some (.slice a1 3 k1) ∧ w'.cell? ⟨w11.heap.size, 2, none⟩ = some (.slice b1 3 d1) ∧ w'.cell? ⟨w11.heap.size, 3, none⟩ = some (.slice (some ⟨bd, od, none⟩) 2 cd)) (first | go_keep | exact ⟨q0, q1, q2, q3, t0, t1, t2, t3⟩)
    (first
      | (go_at_call 14; (with_reducible refine (HM7.out _ _ _ _ _ _ HR.out HO.out HC.out HC9.out HY2.out).mono ?_); rintro e w23 ⟨rfl, hb23⟩; replace q0 := below_cell hb23 q0; replace q1 := below_cell hb23 q1; replace q2 := below_cell hb23 q2; replace q3 := below_cell hb23 q3; replace t0 := below_cell hb23 t0; replace t1 := below_cell hb23 t1; replace t2 := below_cell hb23 t2; replace t3 := below_cell hb23 t3; replace HL := Lib.hid (HL.out.below hb23); replace HC := Lib.hid (HC.out.below hb23); replace HR := Lib.hid (HR.out.below hb23); replace HO := Lib.hid (HO.out.below hb23); replace HC9 := Lib.hid (HC9.out.below hb23); replace HL9 := Lib.hid (HL9.out.below hb23); replace HY2 := Lib.hid (HY2.out.below hb23); replace Q7 := Lib.hid ((hb23.block _ (row_lt Q7.out)).trans Q7.out); replace Q8 := Lib.hid ((hb23.block _ (row_lt Q8.out)).trans Q8.out); replace HB := Lib.hid (HB.out.trans (hb23.mono HB.out.size)); clear hb23))
  go_wp2_with fail
  go_ret
  exact ⟨rfl, HB.out⟩

end Go.Proofs.YtnbkbnbmmkfckaaGreat
