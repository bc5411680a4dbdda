/- The laws of keygen: KeygenOthers. -/
import Derived.Test.YtggnipkfliompaaGreatDoorMKgU
import Derived.Test.YtggnipkfliompaaGreatDoorMKgW
import Derived.Test.YtggnipkfliompaaGreatDoorMPmA
import Derived.Test.YtggnipkfliompaaGreatDoorMRegF
namespace Go.Proofs.YtggnipkfliompaaGreatDoor
open Go.RowKit FP

/-- The dealings of qualified dealers among the first. -/
def zsK (l : List Dlg) (vs : DVals) (ds : List Int) (k : Nat) : List DV := ((List.range k).map fun i => ((l.getD i noD, vs i) : DV)).filter fun z => decide (z.1.dealer ∈ ds)
theorem zsK_yes {l : List Dlg} {vs : DVals} {ds : List Int} {k : Nat} (h : (l.getD k noD).dealer ∈ ds) : zsK l vs ds (k + 1) = zsK l vs ds k ++ [(l.getD k noD, vs k)] := by
  unfold zsK; rw [range_snoc, List.filter_append, List.filter_cons_of_pos (by simpa using h)]; rfl
theorem zsK_no {l : List Dlg} {vs : DVals} {ds : List Int} {k : Nat} (h : (l.getD k noD).dealer ∉ ds) : zsK l vs ds (k + 1) = zsK l vs ds k := by
  unfold zsK; rw [range_snoc, List.filter_append, List.filter_cons_of_neg (by simpa using h)]; simp
theorem zsK_len {l : List Dlg} {vs : DVals} {ds : List Int} {k : Nat} : (zsK l vs ds k).length ≤ k := by
  unfold zsK
  refine Nat.le_trans (List.length_filter_le ..) ?_
  simp
theorem zsK_all (l : List Dlg) (vs : DVals) (ds : List Int) : (zsK l vs ds l.length).map (·.1) = l.filter fun d => ds.contains d.dealer := by
  have h : ∀ k, k ≤ l.length → (zsK l vs ds k).map (·.1) = (l.take k).filter fun d => ds.contains d.dealer := by
    intro k
    induction k with
    | zero => intro _; simp [zsK]
    | succ k ih =>
      intro hk
      have hk2 : k < l.length := by omega
      rw [List.take_succ_eq_append_getElem hk2, List.filter_append, ← ih (by omega)]
      by_cases hm : (l.getD k noD).dealer ∈ ds
      · rw [zsK_yes hm, List.map_append, List.filter_cons_of_pos (by rw [getD_at hk2] at hm; simpa using hm)]
        simp only [List.map_cons, List.map_nil, List.filter_nil, getD_at hk2]
      · rw [zsK_no hm, List.filter_cons_of_neg (by rw [getD_at hk2] at hm; simpa using hm)]; simp
  rw [h _ (Nat.le_refl _), List.take_length]


structure FOt20 (w0 : World) (pb : Nat) (xb : Nat) (xo : Nat) (n : Nat) (xc : Nat) (rv : Value) (ov : Value) (kv : Value) (cv : Value) (dn : Nat) (ds : List Dlg) (done : Nat → Bool) (v : Nat → Value) (w : World) : Prop where
  b : Below w0.heap.size w0 w
  f0 : done 0 = true → v 0 = .agg #[rv, ov]
  f1 : done 1 = true → v 1 = kv
  f2 : done 2 = true → v 2 = .slice (some ⟨xb, xo, none⟩) n xc
  f3 : done 3 = true → v 3 = .slice (some ⟨xb, xo, none⟩) 1 xc
  f4 : done 4 = true → v 4 = cv
  f5 : done 5 = true → QuK rv ov dn (comL ds) (v 5) w
  f6 : done 6 = true → v 6 = v 5
  f7 : done 7 = true → v 7 = projV 0 (v 5)
  f8 : done 8 = true → v 8 = projV 1 (v 5)
  f9 : done 9 = true → v 9 = projV 2 (v 5)
  f11 : done 11 = true → v 11 = projV 0 (v 5)
  f13 : done 13 = true → v 13 = projV 2 (v 5)
  bx : KBx w0.heap.size w (done 10) (done 12) (v 10) rv ov (comL ds)

structure FOt21 (w0 : World) (pb : Nat) (xb : Nat) (xo : Nat) (n : Nat) (xc : Nat) (rv : Value) (ov : Value) (kv : Value) (cv : Value) (dn : Nat) (ds : List Dlg) (done : Nat → Bool) (v : Nat → Value) (w : World) : Prop where
  b : Below w0.heap.size w0 w
  f0 : done 0 = true → v 0 = .agg #[rv, ov]
  f1 : done 1 = true → v 1 = kv
  f2 : done 2 = true → v 2 = .slice (some ⟨xb, xo, none⟩) n xc
  f3 : done 3 = true → v 3 = .slice (some ⟨xb, xo + 3, none⟩) (n - 1) (xc - 1)
  f4 : done 4 = true → v 4 = cv
  f5 : done 5 = true → QuK rv ov dn (comL ds) (v 5) w
  f6 : done 6 = true → v 6 = v 5
  f7 : done 7 = true → v 7 = projV 0 (v 5)
  f8 : done 8 = true → v 8 = projV 1 (v 5)
  f9 : done 9 = true → v 9 = projV 2 (v 5)
  f11 : done 11 = true → v 11 = projV 0 (v 5)
  f13 : done 13 = true → v 13 = projV 2 (v 5)
  bx : KBx w0.heap.size w (done 10) (done 12) (v 10) rv ov (comL ds)

structure FOt27 (w0 : World) (B1 : Nat) (B2 : Nat) (b1 : Nat) (o1 : Nat) (y1 : Nat) (b2 : Nat) (o2 : Nat) (y2 : Nat) (C : Nat) (k : Nat) (a : Int) (z : Int) (m : Int) (done : Nat → Bool) (v : Nat → Value) (w : World) : Prop where
  b : Below w0.heap.size w0 w
  f0 : done 0 = true → v 0 = .pointer (some ⟨B1, 3, none⟩)
  f1 : done 1 = true → v 1 = .slice (some ⟨b1, o1, none⟩) C y1
  f2 : done 2 = true → v 2 = .int .i64 (k : Int)
  f3 : done 3 = true → v 3 = .pointer (some ⟨b1, o1 + k, none⟩)
  f4 : done 4 = true → v 4 = .int .i64 a
  f5 : done 5 = true → v 5 = .pointer (some ⟨B2, 3, none⟩)
  f6 : done 6 = true → v 6 = .slice (some ⟨b2, o2, none⟩) C y2
  f7 : done 7 = true → v 7 = .int .i64 (k : Int)
  f8 : done 8 = true → v 8 = .pointer (some ⟨b2, o2 + k, none⟩)
  f9 : done 9 = true → v 9 = .int .i64 z
  f10 : done 10 = true → v 10 = .tuple #[.int .i64 m, .int .i64 0]
  f11 : done 11 = true → v 11 = .tuple #[.int .i64 m, .int .i64 0]
  f12 : done 12 = true → v 12 = .int .i64 m
  f13 : done 13 = true → v 13 = .int .i64 0
  f14 : done 14 = true → v 14 = .int .i64 m
  f15 : done 15 = true → v 15 = .int .i64 0


set_option maxRecDepth 100000 in
set_option maxHeartbeats 16000000 in
theorem keygenOthers_any (rv ov kv dv cv : Value) (rows : List (List Int)) (owners keys : List Int) (l : List Dlg) (vs : DVals) (cl : List Cmp) (w : World) (hG : Glob w) (hR : Rows2 w rv rows) (hO : Ints w ov owners) (hK : Ints w kv keys) (hD : Dlgs w dv l vs) (hC : Cmps w cv cl) :
    Calls Tryz.prog 10 #[.agg #[rv, ov], kv, dv, cv] w fun r w' => r = .returned (.bool true) ∧ Below w.heap.size w w' := by
  obtain ⟨W0, hW0, hb, r0, -⟩ := box_prog w rv ov 25
  have HG := Lib.hid (hG.below hb)
  have HR := Lib.hid (hR.below hb)
  have HO := Lib.hid (hO.below hb)
  have HK := Lib.hid (hK.below hb)
  have HD := Lib.hid (hD.below hb)
  have HC := Lib.hid (hC.below hb)
  have HB := Lib.hid hb
  obtain ⟨a1, k1, rfl, -, hl1, -⟩ := id hR
  obtain ⟨a2, k2, rfl, -, hl2, -⟩ := id hO
  obtain ⟨a3, k3, rfl, -, hl3, -⟩ := id hK
  obtain ⟨a4, k4, rfl, -, hl4, -⟩ := id hD
  obtain ⟨a5, k5, rfl, -, hl5, -⟩ := id hC
  have c0 := row_cell r0 (k := 0) (v := .slice a1 rows.length k1) rfl
  have c1 := row_cell r0 (k := 1) (v := .slice a2 owners.length k2) rfl
  have HW0 := Lib.hid hW0
  clear hG hR hO hK hD hC hb r0 hW0
  go_enter Tryz.func10, Tryz.ntmps10
  go_wp2_with (rw [← HW0.out])
  clear HW0
  with_reducible refine (sane37_any _ HG.out).mono ?_
  rintro e w2 ⟨rfl, hb2⟩
  replace c0 := below_cell hb2 c0
  replace c1 := below_cell hb2 c1
  replace HG := Lib.hid (HG.out.below hb2)
  replace HR := Lib.hid (HR.out.below hb2)
  replace HO := Lib.hid (HO.out.below hb2)
  replace HK := Lib.hid (HK.out.below hb2)
  replace HD := Lib.hid (HD.out.below hb2)
  replace HC := Lib.hid (HC.out.below hb2)
  replace HB := Lib.hid (HB.out.trans (hb2.mono HB.out.size))
  clear hb2
  go_wp2_with fail
  with_reducible refine (rFew37_any _ _ _ _ rows owners keys l vs a5 cl.length k5 _ HR.out HO.out HK.out HD.out hl5).mono ?_
  rintro e w4 ⟨⟨b, rfl⟩, hb4⟩
  replace c0 := below_cell hb4 c0
  replace c1 := below_cell hb4 c1
  replace HG := Lib.hid (HG.out.below hb4)
  replace HR := Lib.hid (HR.out.below hb4)
  replace HO := Lib.hid (HO.out.below hb4)
  replace HK := Lib.hid (HK.out.below hb4)
  replace HD := Lib.hid (HD.out.below hb4)
  replace HC := Lib.hid (HC.out.below hb4)
  replace HB := Lib.hid (HB.out.trans (hb4.mono HB.out.size))
  clear hb4
  cases b with
  | false =>
    go_wp2_with fail
    go_ret
    exact ⟨rfl, HB.out⟩
  | true =>
  by_cases h1 : l.length ≤ 5
  rotate_left
  · have d1 : decide ((5 : Int) < (l.length : Int)) = true := decide_eq_true (by omega)
    have d2 : decide (5 < l.length) = true := decide_eq_true (by omega)
    go_wp2_with fail
    go_ret
    exact ⟨rfl, HB.out⟩
  have d1 : decide ((5 : Int) < (l.length : Int)) = false := decide_eq_false (by omega)
  have d2 : decide (5 < l.length) = false := decide_eq_false (by omega)
  by_cases h2 : cl.length ≤ 8
  rotate_left
  · have d3 : decide ((8 : Int) < (cl.length : Int)) = true := decide_eq_true (by omega)
    have d4 : decide (8 < cl.length) = true := decide_eq_true (by omega)
    go_wp2_with fail
    go_ret
    exact ⟨rfl, HB.out⟩
  have d3 : decide ((8 : Int) < (cl.length : Int)) = false := decide_eq_false (by omega)
  have d4 : decide (8 < cl.length) = false := decide_eq_false (by omega)
  go_wp2_with fail
  clear d1 d2 d3 d4
  with_reducible refine (kQualified_any _ _ _ _ _ rows owners keys l vs cl _ HG.out HR.out HO.out HK.out HD.out HC.out).mono ?_
  rintro e w5 ⟨v, kv, rfl, hb5, hoff, hon⟩
  replace c0 := below_cell hb5 c0
  replace c1 := below_cell hb5 c1
  replace HG := Lib.hid (HG.out.below hb5)
  replace HR := Lib.hid (HR.out.below hb5)
  replace HO := Lib.hid (HO.out.below hb5)
  replace HK := Lib.hid (HK.out.below hb5)
  replace HD := Lib.hid (HD.out.below hb5)
  replace HC := Lib.hid (HC.out.below hb5)
  replace HB := Lib.hid (HB.out.trans (hb5.mono HB.out.size))
  clear hb5
  obtain ⟨ME, hME⟩ : ∃ z, z = quE rows owners keys l cl := ⟨_, rfl⟩
  rw [← hME] at hoff hon ⊢
  by_cases hE : ME = 0
  rotate_left
  · obtain ⟨rfl, rfl⟩ := hoff hE
    have e1 : (ME != 0) = true := bne_iff_ne.2 hE
    have s0 : (w5.alloc (.cells #[.int .i64 0, .slice none 0 0, .slice none 0 0, .slice none 0 0] 64)).cell? ⟨w5.heap.size, 0, none⟩ = some (.int .i64 0) := row_cell (World.alloc_heap_new _ _) rfl
    have s1 : (w5.alloc (.cells #[.int .i64 0, .slice none 0 0, .slice none 0 0, .slice none 0 0] 64)).cell? ⟨w5.heap.size, 1, none⟩ = some (.slice none 0 0) := row_cell (World.alloc_heap_new _ _) rfl
    have s2 : (w5.alloc (.cells #[.int .i64 0, .slice none 0 0, .slice none 0 0, .slice none 0 0] 64)).cell? ⟨w5.heap.size, 2, none⟩ = some (.slice none 0 0) := row_cell (World.alloc_heap_new _ _) rfl
    have s3 : (w5.alloc (.cells #[.int .i64 0, .slice none 0 0, .slice none 0 0, .slice none 0 0] 64)).cell? ⟨w5.heap.size, 3, none⟩ = some (.slice none 0 0) := row_cell (World.alloc_heap_new _ _) rfl
    have HBN := Lib.hid (HB.out.trans ((below_new w5 #[.int .i64 0, .slice none 0 0, .slice none 0 0, .slice none 0 0] 64).mono HB.out.size))
    clear hoff hon hE hME
    go_wp2_with fail
    with_reducible refine (rSameKey37_any 0 _ _ _ _ _ _ [] [] [] _ (Rows2.nil _ none 0) (Ints.nil _ none 0) (Ints.nil _ none 0) (Rows2.nil _ none 0) (Ints.nil _ none 0) (Ints.nil _ none 0)).mono ?_
    rintro e w6 ⟨rfl, hb6⟩
    go_wp2_with fail
    go_ret
    exact ⟨rfl, HBN.out.trans (hb6.mono HBN.out.size)⟩
  subst hE
  obtain ⟨hvi, cv2, rfl, hci⟩ := hon rfl
  obtain ⟨hp0, hko, -, -, hord, hqn⟩ := quE_parts hME.symm
  have HQP := Lib.hid hp0
  have HKO := Lib.hid hko
  have HORD := Lib.hid hord
  have HSUB := Lib.hid (qual_sub (rows := rows) (owners := owners) (keys := keys) (cl := cl) (l := l))
  have HSOME := Lib.hid (some_all (rows := rows) (owners := owners) (keys := keys) (cl := cl) hord)
  have HSELF := Lib.hid (fun (cl2 : List Cmp) h L hL => qual_self (rows := rows) (owners := owners) (keys := keys) (l := l) (cl := cl) (cl2 := cl2) h (L := L) hL)
  have HQF := Lib.hid (fun d (h : d ∈ qualL rows owners keys cl l) => (qual_mem h).2.1)
  generalize qualL rows owners keys cl l = q at *
  clear hoff hon hME hp0 hko hord
  obtain ⟨va, vc, rfl, -⟩ := id hvi
  obtain ⟨za, zc, rfl, -⟩ := id hci
  rw [dlrL_len] at hvi ⊢
  obtain ⟨W6, hW6, hb6, hr6⟩ := newK w5 (.int .i64 0) (.slice a1 rows.length k1) (.slice a2 owners.length k2) (.slice za (comL q).length zc)
  have HW6 := Lib.hid hW6
  have HVI := Lib.hid (hvi.below hb6)
  have HCI := Lib.hid (hci.below hb6)
  have oc0 := c0
  have oc1 := c1
  replace c0 := below_cell hb6 c0
  replace c1 := below_cell hb6 c1
  replace HG := Lib.hid (HG.out.below hb6)
  replace HR := Lib.hid (HR.out.below hb6)
  replace HO := Lib.hid (HO.out.below hb6)
  replace HK := Lib.hid (HK.out.below hb6)
  replace HD := Lib.hid (HD.out.below hb6)
  replace HC := Lib.hid (HC.out.below hb6)
  replace HB := Lib.hid (HB.out.trans (hb6.mono HB.out.size))
  clear hb6
  have k0_ := row_cell hr6 (k := 0) rfl
  have k1_ := row_cell hr6 (k := 1) rfl
  have k2_ := row_cell hr6 (k := 2) rfl
  have k3_ := row_cell hr6 (k := 3) rfl
  clear hW6 hr6 hvi hci
  go_wp2_with (rw [← HW6.out])
  clear HW6
  clear oc0 oc1
  go_loopw [12, 66] (fun x i Y => ∃ k : Nat, k ≤ l.length ∧ i = .int .i64 k ∧ Y.ownsRow W6.heap.size 28 3 x (zsK l vs (dlrL q) k).length ((zsK l vs (dlrL q) k).flatMap dvC) ∧ Below W6.heap.size W6 Y) (fun _ i _ => l.length - (intOf i).toNat)
  case atStart => exact ⟨0, Nat.zero_le _, rfl, World.ownsRow_nil _ _ _ _, Below.refl _ _⟩
  case round =>
    obtain ⟨k, hkl, rfl, hown, hb⟩ := hrel
    by_cases hlt : k < l.length
    · obtain ⟨b, off, ea, hat⟩ := (HD.out.below hb).at hlt
      subst ea
      have hgd : l.getD k noD = l[k] := getD_at hlt _
      have hyes := zsK_yes (l := l) (vs := vs) (ds := dlrL q) (k := k)
      have hno := zsK_no (l := l) (vs := vs) (ds := dlrL q) (k := k)
      have hzl := zsK_len (l := l) (vs := vs) (ds := dlrL q) (k := k)
      rw [hgd] at hyes hno
      obtain ⟨zs, hzs⟩ : ∃ zs, zs = zsK l vs (dlrL q) k := ⟨_, rfl⟩
      rw [← hzs] at hyes hno hzl hown
      obtain ⟨d, hd⟩ : ∃ d, d = l[k] := ⟨_, rfl⟩
      rw [← hd] at hat hyes hno
      obtain ⟨zv, hzv⟩ : ∃ z, z = vs k := ⟨_, rfl⟩
      rw [← hzv] at hat hyes
      obtain ⟨v1, v2⟩ := zv
      simp only at hat
      obtain ⟨ca, cc, rfl, -⟩ := id hat.cs
      obtain ⟨pa, pc, rfl, -⟩ := id hat.ps
      have y0 := hat.c0
      have y1 := hat.c1
      have y2 := hat.c2
      obtain ⟨W7, hW7, hb7, hr7⟩ : ∃ W, W = wr.alloc (.cells #[.int .i64 d.dealer, .slice ca d.cs.length cc, .slice pa d.ps.length pc] 28) ∧ Below wr.heap.size wr W ∧ W.heap[wr.heap.size]? = some (.cells #[.int .i64 d.dealer, .slice ca d.cs.length cc, .slice pa d.ps.length pc] 28 (0, 0)) := ⟨_, rfl, below_new _ _ _, World.alloc_heap_new _ _⟩
      have x0 : W7.cell? ⟨wr.heap.size, 0, none⟩ = some (.int .i64 d.dealer) := row_cell hr7 rfl
      have x1 : W7.cell? ⟨wr.heap.size, 1, none⟩ = some (.slice ca d.cs.length cc) := row_cell hr7 rfl
      have x2 : W7.cell? ⟨wr.heap.size, 2, none⟩ = some (.slice pa d.ps.length pc) := row_cell hr7 rfl
      have HW7 := Lib.hid hW7
      have HOW := Lib.hid (own_keep hown hb7)
      have HBW := Lib.hid (hb.trans (hb7.mono hb.size))
      have HVW := Lib.hid (HVI.out.below HBW.out)
      have i0 : (0 : Int) ≤ (k : Int) := Int.natCast_nonneg k
      have i1 : (k : Int) < (l.length : Int) := by omega
      have HZL : Hid (zs.length ≤ 1000000) := Lib.hid (by omega)
      obtain ⟨xa, xn, xc, rfl⟩ := own_sl hown
      clear hW7 hb7 hr7 hown hb hgd hzs hd hzv hat
      go_wp2_with (rw [← HW7.out])
      with_reducible refine (rHas_any _ (dlrL q) d.dealer _ HVW.out).mono ?_
      rintro e w9 ⟨rfl, rfl⟩
      by_cases hm : d.dealer ∈ dlrL q
      · have HZ := Lib.hid (hyes hm)
        have dm : decide (d.dealer ∈ dlrL q) = true := decide_eq_true hm
        rw [dm]
        obtain ⟨W10, hW10, hb10, hr10⟩ : ∃ W, W = W7.alloc (.cells #[.int .i64 d.dealer, .slice ca d.cs.length cc, .slice pa d.ps.length pc] 28) ∧ Below W7.heap.size W7 W ∧ W.heap[W7.heap.size]? = some (.cells #[.int .i64 d.dealer, .slice ca d.cs.length cc, .slice pa d.ps.length pc] 28 (0, 0)) := ⟨_, rfl, below_new _ _ _, World.alloc_heap_new _ _⟩
        have HW10 := Lib.hid hW10
        have HO10 := Lib.hid (own_keep HOW.out hb10)
        have HB10 := Lib.hid (HBW.out.trans (hb10.mono HBW.out.size))
        have HC10 : Hid (∀ j u, (dvC (d, (.slice ca d.cs.length cc, .slice pa d.ps.length pc)))[j]? = some u → W10.cell? ⟨W7.heap.size, j, none⟩ = some u) := Lib.hid (fun j u hj => row_cell hr10 (by
          match j with
          | 0 | 1 | 2 => exact hj
          | n + 3 => simp [dvC] at hj))
        have HS10 : Hid (W6.heap.size ≤ W10.heap.size) := Lib.hid HB10.out.size
        clear hyes hno hm dm hW10 hb10 hr10
        go_wp2_with (first | rw [← HW10.out] | (at_builtin; refine app_dlg rfl _ _ rfl W6.heap.size _ zs zs.length rfl HO10.out W7.heap.size 1 (d, (.slice ca d.cs.length cc, .slice pa d.ps.length pc)) rfl ⟨⟨_, _, _, rfl⟩, ⟨_, _, _, rfl⟩⟩ HC10.out HZL.out HS10.out ?_; intro g9 c9 w9 h9 o9; have H9 := Lib.hid h9; have B9 := Lib.hid (own_below HO10.out o9.1 HS10.out); clear h9 o9))
        go_roundw
        case rel => exact ⟨k + 1, by omega, by go_num, by rw [HZ.out, List.length_append]; exact H9.out, HB10.out.trans B9.out⟩
        case measure => simp [intOf]; omega
      · have HZ := Lib.hid (hno hm)
        have dm : decide (d.dealer ∈ dlrL q) = false := decide_eq_false hm
        rw [dm]
        clear hyes hno hm dm
        go_wp2_with fail
        go_roundw
        case rel => exact ⟨k + 1, by omega, by go_num, by rw [HZ.out]; exact HOW.out, HBW.out⟩
        case measure => simp [intOf]; omega
    · obtain rfl : k = l.length := by omega
      replace c0 := below_cell hb c0
      replace c1 := below_cell hb c1
      replace k0_ := below_cell hb k0_
      replace k1_ := below_cell hb k1_
      replace k2_ := below_cell hb k2_
      replace k3_ := below_cell hb k3_
      replace HG := Lib.hid (HG.out.below hb)
      replace HR := Lib.hid (HR.out.below hb)
      replace HO := Lib.hid (HO.out.below hb)
      replace HK := Lib.hid (HK.out.below hb)
      replace HD := Lib.hid (HD.out.below hb)
      replace HC := Lib.hid (HC.out.below hb)
      replace HVI := Lib.hid (HVI.out.below hb)
      replace HCI := Lib.hid (HCI.out.below hb)
      replace HB := Lib.hid (HB.out.trans (hb.mono HB.out.size))
      have hall := zsK_all l vs (dlrL q)
      rw [HSOME.out] at hall
      have hok : ∀ z ∈ zsK l vs (dlrL q) l.length, DvOK wr z := fun z hz => by
        obtain ⟨h3, -⟩ := List.mem_filter.1 hz
        obtain ⟨i, h4, rfl⟩ := List.mem_map.1 h3
        have hi := List.mem_range.1 h4
        obtain ⟨_, _, -, hat⟩ := HD.out.at hi
        have hg : l.getD i noD = l[i] := getD_at hi _
        exact ⟨by show R64 (l.getD i noD).dealer; rw [hg]; exact hat.r, by show Ints wr (vs i).1 (l.getD i noD).cs; rw [hg]; exact hat.cs, by show Parcels wr (vs i).2 (l.getD i noD).ps; rw [hg]; exact hat.ps⟩
      have hzl := zsK_len (l := l) (vs := vs) (ds := dlrL q) (k := l.length)
      have hds := Dlgs.own hown hok (by omega)
      rw [hall] at hds
      have hql : (zsK l vs (dlrL q) l.length).length = q.length := by have h9 := congrArg List.length hall; rw [List.length_map] at h9; exact h9
      have hq5 : q.length ≤ 5 := by rw [← hql]; omega
      generalize dvV (zsK l vs (dlrL q) l.length) = vq at *
      obtain ⟨xa, xc, rfl, -⟩ := id hds
      have HX := Lib.hid hds
      have HQ5 := Lib.hid hq5
      have hqn2 := Lib.hid hqn
      have hE2 : quE rows owners keys q [] = 0 := quE_of HQP.out HKO.out (by omega) (by simp) (ord_sub HORD.out HSUB.out) (by rw [HSELF.out [] (fun c h => by cases h) q (fun d h => h)]; exact hqn)
      have HE2 := Lib.hid hE2
      clear hown hok hall hzl hds hql hb hE2
      go_wp2_with fail
      with_reducible refine (kQualified_any _ _ _ _ _ rows owners keys q vq [] _ HG.out HR.out HO.out HK.out HX.out (Cmps.nil _ none 0)).mono ?_
      rintro e w7 ⟨v, kv, rfl, hb7, -, hon⟩
      replace c0 := below_cell hb7 c0
      replace c1 := below_cell hb7 c1
      replace k0_ := below_cell hb7 k0_
      replace k1_ := below_cell hb7 k1_
      replace k2_ := below_cell hb7 k2_
      replace k3_ := below_cell hb7 k3_
      replace HG := Lib.hid (HG.out.below hb7)
      replace HR := Lib.hid (HR.out.below hb7)
      replace HO := Lib.hid (HO.out.below hb7)
      replace HK := Lib.hid (HK.out.below hb7)
      replace HD := Lib.hid (HD.out.below hb7)
      replace HC := Lib.hid (HC.out.below hb7)
      replace HVI := Lib.hid (HVI.out.below hb7)
      replace HCI := Lib.hid (HCI.out.below hb7)
      replace HX := Lib.hid (HX.out.below hb7)
      replace HB := Lib.hid (HB.out.trans (hb7.mono HB.out.size))
      clear hb7
      rw [HE2.out, HSELF.out [] (fun c h => by cases h) q (fun d h => h)] at hon
      rw [HE2.out]
      obtain ⟨hvi, cv3, rfl, hci⟩ := hon rfl
      obtain ⟨ya, yc, rfl, -⟩ := id hvi
      obtain ⟨ua, uc, rfl, -⟩ := id hci
      rw [dlrL_len] at hvi ⊢
      obtain ⟨W8, hW8, hb8, hr8⟩ := newK w7 (.int .i64 0) (.slice a1 rows.length k1) (.slice a2 owners.length k2) (.slice ua (comL q).length uc)
      have HW8 := Lib.hid hW8
      have HYI := Lib.hid (hvi.below hb8)
      have HUI := Lib.hid (hci.below hb8)
      have oc0 := c0
      have oc1 := c1
      have ok0_ := k0_
      have ok1_ := k1_
      have ok2_ := k2_
      have ok3_ := k3_
      replace c0 := below_cell hb8 c0
      replace c1 := below_cell hb8 c1
      replace k0_ := below_cell hb8 k0_
      replace k1_ := below_cell hb8 k1_
      replace k2_ := below_cell hb8 k2_
      replace k3_ := below_cell hb8 k3_
      replace HG := Lib.hid (HG.out.below hb8)
      replace HR := Lib.hid (HR.out.below hb8)
      replace HO := Lib.hid (HO.out.below hb8)
      replace HK := Lib.hid (HK.out.below hb8)
      replace HD := Lib.hid (HD.out.below hb8)
      replace HC := Lib.hid (HC.out.below hb8)
      replace HVI := Lib.hid (HVI.out.below hb8)
      replace HCI := Lib.hid (HCI.out.below hb8)
      replace HX := Lib.hid (HX.out.below hb8)
      replace HB := Lib.hid (HB.out.trans (hb8.mono HB.out.size))
      clear hb8
      have j0_ := row_cell hr8 (k := 0) rfl
      have j1_ := row_cell hr8 (k := 1) rfl
      have j2_ := row_cell hr8 (k := 2) rfl
      have j3_ := row_cell hr8 (k := 3) rfl
      clear hW8 hr8 hvi hci hon
      go_wp2_with (rw [← HW8.out])
      clear HW8
      clear oc0 oc1 ok0_ ok1_ ok2_ ok3_
      with_reducible refine (rSameInts34_any _ _ (dlrL q) (dlrL q) _ HYI.out HVI.out).mono ?_
      rintro e w9 ⟨rfl, hb9⟩
      rw [sameQ_self]
      replace c0 := below_cell hb9 c0
      replace c1 := below_cell hb9 c1
      replace k0_ := below_cell hb9 k0_
      replace k1_ := below_cell hb9 k1_
      replace k2_ := below_cell hb9 k2_
      replace k3_ := below_cell hb9 k3_
      replace j0_ := below_cell hb9 j0_
      replace j1_ := below_cell hb9 j1_
      replace j2_ := below_cell hb9 j2_
      replace j3_ := below_cell hb9 j3_
      replace HG := Lib.hid (HG.out.below hb9)
      replace HR := Lib.hid (HR.out.below hb9)
      replace HO := Lib.hid (HO.out.below hb9)
      replace HK := Lib.hid (HK.out.below hb9)
      replace HD := Lib.hid (HD.out.below hb9)
      replace HC := Lib.hid (HC.out.below hb9)
      replace HVI := Lib.hid (HVI.out.below hb9)
      replace HCI := Lib.hid (HCI.out.below hb9)
      replace HX := Lib.hid (HX.out.below hb9)
      replace HYI := Lib.hid (HYI.out.below hb9)
      replace HUI := Lib.hid (HUI.out.below hb9)
      replace HB := Lib.hid (HB.out.trans (hb9.mono HB.out.size))
      clear hb9
      go_wp2_with fail
      with_reducible refine (rSameKey37_any 0 _ _ _ _ _ _ rows owners (comL q) _ HR.out HO.out HUI.out HR.out HO.out HCI.out).mono ?_
      rintro e w10 ⟨rfl, hb10⟩
      replace c0 := below_cell hb10 c0
      replace c1 := below_cell hb10 c1
      replace k0_ := below_cell hb10 k0_
      replace k1_ := below_cell hb10 k1_
      replace k2_ := below_cell hb10 k2_
      replace k3_ := below_cell hb10 k3_
      replace j0_ := below_cell hb10 j0_
      replace j1_ := below_cell hb10 j1_
      replace j2_ := below_cell hb10 j2_
      replace j3_ := below_cell hb10 j3_
      replace HG := Lib.hid (HG.out.below hb10)
      replace HR := Lib.hid (HR.out.below hb10)
      replace HO := Lib.hid (HO.out.below hb10)
      replace HK := Lib.hid (HK.out.below hb10)
      replace HD := Lib.hid (HD.out.below hb10)
      replace HC := Lib.hid (HC.out.below hb10)
      replace HVI := Lib.hid (HVI.out.below hb10)
      replace HCI := Lib.hid (HCI.out.below hb10)
      replace HX := Lib.hid (HX.out.below hb10)
      replace HYI := Lib.hid (HYI.out.below hb10)
      replace HUI := Lib.hid (HUI.out.below hb10)
      replace HB := Lib.hid (HB.out.trans (hb10.mono HB.out.size))
      clear hb10
      by_cases hq2 : q.length < 2
      · have d1 : decide ((q.length : Int) < 2) = true := decide_eq_true (by omega)
        have d2 : decide (q.length < 2) = true := decide_eq_true hq2
        go_wp2_with fail
        go_ret
        exact ⟨rfl, HB.out⟩
      have d1 : decide ((q.length : Int) < 2) = false := decide_eq_false (by omega)
      have d2 : decide (q.length < 2) = false := decide_eq_false hq2
      go_wp2_with fail
      clear d1 d2
      have hqf := HQF.out
      have hspl := fun j h9 => split_all (rows := rows) (q := q) (j := j) (by omega) hqf h9
      have hCM := comL_com hqn2.out hqf
      have h1ne : q.take 1 ≠ [] := fun h9 => by have h8 := congrArg List.length h9; rw [List.length_take, List.length_nil] at h8; omega
      have h2ne : q.drop 1 ≠ [] := fun h9 => by have h8 := congrArg List.length h9; rw [List.length_drop, List.length_nil] at h8; omega
      have HPR : Hid (colsQ rows ≤ 64) := Lib.hid ((progE_ok HQP.out).cols_le)
      have hC1 := comL_com h1ne (fun d h9 => hqf d (List.mem_of_mem_take h9))
      have hC2 := comL_com h2ne (fun d h9 => hqf d (List.mem_of_mem_drop h9))
      have q1 := HSELF.out cl (fun c h9 => h9) (q.take 1) (fun d h9 => List.mem_of_mem_take h9)
      have q2 := HSELF.out cl (fun c h9 => h9) (q.drop 1) (fun d h9 => List.mem_of_mem_drop h9)
      have e1 : quE rows owners keys (q.take 1) cl = 0 := quE_of HQP.out HKO.out (by rw [List.length_take]; omega) (by omega) (ord_sub HORD.out ((List.take_sublist 1 q).trans HSUB.out)) (by rw [q1]; exact h1ne)
      have e2 : quE rows owners keys (q.drop 1) cl = 0 := quE_of HQP.out HKO.out (by rw [List.length_drop]; have := HQ5.out; omega) (by omega) (ord_sub HORD.out ((List.drop_sublist 1 q).trans HSUB.out)) (by rw [q2]; exact h2ne)
      obtain ⟨xb, xo, rfl⟩ : ∃ b o, xa = some ⟨b, o, none⟩ := by
        obtain ⟨b, o, e9, -⟩ := HX.out.at (k := 0) (by omega)
        exact ⟨b, o, e9⟩
      have hxc : q.length ≤ xc := by
        obtain ⟨_, _, e9, h9, -⟩ := HX.out
        cases e9; exact h9
      have ht1 : (q.take 1).length = 1 := by rw [List.length_take]; omega
      have ht2 : (q.drop 1).length = q.length - 1 := List.length_drop
      have hx9 : 1 ≤ xc := by omega
      have hx8 : 1 ≤ q.length := by omega
      have hx7 : q.length ≤ xc - 1 + 1 := by omega
      have HL1 : Hid (∀ W, Below w10.heap.size w10 W → Calls Tryz.prog 31 #[.agg #[.slice a1 rows.length k1, .slice a2 owners.length k2], .slice a3 keys.length k3, .slice (some ⟨xb, xo, none⟩) 1 xc, .slice a5 cl.length k5] W fun r w' => ∃ u, r = .returned u ∧ QuK (.slice a1 rows.length k1) (.slice a2 owners.length k2) 1 (comL (q.take 1)) u w' ∧ Below W.heap.size W w') := Lib.hid (fun W h9 => by
        have h7 := qualified_ok _ _ _ _ _ rows owners keys (q.take 1) vq cl W (HG.out.below h9) (HR.out.below h9) (HO.out.below h9) (HK.out.below h9) ((HX.out.take1 hx8 xc hx9).below h9) (HC.out.below h9) e1 q1
        rw [ht1] at h7
        exact h7)
      have HL2 : Hid (∀ w0 W, Below w10.heap.size w10 w0 → Below w0.heap.size w0 W → Calls Tryz.prog 31 #[.agg #[.slice a1 rows.length k1, .slice a2 owners.length k2], .slice a3 keys.length k3, .slice (some ⟨xb, xo + 3, none⟩) (q.length - 1) (xc - 1), .slice a5 cl.length k5] W fun r w' => ∃ u, r = .returned u ∧ QuK (.slice a1 rows.length k1) (.slice a2 owners.length k2) (q.length - 1) (comL (q.drop 1)) u w' ∧ Below W.heap.size W w') := Lib.hid (fun w0 W h8 h9 => by
        have h7 := qualified_ok _ _ _ _ _ rows owners keys (q.drop 1) _ cl W ((HG.out.below h8).below h9) ((HR.out.below h8).below h9) ((HO.out.below h8).below h9) ((HK.out.below h8).below h9) (((HX.out.drop1 hx8 (xc - 1) hx7).below h8).below h9) ((HC.out.below h8).below h9) e2 q2
        rw [ht2] at h7
        exact h7)
      have HPZ : Hid (∀ z ∈ comL (q.take 1), z ≠ 0) := Lib.hid (fun z h9 => by have := (hC1.1 z h9).lo; omega)
      have HPZ2 : Hid (∀ z ∈ comL (q.drop 1), z ≠ 0) := Lib.hid (fun z h9 => by have := (hC2.1 z h9).lo; omega)
      have HCMS := Lib.hid (And.intro hCM (And.intro hC1 hC2))
      have HQL : Hid (∀ W, Below w10.heap.size w10 W → _) := HL1
      have HXC := Lib.hid hxc
      have HQ2 := Lib.hid hq2
      clear ht1 ht2 hx9 hx8 hx7 hqf hCM h1ne h2ne hC1 hC2 q1 q2 e1 e2
      have HQD0 := Lib.hid (show q.take 1 = q.take 1 ∧ q.drop 1 = q.drop 1 from ⟨rfl, rfl⟩)
      generalize hqt : q.take 1 = qt at *
      generalize hqd : q.drop 1 = qd at *
      have HQT := Lib.hid hqt
      have HQD := Lib.hid hqd
      have HSPL := Lib.hid hspl
      clear hspl
      clear HQD0 hqt hqd
      have hx5 : ¬ xc = 1 := by omega
      have hx1 : 1 ≤ xc := by omega
      have hx2 : (1 : Int) ≤ (xc : Int) := by omega
      have hx3 : (1 : Int) ≤ (q.length : Int) := by omega
      have hx4 : 1 ≤ q.length := by omega
      refine wp_region_flowsG (by kernel_rfl) (by kernel_rfl) (by kernel_rfl) (by kernel_rfl) (fun done v W => FOt20 w10 (w.heap.size) (xb) (xo) (q.length) (xc) (.slice a1 rows.length k1) (.slice a2 owners.length k2) (.slice a3 keys.length k3) (.slice a5 cl.length k5) (1) (qt) done v W) (fun v => ?_) ?_ (fun v W h => ?_)
      · exact ⟨(Below.refl _ _).drew, (fun h => by cases h), (fun h => by cases h), (fun h => by cases h), (fun h => by cases h), (fun h => by cases h), (fun h => by cases h), (fun h => by cases h), (fun h => by cases h), (fun h => by cases h), (fun h => by cases h), (fun h => by cases h), (fun h => by cases h), KBx.nil _ _ _ _ _ _⟩
      · refine ⟨?_, ?_, ?_, ?_, ?_, ?_, ?_, ?_, ?_, ?_, ?_, ?_, ?_, ?_, trivial⟩
        · intro done v W A h hd hp hu hA hB hdf
          have e0 : A.tmps[4]?.getD undef = .pointer (some ⟨w.heap.size, 0, none⟩) := hB 4 rfl
          have y0_ := below_cell h.b c0
          have y1_ := below_cell h.b c1
          clear hA hB hp hu hdf
          go_simp
          exact ⟨_, rfl, { h with f0 := (fun _ => rfl) }⟩
        · intro done v W A h hd hp hu hA hB hdf
          have e0 : A.tmps[1]?.getD undef = .slice a3 keys.length k3 := hB 1 rfl
          clear hA hB hp hu hdf
          go_simp
          exact ⟨_, rfl, { h with f1 := (fun _ => rfl) }⟩
        · intro done v W A h hd hp hu hA hB hdf
          have e0 : A.tmps[12]?.getD undef = .slice (some ⟨xb, xo, none⟩) q.length xc := hB 12 rfl
          clear hA hB hp hu hdf
          go_simp
          exact ⟨_, rfl, { h with f2 := (fun _ => rfl) }⟩
        · intro done v W A h hd hp hu hA hB hdf
          have hd2 : done 2 = true := hp 2 rfl
          have e0 := (hA 2 114 rfl hd2).trans (h.f2 hd2)
          clear hA hB hp hu hdf
          go_simp
          exact ⟨_, rfl, { h with f3 := (fun _ => rfl) }⟩
        · intro done v W A h hd hp hu hA hB hdf
          have e0 : A.tmps[3]?.getD undef = .slice a5 cl.length k5 := hB 3 rfl
          clear hA hB hp hu hdf
          go_simp
          exact ⟨_, rfl, { h with f4 := (fun _ => rfl) }⟩
        · intro done v W A h hd hp hu hA hB hdf
          have n6_5 : done 6 = false := flow_not (fun hj => hu 6 5 rfl (hj)) hd
          have n7_5 : done 7 = false := flow_not (fun hj => hu 6 5 rfl (hu 7 6 rfl (hj))) hd
          have n8_5 : done 8 = false := flow_not (fun hj => hu 6 5 rfl (hu 8 6 rfl (hj))) hd
          have n9_5 : done 9 = false := flow_not (fun hj => hu 6 5 rfl (hu 9 6 rfl (hj))) hd
          have n11_5 : done 11 = false := flow_not (fun hj => hu 11 5 rfl (hj)) hd
          have n13_5 : done 13 = false := flow_not (fun hj => hu 13 5 rfl (hj)) hd
          have hd0 : done 0 = true := hp 0 rfl
          have hd1 : done 1 = true := hp 1 rfl
          have hd3 : done 3 = true := hp 3 rfl
          have hd4 : done 4 = true := hp 4 rfl
          have e0 := (hA 0 112 rfl hd0).trans (h.f0 hd0)
          have e1 := (hA 1 113 rfl hd1).trans (h.f1 hd1)
          have e2 := (hA 3 115 rfl hd3).trans (h.f3 hd3)
          have e3 := (hA 4 116 rfl hd4).trans (h.f4 hd4)
          clear hA hB hp hu hdf
          go_simp
          with_reducible refine (HQL.out W h.b).mono ?_
          rintro e wq ⟨u, rfl, hn, hb⟩
          exact ⟨_, rfl, { h with b := h.b.trans (hb.mono h.b.size), f5 := (fun _ => hn), f6 := (fun hj => absurd (hj.symm.trans n6_5) (by decide)), f7 := (fun hj => absurd (hj.symm.trans n7_5) (by decide)), f8 := (fun hj => absurd (hj.symm.trans n8_5) (by decide)), f9 := (fun hj => absurd (hj.symm.trans n9_5) (by decide)), f11 := (fun hj => absurd (hj.symm.trans n11_5) (by decide)), f13 := (fun hj => absurd (hj.symm.trans n13_5) (by decide)), bx := (h.bx.below hb) }⟩
        · intro done v W A h hd hp hu hA hB hdf
          have hd5 : done 5 = true := hp 5 rfl
          have e0 := hA 5 117 rfl hd5
          clear hA hB hp hu hdf
          go_simp
          exact ⟨_, rfl, { h with f6 := (fun _ => rfl) }⟩
        · intro done v W A h hd hp hu hA hB hdf
          have hd5 : done 5 = true := hu 6 5 rfl (hp 6 rfl)
          have hd6 : done 6 = true := hp 6 rfl
          obtain ⟨va, vc, za, zc, eD, hI⟩ := h.f5 hd5
          have e0 := (hA 6 111 rfl hd6).trans ((h.f6 hd6).trans eD)
          clear hA hB hp hu hdf
          go_simp
          exact ⟨_, rfl, { h with f7 := (fun _ => (by show _ = projV 0 (v 5); rw [eD]; rfl)) }⟩
        · intro done v W A h hd hp hu hA hB hdf
          have hd5 : done 5 = true := hu 6 5 rfl (hp 6 rfl)
          have hd6 : done 6 = true := hp 6 rfl
          obtain ⟨va, vc, za, zc, eD, hI⟩ := h.f5 hd5
          have e0 := (hA 6 111 rfl hd6).trans ((h.f6 hd6).trans eD)
          clear hA hB hp hu hdf
          go_simp
          exact ⟨_, rfl, { h with f8 := (fun _ => (by show _ = projV 1 (v 5); rw [eD]; rfl)) }⟩
        · intro done v W A h hd hp hu hA hB hdf
          have hd5 : done 5 = true := hu 6 5 rfl (hp 6 rfl)
          have hd6 : done 6 = true := hp 6 rfl
          obtain ⟨va, vc, za, zc, eD, hI⟩ := h.f5 hd5
          have e0 := (hA 6 111 rfl hd6).trans ((h.f6 hd6).trans eD)
          clear hA hB hp hu hdf
          go_simp
          exact ⟨_, rfl, { h with f9 := (fun _ => (by show _ = projV 2 (v 5); rw [eD]; rfl)) }⟩
        · intro done v W A h hd hp hu hA hB hdf
          have n12_10 : done 12 = false := flow_not (fun hj => hu 12 10 rfl (hj)) hd
          have hb := below_new W #[.int .i64 0, .slice none 0 0, .slice none 0 0, .slice none 0 0] 64
          have hn := h.b.size
          clear hA hB hp hu hdf
          go_simp
          exact ⟨_, rfl, { h with b := h.b.trans (hb.mono h.b.size), f5 := (fun h1 => (h.f5 h1).below hb), bx := (h.bx.alloc n12_10 hn) }⟩
        · intro done v W A h hd hp hu hA hB hdf
          have hd7 : done 7 = true := hp 7 rfl
          have e0 := hA 7 118 rfl hd7
          clear hA hB hp hu hdf
          go_simp
          exact ⟨_, rfl, { h with f11 := (fun _ => (h.f7 hd7)) }⟩
        · intro done v W A h hd hp hu hA hB hdf
          have hd5 : done 5 = true := hp 5 rfl
          have hd8 : done 8 = true := hp 8 rfl
          have hd10 : done 10 = true := hp 10 rfl
          have bx := h.bx
          rw [hd] at bx
          obtain ⟨B, eB, hn0, -, hS0, -⟩ := bx hd10
          have hS := hS0 rfl
          obtain ⟨va, vc, za, zc, eD, hI⟩ := h.f5 hd5
          have e8 : v 8 = .agg #[.int .i64 0, .slice a1 rows.length k1, .slice a2 owners.length k2, .slice za (comL (qt)).length zc] := (h.f8 hd8).trans (by rw [eD]; rfl)
          have e1 := (hA 10 19 rfl hd10).trans eB
          have e2 := (hA 8 119 rfl hd8).trans e8
          have u0 := row_cell hS (k := 0) (v := .int .i64 0) rfl
          have u1 := row_cell hS (k := 1) (v := .slice none 0 0) rfl
          have u2 := row_cell hS (k := 2) (v := .slice none 0 0) rfl
          have u3 := row_cell hS (k := 3) (v := .slice none 0 0) rfl
          have g0 := row_free hS 0
          have g1 := row_free hS 1
          have g2 := row_free hS 2
          have g3 := row_free hS 3
          have hbs := h.b
          have hI2 := ints_put4 hI HPZ.out hS (.int .i64 0) (.slice a1 rows.length k1) (.slice a2 owners.length k2) (.slice za (comL (qt)).length zc)
          have bx9 := KBx.store bx eB hd10 hI HPZ.out
          clear hA hB hp hu hdf
          go_simp
          exact ⟨undef, { h with b := (((hbs.setCell hn0 _).setCell hn0 _).setCell hn0 _).setCell hn0 _, f5 := (fun h1 => (h.f5 h1).put4 HPZ.out hS _ _ _ _), bx := (bx9) }⟩
        · intro done v W A h hd hp hu hA hB hdf
          have hd9 : done 9 = true := hp 9 rfl
          have e0 := hA 9 120 rfl hd9
          clear hA hB hp hu hdf
          go_simp
          exact ⟨_, rfl, { h with f13 := (fun _ => (h.f9 hd9)) }⟩
      simp only [putL, Act.put, Nat.reduceAdd, List.setIfInBounds_toArray, List.set_cons_zero, List.set_cons_succ]
      obtain ⟨va, vc, za, zc, eD, hI⟩ := h.f5 rfl
      rw [show v 11 = .slice va 1 vc from (h.f11 rfl).trans (by rw [eD]; rfl)]
      rw [show v 13 = .int .i64 0 from (h.f13 rfl).trans (by rw [eD]; rfl)]
      have hbr := h.b
      obtain ⟨B1, eB1, -, -, -, hkB1⟩ := h.bx rfl
      obtain ⟨zB1, yB1, rB1, iB1⟩ := hkB1 rfl
      rw [eB1]
      obtain ⟨w11, rfl⟩ : ∃ x, x = W := ⟨_, rfl⟩
      have n1_ := row_cell rB1 (k := 3) rfl
      have HIB1 := Lib.hid iB1
      clear h eD hI eB1 hkB1 rB1 iB1
      have HQL2 : Hid (∀ W, Below w11.heap.size w11 W → Calls Tryz.prog 31 #[.agg #[.slice a1 rows.length k1, .slice a2 owners.length k2], .slice a3 keys.length k3, .slice (some ⟨xb, xo + 3, none⟩) (q.length - 1) (xc - 1), .slice a5 cl.length k5] W fun r w' => ∃ u, r = .returned u ∧ QuK (.slice a1 rows.length k1) (.slice a2 owners.length k2) (q.length - 1) (comL qd) u w' ∧ Below W.heap.size W w') := Lib.hid (fun W h9 => HL2.out w11 W hbr h9)
      clear HQL HL1 HPZ
      have HQL := HQL2
      have HPZ := HPZ2
      replace c0 := below_cell hbr c0
      replace c1 := below_cell hbr c1
      replace k0_ := below_cell hbr k0_
      replace k1_ := below_cell hbr k1_
      replace k2_ := below_cell hbr k2_
      replace k3_ := below_cell hbr k3_
      replace j0_ := below_cell hbr j0_
      replace j1_ := below_cell hbr j1_
      replace j2_ := below_cell hbr j2_
      replace j3_ := below_cell hbr j3_
      replace HG := Lib.hid (HG.out.below hbr)
      replace HR := Lib.hid (HR.out.below hbr)
      replace HO := Lib.hid (HO.out.below hbr)
      replace HK := Lib.hid (HK.out.below hbr)
      replace HD := Lib.hid (HD.out.below hbr)
      replace HC := Lib.hid (HC.out.below hbr)
      replace HVI := Lib.hid (HVI.out.below hbr)
      replace HCI := Lib.hid (HCI.out.below hbr)
      replace HX := Lib.hid (HX.out.below hbr)
      replace HYI := Lib.hid (HYI.out.below hbr)
      replace HUI := Lib.hid (HUI.out.below hbr)
      replace HB := Lib.hid (HB.out.trans (hbr.mono HB.out.size))
      clear hbr
      go_wp2_with fail
      refine wp_region_flowsG (by kernel_rfl) (by kernel_rfl) (by kernel_rfl) (by kernel_rfl) (fun done v W => FOt21 w11 (w.heap.size) (xb) (xo) (q.length) (xc) (.slice a1 rows.length k1) (.slice a2 owners.length k2) (.slice a3 keys.length k3) (.slice a5 cl.length k5) ((q.length - 1)) (qd) done v W) (fun v => ?_) ?_ (fun v W h => ?_)
      · exact ⟨(Below.refl _ _).drew, (fun h => by cases h), (fun h => by cases h), (fun h => by cases h), (fun h => by cases h), (fun h => by cases h), (fun h => by cases h), (fun h => by cases h), (fun h => by cases h), (fun h => by cases h), (fun h => by cases h), (fun h => by cases h), (fun h => by cases h), KBx.nil _ _ _ _ _ _⟩
      · refine ⟨?_, ?_, ?_, ?_, ?_, ?_, ?_, ?_, ?_, ?_, ?_, ?_, ?_, ?_, trivial⟩
        · intro done v W A h hd hp hu hA hB hdf
          have e0 : A.tmps[4]?.getD undef = .pointer (some ⟨w.heap.size, 0, none⟩) := hB 4 rfl
          have y0_ := below_cell h.b c0
          have y1_ := below_cell h.b c1
          clear hA hB hp hu hdf
          go_simp
          exact ⟨_, rfl, { h with f0 := (fun _ => rfl) }⟩
        · intro done v W A h hd hp hu hA hB hdf
          have e0 : A.tmps[1]?.getD undef = .slice a3 keys.length k3 := hB 1 rfl
          clear hA hB hp hu hdf
          go_simp
          exact ⟨_, rfl, { h with f1 := (fun _ => rfl) }⟩
        · intro done v W A h hd hp hu hA hB hdf
          have e0 : A.tmps[12]?.getD undef = .slice (some ⟨xb, xo, none⟩) q.length xc := hB 12 rfl
          clear hA hB hp hu hdf
          go_simp
          exact ⟨_, rfl, { h with f2 := (fun _ => rfl) }⟩
        · intro done v W A h hd hp hu hA hB hdf
          have hd2 : done 2 = true := hp 2 rfl
          have e0 := (hA 2 124 rfl hd2).trans (h.f2 hd2)
          clear hA hB hp hu hdf
          go_simp
          exact ⟨_, rfl, { h with f3 := (fun _ => rfl) }⟩
        · intro done v W A h hd hp hu hA hB hdf
          have e0 : A.tmps[3]?.getD undef = .slice a5 cl.length k5 := hB 3 rfl
          clear hA hB hp hu hdf
          go_simp
          exact ⟨_, rfl, { h with f4 := (fun _ => rfl) }⟩
        · intro done v W A h hd hp hu hA hB hdf
          have n6_5 : done 6 = false := flow_not (fun hj => hu 6 5 rfl (hj)) hd
          have n7_5 : done 7 = false := flow_not (fun hj => hu 6 5 rfl (hu 7 6 rfl (hj))) hd
          have n8_5 : done 8 = false := flow_not (fun hj => hu 6 5 rfl (hu 8 6 rfl (hj))) hd
          have n9_5 : done 9 = false := flow_not (fun hj => hu 6 5 rfl (hu 9 6 rfl (hj))) hd
          have n11_5 : done 11 = false := flow_not (fun hj => hu 11 5 rfl (hj)) hd
          have n13_5 : done 13 = false := flow_not (fun hj => hu 13 5 rfl (hj)) hd
          have hd0 : done 0 = true := hp 0 rfl
          have hd1 : done 1 = true := hp 1 rfl
          have hd3 : done 3 = true := hp 3 rfl
          have hd4 : done 4 = true := hp 4 rfl
          have e0 := (hA 0 122 rfl hd0).trans (h.f0 hd0)
          have e1 := (hA 1 123 rfl hd1).trans (h.f1 hd1)
          have e2 := (hA 3 125 rfl hd3).trans (h.f3 hd3)
          have e3 := (hA 4 126 rfl hd4).trans (h.f4 hd4)
          clear hA hB hp hu hdf
          go_simp
          with_reducible refine (HQL.out W h.b).mono ?_
          rintro e wq ⟨u, rfl, hn, hb⟩
          exact ⟨_, rfl, { h with b := h.b.trans (hb.mono h.b.size), f5 := (fun _ => hn), f6 := (fun hj => absurd (hj.symm.trans n6_5) (by decide)), f7 := (fun hj => absurd (hj.symm.trans n7_5) (by decide)), f8 := (fun hj => absurd (hj.symm.trans n8_5) (by decide)), f9 := (fun hj => absurd (hj.symm.trans n9_5) (by decide)), f11 := (fun hj => absurd (hj.symm.trans n11_5) (by decide)), f13 := (fun hj => absurd (hj.symm.trans n13_5) (by decide)), bx := (h.bx.below hb) }⟩
        · intro done v W A h hd hp hu hA hB hdf
          have hd5 : done 5 = true := hp 5 rfl
          have e0 := hA 5 127 rfl hd5
          clear hA hB hp hu hdf
          go_simp
          exact ⟨_, rfl, { h with f6 := (fun _ => rfl) }⟩
        · intro done v W A h hd hp hu hA hB hdf
          have hd5 : done 5 = true := hu 6 5 rfl (hp 6 rfl)
          have hd6 : done 6 = true := hp 6 rfl
          obtain ⟨va, vc, za, zc, eD, hI⟩ := h.f5 hd5
          have e0 := (hA 6 121 rfl hd6).trans ((h.f6 hd6).trans eD)
          clear hA hB hp hu hdf
          go_simp
          exact ⟨_, rfl, { h with f7 := (fun _ => (by show _ = projV 0 (v 5); rw [eD]; rfl)) }⟩
        · intro done v W A h hd hp hu hA hB hdf
          have hd5 : done 5 = true := hu 6 5 rfl (hp 6 rfl)
          have hd6 : done 6 = true := hp 6 rfl
          obtain ⟨va, vc, za, zc, eD, hI⟩ := h.f5 hd5
          have e0 := (hA 6 121 rfl hd6).trans ((h.f6 hd6).trans eD)
          clear hA hB hp hu hdf
          go_simp
          exact ⟨_, rfl, { h with f8 := (fun _ => (by show _ = projV 1 (v 5); rw [eD]; rfl)) }⟩
        · intro done v W A h hd hp hu hA hB hdf
          have hd5 : done 5 = true := hu 6 5 rfl (hp 6 rfl)
          have hd6 : done 6 = true := hp 6 rfl
          obtain ⟨va, vc, za, zc, eD, hI⟩ := h.f5 hd5
          have e0 := (hA 6 121 rfl hd6).trans ((h.f6 hd6).trans eD)
          clear hA hB hp hu hdf
          go_simp
          exact ⟨_, rfl, { h with f9 := (fun _ => (by show _ = projV 2 (v 5); rw [eD]; rfl)) }⟩
        · intro done v W A h hd hp hu hA hB hdf
          have n12_10 : done 12 = false := flow_not (fun hj => hu 12 10 rfl (hj)) hd
          have hb := below_new W #[.int .i64 0, .slice none 0 0, .slice none 0 0, .slice none 0 0] 64
          have hn := h.b.size
          clear hA hB hp hu hdf
          go_simp
          exact ⟨_, rfl, { h with b := h.b.trans (hb.mono h.b.size), f5 := (fun h1 => (h.f5 h1).below hb), bx := (h.bx.alloc n12_10 hn) }⟩
        · intro done v W A h hd hp hu hA hB hdf
          have hd7 : done 7 = true := hp 7 rfl
          have e0 := hA 7 128 rfl hd7
          clear hA hB hp hu hdf
          go_simp
          exact ⟨_, rfl, { h with f11 := (fun _ => (h.f7 hd7)) }⟩
        · intro done v W A h hd hp hu hA hB hdf
          have hd5 : done 5 = true := hp 5 rfl
          have hd8 : done 8 = true := hp 8 rfl
          have hd10 : done 10 = true := hp 10 rfl
          have bx := h.bx
          rw [hd] at bx
          obtain ⟨B, eB, hn0, -, hS0, -⟩ := bx hd10
          have hS := hS0 rfl
          obtain ⟨va, vc, za, zc, eD, hI⟩ := h.f5 hd5
          have e8 : v 8 = .agg #[.int .i64 0, .slice a1 rows.length k1, .slice a2 owners.length k2, .slice za (comL (qd)).length zc] := (h.f8 hd8).trans (by rw [eD]; rfl)
          have e1 := (hA 10 22 rfl hd10).trans eB
          have e2 := (hA 8 129 rfl hd8).trans e8
          have u0 := row_cell hS (k := 0) (v := .int .i64 0) rfl
          have u1 := row_cell hS (k := 1) (v := .slice none 0 0) rfl
          have u2 := row_cell hS (k := 2) (v := .slice none 0 0) rfl
          have u3 := row_cell hS (k := 3) (v := .slice none 0 0) rfl
          have g0 := row_free hS 0
          have g1 := row_free hS 1
          have g2 := row_free hS 2
          have g3 := row_free hS 3
          have hbs := h.b
          have hI2 := ints_put4 hI HPZ.out hS (.int .i64 0) (.slice a1 rows.length k1) (.slice a2 owners.length k2) (.slice za (comL (qd)).length zc)
          have bx9 := KBx.store bx eB hd10 hI HPZ.out
          clear hA hB hp hu hdf
          go_simp
          exact ⟨undef, { h with b := (((hbs.setCell hn0 _).setCell hn0 _).setCell hn0 _).setCell hn0 _, f5 := (fun h1 => (h.f5 h1).put4 HPZ.out hS _ _ _ _), bx := (bx9) }⟩
        · intro done v W A h hd hp hu hA hB hdf
          have hd9 : done 9 = true := hp 9 rfl
          have e0 := hA 9 130 rfl hd9
          clear hA hB hp hu hdf
          go_simp
          exact ⟨_, rfl, { h with f13 := (fun _ => (h.f9 hd9)) }⟩
      simp only [putL, Act.put, Nat.reduceAdd, List.setIfInBounds_toArray, List.set_cons_zero, List.set_cons_succ]
      obtain ⟨va, vc, za, zc, eD, hI⟩ := h.f5 rfl
      rw [show v 11 = .slice va (q.length - 1) vc from (h.f11 rfl).trans (by rw [eD]; rfl)]
      rw [show v 13 = .int .i64 0 from (h.f13 rfl).trans (by rw [eD]; rfl)]
      have hbr := h.b
      obtain ⟨B2, eB2, -, -, -, hkB2⟩ := h.bx rfl
      obtain ⟨zB2, yB2, rB2, iB2⟩ := hkB2 rfl
      rw [eB2]
      obtain ⟨w12, rfl⟩ : ∃ x, x = W := ⟨_, rfl⟩
      have n2_ := row_cell rB2 (k := 3) rfl
      have HIB2 := Lib.hid iB2
      clear h eD hI eB2 hkB2 rB2 iB2
      replace c0 := below_cell hbr c0
      replace c1 := below_cell hbr c1
      replace k0_ := below_cell hbr k0_
      replace k1_ := below_cell hbr k1_
      replace k2_ := below_cell hbr k2_
      replace k3_ := below_cell hbr k3_
      replace j0_ := below_cell hbr j0_
      replace j1_ := below_cell hbr j1_
      replace j2_ := below_cell hbr j2_
      replace j3_ := below_cell hbr j3_
      replace n1_ := below_cell hbr n1_
      replace HG := Lib.hid (HG.out.below hbr)
      replace HR := Lib.hid (HR.out.below hbr)
      replace HO := Lib.hid (HO.out.below hbr)
      replace HK := Lib.hid (HK.out.below hbr)
      replace HD := Lib.hid (HD.out.below hbr)
      replace HC := Lib.hid (HC.out.below hbr)
      replace HVI := Lib.hid (HVI.out.below hbr)
      replace HCI := Lib.hid (HCI.out.below hbr)
      replace HX := Lib.hid (HX.out.below hbr)
      replace HYI := Lib.hid (HYI.out.below hbr)
      replace HUI := Lib.hid (HUI.out.below hbr)
      replace HIB1 := Lib.hid (HIB1.out.below hbr)
      replace HB := Lib.hid (HB.out.trans (hbr.mono HB.out.size))
      clear hbr
      clear HQL HL2 HQL2 HPZ HPZ2
      obtain ⟨⟨_, hm1⟩, ⟨hg2, hm2⟩, ⟨hg3, hm3⟩⟩ := HCMS.out
      rw [hm2] at n1_ HIB1
      rw [hm3] at n2_ HIB2
      rw [hm1] at k3_ HCI
      have HG2 := Lib.hid hg2
      have HG3 := Lib.hid hg3
      have HM123 := Lib.hid (And.intro hm1 (And.intro hm2 hm3))
      clear hm1 hm2 hm3 hg2 hg3
      go_wp2_with fail
      go_loopw [158] (fun i Y => ∃ k : Nat, k ≤ colsQ rows ∧ i = .int .i64 k ∧ Below w12.heap.size w12 Y) (fun i _ => colsQ rows - (intOf i).toNat)
      case atStart => exact ⟨0, Nat.zero_le _, rfl, Below.refl _ _⟩
      case round =>
        obtain ⟨k, hkl, rfl, hb⟩ := hrel
        by_cases hlt : k < colsQ rows
        · have g1 : k < (comL qt).length := by rw [HM123.out.2.1]; exact hlt
          have g2 : k < (comL qd).length := by rw [HM123.out.2.2]; exact hlt
          have g3 : k < (comL q).length := by rw [HM123.out.1]; exact hlt
          obtain ⟨b1, o1, ea, qa_⟩ := ints_at (HIB1.out.below hb) g1
          subst ea
          obtain ⟨b2, o2, ea, qz_⟩ := ints_at (HIB2.out.below hb) g2
          subst ea
          obtain ⟨b3, o3, ea, qm_⟩ := ints_at (HCI.out.below hb) g3
          subst ea
          have hs := HSPL.out k hlt
          have ha := HG2.out _ (List.getElem_mem g1)
          have hz := HG3.out _ (List.getElem_mem g2)
          rw [nth_at g1, nth_at g2, nth_at g3] at hs
          rw [hs] at qm_
          generalize (comL qt)[k] = a at *
          generalize (comL qd)[k] = z at *
          have HMU0 : Hid (∀ W, Calls Tryz.prog 40 #[.int .i64 a, .int .i64 z] W fun r w' => r = .returned (.tuple #[.int .i64 (a * z % 2147483579), .int .i64 0]) ∧ Below W.heap.size W w') := Lib.hid (fun W => (mul_yes a z W ha hz).mono fun r w' h => ⟨h.1, h.2 ▸ Below.refl _ _⟩)
          obtain ⟨m, hm⟩ : ∃ m, m = a * z % 2147483579 := ⟨_, rfl⟩
          rw [← hm] at HMU0 qm_
          have HMU := HMU0
          have m1_ := below_cell hb n1_
          have m2_ := below_cell hb n2_
          have m3_ := below_cell hb k3_
          have HBK := Lib.hid hb
          have HLT := Lib.hid hlt
          have HCL := Lib.hid (HPR.out)
          have hc64 := HPR.out
          have i0 : (0 : Int) ≤ (k : Int) := Int.natCast_nonneg k
          have i1 : (k : Int) < (colsQ rows : Int) := by omega
          clear hs ha hz hm g1 g2 g3 hb
          go_wp2_with fail
          refine wp_region_flowsG (by kernel_rfl) (by kernel_rfl) (by kernel_rfl) (by kernel_rfl) (fun done v W => FOt27 wr (B1) (B2) (b1) (o1) (yB1) (b2) (o2) (yB2) ((colsQ rows)) (k) (a) (z) (m) done v W) (fun v => ?_) ?_ (fun v W h => ?_)
          · exact ⟨(Below.refl _ _).drew, (fun h => by cases h), (fun h => by cases h), (fun h => by cases h), (fun h => by cases h), (fun h => by cases h), (fun h => by cases h), (fun h => by cases h), (fun h => by cases h), (fun h => by cases h), (fun h => by cases h), (fun h => by cases h), (fun h => by cases h), (fun h => by cases h), (fun h => by cases h), (fun h => by cases h), (fun h => by cases h)⟩
          · refine ⟨?_, ?_, ?_, ?_, ?_, ?_, ?_, ?_, ?_, ?_, ?_, ?_, ?_, ?_, ?_, ?_, trivial⟩
            · intro done v W A h hd hp hu hA hB hdf
              have e0 : A.tmps[19]?.getD undef = .pointer (some ⟨B1, 0, none⟩) := hB 19 rfl
              clear hA hB hp hu hdf
              go_simp
              exact ⟨_, rfl, { h with f0 := (fun _ => rfl) }⟩
            · intro done v W A h hd hp hu hA hB hdf
              have hd0 : done 0 = true := hp 0 rfl
              have e0 := (hA 0 162 rfl hd0).trans (h.f0 hd0)
              have y0_ := below_cell h.b m1_
              clear hA hB hp hu hdf
              go_simp
              exact ⟨_, rfl, { h with f1 := (fun _ => rfl) }⟩
            · intro done v W A h hd hp hu hA hB hdf
              have e0 : A.tmps[24]?.getD undef = .int .i64 (k : Int) := hB 24 rfl
              clear hA hB hp hu hdf
              go_simp
              exact ⟨_, rfl, { h with f2 := (fun _ => rfl) }⟩
            · intro done v W A h hd hp hu hA hB hdf
              have hd1 : done 1 = true := hp 1 rfl
              have hd2 : done 2 = true := hp 2 rfl
              have e0 := (hA 1 163 rfl hd1).trans (h.f1 hd1)
              have e1 := (hA 2 164 rfl hd2).trans (h.f2 hd2)
              clear hA hB hp hu hdf
              go_simp
              exact ⟨_, rfl, { h with f3 := (fun _ => rfl) }⟩
            · intro done v W A h hd hp hu hA hB hdf
              have hd3 : done 3 = true := hp 3 rfl
              have e0 := (hA 3 165 rfl hd3).trans (h.f3 hd3)
              have y0_ := below_cell h.b qa_
              clear hA hB hp hu hdf
              go_simp
              exact ⟨_, rfl, { h with f4 := (fun _ => rfl) }⟩
            · intro done v W A h hd hp hu hA hB hdf
              have e0 : A.tmps[22]?.getD undef = .pointer (some ⟨B2, 0, none⟩) := hB 22 rfl
              clear hA hB hp hu hdf
              go_simp
              exact ⟨_, rfl, { h with f5 := (fun _ => rfl) }⟩
            · intro done v W A h hd hp hu hA hB hdf
              have hd5 : done 5 = true := hp 5 rfl
              have e0 := (hA 5 167 rfl hd5).trans (h.f5 hd5)
              have y0_ := below_cell h.b m2_
              clear hA hB hp hu hdf
              go_simp
              exact ⟨_, rfl, { h with f6 := (fun _ => rfl) }⟩
            · intro done v W A h hd hp hu hA hB hdf
              have e0 : A.tmps[24]?.getD undef = .int .i64 (k : Int) := hB 24 rfl
              clear hA hB hp hu hdf
              go_simp
              exact ⟨_, rfl, { h with f7 := (fun _ => rfl) }⟩
            · intro done v W A h hd hp hu hA hB hdf
              have hd6 : done 6 = true := hp 6 rfl
              have hd7 : done 7 = true := hp 7 rfl
              have e0 := (hA 6 168 rfl hd6).trans (h.f6 hd6)
              have e1 := (hA 7 169 rfl hd7).trans (h.f7 hd7)
              clear hA hB hp hu hdf
              go_simp
              exact ⟨_, rfl, { h with f8 := (fun _ => rfl) }⟩
            · intro done v W A h hd hp hu hA hB hdf
              have hd8 : done 8 = true := hp 8 rfl
              have e0 := (hA 8 170 rfl hd8).trans (h.f8 hd8)
              have y0_ := below_cell h.b qz_
              clear hA hB hp hu hdf
              go_simp
              exact ⟨_, rfl, { h with f9 := (fun _ => rfl) }⟩
            · intro done v W A h hd hp hu hA hB hdf
              have hd4 : done 4 = true := hp 4 rfl
              have hd9 : done 9 = true := hp 9 rfl
              have e0 := (hA 4 166 rfl hd4).trans (h.f4 hd4)
              have e1 := (hA 9 171 rfl hd9).trans (h.f9 hd9)
              clear hA hB hp hu hdf
              go_simp
              with_reducible refine (HMU.out W).mono ?_
              rintro e wq ⟨rfl, hb⟩
              exact ⟨_, rfl, { h with b := h.b.trans (hb.mono h.b.size), f10 := (fun _ => rfl) }⟩
            · intro done v W A h hd hp hu hA hB hdf
              have hd10 : done 10 = true := hp 10 rfl
              have e0 := (hA 10 172 rfl hd10).trans (h.f10 hd10)
              clear hA hB hp hu hdf
              go_simp
              exact ⟨_, rfl, { h with f11 := (fun _ => rfl) }⟩
            · intro done v W A h hd hp hu hA hB hdf
              have hd11 : done 11 = true := hp 11 rfl
              have e0 := (hA 11 161 rfl hd11).trans (h.f11 hd11)
              clear hA hB hp hu hdf
              go_simp
              exact ⟨_, rfl, { h with f12 := (fun _ => rfl) }⟩
            · intro done v W A h hd hp hu hA hB hdf
              have hd11 : done 11 = true := hp 11 rfl
              have e0 := (hA 11 161 rfl hd11).trans (h.f11 hd11)
              clear hA hB hp hu hdf
              go_simp
              exact ⟨_, rfl, { h with f13 := (fun _ => rfl) }⟩
            · intro done v W A h hd hp hu hA hB hdf
              have hd12 : done 12 = true := hp 12 rfl
              have e0 := (hA 12 173 rfl hd12).trans (h.f12 hd12)
              clear hA hB hp hu hdf
              go_simp
              exact ⟨_, rfl, { h with f14 := (fun _ => rfl) }⟩
            · intro done v W A h hd hp hu hA hB hdf
              have hd13 : done 13 = true := hp 13 rfl
              have e0 := (hA 13 174 rfl hd13).trans (h.f13 hd13)
              clear hA hB hp hu hdf
              go_simp
              exact ⟨_, rfl, { h with f15 := (fun _ => rfl) }⟩
          simp only [putL, Act.put, Nat.reduceAdd, List.setIfInBounds_toArray, List.set_cons_zero, List.set_cons_succ]
          rw [h.f14 rfl]
          rw [h.f15 rfl]
          have hbr := h.b
          clear h
          have qm2 := below_cell hbr qm_
          have m4 := below_cell hbr m3_
          have HBZ := Lib.hid (HBK.out.trans (hbr.mono HBK.out.size))
          clear hbr
          go_wp2_with fail
          go_roundw
          case rel => exact ⟨k + 1, HLT.out, by go_num, HBZ.out⟩
          case measure =>
            have h9 := HLT.out
            simp [intOf]; omega
        · go_wp2_with fail
          go_ret
          exact ⟨rfl, HB.out.trans (hb.mono HB.out.size)⟩

set_option maxRecDepth 100000 in
theorem keygenOthers_all (rv ov kv dv cv : Value) (rows : List (List Int)) (owners keys : List Int) (l : List Dlg) (vs : DVals) (cl : List Cmp) (w : World) (hR : Rows2 w rv rows) (hO : Ints w ov owners) (hK : Ints w kv keys) (hD : Dlgs w dv l vs) (hC : Cmps w cv cl) (hG : Glob w) :
    Calls Tryz.prog 10 #[.agg #[rv, ov], kv, dv, cv] w fun r w' => r = .returned (.bool true) ∧ Below w.heap.size w w' :=
  keygenOthers_any rv ov kv dv cv rows owners keys l vs cl w hG hR hO hK hD hC

end Go.Proofs.YtggnipkfliompaaGreatDoor
