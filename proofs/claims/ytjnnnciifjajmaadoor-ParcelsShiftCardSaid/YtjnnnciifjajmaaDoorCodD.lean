/- Package codec: a list of integers is written, and Encode. -/
import Derived.Test.YtjnnnciifjajmaaDoorCodC
namespace Go.Proofs.YtjnnnciifjajmaaDoor
open Go.RowKit

theorem low_cell {w W : World} {base b o : Nat} {v : Value} (h : Below base w W) (hb : b < base) (hc : w.cell? ⟨b, o, none⟩ = some v) : W.cell? ⟨b, o, none⟩ = some v := by
  rw [h.cell (p := ⟨b, o, none⟩) hb]; exact hc
theorem onto_ne {W W' : World} {v v' : Value} (h : Onto W v W' v') {b : Nat} (hb : b < W.heap.size) (hne : v.ownBlock ≠ some b) : v'.ownBlock ≠ some b := fun e => by
  rcases h.2 with h2 | ⟨g, h2, hg⟩
  · exact hne (h2 ▸ e)
  · rw [h2] at e; injection e with e; omega
theorem boxed4 (W : World) (a b c d : Value) (t : TypeId) : ∃ W1, W1 = W.alloc (.cells #[a, b, c, d] t) ∧ Below W.heap.size W W1 ∧ W1.heap[W.heap.size]? = some (.cells #[a, b, c, d] t (0, 0)) :=
  ⟨_, rfl, (Below.refl _ _).alloc (Nat.le_refl _) _, World.alloc_heap_new W _⟩
theorem Wtr.low {B base : Nat} {w W : World} (h : Wtr B w) (hb : Below base w W) (hB : B + 1 < base) : Wtr B W := ⟨low_cell hb (by omega) h.int, low_cell hb (by omega) h.list, low_cell hb hB h.var⟩
theorem Wrote.post {base : Nat} {w : World} {v : Value} {ys zs : List Nat} {e : Ending} {w' : World} (h : Wrote base w v ys e w') (hz : ys = zs) : Wrote base w v zs e w' := hz ▸ h
theorem enc_list_0 (xs : List Nat) (l : Nat) : xs ++ [3] ++ num l = xs ++ (3 :: (num l ++ [])) := by rw [List.append_nil, List.append_assoc]; rfl
theorem enc_list_s (xs : List Nat) (l : Nat) (zs : List Int) {k : Nat} (h : k < zs.length) : xs ++ (3 :: (num l ++ (zs.take k).flatMap encI)) ++ encI zs[k] = xs ++ (3 :: (num l ++ (zs.take (k + 1)).flatMap encI)) := by
  rw [List.take_succ_eq_append_getElem h, List.flatMap_append, List.append_assoc, List.cons_append, List.append_assoc]
  simp
theorem enc_list_e (xs : List Nat) (zs : List Int) : xs ++ (3 :: (num zs.length ++ (zs.take zs.length).flatMap encI)) = xs ++ encL zs := by rw [List.take_length]; rfl
theorem enc_part_len {zs : List Int} (h : ∀ z ∈ zs, R64 z) (hl : zs.length ≤ 1000000) (k : Nat) : (3 :: (num zs.length ++ (zs.take k).flatMap encI)).length ≤ 11000011 := by
  rw [List.length_cons, List.length_append]
  have h1 := flat_len (zs.take k) (fun z hz => h z (List.mem_of_mem_take hz))
  have h2 := num_ten (u := zs.length) (by omega)
  have h3 : (zs.take k).length ≤ zs.length := List.length_take_le' _ _
  omega

set_option maxRecDepth 100000 in
set_option maxHeartbeats 600000 in
theorem write_list (B base : Nat) (v lv : Value) (xs : List Nat) (zs : List Int) (w0 w : World) (hV : Vals w0 lv zs) (h0 : Below w0.heap.size w0 w) (hz0 : w0.heap.size ≤ base) (hW : Wtr B w) (hB : B + 1 < base)
    (hown : w.ownsRow base 5 1 v xs.length (xs.map byteV)) (hbase : base ≤ w.heap.size) (hl : xs.length ≤ 1000) :
    Calls Tryd.prog 89 #[v, vList lv, .pointer (some ⟨B + 1, 0, none⟩)] w (Wrote base w v (xs ++ encL zs)) := by
  obtain ⟨a, cap, rfl, hcap, hlen, hr, hk⟩ := hV
  have HK := Lib.hid hk
  have HR := Lib.hid hr
  have HO := Lib.hid hown
  have HNE := Lib.hid (own_ne hown (.inl (Nat.le_refl w.heap.size)))
  clear hk hr hown
  have HL1 : Hid (zs.length < 18446744073709551616) := Lib.hid (by omega)
  have HL2 : Hid ((xs ++ [3]).length ≤ 8796093022208) := Lib.hid (by rw [List.length_append]; simp; omega)
  have hwl : IntKind.u64.wrap (zs.length : Int) = (zs.length : Int) := by rw [IntKind.wrap_u64]; omega
  unfold vList
  go_enter Tryd.func89, Tryd.ntmps89
  go_wp2_with fail
  go_region_held3 (fun w' => w'.cell? ⟨w.heap.size, 3, none⟩ = some (.slice a zs.length cap)) (first | go_keep | exact hq9 | exact hq) (first
    | (refine step_app_byte rfl _ _ rfl base _ xs _ rfl (own_keep HO.out (by repeat (first | exact Below.refl _ _ | refine Below.drew ?_ | refine Below.alloc ?_ (by simp) _))) (w.heap.size + 1) 1 3 rfl (by simp [go_sem, byteV]) (by omega) (by simp; omega) ?_; intro v8 w8 h8 o8; have hq : w8.cell? ⟨w.heap.size, 3, none⟩ = some (.slice a zs.length cap) := (onto_far o8 (by simp; omega) HNE.out 3).trans (by simp [go_sem]); have H8 : Hid (w8.ownsRow base 5 1 v8 (xs ++ [3]).length ((xs ++ [3]).map byteV)) := Lib.hid (by rw [List.length_append]; exact h8); have HB8 : Hid (base ≤ w8.heap.size) := Lib.hid (Nat.le_trans hbase (show w.heap.size ≤ w8.heap.size from Nat.le_trans (by simp; omega) o8.1.size)); have HN8 := Lib.hid (onto_ne o8 (b := w.heap.size) (by simp; omega) HNE.out); have HS8 : Hid (w.heap.size < w8.heap.size) := Lib.hid (Nat.lt_of_lt_of_le (by simp; omega) o8.1.size); have O8 := Lib.hid o8; clear h8 o8)
    | (go_simp; go_at_call 86; (with_reducible refine (numeral_any base _ (xs ++ [3]) zs.length _ H8.out HB8.out HL1.out HL2.out).mono ?_); rintro e w1 ⟨v9, rfl, h9, o9⟩; have hq9 := (onto_far o9 HS8.out HN8.out 3).trans hq; have H9 := Lib.hid h9; have O9 := Lib.hid o9; clear h9 o9))
  have hon : Onto w v w1 v9 := (Onto.below (by repeat (first | exact Below.refl _ _ | refine Below.drew ?_ | refine Below.alloc ?_ (by simp) _)) v).trans (O8.out.trans O9.out)
  have H9b : Hid (w1.ownsRow base 5 1 v9 (xs ++ (3 :: (num zs.length ++ (zs.take 0).flatMap encI))).length ((xs ++ (3 :: (num zs.length ++ (zs.take 0).flatMap encI))).map byteV)) := Lib.hid (enc_list_0 xs zs.length ▸ H9.out)
  clear O8 O9 H8 H9 HB8 HN8 HS8 HL1 HL2 hwl
  have HON := Lib.hid hon
  clear hon
  go_wp2_with fail
  clear hq9
  go_loopw [0, 19] (fun b i W => ∃ k : Nat, k ≤ zs.length ∧ i = .int .i64 k ∧ W.ownsRow base 5 1 b (xs ++ (3 :: (num zs.length ++ (zs.take k).flatMap encI))).length ((xs ++ (3 :: (num zs.length ++ (zs.take k).flatMap encI))).map byteV) ∧ Onto w v W b) (fun _ i _ => zs.length - (intOf i).toNat)
  case atStart => exact ⟨0, Nat.zero_le _, rfl, H9b.out, HON.out⟩
  case round =>
    clear H9b HON
    obtain ⟨k, hkl, rfl, hok, hon⟩ := hrel
    have hlow : Below base w wr := onto_below HO.out hon hbase
    have hwr := hW.low hlow hB
    have hbr : base ≤ wr.heap.size := Nat.le_trans hbase hon.1.size
    by_cases hlt : k < zs.length
    · obtain ⟨b, off, rfl, q1, q2, q3, q4⟩ := HK.out k hlt
      have hz := HR.out _ (List.getElem_mem hlt)
      have hbl : b < base := Nat.lt_of_lt_of_le (lt_of_cell q1) hz0
      have c1 := low_cell hlow hbl (below_cell h0 q1)
      have c2 := low_cell hlow hbl (below_cell h0 q2)
      have c3 := low_cell hlow hbl (below_cell h0 q3)
      have c4 := low_cell hlow hbl (below_cell h0 q4)
      have HEN := Lib.hid (enc_list_s xs zs.length zs hlt)
      have hpl : (xs ++ (3 :: (num zs.length ++ (zs.take k).flatMap encI))).length ≤ 1099511627776 := by
        have := enc_part_len HR.out hlen k
        rw [List.length_append]; omega
      have HPL := Lib.hid hpl
      have HOK := Lib.hid hok
      have HBR := Lib.hid hbr
      have HHON := Lib.hid hon
      generalize zs[k] = z at *
      clear q1 q2 q3 q4 hpl hok hon
      obtain ⟨hw1, hw2, hw3⟩ := hwr
      have hk2 : k < zs.length := hlt
      obtain ⟨W1, hW1, hbW, hxr⟩ := boxed4 wr (.int .i64 1) (.int .i64 z) (.string ⟨#[]⟩) (.slice none 0 0) 72
      have x0 : W1.cell? ⟨wr.heap.size, 0, none⟩ = some (.int .i64 1) := row_cell hxr rfl
      have x1 : W1.cell? ⟨wr.heap.size, 1, none⟩ = some (.int .i64 z) := row_cell hxr rfl
      have x2 : W1.cell? ⟨wr.heap.size, 2, none⟩ = some (.string ⟨#[]⟩) := row_cell hxr rfl
      have x3 : W1.cell? ⟨wr.heap.size, 3, none⟩ = some (.slice none 0 0) := row_cell hxr rfl
      have hbs1 : B + 1 < wr.heap.size := by omega
      have hsz : wr.heap.size < W1.heap.size := row_lt hxr
      have HS6 : Hid (∀ w6 v6, Onto W1.drew u0 w6 v6 → w6.cell? ⟨B + 1, 0, none⟩ = some (.pointer (some ⟨B, 0, none⟩)) ∧ w6.cell? ⟨B, 1, none⟩ = some (.func (.func 85) #[] #[]) ∧ w6.cell? ⟨wr.heap.size, 0, none⟩ = some (.int .i64 1) ∧ w6.cell? ⟨wr.heap.size, 1, none⟩ = some (.int .i64 z) ∧ w6.cell? ⟨wr.heap.size, 2, none⟩ = some (.string ⟨#[]⟩) ∧ w6.cell? ⟨wr.heap.size, 3, none⟩ = some (.slice none 0 0)) := Lib.hid (fun w6 v6 o => by
        have n1 := own_ne HOK.out (b := B + 1) (.inr hB)
        have n2 := own_ne HOK.out (b := B) (.inr (by omega))
        have n3 := own_ne HOK.out (b := wr.heap.size) (.inl (Nat.le_refl _))
        have s1 : B + 1 < W1.drew.heap.size := Nat.lt_of_lt_of_le hbs1 hbW.drew.size
        have s2 : B < W1.drew.heap.size := by omega
        have s3 : wr.heap.size < W1.drew.heap.size := hsz
        exact ⟨(onto_far o s1 n1 0).trans (below_cell hbW.drew hw3), (onto_far o s2 n2 1).trans (below_cell hbW.drew hw1), (onto_far o s3 n3 0).trans x0, (onto_far o s3 n3 1).trans x1, (onto_far o s3 n3 2).trans x2, (onto_far o s3 n3 3).trans x3⟩)
      have v1 := below_cell hbW hw1
      have v3 := below_cell hbW hw3
      have HKW := Lib.hid (own_keep HOK.out (hbW.drew))
      have HBW := Lib.hid (Nat.le_trans hbr hbW.drew.size)
      have HOW := Lib.hid ((Onto.below hbW.drew u0))
      clear hw1 hw2 hw3 hxr
      have HW1 := Lib.hid hW1
      clear hW1
      go_wp2_with fail
      rw [← HW1.out]
      clear c1 c2 c3 c4
      go_region_held3 (fun w' => w'.cell? ⟨B + 1, 0, none⟩ = some (.pointer (some ⟨B, 0, none⟩)) ∧ w'.cell? ⟨B, 1, none⟩ = some (.func (.func 85) #[] #[]) ∧ w'.cell? ⟨wr.heap.size, 0, none⟩ = some (.int .i64 1) ∧ w'.cell? ⟨wr.heap.size, 1, none⟩ = some (.int .i64 z) ∧ w'.cell? ⟨wr.heap.size, 2, none⟩ = some (.string ⟨#[]⟩) ∧ w'.cell? ⟨wr.heap.size, 3, none⟩ = some (.slice none 0 0)) (first | go_keep | exact ⟨v3, v1, x0, x1, x2, x3⟩ | exact hs6)
        (first
          | (go_at_call 85; (refine (write_int base _ _ z _ hz HKW.out HBW.out HPL.out).mono ?_); rintro e w6 ⟨v6, rfl, h6, o6⟩; have hs6 := HS6.out w6 v6 o6; have H6 := Lib.hid h6; have O6 := Lib.hid o6; clear h6 o6))
      have HF := Lib.hid (HHON.out.trans (HOW.out.trans O6.out))
      have H6E : Hid (w6.ownsRow base 5 1 v6 (xs ++ (3 :: (num zs.length ++ (zs.take (k + 1)).flatMap encI))).length ((xs ++ (3 :: (num zs.length ++ (zs.take (k + 1)).flatMap encI))).map byteV)) := Lib.hid (HEN.out ▸ H6.out)
      clear H6 O6 HS6 HOW HKW
      go_wp2_with fail
      go_roundw
      case rel => exact ⟨k + 1, by omega, by go_num, H6E.out, HF.out⟩
      case measure => simp [intOf]; omega
    · obtain rfl : k = zs.length := by omega
      have HP : Hid (Wrote base w v (xs ++ encL zs) (.returned u0) wr) := Lib.hid ⟨_, rfl, enc_list_e xs zs ▸ hok, hon⟩
      clear hok hon
      go_wp2_with fail
      go_ret
      exact HP.out

end Go.Proofs.YtjnnnciifjajmaaDoor
