/- EqualHash: a proof is right exactly if its form is and E is the hash of what it commits to. -/
import Derived.Test.YtjljfjebbehebaaDoorLwP
namespace Go.Proofs.YtjljfjebbehebaaDoor
open Go.RowKit FP

/-- Behind k numbers: the list, and what lies below. -/
def HashI (B : Nat) (W1 : World) (zs : List Int) (k : Nat) (L : Value) (W : World) : Prop :=
  W.ownsRow B 42 4 L k ((zs.take k).flatMap valC) ∧ Below B W1 W

theorem ints_at {w : World} {b n c : Nat} {zs : List Int} (h : Ints w (.slice (some ⟨b, 0, none⟩) n c) zs) (k : Nat) (hk : k < zs.length) : w.cell? ⟨b, k, none⟩ = some (.int .i64 zs[k]) := by
  obtain ⟨a, cap, e, -, -, -, hc⟩ := h
  obtain ⟨b', o', rfl, q⟩ := hc k hk
  simp only [Value.slice.injEq, Option.some.injEq, Addr.mk.injEq] at e
  obtain ⟨⟨rfl, rfl, -⟩, -, -⟩ := e
  simpa using q

set_option maxRecDepth 100000 in
set_option maxHeartbeats 4000000 in
theorem hashlaw_any (key a d E S : Int) (w : World) (hk : R64 key) (ha : R64 a) (hd : R64 d) (hE : R64 E) (hS : R64 S) (hG : Glob w) :
    Calls Tryd.prog 7 #[.int .i64 key, .int .i64 a, .int .i64 d, .agg #[.int .i64 E, .int .i64 S]] w fun e w' => e = .returned (.bool true) ∧ Below w.heap.size w w' := by
  obtain ⟨hb1, c0, c1⟩ := cell_agg2 w E S 23
  have HB1 := Lib.hid hb1
  have hG1 := hG.below HB1.out
  clear hb1
  go_enter Tryd.func7, Tryd.ntmps7
  go_wp2_with fail
  with_reducible refine (sane12_any _ hG1).mono ?_
  rintro e w3 ⟨rfl, hb3⟩
  have c2 := below_cell hb3 c0
  have c3 := below_cell hb3 c1
  have HB3 := Lib.hid (HB1.out.trans (hb3.mono HB1.out.size))
  have hG3 := hG.below HB3.out
  clear c0 c1 hb3 hG1
  go_wp2_with fail
  with_reducible refine (check_any key a d E S _ hk ha hd hE hS hG3).mono ?_
  rintro e w4 ⟨rfl, hb4⟩
  have c4 := below_cell hb4 c2
  have c5 := below_cell hb4 c3
  have HB4 := Lib.hid (HB3.out.trans (hb4.mono HB3.out.size))
  clear c2 c3 hb4 hG3
  obtain ⟨is, his⟩ : ∃ is, is = chkB key a d E S := ⟨_, rfl⟩
  rw [← his]
  have HIS := Lib.hid his
  clear his
  go_wp2_with fail
  with_reducible refine (formed12_any key a d E S _ hk ha hd hE hS).mono ?_
  rintro e w5 ⟨rfl, hb5⟩
  have c6 := below_cell hb5 c4
  have c7 := below_cell hb5 c5
  have HB5 := Lib.hid (HB4.out.trans (hb5.mono HB4.out.size))
  clear c4 c5 hb5
  cases e1 : formB key a d E S with
  | false =>
    have hi : is = false := by rw [HIS.out, chkB_form, e1]; rfl
    subst hi
    clear e1 HIS
    go_wp2_with fail
    go_ret
    exact ⟨rfl, HB5.out⟩
  | true =>
  have HF := Lib.hid (form_iff.1 e1)
  have hi : is = (E == chal key a d (rE key E S) (sE a d E S)) := by rw [HIS.out, chkB_form, e1, Bool.true_and]
  clear e1 HIS
  have HR := Lib.hid (show ∀ z ∈ [key, a, d, rE key E S, sE a d E S], R64 z by intro z hz; simp at hz; rcases hz with rfl | rfl | rfl | rfl | rfl; exact hk; exact ha; exact hd; exact (el_rE HF.out.k E S).r64; exact (el_sE HF.out.a HF.out.d E S).r64)
  go_wp2_with fail
  with_reducible refine (commits12_any key a d E S _ HF.out).mono ?_
  rintro e w6 ⟨rfl, hb6⟩
  have c8 := below_cell hb6 c6
  have c9 := below_cell hb6 c7
  have HB6 := Lib.hid (HB5.out.trans (hb6.mono HB5.out.size))
  clear c6 c7 hb6
  generalize rE key E S = r at *
  generalize sE a d E S = s at *
  have HI := Lib.hid hi
  clear hi
  obtain ⟨W1, hW1⟩ : ∃ W1, W1 = w6.alloc (.cells #[.int .i64 key, .int .i64 a, .int .i64 d, .int .i64 r, .int .i64 s] 3) := ⟨_, rfl⟩
  have hI : Ints W1 (.slice (some ⟨w6.heap.size, 0, none⟩) 5 5) [key, a, d, r, s] := by rw [hW1]; exact ints_made w6 [key, a, d, r, s] 3 w6.heap.size rfl HR.out (by simp)
  have hbW : Below w6.heap.size w6 W1 := by rw [hW1]; exact below_new w6 #[.int .i64 key, .int .i64 a, .int .i64 d, .int .i64 r, .int .i64 s] 3
  have HW1 := Lib.hid hW1
  go_wp2_with fail
  rw [← HW1.out]
  have hsz : W1.heap.size = w6.heap.size + 1 := by rw [hW1]; simp [go_sem]
  have hbx : w6.heap.size < W1.heap.size := by omega
  have HBW := Lib.hid hbW
  have HII := Lib.hid hI
  have c10 := below_cell hbW c8
  have c11 := below_cell hbW c9
  have HSZ := Lib.hid hsz
  have h00 : HashI (w6.heap.size + 1) W1 [key, a, d, r, s] 0 (.slice none 0 0) W1 := ⟨World.ownsRow_nil _ _ _ _, Below.refl _ _⟩
  clear hW1 hI hbW c8 c9 hsz hbx
  obtain ⟨zs, hzs⟩ : ∃ zs : List Int, zs = [key, a, d, r, s] := ⟨_, rfl⟩
  rw [← hzs] at h00 HR
  have HZ := Lib.hid hzs
  have HL := Lib.hid (show zs.length = 5 by rw [hzs]; rfl)
  rw [← hzs] at HII
  clear hzs
  go_loopw [12, 47] (fun L i W => ∃ k : Nat, k ≤ 5 ∧ i = .int .i64 k ∧ HashI (w6.heap.size + 1) W1 zs k L W) (fun _ i _ => 5 - (intOf i).toNat)
  case atStart => exact ⟨0, Nat.zero_le _, rfl, h00⟩
  case round =>
    clear h00
    obtain ⟨k, hkl, rfl, hown, hbe⟩ := hrel
    by_cases hlt : k < 5
    · have hlz : k < zs.length := by rw [HL.out]; exact hlt
      have hbe' : Below W1.heap.size W1 wr := by rw [HSZ.out]; exact hbe
      have x0 := below_cell hbe' (ints_at HII.out k hlz)
      have HT := Lib.hid (show zs.take k ++ [zs[k]] = zs.take (k + 1) from (List.take_succ_eq_append_getElem hlz).symm)
      generalize zs[k] = z at *
      have hd1 : decide ((k : Int) < 5) = true := by simp; omega
      have hd2 : (k : Int) < 5 := by omega
      have hd3 : (0 : Int) ≤ k := by omega
      obtain ⟨W2, hW2, hb1, hr1⟩ := boxed4 wr (.int .i64 1) (.int .i64 z) (.string ⟨#[]⟩) (.slice none 0 0) 42
      have HOW := Lib.hid (own_keep hown hb1)
      have HCE : Hid (∀ j u, (valC z)[j]? = some u → W2.cell? ⟨wr.heap.size, j, none⟩ = some u) := Lib.hid (fun j u hj => row_cell hr1 (by
        match j with
        | 0 | 1 | 2 | 3 => exact hj
        | n + 4 => simp [valC] at hj))
      have hs1 : w6.heap.size + 1 ≤ wr.heap.size := by rw [← HSZ.out]; exact hbe'.size
      have HBS := Lib.hid (Nat.le_trans hs1 hb1.size)
      have HB1' := Lib.hid (hb1.mono hs1)
      have HW2 := Lib.hid hW2
      have HBE := Lib.hid hbe
      have hk1 : k ≤ 1000 := by omega
      clear hown hr1 hb1 hW2 hbe hbe' hs1 hlz
      go_wp2_with (refine app_val rfl _ _ rfl (w6.heap.size + 1) _ (zs.take k) _ rfl (HW2.out ▸ HOW.out) wr.heap.size 1 z rfl (HW2.out ▸ HCE.out) (by omega) (HW2.out ▸ HBS.out) ?_; rw [← HW2.out]; intro g8 cap8 w8 h8 o8; have H8 := Lib.hid h8; have O8 := Lib.hid o8; clear h8 o8)
      go_roundw
      case rel => exact ⟨k + 1, by omega, by go_num, by rw [← HT.out]; exact H8.out, HBE.out.trans (HB1'.out.trans (own_below HOW.out O8.out.1 HBS.out))⟩
      case measure => simp [intOf]; omega
    · have hk5 : k = 5 := by omega
      have hbe' : Below W1.heap.size W1 wr := by rw [HSZ.out]; exact hbe
      have c12 := below_cell hbe' c10
      subst hk5
      rw [List.take_of_length_le (by rw [HL.out]; exact Nat.le_refl _)] at hown
      rw [show (5 : Nat) = zs.length from HL.out.symm] at hown
      have hVl := Vals.own hown HR.out (by rw [HL.out]; decide)
      obtain ⟨aL, cL, hLe, -⟩ := id hVl
      subst hLe
      rw [HL.out] at hown
      have hbw : Below w.heap.size w wr := HB6.out.trans ((HBW.out.trans (hbe.mono (Nat.le_succ _))).mono HB6.out.size)
      have HBB := Lib.hid hbw
      have hEN := encode_any _ zs _ hVl
      rw [HL.out] at hEN ⊢
      have HEN := Lib.hid hEN
      have hlen : (encL zs).length ≤ 1000 := by rw [HZ.out] at HR ⊢; have := encL_len HR.out (by simp); simp at this; omega
      have HLEN := Lib.hid hlen
      clear hown hVl hbe hbe' c10 c11 hbw hEN hlen
      go_wp2_with fail
      refine HEN.out.mono ?_
      rintro e w9 ⟨v9, rfl, hv9, hb9⟩
      have c13 := below_cell hb9 c12
      have hbz := HBB.out.trans (hb9.mono HBB.out.size)
      have hgz := hG.below hbz
      have HGZ : Hid (Glob w9.drew) := Lib.hid ⟨hgz.num, hgz.sta⟩
      have HV9 : Hid (Byts w9.drew v9 (encL zs)) := Lib.hid (hv9.below (Below.refl _ _).drew)
      have HBZ := Lib.hid hbz
      have hch : hashG (strB tagE) (encL zs) = chal key a d r s := by rw [HZ.out]; rfl
      have HCH := Lib.hid hch
      clear hv9 hb9 hbz hgz c12 hch
      go_wp2_with fail
      have hhl : 1 ≤ (encL zs).length := encL_pos _
      go_region_held3 (fun w' => w'.cell? ⟨w.heap.size, 0, none⟩ = some (.int .i64 E)) (go_keep)
        (first
          | (go_at_call 19; (refine (hash_any tagE v9 (encL zs) _ (by decide) HV9.out (encL_pos _) (by have := HLEN.out; omega) HGZ.out).mono ?_); rintro e w10 ⟨rfl, hb10⟩; have d0 := below_cell hb10 c13))
      rw [HCH.out]
      have HBE2 := Lib.hid (HBZ.out.trans (((Below.refl _ _).drew.trans hb10).mono HBZ.out.size))
      have hfin : (is == (chal key a d r s == E)) = true := by
        rw [HI.out]
        by_cases h : E = chal key a d r s
        · rw [← h]; simp
        · have h2 : ¬ chal key a d r s = E := fun e => h e.symm
          rw [beq_eq_false_iff_ne.2 h, beq_eq_false_iff_ne.2 h2]; rfl
      clear hb10
      go_wp2_with fail
      go_ret
      exact ⟨ret_bool (by rw [← HI.out]; exact hfin), HBE2.out⟩

end Go.Proofs.YtjljfjebbehebaaDoor
