/- Package parcels: With, Open. Package complaints: what Make tries. The laws of complaints, in plain Lean: what Make and Settle answer about a sealed dealing. The laws of dealing: the sum of two lists, in plain Lean. What LinearSums and LinearChanged say, without a program: combinations of sums; rows that are changed. The laws of dealing: what is recovered from shares that were dealt; sums of dealings, in plain Lean. Products of commitments and sums of what is dealt, in plain Lean. -/
import Derived.Test.YtggnipkfliompaaGreatDoorMCoE
import Derived.Test.YtggnipkfliompaaGreatDoorMEqA
import Derived.Test.YtggnipkfliompaaGreatDoorMDeaW
import Derived.Test.YtggnipkfliompaaGreatDoorMLaE
set_option maxHeartbeats 2000000
set_option maxRecDepth 100000
namespace Go.Proofs.YtggnipkfliompaaGreatDoor
open Go.RowKit FP
theorem with_no (d dealer row pt c : Int) (w : World) (hd : R64 d) (hp : R64 pt) (h : withE d dealer row pt c ≠ 0) :
  Calls Tryz.prog 65 #[.int .i64 d, .int .i64 dealer, .agg #[.int .i64 row, .int .i64 pt, .int .i64 c]] w fun r w' => r = .returned (.tuple #[.int .i64 0, .int .i64 (withE d dealer row pt c)]) ∧ Below w.heap.size w w' := by
 obtain ⟨W1, hW1, hb1, hr1, hz⟩ := cells3 w row pt c 49
 have HW1 := Lib.hid hW1
 have HB1 := Lib.hid hb1
 have x0 : W1.cell? ⟨w.heap.size, 0, none⟩ = some (.int .i64 row) := row_cell hr1 rfl
 have x1 : W1.cell? ⟨w.heap.size, 1, none⟩ = some (.int .i64 pt) := row_cell hr1 rfl
 have x2 : W1.cell? ⟨w.heap.size, 2, none⟩ = some (.int .i64 c) := row_cell hr1 rfl
 obtain ⟨E, hE⟩ : ∃ E, E = withE d dealer row pt c := ⟨_, rfl⟩
 rw [← hE] at h ⊢
 have HE : Hid (firstE [(elB d, 100), (inB dealer 0 63, 1), (rightB row pt c, 350)] = E) := Lib.hid hE.symm
 have h2 : (E != 0) = true := bne_iff_ne.2 h
 clear hW1 hE hr1 hb1 hz
 go_enter Tryz.func65, Tryz.ntmps65
 go_wp2_with fail
 rw [← HW1.out]
 go_region_held3 (fun w' => w'.cell? ⟨w.heap.size, 0, none⟩ = some (.int .i64 row) ∧ w'.cell? ⟨w.heap.size, 1, none⟩ = some (.int .i64 pt) ∧ w'.cell? ⟨w.heap.size, 2, none⟩ = some (.int .i64 c)) (go_keep)
  (first
   | (go_at_call 140; (with_reducible refine (element_any d 100 _ hd).mono ?_); rintro r w2 ⟨f1, cap1, rfl, hF1, hb2⟩; have s10 : w2.cell? ⟨w.heap.size, 0, none⟩ = some (.int .i64 row) := below_cell hb2 (by assumption); have s11 : w2.cell? ⟨w.heap.size, 1, none⟩ = some (.int .i64 pt) := below_cell hb2 (by assumption); have s12 : w2.cell? ⟨w.heap.size, 2, none⟩ = some (.int .i64 c) := below_cell hb2 (by assumption); have HF1 := Lib.hid hF1; clear hF1)
   | (go_at_call 130; (with_reducible refine (person_any dealer _).mono ?_); rintro r w3 ⟨f2, cap2, rfl, hF2, hb3⟩; have s20 : w3.cell? ⟨w.heap.size, 0, none⟩ = some (.int .i64 row) := below_cell hb3 (by assumption); have s21 : w3.cell? ⟨w.heap.size, 1, none⟩ = some (.int .i64 pt) := below_cell hb3 (by assumption); have s22 : w3.cell? ⟨w.heap.size, 2, none⟩ = some (.int .i64 c) := below_cell hb3 (by assumption); have HF2 := Lib.hid hF2; clear hF2)
   | (go_at_call 131; (with_reducible refine (right_any row pt c _ hp).mono ?_); rintro r w4 ⟨f3, cap3, rfl, hF3, hb4⟩; have s30 : w4.cell? ⟨w.heap.size, 0, none⟩ = some (.int .i64 row) := below_cell hb4 (by assumption); have s31 : w4.cell? ⟨w.heap.size, 1, none⟩ = some (.int .i64 pt) := below_cell hb4 (by assumption); have s32 : w4.cell? ⟨w.heap.size, 2, none⟩ = some (.int .i64 c) := below_cell hb4 (by assumption); have HF3 := Lib.hid hF3; clear hF3)
   | (go_at_call 128; (refine (pcheck_any _ _ _ (conds3 _ _ _ rfl 100 1 350 (HF1.out.keep (Keep.below (hb3.trans (hb4.mono hb3.size)))) (HF2.out.keep (Keep.below hb4)) HF3.out)).mono ?_); rintro r w5 ⟨rfl, hb5⟩; have s40 : w5.cell? ⟨w.heap.size, 0, none⟩ = some (.int .i64 row) := below_cell hb5 (below_cell (below_new _ _ _) s30); have s41 : w5.cell? ⟨w.heap.size, 1, none⟩ = some (.int .i64 pt) := below_cell hb5 (below_cell (below_new _ _ _) s31); have s42 : w5.cell? ⟨w.heap.size, 2, none⟩ = some (.int .i64 c) := below_cell hb5 (below_cell (below_new _ _ _) s32)))
 rw [HE.out]
 have h1 : Below W1.heap.size W1 w2 := (Below.refl _ _).drew.trans hb2
 have h3 := h1.trans (hb3.mono h1.size)
 have h4 := h3.trans (hb4.mono h3.size)
 have h5 := h4.alloc h4.size (.cells #[.func (.func f1) #[] cap1, .int .i64 100, .func (.func f2) #[] cap2, .int .i64 1, .func (.func f3) #[] cap3, .int .i64 350] 153)
 have HB := Lib.hid (HB1.out.trans ((h5.trans (hb5.mono h5.size)).mono HB1.out.size))
 clear h1 h3 h4 h5 hb2 hb3 hb4 hb5
 go_wp2_with fail
 go_ret2
 exact ⟨rfl, HB.out⟩
theorem with_yes (d dealer row pt c : Int) (w : World) (hd : El d) (hl : 0 ≤ dealer ∧ dealer ≤ 63) (hR : RightP row pt c) (hG : Glob w) :
  Calls Tryz.prog 65 #[.int .i64 d, .int .i64 dealer, .agg #[.int .i64 row, .int .i64 pt, .int .i64 c]] w fun r w' => r = .returned (.tuple #[.int .i64 (opnV d dealer row c), .int .i64 0]) ∧ Below w.heap.size w w' := by
 obtain ⟨W1, hW1, hb1, hr1, hz⟩ := cells3 w row pt c 49
 have HW1 := Lib.hid hW1
 have HB1 := Lib.hid hb1
 have x0 : W1.cell? ⟨w.heap.size, 0, none⟩ = some (.int .i64 row) := row_cell hr1 rfl
 have x1 : W1.cell? ⟨w.heap.size, 1, none⟩ = some (.int .i64 pt) := row_cell hr1 rfl
 have x2 : W1.cell? ⟨w.heap.size, 2, none⟩ = some (.int .i64 c) := row_cell hr1 rfl
 have HE : Hid (firstE [(elB d, 100), (inB dealer 0 63, 1), (rightB row pt c, 350)] = 0) := Lib.hid (withE_ok.2 ⟨hd, hl, hR⟩)
 obtain ⟨⟨r1, r2⟩, hpt, hc⟩ := hR
 have hp := hpt.r64
 have hd64 := hd.r64
 have hl64 : R64 dealer := ⟨by omega, by omega⟩
 have hr64 : R64 row := ⟨by omega, by omega⟩
 clear hW1 hr1 hb1 hz r1 r2 hpt hl
 go_enter Tryz.func65, Tryz.ntmps65
 go_wp2_with fail
 rw [← HW1.out]
 go_region_held3 (fun w' => w'.cell? ⟨w.heap.size, 0, none⟩ = some (.int .i64 row) ∧ w'.cell? ⟨w.heap.size, 1, none⟩ = some (.int .i64 pt) ∧ w'.cell? ⟨w.heap.size, 2, none⟩ = some (.int .i64 c)) (go_keep)
  (first
   | (go_at_call 140; (with_reducible refine (element_any d 100 _ hd64).mono ?_); rintro r w2 ⟨f1, cap1, rfl, hF1, hb2⟩; have s10 : w2.cell? ⟨w.heap.size, 0, none⟩ = some (.int .i64 row) := below_cell hb2 (by assumption); have s11 : w2.cell? ⟨w.heap.size, 1, none⟩ = some (.int .i64 pt) := below_cell hb2 (by assumption); have s12 : w2.cell? ⟨w.heap.size, 2, none⟩ = some (.int .i64 c) := below_cell hb2 (by assumption); have HF1 := Lib.hid hF1; clear hF1)
   | (go_at_call 130; (with_reducible refine (person_any dealer _).mono ?_); rintro r w3 ⟨f2, cap2, rfl, hF2, hb3⟩; have s20 : w3.cell? ⟨w.heap.size, 0, none⟩ = some (.int .i64 row) := below_cell hb3 (by assumption); have s21 : w3.cell? ⟨w.heap.size, 1, none⟩ = some (.int .i64 pt) := below_cell hb3 (by assumption); have s22 : w3.cell? ⟨w.heap.size, 2, none⟩ = some (.int .i64 c) := below_cell hb3 (by assumption); have HF2 := Lib.hid hF2; clear hF2)
   | (go_at_call 131; (with_reducible refine (right_any row pt c _ hp).mono ?_); rintro r w4 ⟨f3, cap3, rfl, hF3, hb4⟩; have s30 : w4.cell? ⟨w.heap.size, 0, none⟩ = some (.int .i64 row) := below_cell hb4 (by assumption); have s31 : w4.cell? ⟨w.heap.size, 1, none⟩ = some (.int .i64 pt) := below_cell hb4 (by assumption); have s32 : w4.cell? ⟨w.heap.size, 2, none⟩ = some (.int .i64 c) := below_cell hb4 (by assumption); have HF3 := Lib.hid hF3; clear hF3)
   | (go_at_call 128; (refine (pcheck_any _ _ _ (conds3 _ _ _ rfl 100 1 350 (HF1.out.keep (Keep.below (hb3.trans (hb4.mono hb3.size)))) (HF2.out.keep (Keep.below hb4)) HF3.out)).mono ?_); rintro r w5 ⟨rfl, hb5⟩; have s40 : w5.cell? ⟨w.heap.size, 0, none⟩ = some (.int .i64 row) := below_cell hb5 (below_cell (below_new _ _ _) s30); have s41 : w5.cell? ⟨w.heap.size, 1, none⟩ = some (.int .i64 pt) := below_cell hb5 (below_cell (below_new _ _ _) s31); have s42 : w5.cell? ⟨w.heap.size, 2, none⟩ = some (.int .i64 c) := below_cell hb5 (below_cell (below_new _ _ _) s32)))
 rw [HE.out]
 have h1 : Below W1.heap.size W1 w2 := (Below.refl _ _).drew.trans hb2
 have h3 := h1.trans (hb3.mono h1.size)
 have h4 := h3.trans (hb4.mono h3.size)
 have h5 := h4.alloc h4.size (.cells #[.func (.func f1) #[] cap1, .int .i64 100, .func (.func f2) #[] cap2, .int .i64 1, .func (.func f3) #[] cap3, .int .i64 350] 153)
 have HB := Lib.hid (HB1.out.trans ((h5.trans (hb5.mono h5.size)).mono HB1.out.size))
 have HG5 := Lib.hid (hG.below HB.out)
 clear h1 h3 h4 h5 hb2 hb3 hb4 hb5 hG
 go_wp2_with fail
 with_reducible refine (opened_any d dealer row pt c _ hd64 hl64 hr64 hc HG5.out).mono ?_
 rintro r w6 ⟨rfl, hb6⟩
 go_wp2_with fail
 go_ret2
 exact ⟨rfl, HB.out.trans (hb6.mono HB.out.size)⟩
theorem open_yes (s dealer row pt c : Int) (w : World) (hs : 1 ≤ s ∧ s ≤ 1073741788) (hl : 0 ≤ dealer ∧ dealer ≤ 63) (hR : RightP row pt c) (hG : Glob w) :
  Calls Tryz.prog 58 #[.int .i64 s, .int .i64 dealer, .agg #[.int .i64 row, .int .i64 pt, .int .i64 c]] w fun r w' => r = .returned (.tuple #[.int .i64 (opnV (powE pt s) dealer row c), .int .i64 0]) ∧ Below w.heap.size w w' := by
 obtain ⟨W1, hW1, hb1, hr1, hz⟩ := cells3 w row pt c 49
 have HW1 := Lib.hid hW1
 have HB1 := Lib.hid hb1
 have x0 : W1.cell? ⟨w.heap.size, 0, none⟩ = some (.int .i64 row) := row_cell hr1 rfl
 have x1 : W1.cell? ⟨w.heap.size, 1, none⟩ = some (.int .i64 pt) := row_cell hr1 rfl
 have x2 : W1.cell? ⟨w.heap.size, 2, none⟩ = some (.int .i64 c) := row_cell hr1 rfl
 have HE : Hid (firstE [(inB s 1 1073741788, 110), (inB dealer 0 63, 1), (rightB row pt c, 350)] = 0) := Lib.hid (openE_ok.2 ⟨hs, hl, hR⟩)
 obtain ⟨⟨r1, r2⟩, hpt, hc⟩ := hR
 have hp := hpt.r64
 have hs64 : R64 s := ⟨by omega, by omega⟩
 have hl64 : R64 dealer := ⟨by omega, by omega⟩
 have hr64 : R64 row := ⟨by omega, by omega⟩
 have hd64 := (el_powE hpt s).r64
 clear hW1 hr1 hb1 hz r1 r2 hl hs
 go_enter Tryz.func58, Tryz.ntmps58
 go_wp2_with fail
 rw [← HW1.out]
 go_region_held3 (fun w' => w'.cell? ⟨w.heap.size, 0, none⟩ = some (.int .i64 row) ∧ w'.cell? ⟨w.heap.size, 1, none⟩ = some (.int .i64 pt) ∧ w'.cell? ⟨w.heap.size, 2, none⟩ = some (.int .i64 c)) (go_keep)
  (first
   | (go_at_call 129; (with_reducible refine (secret_any s _).mono ?_); rintro r w2 ⟨f1, cap1, rfl, hF1, hb2⟩; have s10 : w2.cell? ⟨w.heap.size, 0, none⟩ = some (.int .i64 row) := below_cell hb2 (by assumption); have s11 : w2.cell? ⟨w.heap.size, 1, none⟩ = some (.int .i64 pt) := below_cell hb2 (by assumption); have s12 : w2.cell? ⟨w.heap.size, 2, none⟩ = some (.int .i64 c) := below_cell hb2 (by assumption); have HF1 := Lib.hid hF1; clear hF1)
   | (go_at_call 130; (with_reducible refine (person_any dealer _).mono ?_); rintro r w3 ⟨f2, cap2, rfl, hF2, hb3⟩; have s20 : w3.cell? ⟨w.heap.size, 0, none⟩ = some (.int .i64 row) := below_cell hb3 (by assumption); have s21 : w3.cell? ⟨w.heap.size, 1, none⟩ = some (.int .i64 pt) := below_cell hb3 (by assumption); have s22 : w3.cell? ⟨w.heap.size, 2, none⟩ = some (.int .i64 c) := below_cell hb3 (by assumption); have HF2 := Lib.hid hF2; clear hF2)
   | (go_at_call 131; (with_reducible refine (right_any row pt c _ hp).mono ?_); rintro r w4 ⟨f3, cap3, rfl, hF3, hb4⟩; have s30 : w4.cell? ⟨w.heap.size, 0, none⟩ = some (.int .i64 row) := below_cell hb4 (by assumption); have s31 : w4.cell? ⟨w.heap.size, 1, none⟩ = some (.int .i64 pt) := below_cell hb4 (by assumption); have s32 : w4.cell? ⟨w.heap.size, 2, none⟩ = some (.int .i64 c) := below_cell hb4 (by assumption); have HF3 := Lib.hid hF3; clear hF3)
   | (go_at_call 128; (refine (pcheck_any _ _ _ (conds3 _ _ _ rfl 110 1 350 (HF1.out.keep (Keep.below (hb3.trans (hb4.mono hb3.size)))) (HF2.out.keep (Keep.below hb4)) HF3.out)).mono ?_); rintro r w5 ⟨rfl, hb5⟩; have s40 : w5.cell? ⟨w.heap.size, 0, none⟩ = some (.int .i64 row) := below_cell hb5 (below_cell (below_new _ _ _) s30); have s41 : w5.cell? ⟨w.heap.size, 1, none⟩ = some (.int .i64 pt) := below_cell hb5 (below_cell (below_new _ _ _) s31); have s42 : w5.cell? ⟨w.heap.size, 2, none⟩ = some (.int .i64 c) := below_cell hb5 (below_cell (below_new _ _ _) s32)))
 rw [HE.out]
 have h1 : Below W1.heap.size W1 w2 := (Below.refl _ _).drew.trans hb2
 have h3 := h1.trans (hb3.mono h1.size)
 have h4 := h3.trans (hb4.mono h3.size)
 have h5 := h4.alloc h4.size (.cells #[.func (.func f1) #[] cap1, .int .i64 110, .func (.func f2) #[] cap2, .int .i64 1, .func (.func f3) #[] cap3, .int .i64 350] 153)
 have HB := Lib.hid (HB1.out.trans ((h5.trans (hb5.mono h5.size)).mono HB1.out.size))
 have hg5 := hG.below HB.out
 have e0 := s40
 have e1 := s41
 have e2 := s42
 clear h1 h3 h4 h5 hb2 hb3 hb4 hb5 hG HE HF1 HF2 HF3
 go_wp2_with fail
 with_reducible refine (pow_yes pt s _ hpt hs64).mono ?_
 rintro r w6 ⟨rfl, hb6⟩
 have HG6 := Lib.hid (hg5.below hb6)
 have HB6 := Lib.hid (HB.out.trans (hb6.mono HB.out.size))
 have g0 := below_cell hb6 e0
 have g1 := below_cell hb6 e1
 have g2 := below_cell hb6 e2
 clear hb6 hg5
 go_wp2_with fail
 with_reducible refine (opened_any (powE pt s) dealer row pt c _ hd64 hl64 hr64 hc HG6.out).mono ?_
 rintro r w7 ⟨rfl, hb7⟩
 go_wp2_with fail
 go_ret2
 exact ⟨rfl, HB6.out.trans (hb7.mono HB6.out.size)⟩
end Go.Proofs.YtggnipkfliompaaGreatDoor
namespace Go.Proofs.YtggnipkfliompaaGreatDoor
open Go.RowKit FP
theorem Parcels.at {w : World} {a : Option Addr} {n c : Nat} {l : List Pcl} (h : Parcels w (.slice a n c) l) {k : Nat} (hk : k < l.length) : ∃ b off, a = some ⟨b, off, none⟩ ∧ w.cell? ⟨b, off + k * 3, none⟩ = some (.int .i64 l[k].1) ∧ w.cell? ⟨b, off + k * 3 + 1, none⟩ = some (.int .i64 l[k].2.1) ∧ w.cell? ⟨b, off + k * 3 + 2, none⟩ = some (.int .i64 l[k].2.2) ∧ R64 l[k].2.1 := by
 obtain ⟨a', cap, h1, -, -, h4, h5⟩ := h
 cases h1
 obtain ⟨b, off, e, h6, h7, h8⟩ := h5 k hk
 exact ⟨b, off, e, h6, h7, h8, (h4 _ (List.getElem_mem hk)).2.1⟩
end Go.Proofs.YtggnipkfliompaaGreatDoor
namespace Go.Proofs.YtggnipkfliompaaGreatDoor
open Go.RowKit FP
section
variable {rows : List (List Int)} {owners ss : List Int} {x : Int} {rnd : List Int} {dealer row by' : Int} {i : Nat}
end
end Go.Proofs.YtggnipkfliompaaGreatDoor
namespace Go.Proofs.YtggnipkfliompaaGreatDoor
open Go.RowKit FP
def addF (u v : List Int) (i : Nat) : Int := (nth u i + nth v i) % 1073741789
def addQ (u v : List Int) : List Int := (List.range u.length).map (addF u v)
theorem addQ_len (u v : List Int) : (addQ u v).length = u.length := by simp [addQ]
theorem nth_addQ {u v : List Int} {k : Nat} (h : k < u.length) : nth (addQ u v) k = (nth u k + nth v k) % 1073741789 := by
 rw [nth_at (by rw [addQ_len]; exact h)]
 simp [addQ, addF]
theorem prodF_add (row s t : List Int) : ∀ k, k ≤ s.length → prodF row (addQ s t) k = (prodF row s k + prodF row t k) % 1073741789
 | 0, _ => rfl
 | k + 1, hk => by
  show (prodF row (addQ s t) k + nth row k * nth (addQ s t) k % 1073741789) % 1073741789 = ((prodF row s k + nth row k * nth s k % 1073741789) % 1073741789 + (prodF row t k + nth row k * nth t k % 1073741789) % 1073741789) % 1073741789
  rw [prodF_add row s t k (by omega), nth_addQ (by omega)]
  have e : nth row k * ((nth s k + nth t k) % 1073741789) % 1073741789 = (nth row k * nth s k + nth row k * nth t k) % 1073741789 := by
   rw [← Int.mul_add, Int.mul_emod, Int.emod_emod, ← Int.mul_emod]
  rw [e]
  generalize nth row k * nth s k = x
  generalize nth row k * nth t k = y
  omega
end Go.Proofs.YtggnipkfliompaaGreatDoor
namespace Go.Proofs.YtggnipkfliompaaGreatDoor
theorem rcombY_num {rows : List (List Int)} {t : List Int} (h : Right rows t.length) (ht : ∀ z ∈ t, 0 ≤ z ∧ z < 1073741789) {k : Nat} (hk : k < rows.length) : 0 ≤ nth (rcombY rows t) k ∧ nth (rcombY rows t) k < 1073741789 := by
 have hn : NumM t.length (rows.length + 1) (rcombM rows t).1 := redR_num (eq_num h ht) _
 have hR := comb_red h ht
 unfold rcombY
 rw [nth_map _ _ hk]
 exact combF_num (m := (rcombM rows t).2.length) (fun k hk => hn k rows.length (Nat.lt_of_lt_of_le hk hR.rn) (by omega)) _ (Nat.le_refl _) _
end Go.Proofs.YtggnipkfliompaaGreatDoor
namespace Go.Proofs.YtggnipkfliompaaGreatDoor
open Go.RowKit FP
theorem cv_tgt {n : Nat} {j : Nat} (h : j < n) : cv (tgt n) j = if j = 0 then 1 else 0 := by
 unfold cv tgt
 rw [nth_map _ _ h]
 unfold tgtF
 split
 ·exact cq_1
 ·exact cq_0
theorem nth_num {s : List Int} (h : ∀ z ∈ s, 0 ≤ z ∧ z < 1073741789) (i : Nat) : 0 ≤ nth s i ∧ nth s i < 1073741789 := by
 by_cases hi : i < s.length
 ·rw [nth_at hi]; exact h _ (List.getElem_mem hi)
 ·rw [nth_out hi]; omega
theorem rec_deal {rows : List (List Int)} {owners : List Int} {l : List (Int × Int)} {s : List Int} (hP : ProgOK rows owners) (hS : sharesB rows (-1) l = true) (hok : recOk rows l = true)
  (hn : ∀ z ∈ s, 0 ≤ z ∧ z < 1073741789) (hl : ∀ p ∈ l, p.2 = prodQ (rows.getD p.1.toNat []) s) : prodQ (recY rows l) (valsOf l) = nth s 0 := by
 have hR := rowsOf_right hP hS
 have hm := comb_makes hR (tgt_num _) hok
 have hlen : (rowsOf rows l).length = l.length := by simp [rowsOf]
 have hn1 := hP.cols
 refine cq_inj (prodQ_num _ _) (nth_num hn 0) ?_
 rw [cq_prodQ]
 unfold recY
 rw [rcombY_len, hlen]
 have hrow : ∀ i, i < l.length → cv (valsOf l) i = dt (colsQ rows) (fm (rowsOf rows l) i) (cv s) := fun i hi => by
  have hi2 : i < (rowsOf rows l).length := by omega
  have e1 : (rowsOf rows l)[i] = rows.getD l[i].1.toNat [] := by simp [rowsOf]
  have e2 := hR.len _ (List.getElem_mem hi2)
  rw [tgt_len] at e2
  show cq (nth (valsOf l) i) = _
  rw [nth_vals hi, hl _ (List.getElem_mem hi), ← e1, cq_prodQ, e2]
  exact dt_congr (fun j _ => (fm_row _ hi2 j).symm) (fun _ _ => rfl)
 rw [tgt_len] at hm
 show dt l.length (cv (rcombY (rowsOf rows l) (tgt (colsQ rows)))) (cv (valsOf l)) = cq (nth s 0)
 rw [dt_congr (fun _ _ => rfl) hrow]
 show sm l.length (fun i => cv (rcombY (rowsOf rows l) (tgt (colsQ rows))) i * dt (colsQ rows) (fm (rowsOf rows l) i) (cv s)) = _
 rw [← dt_sm]
 rw [dt_congr (u' := cv (tgt (colsQ rows))) (v' := cv s) (fun j hj => by rw [hm j hj, hlen]) (fun _ _ => rfl)]
 unfold dt
 rw [sm_one (k := 0) (by omega) (fun i hi he => by rw [cv_tgt hi, if_neg he]; grind), cv_tgt (by omega), if_pos rfl]
 show 1 * cq (nth s 0) = _
 grind
theorem deal_mem {rows : List (List Int)} {s : List Int} {p : Int × Int} (h : p ∈ dealL rows s) : ∃ k : Nat, k < rows.length ∧ p = ((k : Int), prodQ (rows.getD k []) s) := by
 obtain ⟨k, hk, rfl⟩ := List.mem_map.1 h
 exact ⟨k, List.mem_range.1 hk, rfl⟩
theorem sharesB_from {rows : List (List Int)} : ∀ (l : List (Int × Int)) (last : Int), (∀ p ∈ l, rightS rows p.1 p.2 = true) → (∀ p ∈ l, last < p.1) → l.Pairwise (fun a b => a.1 < b.1) → sharesB rows last l = true
 | [], _, _, _, _ => rfl
 | p :: l, last, h1, h2, h3 => by
  unfold sharesB
  rw [h1 p (by simp), decide_eq_true (h2 p (by simp)), Bool.true_and, Bool.true_and]
  obtain ⟨h4, h5⟩ := List.pairwise_cons.1 h3
  exact sharesB_from l p.1 (fun q hq => h1 q (by simp [hq])) h4 h5
theorem deal_right {rows : List (List Int)} {s : List Int} {p : Int × Int} (h : p ∈ dealL rows s) : rightS rows p.1 p.2 = true ∧ -1 < p.1 ∧ p.2 = prodQ (rows.getD p.1.toNat []) s := by
 obtain ⟨k, hk, rfl⟩ := deal_mem h
 refine ⟨rightS_iff.2 ⟨⟨by omega, by omega⟩, prodQ_num _ _⟩, by show (-1 : Int) < (k : Int); omega, ?_⟩
 show _ = prodQ (rows.getD (k : Int).toNat []) s
 rw [Int.toNat_natCast]
theorem deal_sorted (rows : List (List Int)) (s : List Int) : (dealL rows s).Pairwise (fun a b => a.1 < b.1) := by
 unfold dealL
 rw [List.pairwise_map]
 refine List.pairwise_lt_range.imp fun {a b} h => ?_
 show (a : Int) < (b : Int)
 omega
theorem part_shares {rows : List (List Int)} {s : List Int} {l : List (Int × Int)} (h : l.Sublist (dealL rows s)) : sharesB rows (-1) l = true :=
 sharesB_from l (-1) (fun _ hp => (deal_right (h.subset hp)).1) (fun _ hp => (deal_right (h.subset hp)).2.1) ((deal_sorted rows s).sublist h)
theorem recE_of {rows : List (List Int)} {owners : List Int} {l : List (Int × Int)} (hp : progE rows owners = 0) (hS : sharesB rows (-1) l = true) : recE rows owners l = 0 := by
 unfold recE; rw [if_neg (by simp [hp]), if_pos hS]
theorem recB_of {rows : List (List Int)} {owners : List Int} {l : List (Int × Int)} (hp : progE rows owners = 0) (hS : sharesB rows (-1) l = true) : recB rows owners l = recOk rows l := by
 unfold recB; rw [recE_of hp hS]; simp
theorem part_rec {rows : List (List Int)} {owners : List Int} {s : List Int} {l : List (Int × Int)} (hp : progE rows owners = 0) (hn : ∀ z ∈ s, 0 ≤ z ∧ z < 1073741789) (h : l.Sublist (dealL rows s)) :
  recE rows owners l = 0 ∧ recB rows owners l = recOk rows l ∧ recV rows owners l = (if recOk rows l = true then nth s 0 else 0) := by
 have hS := part_shares h
 refine ⟨recE_of hp hS, recB_of hp hS, ?_⟩
 unfold recV
 rw [recB_of hp hS]
 split
 ·rename_i hok
  exact rec_deal (progE_ok hp) hS hok hn (fun p hq => (deal_right (h.subset hq)).2.2)
 ·rfl
theorem sum_prod {rows : List (List Int)} {owners : List Int} {s t : List Int} (hP : ProgOK rows owners) (hs : s.length = colsQ rows) (k : Nat) (hk : k < rows.length) :
  prodQ (rows.getD k []) (addQ s t) = (prodQ (rows.getD k []) s + prodQ (rows.getD k []) t) % 1073741789 := by
 unfold prodQ
 rw [prodF_add _ _ _ _ (by rw [getD_at hk, hP.row hk]; omega)]
theorem sum_com {s t : List Int} {k : Nat} (hk : k < s.length) (ht : t.length = s.length) : nth (dealC (addQ s t)) k = nth (dealC s) k * nth (dealC t) k % 2147483579 := by
 unfold dealC
 rw [nth_mapv (by rw [addQ_len]; exact hk), nth_mapv hk, nth_mapv (by omega), nth_addQ hk, powE_mod, powE_add el_four]
theorem addQ_cons (x y : Int) (u v : List Int) : addQ (x :: u) (y :: v) = (x + y) % 1073741789 :: addQ u v := by
 unfold addQ
 rw [List.length_cons, List.range_succ_eq_map, List.map_cons, List.map_map]
 rfl
theorem addQ_num (u v : List Int) : ∀ z ∈ addQ u v, 0 ≤ z ∧ z < 1073741789 := fun z hz => by
 obtain ⟨i, -, rfl⟩ := List.mem_map.1 hz
 unfold addF; omega
end Go.Proofs.YtggnipkfliompaaGreatDoor
namespace Go.Proofs.YtggnipkfliompaaGreatDoor
open Go.RowKit FP
def mulL (a b : List Int) : List Int := (List.range a.length).map fun i => nth a i * nth b i % 2147483579
def renC (cs : List Int) (css : List (List Int)) : List Int := css.foldl mulL cs
theorem mulL_len (a b : List Int) : (mulL a b).length = a.length := by simp [mulL]
theorem mulL_el {a b : List Int} (ha : ∀ c ∈ a, El c) (hb : ∀ c ∈ b, El c) (hl : a.length ≤ b.length) : ∀ c ∈ mulL a b, El c := by
 intro c hc
 obtain ⟨i, hi, rfl⟩ := List.mem_map.1 hc
 have hi2 : i < a.length := by simpa using hi
 exact el_mul (ha _ (by rw [nth_at hi2]; exact List.getElem_mem _)) (hb _ (by rw [nth_at (show i < b.length by omega)]; exact List.getElem_mem _))
theorem comB_el {rows : List (List Int)} {cs : List Int} (h : comB rows cs = true) : (∀ c ∈ cs, El c) ∧ cs.length = colsQ rows := by
 unfold comB at h
 simp only [Bool.and_eq_true, decide_eq_true_eq, Bool.not_eq_true'] at h
 exact ⟨any_notel h.1, h.2⟩
theorem DealOK.full {rows : List (List Int)} {owners : List Int} {x : Int} {u : List Int} (h : DealOK rows owners x u) : (x :: u).length = colsQ rows := by rw [List.length_cons]; exact h.len
theorem DealOK.nums {rows : List (List Int)} {owners : List Int} {x : Int} {u : List Int} (h : DealOK rows owners x u) : ∀ z ∈ x :: u, 0 ≤ z ∧ z < 1073741789 := fun z hz => by
 rcases List.mem_cons.1 hz with rfl | hz
 ·exact h.hx
 ·exact any_odd_false (any_odd_of h.hr) z hz
theorem dealC_len (s : List Int) : (dealC s).length = s.length := by simp [dealC]
theorem com_deal_B {rows : List (List Int)} {owners : List Int} {x : Int} {u : List Int} (h : DealOK rows owners x u) (hp : progE rows owners = 0) : comB rows (dealC (x :: u)) = true ∧ dchkE rows owners (dealC (x :: u)) = 0 := by
 have h0 := dchkE_of (com_deal h hp)
 refine ⟨?_, h0⟩
 rw [comB_E hp] at h0
 cases e : comB rows (dealC (x :: u)) with
 | true => rfl
 | false => rw [e] at h0; cases h0
theorem mulL_deal {s t : List Int} (h : t.length = s.length) : mulL (dealC s) (dealC t) = dealC (addQ s t) := by
 refine List.ext_getElem (by rw [mulL_len, dealC_len, dealC_len, addQ_len]) fun k h1 h2 => ?_
 have hk : k < s.length := by rw [mulL_len, dealC_len] at h1; exact h1
 have h3 := sum_com hk h
 rw [nth_at h2] at h3
 rw [h3]
 simp [mulL]
def sumZ (u : List Int) (zs : List (List Int)) : List Int := zs.foldl addQ u
end Go.Proofs.YtggnipkfliompaaGreatDoor
