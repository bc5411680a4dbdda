/- The laws of rebuilding: RebuildNeeds. -/
import Derived.Test.YtnbkbnbmmkfckaaMRbO
namespace Go.Proofs.Ytnbkbnbmmkfckaa
open Go.RowKit FP

theorem rsep_num40 {rows : List (List Int)} {t l : List Int} (h : rsepQ rows t = some l) : ∀ z ∈ l, 0 ≤ z ∧ z < 1073741789 := by
  unfold rsepQ at h
  cases hr : rsepC rows t with
  | none => rw [hr] at h; cases h
  | some c =>
    rw [hr] at h
    have hl : rsepL (rsepM rows t).1 (rsepM rows t).2 t c = l := by injection h
    rw [← hl]
    intro z hz
    unfold rsepL timesQ at hz
    obtain ⟨i, -, rfl⟩ := List.mem_map.1 hz
    exact mod_num _
/-- Numbers that are moved along what tells a row from helpers. -/
structure NeedK (rows : List (List Int)) (rn N : Nat) (hs numbers other W : List Int) (value : Int) (P P2 : Nat → Int) (D D2 : List (Int × Int)) : Prop where
  fewN : N ≤ 64
  few : hs.length ≤ 64
  lenN : numbers.length = N
  lenW : W.length = N
  lenO : other.length = N
  pos : 1 ≤ N
  numW : ∀ i, 0 ≤ nth W i ∧ nth W i < 1073741789
  numN : ∀ i, 0 ≤ nth numbers i ∧ nth numbers i < 1073741789
  numO : ∀ z ∈ other, 0 ≤ z ∧ z < 1073741789
  el : ∀ k, k < N → nth other k = (nth numbers k + (value - P rn + 1073741789) % 1073741789 * nth W k) % 1073741789
  numP : ∀ k, 0 ≤ P k ∧ P k < 1073741789
  val : P2 rn = value
  same : ∀ n : Nat, (n : Int) ∈ hs → n < rows.length ∧ P2 n = P n
  idx : ∀ i, i < hs.length → 0 ≤ nth hs i ∧ nth hs i < (rows.length : Int)
  dlen : D.length = rows.length
  dat : ∀ k (hk : k < D.length), D[k] = ((k : Int), P k)
  d2len : D2.length = rows.length
  d2at : ∀ k (hk : k < D2.length), D2[k] = ((k : Int), P2 k)
theorem needK_of {rows : List (List Int)} {owners hs rnd : List Int} {x value : Int} {rn : Nat} (hD : DealOK rows owners x rnd) (hrb : rowsB rows rn hs = true) (hok : rcombOk (someQ rows hs) (rows.getD (rn : Int).toNat []) = false) (hv : 0 ≤ value ∧ value < 1073741789) :
    ∃ W P P2 x2 rnd2, rsepQ (someQ rows hs) (rows.getD (rn : Int).toNat []) = some W ∧ DealOK rows owners x2 rnd2 ∧ NeedK rows rn (rnd.length + 1) hs (x :: rnd) (x2 :: rnd2) W value P P2 (dealL rows (x :: rnd)) (dealL rows (x2 :: rnd2)) := by
  obtain ⟨hin, hh⟩ := rowsB_ok hrb
  have hP : PlanOK rows owners rn hs := ⟨hD.prog, hin, hh⟩
  have hlen := help_len hD.prog hh
  obtain ⟨W, hW, hWl, hd1, hd0⟩ := needs_w hP hok
  have hsl : (x :: rnd).length = colsQ rows := by simpa using hD.len
  have hcol := hD.prog.cols_le
  obtain ⟨b, hb⟩ : ∃ b, b = (value - prodQ (rows.getD (rn : Int).toNat []) (x :: rnd) + 1073741789) % 1073741789 := ⟨_, rfl⟩
  have hr1 := needs_row hD.prog hin hsl hv hd1
  have hr0 : ∀ r ∈ hs, prodQ (rows.getD r.toNat []) (moveL (x :: rnd) W b) = prodQ (rows.getD r.toNat []) (x :: rnd) := fun r hr => needs_help hD.prog (helpB_in hh r hr).1 hsl (hd0 r hr)
  rw [← hb] at hr1
  have hml := moveL_len (x :: rnd) W b
  have hmn := moveL_num (x :: rnd) W b
  have hel : ∀ k, k < (x :: rnd).length → nth (moveL (x :: rnd) W b) k = (nth (x :: rnd) k + b * nth W k) % 1073741789 := fun k hk => by
    unfold moveL; exact nth_map _ _ hk
  obtain ⟨o, ho⟩ : ∃ o, o = moveL (x :: rnd) W b := ⟨_, rfl⟩
  rw [← ho] at hr1 hr0 hml hmn hel
  have hsn : ∀ z ∈ x :: rnd, 0 ≤ z ∧ z < 1073741789 := fun z hz => by
    rcases List.mem_cons.1 hz with rfl | h
    · exact hD.hx
    · exact hD.hr z h
  match o, hml with
  | x2 :: rnd2, hml =>
    refine ⟨W, fun n => prodQ (rows.getD n []) (x :: rnd), fun n => prodQ (rows.getD n []) (x2 :: rnd2), x2, rnd2, hW, ⟨hD.prog, hmn x2 (by simp), fun z hz => hmn z (List.mem_cons_of_mem _ hz), ?_⟩, ?_⟩
    · have : (x2 :: rnd2).length = colsQ rows := by rw [hml, hsl]
      simpa using this
    · refine ⟨by have h9 := hsl; rw [List.length_cons] at h9; omega, hlen, rfl, by rw [hWl, ← hsl]; rfl, by rw [hml]; rfl, by omega, nth_num (rsep_num40 hW), nth_num hsn, hmn, ?_, fun k => prodQ_num _ _, ?_, ?_, ?_, dealL_len _ _, fun k hk => dealL_at _ _ hk, dealL_len _ _, fun k hk => dealL_at _ _ hk⟩
      · intro k hk
        rw [hel k hk, hb, Int.toNat_natCast]
      · rw [Int.toNat_natCast] at hr1; exact hr1
      · intro n hn
        have h1 := (helpB_in hh _ hn).1
        have h2 := hr0 _ hn
        rw [Int.toNat_natCast] at h2
        exact ⟨by omega, h2⟩
      · intro i hi
        rw [nth_at hi]; exact (helpB_in hh _ (List.getElem_mem hi)).1

set_option maxRecDepth 100000 in
set_option maxHeartbeats 16000000 in
theorem rebuildNeeds_any (rv ov nv hv : Value) (rows : List (List Int)) (owners numbers : List Int) (row : Int) (hs : List Int) (value : Int) (w : World) (hR : Rows2 w rv rows) (hO : Ints w ov owners) (hN : Ints w nv numbers) (hrow : R64 row) (hH : Ints w hv hs) (_hval : R64 value) :
    Calls Try.prog 7 #[.agg #[rv, ov], nv, .int .i64 row, hv, .int .i64 value] w fun e w' => e = .returned (.bool true) ∧ Below w.heap.size w w' := by
  obtain ⟨W1, hW1, hb1, hr1, hz⟩ := box_prog w rv ov 25
  have HR := Lib.hid (hR.below hb1)
  have HO := Lib.hid (hO.below hb1)
  have HN := Lib.hid (hN.below hb1)
  have HH := Lib.hid (hH.below hb1)
  obtain ⟨a1, k1, rfl, -, hl1, -⟩ := id hR
  obtain ⟨a2, k2, rfl, -, hl2, -⟩ := id hO
  obtain ⟨a3, k3, rfl, -, hl3, -⟩ := id hN
  obtain ⟨a4, k4, rfl, -, hl4, -⟩ := id hH
  have c0 : W1.cell? ⟨w.heap.size, 0, none⟩ = some (.slice a1 rows.length k1) := row_cell hr1 rfl
  have c1 : W1.cell? ⟨w.heap.size, 1, none⟩ = some (.slice a2 owners.length k2) := row_cell hr1 rfl
  have HW1 := Lib.hid hW1
  have HB := Lib.hid hb1
  have HS := Lib.hid (sane40_any W1)
  clear hR hO hN hH hr1 hW1 hb1 hz
  have HRT := Lib.hid (fun ww h1 h2 h3 h4 => right40_any (.slice a1 rows.length k1) (.slice a2 owners.length k2) (.slice a3 numbers.length k3) (.slice a4 hs.length k4) rows owners numbers row hs ww h1 h2 h3 h4)
  have HNM := Lib.hid (fun ww => rnumber40_any value ww)
  go_enter Try.func7, Try.ntmps7
  go_wp2_with (rw [← HW1.out])
  refine (HS.out).mono ?_
  rintro e w2 ⟨rfl, hb2⟩
  replace c0 := below_cell hb2 c0
  replace c1 := below_cell hb2 c1
  replace HR := Lib.hid (HR.out.below hb2)
  replace HO := Lib.hid (HO.out.below hb2)
  replace HN := Lib.hid (HN.out.below hb2)
  replace HH := Lib.hid (HH.out.below hb2)
  replace HB := Lib.hid (HB.out.trans (hb2.mono HB.out.size))
  clear hb2
  go_wp2_with fail
  refine (HRT.out _ HR.out HO.out HN.out HH.out).mono ?_
  rintro e w3 ⟨b, rfl, hgt, hb3⟩
  replace c0 := below_cell hb3 c0
  replace c1 := below_cell hb3 c1
  replace HR := Lib.hid (HR.out.below hb3)
  replace HO := Lib.hid (HO.out.below hb3)
  replace HN := Lib.hid (HN.out.below hb3)
  replace HH := Lib.hid (HH.out.below hb3)
  replace HB := Lib.hid (HB.out.trans (hb3.mono HB.out.size))
  clear hb3
  cases b with
  | false =>
    go_wp2_with fail
    go_ret
    exact ⟨rfl, HB.out⟩
  | true =>
  obtain ⟨hp, hrb, hnl, hna⟩ := hgt rfl
  cases hod : oddQ value with
  | true =>
    rw [hod] at HNM
    clear hp hrb hnl hna hod hgt
    go_wp2_with fail
    refine (HNM.out _).mono ?_
    rintro e w4 ⟨rfl, rfl⟩
    go_wp2_with fail
    go_ret
    exact ⟨rfl, HB.out⟩
  | false =>
  rw [hod] at HNM
  have hvn := oddQ_num hod
  obtain ⟨x, rnd, rfl, hD⟩ := deal_of_right hp hnl hna
  have hin := (rowsB_ok hrb).1
  have hlh := help_len hD.prog (rowsB_ok hrb).2
  obtain ⟨rn, rfl⟩ : ∃ rn : Nat, row = rn := ⟨row.toNat, by omega⟩
  have hrnl : rn < rows.length := by omega
  have hfw := hD.prog.few
  have HSH := Lib.hid (fun ww h1 h2 h3 => shares40_any (.slice a1 rows.length k1) (.slice a2 owners.length k2) (.slice a3 (x :: rnd).length k3) rows owners x rnd ww h1 h2 h3 hD hp)
  clear hgt hna hod hnl
  go_wp2_with fail
  refine (HNM.out _).mono ?_
  rintro e w4 ⟨rfl, rfl⟩
  go_wp2_with fail
  refine (HSH.out _ HR.out HO.out HN.out).mono ?_
  rintro e w5 ⟨al, cl, ac, cc, rfl, hsh, hcm, hb5⟩
  replace c0 := below_cell hb5 c0
  replace c1 := below_cell hb5 c1
  replace HR := Lib.hid (HR.out.below hb5)
  replace HO := Lib.hid (HO.out.below hb5)
  replace HN := Lib.hid (HN.out.below hb5)
  replace HH := Lib.hid (HH.out.below hb5)
  replace HB := Lib.hid (HB.out.trans (hb5.mono HB.out.size))
  clear hb5
  have HL := Lib.hid hsh
  clear hsh hcm HNM HRT HSH
  obtain ⟨W6, hW6, hb6, -, -⟩ := box_key w5 (.int .i64 0) (.slice a1 rows.length k1) (.slice a2 owners.length k2) (.slice ac (colsQ rows) cc) 38
  have HW6 := Lib.hid hW6
  clear hW6
  have zc0 := c0
  have zc1 := c1
  replace c0 := below_cell hb6 c0
  replace c1 := below_cell hb6 c1
  replace HR := Lib.hid (HR.out.below hb6)
  replace HO := Lib.hid (HO.out.below hb6)
  replace HN := Lib.hid (HN.out.below hb6)
  replace HH := Lib.hid (HH.out.below hb6)
  replace HL := Lib.hid (HL.out.below hb6)
  replace HB := Lib.hid (HB.out.trans (hb6.mono HB.out.size))
  clear hb6
  cases hok : rcombOk (someQ rows hs) (rows.getD (rn : Int).toNat []) with
  | true =>
    have HPL := Lib.hid (fun ww h1 h2 h3 => plan_good hp hrb hok hrow (by omega) (.slice a1 rows.length k1) (.slice a2 owners.length k2) (.slice a4 hs.length k4) ww h1 h2 h3)
    clear hok hp hrb hD hin hvn
    generalize colsQ rows = cq at *
    go_wp2_with (rw [← HW6.out])
    clear zc0 zc1
    refine (HPL.out _ HR.out HO.out HH.out).mono ?_
    rintro e w7 ⟨ya, yc, rfl, -, hb7⟩
    replace c0 := below_cell hb7 c0
    replace c1 := below_cell hb7 c1
    replace HR := Lib.hid (HR.out.below hb7)
    replace HO := Lib.hid (HO.out.below hb7)
    replace HN := Lib.hid (HN.out.below hb7)
    replace HH := Lib.hid (HH.out.below hb7)
    replace HL := Lib.hid (HL.out.below hb7)
    replace HB := Lib.hid (HB.out.trans (hb7.mono HB.out.size))
    clear hb7
    go_wp2_with fail
    go_ret
    exact ⟨rfl, HB.out⟩
  | false =>
  have HPL := Lib.hid (fun ww h1 h2 h3 => plan_bad hp hrb hok hrow (by omega) (.slice a1 rows.length k1) (.slice a2 owners.length k2) (.slice a4 hs.length k4) ww h1 h2 h3)
  obtain ⟨W, P, P2, x2, rnd2, hsep, hD2, hK⟩ := needK_of hD hrb hok hvn
  have HK := Lib.hid hK
  have HSH2 := Lib.hid (fun mv ww h1 h2 h3 => shares40_any (.slice a1 rows.length k1) (.slice a2 owners.length k2) mv rows owners x2 rnd2 ww h1 h2 h3 hD2 hp)
  have hhh := (rowsB_ok hrb).2
  have HSM := Lib.hid (fun ww h1 h3 => rSome_any (.slice a1 rows.length k1) (.slice a2 owners.length k2) (.slice a4 hs.length k4) rows rn hs ww h1 ⟨_, _, _, rfl⟩ h3 hhh (by omega))
  obtain ⟨hrl, hrn⟩ := row_right hD.prog hin
  have HRS := some_right hD.prog hhh
  have hex : examErr (someQ rows hs) (rows.getD (rn : Int).toNat []) = 0 := examErr_right (by rw [hrl]; exact HRS) hrn (by rw [hrl]; exact hD.prog.cols_le)
  have hgd : rows.getD (rn : Int).toNat [] = rows[rn] := by rw [Int.toNat_natCast]; exact getD_at hrnl []
  rw [hgd] at hex hsep
  have HSP := Lib.hid (fun v u ww (g1 : Rows2 ww v (someQ rows hs)) (g2 : Ints ww u rows[rn]) => Sep_yes v u (someQ rows hs) rows[rn] W ww g1 g2 hex hsep)
  obtain ⟨a5, k5, e5, -, -, hk5⟩ := id HR.out
  obtain ⟨b6, o6, r6, ea6, q6, i6⟩ := hk5 rn hrnl
  simp only [Value.slice.injEq] at e5
  obtain ⟨rfl, -, -⟩ := e5
  subst ea6
  obtain ⟨ra6, rc6, rfl, -⟩ := id i6
  have HI6 := Lib.hid i6
  clear hok hp hrb hD hin hsep hD2 hK hhh hrl hrn HRS hex hgd hk5 i6
  generalize colsQ rows = cq at *
  go_wp2_with (rw [← HW6.out])
  clear zc0 zc1
  refine (HPL.out _ HR.out HO.out HH.out).mono ?_
  rintro e w7 ⟨ya, yc, rfl, hb7⟩
  replace c0 := below_cell hb7 c0
  replace c1 := below_cell hb7 c1
  replace q6 := below_cell hb7 q6
  replace HR := Lib.hid (HR.out.below hb7)
  replace HO := Lib.hid (HO.out.below hb7)
  replace HN := Lib.hid (HN.out.below hb7)
  replace HH := Lib.hid (HH.out.below hb7)
  replace HL := Lib.hid (HL.out.below hb7)
  replace HI6 := Lib.hid (HI6.out.below hb7)
  replace HB := Lib.hid (HB.out.trans (hb7.mono HB.out.size))
  clear hb7
  go_wp2_with fail
  have hbd : Below w7.heap.size w7 w7.drew := (Below.refl _ _).drew
  replace HR := Lib.hid (HR.out.below hbd)
  replace HO := Lib.hid (HO.out.below hbd)
  replace HN := Lib.hid (HN.out.below hbd)
  replace HH := Lib.hid (HH.out.below hbd)
  replace HL := Lib.hid (HL.out.below hbd)
  replace HI6 := Lib.hid (HI6.out.below hbd)
  replace HB := Lib.hid (HB.out.drew)
  clear hbd
  have c0d : w7.drew.cell? ⟨w.heap.size, 0, none⟩ = some (.slice (some ⟨b6, o6, none⟩) rows.length k1) := c0
  have c1d : w7.drew.cell? ⟨w.heap.size, 1, none⟩ = some (.slice a2 owners.length k2) := c1
  have q6d : w7.drew.cell? ⟨b6, o6 + rn, none⟩ = some (.slice ra6 rows[rn].length rc6) := q6
  have i2 : (0 : Int) ≤ (rn : Int) := by omega
  have i3 : (rn : Int) < (rows.length : Int) := by omega
  clear c0 c1 q6 HPL
  go_region_held3 (fun w' => w'.cell? ⟨w.heap.size, 0, none⟩ = some (.slice (some ⟨b6, o6, none⟩) rows.length k1) ∧ w'.cell? ⟨w.heap.size, 1, none⟩ = some (.slice a2 owners.length k2) ∧ w'.cell? ⟨b6, o6 + rn, none⟩ = some (.slice ra6 rows[rn].length rc6)) (first | go_keep | exact ⟨c0d, c1d, q6d⟩ | exact ⟨z0, z1, z2⟩)
    (first
      | (go_at_call 29; (with_reducible refine (HSM.out _ HR.out HH.out).mono ?_); rintro e w8 ⟨sv, rfl, hs4, hb4⟩; have z0 := below_cell hb4 c0d; have z1 := below_cell hb4 c1d; have z2 := below_cell hb4 q6d; have HS4 := Lib.hid hs4; clear hs4; replace HR := Lib.hid (HR.out.below hb4); replace HO := Lib.hid (HO.out.below hb4); replace HN := Lib.hid (HN.out.below hb4); replace HH := Lib.hid (HH.out.below hb4); replace HL := Lib.hid (HL.out.below hb4); replace HI6 := Lib.hid (HI6.out.below hb4); replace HB := Lib.hid (HB.out.trans (hb4.mono HB.out.size)); clear hb4)
      | (go_at_call 28; (with_reducible refine (HSP.out _ _ _ HS4.out HI6.out).mono ?_); rintro e w9 ⟨wv, rfl, hy5, hb5⟩; have z0 := below_cell hb5 z0; have z1 := below_cell hb5 z1; have z2 := below_cell hb5 z2; have HWV := Lib.hid hy5; clear hy5; replace HR := Lib.hid (HR.out.below hb5); replace HO := Lib.hid (HO.out.below hb5); replace HN := Lib.hid (HN.out.below hb5); replace HH := Lib.hid (HH.out.below hb5); replace HL := Lib.hid (HL.out.below hb5); replace HI6 := Lib.hid (HI6.out.below hb5); replace HB := Lib.hid (HB.out.trans (hb5.mono HB.out.size)); clear hb5))
  all_goals
    obtain ⟨wa, wc, ew, -, -⟩ := id HWV.out
    rw [HK.out.lenW] at ew
    subst ew
    clear z2 c0d c1d q6d HI6 HS4 HSM HSP
    simp only [List.length_cons] at HN
    generalize dealL rows (x :: rnd) = D at *
    generalize dealL rows (x2 :: rnd2) = D2 at *
    generalize x :: rnd = numbers at *
    generalize x2 :: rnd2 = other at *
    generalize rnd.length + 1 = N at *
    obtain ⟨aS, cS, eS, -, -, -, hkS⟩ := HL.out
    have hnD : rn < D.length := by rw [HK.out.dlen]; exact hrnl
    obtain ⟨b2, o2, ea, qa, qb⟩ := hkS rn hnD
    simp only [Value.slice.injEq] at eS
    obtain ⟨rfl, -, -⟩ := eS
    subst ea
    rw [HK.out.dat rn hnD] at qb
    simp only at qb
    have hpn := HK.out.numP rn
    have HEL := Lib.hid HK.out.el
    have hNp := HK.out.pos
    have hN6 := HK.out.fewN
    clear hkS qa
    obtain ⟨p, hpe⟩ : ∃ p, p = P rn := ⟨_, rfl⟩
    rw [← hpe] at qb hpn HEL
    obtain ⟨d, hd⟩ : ∃ d, d = (value - p + 1073741789) % 1073741789 := ⟨_, rfl⟩
    rw [← hd] at HEL
    have hdn : 0 ≤ d ∧ d < 1073741789 := by omega
    have g1 : IntKind.i64.wrap (value - p) = value - p := by rw [IntKind.wrap_i64]; omega
    have g2 : IntKind.i64.wrap (value - p + 1073741789) = value - p + 1073741789 := by rw [IntKind.wrap_i64]; omega
    have g3 : (value - p + 1073741789).tmod 1073741789 = d := by rw [hd, Int.tmod_eq_emod_of_nonneg (by omega)]
    have g4 : (value - p) % 1073741789 = d := by omega
    have dN : ((N : Int) != (N : Int)) = false := by simp
    have h00 : w9.ownsRow w9.heap.size 3 1 (.slice none 0 0) 0 ((other.take 0).map (Value.int .i64)) := World.ownsRow_nil _ _ _ _
    clear hd hpe
    go_wp2_with fail
    clear g1 g2 g3 g4 qb
    go_loopw [21, 110] (fun L i W => ∃ k : Nat, k ≤ N ∧ i = .int .i64 k ∧ W.ownsRow w9.heap.size 3 1 L k ((other.take k).map (Value.int .i64)) ∧ Below w9.heap.size w9 W) (fun _ i _ => N - (intOf i).toNat)
    case atStart => exact ⟨0, Nat.zero_le _, rfl, h00, Below.refl _ _⟩
    case round =>
      clear h00
      obtain ⟨k, hkl, rfl, hown, hb⟩ := hrel
      by_cases hlt : k < N
      · obtain ⟨-, b3, o3, n3, k8, e3, q3⟩ := HN.out.get (k := k) (by rw [HK.out.lenN]; exact hlt)
        simp only [Value.slice.injEq] at e3
        obtain ⟨rfl, -, -⟩ := e3
        obtain ⟨-, b4, o4, n4, k9, e4, q4⟩ := HWV.out.get (k := k) (by rw [HK.out.lenW]; exact hlt)
        simp only [Value.slice.injEq] at e4
        obtain ⟨rfl, -, -⟩ := e4
        have y3 := below_cell hb q3
        have y4 := below_cell hb q4
        have hn := HK.out.numN k
        have hw := HK.out.numW k
        have HE := Lib.hid (HEL.out k hlt)
        have HT : Hid ((other.take (k + 1)).map (Value.int .i64) = (other.take k).map (Value.int .i64) ++ [.int .i64 (nth other k)]) := Lib.hid (by
          rw [List.take_succ_eq_append_getElem (by rw [HK.out.lenO]; exact hlt), List.map_append, nth_at (by rw [HK.out.lenO]; exact hlt)]; rfl)
        have HOW := Lib.hid hown
        have HBW := Lib.hid hb
        have i0 : (0 : Int) ≤ (k : Int) := by omega
        have i1 : (k : Int) < (N : Int) := by omega
        have hk6 : k ≤ 1000000 := by omega
        clear q3 q4 hown hb
        generalize nth numbers k = a at *
        generalize nth W k = v at *
        generalize nth other k = o at *
        have hdv := wrap_mulQ hdn hw
        have hod : oddQ v = false := oddQ_of hw
        have HNX := Lib.hid (rnumber40_any v wr)
        rw [hod] at HNX
        have hws : ∀ p q : Int, 0 ≤ p ∧ p ≤ 1152921429444920521 → 0 ≤ q ∧ q < 1073741789 → IntKind.i64.wrap p = p ∧ IntKind.i64.wrap (q + p) = q + p ∧ (q + p).tmod 1073741789 = (q + p) % 1073741789 := fun p q hp hq => ⟨by rw [IntKind.wrap_i64]; omega, by rw [IntKind.wrap_i64]; omega, by rw [Int.tmod_eq_emod_of_nonneg (by omega)]⟩
        obtain ⟨g1, g2, g3⟩ := hws _ _ hdv hn
        rw [← HE.out] at g3
        have HN9 := Lib.hid (below_new wr #[.int .i64 o] 3)
        have HOX := Lib.hid (own_keep HOW.out HN9.out)
        have HQ0 : Hid ((wr.alloc (.cells #[.int .i64 o] 3)).cell? ⟨wr.heap.size, 0, none⟩ = some (.int .i64 o)) := Lib.hid (row_cell (World.alloc_heap_new _ _) rfl)
        have HB9 := Lib.hid (HBW.out.trans (HN9.out.mono HBW.out.size))
        have HBS := Lib.hid HB9.out.size
        clear hws hod
        go_wp2_with fail
        refine (HNX.out).mono ?_
        rintro e w10 ⟨rfl, rfl⟩
        go_wp2_with (refine app_int rfl _ _ rfl w9.heap.size k _ _ rfl HOX.out wr.heap.size 1 o rfl HQ0.out hk6 HBS.out ?_; intro v9 w11 h9 o9; have H9 := Lib.hid h9; have O9 := Lib.hid o9; clear h9 o9)
        go_roundw
        case rel => exact ⟨k + 1, by omega, by go_num, by rw [HT.out]; exact H9.out, HB9.out.trans (own_below HOX.out O9.out HBS.out)⟩
        case measure => simp [intOf]; omega
      · obtain rfl : k = N := by omega
        have hdk : decide (k < k) = false := decide_eq_false (by omega)
        rw [List.take_of_length_le (by rw [HK.out.lenO]; omega)] at hown
        obtain ⟨La, Lc, eL⟩ := own_shape hown
        subst eL
        have HOI := Lib.hid (Ints.own (zs := other) hown (fun z hz => num_r64 (HK.out.numO z hz)) (by rw [HK.out.lenO]; omega))
        clear hown HWV HN
        replace z0 := below_cell hb z0
        replace z1 := below_cell hb z1
        replace HR := Lib.hid (HR.out.below hb)
        replace HO := Lib.hid (HO.out.below hb)
        replace HH := Lib.hid (HH.out.below hb)
        replace HL := Lib.hid (HL.out.below hb)
        replace HB := Lib.hid (HB.out.trans (hb.mono HB.out.size))
        clear hb
        obtain ⟨wl, hwl⟩ : ∃ wl : World, wl = wr := ⟨_, rfl⟩
        rw [← hwl] at HR HO HH HL HOI HB z0 z1 ⊢
        clear hwl
        go_wp2_with fail
        refine (HSH2.out _ _ HR.out HO.out HOI.out).mono ?_
        rintro e w12 ⟨al2, cl2, ac2, cc2, rfl, hsh2, -, hb12⟩
        replace z0 := below_cell hb12 z0
        replace z1 := below_cell hb12 z1
        replace HR := Lib.hid (HR.out.below hb12)
        replace HO := Lib.hid (HO.out.below hb12)
        replace HH := Lib.hid (HH.out.below hb12)
        replace HL := Lib.hid (HL.out.below hb12)
        replace HOI := Lib.hid (HOI.out.below hb12)
        replace HB := Lib.hid (HB.out.trans (hb12.mono HB.out.size))
        clear hb12
        have HL2 := Lib.hid hsh2
        clear hsh2 HOI HR HO HSH2
        obtain ⟨W13, hW13, hb13, -, -⟩ := box_key w12 (.int .i64 0) (.slice (some ⟨b6, o6, none⟩) rows.length k1) (.slice a2 owners.length k2) (.slice ac2 cq cc2) 38
        have HW13 := Lib.hid hW13
        clear hW13
        replace z0 := below_cell hb13 z0
        replace z1 := below_cell hb13 z1
        replace HH := Lib.hid (HH.out.below hb13)
        replace HL := Lib.hid (HL.out.below hb13)
        replace HL2 := Lib.hid (HL2.out.below hb13)
        replace HB := Lib.hid (HB.out.trans (hb13.mono HB.out.size))
        clear hb13
        obtain ⟨aT, cT, eT, -, -, -, hkT⟩ := HL2.out
        have hnE : rn < D2.length := by rw [HK.out.d2len]; exact hrnl
        obtain ⟨b7, o7, ea7, -, qd⟩ := hkT rn hnE
        simp only [Value.slice.injEq] at eT
        obtain ⟨rfl, -, -⟩ := eT
        subst ea7
        rw [HK.out.d2at rn hnE, HK.out.val] at qd
        simp only at qd
        have dvv : (value != value) = false := by simp
        have dvw : (value == value) = true := by simp
        clear hkT
        go_wp2_with (rw [← HW13.out])
        clear qd z0 z1
        go_loopw [154] (fun i W => ∃ k : Nat, k ≤ hs.length ∧ i = .int .i64 k ∧ Below W13.heap.size W13 W) (fun i _ => hs.length - (intOf i).toNat)
        case atStart => exact ⟨0, Nat.zero_le _, rfl, Below.refl _ _⟩
        case round =>
          obtain ⟨k, hkl, rfl, hb⟩ := hrel
          by_cases hlt : k < hs.length
          · obtain ⟨-, bh, oh, nh, kh, eh, qh⟩ := HH.out.get hlt
            simp only [Value.slice.injEq] at eh
            obtain ⟨rfl, -, -⟩ := eh
            obtain ⟨m, hm⟩ : ∃ m : Nat, nth hs k = m := ⟨(nth hs k).toNat, by have := HK.out.idx k hlt; omega⟩
            obtain ⟨hmr, hmp⟩ := HK.out.same m (by rw [← hm, nth_at hlt]; exact List.getElem_mem hlt)
            obtain ⟨aS, cS, eS, -, -, -, hkS⟩ := HL.out
            have hmD : m < D.length := by rw [HK.out.dlen]; exact hmr
            obtain ⟨b8, o8, ea8, qa, qb⟩ := hkS m hmD
            simp only [Value.slice.injEq] at eS
            obtain ⟨rfl, -, -⟩ := eS
            simp only [Option.some.injEq, Addr.mk.injEq] at ea8
            obtain ⟨rfl, rfl, -⟩ := ea8
            rw [HK.out.dat m hmD] at qa qb
            obtain ⟨aT, cT, eT, -, -, -, hkT⟩ := HL2.out
            have hmE : m < D2.length := by rw [HK.out.d2len]; exact hmr
            obtain ⟨b9, o9, ea9, qc, qd⟩ := hkT m hmE
            simp only [Value.slice.injEq] at eT
            obtain ⟨rfl, -, -⟩ := eT
            simp only [Option.some.injEq, Addr.mk.injEq] at ea9
            obtain ⟨rfl, rfl, -⟩ := ea9
            rw [HK.out.d2at m hmE, hmp] at qd
            rw [HK.out.d2at m hmE] at qc
            simp only at qa qb qc qd
            rw [hm] at qh
            have yh := below_cell hb qh
            have ya' := below_cell hb qa
            have yb := below_cell hb qb
            have yc' := below_cell hb qc
            have yd := below_cell hb qd
            have HBW := Lib.hid hb
            have i0 : (0 : Int) ≤ (k : Int) := by omega
            have i1 : (k : Int) < (hs.length : Int) := by omega
            have i4 : (0 : Int) ≤ (m : Int) := by omega
            have i5 : (m : Int) < (rows.length : Int) := by omega
            have e1 : ((m : Int) == (m : Int)) = true := by simp
            clear qa qb qc qd qh hb hm hmp hkS hkT
            generalize P m = v at *
            have e2 : (v == v) = true := by simp
            go_wp2_with fail
            go_quiet (fail)
            go_wp2_with fail
            go_roundw
            case rel => exact ⟨k + 1, by omega, by go_num, below_drewN HBW.out _⟩
            case measure => simp [intOf]; omega
          · obtain rfl : k = hs.length := by omega
            have hdk2 : decide (hs.length < hs.length) = false := decide_eq_false (by omega)
            replace HH := Lib.hid (HH.out.below hb)
            replace HL := Lib.hid (HL.out.below hb)
            replace HL2 := Lib.hid (HL2.out.below hb)
            replace HB := Lib.hid (HB.out.trans (hb.mono HB.out.size))
            clear hb
            go_wp2_with fail
            go_ret
            exact ⟨rfl, HB.out⟩

end Go.Proofs.Ytnbkbnbmmkfckaa
