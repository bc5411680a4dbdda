/- The laws of dealing: DealingHides, the walk. -/
import Derived.Test.YtbegnincmlepgaaMProH
namespace Go.Proofs.Ytbegnincmlepgaa
open Go.RowKit FP

/-- Numbers that are moved by a vector. -/
def movF (u wl : List Int) (b : Int) (i : Nat) : Int := (nth u i + b * nth wl (i + 1) % 1073741789) % 1073741789
def movQ (u wl : List Int) (b : Int) : List Int := (List.range u.length).map (movF u wl b)
theorem movQ_len (u wl : List Int) (b : Int) : (movQ u wl b).length = u.length := by simp [movQ]
theorem movQ_num (u wl : List Int) (b : Int) : ∀ z ∈ movQ u wl b, 0 ≤ z ∧ z < 1073741789 := fun z hz => by
  obtain ⟨i, -, rfl⟩ := List.mem_map.1 hz
  unfold movF; omega
theorem cv_cons_0 (x : Int) (u : List Int) : cv (x :: u) 0 = cq x := rfl
theorem cv_cons_s (x : Int) (u : List Int) (i : Nat) : cv (x :: u) (i + 1) = cv u i := rfl
theorem cv_mov {u wl : List Int} {b s z : Int} (hb : b = (z + (1073741789 - s)) % 1073741789) (hw : cv wl 0 = 1) {i : Nat} (hi : i < u.length + 1) : cv (z :: movQ u wl b) i = cv (s :: u) i + cq b * cv wl i := by
  cases i with
  | zero =>
    rw [cv_cons_0, cv_cons_0, hw, hb, cq_mod]
    have e : cq (z + (1073741789 - s)) = cq z + (- cq s) := by
      rw [show z + (1073741789 - s) = z + -s + 1073741789 by omega, cq_add, cq_add, cq_neg]
      have : cq 1073741789 = 0 := by decide +kernel
      rw [this]; grind
    rw [e]; grind
  | succ i =>
    rw [cv_cons_s, cv_cons_s]
    have h1 : nth (movQ u wl b) i = movF u wl b i := nth_map _ _ (by omega)
    show cq (nth (movQ u wl b) i) = _
    rw [h1]
    unfold movF
    rw [cq_mod, cq_add, cq_mod, cq_mul]
    rfl
theorem mov_prod {rows : List (List Int)} {owners who u wl : List Int} {b s z : Int} (hP : ProgOK rows owners) (hu : u.length + 1 = colsQ rows) (hb : b = (z + (1073741789 - s)) % 1073741789) (hw : provesQ (pownR rows owners who) (tgt (colsQ rows)) wl = true) {k : Nat} (hk : k ∈ ownL owners who rows.length) :
    prodQ (rows.getD k []) (z :: movQ u wl b) = prodQ (rows.getD k []) (s :: u) := by
  obtain ⟨hl, hker, h1⟩ := (proves_iff (pownR_right hP)).1 hw
  rw [tgt_len] at hl hker h1
  have hc := hP.cols
  have hw0 : cv wl 0 = 1 := by
    rw [← h1]
    unfold dt
    rw [sm_one (k := 0) (by omega) (fun i hi he => by rw [cv_tgt hi, if_neg he]; grind), cv_tgt (by omega), if_pos rfl]
    grind
  have hkl := (ownL_lt hk).1
  have hrl : (rows.getD k []).length = colsQ rows := by rw [getD_at hkl]; exact hP.row hkl
  have hz : dt (colsQ rows) (cv (rows.getD k [])) (cv wl) = 0 := by
    obtain ⟨j, hj, e⟩ := List.mem_iff_getElem.1 hk
    have hj2 : j < (pownR rows owners who).length := by simpa [pownR] using hj
    have := hker j hj2
    rw [← this]
    refine dt_congr (fun i _ => ?_) (fun _ _ => rfl)
    rw [fm_row _ hj2]
    have e2 : (pownR rows owners who)[j] = rows.getD k [] := by simp [pownR, e]
    rw [e2]
  refine cq_inj (prodQ_num _ _) (prodQ_num _ _) ?_
  rw [cq_prodQ, cq_prodQ, hrl]
  rw [dt_congr (v' := fun i => cv (s :: u) i + cq b * cv wl i) (fun _ _ => rfl) (fun i hi => cv_mov hb hw0 (by omega)), dt_add, dt_mul, hz]
  grind
theorem mov_of {rows : List (List Int)} {owners who u wl : List Int} {b s z : Int} (hP : ProgOK rows owners) (hp : peopleB (-1) who = true) (hu : u.length + 1 = colsQ rows) (hb : b = (z + (1073741789 - s)) % 1073741789) (hw : provesQ (pownR rows owners who) (tgt (colsQ rows)) wl = true) :
    ofQ owners who (dealL rows (z :: movQ u wl b)) = ofQ owners who (dealL rows (s :: u)) := by
  rw [of_deal hp, of_deal hp]
  refine List.map_congr_left fun k hk => ?_
  unfold dealF
  rw [mov_prod hP hu hb hw hk]

structure HiPack (rows : List (List Int)) (owners : List Int) (n : Nat) (s z b : Int) (u who wl m : List Int) (D1 D2 : List (Int × Int)) (C1 C2 : List Int) (P1 P2 : Nat → Int) : Prop where
  few : rows.length ≤ 16
  u64 : u.length ≤ 64
  wn : wl.length = u.length + 1
  bn : 0 ≤ b ∧ b < 1073741789
  em : m = movQ u wl b
  c1 : Deals rows owners n s u D1 C1
  d1 : Dealt rows n D1 C1 P1
  c2 : Deals rows owners n z m D2 C2
  d2 : Dealt rows n D2 C2 P2
  pl : who.length ≤ 64
  of : ofQ owners who D2 = ofQ owners who D1
  in1 : ∀ p ∈ D1, 0 ≤ p.1 ∧ p.1 < (owners.length : Int)
  in2 : ∀ p ∈ D2, 0 ≤ p.1 ∧ p.1 < (owners.length : Int)
theorem deal_in {rows : List (List Int)} {owners s : List Int} (hP : ProgOK rows owners) : ∀ p ∈ dealL rows s, 0 ≤ p.1 ∧ p.1 < (owners.length : Int) := fun p hq => by
  obtain ⟨k, hk, rfl⟩ := deal_mem hq
  have := hP.len
  exact ⟨by show (0 : Int) ≤ (k : Int); omega, by show (k : Int) < _; omega⟩
theorem hi_pack {rows : List (List Int)} {owners : List Int} {s z : Int} (hr : rows.length ≤ 16) (hp : progE rows owners = 0) (hs : 0 ≤ s ∧ s < 1073741789) (hz : 0 ≤ z ∧ z < 1073741789) (l who wl : List Int) (hw : peopleB (-1) who = true) (hq : refY rows owners who = some wl) :
    ∃ n m D1 D2 C1 C2 P1 P2, HiPack rows owners n s z ((z + (1073741789 - s)) % 1073741789) (randQ rows l) who wl m D1 D2 C1 C2 P1 P2 := by
  have h1 := rand_ok hp l hs
  have hP := h1.prog
  have hc := hP.cols
  have hcu := hP.cols_le
  have hpr : provesQ (pownR rows owners who) (tgt (colsQ rows)) wl = true := by
    unfold refY at hq
    rw [if_pos (questE_of hp hw)] at hq
    exact sep_some (pownR_right hP) hq
  have hl := ((proves_iff (pownR_right hP)).1 hpr).1
  rw [tgt_len] at hl
  have h2 : DealOK rows owners z (movQ (randQ rows l) wl ((z + (1073741789 - s)) % 1073741789)) := ⟨hP, hz, movQ_num _ _ _, by rw [movQ_len]; exact h1.len⟩
  exact ⟨_, _, _, _, _, _, _, _, ⟨hr, by rw [randQ_len]; omega, by rw [hl]; exact h1.len.symm, by omega, rfl, deals_of h1 hp, dealt_of h1, deals_of h2 hp, dealt_of h2, peopleB_len hw, mov_of hP hw h1.len rfl hpr, deal_in hP, deal_in hP⟩⟩

set_option maxRecDepth 100000 in
set_option maxHeartbeats 16000000 in
theorem dealingHides_any (rv ov lv : Value) (rows : List (List Int)) (owners : List Int) (a c : Int) (l : List Int) (bs : Int) (w : World) (hR : Rows2 w rv rows) (hO : Ints w ov owners) (ha : 0 ≤ a ∧ a < 4294967296) (hc : 0 ≤ c ∧ c < 4294967296) (hL : Words w lv l) (hbs : 0 ≤ bs ∧ bs < 18446744073709551616) :
    Calls Try.prog 11 #[.agg #[rv, ov], .int .u32 a, .int .u32 c, lv, .int .u64 bs] w fun e w' => e = .returned (.bool true) ∧ Below w.heap.size w w' := by
  obtain ⟨W1, hW1, hb1, hr1, hz⟩ := box_prog w rv ov 25
  have HR := Lib.hid (hR.below hb1)
  have HO := Lib.hid (hO.below hb1)
  have HL := Lib.hid (hL.below hb1)
  obtain ⟨ar, cap, rfl, -, hlen, -⟩ := id hR
  obtain ⟨a2, cap2, rfl, -, hlen2, -⟩ := id hO
  obtain ⟨a3, cap3, rfl, -, hlen3, -⟩ := id hL
  have c0 : W1.cell? ⟨w.heap.size, 0, none⟩ = some (.slice ar rows.length cap) := row_cell hr1 rfl
  have c1 : W1.cell? ⟨w.heap.size, 1, none⟩ = some (.slice a2 owners.length cap2) := row_cell hr1 rfl
  have HW1 := Lib.hid hW1
  have HB := Lib.hid hb1
  have HS := Lib.hid (sane34_any W1)
  clear hR hO hL hr1 hW1 hb1
  cases hsm : smallQ rows owners with
  | false =>
    have HSM := Lib.hid hsm
    clear hsm
    go_enter Try.func11, Try.ntmps11
    go_wp2_with fail
    rw [← HW1.out]
    refine (HS.out).mono ?_
    rintro e w2 ⟨rfl, hb2⟩
    replace c0 := below_cell hb2 c0
    replace c1 := below_cell hb2 c1
    replace HR := Lib.hid (HR.out.below hb2)
    replace HO := Lib.hid (HO.out.below hb2)
    replace HL := Lib.hid (HL.out.below hb2)
    replace HB := Lib.hid (HB.out.trans (hb2.mono HB.out.size))
    clear hb2
    go_wp2_with fail
    refine (rsmall_any _ _ rows owners _ HR.out HO.out).mono ?_
    rintro e w3 ⟨rfl, hb3⟩
    replace c0 := below_cell hb3 c0
    replace c1 := below_cell hb3 c1
    replace HR := Lib.hid (HR.out.below hb3)
    replace HO := Lib.hid (HO.out.below hb3)
    replace HL := Lib.hid (HL.out.below hb3)
    replace HB := Lib.hid (HB.out.trans (hb3.mono HB.out.size))
    clear hb3
    rw [HSM.out]
    go_wp2_with fail
    go_ret
    exact ⟨rfl, HB.out⟩
  | true =>
    have HSM := Lib.hid hsm
    obtain ⟨hrl, hp0, hcl⟩ := small_ok hsm
    have HPE := Lib.hid (fun w => people_any bs w hbs.1 hbs.2)
    have HPR := Lib.hid (people_right bs)
    obtain ⟨who, hwho⟩ : ∃ who, who = peopleQ bs := ⟨_, rfl⟩
    rw [← hwho] at HPE HPR
    have HQE : Hid (questE rows owners who = 0) := Lib.hid (questE_of hp0 HPR.out)
    have HRL := Lib.hid hrl
    have HP0 := Lib.hid hp0
    have HA := Lib.hid ha
    have HC := Lib.hid hc
    clear hsm hwho hbs hp0 ha hc
    go_enter Try.func11, Try.ntmps11
    go_wp2_with fail
    rw [← HW1.out]
    refine (HS.out).mono ?_
    rintro e w2 ⟨rfl, hb2⟩
    replace c0 := below_cell hb2 c0
    replace c1 := below_cell hb2 c1
    replace HR := Lib.hid (HR.out.below hb2)
    replace HO := Lib.hid (HO.out.below hb2)
    replace HL := Lib.hid (HL.out.below hb2)
    replace HB := Lib.hid (HB.out.trans (hb2.mono HB.out.size))
    clear hb2
    go_wp2_with fail
    refine (rsmall_any _ _ rows owners _ HR.out HO.out).mono ?_
    rintro e w3 ⟨rfl, hb3⟩
    replace c0 := below_cell hb3 c0
    replace c1 := below_cell hb3 c1
    replace HR := Lib.hid (HR.out.below hb3)
    replace HO := Lib.hid (HO.out.below hb3)
    replace HL := Lib.hid (HL.out.below hb3)
    replace HB := Lib.hid (HB.out.trans (hb3.mono HB.out.size))
    clear hb3
    rw [HSM.out]
    go_wp2_with fail
    refine (HPE.out _).mono ?_
    rintro e w6 ⟨wv, rfl, hwv, hb6⟩
    replace c0 := below_cell hb6 c0
    replace c1 := below_cell hb6 c1
    replace HR := Lib.hid (HR.out.below hb6)
    replace HO := Lib.hid (HO.out.below hb6)
    replace HL := Lib.hid (HL.out.below hb6)
    replace HB := Lib.hid (HB.out.trans (hb6.mono HB.out.size))
    clear hb6
    have HWH := Lib.hid hwv
    obtain ⟨aw, cw, rfl, -⟩ := id hwv
    clear hwv
    go_wp2_with fail
    refine (refuses_any _ _ _ rows owners who _ HR.out HO.out HWH.out).mono ?_
    rintro e w7 ⟨yv, rfl, hyv, hb7⟩
    replace c0 := below_cell hb7 c0
    replace c1 := below_cell hb7 c1
    replace HR := Lib.hid (HR.out.below hb7)
    replace HO := Lib.hid (HO.out.below hb7)
    replace HL := Lib.hid (HL.out.below hb7)
    replace HWH := Lib.hid (HWH.out.below hb7)
    replace HB := Lib.hid (HB.out.trans (hb7.mono HB.out.size))
    clear hb7
    rw [HQE.out]
    cases hq : refY rows owners who with
    | none =>
      rw [hq] at hyv
      obtain ⟨ya, yc, rfl, -⟩ := id hyv
      clear hyv hq
      go_wp2_with fail
      go_ret
      exact ⟨rfl, HB.out⟩
    | some wl =>
      rw [hq] at hyv
      have HY : Hid (Ints w7 yv wl) := Lib.hid hyv
      obtain ⟨ya, yc, rfl, -⟩ := id HY.out
      clear hyv
      obtain ⟨s, hs⟩ : ∃ s, s = a % 1073741789 := ⟨_, rfl⟩
      obtain ⟨z, hzz⟩ : ∃ z, z = c % 1073741789 := ⟨_, rfl⟩
      have ha0 := HA.out.1
      have ha1 := HA.out.2
      have hcc0 := HC.out.1
      have hcc1 := HC.out.2
      have hsn : 0 ≤ s ∧ s < 1073741789 := by omega
      have hzn : 0 ≤ z ∧ z < 1073741789 := by omega
      have HRD := Lib.hid (fun W v ww h1 h2 h3 => random_any (.slice ar rows.length cap) (.slice a2 owners.length cap2) v rows owners ww W h1 h2 h3 (progE_ok HP0.out))
      obtain ⟨n, m, D1, D2, C1, C2, P1, P2, hK⟩ := hi_pack HRL.out HP0.out hsn hzn l who wl HPR.out hq
      have HK := Lib.hid hK
      have hm1 : a.tmod 1073741789 = s := by rw [hs, Int.tmod_eq_emod_of_nonneg ha0]
      have hw1 : IntKind.i64.wrap a = a := IntWalk.i64_in _ (by omega)
      have hm2 : c.tmod 1073741789 = z := by rw [hzz, Int.tmod_eq_emod_of_nonneg hcc0]
      have hw2 : IntKind.i64.wrap c = c := IntWalk.i64_in _ (by omega)
      have hw3 : IntKind.i64.wrap (1073741789 - s) = 1073741789 - s := IntWalk.i64_in _ (by omega)
      have HADD := Lib.hid (fun w => add_any z (1073741789 - s) w (num_r64 hzn) (R64.mk (by omega) (by omega)))
      obtain ⟨b, hb⟩ : ∃ b, b = (z + (1073741789 - s)) % 1073741789 := ⟨_, rfl⟩
      rw [← hb] at HK HADD
      obtain ⟨u, hu⟩ : ∃ u, u = randQ rows l := ⟨_, rfl⟩
      rw [← hu] at HK
      have HU := Lib.hid hu
      have HS1 := Lib.hid hs
      have HZ1 := Lib.hid hzz
      have hs0 := hsn.1
      have hs1 := hsn.2
      clear hq hs hzz hK hb hu hzn hsn
      go_wp2_with fail
      try rw [← HS1.out]
      try rw [← HZ1.out]
      refine (HRD.out _ _ _ HR.out HO.out HL.out).mono ?_
      rintro e w8 ⟨rn, rfl, hrn, hb8⟩
      replace c0 := below_cell hb8 c0
      replace c1 := below_cell hb8 c1
      replace HR := Lib.hid (HR.out.below hb8)
      replace HO := Lib.hid (HO.out.below hb8)
      replace HL := Lib.hid (HL.out.below hb8)
      replace HWH := Lib.hid (HWH.out.below hb8)
      replace HY := Lib.hid (HY.out.below hb8)
      replace HB := Lib.hid (HB.out.trans (hb8.mono HB.out.size))
      clear hb8
      have HRU : Hid (Ints w8 rn u) := Lib.hid (HU.out ▸ hrn)
      clear hrn
      obtain ⟨ru, cu, rfl, -⟩ := id HRU.out
      have hwn := HK.out.wn
      have hu64 := HK.out.u64
      have hne : ((wl.length : Int) != (u.length : Int) + 1) = false := by rw [hwn]; simp
      have HWN := Lib.hid hwn
      clear hwn
      go_wp2_with fail
      refine (HADD.out _).mono ?_
      rintro e w9 ⟨rfl, hb9⟩
      replace c0 := below_cell hb9 c0
      replace c1 := below_cell hb9 c1
      replace HR := Lib.hid (HR.out.below hb9)
      replace HO := Lib.hid (HO.out.below hb9)
      replace HWH := Lib.hid (HWH.out.below hb9)
      replace HY := Lib.hid (HY.out.below hb9)
      replace HRU := Lib.hid (HRU.out.below hb9)
      replace HB := Lib.hid (HB.out.trans (hb9.mono HB.out.size))
      clear hb9
      have h00 : (w9.alloc (.cells #[] 3)).ownsRow w9.heap.size 3 1 (.slice (some ⟨w9.heap.size, 0, none⟩) 0 0) 0 (((List.range 0).map (movF u wl b)).map (Value.int .i64)) := World.ownsRow_made _ #[] 0 (Nat.le_refl _) (by unfold maxLen; omega) rfl
      have hba := below_new w9 #[] 3
      go_wp2_with fail
      go_loopw [19, 69] (fun L i W => ∃ k : Nat, k ≤ u.length ∧ i = .int .i64 k ∧ W.ownsRow w9.heap.size 3 1 L k (((List.range k).map (movF u wl b)).map (Value.int .i64)) ∧ Below w9.heap.size w9 W) (fun _ i _ => u.length - (intOf i).toNat)
      case atStart => exact ⟨0, Nat.zero_le _, rfl, h00, hba⟩
      case round =>
        clear h00 hba
        obtain ⟨k, hkl, rfl, hown, hbk⟩ := hrel
        by_cases hlt : k < u.length
        · obtain ⟨hrx, b1, o1, n1, k1, e1, q1⟩ := HRU.out.get hlt
          obtain ⟨hry, b2, o2, n2, k2, e2, q2⟩ := HY.out.get (k := k + 1) (by rw [HWN.out]; omega)
          simp only [Value.slice.injEq] at e1 e2
          obtain ⟨rfl, -, -⟩ := e1
          obtain ⟨rfl, -, -⟩ := e2
          have y1 := below_cell hbk q1
          have y2 := below_cell hbk q2
          have HT : Hid (((List.range (k + 1)).map (movF u wl b)).map (Value.int .i64) = ((List.range k).map (movF u wl b)).map (Value.int .i64) ++ [.int .i64 ((nth u k + b * nth wl (k + 1) % 1073741789) % 1073741789)]) := Lib.hid (by rw [range_snoc, List.map_append]; rfl)
          have HOW := Lib.hid hown
          have HBW := Lib.hid hbk
          have i0 : 0 ≤ (k : Int) := by omega
          have i1 : (k : Int) < (u.length : Int) := by omega
          have i2 : 0 ≤ (k : Int) + 1 := by omega
          have i3 : (k : Int) + 1 < (wl.length : Int) := by have := HWN.out; omega
          have hk6 : k ≤ 1000000 := by omega
          clear q1 q2 hown hbk
          generalize nth u k = x at *
          generalize nth wl (k + 1) = y at *
          have hbr := num_r64 HK.out.bn
          have hmy := mod_r64 (b * y)
          go_wp2_with fail
          with_reducible refine (mul_any b y _ hbr hry).mono ?_
          rintro e w10 ⟨rfl, rfl⟩
          go_wp2_with fail
          with_reducible refine (add_any x (b * y % 1073741789) _ hrx hmy).mono ?_
          rintro e w6' ⟨rfl, hb6⟩
          have HN7 := Lib.hid (hb6.alloc hb6.size (.cells #[.int .i64 ((x + b * y % 1073741789) % 1073741789)] 3))
          clear hb6
          have HOX := Lib.hid (own_keep HOW.out HN7.out)
          have HB9 := Lib.hid (HBW.out.trans (HN7.out.mono HBW.out.size))
          have HBS := Lib.hid HB9.out.size
          have HQ0 := Lib.hid (show (w6'.alloc (.cells #[.int .i64 ((x + b * y % 1073741789) % 1073741789)] 3)).cell? ⟨w6'.heap.size, 0, none⟩ = some (.int .i64 ((x + b * y % 1073741789) % 1073741789)) from row_cell (World.alloc_heap_new _ _) rfl)
          obtain ⟨v, hv⟩ : ∃ v, v = (x + b * y % 1073741789) % 1073741789 := ⟨_, rfl⟩
          rw [← hv] at HOX HB9 HBS HQ0 HT ⊢
          clear hv HN7
          go_wp2_with (refine app_int rfl _ _ rfl w9.heap.size k _ _ rfl HOX.out w6'.heap.size 1 v rfl HQ0.out hk6 HBS.out ?_; intro v9 wx h9 o9; have H9 := Lib.hid h9; have O9 := Lib.hid o9; clear h9 o9)
          go_roundw
          case rel => exact ⟨k + 1, by omega, by go_num, by rw [HT.out]; exact H9.out, HB9.out.trans (own_below HOX.out O9.out HBS.out)⟩
          case measure => simp [intOf]; omega
        · obtain rfl : k = u.length := by omega
          have HMV := Lib.hid (Ints.own (zs := movQ u wl b) hown (fun z hz => num_r64 (movQ_num _ _ _ z hz)) (by rw [movQ_len]; omega))
          replace c0 := below_cell hbk c0
          replace c1 := below_cell hbk c1
          replace HR := Lib.hid (HR.out.below hbk)
          replace HO := Lib.hid (HO.out.below hbk)
          replace HWH := Lib.hid (HWH.out.below hbk)
          replace HY := Lib.hid (HY.out.below hbk)
          replace HRU := Lib.hid (HRU.out.below hbk)
          replace HB := Lib.hid (HB.out.trans (hbk.mono HB.out.size))
          clear hbk
          have hdk : decide (u.length < u.length) = false := decide_eq_false (by omega)
          obtain ⟨wx, hwx⟩ : ∃ wx : World, wx = wr := ⟨_, rfl⟩
          rw [← hwx] at HR HO HB HWH HY HRU HMV c0 c1 ⊢
          clear hown hwx
          rw [← HK.out.em] at HMV
          obtain ⟨r3, c3, e3, -⟩ := id HMV.out
          clear e3
          go_wp2_with fail
          refine (HK.out.c1 _ _ _ _ HR.out HO.out HRU.out).mono ?_
          rintro e w11 ⟨al1, cl1, ac1, cc1, rfl, hsh, hcm, hb11⟩
          replace c0 := below_cell hb11 c0
          replace c1 := below_cell hb11 c1
          replace HR := Lib.hid (HR.out.below hb11)
          replace HO := Lib.hid (HO.out.below hb11)
          replace HWH := Lib.hid (HWH.out.below hb11)
          replace HY := Lib.hid (HY.out.below hb11)
          replace HRU := Lib.hid (HRU.out.below hb11)
          replace HMV := Lib.hid (HMV.out.below hb11)
          replace HB := Lib.hid (HB.out.trans (hb11.mono HB.out.size))
          clear hb11
          have HD1 := Lib.hid hsh
          clear hsh hcm
          go_wp2_with fail
          refine (HK.out.c2 _ _ _ _ HR.out HO.out HMV.out).mono ?_
          rintro e w12 ⟨al2, cl2, ac2, cc2, rfl, hsh, hcm, hb12⟩
          replace c0 := below_cell hb12 c0
          replace c1 := below_cell hb12 c1
          replace HR := Lib.hid (HR.out.below hb12)
          replace HO := Lib.hid (HO.out.below hb12)
          replace HWH := Lib.hid (HWH.out.below hb12)
          replace HY := Lib.hid (HY.out.below hb12)
          replace HRU := Lib.hid (HRU.out.below hb12)
          replace HMV := Lib.hid (HMV.out.below hb12)
          replace HD1 := Lib.hid (HD1.out.below hb12)
          replace HB := Lib.hid (HB.out.trans (hb12.mono HB.out.size))
          clear hb12
          have HD2 := Lib.hid hsh
          clear hsh hcm
          clear HMV HRU HY
          have hzz : ((rows.length : Int) != (rows.length : Int)) = false := by simp
          go_wp2_with fail
          go_loopw [127] (fun i W => ∃ k : Nat, k ≤ rows.length ∧ i = .int .i64 k ∧ W = w12) (fun i _ => rows.length - (intOf i).toNat)
          case atStart => exact ⟨0, Nat.zero_le _, rfl, rfl⟩
          case round =>
            obtain ⟨k, hkl, rfl, rfl⟩ := hrel
            by_cases hlt : k < rows.length
            · obtain ⟨aS, cS, eS, -, -, -, hk1⟩ := HD1.out
              obtain ⟨b1, o1, ea, qa, -⟩ := hk1 k (by rw [HK.out.d1.len]; exact hlt)
              simp only [Value.slice.injEq] at eS
              obtain ⟨rfl, -, -⟩ := eS
              subst ea
              obtain ⟨aT, cT, eT, -, -, -, hk2⟩ := HD2.out
              obtain ⟨b2, o2, ea2, qc, -⟩ := hk2 k (by rw [HK.out.d2.len]; exact hlt)
              simp only [Value.slice.injEq] at eT
              obtain ⟨rfl, -, -⟩ := eT
              subst ea2
              rw [HK.out.d1.at_] at qa
              rw [HK.out.d2.at_] at qc
              simp only at qa qc
              have i0 : 0 ≤ (k : Int) := by omega
              have i1 : (k : Int) < (rows.length : Int) := by omega
              have hkk : ((k : Int) != (k : Int)) = false := by simp
              have hrl16 := HRL.out
              clear hk1 hk2
              go_wp2_with fail
              go_roundw
              case rel => exact ⟨k + 1, by omega, by go_num, by trivial⟩
              case measure => simp [intOf]; omega
            · obtain rfl : k = rows.length := by omega
              have hdk2 : decide (rows.length < rows.length) = false := decide_eq_false (by omega)
              have HOF1 := Lib.hid (fun W h1 h2 h3 => of_any (.slice ar rows.length cap) (.slice a2 owners.length cap2) (.slice al1 rows.length cl1) (.slice aw who.length cw) owners who D1 W ⟨_, _, _, rfl⟩ h1 h2 h3 (by have := HK.out.d1.len; have := HK.out.few; omega) (by have := HK.out.pl; omega) HK.out.in1)
              have HOF2 := Lib.hid (fun W h1 h2 h3 => of_any (.slice ar rows.length cap) (.slice a2 owners.length cap2) (.slice al2 rows.length cl2) (.slice aw who.length cw) owners who D2 W ⟨_, _, _, rfl⟩ h1 h2 h3 (by have := HK.out.d2.len; have := HK.out.few; omega) (by have := HK.out.pl; omega) HK.out.in2)
              rw [HK.out.of] at HOF2
              obtain ⟨F, hF⟩ : ∃ F, F = ofQ owners who D1 := ⟨_, rfl⟩
              rw [← hF] at HOF1 HOF2
              have HSS : Hid (sameS F F = true) := Lib.hid (decide_eq_true rfl)
              clear hF
              have hbd : Below wr.heap.size wr wr.drew := (Below.refl _ _).drew
              replace HR := Lib.hid (HR.out.below hbd)
              replace HO := Lib.hid (HO.out.below hbd)
              replace HWH := Lib.hid (HWH.out.below hbd)
              replace HD1 := Lib.hid (HD1.out.below hbd)
              replace HD2 := Lib.hid (HD2.out.below hbd)
              replace HB := Lib.hid (HB.out.drew)
              clear hbd
              go_wp2_with fail
              go_region_held3 (fun w' => w'.cell? ⟨w.heap.size, 0, none⟩ = some (.slice ar rows.length cap) ∧ w'.cell? ⟨w.heap.size, 1, none⟩ = some (.slice a2 owners.length cap2)) (first | go_keep | exact ⟨c0, c1⟩)
                (first
                  | (go_at_call 42; (with_reducible refine (HOF1.out _ HO.out HD1.out HWH.out).mono ?_); rintro e wq ⟨fv, rfl, hfv, hb13⟩; have HF1 := Lib.hid hfv; clear hfv; (try replace HF2 := Lib.hid (HF2.out.below hb13)); replace c0 := below_cell hb13 c0; replace c1 := below_cell hb13 c1; replace HR := Lib.hid (HR.out.below hb13); replace HO := Lib.hid (HO.out.below hb13); replace HWH := Lib.hid (HWH.out.below hb13); replace HD1 := Lib.hid (HD1.out.below hb13); replace HD2 := Lib.hid (HD2.out.below hb13); replace HB := Lib.hid (HB.out.trans (hb13.mono HB.out.size)); clear hb13)
                  | (go_at_call 42; (with_reducible refine (HOF2.out _ HO.out HD2.out HWH.out).mono ?_); rintro e wq ⟨fv, rfl, hfv, hb14⟩; have HF2 := Lib.hid hfv; clear hfv; (try replace HF1 := Lib.hid (HF1.out.below hb14)); replace c0 := below_cell hb14 c0; replace c1 := below_cell hb14 c1; replace HR := Lib.hid (HR.out.below hb14); replace HO := Lib.hid (HO.out.below hb14); replace HWH := Lib.hid (HWH.out.below hb14); replace HD1 := Lib.hid (HD1.out.below hb14); replace HD2 := Lib.hid (HD2.out.below hb14); replace HB := Lib.hid (HB.out.trans (hb14.mono HB.out.size)); clear hb14)
                  | (go_at_call 19; (with_reducible refine (rsame_any _ _ F F _ HF1.out HF2.out).mono ?_); rintro e wq ⟨rfl, hb15⟩; rw [HSS.out]; replace c0 := below_cell hb15 c0; replace c1 := below_cell hb15 c1; replace HR := Lib.hid (HR.out.below hb15); replace HO := Lib.hid (HO.out.below hb15); replace HWH := Lib.hid (HWH.out.below hb15); replace HD1 := Lib.hid (HD1.out.below hb15); replace HD2 := Lib.hid (HD2.out.below hb15); replace HB := Lib.hid (HB.out.trans (hb15.mono HB.out.size)); clear hb15))
              all_goals
                go_wp2_with fail
                go_ret
                exact ⟨rfl, HB.out⟩

end Go.Proofs.Ytbegnincmlepgaa
