/- The laws of dealing: the shares of people (the reference's Of). The laws of dealing: DealingEnough, the walk. -/
import Derived.Test.YtbegnincmlepgaaMProF
namespace Go.Proofs.Ytbegnincmlepgaa
open Go.RowKit FP

def ofQ (owners who : List Int) (l : List (Int × Int)) : List (Int × Int) := l.flatMap fun s => List.replicate (who.count (nth owners s.1.toNat)) s
theorem ofQ_len (owners who : List Int) : ∀ l : List (Int × Int), (ofQ owners who l).length ≤ l.length * who.length
  | [] => by simp [ofQ]
  | s :: l => by
    have ih := ofQ_len owners who l
    unfold ofQ at ih ⊢
    rw [List.flatMap_cons, List.length_append, List.length_replicate, List.length_cons, Nat.add_mul, Nat.one_mul]
    have := List.count_le_length (a := nth owners s.1.toNat) (l := who)
    omega
theorem ofQ_take {owners who : List Int} {l : List (Int × Int)} {i : Nat} (h : i < l.length) : ofQ owners who (l.take (i + 1)) = ofQ owners who (l.take i) ++ List.replicate (who.count (nth owners l[i].1.toNat)) l[i] := by
  unfold ofQ
  rw [List.take_succ_eq_append_getElem h, List.flatMap_append]; simp
theorem count_take {who : List Int} {x : Int} {k : Nat} (h : k < who.length) : (who.take (k + 1)).count x = (who.take k).count x + (if who[k] = x then 1 else 0) := by
  rw [List.take_succ_eq_append_getElem h, List.count_append, List.count_singleton]
  by_cases e : who[k] = x
  · simp [e]
  · simp [e]
theorem rep_next {α : Type} (n : Nat) (s : α) : List.replicate (n + 1) s = List.replicate n s ++ [s] := List.replicate_succ'

set_option maxRecDepth 100000 in
set_option maxHeartbeats 4000000 in
theorem of_any (rv ov lv wv : Value) (owners who : List Int) (l : List (Int × Int)) (w : World) (hr : ∃ a n c, rv = .slice a n c) (hO : Ints w ov owners) (hL : Shares w lv l) (hW : Ints w wv who) (hl : l.length ≤ 100) (hw : who.length ≤ 100) (hin : ∀ p ∈ l, 0 ≤ p.1 ∧ p.1 < (owners.length : Int)) :
    Calls Try.prog 42 #[.agg #[rv, ov], lv, wv] w fun e w' => ∃ v, e = .returned v ∧ Shares w' v (ofQ owners who l) ∧ Below w.heap.size w w' := by
  obtain ⟨ra, rn, rc, rfl⟩ := hr
  obtain ⟨W1, hW1, hb1, hr1, hz⟩ := box_prog w (.slice ra rn rc) ov 25
  have HO := Lib.hid (hO.below hb1)
  have HL := Lib.hid (hL.below hb1)
  have HWH := Lib.hid (hW.below hb1)
  obtain ⟨a2, cap2, rfl, -, hlen2, -⟩ := id hO
  obtain ⟨a3, cap3, rfl, -, hlen3, hr64, -⟩ := id hL
  obtain ⟨a4, cap4, rfl, -, hlen4, -⟩ := id hW
  have c1 : W1.cell? ⟨w.heap.size, 1, none⟩ = some (.slice a2 owners.length cap2) := row_cell hr1 rfl
  have HB := Lib.hid hb1
  have HW1 := Lib.hid hW1
  have hz1 : W1.heap.size = w.heap.size + 1 := by rw [hW1]; simp
  have HIN := Lib.hid hin
  have HR64 := Lib.hid hr64
  clear hO hL hW hr1 hW1 hb1 hin hr64
  have h00 : (W1.alloc (.cells #[] 37)).ownsRow W1.heap.size 37 2 (.slice (some ⟨w.heap.size + 1, 0, none⟩) 0 0) (ofQ owners who (l.take 0)).length ((ofQ owners who (l.take 0)).flatMap shaC) := by
    rw [show ofQ owners who (l.take 0) = [] by simp [ofQ], ← hz1]; exact World.ownsRow_made _ #[] 0 (Nat.le_refl _) (by unfold maxLen; omega) rfl
  have hba := below_new W1 #[] 37
  clear hz1
  go_enter Try.func42, Try.ntmps42
  go_wp2_with fail
  rw [← HW1.out]
  go_loopw [7, 8, 9, 10] (fun L i _ _ W => ∃ k : Nat, k ≤ l.length ∧ i = .int .i64 k ∧ W.ownsRow W1.heap.size 37 2 L (ofQ owners who (l.take k)).length ((ofQ owners who (l.take k)).flatMap shaC) ∧ Below W1.heap.size W1 W) (fun _ i _ _ _ => l.length - (intOf i).toNat)
  case atStart => exact ⟨0, Nat.zero_le _, rfl, h00, hba⟩
  case round =>
    clear h00 hba
    obtain ⟨i, hil, rfl, hown, hb⟩ := hrel
    by_cases hlt : i < l.length
    · obtain ⟨aS, cS, eS, -, -, -, hk1⟩ := HL.out
      obtain ⟨b1, o1, ea, qa, qb⟩ := hk1 i hlt
      simp only [Value.slice.injEq] at eS
      obtain ⟨rfl, -, rfl⟩ := eS
      subst ea
      obtain ⟨in0, in1⟩ := HIN.out _ (List.getElem_mem hlt)
      obtain ⟨n, hn⟩ : ∃ n : Nat, l[i].1 = n := ⟨l[i].1.toNat, by omega⟩
      have hno : n < owners.length := by omega
      obtain ⟨hr64x, b2, o2, n2, k2, e2, q2⟩ := HO.out.get hno
      simp only [Value.slice.injEq] at e2
      obtain ⟨rfl, -, -⟩ := e2
      have HTK : Hid (ofQ owners who (l.take (i + 1)) = ofQ owners who (l.take i) ++ List.replicate (who.count (nth owners n)) ((n : Int), l[i].2)) := Lib.hid (by
        rw [ofQ_take hlt, hn, Int.toNat_natCast]
        congr 2
        exact Prod.ext hn rfl)
      rw [hn] at qa
      have QA := Lib.hid qa
      have QB := Lib.hid qb
      have y1 := below_cell hb qa
      have y2 := below_cell hb qb
      have y3 := below_cell hb q2
      have z1 := below_cell hb c1
      have HBW := Lib.hid hb
      have HOW := Lib.hid hown
      have hlen := ofQ_len owners who (l.take i)
      have hofl : (ofQ owners who (l.take i)).length ≤ 10000 := by
        have h1 : (l.take i).length ≤ 100 := by simp; omega
        have := Nat.mul_le_mul h1 hw
        omega
      have i0 : 0 ≤ (i : Int) := by omega
      have i1 : (i : Int) < (l.length : Int) := by omega
      have i2 : 0 ≤ (n : Int) := by omega
      have i3 : (n : Int) < (owners.length : Int) := by omega
      clear hk1 qa qb q2 hb hown hlen in0 in1 hn
      generalize l[i].2 = v1 at *
      generalize nth owners n = x at *
      obtain ⟨F, hF⟩ : ∃ F, F = ofQ owners who (l.take i) := ⟨_, rfl⟩
      rw [← hF] at HTK HOW hofl
      clear hF
      go_wp2_with fail
      go_region_held3 (fun w' => w'.cell? ⟨w.heap.size, 1, none⟩ = some (.slice (some ⟨b2, o2, none⟩) owners.length cap2) ∧ w'.cell? ⟨b1, o1 + i * 2, none⟩ = some (.int .i64 n) ∧ w'.cell? ⟨b2, o2 + n, none⟩ = some (.int .i64 x)) (go_keep) (fail)
      go_wp2_with fail
      have h01 : wr.drew.ownsRow W1.heap.size 37 2 u7 (F.length + (who.take 0).count x) ((F ++ List.replicate ((who.take 0).count x) ((n : Int), v1)).flatMap shaC) := by
        simp; exact HOW.out.drew
      have hb1d : Below W1.heap.size W1 wr.drew := HBW.out.drew
      obtain ⟨wd, hwd⟩ : ∃ wd, wd = wr.drew := ⟨_, rfl⟩
      rw [← hwd] at h01 hb1d ⊢
      clear hwd y1 y2 y3 z1 HOW HBW
      go_loopw [7, 10] (fun L k W => ∃ j : Nat, j ≤ who.length ∧ k = .int .i64 j ∧ W.ownsRow W1.heap.size 37 2 L (F.length + (who.take j).count x) ((F ++ List.replicate ((who.take j).count x) ((n : Int), v1)).flatMap shaC) ∧ Below W1.heap.size W1 W) (fun _ k _ => who.length - (intOf k).toNat)
      case atStart => exact ⟨0, Nat.zero_le _, rfl, h01, hb1d⟩
      case round =>
        clear h01 hb1d
        obtain ⟨j, hjl, rfl, hown, hb⟩ := hrel
        by_cases hjt : j < who.length
        · obtain ⟨-, b3, o3, n3, k3, e3, q3⟩ := HWH.out.get hjt
          simp only [Value.slice.injEq] at e3
          obtain ⟨rfl, -, -⟩ := e3
          have HCT := Lib.hid (count_take (x := x) hjt)
          rw [← nth_at hjt] at HCT
          have y1 := below_cell hb QA.out
          have y2 := below_cell hb QB.out
          have y3 := below_cell hb q3
          have HBW := Lib.hid hb
          have HOW := Lib.hid hown
          have hct : ((who.take j).count x) ≤ 100 := by
            have h1 := List.count_le_length (a := x) (l := who.take j)
            have h2 : (who.take j).length ≤ who.length := by simp; omega
            omega
          have j0 : 0 ≤ (j : Int) := by omega
          have j1 : (j : Int) < (who.length : Int) := by omega
          clear hown hb q3
          obtain ⟨c, hc⟩ : ∃ c, c = (who.take j).count x := ⟨_, rfl⟩
          rw [← hc] at HCT HOW hct
          clear hc
          generalize nth who j = y at *
          have HLN : Hid (F.length + c ≤ 1000000) := Lib.hid (by omega)
          by_cases hyx : y = x
          · have hq : (y == x) = true := beq_iff_eq.2 hyx
            have HC2 : Hid ((who.take (j + 1)).count x = c + 1) := Lib.hid (by rw [HCT.out, if_pos hyx])
            clear hyx
            have hbn := below_new wr #[.int .i64 n, .int .i64 v1] 37
            have hrw := World.alloc_heap_new wr (.cells #[.int .i64 n, .int .i64 v1] 37)
            have HOX := Lib.hid (own_keep HOW.out hbn)
            have HQ0 := Lib.hid (show (wr.alloc (.cells #[.int .i64 n, .int .i64 v1] 37)).cell? ⟨wr.heap.size, 0, none⟩ = some (.int .i64 n) from row_cell hrw rfl)
            have HQ1 := Lib.hid (show (wr.alloc (.cells #[.int .i64 n, .int .i64 v1] 37)).cell? ⟨wr.heap.size, 0 + 1, none⟩ = some (.int .i64 v1) from row_cell hrw rfl)
            have HB9 := Lib.hid (HBW.out.trans (hbn.mono HBW.out.size))
            have HBS := Lib.hid HB9.out.size
            clear hbn hrw
            go_wp2_with (refine app_share rfl _ _ rfl W1.heap.size _ (F ++ List.replicate c ((n : Int), v1)) _ rfl HOX.out wr.heap.size 0 1 ((n : Int), v1) rfl HQ0.out HQ1.out HLN.out HBS.out ?_; intro g8 cap8 wz h9 o9; have H9 := Lib.hid h9; have O9 := Lib.hid o9; clear h9 o9)
            go_roundw
            case rel => exact ⟨j + 1, by omega, by go_num, by rw [HC2.out, rep_next, ← List.append_assoc]; exact H9.out, HB9.out.trans (own_below HOX.out O9.out.1 HBS.out)⟩
            case measure => simp [intOf]; omega
          · have hq : (y == x) = false := beq_eq_false_iff_ne.2 hyx
            have HC2 : Hid ((who.take (j + 1)).count x = c) := Lib.hid (by rw [HCT.out, if_neg hyx]; rfl)
            clear hyx
            go_wp2_with fail
            go_roundw
            case rel => exact ⟨j + 1, by omega, by go_num, by rw [HC2.out]; exact HOW.out, HBW.out⟩
            case measure => simp [intOf]; omega
        · obtain rfl : j = who.length := by omega
          rw [List.take_length, show F.length + who.count x = (F ++ List.replicate (who.count x) ((n : Int), v1)).length by simp, ← HTK.out] at hown
          have HOW := Lib.hid hown
          have HBW := Lib.hid hb
          have hdk : decide (who.length < who.length) = false := decide_eq_false (by omega)
          clear hown hb
          go_wp2_with fail
          go_roundw
          case rel => exact ⟨i + 1, by omega, by go_num, HOW.out, HBW.out⟩
          case measure => simp [intOf]; omega
    · obtain rfl : i = l.length := by omega
      rw [List.take_length] at hown
      have hlen := ofQ_len owners who l
      have h2 := Nat.mul_le_mul hl hw
      have HS := Lib.hid (Shares.own (l := ofQ owners who l) hown (fun p hp => by
        obtain ⟨s, hs, h3⟩ := List.mem_flatMap.1 hp
        rw [(List.mem_replicate.1 h3).2]
        exact HR64.out s hs) (by omega))
      have HF := Lib.hid (HB.out.trans (hb.mono HB.out.size))
      have hdk : decide (l.length < l.length) = false := decide_eq_false (by omega)
      clear hown hb hlen h2
      go_wp2_with fail
      go_ret
      exact ⟨_, rfl, HS.out, HF.out⟩

end Go.Proofs.Ytbegnincmlepgaa

namespace Go.Proofs.Ytbegnincmlepgaa
open Go.RowKit FP

theorem count_rises {x : Int} : ∀ {l : List Int}, l.Pairwise (· < ·) → l.count x = if x ∈ l then 1 else 0
  | [], _ => by simp
  | a :: t, h => by
    obtain ⟨h1, h2⟩ := List.pairwise_cons.1 h
    rw [List.count_cons, count_rises h2]
    by_cases e : a = x
    · subst e
      have hn : a ∉ t := fun hm => by have := h1 a hm; omega
      simp [hn]
    · have e2 : x ≠ a := fun h => e h.symm
      simp [e, e2]
theorem of_deal {rows : List (List Int)} {owners who s : List Int} (hp : peopleB (-1) who = true) : ofQ owners who (dealL rows s) = (ownL owners who rows.length).map (dealF rows s) := by
  have hs := (peopleB_all hp).2.2.1
  unfold ofQ dealL ownL
  rw [List.flatMap_map]
  induction rows.length with
  | zero => rfl
  | succ n ih =>
    rw [List.range_succ, List.flatMap_append, List.filter_append, List.map_append, ih]
    congr 1
    rw [List.flatMap_cons, List.flatMap_nil, List.append_nil]
    show List.replicate (who.count (nth owners ((n : Int)).toNat)) (dealF rows s n) = _
    rw [Int.toNat_natCast, count_rises hs]
    by_cases e : nth owners n ∈ who
    · simp [e]
    · simp [e]
theorem of_sub {rows : List (List Int)} {owners who s : List Int} (hp : peopleB (-1) who = true) : (ofQ owners who (dealL rows s)).Sublist (dealL rows s) := by
  rw [of_deal hp]
  unfold dealL ownL
  exact List.filter_sublist.map _
theorem of_rows {rows : List (List Int)} {owners who s : List Int} (hp : peopleB (-1) who = true) : rowsOf rows (ofQ owners who (dealL rows s)) = pownR rows owners who := by
  rw [of_deal hp]
  unfold rowsOf pownR
  rw [List.map_map]
  rfl
theorem of_ok {rows : List (List Int)} {owners who s : List Int} (h0 : progE rows owners = 0) (hp : peopleB (-1) who = true) : recOk rows (ofQ owners who (dealL rows s)) = accOk rows owners who := by
  unfold recOk accOk
  rw [of_rows hp, show questE rows owners who = 0 by unfold questE; rw [if_neg (by simp [h0]), if_pos hp]]
  simp
theorem questE_of {rows : List (List Int)} {owners who : List Int} (h0 : progE rows owners = 0) (hp : peopleB (-1) who = true) : questE rows owners who = 0 := by
  unfold questE; rw [if_neg (by simp [h0]), if_pos hp]

structure EnPack (rows : List (List Int)) (owners : List Int) (n : Nat) (s : Int) (u who : List Int) (D : List (Int × Int)) (C : List Int) (P : Nat → Int) (F : List (Int × Int)) (b : Bool) (r : Int) : Prop where
  few : rows.length ≤ 16
  c1 : Deals rows owners n s u D C
  d1 : Dealt rows n D C P
  wl : who.length ≤ 64
  of : F = ofQ owners who D
  inn : ∀ p ∈ D, 0 ≤ p.1 ∧ p.1 < (owners.length : Int)
  ac : ∀ rv ov wv w, Rows2 w rv rows → Ints w ov owners → Ints w wv who → Calls Try.prog 28 #[.agg #[rv, ov], wv] w fun r w' => ∃ yv, (∃ y n c, yv = .slice y n c) ∧ r = .returned (.tuple #[yv, .bool b, .int .i64 0]) ∧ Below w.heap.size w w'
  rc : Recovers rows owners F b r
  rb : r = if b = true then s else 0
theorem en_pack {rows : List (List Int)} {owners : List Int} {s : Int} (hr : rows.length ≤ 16) (hp : progE rows owners = 0) (hs : 0 ≤ s ∧ s < 1073741789) (l : List Int) (who : List Int) (hw : peopleB (-1) who = true) :
    ∃ n D C P F b r, EnPack rows owners n s (randQ rows l) who D C P F b r := by
  have h1 := rand_ok hp l hs
  have hP := h1.prog
  have hrc := recovers_part (owners := owners) (s := s :: randQ rows l) hp (by
    intro z hz
    rcases List.mem_cons.1 hz with rfl | hz
    · exact hs
    · exact randQ_num rows l z hz) (of_sub (rows := rows) (owners := owners) (s := s :: randQ rows l) hw)
  rw [of_ok hp hw] at hrc
  refine ⟨_, _, _, _, _, _, _, ⟨hr, deals_of h1 hp, dealt_of h1, peopleB_len hw, rfl, fun p hq => ?_, fun rv ov wv w hR hO hW => ?_, hrc, rfl⟩⟩
  · obtain ⟨k, hk, rfl⟩ := deal_mem hq
    have := hP.len
    exact ⟨by show (0 : Int) ≤ (k : Int); omega, by show (k : Int) < _; omega⟩
  · refine (accepts_any rv ov wv rows owners who w hR hO hW).mono ?_
    rintro r w' ⟨yv, rfl, hy, hb⟩
    rw [questE_of hp hw]
    obtain ⟨a, c, e, -⟩ := hy
    exact ⟨yv, ⟨_, _, _, e⟩, rfl, hb⟩

set_option maxRecDepth 100000 in
set_option maxHeartbeats 16000000 in
theorem dealingEnough_any (rv ov lv : Value) (rows : List (List Int)) (owners : List Int) (a : Int) (l : List Int) (bs : Int) (w : World) (hR : Rows2 w rv rows) (hO : Ints w ov owners) (ha : 0 ≤ a ∧ a < 4294967296) (hL : Words w lv l) (hbs : 0 ≤ bs ∧ bs < 18446744073709551616) :
    Calls Try.prog 10 #[.agg #[rv, ov], .int .u32 a, lv, .int .u64 bs] w fun e w' => e = .returned (.bool true) ∧ Below w.heap.size w w' := by
  obtain ⟨W1, hW1, hb1, hr1, hz⟩ := box_prog w rv ov 25
  have HR := Lib.hid (hR.below hb1)
  have HO := Lib.hid (hO.below hb1)
  have HL := Lib.hid (hL.below hb1)
  obtain ⟨ar, cap, rfl, -, hlen, -⟩ := id hR
  obtain ⟨a2, cap2, rfl, -, hlen2, -⟩ := id hO
  obtain ⟨a3, cap3, rfl, -, hlen3, -⟩ := id hL
  have c0 : W1.cell? ⟨w.heap.size, 0, none⟩ = some (.slice ar rows.length cap) := row_cell hr1 rfl
  have c1 : W1.cell? ⟨w.heap.size, 1, none⟩ = some (.slice a2 owners.length cap2) := row_cell hr1 rfl
  have HW1 := Lib.hid hW1
  have HB := Lib.hid hb1
  have HS := Lib.hid (sane34_any W1)
  clear hR hO hL hr1 hW1 hb1
  cases hsm : smallQ rows owners with
  | false =>
    have HSM := Lib.hid hsm
    clear hsm
    go_enter Try.func10, Try.ntmps10
    go_wp2_with fail
    rw [← HW1.out]
    refine (HS.out).mono ?_
    rintro e w2 ⟨rfl, hb2⟩
    replace c0 := below_cell hb2 c0
    replace c1 := below_cell hb2 c1
    replace HR := Lib.hid (HR.out.below hb2)
    replace HO := Lib.hid (HO.out.below hb2)
    replace HL := Lib.hid (HL.out.below hb2)
    replace HB := Lib.hid (HB.out.trans (hb2.mono HB.out.size))
    clear hb2
    go_wp2_with fail
    refine (rsmall_any _ _ rows owners _ HR.out HO.out).mono ?_
    rintro e w3 ⟨rfl, hb3⟩
    replace c0 := below_cell hb3 c0
    replace c1 := below_cell hb3 c1
    replace HR := Lib.hid (HR.out.below hb3)
    replace HO := Lib.hid (HO.out.below hb3)
    replace HL := Lib.hid (HL.out.below hb3)
    replace HB := Lib.hid (HB.out.trans (hb3.mono HB.out.size))
    clear hb3
    rw [HSM.out]
    go_wp2_with fail
    go_ret
    exact ⟨rfl, HB.out⟩
  | true =>
    have HSM := Lib.hid hsm
    obtain ⟨hrl, hp0, hcl⟩ := small_ok hsm
    obtain ⟨s, hs⟩ : ∃ s, s = a % 1073741789 := ⟨_, rfl⟩
    have hsn : 0 ≤ s ∧ s < 1073741789 := by omega
    have HRD := Lib.hid (fun W v ww h1 h2 h3 => random_any (.slice ar rows.length cap) (.slice a2 owners.length cap2) v rows owners ww W h1 h2 h3 (progE_ok hp0))
    obtain ⟨n, D, C, P, F, ok, r, hK⟩ := en_pack hrl hp0 hsn l (peopleQ bs) (people_right bs)
    have HK := Lib.hid hK
    have HPE := Lib.hid (fun w => people_any bs w hbs.1 hbs.2)
    have hm1 : a.tmod 1073741789 = s := by rw [hs, Int.tmod_eq_emod_of_nonneg ha.1]
    have hw1 : IntKind.i64.wrap a = a := IntWalk.i64_in _ (by omega)
    obtain ⟨u, hu⟩ : ∃ u, u = randQ rows l := ⟨_, rfl⟩
    rw [← hu] at HK
    have HU := Lib.hid hu
    obtain ⟨who, hwho⟩ : ∃ who, who = peopleQ bs := ⟨_, rfl⟩
    rw [← hwho] at HK HPE
    have ha0 := ha.1
    have ha1 := ha.2
    have HS1 := Lib.hid hs
    clear hsm hs hsn hK hu ha hp0 hwho hbs
    go_enter Try.func10, Try.ntmps10
    go_wp2_with fail
    rw [← HW1.out]
    refine (HS.out).mono ?_
    rintro e w2 ⟨rfl, hb2⟩
    replace c0 := below_cell hb2 c0
    replace c1 := below_cell hb2 c1
    replace HR := Lib.hid (HR.out.below hb2)
    replace HO := Lib.hid (HO.out.below hb2)
    replace HL := Lib.hid (HL.out.below hb2)
    replace HB := Lib.hid (HB.out.trans (hb2.mono HB.out.size))
    clear hb2
    go_wp2_with fail
    refine (rsmall_any _ _ rows owners _ HR.out HO.out).mono ?_
    rintro e w3 ⟨rfl, hb3⟩
    replace c0 := below_cell hb3 c0
    replace c1 := below_cell hb3 c1
    replace HR := Lib.hid (HR.out.below hb3)
    replace HO := Lib.hid (HO.out.below hb3)
    replace HL := Lib.hid (HL.out.below hb3)
    replace HB := Lib.hid (HB.out.trans (hb3.mono HB.out.size))
    clear hb3
    rw [HSM.out]
    have hbd : Below w3.heap.size w3 w3.drew := (Below.refl _ _).drew
    replace HR := Lib.hid (HR.out.below hbd)
    replace HO := Lib.hid (HO.out.below hbd)
    replace HL := Lib.hid (HL.out.below hbd)
    replace HB := Lib.hid (HB.out.drew)
    clear hbd
    go_wp2_with fail
    try rw [← HS1.out]
    go_region_held3 (fun w' => w'.cell? ⟨w.heap.size, 0, none⟩ = some (.slice ar rows.length cap) ∧ w'.cell? ⟨w.heap.size, 1, none⟩ = some (.slice a2 owners.length cap2)) (first | go_keep | exact ⟨c0, c1⟩)
      (first
        | (go_at_call 14; (with_reducible refine (HRD.out _ _ _ HR.out HO.out HL.out).mono ?_); rintro e w4 ⟨rn, rfl, hrn, hb4⟩; have HRU := Lib.hid (HU.out ▸ hrn); clear hrn; replace c0 := below_cell hb4 c0; replace c1 := below_cell hb4 c1; replace HR := Lib.hid (HR.out.below hb4); replace HO := Lib.hid (HO.out.below hb4); replace HL := Lib.hid (HL.out.below hb4); replace HB := Lib.hid (HB.out.trans (hb4.mono HB.out.size)); clear hb4)
        | (go_at_call 16; (with_reducible refine (HK.out.c1 _ _ _ _ HR.out HO.out HRU.out).mono ?_); rintro e w5 ⟨al1, cl1, ac1, cc1, rfl, hsh, hcm, hb5⟩; have HD := Lib.hid hsh; clear hsh hcm; replace c0 := below_cell hb5 c0; replace c1 := below_cell hb5 c1; replace HR := Lib.hid (HR.out.below hb5); replace HO := Lib.hid (HO.out.below hb5); replace HL := Lib.hid (HL.out.below hb5); replace HB := Lib.hid (HB.out.trans (hb5.mono HB.out.size)); clear hb5))
    clear HRD hw1 hm1 ha0 ha1 HSM HRU
    have hzz : ((rows.length : Int) != (rows.length : Int)) = false := by simp
    go_wp2_with fail
    go_loopw [52] (fun i W => ∃ k : Nat, k ≤ rows.length ∧ i = .int .i64 k ∧ Below w5.heap.size w5 W) (fun i _ => rows.length - (intOf i).toNat)
    case atStart => exact ⟨0, Nat.zero_le _, rfl, Below.refl _ _⟩
    case round =>
      obtain ⟨k, hkl, rfl, hb⟩ := hrel
      by_cases hlt : k < rows.length
      · obtain ⟨aS, cS, eS, -, -, hR64, hk⟩ := HD.out
        obtain ⟨b, off, ea, qa, qb⟩ := hk k (by rw [HK.out.d1.len]; exact hlt)
        simp only [Value.slice.injEq] at eS
        obtain ⟨rfl, -, -⟩ := eS
        subst ea
        rw [HK.out.d1.at_] at qa qb
        have y1 := below_cell hb qa
        have y2 := below_cell hb qb
        simp only at y1 y2
        have HBW := Lib.hid hb
        have i0 : 0 ≤ (k : Int) := by omega
        have i1 : (k : Int) < (rows.length : Int) := by omega
        have hkk : ((k : Int) != (k : Int)) = false := by simp
        clear hk hR64 qa qb hb
        generalize P k = p at *
        have hbn := below_new wr #[.int .i64 k, .int .i64 p] 37
        have z0 : (wr.alloc (.cells #[.int .i64 k, .int .i64 p] 37)).cell? ⟨wr.heap.size, 0, none⟩ = some (.int .i64 k) := row_cell (World.alloc_heap_new _ _) rfl
        have HB9 := Lib.hid (HBW.out.trans (hbn.mono HBW.out.size))
        clear hbn
        go_wp2_with fail
        go_roundw
        case rel => exact ⟨k + 1, by omega, by go_num, HB9.out⟩
        case measure => simp [intOf]; omega
      · obtain rfl : k = rows.length := by omega
        replace c0 := below_cell hb c0
        replace c1 := below_cell hb c1
        replace HR := Lib.hid (HR.out.below hb)
        replace HO := Lib.hid (HO.out.below hb)
        replace HD := Lib.hid (HD.out.below hb)
        replace HB := Lib.hid (HB.out.trans (hb.mono HB.out.size))
        clear hb
        have hdk : decide (rows.length < rows.length) = false := decide_eq_false (by omega)
        obtain ⟨wl, hwl⟩ : ∃ wl : World, wl = wr := ⟨_, rfl⟩
        rw [← hwl] at HR HO HB HD c0 c1 ⊢
        clear hwl
        go_wp2_with fail
        refine (HPE.out _).mono ?_
        rintro e w6 ⟨wv, rfl, hwv, hb6⟩
        replace c0 := below_cell hb6 c0
        replace c1 := below_cell hb6 c1
        replace HR := Lib.hid (HR.out.below hb6)
        replace HO := Lib.hid (HO.out.below hb6)
        replace HD := Lib.hid (HD.out.below hb6)
        replace HB := Lib.hid (HB.out.trans (hb6.mono HB.out.size))
        clear hb6
        have HWH := Lib.hid hwv
        obtain ⟨aw, cw, rfl, -⟩ := id hwv
        clear hwv
        go_wp2_with fail
        refine (HK.out.ac _ _ _ _ HR.out HO.out HWH.out).mono ?_
        rintro e w7 ⟨yv, ⟨ya, yn, yc, rfl⟩, rfl, hb7⟩
        replace c0 := below_cell hb7 c0
        replace c1 := below_cell hb7 c1
        replace HR := Lib.hid (HR.out.below hb7)
        replace HO := Lib.hid (HO.out.below hb7)
        replace HD := Lib.hid (HD.out.below hb7)
        replace HWH := Lib.hid (HWH.out.below hb7)
        replace HB := Lib.hid (HB.out.trans (hb7.mono HB.out.size))
        clear hb7
        have HOF := Lib.hid (fun W h1 h2 h3 => of_any (.slice ar rows.length cap) (.slice a2 owners.length cap2) (.slice al1 rows.length cl1) (.slice aw who.length cw) owners who D W ⟨_, _, _, rfl⟩ h1 h2 h3 (by have := HK.out.d1.len; have := HK.out.few; omega) (by have := HK.out.wl; omega) HK.out.inn)
        rw [← HK.out.of] at HOF
        have hbd : Below w7.heap.size w7 w7.drew := (Below.refl _ _).drew
        replace HR := Lib.hid (HR.out.below hbd)
        replace HO := Lib.hid (HO.out.below hbd)
        replace HD := Lib.hid (HD.out.below hbd)
        replace HWH := Lib.hid (HWH.out.below hbd)
        replace HB := Lib.hid (HB.out.drew)
        clear hbd
        go_wp2_with fail
        go_region_held3 (fun w' => w'.cell? ⟨w.heap.size, 0, none⟩ = some (.slice ar rows.length cap) ∧ w'.cell? ⟨w.heap.size, 1, none⟩ = some (.slice a2 owners.length cap2)) (first | go_keep | exact ⟨c0, c1⟩)
          (first
            | (go_at_call 42; (with_reducible refine (HOF.out _ HO.out HD.out HWH.out).mono ?_); rintro e w8 ⟨fv, rfl, hfv, hb8⟩; have HF := Lib.hid hfv; clear hfv; replace c0 := below_cell hb8 c0; replace c1 := below_cell hb8 c1; replace HR := Lib.hid (HR.out.below hb8); replace HO := Lib.hid (HO.out.below hb8); replace HD := Lib.hid (HD.out.below hb8); replace HWH := Lib.hid (HWH.out.below hb8); replace HB := Lib.hid (HB.out.trans (hb8.mono HB.out.size)); clear hb8)
            | (go_at_call 18; (with_reducible refine (HK.out.rc _ _ _ _ HR.out HO.out HF.out).mono ?_); rintro e w9 ⟨rfl, hb9⟩; replace c0 := below_cell hb9 c0; replace c1 := below_cell hb9 c1; replace HR := Lib.hid (HR.out.below hb9); replace HO := Lib.hid (HO.out.below hb9); replace HD := Lib.hid (HD.out.below hb9); replace HWH := Lib.hid (HWH.out.below hb9); replace HB := Lib.hid (HB.out.trans (hb9.mono HB.out.size)); clear hb9))
        cases hok : ok with
        | false =>
          have hrx : r = 0 := by rw [HK.out.rb, hok]; rfl
          subst hrx
          go_wp2_with fail
          go_ret
          exact ⟨rfl, HB.out⟩
        | true =>
          have hrx : r = s := by rw [HK.out.rb, hok]; rfl
          subst hrx
          have hxx : (r == r) = true := by simp
          go_wp2_with fail
          go_ret
          exact ⟨rfl, HB.out⟩

end Go.Proofs.Ytbegnincmlepgaa
