/- The reference of renewing: merged, in plain terms. The reference of renewing: merged. The reference of renewing: Renew. The law RenewalSpec, the walk. -/
import Derived.Test.YtnbkbnbmmkfckaaGreatMRzA
import Derived.Test.YtnbkbnbmmkfckaaGreatMReK
import Derived.Test.YtnbkbnbmmkfckaaGreatMReQ
import Derived.Test.YtnbkbnbmmkfckaaGreatMRdH
import Derived.Test.YtnbkbnbmmkfckaaGreatMRdA
namespace Go.Proofs.YtnbkbnbmmkfckaaGreat
open Go.RowKit FP

theorem shares_rise {rows : List (List Int)} {l : List (Int × Int)} (h : sharesB rows (-1) l = true) {k : Nat} (hk : k + 1 < l.length) : l[k].1 < l[k + 1].1 := by
  have h1 := sharesB_front h (k + 1 + 1)
  rw [sharesB_take hk, Bool.and_eq_true, Bool.and_eq_true, decide_eq_true_eq, lastR_take (by omega)] at h1
  exact h1.2.2
theorem shares_right {rows : List (List Int)} {l : List (Int × Int)} (h : sharesB rows (-1) l = true) {k : Nat} (hk : k < l.length) : rightS rows l[k].1 l[k].2 = true ∧ -1 < l[k].1 := by
  have h1 := (sharesB_all h).1 _ (List.getElem_mem hk)
  have h2 := (rightS_iff.1 h1).1.1
  exact ⟨h1, by omega⟩
/-- A state of the merge: what is laid out is right so far, and lies ahead of what is left. -/
structure MrgI (rows : List (List Int)) (a b : List (Int × Int)) (i k : Nat) : Prop where
  sa : sharesB rows (-1) a = true
  sb : sharesB rows (-1) b = true
  ia : i ≤ a.length
  kb : k ≤ b.length
  st : mrgS a b (i + k) = (a.drop i, b.drop k)
  ok : sharesB rows (-1) ((mrgL a b).take (i + k)) = true
  la : ∀ h : i < a.length, lastR (-1) ((mrgL a b).take (i + k)) < a[i].1
  lb : ∀ h : k < b.length, lastR (-1) ((mrgL a b).take (i + k)) < b[k].1
theorem MrgI.zero {rows : List (List Int)} {a b : List (Int × Int)} (ha : sharesB rows (-1) a = true) (hb : sharesB rows (-1) b = true) : MrgI rows a b 0 0 :=
  ⟨ha, hb, Nat.zero_le _, Nat.zero_le _, rfl, rfl, fun h => (shares_right ha h).2, fun h => (shares_right hb h).2⟩
theorem head_drop {l : List (Int × Int)} {i : Nat} (h : i < l.length) : (l.drop i).headD (0, 0) = l[i] := by
  rw [List.drop_eq_getElem_cons h]; rfl
theorem mrg_at {a b : List (Int × Int)} {j : Nat} (h : j < (mrgL a b).length) : (mrgL a b)[j] = mrgE a b j := by simp [mrgL]
theorem MrgI.stepA {rows : List (List Int)} {a b : List (Int × Int)} {i k : Nat} (h : MrgI rows a b i k) (hi : i < a.length) (hk : ∀ hk : k < b.length, a[i].1 < b[k].1) :
    MrgI rows a b (i + 1) k ∧ (mrgL a b).take (i + 1 + k) = (mrgL a b).take (i + k) ++ [a[i]] := by
  have hl := mrgL_length a b
  have hkb := h.kb
  have ht : takeB (a.drop i) (b.drop k) = false := by
    unfold takeB
    rw [List.length_drop, List.length_drop, decide_eq_false (by omega), Bool.false_or]
    by_cases hk2 : k < b.length
    · rw [head_drop hk2, head_drop hi, decide_eq_false (show ¬ b[k].1 < a[i].1 by have := hk hk2; omega), Bool.and_false]
    · rw [decide_eq_false (show ¬ 0 < b.length - k by omega), Bool.false_and]
  have hE : mrgE a b (i + k) = a[i] := by
    unfold mrgE mrgH
    rw [h.st]
    simp only [ht, Bool.false_eq_true, if_false]
    exact head_drop hi
  have hj : i + k < (mrgL a b).length := by omega
  have hT : (mrgL a b).take (i + 1 + k) = (mrgL a b).take (i + k) ++ [a[i]] := by
    rw [show i + 1 + k = i + k + 1 by omega, List.take_succ_eq_append_getElem hj, mrg_at, hE]
  have hla : lastR (-1) ((mrgL a b).take (i + 1 + k)) = a[i].1 := by rw [hT, lastR_snoc]
  refine ⟨⟨h.sa, h.sb, hi, hkb, ?_, ?_, fun h2 => ?_, fun h2 => ?_⟩, hT⟩
  · rw [show i + 1 + k = i + k + 1 by omega]
    show mrgN (mrgS a b (i + k)) = _
    unfold mrgN
    rw [h.st]
    simp only [ht, Bool.false_eq_true, if_false, List.tail_drop]
  · rw [hT, sharesB_snoc, h.ok, (shares_right h.sa hi).1, decide_eq_true (h.la hi)]; rfl
  · rw [hla]; exact shares_rise h.sa h2
  · rw [hla]; exact hk h2
theorem MrgI.stepB {rows : List (List Int)} {a b : List (Int × Int)} {i k : Nat} (h : MrgI rows a b i k) (hk : k < b.length) (hi : ∀ hi : i < a.length, b[k].1 < a[i].1) :
    MrgI rows a b i (k + 1) ∧ (mrgL a b).take (i + (k + 1)) = (mrgL a b).take (i + k) ++ [b[k]] := by
  have hl := mrgL_length a b
  have hia := h.ia
  have ht : takeB (a.drop i) (b.drop k) = true := by
    unfold takeB
    rw [List.length_drop, List.length_drop]
    by_cases hi2 : i < a.length
    · rw [head_drop hk, head_drop hi2, decide_eq_true (hi hi2), decide_eq_true (show 0 < b.length - k by omega)]
      simp
    · rw [decide_eq_true (show a.length - i = 0 by omega), Bool.true_or]
  have hE : mrgE a b (i + k) = b[k] := by
    unfold mrgE mrgH
    rw [h.st]
    simp only [ht, if_true]
    exact head_drop hk
  have hj : i + k < (mrgL a b).length := by omega
  have hT : (mrgL a b).take (i + (k + 1)) = (mrgL a b).take (i + k) ++ [b[k]] := by
    rw [show i + (k + 1) = i + k + 1 by omega, List.take_succ_eq_append_getElem hj, mrg_at, hE]
  have hla : lastR (-1) ((mrgL a b).take (i + (k + 1))) = b[k].1 := by rw [hT, lastR_snoc]
  refine ⟨⟨h.sa, h.sb, hia, hk, ?_, ?_, fun h2 => ?_, fun h2 => ?_⟩, hT⟩
  · rw [show i + (k + 1) = i + k + 1 by omega]
    show mrgN (mrgS a b (i + k)) = _
    unfold mrgN
    rw [h.st]
    simp only [ht, if_true, List.tail_drop]
  · rw [hT, sharesB_snoc, h.ok, (shares_right h.sb hk).1, decide_eq_true (h.lb hk)]; rfl
  · rw [hla]; exact hi h2
  · rw [hla]; exact shares_rise h.sb h2
theorem MrgI.done {rows : List (List Int)} {a b : List (Int × Int)} (h : MrgI rows a b a.length b.length) : sharesB rows (-1) (mrgL a b) = true ∧ (mrgL a b).take (a.length + b.length) = mrgL a b := by
  have e : (mrgL a b).take (a.length + b.length) = mrgL a b := by rw [← mrgL_length]; exact List.take_length
  have := h.ok
  rw [e] at this
  exact ⟨this, e⟩
theorem MrgI.dup {rows : List (List Int)} {a b : List (Int × Int)} {i k : Nat} (h : MrgI rows a b i k) (hi : i < a.length) (hk : k < b.length) (e : a[i].1 = b[k].1) : sharesB rows (-1) (mrgL a b) = false := by
  have hl := mrgL_length a b
  have ht : takeB (a.drop i) (b.drop k) = false := by
    unfold takeB
    rw [List.length_drop, List.length_drop, decide_eq_false (by omega), Bool.false_or, head_drop hk, head_drop hi, decide_eq_false (show ¬ b[k].1 < a[i].1 by omega), Bool.and_false]
  have hE : mrgE a b (i + k) = a[i] := by
    unfold mrgE mrgH
    rw [h.st]
    simp only [ht, Bool.false_eq_true, if_false]
    exact head_drop hi
  have hS : mrgS a b (i + k + 1) = (a.drop (i + 1), b.drop k) := by
    show mrgN (mrgS a b (i + k)) = _
    unfold mrgN
    rw [h.st]
    simp only [ht, Bool.false_eq_true, if_false, List.tail_drop]
  have ht2 : takeB (a.drop (i + 1)) (b.drop k) = true := by
    unfold takeB
    rw [List.length_drop, List.length_drop]
    by_cases hi2 : i + 1 < a.length
    · have := shares_rise h.sa hi2
      rw [head_drop hk, head_drop hi2, decide_eq_true (show b[k].1 < a[i + 1].1 by omega), decide_eq_true (show 0 < b.length - k by omega)]
      simp
    · rw [decide_eq_true (show a.length - (i + 1) = 0 by omega), Bool.true_or]
  have hE2 : mrgE a b (i + k + 1) = b[k] := by
    unfold mrgE mrgH
    rw [hS]
    simp only [ht2, if_true]
    exact head_drop hk
  have hj : i + k + 1 < (mrgL a b).length := by omega
  cases hs : sharesB rows (-1) (mrgL a b) with
  | false => rfl
  | true =>
    have := shares_rise hs hj
    rw [mrg_at, mrg_at, hE, hE2] at this
    omega

end Go.Proofs.YtnbkbnbmmkfckaaGreat

namespace Go.Proofs.YtnbkbnbmmkfckaaGreat
open Go.RowKit FP

set_option maxRecDepth 100000 in
set_option maxHeartbeats 8000000 in
theorem rMerged_any (u v : Value) (rows : List (List Int)) (a b : List (Int × Int)) (w : World) (hA : Shares w u a) (hB : Shares w v b) (ha : sharesB rows (-1) a = true) (hb : sharesB rows (-1) b = true) (hl : a.length ≤ 1000 ∧ b.length ≤ 1000) :
    Calls Tryz.prog 45 #[u, v] w fun e w' => (sharesB rows (-1) (mrgL a b) = true → ∃ ov, e = .returned (.tuple #[ov, .bool true]) ∧ Shares w' ov (mrgL a b)) ∧ (sharesB rows (-1) (mrgL a b) = false → e = .returned (.tuple #[.slice none 0 0, .bool false])) ∧ Below w.heap.size w w' := by
  have HA := Lib.hid hA
  have HBB := Lib.hid hB
  obtain ⟨a1, k1, rfl, -, -, hra, -⟩ := id hA
  obtain ⟨a2, k2, rfl, -, -, hrb, -⟩ := id hB
  have HRA := Lib.hid hra
  have HRB := Lib.hid hrb
  have HM0 := Lib.hid (MrgI.zero ha hb)
  have h00 : (w.alloc (.cells #[] 47)).ownsRow w.heap.size 47 2 (.slice (some ⟨w.heap.size, 0, none⟩) 0 0) 0 [] := World.ownsRow_made _ #[] 0 (Nat.le_refl _) (by unfold maxLen; omega) rfl
  have hba := below_new w #[] 47
  have hl1 := hl.1
  have hl2 := hl.2
  clear hA hB hra hrb ha hb hl
  go_enter Tryz.func45, Tryz.ntmps45
  go_wp2_with fail
  go_loopw [6, 7, 8] (fun L p q W => ∃ i k : Nat, p = .int .i64 i ∧ q = .int .i64 k ∧ Hid (MrgI rows a b i k) ∧ W.ownsRow w.heap.size 47 2 L (i + k) (((mrgL a b).take (i + k)).flatMap shaC) ∧ Below w.heap.size w W) (fun _ p q _ => a.length + b.length - ((intOf p).toNat + (intOf q).toNat))
  case atStart => exact ⟨0, 0, rfl, rfl, HM0, h00, hba⟩
  case round =>
    clear h00 hba HM0
    obtain ⟨i, k, rfl, rfl, HM, hown, hbw⟩ := hrel
    have HOW := Lib.hid hown
    have HBW := Lib.hid hbw
    have hia := HM.out.ia
    have hkb := HM.out.kb
    obtain ⟨T, hT⟩ : ∃ T, T = (mrgL a b).take (i + k) := ⟨_, rfl⟩
    have HT := Lib.hid hT
    rw [← hT] at HOW
    have hij : i + k ≤ 1000000 := by omega
    clear hown hbw hT
    by_cases hi : i < a.length
    · obtain ⟨aS, cS, eS, -, -, -, hk1⟩ := HA.out
      obtain ⟨b1, o1, ea, qa, qb⟩ := hk1 i hi
      simp only [Value.slice.injEq] at eS
      obtain ⟨rfl, -, -⟩ := eS
      subst ea
      have ya1 := below_cell HBW.out qa
      have ya2 := below_cell HBW.out qb
      have hex : a[i] = (a[i].1, a[i].2) := rfl
      have i0 : (0 : Int) ≤ (i : Int) := by omega
      have i1 : (i : Int) < (a.length : Int) := by omega
      have di : decide (i < a.length) = true := decide_eq_true hi
      clear hk1 qa qb
      by_cases hk : k < b.length
      · obtain ⟨aT, cT, eT, -, -, -, hk2⟩ := HBB.out
        obtain ⟨b2, o2, eb, qa, qb⟩ := hk2 k hk
        simp only [Value.slice.injEq] at eT
        obtain ⟨rfl, -, -⟩ := eT
        subst eb
        have yb1 := below_cell HBW.out qa
        have yb2 := below_cell HBW.out qb
        have k0 : (0 : Int) ≤ (k : Int) := by omega
        have k1' : (k : Int) < (b.length : Int) := by omega
        have dk : decide (k < b.length) = true := decide_eq_true hk
        have dkk : ((k : Int) == (b.length : Int)) = false := by simp; omega
        have HSA := Lib.hid (fun (h : a[i].1 < b[k].1) => HM.out.stepA hi (fun _ => h))
        have HSB := Lib.hid (fun (h : b[k].1 < a[i].1) => HM.out.stepB hk (fun _ => h))
        have HDP := Lib.hid (fun (h : a[i].1 = b[k].1) => HM.out.dup hi hk h)
        clear hk2 qa qb hex
        obtain ⟨x, hx⟩ : ∃ x, x = a[i].1 := ⟨_, rfl⟩
        obtain ⟨xv, hxv⟩ : ∃ x, x = a[i].2 := ⟨_, rfl⟩
        obtain ⟨y, hy⟩ : ∃ x, x = b[k].1 := ⟨_, rfl⟩
        obtain ⟨yv, hyv⟩ : ∃ x, x = b[k].2 := ⟨_, rfl⟩
        have hax : a[i] = (x, xv) := by rw [hx, hxv]
        have hby : b[k] = (y, yv) := by rw [hy, hyv]
        rw [← hx] at ya1
        rw [← hxv] at ya2
        rw [← hy] at yb1
        rw [← hyv] at yb2
        rw [hax, hby, ← HT.out] at HSA HSB
        rw [hax, hby] at HDP
        simp only at HSA HSB HDP
        clear hx hxv hy hyv hax hby hia hkb hi hk
        by_cases hlt : x < y
        · have d1 : decide (x < y) = true := decide_eq_true hlt
          have HM2 := Lib.hid (HSA.out hlt)
          clear HSA HSB HDP hlt
          go_wp2_with fail
          go_quiet (fail)
          obtain ⟨wq, hwq⟩ : ∃ W : World, W = wr.drewN nq := ⟨_, rfl⟩
          have hbq : Below wr.heap.size wr wq := hwq ▸ below_drewN (Below.refl _ _) nq
          rw [← hwq]
          clear hwq
          have HBQ := Lib.hid (HBW.out.trans (hbq.mono HBW.out.size))
          have p1 := below_cell hbq ya1
          have p2 := below_cell hbq ya2
          have HN := Lib.hid (below_new wq #[.int .i64 x, .int .i64 xv] 47)
          have HOX := Lib.hid (own_keep (own_keep HOW.out hbq) HN.out)
          have hq0 := World.alloc_heap_new wq (.cells #[.int .i64 x, .int .i64 xv] 47)
          have HQ0 := Lib.hid (row_cell hq0 (k := 0) rfl)
          have HQ1 := Lib.hid (row_cell hq0 (k := 1) rfl)
          have HB9 := Lib.hid (HBQ.out.trans (HN.out.mono HBQ.out.size))
          have HBS := Lib.hid HB9.out.size
          clear hq0 hbq
          go_wp2_with (refine app_share rfl _ _ rfl w.heap.size _ T (i + k) rfl HOX.out wq.heap.size 0 1 (x, xv) rfl HQ0.out HQ1.out hij HBS.out ?_; intro g8 cap8 w9 h9 o9; have H9 := Lib.hid h9; have O9 := Lib.hid o9; clear h9 o9)
          go_roundw
          case rel => exact ⟨i + 1, k, by go_num, by go_num, Lib.hid HM2.out.1, by rw [HM2.out.2, show i + 1 + k = i + k + 1 by omega]; exact H9.out, HB9.out.trans (own_below HOX.out O9.out.1 HBS.out)⟩
          case measure => simp [intOf]; omega
        · have d1 : decide (x < y) = false := decide_eq_false hlt
          by_cases he : x = y
          · have d2 : (x == y) = true := beq_iff_eq.2 he
            have HD := Lib.hid (HDP.out he)
            clear HSA HSB HDP hlt he
            go_wp2_with fail
            go_quiet (fail)
            obtain ⟨wp, hwp⟩ : ∃ W : World, W = wr.drewN nq := ⟨_, rfl⟩
            have hbp : Below wr.heap.size wr wp := hwp ▸ below_drewN (Below.refl _ _) nq
            rw [← hwp]
            clear hwp
            have r1 := below_cell hbp ya1
            have r2 := below_cell hbp yb1
            go_wp2_with fail
            go_quiet (fail)
            go_wp2_with fail
            go_ret2
            exact ⟨fun h => (by rw [HD.out] at h; cases h), fun _ => rfl, below_drewN (HBW.out.trans (hbp.mono HBW.out.size)) _⟩
          · have d2 : (x == y) = false := beq_eq_false_iff_ne.2 he
            have HM2 := Lib.hid (HSB.out (by omega))
            clear HSA HSB HDP hlt he
            go_wp2_with fail
            go_quiet (fail)
            obtain ⟨wp, hwp⟩ : ∃ W : World, W = wr.drewN nq := ⟨_, rfl⟩
            have hbp : Below wr.heap.size wr wp := hwp ▸ below_drewN (Below.refl _ _) nq
            rw [← hwp]
            clear hwp
            have r1 := below_cell hbp ya1
            have r2 := below_cell hbp yb1
            go_wp2_with fail
            go_quiet (fail)
            clear r1 r2
            obtain ⟨wq, hwq⟩ : ∃ W : World, W = wp.drewN nq := ⟨_, rfl⟩
            have hbq : Below wr.heap.size wr wq := hwq ▸ below_drewN hbp nq
            rw [← hwq]
            clear hwq hbp
            have HBQ := Lib.hid (HBW.out.trans (hbq.mono HBW.out.size))
            have p1 := below_cell hbq yb1
            have p2 := below_cell hbq yb2
            have HN := Lib.hid (below_new wq #[.int .i64 y, .int .i64 yv] 47)
            have HOX := Lib.hid (own_keep (own_keep HOW.out hbq) HN.out)
            have hq0 := World.alloc_heap_new wq (.cells #[.int .i64 y, .int .i64 yv] 47)
            have HQ0 := Lib.hid (row_cell hq0 (k := 0) rfl)
            have HQ1 := Lib.hid (row_cell hq0 (k := 1) rfl)
            have HB9 := Lib.hid (HBQ.out.trans (HN.out.mono HBQ.out.size))
            have HBS := Lib.hid HB9.out.size
            clear hq0 hbq
            go_wp2_with (refine app_share rfl _ _ rfl w.heap.size _ T (i + k) rfl HOX.out wq.heap.size 0 1 (y, yv) rfl HQ0.out HQ1.out hij HBS.out ?_; intro g8 cap8 w9 h9 o9; have H9 := Lib.hid h9; have O9 := Lib.hid o9; clear h9 o9)
            go_roundw
            case rel => exact ⟨i, k + 1, by go_num, by go_num, Lib.hid HM2.out.1, by rw [HM2.out.2, show i + (k + 1) = i + k + 1 by omega]; exact H9.out, HB9.out.trans (own_below HOX.out O9.out.1 HBS.out)⟩
            case measure => simp [intOf]; omega
      · obtain rfl : k = b.length := by omega
        have dk : decide (b.length < b.length) = false := decide_eq_false (by omega)
        have HM2 := Lib.hid (HM.out.stepA hi (fun h => absurd h (by omega)))
        obtain ⟨x, hx⟩ : ∃ x, x = a[i].1 := ⟨_, rfl⟩
        obtain ⟨xv, hxv⟩ : ∃ x, x = a[i].2 := ⟨_, rfl⟩
        have hax : a[i] = (x, xv) := by rw [hx, hxv]
        rw [← hx] at ya1
        rw [← hxv] at ya2
        rw [hax, ← HT.out] at HM2
        clear hx hxv hax hia hkb hi hk hex
        go_wp2_with fail
        go_quiet (fail)
        obtain ⟨wq, hwq⟩ : ∃ W : World, W = wr.drewN nq := ⟨_, rfl⟩
        have hbq : Below wr.heap.size wr wq := hwq ▸ below_drewN (Below.refl _ _) nq
        rw [← hwq]
        clear hwq
        have HBQ := Lib.hid (HBW.out.trans (hbq.mono HBW.out.size))
        have p1 := below_cell hbq ya1
        have p2 := below_cell hbq ya2
        have HN := Lib.hid (below_new wq #[.int .i64 x, .int .i64 xv] 47)
        have HOX := Lib.hid (own_keep (own_keep HOW.out hbq) HN.out)
        have hq0 := World.alloc_heap_new wq (.cells #[.int .i64 x, .int .i64 xv] 47)
        have HQ0 := Lib.hid (row_cell hq0 (k := 0) rfl)
        have HQ1 := Lib.hid (row_cell hq0 (k := 1) rfl)
        have HB9 := Lib.hid (HBQ.out.trans (HN.out.mono HBQ.out.size))
        have HBS := Lib.hid HB9.out.size
        clear hq0 hbq
        go_wp2_with (refine app_share rfl _ _ rfl w.heap.size _ T (i + b.length) rfl HOX.out wq.heap.size 0 1 (x, xv) rfl HQ0.out HQ1.out hij HBS.out ?_; intro g8 cap8 w9 h9 o9; have H9 := Lib.hid h9; have O9 := Lib.hid o9; clear h9 o9)
        go_roundw
        case rel => exact ⟨i + 1, b.length, by go_num, by go_num, Lib.hid HM2.out.1, by rw [HM2.out.2, show i + 1 + b.length = i + b.length + 1 by omega]; exact H9.out, HB9.out.trans (own_below HOX.out O9.out.1 HBS.out)⟩
        case measure => simp [intOf]; omega
    · obtain rfl : i = a.length := by omega
      have di : decide (a.length < a.length) = false := decide_eq_false (by omega)
      by_cases hk : k < b.length
      · obtain ⟨aT, cT, eT, -, -, -, hk2⟩ := HBB.out
        obtain ⟨b2, o2, eb, qa, qb⟩ := hk2 k hk
        simp only [Value.slice.injEq] at eT
        obtain ⟨rfl, -, -⟩ := eT
        subst eb
        have yb1 := below_cell HBW.out qa
        have yb2 := below_cell HBW.out qb
        have k0 : (0 : Int) ≤ (k : Int) := by omega
        have k1' : (k : Int) < (b.length : Int) := by omega
        have dk : decide (k < b.length) = true := decide_eq_true hk
        have dkk : ((k : Int) == (b.length : Int)) = false := by simp; omega
        have HM2 := Lib.hid (HM.out.stepB hk (fun h => absurd h (by omega)))
        clear hk2 qa qb
        obtain ⟨y, hy⟩ : ∃ x, x = b[k].1 := ⟨_, rfl⟩
        obtain ⟨yv, hyv⟩ : ∃ x, x = b[k].2 := ⟨_, rfl⟩
        have hby : b[k] = (y, yv) := by rw [hy, hyv]
        rw [← hy] at yb1
        rw [← hyv] at yb2
        rw [hby, ← HT.out] at HM2
        clear hy hyv hby hia hkb hi hk
        go_wp2_with fail
        go_quiet (fail)
        obtain ⟨wp, hwp⟩ : ∃ W : World, W = wr.drewN nq := ⟨_, rfl⟩
        have hbp : Below wr.heap.size wr wp := hwp ▸ below_drewN (Below.refl _ _) nq
        rw [← hwp]
        clear hwp
        have r2 := below_cell hbp yb1
        go_wp2_with fail
        go_quiet (fail)
        clear r2
        obtain ⟨wq, hwq⟩ : ∃ W : World, W = wp.drewN nq := ⟨_, rfl⟩
        have hbq : Below wr.heap.size wr wq := hwq ▸ below_drewN hbp nq
        rw [← hwq]
        clear hwq hbp
        have HBQ := Lib.hid (HBW.out.trans (hbq.mono HBW.out.size))
        have p1 := below_cell hbq yb1
        have p2 := below_cell hbq yb2
        have HN := Lib.hid (below_new wq #[.int .i64 y, .int .i64 yv] 47)
        have HOX := Lib.hid (own_keep (own_keep HOW.out hbq) HN.out)
        have hq0 := World.alloc_heap_new wq (.cells #[.int .i64 y, .int .i64 yv] 47)
        have HQ0 := Lib.hid (row_cell hq0 (k := 0) rfl)
        have HQ1 := Lib.hid (row_cell hq0 (k := 1) rfl)
        have HB9 := Lib.hid (HBQ.out.trans (HN.out.mono HBQ.out.size))
        have HBS := Lib.hid HB9.out.size
        clear hq0 hbq
        go_wp2_with (refine app_share rfl _ _ rfl w.heap.size _ T (a.length + k) rfl HOX.out wq.heap.size 0 1 (y, yv) rfl HQ0.out HQ1.out hij HBS.out ?_; intro g8 cap8 w9 h9 o9; have H9 := Lib.hid h9; have O9 := Lib.hid o9; clear h9 o9)
        go_roundw
        case rel => exact ⟨a.length, k + 1, by go_num, by go_num, Lib.hid HM2.out.1, by rw [HM2.out.2, show a.length + (k + 1) = a.length + k + 1 by omega]; exact H9.out, HB9.out.trans (own_below HOX.out O9.out.1 HBS.out)⟩
        case measure => simp [intOf]; omega
      · obtain rfl : k = b.length := by omega
        have dk : decide (b.length < b.length) = false := decide_eq_false (by omega)
        obtain ⟨hD, hTT⟩ := HM.out.done
        have HD := Lib.hid hD
        have HOU := Lib.hid HOW.out
        rw [HT.out, hTT] at HOU
        have HSH := Lib.hid (Shares.own HOU.out (fun p hp => by
          rcases mrgL_mem hp with h | h
          · exact HRA.out p h
          · exact HRB.out p h) (by rw [mrgL_length]; omega))
        clear hD hTT HOU HOW HT
        go_wp2_with fail
        go_ret2
        exact ⟨fun _ => ⟨_, rfl, HSH.out⟩, fun h => (by rw [HD.out] at h; cases h), HBW.out⟩

end Go.Proofs.YtnbkbnbmmkfckaaGreat

namespace Go.Proofs.YtnbkbnbmmkfckaaGreat
open Go.RowKit FP

end Go.Proofs.YtnbkbnbmmkfckaaGreat

namespace Go.Proofs.YtnbkbnbmmkfckaaGreat
open Go.RowKit FP

set_option maxRecDepth 100000 in
set_option maxHeartbeats 8000000 in
theorem rfew38_any (ep : Int) (rv ov cv lv ccv mcv : Value) (rows : List (List Int)) (owners cs : List Int) (l : List (Int × Int)) (css : List (List Int)) (more : List (List (Int × Int))) (w : World) (hR : Rows2 w rv rows) (hO : Ints w ov owners) (hC : Ints w cv cs) (hL : Shares w lv l) (hCC : Rows2 w ccv css) (hMM : SRows w mcv more) :
    Calls Tryz.prog 6 #[.agg #[.int .i64 ep, rv, ov, cv], lv, ccv, mcv] w fun e w' => ∃ b, e = .returned (.bool b) ∧ Below w.heap.size w w' := by
  obtain ⟨W1, hW1, hb1, hr1, -⟩ := box_key w (.int .i64 ep) rv ov cv 27
  have HR := Lib.hid (hR.below hb1)
  have HO := Lib.hid (hO.below hb1)
  have HCC := Lib.hid (hCC.below hb1)
  have HMM := Lib.hid (hMM.below hb1)
  obtain ⟨a1, k1, rfl, -, hl1, -⟩ := id hR
  obtain ⟨a2, k2, rfl, -, hl2, -⟩ := id hO
  obtain ⟨a3, k3, rfl, -, hl3, -⟩ := id hC
  obtain ⟨a4, k4, rfl, -, hl4, -⟩ := id hL
  obtain ⟨a5, k5, rfl, -, hl5, -⟩ := id hCC
  obtain ⟨a6, k6, rfl, -, hl6, -⟩ := id hMM
  have Q1 := Lib.hid hr1
  have HW1 := Lib.hid hW1
  have HB := Lib.hid hb1
  clear hR hO hC hL hCC hMM hb1 hr1 hW1
  have c1 := row_cell Q1.out (k := 1) rfl
  have c2 := row_cell Q1.out (k := 2) rfl
  go_enter Tryz.func6, Tryz.ntmps6
  go_wp2_with (rw [← HW1.out])
  clear c1 c2
  with_reducible refine (rfew_any _ _ rows owners _ HR.out HO.out).mono ?_
  rintro e w2 ⟨b, rfl, hb2⟩
  replace HR := Lib.hid (HR.out.below hb2)
  replace HO := Lib.hid (HO.out.below hb2)
  replace HCC := Lib.hid (HCC.out.below hb2)
  replace HMM := Lib.hid (HMM.out.below hb2)
  replace Q1 := Lib.hid ((hb2.block _ (row_lt Q1.out)).trans Q1.out)
  replace HB := Lib.hid (HB.out.trans (hb2.mono HB.out.size))
  clear hb2
  have c3 := row_cell Q1.out (k := 3) rfl
  cases b with
  | false =>
    go_wp2_with fail
    go_ret
    exact ⟨_, rfl, HB.out⟩
  | true =>
  by_cases g1 : 80 < cs.length
  · have dg1 : decide ((80 : Int) < (cs.length : Int)) = true := decide_eq_true (by omega)
    clear g1
    go_wp2_with fail
    go_ret
    exact ⟨_, rfl, HB.out⟩
  have dg1 : decide ((80 : Int) < (cs.length : Int)) = false := decide_eq_false (by omega)
  clear g1
  by_cases g2 : 80 < l.length
  · have dg2 : decide ((80 : Int) < (l.length : Int)) = true := decide_eq_true (by omega)
    clear g2
    go_wp2_with fail
    go_ret
    exact ⟨_, rfl, HB.out⟩
  have dg2 : decide ((80 : Int) < (l.length : Int)) = false := decide_eq_false (by omega)
  clear g2
  by_cases g3 : 4 < css.length ∧ css.length ≤ 64
  · have dg3 : decide ((4 : Int) < (css.length : Int)) = true := decide_eq_true (by omega)
    have dg3b : decide ((css.length : Int) ≤ 64) = true := decide_eq_true (by omega)
    clear g3
    go_wp2_with fail
    go_ret
    exact ⟨_, rfl, HB.out⟩
  obtain ⟨u, hu⟩ : ∃ u : World, u = w2 := ⟨_, rfl⟩
  rw [← hu] at HR HO HCC HMM Q1 HB ⊢ c3
  clear hu
  by_cases h4 : 4 < css.length
  · have e4 : decide ((4 : Int) < (css.length : Int)) = true := decide_eq_true (by omega)
    have e64 : decide ((css.length : Int) ≤ 64) = false := decide_eq_false (by omega)
    clear g3 h4
    by_cases g4 : 70 < css.length
    · have dg4 : decide ((70 : Int) < (css.length : Int)) = true := decide_eq_true (by omega)
      clear g4
      go_wp2_with fail
      go_ret
      exact ⟨_, rfl, HB.out⟩
    have dg4 : decide ((70 : Int) < (css.length : Int)) = false := decide_eq_false (by omega)
    clear g4
    by_cases g5 : 70 < more.length
    · have dg5 : decide ((70 : Int) < (more.length : Int)) = true := decide_eq_true (by omega)
      clear g5
      go_wp2_with fail
      go_ret
      exact ⟨_, rfl, HB.out⟩
    have dg5 : decide ((70 : Int) < (more.length : Int)) = false := decide_eq_false (by omega)
    clear g5
    go_wp2_with fail
    go_loopw [9] (fun i W => ∃ k : Nat, k ≤ css.length ∧ i = .int .i64 k ∧ Below u.heap.size u W) (fun i _ => css.length - (intOf i).toNat)
    case atStart => exact ⟨0, Nat.zero_le _, rfl, Below.refl _ _⟩
    case round =>
      obtain ⟨k, hkl, rfl, hb⟩ := hrel
      by_cases hlt : k < css.length
      · obtain ⟨b1, o1, n1, k9, r1, e1, q1, i1⟩ := HCC.out.get hlt
        simp only [Value.slice.injEq] at e1
        obtain ⟨rfl, -, -⟩ := e1
        have y1 := below_cell hb q1
        obtain ⟨c, hc⟩ : ∃ c, c = css.getD k [] := ⟨_, rfl⟩
        rw [← hc] at i1
        obtain ⟨rc, kc, rfl, -⟩ := id i1
        have j0 : (0 : Int) ≤ (k : Int) := by omega
        have j1 : (k : Int) < (css.length : Int) := by omega
        have HBW := Lib.hid hb
        clear q1 i1 hb hc
        by_cases h80 : 80 < c.length
        · have d80 : decide ((80 : Int) < (c.length : Int)) = true := decide_eq_true (by omega)
          clear h80
          go_wp2_with fail
          go_ret
          exact ⟨_, rfl, HB.out.trans (HBW.out.mono HB.out.size)⟩
        · have d80 : decide ((80 : Int) < (c.length : Int)) = false := decide_eq_false (by omega)
          clear h80
          go_wp2_with fail
          go_roundw
          case rel => exact ⟨k + 1, by omega, by go_num, HBW.out⟩
          case measure => simp [intOf]; omega
      · obtain rfl : k = css.length := by omega
        have hdk : decide (css.length < css.length) = false := decide_eq_false (by omega)
        replace HMM := Lib.hid (HMM.out.below hb)
        replace HB := Lib.hid (HB.out.trans (hb.mono HB.out.size))
        obtain ⟨wl, hwl⟩ : ∃ wl : World, wl = wr := ⟨_, rfl⟩
        rw [← hwl] at HMM HB ⊢
        clear hwl hb c3 HCC HR HO Q1
        go_wp2_with fail
        go_loopw [10] (fun i W => ∃ k : Nat, k ≤ more.length ∧ i = .int .i64 k ∧ Below wl.heap.size wl W) (fun i _ => more.length - (intOf i).toNat)
        case atStart => exact ⟨0, Nat.zero_le _, rfl, Below.refl _ _⟩
        case round =>
          obtain ⟨k, hkl2, rfl, hb⟩ := hrel
          by_cases hlt : k < more.length
          · obtain ⟨b1, o1, n1, k9, r1, e1, q1, i1⟩ := HMM.out.get hlt
            simp only [Value.slice.injEq] at e1
            obtain ⟨rfl, -, -⟩ := e1
            have y1 := below_cell hb q1
            obtain ⟨c, hc⟩ : ∃ c, c = more.getD k [] := ⟨_, rfl⟩
            rw [← hc] at i1
            obtain ⟨rc, kc, rfl, -⟩ := id i1
            have j0 : (0 : Int) ≤ (k : Int) := by omega
            have j1 : (k : Int) < (more.length : Int) := by omega
            have HBW := Lib.hid hb
            clear q1 i1 hb hc
            by_cases h80 : 80 < c.length
            · have d80 : decide ((80 : Int) < (c.length : Int)) = true := decide_eq_true (by omega)
              clear h80
              go_wp2_with fail
              go_ret
              exact ⟨_, rfl, HB.out.trans (HBW.out.mono HB.out.size)⟩
            · have d80 : decide ((80 : Int) < (c.length : Int)) = false := decide_eq_false (by omega)
              clear h80
              go_wp2_with fail
              go_roundw
              case rel => exact ⟨k + 1, by omega, by go_num, HBW.out⟩
              case measure => simp [intOf]; omega
          · obtain rfl : k = more.length := by omega
            have hdk2 : decide (more.length < more.length) = false := decide_eq_false (by omega)
            have HBF := Lib.hid (HB.out.trans (hb.mono HB.out.size))
            clear hb
            go_wp2_with fail
            go_ret
            exact ⟨_, rfl, HBF.out⟩
  · have e4 : decide ((4 : Int) < (css.length : Int)) = false := decide_eq_false (by omega)
    have dg4 : decide ((70 : Int) < (css.length : Int)) = false := decide_eq_false (by omega)
    clear g3 h4
    by_cases g5 : 70 < more.length
    · have dg5 : decide ((70 : Int) < (more.length : Int)) = true := decide_eq_true (by omega)
      clear g5
      go_wp2_with fail
      go_ret
      exact ⟨_, rfl, HB.out⟩
    have dg5 : decide ((70 : Int) < (more.length : Int)) = false := decide_eq_false (by omega)
    clear g5
    go_wp2_with fail
    go_loopw [9] (fun i W => ∃ k : Nat, k ≤ css.length ∧ i = .int .i64 k ∧ Below u.heap.size u W) (fun i _ => css.length - (intOf i).toNat)
    case atStart => exact ⟨0, Nat.zero_le _, rfl, Below.refl _ _⟩
    case round =>
      obtain ⟨k, hkl, rfl, hb⟩ := hrel
      by_cases hlt : k < css.length
      · obtain ⟨b1, o1, n1, k9, r1, e1, q1, i1⟩ := HCC.out.get hlt
        simp only [Value.slice.injEq] at e1
        obtain ⟨rfl, -, -⟩ := e1
        have y1 := below_cell hb q1
        obtain ⟨c, hc⟩ : ∃ c, c = css.getD k [] := ⟨_, rfl⟩
        rw [← hc] at i1
        obtain ⟨rc, kc, rfl, -⟩ := id i1
        have j0 : (0 : Int) ≤ (k : Int) := by omega
        have j1 : (k : Int) < (css.length : Int) := by omega
        have HBW := Lib.hid hb
        clear q1 i1 hb hc
        by_cases h80 : 80 < c.length
        · have d80 : decide ((80 : Int) < (c.length : Int)) = true := decide_eq_true (by omega)
          clear h80
          go_wp2_with fail
          go_ret
          exact ⟨_, rfl, HB.out.trans (HBW.out.mono HB.out.size)⟩
        · have d80 : decide ((80 : Int) < (c.length : Int)) = false := decide_eq_false (by omega)
          clear h80
          go_wp2_with fail
          go_roundw
          case rel => exact ⟨k + 1, by omega, by go_num, HBW.out⟩
          case measure => simp [intOf]; omega
      · obtain rfl : k = css.length := by omega
        have hdk : decide (css.length < css.length) = false := decide_eq_false (by omega)
        replace HMM := Lib.hid (HMM.out.below hb)
        replace HB := Lib.hid (HB.out.trans (hb.mono HB.out.size))
        obtain ⟨wl, hwl⟩ : ∃ wl : World, wl = wr := ⟨_, rfl⟩
        rw [← hwl] at HMM HB ⊢
        clear hwl hb c3 HCC HR HO Q1
        go_wp2_with fail
        go_loopw [10] (fun i W => ∃ k : Nat, k ≤ more.length ∧ i = .int .i64 k ∧ Below wl.heap.size wl W) (fun i _ => more.length - (intOf i).toNat)
        case atStart => exact ⟨0, Nat.zero_le _, rfl, Below.refl _ _⟩
        case round =>
          obtain ⟨k, hkl2, rfl, hb⟩ := hrel
          by_cases hlt : k < more.length
          · obtain ⟨b1, o1, n1, k9, r1, e1, q1, i1⟩ := HMM.out.get hlt
            simp only [Value.slice.injEq] at e1
            obtain ⟨rfl, -, -⟩ := e1
            have y1 := below_cell hb q1
            obtain ⟨c, hc⟩ : ∃ c, c = more.getD k [] := ⟨_, rfl⟩
            rw [← hc] at i1
            obtain ⟨rc, kc, rfl, -⟩ := id i1
            have j0 : (0 : Int) ≤ (k : Int) := by omega
            have j1 : (k : Int) < (more.length : Int) := by omega
            have HBW := Lib.hid hb
            clear q1 i1 hb hc
            by_cases h80 : 80 < c.length
            · have d80 : decide ((80 : Int) < (c.length : Int)) = true := decide_eq_true (by omega)
              clear h80
              go_wp2_with fail
              go_ret
              exact ⟨_, rfl, HB.out.trans (HBW.out.mono HB.out.size)⟩
            · have d80 : decide ((80 : Int) < (c.length : Int)) = false := decide_eq_false (by omega)
              clear h80
              go_wp2_with fail
              go_roundw
              case rel => exact ⟨k + 1, by omega, by go_num, HBW.out⟩
              case measure => simp [intOf]; omega
          · obtain rfl : k = more.length := by omega
            have hdk2 : decide (more.length < more.length) = false := decide_eq_false (by omega)
            have HBF := Lib.hid (HB.out.trans (hb.mono HB.out.size))
            clear hb
            go_wp2_with fail
            go_ret
            exact ⟨_, rfl, HBF.out⟩

end Go.Proofs.YtnbkbnbmmkfckaaGreat
