/- The laws of dealing: people of bits, and the shares of people. The laws of dealing: the shares of people (the reference's Of). -/
import Derived.Test.YtnbkbnbmmkfckaaMProC
import Derived.Test.YtnbkbnbmmkfckaaMSuC
import Derived.Laws.Bits64b
namespace Go.Proofs.Ytnbkbnbmmkfckaa
open Go.RowKit FP

def bitQ (b : Int) (i : Nat) : Bool := decide (b / 2 ^ i % 2 = 1)
def bitsL (b : Int) (n : Nat) : List Nat := (List.range n).filter (bitQ b)
def peopleQ (b : Int) : List Int := (bitsL b 64).map fun (i : Nat) => (i : Int)
theorem bitsL_yes {b : Int} {n : Nat} (h : bitQ b n = true) : bitsL b (n + 1) = bitsL b n ++ [n] := by
  unfold bitsL; rw [List.range_succ, List.filter_append]; simp [h]
theorem bitsL_no {b : Int} {n : Nat} (h : bitQ b n = false) : bitsL b (n + 1) = bitsL b n := by
  unfold bitsL; rw [List.range_succ, List.filter_append]; simp [h]
theorem bitsL_len (b : Int) (n : Nat) : (bitsL b n).length ≤ n := by
  unfold bitsL
  exact Nat.le_trans (List.length_filter_le _ _) (by simp)

theorem and_one (x : Int) (h0 : 0 ≤ x) (h1 : x < 18446744073709551616) : bits .and .u64 x 1 = x % 2 := by
  obtain ⟨n, rfl⟩ : ∃ n : Nat, x = n := ⟨x.toNat, by omega⟩
  have h := bits_and_u64_nat n 1 (by omega) (by omega)
  rw [Nat.and_one_is_mod] at h
  have e : ((1 : Nat) : Int) = 1 := rfl
  rw [e] at h
  rw [h]; omega
theorem shr_num {b : Int} (h0 : 0 ≤ b) (h1 : b < 18446744073709551616) (k : Nat) : 0 ≤ b / 2 ^ k ∧ b / 2 ^ k < 18446744073709551616 := by
  have hp : (0 : Int) < 2 ^ k := Int.pow_pos (by omega)
  refine ⟨Int.ediv_nonneg h0 (Int.le_of_lt hp), ?_⟩
  have := Int.ediv_le_self (2 ^ k) h0
  omega

theorem people_right (b : Int) : peopleB (-1) (peopleQ b) = true := by
  have key : ∀ (l : List Nat) (last : Int), (∀ i ∈ l, i < 64 ∧ last < (i : Int)) → l.Pairwise (· < ·) → peopleB last (l.map fun (i : Nat) => (i : Int)) = true := by
    intro l
    induction l with
    | nil => intro _ _ _; rfl
    | cons a t ih =>
      intro last h1 h2
      obtain ⟨h3, h4⟩ := List.pairwise_cons.1 h2
      rw [List.map_cons]
      unfold peopleB
      have := h1 a (by simp)
      rw [inB_iff.2 ⟨by omega, by omega⟩, decide_eq_true this.2, ih a (fun i hi => ⟨(h1 i (by simp [hi])).1, by have := h3 i hi; omega⟩) h4]
      rfl
  refine key _ _ (fun i hi => ?_) (List.pairwise_lt_range.sublist List.filter_sublist)
  have : i < 64 := by simpa using (List.mem_filter.1 hi).1
  exact ⟨this, by omega⟩

end Go.Proofs.Ytnbkbnbmmkfckaa

namespace Go.Proofs.Ytnbkbnbmmkfckaa
open Go.RowKit FP

def ofQ (owners who : List Int) (l : List (Int × Int)) : List (Int × Int) := l.flatMap fun s => List.replicate (who.count (nth owners s.1.toNat)) s
theorem ofQ_len (owners who : List Int) : ∀ l : List (Int × Int), (ofQ owners who l).length ≤ l.length * who.length
  | [] => by simp [ofQ]
  | s :: l => by
    have ih := ofQ_len owners who l
    unfold ofQ at ih ⊢
    rw [List.flatMap_cons, List.length_append, List.length_replicate, List.length_cons, Nat.add_mul, Nat.one_mul]
    have := List.count_le_length (a := nth owners s.1.toNat) (l := who)
    omega
theorem ofQ_take {owners who : List Int} {l : List (Int × Int)} {i : Nat} (h : i < l.length) : ofQ owners who (l.take (i + 1)) = ofQ owners who (l.take i) ++ List.replicate (who.count (nth owners l[i].1.toNat)) l[i] := by
  unfold ofQ
  rw [List.take_succ_eq_append_getElem h, List.flatMap_append]; simp
theorem count_take {who : List Int} {x : Int} {k : Nat} (h : k < who.length) : (who.take (k + 1)).count x = (who.take k).count x + (if who[k] = x then 1 else 0) := by
  rw [List.take_succ_eq_append_getElem h, List.count_append, List.count_singleton]
  by_cases e : who[k] = x
  · simp [e]
  · simp [e]
theorem rep_next {α : Type} (n : Nat) (s : α) : List.replicate (n + 1) s = List.replicate n s ++ [s] := List.replicate_succ'

set_option maxRecDepth 100000 in
set_option maxHeartbeats 4000000 in
theorem of_any (rv ov lv wv : Value) (owners who : List Int) (l : List (Int × Int)) (w : World) (hr : ∃ a n c, rv = .slice a n c) (hO : Ints w ov owners) (hL : Shares w lv l) (hW : Ints w wv who) (hl : l.length ≤ 100) (hw : who.length ≤ 100) (hin : ∀ p ∈ l, 0 ≤ p.1 ∧ p.1 < (owners.length : Int)) :
    Calls Try.prog 42 #[.agg #[rv, ov], lv, wv] w fun e w' => ∃ v, e = .returned v ∧ Shares w' v (ofQ owners who l) ∧ Below w.heap.size w w' := by
  obtain ⟨ra, rn, rc, rfl⟩ := hr
  obtain ⟨W1, hW1, hb1, hr1, hz⟩ := box_prog w (.slice ra rn rc) ov 25
  have HO := Lib.hid (hO.below hb1)
  have HL := Lib.hid (hL.below hb1)
  have HWH := Lib.hid (hW.below hb1)
  obtain ⟨a2, cap2, rfl, -, hlen2, -⟩ := id hO
  obtain ⟨a3, cap3, rfl, -, hlen3, hr64, -⟩ := id hL
  obtain ⟨a4, cap4, rfl, -, hlen4, -⟩ := id hW
  have c1 : W1.cell? ⟨w.heap.size, 1, none⟩ = some (.slice a2 owners.length cap2) := row_cell hr1 rfl
  have HB := Lib.hid hb1
  have HW1 := Lib.hid hW1
  have hz1 : W1.heap.size = w.heap.size + 1 := by rw [hW1]; simp
  have HIN := Lib.hid hin
  have HR64 := Lib.hid hr64
  clear hO hL hW hr1 hW1 hb1 hin hr64
  have h00 : (W1.alloc (.cells #[] 27)).ownsRow W1.heap.size 27 2 (.slice (some ⟨w.heap.size + 1, 0, none⟩) 0 0) (ofQ owners who (l.take 0)).length ((ofQ owners who (l.take 0)).flatMap shaC) := by
    rw [show ofQ owners who (l.take 0) = [] by simp [ofQ], ← hz1]; exact World.ownsRow_made _ #[] 0 (Nat.le_refl _) (by unfold maxLen; omega) rfl
  have hba := below_new W1 #[] 27
  clear hz1
  go_enter Try.func42, Try.ntmps42
  go_wp2_with fail
  rw [← HW1.out]
  go_loopw [7, 8, 9, 10] (fun L i _ _ W => ∃ k : Nat, k ≤ l.length ∧ i = .int .i64 k ∧ W.ownsRow W1.heap.size 27 2 L (ofQ owners who (l.take k)).length ((ofQ owners who (l.take k)).flatMap shaC) ∧ Below W1.heap.size W1 W) (fun _ i _ _ _ => l.length - (intOf i).toNat)
  case atStart => exact ⟨0, Nat.zero_le _, rfl, h00, hba⟩
  case round =>
    clear h00 hba
    obtain ⟨i, hil, rfl, hown, hb⟩ := hrel
    by_cases hlt : i < l.length
    · obtain ⟨aS, cS, eS, -, -, -, hk1⟩ := HL.out
      obtain ⟨b1, o1, ea, qa, qb⟩ := hk1 i hlt
      simp only [Value.slice.injEq] at eS
      obtain ⟨rfl, -, rfl⟩ := eS
      subst ea
      obtain ⟨in0, in1⟩ := HIN.out _ (List.getElem_mem hlt)
      obtain ⟨n, hn⟩ : ∃ n : Nat, l[i].1 = n := ⟨l[i].1.toNat, by omega⟩
      have hno : n < owners.length := by omega
      obtain ⟨hr64x, b2, o2, n2, k2, e2, q2⟩ := HO.out.get hno
      simp only [Value.slice.injEq] at e2
      obtain ⟨rfl, -, -⟩ := e2
      have HTK : Hid (ofQ owners who (l.take (i + 1)) = ofQ owners who (l.take i) ++ List.replicate (who.count (nth owners n)) ((n : Int), l[i].2)) := Lib.hid (by
        rw [ofQ_take hlt, hn, Int.toNat_natCast]
        congr 2
        exact Prod.ext hn rfl)
      rw [hn] at qa
      have QA := Lib.hid qa
      have QB := Lib.hid qb
      have y1 := below_cell hb qa
      have y2 := below_cell hb qb
      have y3 := below_cell hb q2
      have z1 := below_cell hb c1
      have HBW := Lib.hid hb
      have HOW := Lib.hid hown
      have hlen := ofQ_len owners who (l.take i)
      have hofl : (ofQ owners who (l.take i)).length ≤ 10000 := by
        have h1 : (l.take i).length ≤ 100 := by simp; omega
        have := Nat.mul_le_mul h1 hw
        omega
      have i0 : 0 ≤ (i : Int) := by omega
      have i1 : (i : Int) < (l.length : Int) := by omega
      have i2 : 0 ≤ (n : Int) := by omega
      have i3 : (n : Int) < (owners.length : Int) := by omega
      clear hk1 qa qb q2 hb hown hlen in0 in1 hn
      generalize l[i].2 = v1 at *
      generalize nth owners n = x at *
      obtain ⟨F, hF⟩ : ∃ F, F = ofQ owners who (l.take i) := ⟨_, rfl⟩
      rw [← hF] at HTK HOW hofl
      clear hF
      go_wp2_with fail
      go_region_held3 (fun w' => w'.cell? ⟨w.heap.size, 1, none⟩ = some (.slice (some ⟨b2, o2, none⟩) owners.length cap2) ∧ w'.cell? ⟨b1, o1 + i * 2, none⟩ = some (.int .i64 n) ∧ w'.cell? ⟨b2, o2 + n, none⟩ = some (.int .i64 x)) (go_keep) (fail)
      go_wp2_with fail
      have h01 : wr.drew.ownsRow W1.heap.size 27 2 u7 (F.length + (who.take 0).count x) ((F ++ List.replicate ((who.take 0).count x) ((n : Int), v1)).flatMap shaC) := by
        simp; exact HOW.out.drew
      have hb1d : Below W1.heap.size W1 wr.drew := HBW.out.drew
      obtain ⟨wd, hwd⟩ : ∃ wd, wd = wr.drew := ⟨_, rfl⟩
      rw [← hwd] at h01 hb1d ⊢
      clear hwd y1 y2 y3 z1 HOW HBW
      go_loopw [7, 10] (fun L k W => ∃ j : Nat, j ≤ who.length ∧ k = .int .i64 j ∧ W.ownsRow W1.heap.size 27 2 L (F.length + (who.take j).count x) ((F ++ List.replicate ((who.take j).count x) ((n : Int), v1)).flatMap shaC) ∧ Below W1.heap.size W1 W) (fun _ k _ => who.length - (intOf k).toNat)
      case atStart => exact ⟨0, Nat.zero_le _, rfl, h01, hb1d⟩
      case round =>
        clear h01 hb1d
        obtain ⟨j, hjl, rfl, hown, hb⟩ := hrel
        by_cases hjt : j < who.length
        · obtain ⟨-, b3, o3, n3, k3, e3, q3⟩ := HWH.out.get hjt
          simp only [Value.slice.injEq] at e3
          obtain ⟨rfl, -, -⟩ := e3
          have HCT := Lib.hid (count_take (x := x) hjt)
          rw [← nth_at hjt] at HCT
          have y1 := below_cell hb QA.out
          have y2 := below_cell hb QB.out
          have y3 := below_cell hb q3
          have HBW := Lib.hid hb
          have HOW := Lib.hid hown
          have hct : ((who.take j).count x) ≤ 100 := by
            have h1 := List.count_le_length (a := x) (l := who.take j)
            have h2 : (who.take j).length ≤ who.length := by simp; omega
            omega
          have j0 : 0 ≤ (j : Int) := by omega
          have j1 : (j : Int) < (who.length : Int) := by omega
          clear hown hb q3
          obtain ⟨c, hc⟩ : ∃ c, c = (who.take j).count x := ⟨_, rfl⟩
          rw [← hc] at HCT HOW hct
          clear hc
          generalize nth who j = y at *
          have HLN : Hid (F.length + c ≤ 1000000) := Lib.hid (by omega)
          by_cases hyx : y = x
          · have hq : (y == x) = true := beq_iff_eq.2 hyx
            have HC2 : Hid ((who.take (j + 1)).count x = c + 1) := Lib.hid (by rw [HCT.out, if_pos hyx])
            clear hyx
            have hbn := below_new wr #[.int .i64 n, .int .i64 v1] 27
            have hrw := World.alloc_heap_new wr (.cells #[.int .i64 n, .int .i64 v1] 27)
            have HOX := Lib.hid (own_keep HOW.out hbn)
            have HQ0 := Lib.hid (show (wr.alloc (.cells #[.int .i64 n, .int .i64 v1] 27)).cell? ⟨wr.heap.size, 0, none⟩ = some (.int .i64 n) from row_cell hrw rfl)
            have HQ1 := Lib.hid (show (wr.alloc (.cells #[.int .i64 n, .int .i64 v1] 27)).cell? ⟨wr.heap.size, 0 + 1, none⟩ = some (.int .i64 v1) from row_cell hrw rfl)
            have HB9 := Lib.hid (HBW.out.trans (hbn.mono HBW.out.size))
            have HBS := Lib.hid HB9.out.size
            clear hbn hrw
            go_wp2_with (refine app_share rfl _ _ rfl W1.heap.size _ (F ++ List.replicate c ((n : Int), v1)) _ rfl HOX.out wr.heap.size 0 1 ((n : Int), v1) rfl HQ0.out HQ1.out HLN.out HBS.out ?_; intro g8 cap8 wz h9 o9; have H9 := Lib.hid h9; have O9 := Lib.hid o9; clear h9 o9)
            go_roundw
            case rel => exact ⟨j + 1, by omega, by go_num, by rw [HC2.out, rep_next, ← List.append_assoc]; exact H9.out, HB9.out.trans (own_below HOX.out O9.out.1 HBS.out)⟩
            case measure => simp [intOf]; omega
          · have hq : (y == x) = false := beq_eq_false_iff_ne.2 hyx
            have HC2 : Hid ((who.take (j + 1)).count x = c) := Lib.hid (by rw [HCT.out, if_neg hyx]; rfl)
            clear hyx
            go_wp2_with fail
            go_roundw
            case rel => exact ⟨j + 1, by omega, by go_num, by rw [HC2.out]; exact HOW.out, HBW.out⟩
            case measure => simp [intOf]; omega
        · obtain rfl : j = who.length := by omega
          rw [List.take_length, show F.length + who.count x = (F ++ List.replicate (who.count x) ((n : Int), v1)).length by simp, ← HTK.out] at hown
          have HOW := Lib.hid hown
          have HBW := Lib.hid hb
          have hdk : decide (who.length < who.length) = false := decide_eq_false (by omega)
          clear hown hb
          go_wp2_with fail
          go_roundw
          case rel => exact ⟨i + 1, by omega, by go_num, HOW.out, HBW.out⟩
          case measure => simp [intOf]; omega
    · obtain rfl : i = l.length := by omega
      rw [List.take_length] at hown
      have hlen := ofQ_len owners who l
      have h2 := Nat.mul_le_mul hl hw
      have HS := Lib.hid (Shares.own (l := ofQ owners who l) hown (fun p hp => by
        obtain ⟨s, hs, h3⟩ := List.mem_flatMap.1 hp
        rw [(List.mem_replicate.1 h3).2]
        exact HR64.out s hs) (by omega))
      have HF := Lib.hid (HB.out.trans (hb.mono HB.out.size))
      have hdk : decide (l.length < l.length) = false := decide_eq_false (by omega)
      clear hown hb hlen h2
      go_wp2_with fail
      go_ret
      exact ⟨_, rfl, HS.out, HF.out⟩

end Go.Proofs.Ytnbkbnbmmkfckaa
