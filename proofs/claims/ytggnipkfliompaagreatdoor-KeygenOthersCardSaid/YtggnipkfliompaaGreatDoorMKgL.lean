/- Package keygen, in plain Lean: what the laws say. Package keygen, in plain Lean: all deal as Deal does. -/
import Derived.Test.YtggnipkfliompaaGreatDoorMParF
namespace Go.Proofs.YtggnipkfliompaaGreatDoor
open Go.RowKit FP

section
variable {rows : List (List Int)} {owners keys : List Int} {cl : List Cmp} {l : List Dlg}
theorem qual_mem {d : Dlg} (h : d ∈ qualL rows owners keys cl l) : d ∈ l ∧ FineD rows d ∧ ∀ c ∈ cl, kcntB rows owners keys d c = false := by
  unfold qualL at h
  obtain ⟨h1, h2⟩ := List.mem_filter.1 h
  unfold passB at h2
  rw [Bool.and_eq_true, Bool.not_eq_true'] at h2
  exact ⟨h1, fineB_iff.1 h2.1, fun c hc => by simpa using List.any_eq_false.1 h2.2 c hc⟩
theorem qual_of {d : Dlg} (h : d ∈ l) (hf : FineD rows d) (hc : ∀ c ∈ cl, kcntB rows owners keys d c = false) : d ∈ qualL rows owners keys cl l := by
  refine List.mem_filter.2 ⟨h, ?_⟩
  unfold passB
  rw [Bool.and_eq_true, Bool.not_eq_true']
  exact ⟨fineB_iff.2 hf, List.any_eq_false.2 fun c h => by simp [hc c h]⟩
theorem qual_all (h : ∀ d ∈ l, FineD rows d ∧ ∀ c ∈ cl, kcntB rows owners keys d c = false) : qualL rows owners keys cl l = l := by
  unfold qualL
  refine List.filter_eq_self.2 fun d hd => ?_
  obtain ⟨h1, h2⟩ := h d hd
  exact (List.mem_filter.1 (qual_of (rows := rows) (owners := owners) (keys := keys) (cl := cl) hd h1 h2)).2
/-! Sums. -/
theorem nth_mulL {a b : List Int} {k : Nat} (h : k < a.length) : nth (mulL a b) k = nth a k * nth b k % 2147483579 := by unfold mulL; exact nth_map _ _ h
theorem renC_com {n : Nat} : ∀ (css : List (List Int)) (cs : List Int), (∀ c ∈ cs, El c) → cs.length = n → (∀ b ∈ css, (∀ c ∈ b, El c) ∧ b.length = n) → (∀ c ∈ renC cs css, El c) ∧ (renC cs css).length = n
  | [], cs, h, hl, _ => ⟨h, hl⟩
  | b :: t, cs, h, hl, ht => by
    obtain ⟨h1, h2⟩ := ht b List.mem_cons_self
    exact renC_com t (mulL cs b) (mulL_el h h1 (by omega)) (by rw [mulL_len]; exact hl) fun e he => ht e (List.mem_cons_of_mem _ he)
/-- The commitments of dealings that are right. -/
theorem comL_com {L : List Dlg} (hL : L ≠ []) (hf : ∀ d ∈ L, FineD rows d) : (∀ c ∈ comL L, El c) ∧ (comL L).length = colsQ rows := by
  cases L with
  | nil => exact absurd rfl hL
  | cons d t =>
    have h1 := comB_el (hf d List.mem_cons_self).com
    refine renC_com _ _ h1.1 h1.2 fun b hb => ?_
    obtain ⟨e, he, rfl⟩ := List.mem_map.1 hb
    exact comB_el (hf e (List.mem_cons_of_mem _ he)).com
/-! Who deals once. -/
theorem ord_inj (h : ordB l = true) {d e : Dlg} (hd : d ∈ l) (he : e ∈ l) (hde : d.dealer = e.dealer) : d = e := by
  have hp := ordB_pair h
  unfold dlrL at hp
  rw [List.pairwise_map] at hp
  obtain ⟨i, hi, rfl⟩ := List.getElem_of_mem hd
  obtain ⟨j, hj, rfl⟩ := List.getElem_of_mem he
  rcases Nat.lt_trichotomy i j with h1 | h1 | h1
  · have := (List.pairwise_iff_getElem.1 hp) i j hi hj h1; omega
  · subst h1; rfl
  · have := (List.pairwise_iff_getElem.1 hp) j i hj hi h1; omega
theorem find_at (h : ordB l = true) {d : Dlg} (hd : d ∈ l) (hf : FineD rows d) : findD rows l d.dealer = d := by
  have ha : l.any (isOf rows d.dealer) = true := List.any_eq_true.2 ⟨d, hd, by unfold isOf; rw [fineB_iff.2 hf]; simp⟩
  obtain ⟨h1, h2, -⟩ := find_of ha
  exact ord_inj h h1 hd h2
theorem ordB_of {L : List Dlg} (h : (dlrL L).Pairwise (· < ·)) : ordB L = true := ordB_all fun k hk => by
  have hl := dlrL_len L
  rw [nth_at (by omega), nth_at (by omega)]
  exact List.pairwise_iff_getElem.1 h k (k + 1) (by omega) (by omega) (by omega)
theorem ord_sub {L : List Dlg} (h : ordB l = true) (hs : L.Sublist l) : ordB L = true := ordB_of ((ordB_pair h).sublist (hs.map _))
/-- The dealers of some right dealings are dealers. -/
theorem dls_of {L : List Dlg} (h : ordB l = true) (hs : L.Sublist l) (hf : ∀ d ∈ L, FineD rows d) : allDls rows l (dlrL L) = true := allDls_all fun k hk => by
  have hl := dlrL_len L
  have hk2 : k < L.length := by omega
  unfold dlsB
  rw [Bool.and_eq_true]
  constructor
  · refine List.any_eq_true.2 ⟨L[k], hs.subset (List.getElem_mem hk2), ?_⟩
    unfold isOf
    rw [dlrL_at hk2, fineB_iff.2 (hf _ (List.getElem_mem hk2))]; simp
  · by_cases h0 : k = 0
    · rw [decide_eq_true h0]; rfl
    · have := List.pairwise_iff_getElem.1 (ordB_pair (ord_sub h hs)) (k - 1) k (by omega) (by omega) (by omega)
      rw [nth_at (by omega), nth_at (by omega), decide_eq_true this, Bool.or_true]
theorem owS_take {L : List Dlg} (h : ordB l = true) (hs : L.Sublist l) (hf : ∀ d ∈ L, FineD rows d) (s row : Int) : ∀ k, k ≤ L.length → owS rows s row (dlrL L) l k = (L.take k).foldl (fun a d => (a + mkV s d row) % 1073741789) 0
  | 0, _ => by simp [owS]
  | k + 1, hk => by
    have hk2 : k < L.length := by omega
    show (owS rows s row (dlrL L) l k + mkV s (findD rows l (nth (dlrL L) k)) row) % 1073741789 = _
    rw [owS_take h hs hf s row k (by omega), List.take_succ_eq_append_getElem hk2, List.foldl_append, dlrL_at hk2, find_at h (hs.subset (List.getElem_mem hk2)) (hf _ (List.getElem_mem hk2))]
    rfl
theorem owS_all {L : List Dlg} (h : ordB l = true) (hs : L.Sublist l) (hf : ∀ d ∈ L, FineD rows d) (s row : Int) : owS rows s row (dlrL L) l (dlrL L).length = L.foldl (fun a d => (a + mkV s d row) % 1073741789) 0 := by
  rw [dlrL_len, owS_take h hs hf s row _ (Nat.le_refl _), List.take_length]
theorem qual_sub : (qualL rows owners keys cl l).Sublist l := List.filter_sublist
theorem quE_parts (h : quE rows owners keys l cl = 0) : progE rows owners = 0 ∧ KeysOK owners keys ∧ l.length ≤ 64 ∧ cl.length ≤ 4096 ∧ ordB l = true ∧ qualL rows owners keys cl l ≠ [] := by
  unfold quE at h
  by_cases hp : progE rows owners = 0
  rotate_left
  · rw [if_pos hp] at h; exact absurd h hp
  rw [if_neg (by simp [hp])] at h
  cases hk : keysB owners keys with
  | false => rw [hk] at h; simp at h
  | true =>
  rw [hk, if_neg (by simp)] at h
  by_cases h2 : 64 < l.length ∨ 4096 < cl.length
  · rw [if_pos h2] at h; cases h
  rw [if_neg h2] at h
  cases ho : ordB l with
  | false => rw [ho] at h; simp at h
  | true =>
  rw [ho, if_neg (by simp)] at h
  by_cases hq : qualL rows owners keys cl l = []
  · rw [if_pos hq] at h; cases h
  exact ⟨hp, keysB_iff.1 hk, by omega, by omega, rfl, hq⟩
theorem quE_of (hp : progE rows owners = 0) (hk : KeysOK owners keys) (h1 : l.length ≤ 64) (h2 : cl.length ≤ 4096) (ho : ordB l = true) (hq : qualL rows owners keys cl l ≠ []) : quE rows owners keys l cl = 0 := by
  unfold quE
  rw [if_neg (by simp [hp]), if_neg (by rw [keysB_iff.2 hk]; simp), if_neg (by omega), if_neg (by rw [ho]; simp), if_neg hq]
/-! Dealings that do not matter. -/
theorem some_all (ho : ordB l = true) : l.filter (fun d => (dlrL (qualL rows owners keys cl l)).contains d.dealer) = qualL rows owners keys cl l := by
  unfold qualL
  refine List.filter_congr fun d hd => ?_
  cases e : passB rows owners keys cl d with
  | true =>
    rw [List.contains_iff_mem]
    exact List.mem_map.2 ⟨d, List.mem_filter.2 ⟨hd, e⟩, rfl⟩
  | false =>
    cases e2 : (dlrL (l.filter (passB rows owners keys cl))).contains d.dealer with
    | false => rfl
    | true =>
      rw [List.contains_iff_mem] at e2
      obtain ⟨d2, h2, h3⟩ := List.mem_map.1 e2
      obtain ⟨h4, h5⟩ := List.mem_filter.1 h2
      rw [ord_inj ho h4 hd h3, e] at h5; cases h5
theorem qual_self {cl2 : List Cmp} (h2 : ∀ c ∈ cl2, c ∈ cl) {L : List Dlg} (hL : ∀ d ∈ L, d ∈ qualL rows owners keys cl l) : qualL rows owners keys cl2 L = L := qual_all fun d hd => by
  obtain ⟨-, h4, h5⟩ := qual_mem (hL d hd)
  exact ⟨h4, fun c hc => h5 c (h2 c hc)⟩
theorem mul_assoc (a b c : Int) : a * b % 2147483579 * c % 2147483579 = a * (b * c % 2147483579) % 2147483579 := by
  rw [Int.mul_emod (a * b % 2147483579), Int.emod_emod, ← Int.mul_emod, Int.mul_emod a (b * c % 2147483579), Int.emod_emod, ← Int.mul_emod, Int.mul_assoc]
theorem renC_one {n : Nat} : ∀ (r : List (List Int)) (a b : List Int), a.length = n → b.length = n → ∀ j, j < n → nth (renC (mulL a b) r) j = nth a j * nth (renC b r) j % 2147483579
  | [], a, b, ha, hb, j, hj => nth_mulL (by omega)
  | c :: r, a, b, ha, hb, j, hj => by
    show nth (renC (mulL (mulL a b) c) r) j = nth a j * nth (renC (mulL b c) r) j % 2147483579
    have e : mulL (mulL a b) c = mulL a (mulL b c) := by
      refine List.ext_getElem (by rw [mulL_len, mulL_len, mulL_len]) fun k h1 h2 => ?_
      rw [mulL_len, mulL_len] at h1
      rw [← nth_at (by rw [mulL_len, mulL_len]; exact h1), ← nth_at h2, nth_mulL (by rw [mulL_len]; exact h1), nth_mulL h1, nth_mulL h1, nth_mulL (by omega), mul_assoc]
    rw [e]
    exact renC_one r a (mulL b c) ha (by rw [mulL_len]; exact hb) j hj
theorem comL_split {d e : Dlg} {t : List Dlg} (hf : ∀ x ∈ d :: e :: t, FineD rows x) {j : Nat} (hj : j < colsQ rows) : nth (comL (d :: e :: t)) j = nth (comL [d]) j * nth (comL (e :: t)) j % 2147483579 :=
  renC_one _ d.cs e.cs (comB_el (hf d (by simp)).com).2 (comB_el (hf e (by simp)).com).2 j hj
end

/-! Who deals as Deal does. -/
section
variable {rows : List (List Int)} {owners keys secrets : List Int} {dealer x : Int} {rnd us : List Int}
/-- Keys of secrets. -/
structure KeysOf (owners secrets keys : List Int) : Prop where
  eq : keys = secrets.map (powE 4)
  sec : ∀ s ∈ secrets, 1 ≤ s ∧ s ≤ 1073741788
  ok : KeysOK owners keys
  own : ∀ o ∈ owners, 0 ≤ o
/-- The secret of the owner of a row. -/
def secOf (owners secrets : List Int) (i : Nat) : Int := nth secrets (nth owners i).toNat
theorem KeysOf.at (h : KeysOf owners secrets keys) {i : Nat} (hi : i < owners.length) : (nth owners i).toNat < secrets.length ∧ (1 ≤ secOf owners secrets i ∧ secOf owners secrets i ≤ 1073741788) ∧ keyOf owners keys i = powE 4 (secOf owners secrets i) := by
  obtain ⟨h1, -⟩ := h.ok.key h.own hi
  have h2 : (nth owners i).toNat < secrets.length := by rw [h.eq, List.length_map] at h1; exact h1
  refine ⟨h2, h.sec _ (by unfold secOf; rw [nth_at h2]; exact List.getElem_mem h2), ?_⟩
  unfold keyOf secOf
  rw [h.eq, nth_mapv h2]
def vsK (rows : List (List Int)) (s : List Int) (i : Nat) : Int := prodQ (rows.getD i []) s
theorem KdOK.sd (h : KdOK rows owners keys dealer x rnd us) (hk : KeysOf owners secrets keys) : SD rows owners x rnd dealer (secOf owners secrets) (nth us) (vsK rows (x :: rnd)) where
  ok := h.ok
  p0 := h.p0
  dl := h.dl
  hs i hi := (hk.at (by rw [← h.ok.prog.len]; exact hi)).2.1
  hu i hi := h.us _ (by rw [nth_at (by rw [h.len]; exact hi)]; exact List.getElem_mem _)
  hv i _ := by have := prodQ_num (rows.getD i []) (x :: rnd); unfold vsK; omega
theorem kdD_sealD (h : KdOK rows owners keys dealer x rnd us) (hk : KeysOf owners secrets keys) : kdD rows owners keys dealer x rnd us = sealD rows (x :: rnd) dealer (secOf owners secrets) (nth us) (vsK rows (x :: rnd)) := by
  unfold kdD
  rw [if_pos (kdE_ok.2 h)]
  unfold sealD sealL
  refine congrArg (Dlg.mk dealer (dealC (x :: rnd))) ?_
  refine List.map_congr_left fun i hi => ?_
  have hi := List.mem_range.1 hi
  unfold sealK sealP vsK
  rw [(hk.at (by rw [← h.ok.prog.len]; exact hi)).2.2]
theorem KdOK.fine (h : KdOK rows owners keys dealer x rnd us) : FineD rows (kdD rows owners keys dealer x rnd us) := by
  unfold kdD
  rw [if_pos (kdE_ok.2 h)]
  refine ⟨h.dl, (com_deal_B h.ok h.p0).1, sealL_len _ _ _ _ _ _ _, fun k hk => ?_⟩
  have hk2 : k < rows.length := by rw [sealL_len] at hk; exact hk
  have e : (sealL rows owners keys dealer us (x :: rnd) rows.length)[k] = sealK rows owners keys dealer us (x :: rnd) k := by simp [sealL]
  show (sealL rows owners keys dealer us (x :: rnd) rows.length)[k].1 = _ ∧ El (sealL rows owners keys dealer us (x :: rnd) rows.length)[k].2.1 ∧ _
  rw [e]
  refine ⟨rfl, el_powE el_four _, ?_⟩
  have := cipV_num (nth us k) (keyOf owners keys k) dealer (k : Int) (prodQ (rows.getD k []) (x :: rnd))
  show 0 ≤ cipV _ _ _ _ _ ∧ cipV _ _ _ _ _ ≤ _
  omega
theorem kdD_dealer (h : KdOK rows owners keys dealer x rnd us) : (kdD rows owners keys dealer x rnd us).dealer = dealer ∧ (kdD rows owners keys dealer x rnd us).cs = dealC (x :: rnd) ∧ (kdD rows owners keys dealer x rnd us).ps.length = rows.length := by
  unfold kdD; rw [if_pos (kdE_ok.2 h)]; exact ⟨rfl, rfl, sealL_len _ _ _ _ _ _ _⟩
/-- The value of a row. -/
theorem kdD_val (h : KdOK rows owners keys dealer x rnd us) (hk : KeysOf owners secrets keys) {i : Nat} (hi : i < rows.length) : mkV (secOf owners secrets i) (kdD rows owners keys dealer x rnd us) (i : Int) = prodQ (rows.getD i []) (x :: rnd) := by
  rw [kdD_sealD h hk, (h.sd hk).mkV hi]; rfl
end

end Go.Proofs.YtggnipkfliompaaGreatDoor

namespace Go.Proofs.YtggnipkfliompaaGreatDoor
open Go.RowKit FP

section
variable {rows : List (List Int)} {owners keys secrets : List Int}
end

end Go.Proofs.YtggnipkfliompaaGreatDoor
