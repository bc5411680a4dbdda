/- Package keygen, in plain Lean: keys, right dealings; what Deal, Qualified and Own compute. Package keygen, in plain Lean: what the laws say. Package keygen, in plain Lean: all deal as Deal does. -/
import Derived.Test.YtggnipkfliompaaGreatDoorMCoF
namespace Go.Proofs.YtggnipkfliompaaGreatDoor
open Go.RowKit FP

/-- Is a number no key, and not 0? -/
def oddK (k : Int) : Bool := !(k == 0) && !elB k
/-- Has an owner no key? -/
def missK (keys : List Int) (o : Int) : Bool := decide ((keys.length : Int) ≤ o) || nth keys o.toNat == 0
/-- Are numbers keys for a right program? -/
def keysB (owners keys : List Int) : Bool := decide (keys.length ≤ 64) && (!keys.any oddK && !owners.any (missK keys))
structure KeysOK (owners keys : List Int) : Prop where
  few : keys.length ≤ 64
  el : ∀ k ∈ keys, k = 0 ∨ El k
  own : ∀ o ∈ owners, o < (keys.length : Int) ∧ nth keys o.toNat ≠ 0
theorem keysB_iff {owners keys : List Int} : keysB owners keys = true ↔ KeysOK owners keys := by
  unfold keysB
  rw [Bool.and_eq_true, Bool.and_eq_true, decide_eq_true_eq, Bool.not_eq_true', Bool.not_eq_true', List.any_eq_false, List.any_eq_false]
  constructor
  · rintro ⟨h1, h2, h3⟩
    refine ⟨h1, fun k hk => ?_, fun o ho => ?_⟩
    · have h := h2 k hk
      unfold oddK at h
      by_cases h0 : k = 0
      · exact .inl h0
      · right
        rw [beq_eq_false_iff_ne.2 h0] at h
        refine elB_iff.1 ?_
        cases e : elB k with
        | true => rfl
        | false => rw [e] at h; simp at h
    · have h := h3 o ho
      unfold missK at h
      simp only [Bool.or_eq_true, decide_eq_true_eq, beq_iff_eq, not_or] at h
      exact ⟨by omega, h.2⟩
  · rintro ⟨h1, h2, h3⟩
    refine ⟨h1, fun k hk => ?_, fun o ho => ?_⟩
    · unfold oddK
      rcases h2 k hk with rfl | h
      · simp
      · rw [elB_iff.2 h]; simp
    · unfold missK
      obtain ⟨h4, h5⟩ := h3 o ho
      simp only [Bool.or_eq_true, decide_eq_true_eq, beq_iff_eq, not_or]
      exact ⟨by omega, h5⟩
/-- The key of the owner of a row. -/
def keyOf (owners keys : List Int) (i : Nat) : Int := nth keys (nth owners i).toNat
theorem KeysOK.key {owners keys : List Int} (h : KeysOK owners keys) (h0 : ∀ o ∈ owners, 0 ≤ o) {i : Nat} (hi : i < owners.length) : (nth owners i).toNat < keys.length ∧ El (keyOf owners keys i) := by
  have hm : nth owners i ∈ owners := by rw [nth_at hi]; exact List.getElem_mem hi
  obtain ⟨h1, h2⟩ := h.own _ hm
  have h3 := h0 _ hm
  have h4 : (nth owners i).toNat < keys.length := by omega
  refine ⟨h4, ?_⟩
  unfold keyOf
  have := h.el (nth keys (nth owners i).toNat) (by rw [nth_at h4]; exact List.getElem_mem h4)
  rcases this with e | e
  · exact absurd e h2
  · exact e

/-- Is a parcel in order? -/
def parOk (ps : List Pcl) (k : Nat) : Bool := (ps.getD k (0, 0, 0)).1 == (k : Int) && (elB (ps.getD k (0, 0, 0)).2.1 && inB (ps.getD k (0, 0, 0)).2.2 0 1073741788)
def parsB (ps : List Pcl) : Bool := (List.range ps.length).all (parOk ps)
theorem parsB_bad {ps : List Pcl} {k : Nat} (h : k < ps.length) (hb : parOk ps k = false) : parsB ps = false := by
  cases e : parsB ps with
  | false => rfl
  | true => rw [List.all_eq_true.1 e k (List.mem_range.2 h)] at hb; cases hb
theorem parsB_all {ps : List Pcl} (h : ∀ k, k < ps.length → parOk ps k = true) : parsB ps = true := List.all_eq_true.2 fun k hk => h k (List.mem_range.1 hk)
/-- Is a dealing right, for a right program? -/
def fineB (rows : List (List Int)) (d : Dlg) : Bool := inB d.dealer 0 63 && (comB rows d.cs && (decide (d.ps.length = rows.length) && parsB d.ps))
structure FineD (rows : List (List Int)) (d : Dlg) : Prop where
  dealer : 0 ≤ d.dealer ∧ d.dealer ≤ 63
  com : comB rows d.cs = true
  len : d.ps.length = rows.length
  par : ∀ k (h : k < d.ps.length), d.ps[k].1 = (k : Int) ∧ El d.ps[k].2.1 ∧ (0 ≤ d.ps[k].2.2 ∧ d.ps[k].2.2 ≤ 1073741788)
theorem parOk_iff {ps : List Pcl} {k : Nat} (h : k < ps.length) : parOk ps k = true ↔ ps[k].1 = (k : Int) ∧ El ps[k].2.1 ∧ (0 ≤ ps[k].2.2 ∧ ps[k].2.2 ≤ 1073741788) := by
  unfold parOk
  rw [getD_at h, Bool.and_eq_true, Bool.and_eq_true, beq_iff_eq, elB_iff, inB_iff]
theorem fineB_iff {rows : List (List Int)} {d : Dlg} : fineB rows d = true ↔ FineD rows d := by
  unfold fineB
  rw [Bool.and_eq_true, Bool.and_eq_true, Bool.and_eq_true, inB_iff, decide_eq_true_eq]
  constructor
  · rintro ⟨h1, h2, h3, h4⟩
    exact ⟨h1, h2, h3, fun k hk => (parOk_iff hk).1 (List.all_eq_true.1 h4 k (List.mem_range.2 hk))⟩
  · rintro ⟨h1, h2, h3, h4⟩
    exact ⟨h1, h2, h3, parsB_all fun k hk => (parOk_iff hk).2 (h4 k hk)⟩
theorem FineD.complete {rows : List (List Int)} {owners : List Int} {d : Dlg} (h : FineD rows d) (hp : progE rows owners = 0) : Complete rows owners d :=
  ⟨progE_ok hp, hp, h.dealer, h.len, comB_ok hp h.com, fun k hk => (h.par k hk).1⟩
theorem FineD.at {rows : List (List Int)} {d : Dlg} (h : FineD rows d) {i : Nat} (hi : i < rows.length) : (parAt d (i : Int)).1 = (i : Int) ∧ El (parAt d (i : Int)).2.1 ∧ (0 ≤ (parAt d (i : Int)).2.2 ∧ (parAt d (i : Int)).2.2 ≤ 1073741788) := by
  have hi2 : i < d.ps.length := by rw [h.len]; exact hi
  obtain ⟨h1, e⟩ := parAt_mem (d := d) (row := (i : Int)) ⟨by omega, by omega⟩
  rw [e]
  exact h.par i hi2
theorem FineD.right {rows : List (List Int)} {d : Dlg} (h : FineD rows d) (h64 : rows.length ≤ 64) {i : Nat} (hi : i < rows.length) : RightP (parAt d (i : Int)).1 (parAt d (i : Int)).2.1 (parAt d (i : Int)).2.2 := by
  obtain ⟨h1, h2, h3⟩ := h.at hi
  exact ⟨by rw [h1]; omega, h2, h3⟩

/-- Is a number no secret? -/
def oddU (u : Int) : Bool := !inB u 1 1073741788
/-- The error of Deal. -/
def kdE (rows : List (List Int)) (owners keys : List Int) (dealer x : Int) (rnd us : List Int) : Int :=
  if progE rows owners ≠ 0 then progE rows owners else if keysB owners keys = false then 370 else if inB dealer 0 63 = false then 1 else
    if dealE rows owners x rnd ≠ 0 then dealE rows owners x rnd else if us.length ≠ rows.length ∨ us.any oddU = true then 1 else 0
/-- A parcel that is sealed. -/
def sealK (rows : List (List Int)) (owners keys : List Int) (dealer : Int) (us s : List Int) (i : Nat) : Pcl :=
  ((i : Int), powE 4 (nth us i), cipV (nth us i) (keyOf owners keys i) dealer (i : Int) (prodQ (rows.getD i []) s))
def sealL (rows : List (List Int)) (owners keys : List Int) (dealer : Int) (us s : List Int) (n : Nat) : List Pcl := (List.range n).map (sealK rows owners keys dealer us s)
theorem sealL_len (rows : List (List Int)) (owners keys : List Int) (dealer : Int) (us s : List Int) (n : Nat) : (sealL rows owners keys dealer us s n).length = n := by simp [sealL]
theorem sealL_snoc (rows : List (List Int)) (owners keys : List Int) (dealer : Int) (us s : List Int) (n : Nat) : sealL rows owners keys dealer us s (n + 1) = sealL rows owners keys dealer us s n ++ [sealK rows owners keys dealer us s n] := range_snoc _ _
/-- The dealing that Deal makes. -/
def kdD (rows : List (List Int)) (owners keys : List Int) (dealer x : Int) (rnd us : List Int) : Dlg :=
  if kdE rows owners keys dealer x rnd us = 0 then ⟨dealer, dealC (x :: rnd), sealL rows owners keys dealer us (x :: rnd) rows.length⟩ else ⟨0, [], []⟩
structure KdOK (rows : List (List Int)) (owners keys : List Int) (dealer x : Int) (rnd us : List Int) : Prop where
  p0 : progE rows owners = 0
  keys : KeysOK owners keys
  dl : 0 ≤ dealer ∧ dealer ≤ 63
  ok : DealOK rows owners x rnd
  d0 : dealE rows owners x rnd = 0
  len : us.length = rows.length
  us : ∀ u ∈ us, 1 ≤ u ∧ u ≤ 1073741788
theorem kdE_ok {rows : List (List Int)} {owners keys : List Int} {dealer x : Int} {rnd us : List Int} : kdE rows owners keys dealer x rnd us = 0 ↔ KdOK rows owners keys dealer x rnd us := by
  unfold kdE
  constructor
  · intro h
    by_cases hp : progE rows owners = 0
    rotate_left
    · rw [if_pos hp] at h; exact absurd h hp
    rw [if_neg (by simp [hp])] at h
    cases hk : keysB owners keys with
    | false => rw [hk] at h; simp at h
    | true =>
    rw [hk, if_neg (by simp)] at h
    cases hd : inB dealer 0 63 with
    | false => rw [hd] at h; simp at h
    | true =>
    rw [hd, if_neg (by simp)] at h
    by_cases he : dealE rows owners x rnd = 0
    rotate_left
    · rw [if_pos he] at h; exact absurd h he
    rw [if_neg (by simp [he])] at h
    by_cases hu : us.length ≠ rows.length ∨ us.any oddU = true
    · rw [if_pos hu] at h; cases h
    · rw [not_or, Decidable.not_not] at hu
      refine ⟨hp, keysB_iff.1 hk, inB_iff.1 hd, dealE_ok he, he, hu.1, fun u hm => ?_⟩
      have h2 : us.any oddU = false := by simpa using hu.2
      have := List.any_eq_false.1 h2 u hm
      unfold oddU at this
      exact inB_iff.1 (by simpa using this)
  · rintro ⟨h1, h2, h3, h4, h5, h6, h7⟩
    rw [if_neg (by simp [h1]), keysB_iff.2 h2, if_neg (by simp), inB_iff.2 h3, if_neg (by simp), if_neg (by simp [h5]), if_neg]
    rintro (h | h)
    · exact h h6
    · obtain ⟨u, hm, ho⟩ := List.any_eq_true.1 h
      unfold oddU at ho
      rw [inB_iff.2 (h7 u hm)] at ho; cases ho

/-- Does a complaint count against a right dealing? -/
def kcntB (rows : List (List Int)) (owners keys : List Int) (d : Dlg) (c : Cmp) : Bool :=
  (decide (c.dealer = d.dealer) && (decide (0 ≤ c.row) && decide (c.row < (rows.length : Int)))) && (stE rows owners (keyOf owners keys c.row.toNat) d c == 0 && stG rows owners (keyOf owners keys c.row.toNat) d c == 1)
/-- Is the dealer of a dealing qualified? -/
def passB (rows : List (List Int)) (owners keys : List Int) (cl : List Cmp) (d : Dlg) : Bool := fineB rows d && !cl.any (kcntB rows owners keys d)
def qualL (rows : List (List Int)) (owners keys : List Int) (cl : List Cmp) (l : List Dlg) : List Dlg := l.filter (passB rows owners keys cl)
/-- The dealer of a dealing. -/
def dlrL (l : List Dlg) : List Int := l.map (·.dealer)
def ordB (l : List Dlg) : Bool := (List.range (l.length - 1)).all fun i => decide (nth (dlrL l) i < nth (dlrL l) (i + 1))
/-- The product of commitments. -/
def comL : List Dlg → List Int
  | [] => []
  | d :: t => renC d.cs (t.map (·.cs))
/-- The error of Qualified. -/
def quE (rows : List (List Int)) (owners keys : List Int) (l : List Dlg) (cl : List Cmp) : Int :=
  if progE rows owners ≠ 0 then progE rows owners else if keysB owners keys = false then 370 else if 64 < l.length ∨ 4096 < cl.length then 2 else
    if ordB l = false then 370 else if qualL rows owners keys cl l = [] then 370 else 0
theorem dlrL_len (l : List Dlg) : (dlrL l).length = l.length := by simp [dlrL]
theorem dlrL_at {l : List Dlg} {k : Nat} (h : k < l.length) : nth (dlrL l) k = l[k].dealer := by rw [nth_at (by rw [dlrL_len]; exact h)]; simp [dlrL]
theorem ordB_bad {l : List Dlg} {k : Nat} (h : k + 1 < l.length) (hb : ¬ nth (dlrL l) k < nth (dlrL l) (k + 1)) : ordB l = false := by
  cases e : ordB l with
  | false => rfl
  | true => exact absurd (of_decide_eq_true (List.all_eq_true.1 e k (List.mem_range.2 (by omega)))) hb
theorem ordB_all {l : List Dlg} (h : ∀ k, k + 1 < l.length → nth (dlrL l) k < nth (dlrL l) (k + 1)) : ordB l = true :=
  List.all_eq_true.2 fun k hk => decide_eq_true (h k (by have := List.mem_range.1 hk; omega))
theorem ordB_pair {l : List Dlg} (h : ordB l = true) : (dlrL l).Pairwise (· < ·) := by
  have h1 : ∀ k, k + 1 < l.length → nth (dlrL l) k < nth (dlrL l) (k + 1) := fun k hk => of_decide_eq_true (List.all_eq_true.1 h k (List.mem_range.2 (by omega)))
  rw [List.pairwise_iff_getElem]
  intro i j hi hj hij
  have hl := dlrL_len l
  have h2 : ∀ n i, i + n + 1 < l.length → nth (dlrL l) i < nth (dlrL l) (i + n + 1) := by
    intro n
    induction n with
    | zero => intro i h; exact h1 i h
    | succ n ih => intro i h; exact Int.lt_trans (ih i (by omega)) (h1 (i + n + 1) h)
  have := h2 (j - i - 1) i (by omega)
  rw [show i + (j - i - 1) + 1 = j by omega, nth_at hi, nth_at hj] at this
  exact this

/-- The right dealing of a dealer. -/
def isOf (rows : List (List Int)) (n : Int) (d : Dlg) : Bool := d.dealer == n && fineB rows d
def findD (rows : List (List Int)) (l : List Dlg) (n : Int) : Dlg := (l.find? (isOf rows n)).getD ⟨0, [], []⟩
/-- Are dealers those of right dealings, and in order? -/
def dlsB (rows : List (List Int)) (l : List Dlg) (ds : List Int) (k : Nat) : Bool := l.any (isOf rows (nth ds k)) && (decide (k = 0) || decide (nth ds (k - 1) < nth ds k))
def allDls (rows : List (List Int)) (l : List Dlg) (ds : List Int) : Bool := (List.range ds.length).all (dlsB rows l ds)
/-- The error of Own. -/
def owE (rows : List (List Int)) (owners : List Int) (s row : Int) (ds : List Int) (l : List Dlg) : Int :=
  if progE rows owners ≠ 0 then progE rows owners else if inB s 1 1073741788 = false then 110 else if row < 0 ∨ (rows.length : Int) ≤ row then 1 else
    if 64 < l.length then 2 else if ordB l = false then 370 else if allDls rows l ds = false then 370 else 0
/-- The sum of what the parcels hold. -/
def owS (rows : List (List Int)) (s row : Int) (ds : List Int) (l : List Dlg) : Nat → Int
  | 0 => 0
  | k + 1 => (owS rows s row ds l k + mkV s (findD rows l (nth ds k)) row) % 1073741789
theorem owS_num (rows : List (List Int)) (s row : Int) (ds : List Int) (l : List Dlg) : ∀ k, 0 ≤ owS rows s row ds l k ∧ owS rows s row ds l k < 1073741789
  | 0 => by show (0 : Int) ≤ 0 ∧ (0 : Int) < 1073741789; omega
  | k + 1 => by show 0 ≤ (_ : Int) % 1073741789 ∧ (_ : Int) % 1073741789 < 1073741789; omega
def owV (rows : List (List Int)) (owners : List Int) (s row : Int) (ds : List Int) (l : List Dlg) : Int := if owE rows owners s row ds l = 0 then owS rows s row ds l ds.length else 0
def owR (rows : List (List Int)) (owners : List Int) (s row : Int) (ds : List Int) (l : List Dlg) : Int := if owE rows owners s row ds l = 0 then row else 0
theorem allDls_bad {rows : List (List Int)} {l : List Dlg} {ds : List Int} {k : Nat} (h : k < ds.length) (hb : dlsB rows l ds k = false) : allDls rows l ds = false := by
  cases e : allDls rows l ds with
  | false => rfl
  | true => rw [List.all_eq_true.1 e k (List.mem_range.2 h)] at hb; cases hb
theorem allDls_all {rows : List (List Int)} {l : List Dlg} {ds : List Int} (h : ∀ k, k < ds.length → dlsB rows l ds k = true) : allDls rows l ds = true := List.all_eq_true.2 fun k hk => h k (List.mem_range.1 hk)
theorem find_of {rows : List (List Int)} {l : List Dlg} {n : Int} (h : l.any (isOf rows n) = true) : findD rows l n ∈ l ∧ (findD rows l n).dealer = n ∧ FineD rows (findD rows l n) := by
  unfold findD
  cases e : l.find? (isOf rows n) with
  | none =>
    obtain ⟨d, hd, h2⟩ := List.any_eq_true.1 h
    exact absurd h2 (by have := List.find?_eq_none.1 e d hd; simpa using this)
  | some d =>
    have h1 := List.mem_of_find?_eq_some e
    have h2 := List.find?_some e
    unfold isOf at h2
    rw [Bool.and_eq_true, beq_iff_eq] at h2
    exact ⟨h1, h2.1, fineB_iff.1 h2.2⟩

end Go.Proofs.YtggnipkfliompaaGreatDoor

namespace Go.Proofs.YtggnipkfliompaaGreatDoor
open Go.RowKit FP

section
variable {rows : List (List Int)} {owners keys : List Int} {cl : List Cmp} {l : List Dlg}
theorem qual_of {d : Dlg} (h : d ∈ l) (hf : FineD rows d) (hc : ∀ c ∈ cl, kcntB rows owners keys d c = false) : d ∈ qualL rows owners keys cl l := by
  refine List.mem_filter.2 ⟨h, ?_⟩
  unfold passB
  rw [Bool.and_eq_true, Bool.not_eq_true']
  exact ⟨fineB_iff.2 hf, List.any_eq_false.2 fun c h => by simp [hc c h]⟩
theorem qual_all (h : ∀ d ∈ l, FineD rows d ∧ ∀ c ∈ cl, kcntB rows owners keys d c = false) : qualL rows owners keys cl l = l := by
  unfold qualL
  refine List.filter_eq_self.2 fun d hd => ?_
  obtain ⟨h1, h2⟩ := h d hd
  exact (List.mem_filter.1 (qual_of (rows := rows) (owners := owners) (keys := keys) (cl := cl) hd h1 h2)).2
/-! Sums. -/
theorem renC_com {n : Nat} : ∀ (css : List (List Int)) (cs : List Int), (∀ c ∈ cs, El c) → cs.length = n → (∀ b ∈ css, (∀ c ∈ b, El c) ∧ b.length = n) → (∀ c ∈ renC cs css, El c) ∧ (renC cs css).length = n
  | [], cs, h, hl, _ => ⟨h, hl⟩
  | b :: t, cs, h, hl, ht => by
    obtain ⟨h1, h2⟩ := ht b List.mem_cons_self
    exact renC_com t (mulL cs b) (mulL_el h h1 (by omega)) (by rw [mulL_len]; exact hl) fun e he => ht e (List.mem_cons_of_mem _ he)
/-- The commitments of dealings that are right. -/
theorem comL_com {L : List Dlg} (hL : L ≠ []) (hf : ∀ d ∈ L, FineD rows d) : (∀ c ∈ comL L, El c) ∧ (comL L).length = colsQ rows := by
  cases L with
  | nil => exact absurd rfl hL
  | cons d t =>
    have h1 := comB_el (hf d List.mem_cons_self).com
    refine renC_com _ _ h1.1 h1.2 fun b hb => ?_
    obtain ⟨e, he, rfl⟩ := List.mem_map.1 hb
    exact comB_el (hf e (List.mem_cons_of_mem _ he)).com
/-! Who deals once. -/
theorem ord_inj (h : ordB l = true) {d e : Dlg} (hd : d ∈ l) (he : e ∈ l) (hde : d.dealer = e.dealer) : d = e := by
  have hp := ordB_pair h
  unfold dlrL at hp
  rw [List.pairwise_map] at hp
  obtain ⟨i, hi, rfl⟩ := List.getElem_of_mem hd
  obtain ⟨j, hj, rfl⟩ := List.getElem_of_mem he
  rcases Nat.lt_trichotomy i j with h1 | h1 | h1
  · have := (List.pairwise_iff_getElem.1 hp) i j hi hj h1; omega
  · subst h1; rfl
  · have := (List.pairwise_iff_getElem.1 hp) j i hj hi h1; omega
theorem find_at (h : ordB l = true) {d : Dlg} (hd : d ∈ l) (hf : FineD rows d) : findD rows l d.dealer = d := by
  have ha : l.any (isOf rows d.dealer) = true := List.any_eq_true.2 ⟨d, hd, by unfold isOf; rw [fineB_iff.2 hf]; simp⟩
  obtain ⟨h1, h2, -⟩ := find_of ha
  exact ord_inj h h1 hd h2
theorem ordB_of {L : List Dlg} (h : (dlrL L).Pairwise (· < ·)) : ordB L = true := ordB_all fun k hk => by
  have hl := dlrL_len L
  rw [nth_at (by omega), nth_at (by omega)]
  exact List.pairwise_iff_getElem.1 h k (k + 1) (by omega) (by omega) (by omega)
theorem ord_sub {L : List Dlg} (h : ordB l = true) (hs : L.Sublist l) : ordB L = true := ordB_of ((ordB_pair h).sublist (hs.map _))
/-- The dealers of some right dealings are dealers. -/
theorem dls_of {L : List Dlg} (h : ordB l = true) (hs : L.Sublist l) (hf : ∀ d ∈ L, FineD rows d) : allDls rows l (dlrL L) = true := allDls_all fun k hk => by
  have hl := dlrL_len L
  have hk2 : k < L.length := by omega
  unfold dlsB
  rw [Bool.and_eq_true]
  constructor
  · refine List.any_eq_true.2 ⟨L[k], hs.subset (List.getElem_mem hk2), ?_⟩
    unfold isOf
    rw [dlrL_at hk2, fineB_iff.2 (hf _ (List.getElem_mem hk2))]; simp
  · by_cases h0 : k = 0
    · rw [decide_eq_true h0]; rfl
    · have := List.pairwise_iff_getElem.1 (ordB_pair (ord_sub h hs)) (k - 1) k (by omega) (by omega) (by omega)
      rw [nth_at (by omega), nth_at (by omega), decide_eq_true this, Bool.or_true]
theorem owS_take {L : List Dlg} (h : ordB l = true) (hs : L.Sublist l) (hf : ∀ d ∈ L, FineD rows d) (s row : Int) : ∀ k, k ≤ L.length → owS rows s row (dlrL L) l k = (L.take k).foldl (fun a d => (a + mkV s d row) % 1073741789) 0
  | 0, _ => by simp [owS]
  | k + 1, hk => by
    have hk2 : k < L.length := by omega
    show (owS rows s row (dlrL L) l k + mkV s (findD rows l (nth (dlrL L) k)) row) % 1073741789 = _
    rw [owS_take h hs hf s row k (by omega), List.take_succ_eq_append_getElem hk2, List.foldl_append, dlrL_at hk2, find_at h (hs.subset (List.getElem_mem hk2)) (hf _ (List.getElem_mem hk2))]
    rfl
theorem owS_all {L : List Dlg} (h : ordB l = true) (hs : L.Sublist l) (hf : ∀ d ∈ L, FineD rows d) (s row : Int) : owS rows s row (dlrL L) l (dlrL L).length = L.foldl (fun a d => (a + mkV s d row) % 1073741789) 0 := by
  rw [dlrL_len, owS_take h hs hf s row _ (Nat.le_refl _), List.take_length]
theorem quE_of (hp : progE rows owners = 0) (hk : KeysOK owners keys) (h1 : l.length ≤ 64) (h2 : cl.length ≤ 4096) (ho : ordB l = true) (hq : qualL rows owners keys cl l ≠ []) : quE rows owners keys l cl = 0 := by
  unfold quE
  rw [if_neg (by simp [hp]), if_neg (by rw [keysB_iff.2 hk]; simp), if_neg (by omega), if_neg (by rw [ho]; simp), if_neg hq]
/-! Dealings that do not matter. -/
end

/-! Who deals as Deal does. -/
section
variable {rows : List (List Int)} {owners keys secrets : List Int} {dealer x : Int} {rnd us : List Int}
/-- Keys of secrets. -/
structure KeysOf (owners secrets keys : List Int) : Prop where
  eq : keys = secrets.map (powE 4)
  sec : ∀ s ∈ secrets, 1 ≤ s ∧ s ≤ 1073741788
  ok : KeysOK owners keys
  own : ∀ o ∈ owners, 0 ≤ o
/-- The secret of the owner of a row. -/
def secOf (owners secrets : List Int) (i : Nat) : Int := nth secrets (nth owners i).toNat
theorem KeysOf.at (h : KeysOf owners secrets keys) {i : Nat} (hi : i < owners.length) : (nth owners i).toNat < secrets.length ∧ (1 ≤ secOf owners secrets i ∧ secOf owners secrets i ≤ 1073741788) ∧ keyOf owners keys i = powE 4 (secOf owners secrets i) := by
  obtain ⟨h1, -⟩ := h.ok.key h.own hi
  have h2 : (nth owners i).toNat < secrets.length := by rw [h.eq, List.length_map] at h1; exact h1
  refine ⟨h2, h.sec _ (by unfold secOf; rw [nth_at h2]; exact List.getElem_mem h2), ?_⟩
  unfold keyOf secOf
  rw [h.eq, nth_mapv h2]
def vsK (rows : List (List Int)) (s : List Int) (i : Nat) : Int := prodQ (rows.getD i []) s
theorem KdOK.sd (h : KdOK rows owners keys dealer x rnd us) (hk : KeysOf owners secrets keys) : SD rows owners x rnd dealer (secOf owners secrets) (nth us) (vsK rows (x :: rnd)) where
  ok := h.ok
  p0 := h.p0
  dl := h.dl
  hs i hi := (hk.at (by rw [← h.ok.prog.len]; exact hi)).2.1
  hu i hi := h.us _ (by rw [nth_at (by rw [h.len]; exact hi)]; exact List.getElem_mem _)
  hv i _ := by have := prodQ_num (rows.getD i []) (x :: rnd); unfold vsK; omega
theorem kdD_sealD (h : KdOK rows owners keys dealer x rnd us) (hk : KeysOf owners secrets keys) : kdD rows owners keys dealer x rnd us = sealD rows (x :: rnd) dealer (secOf owners secrets) (nth us) (vsK rows (x :: rnd)) := by
  unfold kdD
  rw [if_pos (kdE_ok.2 h)]
  unfold sealD sealL
  refine congrArg (Dlg.mk dealer (dealC (x :: rnd))) ?_
  refine List.map_congr_left fun i hi => ?_
  have hi := List.mem_range.1 hi
  unfold sealK sealP vsK
  rw [(hk.at (by rw [← h.ok.prog.len]; exact hi)).2.2]
theorem KdOK.fine (h : KdOK rows owners keys dealer x rnd us) : FineD rows (kdD rows owners keys dealer x rnd us) := by
  unfold kdD
  rw [if_pos (kdE_ok.2 h)]
  refine ⟨h.dl, (com_deal_B h.ok h.p0).1, sealL_len _ _ _ _ _ _ _, fun k hk => ?_⟩
  have hk2 : k < rows.length := by rw [sealL_len] at hk; exact hk
  have e : (sealL rows owners keys dealer us (x :: rnd) rows.length)[k] = sealK rows owners keys dealer us (x :: rnd) k := by simp [sealL]
  show (sealL rows owners keys dealer us (x :: rnd) rows.length)[k].1 = _ ∧ El (sealL rows owners keys dealer us (x :: rnd) rows.length)[k].2.1 ∧ _
  rw [e]
  refine ⟨rfl, el_powE el_four _, ?_⟩
  have := cipV_num (nth us k) (keyOf owners keys k) dealer (k : Int) (prodQ (rows.getD k []) (x :: rnd))
  show 0 ≤ cipV _ _ _ _ _ ∧ cipV _ _ _ _ _ ≤ _
  omega
theorem kdD_dealer (h : KdOK rows owners keys dealer x rnd us) : (kdD rows owners keys dealer x rnd us).dealer = dealer ∧ (kdD rows owners keys dealer x rnd us).cs = dealC (x :: rnd) ∧ (kdD rows owners keys dealer x rnd us).ps.length = rows.length := by
  unfold kdD; rw [if_pos (kdE_ok.2 h)]; exact ⟨rfl, rfl, sealL_len _ _ _ _ _ _ _⟩
/-- The value of a row. -/
theorem kdD_val (h : KdOK rows owners keys dealer x rnd us) (hk : KeysOf owners secrets keys) {i : Nat} (hi : i < rows.length) : mkV (secOf owners secrets i) (kdD rows owners keys dealer x rnd us) (i : Int) = prodQ (rows.getD i []) (x :: rnd) := by
  rw [kdD_sealD h hk, (h.sd hk).mkV hi]; rfl
theorem kdD_par (h : KdOK rows owners keys dealer x rnd us) (hk : KeysOf owners secrets keys) {i : Nat} (hi : i < rows.length) : (parAt (kdD rows owners keys dealer x rnd us) (i : Int)).2.1 = powE 4 (nth us i) := by
  rw [kdD_sealD h hk, sealD_par hi]; rfl
/-- A complaint counts against an honest dealer only if it proves another element. -/
theorem kdD_cnt (h : KdOK rows owners keys dealer x rnd us) (hk : KeysOf owners secrets keys) {c : Cmp}
    (hc : c.dealer = dealer → 0 ≤ c.row → c.row < (rows.length : Int) → chkB (keyOf owners keys c.row.toNat) (powE 4 (nth us c.row.toNat)) c.D c.E c.S = true → c.D = powE (powE 4 (nth us c.row.toNat)) (secOf owners secrets c.row.toNat)) :
    kcntB rows owners keys (kdD rows owners keys dealer x rnd us) c = false := by
  unfold kcntB
  rw [(kdD_dealer h).1]
  by_cases h1 : c.dealer = dealer
  rotate_left
  · rw [decide_eq_false h1]; rfl
  by_cases h2 : 0 ≤ c.row
  rotate_left
  · rw [decide_eq_false h2]; simp
  by_cases h3 : c.row < (rows.length : Int)
  rotate_left
  · rw [decide_eq_false h3]; simp
  obtain ⟨k, hkk⟩ : ∃ k : Nat, c.row = (k : Int) := ⟨c.row.toNat, by omega⟩
  have hc := hc h1 h2 h3
  rw [hkk, Int.toNat_natCast] at hc ⊢
  have hkr : k < rows.length := by omega
  have hsd := h.sd hk
  rw [kdD_sealD h hk, hsd.stE0 hkr _ c h1 hkk]
  suffices e : stG rows owners (keyOf owners keys k) (sealD rows (x :: rnd) dealer (secOf owners secrets) (nth us) (vsK rows (x :: rnd))) c = 2 by rw [e]; simp
  cases e : chkB (keyOf owners keys k) (powE 4 (nth us k)) c.D c.E c.S with
  | false => rw [hsd.stG hkr _ c h1 hkk, e]; rfl
  | true =>
    rw [hsd.own hkr _ c h1 hkk (hc e), e, if_neg (by simp)]; unfold vsK; simp
end

end Go.Proofs.YtggnipkfliompaaGreatDoor

namespace Go.Proofs.YtggnipkfliompaaGreatDoor
open Go.RowKit FP

section
variable {rows : List (List Int)} {owners keys secrets : List Int}
end

end Go.Proofs.YtggnipkfliompaaGreatDoor
