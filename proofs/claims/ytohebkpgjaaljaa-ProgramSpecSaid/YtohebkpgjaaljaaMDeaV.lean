/- The laws of dealing: small programs, columns, random numbers. The laws of dealing: every share that was dealt fits, and with no other value. A law's argument that is a program, a word or a list of words. -/
import Derived.Test.YtohebkpgjaaljaaMDeaS
import Derived.Test.YtohebkpgjaaljaaMOpen
import Derived.Lib.SmallJoins
namespace Go.Proofs.Ytohebkpgjaaljaa
open Go.RowKit FP

/-- The slice v reads as words. -/
def Words (w : World) (v : Value) (l : List Int) : Prop :=
  ∃ a cap, v = .slice a l.length cap ∧ l.length ≤ cap ∧ l.length ≤ 1000000000000000 ∧ (∀ z ∈ l, 0 ≤ z ∧ z < 4294967296) ∧
    ∀ k (h : k < l.length), ∃ b off, a = some ⟨b, off, none⟩ ∧ w.cell? ⟨b, off + k, none⟩ = some (.int .u32 l[k])
theorem Words.below {w w' : World} {v : Value} {l : List Int} (h : Words w v l) (hb : Below w.heap.size w w') : Words w' v l := by
  obtain ⟨a, cap, rfl, hc, hl, hr, hk⟩ := h
  refine ⟨a, cap, rfl, hc, hl, hr, fun k hlt => ?_⟩
  obtain ⟨b, off, ha, h1⟩ := hk k hlt
  exact ⟨b, off, ha, below_cell hb h1⟩
theorem Words.nil (w : World) (a : Option Addr) (cap : Nat) : Words w (.slice a 0 cap) [] :=
  ⟨a, cap, rfl, Nat.zero_le _, by simp, by simp, fun k h => absurd h (Nat.not_lt_zero _)⟩

/-- The random numbers of a law. -/
def randN (l : List Int) (i : Nat) : Int := if i < l.length then l.getD i 0 % 1073741789 else 0
def randQ (rows : List (List Int)) (l : List Int) : List Int := (List.range (colsQ rows - 1)).map (randN l)
theorem randN_num (l : List Int) (i : Nat) : 0 ≤ randN l i ∧ randN l i < 1073741789 := by unfold randN; split <;> omega
theorem randQ_len (rows : List (List Int)) (l : List Int) : (randQ rows l).length = colsQ rows - 1 := by simp [randQ]
theorem randQ_num (rows : List (List Int)) (l : List Int) : ∀ z ∈ randQ rows l, 0 ≤ z ∧ z < 1073741789 := fun z hz => by
  obtain ⟨i, -, rfl⟩ := List.mem_map.1 hz
  exact randN_num l i
/-- Is a program right, and small? -/
def smallQ (rows : List (List Int)) (owners : List Int) : Bool := decide (rows.length ≤ 16) && (decide (progE rows owners = 0) && decide (colsQ rows ≤ 16))

set_option maxRecDepth 100000 in
set_option maxHeartbeats 1000000 in
theorem rcolumns_any (rv ov : Value) (rows : List (List Int)) (owners : List Int) (w : World) (hR : Rows2 w rv rows) (hO : Ints w ov owners) :
    Calls Try.prog 75 #[.agg #[rv, ov]] w fun e w' => e = .returned (.int .i64 (colsQ rows)) ∧ Below w.heap.size w w' := by
  obtain ⟨W1, hW1, hb1, hr1, hz⟩ := box_prog w rv ov 25
  have HR1 := Lib.hid (hR.below hb1)
  obtain ⟨a, cap, rfl, -, hlen, -⟩ := id hR
  obtain ⟨a2, cap2, rfl, -, hlen2, -⟩ := id hO
  have c0 : W1.cell? ⟨w.heap.size, 0, none⟩ = some (.slice a rows.length cap) := rowp_cell hr1 rfl
  have HW1 := Lib.hid hW1
  have HB1 := Lib.hid hb1
  clear hR hO hr1 hW1 hb1
  by_cases h0 : rows.length = 0
  · have HV := Lib.hid (show colsQ rows = 1 by unfold colsQ; rw [if_pos h0])
    have z0 : ((rows.length : Int) == 0) = true := by rw [h0]; rfl
    clear h0
    go_enter Try.func75, Try.ntmps75
    go_wp2_with fail
    go_ret
    exact ⟨ret_int (by rw [HV.out]; rfl), HW1.out ▸ HB1.out⟩
  · have HV := Lib.hid (show colsQ rows = wide rows by unfold colsQ; rw [if_neg h0])
    have z0 : ((rows.length : Int) == 0) = false := beq_eq_false_iff_ne.2 (by omega)
    obtain ⟨aa, cc, e1, -, -, hk⟩ := HR1.out
    obtain ⟨b, off, r, ha, q1, hI⟩ := hk 0 (by omega)
    simp only [Value.slice.injEq] at e1
    obtain ⟨rfl, -, rfl⟩ := e1
    subst ha
    rw [Nat.add_zero] at q1
    obtain ⟨ra, rc, rfl, -⟩ := id hI
    rw [wide_at rows (by omega)] at q1
    have i3 : (0 : Int) < (rows.length : Int) := by omega
    clear hk hI h0
    generalize wide rows = m at *
    go_enter Try.func75, Try.ntmps75
    go_wp2_with (rw [← HW1.out])
    go_ret
    exact ⟨ret_int (by rw [HV.out]), HB1.out⟩

set_option maxRecDepth 100000 in
set_option maxHeartbeats 2000000 in
theorem rsmall_any (rv ov : Value) (rows : List (List Int)) (owners : List Int) (w : World) (hR : Rows2 w rv rows) (hO : Ints w ov owners) :
    Calls Try.prog 34 #[.agg #[rv, ov]] w fun e w' => e = .returned (.bool (smallQ rows owners)) ∧ Below w.heap.size w w' := by
  obtain ⟨W1, hW1, hb1, hr1, hz⟩ := box_prog w rv ov 25
  have HR1 := Lib.hid (hR.below hb1)
  have HO1 := Lib.hid (hO.below hb1)
  have HPC := Lib.hid (rpCheck_any rv ov rows owners W1 HR1.out HO1.out)
  obtain ⟨a, cap, rfl, -, hlen, -⟩ := id hR
  obtain ⟨a2, cap2, rfl, -, hlen2, -⟩ := id hO
  have c0 : W1.cell? ⟨w.heap.size, 0, none⟩ = some (.slice a rows.length cap) := rowp_cell hr1 rfl
  have c1 : W1.cell? ⟨w.heap.size, 1, none⟩ = some (.slice a2 owners.length cap2) := row_cell hr1 rfl
  have HW1 := Lib.hid hW1
  have HB1 := Lib.hid hb1
  clear hR hO hr1 hW1 hb1
  by_cases h16 : rows.length ≤ 16
  · have z0 : decide ((rows.length : Int) ≤ 16) = true := decide_eq_true (by omega)
    by_cases hp : progE rows owners = 0
    · have HV : Hid (smallQ rows owners = decide (colsQ rows ≤ 16)) := Lib.hid (by unfold smallQ; rw [decide_eq_true h16, decide_eq_true hp]; rfl)
      have HD : Hid (decide (((colsQ rows : Nat) : Int) ≤ 16) = decide (colsQ rows ≤ 16)) := Lib.hid (decide_eq_decide.2 (by omega))
      have hcu := (progE_ok hp).cols_le
      have HCO := Lib.hid (fun w h1 h2 => rcolumns_any (.slice a rows.length cap) (.slice a2 owners.length cap2) rows owners w h1 h2)
      rw [hp] at HPC
      clear hp h16
      generalize colsQ rows = cq at *
      go_enter Try.func34, Try.ntmps34
      go_wp2_with fail
      rw [← HW1.out]
      refine HPC.out.mono ?_
      rintro r w2 ⟨rfl, hb2⟩
      have d0 := below_cell hb2 c0
      have d1 := below_cell hb2 c1
      have HR2 := Lib.hid (HR1.out.below hb2)
      have HO2 := Lib.hid (HO1.out.below hb2)
      have HB2 := Lib.hid (HB1.out.trans (hb2.mono HB1.out.size))
      clear hb2
      go_wp2_with fail
      refine (HCO.out _ HR2.out HO2.out).mono ?_
      rintro r w3 ⟨rfl, hb3⟩
      go_wp2_with fail
      go_ret
      exact ⟨ret_bool (by rw [HV.out]; simp; omega), HB2.out.trans (hb3.mono HB2.out.size)⟩
    · have HV : Hid (smallQ rows owners = false) := Lib.hid (by unfold smallQ; rw [decide_eq_false hp, Bool.false_and, Bool.and_false])
      have h2 : (progE rows owners == 0) = false := beq_eq_false_iff_ne.2 hp
      clear hp h16
      go_enter Try.func34, Try.ntmps34
      go_wp2_with fail
      rw [← HW1.out]
      refine HPC.out.mono ?_
      rintro r w2 ⟨rfl, hb2⟩
      go_wp2_with fail
      go_ret
      exact ⟨ret_bool HV.out.symm, HB1.out.trans (hb2.mono HB1.out.size)⟩
  · have HV : Hid (smallQ rows owners = false) := Lib.hid (by unfold smallQ; rw [decide_eq_false h16, Bool.false_and])
    have z0 : decide ((rows.length : Int) ≤ 16) = false := decide_eq_false (by omega)
    clear h16
    go_enter Try.func34, Try.ntmps34
    go_wp2_with fail
    go_ret
    exact ⟨ret_bool HV.out.symm, HW1.out ▸ HB1.out⟩

set_option maxRecDepth 100000 in
set_option maxHeartbeats 4000000 in
theorem random_any (rv ov lv : Value) (rows : List (List Int)) (owners l : List Int) (w : World) (hR : Rows2 w rv rows) (hO : Ints w ov owners) (hL : Words w lv l) (hp : ProgOK rows owners) :
    Calls Try.prog 35 #[.agg #[rv, ov], lv] w fun e w' => ∃ v, e = .returned v ∧ Ints w' v (randQ rows l) ∧ Below w.heap.size w w' := by
  obtain ⟨W1, hW1, hb1, hr1, hz⟩ := box_prog w rv ov 25
  have HCO := Lib.hid (rcolumns_any rv ov rows owners W1 (hR.below hb1) (hO.below hb1))
  have HL1 := Lib.hid (hL.below hb1)
  obtain ⟨a, cap, rfl, -, hlen, -⟩ := id hR
  obtain ⟨a2, cap2, rfl, -, hlen2, -⟩ := id hO
  obtain ⟨a3, cap3, rfl, -, hlen3, -⟩ := id hL
  have c0 : W1.cell? ⟨w.heap.size, 0, none⟩ = some (.slice a rows.length cap) := row_cell hr1 rfl
  have c1 : W1.cell? ⟨w.heap.size, 1, none⟩ = some (.slice a2 owners.length cap2) := row_cell hr1 rfl
  have HW1 := Lib.hid hW1
  have HB1 := Lib.hid hb1
  have hci := hp.cols
  have hcu := hp.cols_le
  have HRQ : Hid (randQ rows l = (List.range (colsQ rows - 1)).map (randN l)) := Lib.hid rfl
  clear hR hO hL hr1 hW1 hb1 hp
  generalize colsQ rows = cq at *
  have hci2 : (1 : Int) ≤ (cq : Int) := by omega
  have hcv : (cq : Int) ≤ 64 := by omega
  go_enter Try.func35, Try.ntmps35
  go_wp2_with fail
  rw [← HW1.out]
  refine HCO.out.mono ?_
  rintro r w2 ⟨rfl, hb2⟩
  have HL2 := Lib.hid (HL1.out.below hb2)
  have HB2 := Lib.hid (HB1.out.trans (hb2.mono HB1.out.size))
  have h00 : w2.ownsRow w2.heap.size 3 1 (.slice none 0 0) 0 (((List.range 0).map (randN l)).map (Value.int .i64)) := World.ownsRow_nil _ _ _ _
  clear hb2 HCO c0 c1 HL1
  go_wp2_with fail
  go_loopw [4, 10] (fun C i W => ∃ k : Nat, k ≤ cq - 1 ∧ i = .int .i64 k ∧ W.ownsRow w2.heap.size 3 1 C k (((List.range k).map (randN l)).map (Value.int .i64)) ∧ Below w2.heap.size w2 W) (fun _ i _ => (cq - 1) - (intOf i).toNat)
  case atStart => exact ⟨0, Nat.zero_le _, rfl, h00, Below.refl _ _⟩
  case round =>
    clear h00
    obtain ⟨k, hkl, rfl, hown, hb⟩ := hrel
    by_cases hlt : k < cq - 1
    · have hd : decide ((k : Int) < (cq : Int) - 1) = true := decide_eq_true (by omega)
      have hk64 : k ≤ 64 := by omega
      by_cases hin : k < l.length
      · obtain ⟨aa, cc, e1, -, -, hr, hk⟩ := HL2.out
        obtain ⟨b, off, ha, q1⟩ := hk k hin
        simp only [Value.slice.injEq] at e1
        obtain ⟨rfl, -, rfl⟩ := e1
        subst ha
        have y1 := below_cell hb q1
        have hz := hr _ (List.getElem_mem hin)
        have HT : Hid (((List.range (k + 1)).map (randN l)).map (Value.int .i64) = ((List.range k).map (randN l)).map (Value.int .i64) ++ [.int .i64 (l[k] % 1073741789)]) := Lib.hid (by
          rw [range_snoc, List.map_append]; unfold randN; rw [if_pos hin, getD_at hin]; rfl)
        have hi1 : (k : Int) < (l.length : Int) := by omega
        have hz0 := hz.1
        have hz1 := hz.2
        have HBW := Lib.hid hb
        have HOW := Lib.hid hown
        clear hk hr q1 hb hown hz
        generalize l[k] = z at *
        have hm : z.tmod 1073741789 = z % 1073741789 := by rw [Int.tmod_eq_emod_of_nonneg hz0]
        have hw : IntKind.i64.wrap z = z := IntWalk.i64_in _ (by omega)
        have hmb := mod_r64 z
        have HN := Lib.hid (below_new wr #[.int .i64 (z % 1073741789)] 3)
        have HOX := Lib.hid (own_keep HOW.out HN.out)
        have hq0 : (wr.alloc (.cells #[.int .i64 (z % 1073741789)] 3)).cell? ⟨wr.heap.size, 0, none⟩ = some (.int .i64 (z % 1073741789)) := row_cell (World.alloc_heap_new _ _) rfl
        have HQ0 := Lib.hid hq0
        have HB9 := Lib.hid (HBW.out.trans (HN.out.mono HBW.out.size))
        have HBS := Lib.hid HB9.out.size
        clear hq0
        go_wp2_with (refine app_int rfl _ _ rfl w2.heap.size k _ _ rfl HOX.out wr.heap.size 1 (z % 1073741789) rfl HQ0.out (by omega) HBS.out ?_; intro v9 w9 h9 o9; have H9 := Lib.hid h9; have O9 := Lib.hid o9; clear h9 o9)
        go_roundw
        case rel => exact ⟨k + 1, by omega, by go_num, by rw [HT.out]; exact H9.out, HB9.out.trans (own_below HOX.out O9.out HBS.out)⟩
        case measure => simp [intOf]; omega
      · have HT : Hid (((List.range (k + 1)).map (randN l)).map (Value.int .i64) = ((List.range k).map (randN l)).map (Value.int .i64) ++ [.int .i64 0]) := Lib.hid (by
          rw [range_snoc, List.map_append]; unfold randN; rw [if_neg hin]; rfl)
        have hi1 : decide ((k : Int) < (l.length : Int)) = false := decide_eq_false (by omega)
        have hi2 : decide (k < l.length) = false := decide_eq_false (by omega)
        have HBW := Lib.hid hb
        have HOW := Lib.hid hown
        clear hb hown
        have HN := Lib.hid (below_new wr #[.int .i64 0] 3)
        have HOX := Lib.hid (own_keep HOW.out HN.out)
        have hq0 : (wr.alloc (.cells #[.int .i64 0] 3)).cell? ⟨wr.heap.size, 0, none⟩ = some (.int .i64 0) := row_cell (World.alloc_heap_new _ _) rfl
        have HQ0 := Lib.hid hq0
        have HB9 := Lib.hid (HBW.out.trans (HN.out.mono HBW.out.size))
        have HBS := Lib.hid HB9.out.size
        clear hq0
        go_wp2_with (refine app_int rfl _ _ rfl w2.heap.size k _ _ rfl HOX.out wr.heap.size 1 0 rfl HQ0.out (by omega) HBS.out ?_; intro v9 w9 h9 o9; have H9 := Lib.hid h9; have O9 := Lib.hid o9; clear h9 o9)
        go_roundw
        case rel => exact ⟨k + 1, by omega, by go_num, by rw [HT.out]; exact H9.out, HB9.out.trans (own_below HOX.out O9.out HBS.out)⟩
        case measure => simp [intOf]; omega
    · obtain rfl : k = cq - 1 := by omega
      have hd : decide (((cq - 1 : Nat) : Int) < (cq : Int) - 1) = false := decide_eq_false (by omega)
      have HIF := Lib.hid (Ints.own (zs := randQ rows l) (by rw [HRQ.out]; exact hown) (by
        rw [HRQ.out]
        intro z hz
        obtain ⟨i, -, rfl⟩ := List.mem_map.1 hz
        exact num_r64 (randN_num l i)) (by rw [HRQ.out]; simp; omega))
      have HF := Lib.hid (HB2.out.trans (hb.mono HB2.out.size))
      clear hown hb
      go_wp2_with fail
      go_ret
      exact ⟨_, rfl, HIF.out, HF.out⟩

end Go.Proofs.Ytohebkpgjaaljaa

namespace Go.Proofs.Ytohebkpgjaaljaa
open Go.RowKit FP

theorem nth_mapv {f : Int → Int} {l : List Int} {k : Nat} (h : k < l.length) : nth (l.map f) k = f (nth l k) := by
  rw [nth_at (by simpa using h), nth_at h, List.getElem_map]
theorem pub_deal (row s : List Int) : ∀ j, j ≤ s.length → pubF row (dealC s) j = powE 4 (prodF row s j)
  | 0, _ => by show (1 : Int) = powE 4 0; rw [powE_0]
  | j + 1, hj => by
    show pubF row (dealC s) j * powE (nth (dealC s) j) (nth row j) % 2147483579 = powE 4 ((prodF row s j + nth row j * nth s j % 1073741789) % 1073741789)
    rw [pub_deal row s j (by omega), show nth (dealC s) j = powE 4 (nth s j) from nth_mapv (by omega), powE_mul el_four, ← powE_add el_four]
    refine powE_same ?_
    rw [Int.mul_comm (nth s j) (nth row j)]
    generalize nth row j * nth s j = q
    omega
theorem com_deal {rows : List (List Int)} {owners : List Int} {x : Int} {rnd : List Int} (h : DealOK rows owners x rnd) (hp : progE rows owners = 0) : ComOK rows owners (dealC (x :: rnd)) :=
  ⟨h.prog, hp, by simp [dealC, ← h.len], fun c hc => by
    obtain ⟨n, -, rfl⟩ := List.mem_map.1 hc
    exact el_powE el_four n⟩
theorem fit_deal {rows : List (List Int)} {owners : List Int} {x : Int} {rnd : List Int} (h : DealOK rows owners x rnd) (hp : progE rows owners = 0) {k : Nat} (hk : k < rows.length) {v : Int} (hv : 0 ≤ v ∧ v < 1073741789) :
    fitE rows owners (dealC (x :: rnd)) k v = 0 ∧ fitB rows owners (dealC (x :: rnd)) k v = decide (v = prodQ (rows.getD k []) (x :: rnd)) := by
  have hE : fitE rows owners (dealC (x :: rnd)) k v = 0 := by
    unfold fitE
    rw [dchkE_of (com_deal h hp), if_neg (by simp), if_pos (rightS_iff.2 ⟨⟨by omega, by omega⟩, hv⟩)]
  refine ⟨hE, ?_⟩
  have hr := h.prog.row hk
  have hl : (x :: rnd).length = colsQ rows := by rw [List.length_cons]; exact h.len
  unfold fitB
  rw [if_pos hE, Int.toNat_natCast]
  unfold pubQ prodQ
  rw [pub_deal _ _ _ (by simp [dealC]), getD_at hk, hr, show (dealC (x :: rnd)).length = colsQ rows by rw [← hl]; simp [dealC]]
  have hn := prodF_num rows[k] (x :: rnd) (colsQ rows)
  generalize prodF rows[k] (x :: rnd) (colsQ rows) = p at *
  by_cases e : v = p
  · subst e; simp
  · rw [decide_eq_false e]
    refine beq_eq_false_iff_ne.2 fun e2 => e ?_
    have := el_order2 el_four four_ne e2
    omega
theorem small_ok {rows : List (List Int)} {owners : List Int} (h : smallQ rows owners = true) : rows.length ≤ 16 ∧ progE rows owners = 0 ∧ colsQ rows ≤ 16 := by
  unfold smallQ at h
  simpa using h
theorem rand_ok {rows : List (List Int)} {owners : List Int} (hp : progE rows owners = 0) (l : List Int) {x : Int} (hx : 0 ≤ x ∧ x < 1073741789) : DealOK rows owners x (randQ rows l) :=
  ⟨progE_ok hp, hx, randQ_num rows l, by have := (progE_ok hp).cols; rw [randQ_len]; omega⟩
theorem dealE_of {rows : List (List Int)} {owners : List Int} {x : Int} {rnd : List Int} (h : DealOK rows owners x rnd) (hp : progE rows owners = 0) : dealE rows owners x rnd = 0 := by
  unfold dealE
  rw [if_neg (by simp [hp]), if_neg]
  rw [oddQ_of h.hx, any_odd_of h.hr]
  rintro (e | e | e)
  · cases e
  · cases e
  · exact e h.len
theorem dealL_len (rows : List (List Int)) (s : List Int) : (dealL rows s).length = rows.length := by simp [dealL]
theorem dealL_at (rows : List (List Int)) (s : List Int) {k : Nat} (h : k < (dealL rows s).length) : (dealL rows s)[k] = ((k : Int), prodQ (rows.getD k []) s) := by
  have e := dealL_len rows s
  show ((List.range rows.length).map (dealF rows s))[k]'(by simp; omega) = _
  rw [List.getElem_map, List.getElem_range]; rfl

set_option maxRecDepth 100000 in
/-- Deal, where it deals. -/
theorem deal_ok (rv ov mv : Value) (rows : List (List Int)) (owners : List Int) (x : Int) (rnd : List Int) (w : World) (hR : Rows2 w rv rows) (hO : Ints w ov owners) (hM : Ints w mv rnd) (h : DealOK rows owners x rnd) (hp : progE rows owners = 0) :
    Calls Try.prog 37 #[.agg #[rv, ov], .int .i64 x, mv] w fun r w' => ∃ al cl ac cc, r = .returned (.tuple #[.slice al rows.length cl, .slice ac (colsQ rows) cc, .int .i64 0]) ∧ Shares w' (.slice al rows.length cl) (dealL rows (x :: rnd)) ∧ Ints w' (.slice ac (colsQ rows) cc) (dealC (x :: rnd)) ∧ Below w.heap.size w w' := by
  refine (deal_yes rv ov mv rows owners x rnd w hR hO hM h hp).mono ?_
  rintro r w' ⟨lv, cv, rfl, hl, hc, hb⟩
  obtain ⟨al, cl, rfl, -⟩ := id hl
  obtain ⟨ac, cc, rfl, -⟩ := id hc
  have e1 := dealL_len rows (x :: rnd)
  have e2 : (dealC (x :: rnd)).length = colsQ rows := by rw [← h.len]; simp [dealC]
  rw [e1] at hl ⊢
  rw [e2] at hc ⊢
  exact ⟨al, cl, ac, cc, rfl, hl, hc, hb⟩

end Go.Proofs.Ytohebkpgjaaljaa

namespace Go.Proofs.Ytohebkpgjaaljaa
open Go.ChangeShapes Go.WideShapes Go.ChangeAt Go.RowKit Go.Deep Go.Joins

theorem wf_u32 {n : Int} (h : (Lit.int .u32 n).wf = true) : 0 ≤ n ∧ n < 4294967296 := by
  simp [Lit.wf, IntKind.min, IntKind.max, IntKind.signed, IntKind.bits] at h
  omega
theorem wf_u64 {n : Int} (h : (Lit.int .u64 n).wf = true) : 0 ≤ n ∧ n < 18446744073709551616 := by
  simp [Lit.wf, IntKind.min, IntKind.max, IntKind.signed, IntKind.bits] at h
  omega
set_option maxRecDepth 100000 in
theorem cellsWord : Try.prog.cellsOf 54 = 1 := by kernel_rfl
set_option maxRecDepth 100000 in
theorem bytesWord : Try.prog.bytesOf 54 = 4 := by kernel_rfl
set_option maxRecDepth 100000 in
theorem cellsProgram : Try.prog.cellsOf 25 = 2 := by kernel_rfl

section
variable {H : Type} {enc : TypeId × Value → H} {W : World} {base : Nat}

set_option maxRecDepth 100000 in
/-- A list of words as an argument. -/
theorem open_words {v : Value} {d : DataW H} {ps : List MemPlace} (hs : ∃ a n c, v = .slice a n c) (h : DataW.Trod enc Try.prog W 0 (fun _ => true) true 55 v d ps) (hl : Light 55 d) : ∃ zs, Words W v zs := by
  obtain ⟨a0, len, cap, rfl⟩ := hs
  obtain ⟨fuel, hf⟩ := h
  rcases open_ints Try.underlying55 Try.underlying54 cellsWord hf with ⟨hcs, -⟩ | ⟨a, len', cap', zs, hcs, -, hle, hm, hz, hx, hcell, hwf⟩
  · simp [Value.cells] at hcs
    obtain ⟨rfl, rfl, rfl⟩ := hcs
    exact ⟨[], Words.nil _ _ _⟩
  · simp [Value.cells] at hcs
    obtain ⟨rfl, rfl, rfl⟩ := hcs
    simp only [if_true] at hz
    simp only [Prod.mk.injEq] at hx
    have hlen : cap ≤ 35184372088832 := by
      have := hl ((zs.take len).length + (zs.drop len).length |>.mul 4) (by
        rw [hx.1]
        simp only [DataW.weights, Try.underlying55, bytesWord, lits, List.length_map]
        exact List.mem_cons_self ..)
      have h2 : ((zs.take len).length + (zs.drop len).length) * 4 ≤ reachBytes := this
      rw [reach_is] at h2
      simp at h2
      omega
    refine ⟨zs.take len, some a, cap, by simp [hz, hle], by simp; omega, by simp; omega, fun z hzz => wf_u32 (hwf z (List.mem_of_mem_take hzz)), fun k hk => ?_⟩
    simp at hk
    have hc := hcell k (by omega)
    obtain ⟨b, o, sp⟩ := a
    have hsp : sp = none := by
      have h0 := World.cell?_spot (hcell 0 (by omega))
      simpa [Addr.add] using h0
    subst hsp
    refine ⟨b, o, rfl, ?_⟩
    rw [← add_plain, hc]
    simp [List.getD, List.getElem?_eq_getElem (show k < zs.length by omega)]

set_option maxRecDepth 100000 in
/-- A program as an argument. -/
theorem open_program {v : Value} {d : DataW H} {ps : List MemPlace} (hv : Value.okWide Try.prog W .any base 25 v) (h : DataW.Trod enc Try.prog W 0 (fun _ => true) true 25 v d ps) (hl : Light 25 d) :
    ∃ rv ov rows owners, v = .agg #[rv, ov] ∧ Rows2 W rv rows ∧ Ints W ov owners := by
  obtain ⟨v0, v1, y0, y1, n, rfl, rfl, -, h0, h1⟩ := open_agg2 Try.underlying25 (by kernel_rfl) cellsProgram hv h
  obtain ⟨a0, l0, c0, e0⟩ := slice_form Try.underlying22 h0
  obtain ⟨a1, l1, c1, e1⟩ := slice_form Try.underlying23 h1
  simp only [List.cons.injEq, and_true] at e0 e1
  subst e0 e1
  have hw : ∀ m, m ∈ y0.1.weights Try.prog 22 ++ (y1.1.weights Try.prog 23 ++ []) → m ≤ reachBytes := fun m hm => hl m (by
    simp only [DataW.weights, Try.underlying25]
    exact hm)
  obtain ⟨rows, hr⟩ := open_rows ⟨_, _, _, rfl⟩ (v := .slice a0 l0 c0) (d := y0.1) (ps := y0.2) ⟨n, h0⟩ (fun m hm => hw m (List.mem_append_left _ hm))
  obtain ⟨owners, ho⟩ := open_list ⟨_, _, _, rfl⟩ (v := .slice a1 l1 c1) (d := y1.1) (ps := y1.2) ⟨n, h1⟩ (fun m hm => hw m (List.mem_append_right _ (List.mem_append_left _ hm)))
  exact ⟨_, _, rows, owners, rfl, hr, ho⟩
end

end Go.Proofs.Ytohebkpgjaaljaa
