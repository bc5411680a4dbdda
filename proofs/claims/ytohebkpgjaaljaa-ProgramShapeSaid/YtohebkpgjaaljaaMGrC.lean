/- The reference of package program: the leaves of a formula. The rows of a gate whose elements are leaves are independent, up to the columns. The laws of package program: ProgramShape, the walk. -/
import Derived.Test.YtohebkpgjaaljaaMGrA
import Derived.Test.YtohebkpgjaaljaaMGatG
import Derived.Test.YtohebkpgjaaljaaMPmG
import Derived.Test.YtohebkpgjaaljaaMHoD
import Derived.Test.YtohebkpgjaaljaaMPmJ
import Derived.Lib.AppendZeros
namespace Go.Proofs.Ytohebkpgjaaljaa
open Go.RowKit

mutual
/-- The people of the leaves, in order. -/
def pplG : GT → List Int
  | .mk p _ l => if 0 ≤ p then [p] else pplL l
def pplL : List GT → List Int
  | [] => []
  | x :: t => pplG x ++ pplL t
end
mutual
theorem gen_ppl : ∀ (g : GT) (v : List Int) (c : Nat), (genR g v c).1.map (fun r => r.2) = pplG g
  | .mk p n l, v, c => by
    unfold genR pplG
    by_cases h0 : 0 ≤ p
    · rw [if_pos h0, if_pos h0]; rfl
    · rw [if_neg h0, if_neg h0]; exact genL_ppl l _ _ _ _
theorem genL_ppl : ∀ (l : List GT) (i : Nat) (b : List Int) (m c : Nat), (genL l i b m c).1.map (fun r => r.2) = pplL l
  | [], _, _, _, _ => by unfold genL pplL; rfl
  | x :: t, i, b, m, c => by
    unfold genL pplL
    rw [List.map_append, gen_ppl x, genL_ppl t]
end
theorem pplL_take : ∀ (l : List GT) (k : Nat) (h : k < l.length), pplL (l.take (k + 1)) = pplL (l.take k) ++ pplG l[k]
  | [], k, h => absurd h (Nat.not_lt_zero _)
  | x :: t, 0, _ => by
    rw [List.take_succ_cons, List.take_zero, List.take_zero]
    simp [pplL]
  | x :: t, k + 1, h => by
    rw [List.take_succ_cons, List.take_succ_cons]
    unfold pplL
    rw [pplL_take t k (by simpa using h)]
    simp
mutual
theorem ppl_lvs : ∀ g : GT, rightG g = true → (pplG g).length ≤ lvsG g
  | .mk p n l, hr => by
    unfold pplG
    unfold rightG at hr
    by_cases h0 : 0 ≤ p
    · rw [if_pos h0] at hr ⊢
      simp only [Bool.and_eq_true, decide_eq_true_eq] at hr
      obtain rfl : l = [] := List.length_eq_zero_iff.1 hr.2.2
      unfold lvsG; simp
    · rw [if_neg h0] at hr ⊢
      simp only [Bool.and_eq_true, decide_eq_true_eq] at hr
      have := pplL_lvs l hr.2.2.2
      cases l with
      | nil => unfold pplL; simp
      | cons x t => rw [lvs_list p n (x :: t) (by simp)]; exact this
theorem pplL_lvs : ∀ l : List GT, rightL l = true → (pplL l).length ≤ lvsL l
  | [], _ => by unfold pplL; simp
  | x :: t, hr => by
    unfold rightL at hr
    rw [Bool.and_eq_true] at hr
    unfold pplL lvsL
    have h1 := ppl_lvs x hr.1
    have h2 := pplL_lvs t hr.2
    rw [List.length_append]; omega
end
theorem ppl_sub {p n : Int} {l : List GT} {k : Nat} (h : k < l.length) : lvsG l[k] ≤ lvsG (.mk p n l) ∧ hgtG l[k] + 1 ≤ hgtG (.mk p n l) := by
  have hne : l ≠ [] := fun e => by rw [e] at h; cases h
  rw [lvs_list p n l hne, hgt_list p n l hne]
  have h1 := lvsL_take l k h
  have h2 := lvsL_le l (k + 1)
  have h3 := hgtL_ge l k h
  omega
mutual
theorem ppl_r64 : ∀ g : GT, rightG g = true → ∀ z ∈ pplG g, R64 z
  | .mk p n l, hr, z, hz => by
    unfold pplG at hz
    unfold rightG at hr
    by_cases h0 : 0 ≤ p
    · rw [if_pos h0] at hr hz
      simp only [Bool.and_eq_true, decide_eq_true_eq] at hr
      rw [List.mem_singleton.1 hz]
      exact R64.mk (by omega) (by omega)
    · rw [if_neg h0] at hr hz
      simp only [Bool.and_eq_true, decide_eq_true_eq] at hr
      exact pplL_r64 l hr.2.2.2 z hz
theorem pplL_r64 : ∀ l : List GT, rightL l = true → ∀ z ∈ pplL l, R64 z
  | [], _, z, hz => by unfold pplL at hz; cases hz
  | x :: t, hr, z, hz => by
    unfold rightL at hr
    rw [Bool.and_eq_true] at hr
    unfold pplL at hz
    rcases List.mem_append.1 hz with hz | hz
    · exact ppl_r64 x hr.1 z hz
    · exact pplL_r64 t hr.2 z hz
end

set_option maxRecDepth 100000 in
theorem app_none (w : World) (a : Option Addr) (n cap : Nat) (hc : n ≤ cap) : (Builtin.append_ #[23, 23] 23 #[.slice a n cap, .slice none 0 0]).run Try.prog w = .ok (.slice a n cap) w := by
  obtain ⟨i, hi, hz, hs, hb⟩ := info_parts infoInt
  cases a <;> simp [Builtin.append_, run_underlying Try.underlying23, sizeOf, typeInfo, zeroValue, hi, hz, hc, storeCells, Builtin.lenOf, Builtin.firstCells]

/-- A list of integers that came back: nil, or a slice. -/
def NilOr (v : Value) (zs : List Int) : Prop := (v = .slice none 0 0 ∧ zs = []) ∨ ∃ b c, v = .slice (some b) zs.length c
set_option maxRecDepth 100000 in
theorem app_list {ops : Array Oper} {rest : List Oper} {o : Oper} {a : Act} {Q : Exit → Act → World → Prop} {w0 w : World} (hgd : o.guard = none) (s x : Operand) (ho : o.op = .call { callee := .builtin .append, args := #[s, x], argTypes := #[23, 23] }) (hty : o.type = 23)
    (base : Nat) (v : Value) (xs : List Int) (hs : a.eval s = v) (hown : w.ownsRow base 3 1 v xs.length (xs.map (Value.int .i64))) (hlow : Below base w0 w) (u : Value) (zs : List Int) (hx : a.eval x = u) (hI : Ints w u zs) (hN : NilOr u zs) (hn : xs.length + zs.length ≤ 1000000) (hbase : base ≤ w.heap.size)
    (h : ∀ v' w', w'.ownsRow base 3 1 v' (xs ++ zs).length ((xs ++ zs).map (Value.int .i64)) → Below base w0 w' → base ≤ w'.heap.size → wpList Try.prog ops Q rest (a.put o.dst v') w') : wpList Try.prog ops Q (o :: rest) a w := by
  rcases hN with ⟨rfl, rfl⟩ | ⟨⟨b, off, sp⟩, c, rfl⟩
  · obtain ⟨va, vc, rfl⟩ := own_sl hown
    have hcap : xs.length ≤ vc := by
      rcases hown.2 with ⟨e2, h0⟩ | ⟨g, cap', cur, e2, -, -, hnc, -⟩
      · injection e2 with _ _ e3; omega
      · injection e2 with _ _ e3; omega
    refine Lib.wpList_append_run _ hgd s x _ _ ho _ _ hs hx _ _ (by rw [hty]; exact app_none w va xs.length vc hcap) ?_
    exact h _ _ (by rw [List.append_nil]; exact hown) hlow hbase
  · obtain ⟨a2, c2, e, -, -, -, hk⟩ := hI
    simp only [Value.slice.injEq] at e
    obtain ⟨rfl, -, -⟩ := e
    refine app_ints hgd s x ho base xs.length v _ hs hown ⟨b, off, sp⟩ c zs hx (fun j hj => ?_) (by omega) hbase fun v' w' h1 h2 => ?_
    · obtain ⟨b', off', e, hc⟩ := hk j hj
      simp only [Option.some.injEq, Addr.mk.injEq] at e
      obtain ⟨rfl, rfl, rfl⟩ := e
      rw [add_off]; exact hc
    · have h3 := own_below hown h2 hbase
      exact h v' w' (by rw [List.length_append, List.map_append]; exact h1) (hlow.trans h3) (Nat.le_trans hbase h3.size)
theorem own_nilor {W : World} {base : Nat} {v : Value} {zs : List Int} (h : W.ownsRow base 3 1 v zs.length (zs.map (Value.int .i64))) : NilOr v zs := by
  rcases h.2 with ⟨rfl, h0⟩ | ⟨g, cap, cur, rfl, -⟩
  · exact .inl ⟨rfl, List.length_eq_zero_iff.1 h0⟩
  · exact .inr ⟨_, _, rfl⟩

set_option maxRecDepth 100000 in
set_option maxHeartbeats 8000000 in
theorem rLeaves23_at (w : World) (v : Value) (g : GT) (hg : GateV w v g) : rightG g = true → ∀ W (d : Nat), Below w.heap.size w W → d ≤ 1000 → lvsG g ≤ 300 → hgtG g ≤ d →
    Calls Try.prog 30 #[v, .int .i64 d] W fun e w' => ∃ lv, e = .returned lv ∧ Ints w' lv (pplG g) ∧ NilOr lv (pplG g) ∧ Below W.heap.size W w' := by
  induction hg with
  | mk p n l a cap sub hp hn hc hl hk hs ih =>
    intro hr W d hW hd9 hlv hht
    have hb := below_new W #[.int .i64 p, .int .i64 n, .slice a l.length cap] 28
    have hr0 := World.alloc_heap_new W (.cells #[.int .i64 p, .int .i64 n, .slice a l.length cap] 28)
    obtain ⟨W1, hW1⟩ : ∃ W1, W1 = W.alloc (.cells #[.int .i64 p, .int .i64 n, .slice a l.length cap] 28) := ⟨_, rfl⟩
    rw [← hW1] at hb hr0
    have c0 : W1.cell? ⟨W.heap.size, 0, none⟩ = some (.int .i64 p) := row_cell hr0 rfl
    have c1 : W1.cell? ⟨W.heap.size, 1, none⟩ = some (.int .i64 n) := row_cell hr0 rfl
    have c2 : W1.cell? ⟨W.heap.size, 2, none⟩ = some (.slice a l.length cap) := row_cell hr0 rfl
    have HB := Lib.hid hb
    have HBW := Lib.hid (hW.trans (hb.mono hW.size))
    have HW1 := Lib.hid hW1
    have HK := Lib.hid hk
    have HIH := Lib.hid ih
    have HR := Lib.hid hr
    clear hr0 hb hW1 hk ih hs hW
    by_cases h0 : l.length = 0
    · have e0 : ((l.length : Int) == 0) = true := by rw [h0]; rfl
      obtain rfl : l = [] := List.length_eq_zero_iff.1 h0
      simp only [List.length_nil] at HW1
      by_cases hp0 : 0 ≤ p
      · have d0 : decide (p < 0) = false := decide_eq_false (by omega)
        have HV : Hid (pplG (.mk p n []) = [p]) := Lib.hid (by unfold pplG; rw [if_pos hp0])
        have hbn := below_new W1 #[.int .i64 p] 3
        have hcn : (W1.alloc (.cells #[.int .i64 p] 3)).cell? ⟨W1.heap.size, 0, none⟩ = some (.int .i64 p) := row_cell (World.alloc_heap_new _ _) rfl
        have HI : Hid (Ints (W1.alloc (.cells #[.int .i64 p] 3)) (.slice (some ⟨W1.heap.size, 0, none⟩) 1 1) [p]) := Lib.hid ⟨_, 1, rfl, Nat.le_refl _, by simp, by simpa using hp, fun k hk => ⟨_, 0, rfl, by obtain rfl : k = 0 := (by simpa using hk); exact hcn⟩⟩
        have HF := Lib.hid (HB.out.trans (hbn.mono HB.out.size))
        clear h0 hp0 hbn hcn
        go_enter Try.func30, Try.ntmps30
        go_wp2_with (rw [← HW1.out])
        go_ret
        exact ⟨_, rfl, by rw [HV.out]; exact HI.out, by rw [HV.out]; exact .inr ⟨_, _, rfl⟩, HF.out⟩
      · have d0 : decide (p < 0) = true := decide_eq_true (by omega)
        have HV : Hid (pplG (.mk p n []) = []) := Lib.hid (by unfold pplG; rw [if_neg hp0]; unfold pplL; rfl)
        clear h0 hp0
        go_enter Try.func30, Try.ntmps30
        go_wp2_with (rw [← HW1.out])
        go_ret
        exact ⟨_, rfl, by rw [HV.out]; exact Ints.nil _ _ _, by rw [HV.out]; exact .inl ⟨rfl, rfl⟩, HB.out⟩
    have e0 : ((l.length : Int) == 0) = false := beq_eq_false_iff_ne.2 (by omega)
    have hsubs := fun k h => ppl_sub (p := p) (n := n) (l := l) (k := k) h
    have hp0 : ¬ 0 ≤ p := fun hp0 => by
      unfold rightG at hr
      rw [if_pos hp0] at hr
      simp only [Bool.and_eq_true, decide_eq_true_eq] at hr
      exact h0 hr.2.2
    have hrl : rightL l = true := by
      unfold rightG at hr
      rw [if_neg hp0] at hr
      simp only [Bool.and_eq_true, decide_eq_true_eq] at hr
      exact hr.2.2.2
    have HV : Hid (pplG (.mk p n l) = pplL l) := Lib.hid (by unfold pplG; rw [if_neg hp0])
    have hpos : 1 ≤ d := by have := (hsubs 0 (by omega)).2; omega
    have hpt : ∀ k, (pplL (l.take k)).length ≤ 300 := fun k => by
      have h1 : rightL (l.take k) = true := (rightL_iff _).2 fun j hj => by
        rw [List.getElem_take]; exact (rightL_iff l).1 hrl j (by rw [List.length_take] at hj; omega)
      have h2 := pplL_lvs (l.take k) h1
      have h3 := lvsL_le l k
      have h4 := lvs_list p n l (fun e => h0 (by rw [e]; rfl))
      omega
    have HSB := Lib.hid hsubs
    have HRL := Lib.hid hrl
    have HPT := Lib.hid hpt
    have HLV := Lib.hid hlv
    have HHT := Lib.hid hht
    obtain ⟨d1, hd1⟩ : ∃ d1, d1 = d - 1 := ⟨_, rfl⟩
    have hw1 : IntKind.i64.wrap ((d : Int) - 1) = (d1 : Int) := by rw [IntKind.wrap_i64]; omega
    have hw1' : wrap64 ((d : Int) - 1) = (d1 : Int) := by unfold wrap64; omega
    have hdp : decide (0 < (d : Int)) = true := decide_eq_true (by omega)
    have hdp' : decide (0 < d) = true := decide_eq_true (by omega)
    have HD := Lib.hid (And.intro hd1 hd9)
    have h00 : W1.ownsRow W1.heap.size 3 1 (.slice none 0 0) (pplL (l.take 0)).length ((pplL (l.take 0)).map (Value.int .i64)) := World.ownsRow_nil _ _ _ _
    clear h0 hsubs hp0 hrl hpt hr hd1 hpos hlv hht hd9
    go_enter Try.func30, Try.ntmps30
    go_wp2_with (rw [← HW1.out])
    go_loopw [5, 6] (fun L i W' => ∃ k : Nat, k ≤ l.length ∧ i = .int .i64 k ∧ W'.ownsRow W1.heap.size 3 1 L (pplL (l.take k)).length ((pplL (l.take k)).map (Value.int .i64)) ∧ Below W1.heap.size W1 W') (fun _ i _ => l.length - (intOf i).toNat)
    case atStart => exact ⟨0, Nat.zero_le _, rfl, h00, Below.refl _ _⟩
    case round =>
      clear h00
      obtain ⟨k, hkl, rfl, hown, hb⟩ := hrel
      have HBK := Lib.hid hb
      have y0 := below_cell hb c2
      have HOW := Lib.hid hown
      obtain ⟨va, vc, ev⟩ := own_sl hown
      have hlen := HPT.out k
      obtain ⟨P, hP⟩ : ∃ P, P = pplL (l.take k) := ⟨_, rfl⟩
      rw [← hP] at hlen ev HOW
      have HP := Lib.hid hP
      subst ev
      by_cases hlt : k < l.length
      · have e1 : decide (k < l.length) = true := decide_eq_true hlt
        have e2 : decide ((P.length : Int) ≤ 300) = true := decide_eq_true (by omega)
        obtain ⟨b, off, x, y, za, zn, zc, ea, es, r1, r2, r3⟩ := HK.out k hlt
        have hbw := HBW.out.trans (hb.mono HBW.out.size)
        have hcall := HIH.out k hlt ((rightL_iff l).1 HRL.out k hlt) wr d1 hbw (by have := HD.out; omega) (by have := (HSB.out k hlt).1; have := HLV.out; omega) (by have := (HSB.out k hlt).2; have := HHT.out; have := HD.out.1; omega)
        rw [es] at hcall
        have HC := Lib.hid hcall
        have y1 := below_cell hbw r1
        have y2 := below_cell hbw r2
        have y3 := below_cell hbw r3
        subst ea
        have HTK := Lib.hid (pplL_take l k hlt)
        have HLN := Lib.hid (HPT.out (k + 1))
        have i0 : (0 : Int) ≤ (k : Int) := by omega
        have i1 : (k : Int) < (l.length : Int) := by omega
        obtain ⟨Z, hZ⟩ : ∃ Z, Z = pplG l[k] := ⟨_, rfl⟩
        rw [← hZ] at HTK HC
        rw [← hP] at HTK
        rw [HTK.out] at HLN
        clear hcall r1 r2 r3 es hb hbw hown hZ hP
        go_wp2_with fail
        with_reducible refine (HC.out).mono ?_
        rintro e w9 ⟨lv, rfl, hI9, hN9, hb9⟩
        have HOX := Lib.hid (own_keep HOW.out hb9)
        have HI9 := Lib.hid hI9
        have HN9 := Lib.hid hN9
        have HB9 := Lib.hid (HBK.out.trans (hb9.mono HBK.out.size))
        have HS9 := Lib.hid HB9.out.size
        clear hb9 hI9 hN9
        go_wp2_with (refine app_list rfl _ _ rfl rfl W1.heap.size _ P rfl HOX.out HB9.out lv Z rfl HI9.out HN9.out (by have := HLN.out; simp at this; omega) HS9.out ?_; intro v8 w8 h8 b8 _; have H8 := Lib.hid h8; have B8 := Lib.hid b8; clear h8 b8)
        go_roundw
        case rel => exact ⟨k + 1, by omega, by go_num, by rw [HTK.out]; exact H8.out, B8.out⟩
        case measure => simp [intOf]; omega
      · have hkl2 : k = l.length := by omega
        have e1 : decide (k < l.length) = false := decide_eq_false hlt
        have HPV : Hid (P = pplG (.mk p n l)) := Lib.hid (by rw [hP, hkl2, List.take_length, HV.out])
        have HIN : Hid (Ints wr (.slice va P.length vc) P) := Lib.hid (Ints.own HOW.out (fun z hz => ppl_r64 _ HR.out z (by rw [← HPV.out]; exact hz)) (by omega))
        have HNO := Lib.hid (own_nilor HOW.out)
        have HF := Lib.hid (HB.out.trans (hb.mono HB.out.size))
        clear hb hlt hkl2 hP hown
        go_wp2_with fail
        go_ret
        exact ⟨_, rfl, by rw [← HPV.out]; exact HIN.out, by rw [← HPV.out]; exact HNO.out, HF.out⟩

end Go.Proofs.Ytohebkpgjaaljaa

namespace Go.Proofs.Ytohebkpgjaaljaa

def prs : GT → Int
  | .mk p _ _ => p
def lst : GT → List GT
  | .mk _ _ l => l
def need : GT → Int
  | .mk _ n _ => n
theorem gen_flat (x : GT) (v : List Int) (c : Nat) (h : 0 ≤ prs x) : genR x v c = ([(v, prs x)], c) := by
  obtain ⟨p, n, l⟩ := x
  unfold genR
  rw [if_pos (show 0 ≤ p from h)]; rfl
theorem genL_flat : ∀ (l : List GT) (i : Nat) (b : List Int) (m c : Nat), (∀ x ∈ l, 0 ≤ prs x) → (genL l i b m c).2 = c ∧ (genL l i b m c).1.length = l.length ∧ ∀ k (h : k < (genL l i b m c).1.length), (genL l i b m c).1[k].1 = b ++ powL (i + k + 1) m
  | [], i, b, m, c, _ => by
    unfold genL
    exact ⟨rfl, rfl, fun k h => absurd h (Nat.not_lt_zero _)⟩
  | x :: t, i, b, m, c, hx => by
    obtain ⟨h1, h2, h3⟩ := genL_flat t (i + 1) b m c (fun y hy => hx y (by simp [hy]))
    have e := gen_flat x (b ++ powL (i + 1) m) c (hx x (by simp))
    have e2 : genL (x :: t) i b m c = ((b ++ powL (i + 1) m, prs x) :: (genL t (i + 1) b m c).1, c) := by
      rw [show genL (x :: t) i b m c = ((genR x (b ++ powL (i + 1) m) c).1 ++ (genL t (i + 1) b m (genR x (b ++ powL (i + 1) m) c).2).1, (genL t (i + 1) b m (genR x (b ++ powL (i + 1) m) c).2).2) by rw [genL], e]
      simp only [List.singleton_append, h1]
    rw [e2]
    refine ⟨rfl, by simp [h2], fun k hk => ?_⟩
    cases k with
    | zero => rfl
    | succ k =>
      simp only [List.getElem_cons_succ]
      rw [h3 k (by simpa using hk), show i + (k + 1) + 1 = i + 1 + k + 1 by omega]
theorem ev_row (m x : Nat) (v : Nat → Fq) : ev (m + 1) v ([1] ++ powL x m) = pv (m + 1) v (natq x) := by
  rw [ev_pow x (c0 := 1) rfl (by omega), ev_one (by omega), ← gp_val]
  refine pv_congr (a := gp (v 0) v 1) (b := v) (fun j _ => ?_) _
  unfold gp
  by_cases h : j = 0
  · rw [if_pos h, h]
  · rw [if_neg h, show 1 + (j - 1) = j by omega]

theorem pts_one (i : Nat) (hi : i ≤ 64) : ((List.range i).map fun k => natq (k + 1)).Nodup := by
  have h := pts_nodup (l := (List.range i).map (· + 1)) ?_ ?_
  · rw [List.map_map] at h; exact h
  · rw [List.pairwise_map]
    exact List.pairwise_lt_range.imp (fun h => by omega)
  · intro q hq
    obtain ⟨k, hk, rfl⟩ := List.mem_map.1 hq
    have := List.mem_range.1 hk
    omega
/-- Rows that are the powers of 1, 2, ..: the first M of them are independent, and no more. -/
theorem pow_rank {rows : List (List Int)} {M : Nat} (h : Right rows M) (hM : 1 ≤ M) (hv : ∀ k (h : k < rows.length), ∀ v, dt M (cv rows[k]) v = pv M v (natq (k + 1))) : ∀ i, i ≤ rows.length → rrankQ (rows.take i) = min M i
  | 0, _ => by
    have := (rank_le (right_take h 0)).1
    rw [List.take_zero] at this ⊢
    simp only [List.length_nil] at this
    omega
  | i + 1, hi => by
    have ih := pow_rank h hM hv i (by omega)
    have hi2 : i < rows.length := by omega
    have h64 := h.few
    have hlen := h.len _ (List.getElem_mem hi2)
    have hR : Right (rows.take i) (rows[i]).length := by rw [hlen]; exact right_take h i
    have hS : Span i M (fm rows) (fm rows i) ↔ M ≤ i := by
      rw [← made_take h hi2, made_ker hR, hlen]
      have hker : ∀ v, Ker (rows.take i).length M (fm (rows.take i)) v ↔ ∀ k, k < i → pv M v (natq (k + 1)) = 0 := fun v => by
        rw [ker_mem]
        constructor
        · intro hh k hk
          rw [← hv k (by omega) v]
          exact hh _ (List.mem_take_iff_getElem.2 ⟨k, by omega, rfl⟩)
        · intro hh r hr
          obtain ⟨k, hk, rfl⟩ := List.mem_take_iff_getElem.1 hr
          rw [hv k (by omega) v]
          exact hh k (by omega)
      constructor
      · intro hm
        by_cases hc : M ≤ i
        · exact hc
        · exfalso
          obtain ⟨a, ha0, ha⟩ := pv_make_le 1 (l := (List.range i).map fun k => natq (k + 1)) (fun x hx => by
            obtain ⟨k, hk, rfl⟩ := List.mem_map.1 hx
            have := List.mem_range.1 hk
            exact natq_ne (by omega) (by omega)) (m := i) (by simp)
          obtain ⟨v, hvd⟩ : ∃ v : Nat → Fq, v = fun j => if j ≤ i then a j else 0 := ⟨_, rfl⟩
          have hpv : ∀ x, pv M v x = pv (i + 1) a x := fun x => by
            obtain ⟨d, rfl⟩ : ∃ d, M = i + 1 + d := ⟨M - (i + 1), by omega⟩
            unfold pv
            rw [sm_split]
            rw [sm_congr (n := i + 1) (g := fun j => a j * x ^ j) (fun j hj => by rw [hvd]; simp only; rw [if_pos (by omega)])]
            rw [sm_zero (n := d) (fun j hj => by rw [hvd]; simp only; rw [if_neg (by omega)]; grind)]
            grind
          have hz := hm v ((hker v).2 fun k hk => by
            rw [hpv]
            exact ha _ (List.mem_map.2 ⟨k, List.mem_range.2 hk, rfl⟩))
          rw [hv i hi2 v, hpv] at hz
          have hall := pv_roots (i + 1) a ((List.range (i + 1)).map fun k => natq (k + 1)) (pts_one _ (by omega)) (by simp) (fun x hx => by
            obtain ⟨k, hk, rfl⟩ := List.mem_map.1 hx
            have := List.mem_range.1 hk
            by_cases hki : k < i
            · exact ha _ (List.mem_map.2 ⟨k, List.mem_range.2 hki, rfl⟩)
            · obtain rfl : k = i := by omega
              exact hz) 0
          rw [pv_zero, ha0] at hall
          exact absurd hall (by decide +kernel)
      · intro hMi v hk
        have hr := (hker v).1 hk
        rw [hv i hi2 v]
        exact pv_roots M v ((List.range M).map fun k => natq (k + 1)) (pts_one _ (by omega)) (by simp) (fun x hx => by
          obtain ⟨k, hk, rfl⟩ := List.mem_map.1 hx
          exact hr k (by have := List.mem_range.1 hk; omega)) _
    obtain ⟨t1, t2⟩ := rank_take h hi2
    by_cases hc : M ≤ i
    · rw [t1 (hS.2 hc), ih]; omega
    · rw [t2 (fun h => hc (hS.1 h)), ih]; omega

/-- What holds of the program that was made out of a formula. -/
theorem make_right {g : GT} {R : List (List Int × Int)} {M : Nat} (hK : MakeOK g R M) : Right (makR g) M := by
  rw [hK.rows]
  refine ⟨by rw [List.length_map]; exact hK.few, .inl hK.cols.2, fun r hr => ?_, fun r hr z hz => ?_⟩
  · obtain ⟨q, hq, rfl⟩ := List.mem_map.1 hr
    exact padTo_len (hK.row q hq).1
  · obtain ⟨q, hq, rfl⟩ := List.mem_map.1 hr
    unfold padTo at hz
    rcases List.mem_append.1 hz with hz | hz
    · exact (hK.row q hq).2.2.1 z hz
    · rw [(List.mem_replicate.1 hz).2]; omega
theorem make_owners {g : GT} (h : makE g = 0) : makO g = pplG g := by
  obtain ⟨R, M, hK⟩ := make_ok h
  rw [hK.owners, hK.hR, gen_ppl]
theorem make_first {g : GT} (h : makE g = 0) : (makR g).length = (makO g).length ∧ ∀ r ∈ makR g, ∃ t, r = 1 :: t := by
  obtain ⟨R, M, hK⟩ := make_ok h
  refine ⟨by rw [hK.rows, hK.owners]; simp, fun r hr => ?_⟩
  rw [hK.rows] at hr
  obtain ⟨q, hq, rfl⟩ := List.mem_map.1 hr
  obtain ⟨h1, -, -, h4⟩ := hK.row q hq
  have hl := padTo_len h1
  have h5 : nth (padTo M q.1) 0 = 1 := by rw [← h4]; unfold padTo; exact nth_rep
  have hc := hK.cols
  generalize padTo M q.1 = z at hl h5 ⊢
  cases z with
  | nil => simp at hl; omega
  | cons a t => exact ⟨t, by rw [show a = 1 from h5]⟩
theorem make_rank {g : GT} (h : makE g = 0) (hp : prs g < 0) (hl : ∀ x ∈ lst g, 0 ≤ prs x) : checkErr (makR g) = 0 ∧ (rankQ (makR g) : Int) = min (need g) ((lst g).length : Int) := by
  obtain ⟨R, M, hK⟩ := make_ok h
  have hR := make_right hK
  refine ⟨right_check hR, ?_⟩
  obtain ⟨p, n, l⟩ := g
  have hrt := hK.right
  have hn : 1 ≤ n := by
    unfold rightG at hrt
    rw [if_neg (by simp only [prs] at hp; omega)] at hrt
    simp only [Bool.and_eq_true, decide_eq_true_eq] at hrt
    exact hrt.2.1
  obtain ⟨m, hm⟩ : ∃ m, m = (n - 1).toNat := ⟨_, rfl⟩
  have hg : genR (.mk p n l) [1] 1 = genL l 0 [1] m (1 + m) := by
    unfold genR
    rw [if_neg (by simp only [prs] at hp; omega), hm]
    simp
  obtain ⟨f1, f2, f3⟩ := genL_flat l 0 [1] m (1 + m) hl
  have hM : M = m + 1 := by rw [hK.hM, hg, f1]; omega
  have hRe : R = (genL l 0 [1] m (1 + m)).1 := by rw [hK.hR, hg]
  have hlen : (makR (.mk p n l)).length = l.length := by rw [hK.rows, List.length_map, hRe, f2]
  have hrk := pow_rank hR hK.cols.1 (fun k hk v => by
    have hk2 : k < R.length := by rw [hK.rows, List.length_map] at hk; exact hk
    have e1 : (makR (.mk p n l))[k] = padTo M R[k].1 := by simp only [hK.rows, List.getElem_map]
    have e2 : R[k].1 = [1] ++ powL (0 + k + 1) m := by
      have h3 := f3 k (by rw [← hRe]; exact hk2)
      simp only [← hRe] at h3
      exact h3
    rw [e1, dt_pad, e2, hM, ev_row, Nat.zero_add]) _ (Nat.le_refl _)
  rw [List.take_length, hlen] at hrk
  rw [rank_same, hrk]
  simp only [lst, need]
  omega

end Go.Proofs.Ytohebkpgjaaljaa

namespace Go.Proofs.Ytohebkpgjaaljaa
open Go.RowKit FP

theorem make_off {g : GT} (h : makE g ≠ 0) : makR g = [] ∧ makO g = [] := ⟨by unfold makR; rw [if_neg h], by unfold makO; rw [if_neg h]⟩
theorem make_other {g : GT} (h : makE g ≠ 0) : makE g = gateE g ∨ (gateE g = 0 ∧ makE g = 2) := by
  unfold makE at h ⊢
  by_cases hz : gateE g = 0
  · rw [if_pos hz] at h ⊢
    split
    · rename_i h2; rw [if_pos h2] at h; exact absurd rfl h
    · exact .inr ⟨hz, rfl⟩
  · rw [if_neg hz]; exact .inl rfl
theorem make_small {g : GT} (h : makE g = 0) : rightG g = true ∧ lvsG g ≤ 300 ∧ hgtG g ≤ 16 := by
  have hz : gateE g = 0 := by
    unfold makE at h
    by_cases hz : gateE g = 0
    · exact hz
    · rw [if_neg hz] at h; exact absurd h hz
  unfold gateE at hz
  by_cases e : largeG g = true
  · rw [if_pos e] at hz; cases hz
  · rw [if_neg e] at hz
    by_cases e2 : rightG g = true
    · refine ⟨e2, ?_⟩
      have h1 : largeG g = false := by simpa using e
      have := of_decide_eq_false h1
      omega
    · rw [if_neg e2] at hz; cases hz
set_option maxRecDepth 100000 in
theorem leaves_16 (v : Value) (g : GT) (w : World) (hg : GateV w v g) (hr : rightG g = true) (hl : lvsG g ≤ 300) (hh : hgtG g ≤ 16) :
    Calls Try.prog 30 #[v, .int .i64 16] w fun e w' => ∃ lv, e = .returned lv ∧ Ints w' lv (pplG g) ∧ Below w.heap.size w w' :=
  (rLeaves23_at w v g hg hr w 16 (Below.refl _ _) (by omega) hl hh).mono fun e w' ⟨lv, h1, h2, _, h4⟩ => ⟨lv, h1, h2, h4⟩
theorem gate_sub {w : World} {p n : Int} {a : Option Addr} {len cap : Nat} {l : List GT} (h : GateV w (.agg #[.int .i64 p, .int .i64 n, .slice a len cap]) (.mk p n l)) : len = l.length ∧ len ≤ 17592186044416 ∧
    ∀ k (h : k < l.length), ∃ b off x y za zn zc, a = some ⟨b, off, none⟩ ∧ prs l[k] = x ∧ w.cell? ⟨b, off + k * 3, none⟩ = some (.int .i64 x) ∧ w.cell? ⟨b, off + k * 3 + 1, none⟩ = some (.int .i64 y) ∧ w.cell? ⟨b, off + k * 3 + 2, none⟩ = some (.slice za zn zc) := by
  cases h with
  | mk p n l a cap sub hp hn hc hl hk hs =>
    refine ⟨rfl, hl, fun k h => ?_⟩
    obtain ⟨b, off, x, y, za, zn, zc, h1, h2, h3, h4, h5⟩ := hk k h
    refine ⟨b, off, x, y, za, zn, zc, h1, ?_, h3, h4, h5⟩
    have h6 := hs k h
    rw [h2] at h6
    generalize l[k] = g at h6
    cases h6; rfl
def flB (p : Int) (l : List GT) (k : Nat) : Bool := decide (p < 0) && (l.take k).all fun x => decide (0 ≤ prs x)
theorem flB_next (p : Int) (l : List GT) (k : Nat) (h : k < l.length) : flB p l (k + 1) = (flB p l k && decide (0 ≤ prs l[k])) := by
  unfold flB
  rw [List.take_succ_eq_append_getElem h, List.all_append, Bool.and_assoc]
  simp
theorem flB_off (p : Int) (l : List GT) (k : Nat) (h : k < l.length) (hf : flB p l k = false) : flB p l (k + 1) = false := by
  rw [flB_next p l k h, hf]; rfl
theorem flB_on (p : Int) (l : List GT) (k : Nat) (h : k < l.length) (hf : flB p l k = true) : flB p l (k + 1) = decide (0 ≤ prs l[k]) := by
  rw [flB_next p l k h, hf]; rfl

set_option maxRecDepth 100000 in
set_option maxHeartbeats 16000000 in
theorem programShape_any (v : Value) (g : GT) (w : World) (hg : GateV w v g) :
    Calls Try.prog 7 #[v] w fun e w' => e = .returned (.bool true) ∧ Below w.heap.size w w' := by
  obtain ⟨p, n, l, a, cap, rfl, rfl⟩ := gate_parts hg
  have hb1 := below_new w #[.int .i64 p, .int .i64 n, .slice a l.length cap] 28
  have hr1 := World.alloc_heap_new w (.cells #[.int .i64 p, .int .i64 n, .slice a l.length cap] 28)
  obtain ⟨W1, hW1⟩ : ∃ W1, W1 = w.alloc (.cells #[.int .i64 p, .int .i64 n, .slice a l.length cap] 28) := ⟨_, rfl⟩
  rw [← hW1] at hb1 hr1
  have c0 : W1.cell? ⟨w.heap.size, 0, none⟩ = some (.int .i64 p) := row_cell hr1 rfl
  have c1 : W1.cell? ⟨w.heap.size, 1, none⟩ = some (.int .i64 n) := row_cell hr1 rfl
  have c2 : W1.cell? ⟨w.heap.size, 2, none⟩ = some (.slice a l.length cap) := row_cell hr1 rfl
  have hll := (gate_sub hg).2.1
  obtain ⟨g, hgd⟩ : ∃ g, g = GT.mk p n l := ⟨_, rfl⟩
  have HGD := Lib.hid hgd
  have HG : Hid (GateV W1 (.agg #[.int .i64 p, .int .i64 n, .slice a l.length cap]) g) := Lib.hid (by rw [hgd]; exact hg.later hb1)
  have HW1 := Lib.hid hW1
  have HB := Lib.hid hb1
  clear hg hW1 hb1 hr1 hgd
  go_enter Try.func7, Try.ntmps7
  go_wp2_with (rw [← HW1.out])
  refine (sane23_any _).mono ?_
  rintro e w2 ⟨rfl, hb2⟩
  replace HG := Lib.hid (HG.out.later hb2)
  replace c0 := below_cell hb2 c0
  replace c1 := below_cell hb2 c1
  replace c2 := below_cell hb2 c2
  replace HB := Lib.hid (HB.out.trans (hb2.mono HB.out.size))
  clear hb2
  go_wp2_with fail
  refine (few23_any _ _ g [] _ HG.out (Ints.nil _ none 0)).mono ?_
  rintro e w3 ⟨he, hb3⟩
  replace HG := Lib.hid (HG.out.later hb3)
  replace c0 := below_cell hb3 c0
  replace c1 := below_cell hb3 c1
  replace c2 := below_cell hb3 c2
  replace HB := Lib.hid (HB.out.trans (hb3.mono HB.out.size))
  clear hb3
  rcases he with ⟨rfl, -⟩ | rfl
  rotate_left
  · go_wp2_with fail
    go_ret
    exact ⟨rfl, HB.out⟩
  go_wp2_with fail
  refine (make_any _ g _ HG.out).mono ?_
  rintro e w4 ⟨rv, ov, rfl, hR, hO, hb4⟩
  replace HG := Lib.hid (HG.out.later hb4)
  replace c0 := below_cell hb4 c0
  replace c1 := below_cell hb4 c1
  replace c2 := below_cell hb4 c2
  replace HB := Lib.hid (HB.out.trans (hb4.mono HB.out.size))
  clear hb4
  obtain ⟨ra, rc, rfl, -⟩ := id hR
  obtain ⟨oa, oc, rfl, -⟩ := id hO
  obtain ⟨W5, hW5, hb5, hr5, -⟩ := box_prog w4 (.slice ra (makR g).length rc) (.slice oa (makO g).length oc) 25
  have HR := Lib.hid (hR.below hb5)
  have HO := Lib.hid (hO.below hb5)
  have c3 : W5.cell? ⟨w4.heap.size, 0, none⟩ = some (.slice ra (makR g).length rc) := row_cell hr5 rfl
  have c4 : W5.cell? ⟨w4.heap.size, 1, none⟩ = some (.slice oa (makO g).length oc) := row_cell hr5 rfl
  have HW5 := Lib.hid hW5
  replace HG := Lib.hid (HG.out.later hb5)
  clear hR hO hr5 hW5
  replace c0 := below_cell hb5 c0
  replace c1 := below_cell hb5 c1
  replace c2 := below_cell hb5 c2
  replace HB := Lib.hid (HB.out.trans (hb5.mono HB.out.size))
  clear hb5
  by_cases hm : makE g = 0
  rotate_left
  · obtain ⟨e1, e2⟩ := make_off hm
    have d1 : (makE g != 0) = true := bne_iff_ne.2 hm
    have HMO := Lib.hid (make_other hm)
    rw [e1] at HR c3 HW5 ⊢
    rw [e2] at HO c4 HW5 ⊢
    rw [List.length_nil] at HR c3 HO c4
    simp only [List.length_nil] at HW5
    clear hm
    go_wp2_with (rw [← HW5.out])
    refine (same_val _ _ _ _ [] [] [] [] true _ HR.out HO.out (Rows2.nil _ none 0) (Ints.nil _ none 0) (by decide +kernel)).mono ?_
    rintro e w6 ⟨rfl, hb6⟩
    replace HG := Lib.hid (HG.out.later hb6)
    replace c0 := below_cell hb6 c0
    replace c1 := below_cell hb6 c1
    replace c2 := below_cell hb6 c2
    replace HB := Lib.hid (HB.out.trans (hb6.mono HB.out.size))
    clear hb6
    go_wp2_with fail
    refine (gcheck_any _ g _ HG.out).mono ?_
    rintro e w7 ⟨rfl, hb7⟩
    replace c0 := below_cell hb7 c0
    replace c1 := below_cell hb7 c1
    replace c2 := below_cell hb7 c2
    replace HB := Lib.hid (HB.out.trans (hb7.mono HB.out.size))
    clear hb7
    rcases HMO.out with h | ⟨h1, h2⟩
    · rw [h]
      go_wp2_with fail
      go_ret
      exact ⟨rfl, HB.out⟩
    · rw [h1, h2]
      go_wp2_with fail
      go_ret
      exact ⟨rfl, HB.out⟩
  · have HPV := Lib.hid (make_prog hm)
    obtain ⟨sm1, sm2, sm3⟩ := make_small hm
    have HSM := Lib.hid (And.intro sm1 (And.intro sm2 sm3))
    have HOW : Hid (sameQ (makO g) (pplG g) = true) := Lib.hid (by rw [make_owners hm]; unfold sameQ; simp)
    obtain ⟨mf1, mf2⟩ := make_first hm
    have HMF := Lib.hid mf2
    have hq : (((makR g).length : Int) != ((makO g).length : Int)) = false := by rw [mf1]; simp
    have HMR := Lib.hid (fun h1 h2 => make_rank (g := g) hm h1 h2)
    have hlr : (makR g).length ≤ 1000000 := by
      obtain ⟨R, M, hK⟩ := make_ok hm
      rw [hK.rows, List.length_map]
      have := hK.few
      omega
    have HLR := Lib.hid hlr
    rw [hm]
    clear hm sm1 sm2 sm3 mf1 mf2 hlr
    replace HG := Lib.hid (HG.out.later (Below.refl _ W5).drew)
    have hbd : Below W5.heap.size W5 W5.drew := (Below.refl _ _).drew
    replace HR := Lib.hid (HR.out.below hbd)
    replace HO := Lib.hid (HO.out.below hbd)
    replace HB := Lib.hid (HB.out.drew)
    clear hbd
    go_wp2_with (rw [← HW5.out])
    go_region_held3 (fun w' => w'.cell? ⟨w.heap.size, 0, none⟩ = some (.int .i64 p) ∧ w'.cell? ⟨w.heap.size, 1, none⟩ = some (.int .i64 n) ∧ w'.cell? ⟨w.heap.size, 2, none⟩ = some (.slice a l.length cap) ∧ w'.cell? ⟨w4.heap.size, 0, none⟩ = some (.slice ra (makR g).length rc) ∧ w'.cell? ⟨w4.heap.size, 1, none⟩ = some (.slice oa (makO g).length oc)) (first | go_keep | exact ⟨c0, c1, c2, c3, c4⟩)
      (first
        | (go_at_call 17; (with_reducible refine (pcheck_val _ _ (makR g) (makO g) 0 _ HR.out HO.out HPV.out).mono ?_); rintro e w6 ⟨rfl, hb6⟩; replace HG := Lib.hid (HG.out.later hb6); replace c0 := below_cell hb6 c0; replace c1 := below_cell hb6 c1; replace c2 := below_cell hb6 c2; replace c3 := below_cell hb6 c3; replace c4 := below_cell hb6 c4; replace HR := Lib.hid (HR.out.below hb6); replace HO := Lib.hid (HO.out.below hb6); replace HB := Lib.hid (HB.out.trans (hb6.mono HB.out.size)); clear hb6)
        | (go_at_call 30; (with_reducible refine (leaves_16 _ g _ HG.out HSM.out.1 HSM.out.2.1 HSM.out.2.2).mono ?_); rintro e w7 ⟨lv, rfl, hlv, hb7⟩; have HLV := Lib.hid hlv; clear hlv; replace HG := Lib.hid (HG.out.later hb7); replace c0 := below_cell hb7 c0; replace c1 := below_cell hb7 c1; replace c2 := below_cell hb7 c2; replace c3 := below_cell hb7 c3; replace c4 := below_cell hb7 c4; replace HR := Lib.hid (HR.out.below hb7); replace HO := Lib.hid (HO.out.below hb7); replace HB := Lib.hid (HB.out.trans (hb7.mono HB.out.size)); clear hb7)
        | (go_at_call 24; (with_reducible refine (rSame23_is _ _ (makO g) (pplG g) true _ HO.out HLV.out HOW.out).mono ?_); rintro e w8 ⟨rfl, hb8⟩; replace HG := Lib.hid (HG.out.later hb8); replace c0 := below_cell hb8 c0; replace c1 := below_cell hb8 c1; replace c2 := below_cell hb8 c2; replace c3 := below_cell hb8 c3; replace c4 := below_cell hb8 c4; replace HR := Lib.hid (HR.out.below hb8); replace HO := Lib.hid (HO.out.below hb8); replace HB := Lib.hid (HB.out.trans (hb8.mono HB.out.size)); clear hb8))
    clear HOW HPV HSM hq
    go_wp2_with fail
    go_loopw [60] (fun i W => ∃ k : Nat, k ≤ (makR g).length ∧ i = .int .i64 k ∧ Below w8.heap.size w8 W) (fun i _ => (makR g).length - (intOf i).toNat)
    case atStart => exact ⟨0, Nat.zero_le _, rfl, Below.refl _ _⟩
    case round =>
      obtain ⟨k, hkl, rfl, hb⟩ := hrel
      have HBW := Lib.hid hb
      have hlr := HLR.out
      by_cases hlt : k < (makR g).length
      · obtain ⟨a1, cc1, e1, -, -, hk1⟩ := HR.out
        obtain ⟨b1, o1, v1, ea1, q1, i1⟩ := hk1 k hlt
        simp only [Value.slice.injEq] at e1
        obtain ⟨rfl, -, -⟩ := e1
        subst ea1
        obtain ⟨t, ht⟩ := HMF.out _ (List.getElem_mem hlt)
        rw [ht] at i1
        obtain ⟨a2, cc2, rfl, -, hl2, -, hk2⟩ := i1
        obtain ⟨b2, o2, ea2, q2⟩ := hk2 0 (by simp)
        subst ea2
        have y1 := below_cell hb q1
        have y2 : wr.cell? ⟨b2, o2, none⟩ = some (.int .i64 1) := below_cell hb q2
        have i0 : (0 : Int) ≤ (k : Int) := by omega
        have i1 : (k : Int) < ((makR g).length : Int) := by omega
        have i2 : (((1 :: t).length : Int) == 0) = false := by rw [beq_eq_false_iff_ne, List.length_cons]; omega
        have i3 : (0 : Int) < ((1 :: t).length : Int) := by rw [List.length_cons]; omega
        clear hk1 hk2 q1 q2 hb ht hl2
        go_wp2_with fail
        go_roundw
        case rel => exact ⟨k + 1, by omega, by go_num, HBW.out⟩
        case measure => simp [intOf]; omega
      · obtain rfl : k = (makR g).length := by omega
        replace c0 := below_cell hb c0
        replace c1 := below_cell hb c1
        replace c2 := below_cell hb c2
        replace c3 := below_cell hb c3
        replace HR := Lib.hid (HR.out.below hb)
        replace HG := Lib.hid (HG.out.later hb)
        replace HB := Lib.hid (HB.out.trans (hb.mono HB.out.size))
        clear hlt hb hlr hkl HBW
        go_wp2_with fail
        go_loopw [7, 80] (fun F i W => ∃ k : Nat, k ≤ l.length ∧ i = .int .i64 k ∧ F = .bool (flB p l k) ∧ Below wr.heap.size wr W) (fun _ i _ => l.length - (intOf i).toNat)
        case atStart => exact ⟨0, Nat.zero_le _, rfl, by unfold flB; simp, Below.refl _ _⟩
        case round =>
          obtain ⟨k, hkl, rfl, rfl, hb⟩ := hrel
          have HBW := Lib.hid hb
          by_cases hlt : k < l.length
          · obtain ⟨-, -, hsub⟩ := gate_sub (show GateV _ _ (GT.mk p n l) from HGD.out ▸ HG.out)
            obtain ⟨b, off, x, y, za, zn, zc, ea, ep, r1, r2, r3⟩ := hsub k hlt
            subst ea
            have y1 := below_cell hb r1
            have y2 := below_cell hb r2
            have y3 := below_cell hb r3
            have i0 : (0 : Int) ≤ (k : Int) := by omega
            have i1 : (k : Int) < (l.length : Int) := by omega
            have hbn := below_new wr #[.int .i64 x, .int .i64 y, .slice za zn zc] 28
            have z0 : (wr.alloc (.cells #[.int .i64 x, .int .i64 y, .slice za zn zc] 28)).cell? ⟨wr.heap.size, 0, none⟩ = some (.int .i64 x) := row_cell (World.alloc_heap_new _ _) rfl
            have HB9 := Lib.hid (hb.trans (hbn.mono hb.size))
            cases hf : flB p l k with
            | false =>
              have HN := Lib.hid (flB_off p l k hlt hf)
              clear hbn hsub r1 r2 r3 hb ep hf
              go_wp2_with fail
              go_roundw
              case rel => exact ⟨k + 1, by omega, by go_num, by rw [HN.out], HB9.out⟩
              case measure => simp [intOf]; omega
            | true =>
              by_cases hx : 0 ≤ x
              · have d0 : decide (0 ≤ x) = true := decide_eq_true hx
                have HN : Hid (flB p l (k + 1) = true) := Lib.hid (by rw [flB_on p l k hlt hf, ep, d0])
                clear hbn hsub r1 r2 r3 hb ep hf hx
                go_wp2_with fail
                go_roundw
                case rel => exact ⟨k + 1, by omega, by go_num, by rw [HN.out], HB9.out⟩
                case measure => simp [intOf]; omega
              · have d0 : decide (0 ≤ x) = false := decide_eq_false hx
                have HN : Hid (flB p l (k + 1) = false) := Lib.hid (by rw [flB_on p l k hlt hf, ep, d0])
                clear hbn hsub r1 r2 r3 hb ep hf hx
                go_wp2_with fail
                go_roundw
                case rel => exact ⟨k + 1, by omega, by go_num, by rw [HN.out], HB9.out⟩
                case measure => simp [intOf]; omega
          · obtain rfl : k = l.length := by omega
            replace c1 := below_cell hb c1
            replace c2 := below_cell hb c2
            replace c3 := below_cell hb c3
            replace HR := Lib.hid (HR.out.below hb)
            replace HB := Lib.hid (HB.out.trans (hb.mono HB.out.size))
            clear hlt hb hkl HBW
            cases hf : flB p l l.length with
            | false =>
              go_wp2_with fail
              go_ret
              exact ⟨rfl, HB.out⟩
            | true =>
              have hfl : prs g < 0 ∧ (∀ x ∈ lst g, 0 ≤ prs x) ∧ need g = n ∧ lst g = l := by
                unfold flB at hf
                rw [List.take_length, Bool.and_eq_true, decide_eq_true_eq, List.all_eq_true] at hf
                rw [HGD.out]
                exact ⟨hf.1, fun x hx => of_decide_eq_true (hf.2 x hx), rfl, rfl⟩
              obtain ⟨mr1, mr2⟩ := HMR.out hfl.1 hfl.2.1
              rw [hfl.2.2.1, hfl.2.2.2] at mr2
              obtain ⟨rk, hrk⟩ : ∃ rk, rankQ (makR g) = rk := ⟨_, rfl⟩
              rw [hrk] at mr2
              have HM1 := Lib.hid mr1
              have HM2 := Lib.hid hrk
              have HM3 := Lib.hid mr2
              clear mr1 mr2 hrk hfl hf
              go_wp2_with fail
              refine (Rank_is _ (makR g) rk 0 _ HR.out HM1.out HM2.out).mono ?_
              rintro e w9 ⟨rfl, hb9⟩
              replace c1 := below_cell hb9 c1
              replace c2 := below_cell hb9 c2
              replace HB := Lib.hid (HB.out.trans (hb9.mono HB.out.size))
              clear hb9
              go_wp2_with fail
              all_goals
                go_ret
                refine ⟨ret_bool ?_, HB.out⟩
                have h9 := HM3.out
                rw [beq_iff_eq]
                omega

end Go.Proofs.Ytohebkpgjaaljaa
