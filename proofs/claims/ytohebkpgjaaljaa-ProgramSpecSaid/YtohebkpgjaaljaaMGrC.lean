/- The reference of package program: the leaves of a formula. -/
import Derived.Test.YtohebkpgjaaljaaMGrA
import Derived.Test.YtohebkpgjaaljaaMGatG
import Derived.Test.YtohebkpgjaaljaaMPmG
import Derived.Lib.AppendZeros
namespace Go.Proofs.Ytohebkpgjaaljaa
open Go.RowKit

mutual
/-- The people of the leaves, in order. -/
def pplG : GT → List Int
  | .mk p _ l => if 0 ≤ p then [p] else pplL l
def pplL : List GT → List Int
  | [] => []
  | x :: t => pplG x ++ pplL t
end
mutual
theorem gen_ppl : ∀ (g : GT) (v : List Int) (c : Nat), (genR g v c).1.map (fun r => r.2) = pplG g
  | .mk p n l, v, c => by
    unfold genR pplG
    by_cases h0 : 0 ≤ p
    · rw [if_pos h0, if_pos h0]; rfl
    · rw [if_neg h0, if_neg h0]; exact genL_ppl l _ _ _ _
theorem genL_ppl : ∀ (l : List GT) (i : Nat) (b : List Int) (m c : Nat), (genL l i b m c).1.map (fun r => r.2) = pplL l
  | [], _, _, _, _ => by unfold genL pplL; rfl
  | x :: t, i, b, m, c => by
    unfold genL pplL
    rw [List.map_append, gen_ppl x, genL_ppl t]
end
theorem pplL_take : ∀ (l : List GT) (k : Nat) (h : k < l.length), pplL (l.take (k + 1)) = pplL (l.take k) ++ pplG l[k]
  | [], k, h => absurd h (Nat.not_lt_zero _)
  | x :: t, 0, _ => by
    rw [List.take_succ_cons, List.take_zero, List.take_zero]
    simp [pplL]
  | x :: t, k + 1, h => by
    rw [List.take_succ_cons, List.take_succ_cons]
    unfold pplL
    rw [pplL_take t k (by simpa using h)]
    simp
mutual
theorem ppl_lvs : ∀ g : GT, rightG g = true → (pplG g).length ≤ lvsG g
  | .mk p n l, hr => by
    unfold pplG
    unfold rightG at hr
    by_cases h0 : 0 ≤ p
    · rw [if_pos h0] at hr ⊢
      simp only [Bool.and_eq_true, decide_eq_true_eq] at hr
      obtain rfl : l = [] := List.length_eq_zero_iff.1 hr.2.2
      unfold lvsG; simp
    · rw [if_neg h0] at hr ⊢
      simp only [Bool.and_eq_true, decide_eq_true_eq] at hr
      have := pplL_lvs l hr.2.2.2
      cases l with
      | nil => unfold pplL; simp
      | cons x t => rw [lvs_list p n (x :: t) (by simp)]; exact this
theorem pplL_lvs : ∀ l : List GT, rightL l = true → (pplL l).length ≤ lvsL l
  | [], _ => by unfold pplL; simp
  | x :: t, hr => by
    unfold rightL at hr
    rw [Bool.and_eq_true] at hr
    unfold pplL lvsL
    have h1 := ppl_lvs x hr.1
    have h2 := pplL_lvs t hr.2
    rw [List.length_append]; omega
end
theorem ppl_sub {p n : Int} {l : List GT} {k : Nat} (h : k < l.length) : lvsG l[k] ≤ lvsG (.mk p n l) ∧ hgtG l[k] + 1 ≤ hgtG (.mk p n l) := by
  have hne : l ≠ [] := fun e => by rw [e] at h; cases h
  rw [lvs_list p n l hne, hgt_list p n l hne]
  have h1 := lvsL_take l k h
  have h2 := lvsL_le l (k + 1)
  have h3 := hgtL_ge l k h
  omega
mutual
theorem ppl_r64 : ∀ g : GT, rightG g = true → ∀ z ∈ pplG g, R64 z
  | .mk p n l, hr, z, hz => by
    unfold pplG at hz
    unfold rightG at hr
    by_cases h0 : 0 ≤ p
    · rw [if_pos h0] at hr hz
      simp only [Bool.and_eq_true, decide_eq_true_eq] at hr
      rw [List.mem_singleton.1 hz]
      exact R64.mk (by omega) (by omega)
    · rw [if_neg h0] at hr hz
      simp only [Bool.and_eq_true, decide_eq_true_eq] at hr
      exact pplL_r64 l hr.2.2.2 z hz
theorem pplL_r64 : ∀ l : List GT, rightL l = true → ∀ z ∈ pplL l, R64 z
  | [], _, z, hz => by unfold pplL at hz; cases hz
  | x :: t, hr, z, hz => by
    unfold rightL at hr
    rw [Bool.and_eq_true] at hr
    unfold pplL at hz
    rcases List.mem_append.1 hz with hz | hz
    · exact ppl_r64 x hr.1 z hz
    · exact pplL_r64 t hr.2 z hz
end

set_option maxRecDepth 100000 in
theorem app_none (w : World) (a : Option Addr) (n cap : Nat) (hc : n ≤ cap) : (Builtin.append_ #[23, 23] 23 #[.slice a n cap, .slice none 0 0]).run Try.prog w = .ok (.slice a n cap) w := by
  obtain ⟨i, hi, hz, hs, hb⟩ := info_parts infoInt
  cases a <;> simp [Builtin.append_, run_underlying Try.underlying23, sizeOf, typeInfo, zeroValue, hi, hz, hc, storeCells, Builtin.lenOf, Builtin.firstCells]

/-- A list of integers that came back: nil, or a slice. -/
def NilOr (v : Value) (zs : List Int) : Prop := (v = .slice none 0 0 ∧ zs = []) ∨ ∃ b c, v = .slice (some b) zs.length c
set_option maxRecDepth 100000 in
theorem app_list {ops : Array Oper} {rest : List Oper} {o : Oper} {a : Act} {Q : Exit → Act → World → Prop} {w0 w : World} (hgd : o.guard = none) (s x : Operand) (ho : o.op = .call { callee := .builtin .append, args := #[s, x], argTypes := #[23, 23] }) (hty : o.type = 23)
    (base : Nat) (v : Value) (xs : List Int) (hs : a.eval s = v) (hown : w.ownsRow base 3 1 v xs.length (xs.map (Value.int .i64))) (hlow : Below base w0 w) (u : Value) (zs : List Int) (hx : a.eval x = u) (hI : Ints w u zs) (hN : NilOr u zs) (hn : xs.length + zs.length ≤ 1000000) (hbase : base ≤ w.heap.size)
    (h : ∀ v' w', w'.ownsRow base 3 1 v' (xs ++ zs).length ((xs ++ zs).map (Value.int .i64)) → Below base w0 w' → base ≤ w'.heap.size → wpList Try.prog ops Q rest (a.put o.dst v') w') : wpList Try.prog ops Q (o :: rest) a w := by
  rcases hN with ⟨rfl, rfl⟩ | ⟨⟨b, off, sp⟩, c, rfl⟩
  · obtain ⟨va, vc, rfl⟩ := own_sl hown
    have hcap : xs.length ≤ vc := by
      rcases hown.2 with ⟨e2, h0⟩ | ⟨g, cap', cur, e2, -, -, hnc, -⟩
      · injection e2 with _ _ e3; omega
      · injection e2 with _ _ e3; omega
    refine Lib.wpList_append_run _ hgd s x _ _ ho _ _ hs hx _ _ (by rw [hty]; exact app_none w va xs.length vc hcap) ?_
    exact h _ _ (by rw [List.append_nil]; exact hown) hlow hbase
  · obtain ⟨a2, c2, e, -, -, -, hk⟩ := hI
    simp only [Value.slice.injEq] at e
    obtain ⟨rfl, -, -⟩ := e
    refine app_ints hgd s x ho base xs.length v _ hs hown ⟨b, off, sp⟩ c zs hx (fun j hj => ?_) (by omega) hbase fun v' w' h1 h2 => ?_
    · obtain ⟨b', off', e, hc⟩ := hk j hj
      simp only [Option.some.injEq, Addr.mk.injEq] at e
      obtain ⟨rfl, rfl, rfl⟩ := e
      rw [add_off]; exact hc
    · have h3 := own_below hown h2 hbase
      exact h v' w' (by rw [List.length_append, List.map_append]; exact h1) (hlow.trans h3) (Nat.le_trans hbase h3.size)
theorem own_nilor {W : World} {base : Nat} {v : Value} {zs : List Int} (h : W.ownsRow base 3 1 v zs.length (zs.map (Value.int .i64))) : NilOr v zs := by
  rcases h.2 with ⟨rfl, h0⟩ | ⟨g, cap, cur, rfl, -⟩
  · exact .inl ⟨rfl, List.length_eq_zero_iff.1 h0⟩
  · exact .inr ⟨_, _, rfl⟩

set_option maxRecDepth 100000 in
set_option maxHeartbeats 8000000 in
theorem rLeaves23_at (w : World) (v : Value) (g : GT) (hg : GateV w v g) : rightG g = true → ∀ W (d : Nat), Below w.heap.size w W → d ≤ 1000 → lvsG g ≤ 300 → hgtG g ≤ d →
    Calls Try.prog 30 #[v, .int .i64 d] W fun e w' => ∃ lv, e = .returned lv ∧ Ints w' lv (pplG g) ∧ NilOr lv (pplG g) ∧ Below W.heap.size W w' := by
  induction hg with
  | mk p n l a cap sub hp hn hc hl hk hs ih =>
    intro hr W d hW hd9 hlv hht
    have hb := below_new W #[.int .i64 p, .int .i64 n, .slice a l.length cap] 28
    have hr0 := World.alloc_heap_new W (.cells #[.int .i64 p, .int .i64 n, .slice a l.length cap] 28)
    obtain ⟨W1, hW1⟩ : ∃ W1, W1 = W.alloc (.cells #[.int .i64 p, .int .i64 n, .slice a l.length cap] 28) := ⟨_, rfl⟩
    rw [← hW1] at hb hr0
    have c0 : W1.cell? ⟨W.heap.size, 0, none⟩ = some (.int .i64 p) := row_cell hr0 rfl
    have c1 : W1.cell? ⟨W.heap.size, 1, none⟩ = some (.int .i64 n) := row_cell hr0 rfl
    have c2 : W1.cell? ⟨W.heap.size, 2, none⟩ = some (.slice a l.length cap) := row_cell hr0 rfl
    have HB := Lib.hid hb
    have HBW := Lib.hid (hW.trans (hb.mono hW.size))
    have HW1 := Lib.hid hW1
    have HK := Lib.hid hk
    have HIH := Lib.hid ih
    have HR := Lib.hid hr
    clear hr0 hb hW1 hk ih hs hW
    by_cases h0 : l.length = 0
    · have e0 : ((l.length : Int) == 0) = true := by rw [h0]; rfl
      obtain rfl : l = [] := List.length_eq_zero_iff.1 h0
      simp only [List.length_nil] at HW1
      by_cases hp0 : 0 ≤ p
      · have d0 : decide (p < 0) = false := decide_eq_false (by omega)
        have HV : Hid (pplG (.mk p n []) = [p]) := Lib.hid (by unfold pplG; rw [if_pos hp0])
        have hbn := below_new W1 #[.int .i64 p] 3
        have hcn : (W1.alloc (.cells #[.int .i64 p] 3)).cell? ⟨W1.heap.size, 0, none⟩ = some (.int .i64 p) := row_cell (World.alloc_heap_new _ _) rfl
        have HI : Hid (Ints (W1.alloc (.cells #[.int .i64 p] 3)) (.slice (some ⟨W1.heap.size, 0, none⟩) 1 1) [p]) := Lib.hid ⟨_, 1, rfl, Nat.le_refl _, by simp, by simpa using hp, fun k hk => ⟨_, 0, rfl, by obtain rfl : k = 0 := (by simpa using hk); exact hcn⟩⟩
        have HF := Lib.hid (HB.out.trans (hbn.mono HB.out.size))
        clear h0 hp0 hbn hcn
        go_enter Try.func30, Try.ntmps30
        go_wp2_with (rw [← HW1.out])
        go_ret
        exact ⟨_, rfl, by rw [HV.out]; exact HI.out, by rw [HV.out]; exact .inr ⟨_, _, rfl⟩, HF.out⟩
      · have d0 : decide (p < 0) = true := decide_eq_true (by omega)
        have HV : Hid (pplG (.mk p n []) = []) := Lib.hid (by unfold pplG; rw [if_neg hp0]; unfold pplL; rfl)
        clear h0 hp0
        go_enter Try.func30, Try.ntmps30
        go_wp2_with (rw [← HW1.out])
        go_ret
        exact ⟨_, rfl, by rw [HV.out]; exact Ints.nil _ _ _, by rw [HV.out]; exact .inl ⟨rfl, rfl⟩, HB.out⟩
    have e0 : ((l.length : Int) == 0) = false := beq_eq_false_iff_ne.2 (by omega)
    have hsubs := fun k h => ppl_sub (p := p) (n := n) (l := l) (k := k) h
    have hp0 : ¬ 0 ≤ p := fun hp0 => by
      unfold rightG at hr
      rw [if_pos hp0] at hr
      simp only [Bool.and_eq_true, decide_eq_true_eq] at hr
      exact h0 hr.2.2
    have hrl : rightL l = true := by
      unfold rightG at hr
      rw [if_neg hp0] at hr
      simp only [Bool.and_eq_true, decide_eq_true_eq] at hr
      exact hr.2.2.2
    have HV : Hid (pplG (.mk p n l) = pplL l) := Lib.hid (by unfold pplG; rw [if_neg hp0])
    have hpos : 1 ≤ d := by have := (hsubs 0 (by omega)).2; omega
    have hpt : ∀ k, (pplL (l.take k)).length ≤ 300 := fun k => by
      have h1 : rightL (l.take k) = true := (rightL_iff _).2 fun j hj => by
        rw [List.getElem_take]; exact (rightL_iff l).1 hrl j (by rw [List.length_take] at hj; omega)
      have h2 := pplL_lvs (l.take k) h1
      have h3 := lvsL_le l k
      have h4 := lvs_list p n l (fun e => h0 (by rw [e]; rfl))
      omega
    have HSB := Lib.hid hsubs
    have HRL := Lib.hid hrl
    have HPT := Lib.hid hpt
    have HLV := Lib.hid hlv
    have HHT := Lib.hid hht
    obtain ⟨d1, hd1⟩ : ∃ d1, d1 = d - 1 := ⟨_, rfl⟩
    have hw1 : IntKind.i64.wrap ((d : Int) - 1) = (d1 : Int) := by rw [IntKind.wrap_i64]; omega
    have hw1' : wrap64 ((d : Int) - 1) = (d1 : Int) := by unfold wrap64; omega
    have hdp : decide (0 < (d : Int)) = true := decide_eq_true (by omega)
    have hdp' : decide (0 < d) = true := decide_eq_true (by omega)
    have HD := Lib.hid (And.intro hd1 hd9)
    have h00 : W1.ownsRow W1.heap.size 3 1 (.slice none 0 0) (pplL (l.take 0)).length ((pplL (l.take 0)).map (Value.int .i64)) := World.ownsRow_nil _ _ _ _
    clear h0 hsubs hp0 hrl hpt hr hd1 hpos hlv hht hd9
    go_enter Try.func30, Try.ntmps30
    go_wp2_with (rw [← HW1.out])
    go_loopw [5, 6] (fun L i W' => ∃ k : Nat, k ≤ l.length ∧ i = .int .i64 k ∧ W'.ownsRow W1.heap.size 3 1 L (pplL (l.take k)).length ((pplL (l.take k)).map (Value.int .i64)) ∧ Below W1.heap.size W1 W') (fun _ i _ => l.length - (intOf i).toNat)
    case atStart => exact ⟨0, Nat.zero_le _, rfl, h00, Below.refl _ _⟩
    case round =>
      clear h00
      obtain ⟨k, hkl, rfl, hown, hb⟩ := hrel
      have HBK := Lib.hid hb
      have y0 := below_cell hb c2
      have HOW := Lib.hid hown
      obtain ⟨va, vc, ev⟩ := own_sl hown
      have hlen := HPT.out k
      obtain ⟨P, hP⟩ : ∃ P, P = pplL (l.take k) := ⟨_, rfl⟩
      rw [← hP] at hlen ev HOW
      have HP := Lib.hid hP
      subst ev
      by_cases hlt : k < l.length
      · have e1 : decide (k < l.length) = true := decide_eq_true hlt
        have e2 : decide ((P.length : Int) ≤ 300) = true := decide_eq_true (by omega)
        obtain ⟨b, off, x, y, za, zn, zc, ea, es, r1, r2, r3⟩ := HK.out k hlt
        have hbw := HBW.out.trans (hb.mono HBW.out.size)
        have hcall := HIH.out k hlt ((rightL_iff l).1 HRL.out k hlt) wr d1 hbw (by have := HD.out; omega) (by have := (HSB.out k hlt).1; have := HLV.out; omega) (by have := (HSB.out k hlt).2; have := HHT.out; have := HD.out.1; omega)
        rw [es] at hcall
        have HC := Lib.hid hcall
        have y1 := below_cell hbw r1
        have y2 := below_cell hbw r2
        have y3 := below_cell hbw r3
        subst ea
        have HTK := Lib.hid (pplL_take l k hlt)
        have HLN := Lib.hid (HPT.out (k + 1))
        have i0 : (0 : Int) ≤ (k : Int) := by omega
        have i1 : (k : Int) < (l.length : Int) := by omega
        obtain ⟨Z, hZ⟩ : ∃ Z, Z = pplG l[k] := ⟨_, rfl⟩
        rw [← hZ] at HTK HC
        rw [← hP] at HTK
        rw [HTK.out] at HLN
        clear hcall r1 r2 r3 es hb hbw hown hZ hP
        go_wp2_with fail
        with_reducible refine (HC.out).mono ?_
        rintro e w9 ⟨lv, rfl, hI9, hN9, hb9⟩
        have HOX := Lib.hid (own_keep HOW.out hb9)
        have HI9 := Lib.hid hI9
        have HN9 := Lib.hid hN9
        have HB9 := Lib.hid (HBK.out.trans (hb9.mono HBK.out.size))
        have HS9 := Lib.hid HB9.out.size
        clear hb9 hI9 hN9
        go_wp2_with (refine app_list rfl _ _ rfl rfl W1.heap.size _ P rfl HOX.out HB9.out lv Z rfl HI9.out HN9.out (by have := HLN.out; simp at this; omega) HS9.out ?_; intro v8 w8 h8 b8 _; have H8 := Lib.hid h8; have B8 := Lib.hid b8; clear h8 b8)
        go_roundw
        case rel => exact ⟨k + 1, by omega, by go_num, by rw [HTK.out]; exact H8.out, B8.out⟩
        case measure => simp [intOf]; omega
      · have hkl2 : k = l.length := by omega
        have e1 : decide (k < l.length) = false := decide_eq_false hlt
        have HPV : Hid (P = pplG (.mk p n l)) := Lib.hid (by rw [hP, hkl2, List.take_length, HV.out])
        have HIN : Hid (Ints wr (.slice va P.length vc) P) := Lib.hid (Ints.own HOW.out (fun z hz => ppl_r64 _ HR.out z (by rw [← HPV.out]; exact hz)) (by omega))
        have HNO := Lib.hid (own_nilor HOW.out)
        have HF := Lib.hid (HB.out.trans (hb.mono HB.out.size))
        clear hb hlt hkl2 hP hown
        go_wp2_with fail
        go_ret
        exact ⟨_, rfl, by rw [← HPV.out]; exact HIN.out, by rw [← HPV.out]; exact HNO.out, HF.out⟩

end Go.Proofs.Ytohebkpgjaaljaa
