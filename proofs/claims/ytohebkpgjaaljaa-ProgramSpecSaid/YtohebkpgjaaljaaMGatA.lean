/- Formulas in the world; slices.ContainsFunc at formulas; formulas.right. formulas.large. -/
import Derived.Test.YtohebkpgjaaljaaMGatP
import Derived.Test.YtohebkpgjaaljaaMInB
import Derived.Laws.EntriesVeiled
namespace Go.Proofs.Ytohebkpgjaaljaa
open Go.RowKit

/-- The value v reads as a formula. -/
inductive GateV (w : World) : Value → GT → Prop
  | mk (p n : Int) (l : List GT) (a : Option Addr) (cap : Nat) (sub : Nat → Value) (hp : R64 p) (hn : R64 n) (hc : l.length ≤ cap) (hl : l.length ≤ 17592186044416)
    (hk : ∀ k, k < l.length → ∃ b off x y za zn zc, a = some ⟨b, off, none⟩ ∧ sub k = .agg #[.int .i64 x, .int .i64 y, .slice za zn zc] ∧ w.cell? ⟨b, off + k * 3, none⟩ = some (.int .i64 x) ∧ w.cell? ⟨b, off + k * 3 + 1, none⟩ = some (.int .i64 y) ∧ w.cell? ⟨b, off + k * 3 + 2, none⟩ = some (.slice za zn zc))
    (hs : ∀ k (h : k < l.length), GateV w (sub k) l[k]) : GateV w (.agg #[.int .i64 p, .int .i64 n, .slice a l.length cap]) (.mk p n l)
theorem GateV.later {w w' : World} {v : Value} {g : GT} (h : GateV w v g) (hb : Below w.heap.size w w') : GateV w' v g := by
  induction h with
  | mk p n l a cap sub hp hn hc hl hk hs ih =>
    exact .mk p n l a cap sub hp hn hc hl (fun k h => by
      obtain ⟨b, off, x, y, za, zn, zc, h1, h2, h3, h4, h5⟩ := hk k h
      exact ⟨b, off, x, y, za, zn, zc, h1, h2, below_cell hb h3, below_cell hb h4, below_cell hb h5⟩) ih

def GatW (w : World) (v : Value) (g : GT) : Prop := GateV w v g
theorem GatW.below {w w' : World} {v : Value} {g : GT} (h : GatW w v g) (hb : Below w.heap.size w w') : GatW w' v g := GateV.later h hb

set_option maxRecDepth 100000 in
set_option maxHeartbeats 1000000 in
theorem indexG_any (f : FuncId) (cs : Array Value) (N : Nat) (a : Option Addr) (cap : Nat) (sub : Nat → Value) (Inv Yes : Nat → World → Prop) (w : World) (hE : Goes Try.prog f) (hN : N ≤ 17592186044416)
    (hread : ∀ k W, Inv k W → k < N → ∃ b off x y za zn zc, a = some ⟨b, off, none⟩ ∧ sub k = .agg #[.int .i64 x, .int .i64 y, .slice za zn zc] ∧ W.cell? ⟨b, off + k * 3, none⟩ = some (.int .i64 x) ∧ W.cell? ⟨b, off + k * 3 + 1, none⟩ = some (.int .i64 y) ∧ W.cell? ⟨b, off + k * 3 + 2, none⟩ = some (.slice za zn zc))
    (hT : ∀ k W, Inv k W → k < N → Calls Try.prog f (#[sub k] ++ cs) W fun e w' => (e = .returned (.bool true) ∧ Yes k w') ∨ (e = .returned (.bool false) ∧ Inv (k + 1) w')) (h0 : Inv 0 w) :
    Calls Try.prog 135 #[.slice a N cap, .func (.func f) #[] cs] w fun e w' => (∃ k : Nat, k < N ∧ e = .returned (.int .i64 k) ∧ Yes k w') ∨ (e = .returned (.int .i64 (-1)) ∧ Inv N w') := by
  have HT := Lib.hid hT
  have HRD := Lib.hid hread
  clear hT hread
  have hE' : ∀ (args : Array Value) (w : World), (callFunc f args).run Try.prog w = .ok (.enter f args) w := hE
  clear hE
  go_enter Try.func135, Try.ntmps135
  go_wp2_with fail
  go_loopw [5, 8] (fun _ i wr => ∃ k : Nat, k ≤ N ∧ i = .int .i64 k ∧ Hid (Inv k wr)) (fun _ i _ => N - (intOf i).toNat)
  case atStart => exact ⟨0, Nat.zero_le _, rfl, Lib.hid h0⟩
  case round =>
    obtain ⟨k, hkl, rfl, HI⟩ := hrel
    by_cases hlt : k < N
    · obtain ⟨b, off, x, y, za, zn, zc, rfl, hs, h1, h2, h3⟩ := HRD.out k wr HI.out hlt
      have HTK := Lib.hid (HT.out k wr HI.out hlt)
      rw [hs] at HTK
      have i0 : 0 ≤ (k : Int) := by omega
      have i1 : (k : Int) < (N : Int) := by omega
      clear hs
      go_wp2_with fail
      refine HTK.out.mono ?_
      rintro e w1 (⟨rfl, hy⟩ | ⟨rfl, hn⟩)
      · have HY := Lib.hid hy
        clear hy
        go_wp2_with fail
        go_ret
        exact .inl ⟨k, hlt, rfl, HY.out⟩
      · have HN := Lib.hid hn
        clear hn
        go_wp2_with fail
        go_roundw
        case rel => exact ⟨k + 1, by omega, by go_num, HN⟩
        case measure => simp [intOf]; omega
    · obtain rfl : k = N := by omega
      go_wp2_with fail
      go_ret
      exact .inr ⟨rfl, HI.out⟩

set_option maxRecDepth 100000 in
set_option maxHeartbeats 1000000 in
theorem containsG_any (f : FuncId) (cs : Array Value) (N : Nat) (a : Option Addr) (cap : Nat) (sub : Nat → Value) (Inv Yes : Nat → World → Prop) (w : World) (hE : Goes Try.prog f) (hN : N ≤ 17592186044416)
    (hread : ∀ k W, Inv k W → k < N → ∃ b off x y za zn zc, a = some ⟨b, off, none⟩ ∧ sub k = .agg #[.int .i64 x, .int .i64 y, .slice za zn zc] ∧ W.cell? ⟨b, off + k * 3, none⟩ = some (.int .i64 x) ∧ W.cell? ⟨b, off + k * 3 + 1, none⟩ = some (.int .i64 y) ∧ W.cell? ⟨b, off + k * 3 + 2, none⟩ = some (.slice za zn zc))
    (hT : ∀ k W, Inv k W → k < N → Calls Try.prog f (#[sub k] ++ cs) W fun e w' => (e = .returned (.bool true) ∧ Yes k w') ∨ (e = .returned (.bool false) ∧ Inv (k + 1) w')) (h0 : Inv 0 w) :
    Calls Try.prog 109 #[.slice a N cap, .func (.func f) #[] cs] w fun e w' => (e = .returned (.bool true) ∧ ∃ k, k < N ∧ Yes k w') ∨ (e = .returned (.bool false) ∧ Inv N w') := by
  have HC := Lib.hid (indexG_any f cs N a cap sub Inv Yes w hE hN hread hT h0)
  clear hread hT h0 hE
  go_enter Try.func109, Try.ntmps109
  go_wp2_with fail
  refine HC.out.mono ?_
  rintro e w1 (⟨k, hk, rfl, hy⟩ | ⟨rfl, hi⟩)
  · have HY := Lib.hid hy
    have h1 : decide ((k : Int) ≥ 0) = true := decide_eq_true (by omega)
    clear hy
    go_wp2_with fail
    go_ret
    exact .inl ⟨rfl, k, hk, HY.out⟩
  · have HI := Lib.hid hi
    clear hi
    go_wp2_with fail
    go_ret
    exact .inr ⟨rfl, HI.out⟩

mutual
def rightG : GT → Bool
  | .mk p n l => if 0 ≤ p then decide (p < 64) && (decide (n = 0) && decide (l.length = 0)) else decide (p = -1) && (decide (1 ≤ n) && (decide (n ≤ 4096) && rightL l))
def rightL : List GT → Bool
  | [] => true
  | x :: t => rightG x && rightL t
end
theorem rightL_iff : ∀ (l : List GT), rightL l = true ↔ ∀ k (h : k < l.length), rightG l[k] = true
  | [] => by simp [rightL]
  | x :: t => by
    unfold rightL
    rw [Bool.and_eq_true, rightL_iff t]
    constructor
    · rintro ⟨h1, h2⟩ k hk
      cases k with
      | zero => exact h1
      | succ k => exact h2 k (by simpa using hk)
    · intro h
      exact ⟨h 0 (by simp), fun k hk => h (k + 1) (by simpa using hk)⟩

set_option maxRecDepth 100000 in
theorem right1_goes : Goes Try.prog 111 := goes_of Try.func111 (by kernel_rfl) rfl

set_option maxRecDepth 100000 in
set_option maxHeartbeats 1000000 in
theorem right1_any (x y : Int) (za : Option Addr) (zn zc : Nat) (b : Bool) (W : World) (h : ∀ W', Below W.heap.size W W' → Calls Try.prog 66 #[.agg #[.int .i64 x, .int .i64 y, .slice za zn zc]] W' fun e w' => e = .returned (.bool b) ∧ Below W'.heap.size W' w') :
    Calls Try.prog 111 #[.agg #[.int .i64 x, .int .i64 y, .slice za zn zc]] W fun e w' => e = .returned (.bool (!b)) ∧ Below W.heap.size W w' := by
  have hb := below_new W #[.int .i64 x, .int .i64 y, .slice za zn zc] 28
  have HC := Lib.hid (h _ hb)
  have HB := Lib.hid hb
  clear h hb
  go_enter Try.func111, Try.ntmps111
  go_wp2_with fail
  refine HC.out.mono ?_
  rintro e w1 ⟨rfl, hb1⟩
  go_wp2_with fail
  go_ret
  exact ⟨rfl, HB.out.trans (hb1.mono HB.out.size)⟩

set_option maxRecDepth 100000 in
set_option maxHeartbeats 4000000 in
theorem right_at (w : World) (v : Value) (g : GT) (hg : GateV w v g) : ∀ W, Below w.heap.size w W → Calls Try.prog 66 #[v] W fun e w' => e = .returned (.bool (rightG g)) ∧ Below W.heap.size W w' := by
  induction hg with
  | mk p n l a cap sub hp hn hc hl hk hs ih =>
    intro W hW
    have hb := below_new W #[.int .i64 p, .int .i64 n, .slice a l.length cap] 28
    have hr := World.alloc_heap_new W (.cells #[.int .i64 p, .int .i64 n, .slice a l.length cap] 28)
    obtain ⟨W1, hW1⟩ : ∃ W1, W1 = W.alloc (.cells #[.int .i64 p, .int .i64 n, .slice a l.length cap] 28) := ⟨_, rfl⟩
    rw [← hW1] at hb hr
    have c0 : W1.cell? ⟨W.heap.size, 0, none⟩ = some (.int .i64 p) := row_cell hr rfl
    have c1 : W1.cell? ⟨W.heap.size, 1, none⟩ = some (.int .i64 n) := row_cell hr rfl
    have c2 : W1.cell? ⟨W.heap.size, 2, none⟩ = some (.slice a l.length cap) := row_cell hr rfl
    have HB := Lib.hid hb
    have HBW := Lib.hid (hW.trans (hb.mono hW.size))
    have HW1 := Lib.hid hW1
    have HK := Lib.hid hk
    have HIH := Lib.hid ih
    clear hr hb hW1 hk ih hs hW
    by_cases h0 : 0 ≤ p
    · have hd0 : decide (p ≥ 0) = true := decide_eq_true h0
      have HV : Hid (rightG (.mk p n l) = (decide (p < 64) && (decide (n = 0) && decide (l.length = 0)))) := Lib.hid (by unfold rightG; rw [if_pos h0])
      by_cases h1 : p < 64
      · have hd1 : decide (p < 64) = true := decide_eq_true h1
        by_cases h2 : n = 0
        · subst h2
          by_cases h3 : l.length = 0
          · have e3 : ((l.length : Int) == 0) = true := by rw [h3]; rfl
            rw [hd1, decide_eq_true h3] at HV
            clear h3
            go_enter Try.func66, Try.ntmps66
            go_wp2_with (rw [← HW1.out])
            go_ret
            exact ⟨ret_bool (by rw [HV.out]; rfl), by first | exact HB.out | (rw [← HW1.out]; exact HB.out)⟩
          · have e3 : ((l.length : Int) == 0) = false := beq_eq_false_iff_ne.2 (by omega)
            rw [hd1, decide_eq_false h3] at HV
            go_enter Try.func66, Try.ntmps66
            go_wp2_with (rw [← HW1.out])
            go_ret
            exact ⟨ret_bool (by rw [HV.out]; rfl), by first | exact HB.out | (rw [← HW1.out]; exact HB.out)⟩
        · have e2 : (n == 0) = false := beq_eq_false_iff_ne.2 h2
          rw [hd1, decide_eq_false h2] at HV
          go_enter Try.func66, Try.ntmps66
          go_wp2_with (rw [← HW1.out])
          go_ret
          exact ⟨ret_bool (by rw [HV.out]; rfl), by first | exact HB.out | (rw [← HW1.out]; exact HB.out)⟩
      · have hd1 : decide (p < 64) = false := decide_eq_false h1
        rw [hd1] at HV
        go_enter Try.func66, Try.ntmps66
        go_wp2_with (rw [← HW1.out])
        go_ret
        exact ⟨ret_bool (by rw [HV.out]; rfl), by first | exact HB.out | (rw [← HW1.out]; exact HB.out)⟩
    · have hd0 : decide (p ≥ 0) = false := decide_eq_false h0
      have HV : Hid (rightG (.mk p n l) = (decide (p = -1) && (decide (1 ≤ n) && (decide (n ≤ 4096) && rightL l)))) := Lib.hid (by unfold rightG; rw [if_neg h0])
      by_cases h1 : p = -1
      · have e1 : (p == -1) = true := beq_iff_eq.2 h1
        rw [decide_eq_true h1] at HV
        clear h1
        by_cases h2 : 1 ≤ n
        · have hd2 : decide (n ≥ 1) = true := decide_eq_true h2
          by_cases h3 : n ≤ 4096
          · have hd3 : decide (n ≤ 4096) = true := decide_eq_true h3
            rw [decide_eq_true h2, hd3] at HV
            have HCT := Lib.hid (containsG_any 111 #[] l.length a cap sub (fun k W' => Below W1.heap.size W1 W' ∧ ∀ j (h : j < l.length), j < k → rightG l[j] = true) (fun k W' => Below W1.heap.size W1 W' ∧ ∃ h : k < l.length, rightG l[k] = false) W1 right1_goes hl
              (fun k W' hI hlt => by
                obtain ⟨b, off, x, y, za, zn, zc, h1, h2, h3, h4, h5⟩ := HK.out k hlt
                have hbw := below_later HBW.out (Nat.le_refl _) hI.1
                exact ⟨b, off, x, y, za, zn, zc, h1, h2, below_cell hbw h3, below_cell hbw h4, below_cell hbw h5⟩)
              (fun k W' hI hlt => by
                obtain ⟨b, off, x, y, za, zn, zc, -, h2, -, -, -⟩ := HK.out k hlt
                have hbw := below_later HBW.out (Nat.le_refl _) hI.1
                have h := HIH.out k hlt
                rw [h2] at h ⊢
                refine (right1_any x y za zn zc (rightG l[k]) W' (fun W'' hb'' => h W'' (below_later hbw (Nat.le_refl _) hb''))).mono ?_
                rintro e w' ⟨rfl, hb'⟩
                cases hx : rightG l[k] with
                | false => exact .inl ⟨rfl, below_later hI.1 (Nat.le_refl _) hb', hlt, hx⟩
                | true => exact .inr ⟨rfl, below_later hI.1 (Nat.le_refl _) hb', fun j hj hjk => by
                    by_cases e : j = k
                    · subst e; exact hx
                    · exact hI.2 j hj (by omega)⟩)
              ⟨Below.refl _ _, fun j hj hjk => absurd hjk (Nat.not_lt_zero _)⟩)
            go_enter Try.func66, Try.ntmps66
            go_wp2_with fail
            try rw [← HW1.out]
            refine HCT.out.mono ?_
            rintro e w3 (⟨rfl, k, hkl, hb3, hk2, hk3⟩ | ⟨rfl, hb3, hall⟩)
            · have HF : Hid (rightL l = false) := Lib.hid (by
                cases e : rightL l with
                | false => rfl
                | true => rw [(rightL_iff l).1 e k hk2] at hk3; cases hk3)
              go_wp2_with fail
              go_ret
              exact ⟨ret_bool (by rw [HV.out, HF.out]; rfl), HB.out.trans (hb3.mono HB.out.size)⟩
            · have HF : Hid (rightL l = true) := Lib.hid ((rightL_iff l).2 fun k h => hall k h h)
              clear hall
              go_wp2_with fail
              go_ret
              exact ⟨ret_bool (by rw [HV.out, HF.out]; rfl), HB.out.trans (hb3.mono HB.out.size)⟩
          · have hd3 : decide (n ≤ 4096) = false := decide_eq_false h3
            rw [decide_eq_true h2, hd3] at HV
            go_enter Try.func66, Try.ntmps66
            go_wp2_with (rw [← HW1.out])
            go_ret
            exact ⟨ret_bool (by rw [HV.out]; rfl), by first | exact HB.out | (rw [← HW1.out]; exact HB.out)⟩
        · have hd2 : decide (n ≥ 1) = false := decide_eq_false h2
          rw [decide_eq_false h2] at HV
          go_enter Try.func66, Try.ntmps66
          go_wp2_with (rw [← HW1.out])
          go_ret
          exact ⟨ret_bool (by rw [HV.out]; rfl), by first | exact HB.out | (rw [← HW1.out]; exact HB.out)⟩
      · have e1 : (p == -1) = false := beq_eq_false_iff_ne.2 h1
        rw [decide_eq_false h1] at HV
        go_enter Try.func66, Try.ntmps66
        go_wp2_with (rw [← HW1.out])
        go_ret
        exact ⟨ret_bool (by rw [HV.out]; rfl), by first | exact HB.out | (rw [← HW1.out]; exact HB.out)⟩
set_option maxRecDepth 100000 in
theorem right_any (v : Value) (g : GT) (w : World) (hg : GatW w v g) : Calls Try.prog 66 #[v] w fun e w' => e = .returned (.bool (rightG g)) ∧ Below w.heap.size w w' :=
  right_at w v g hg w (Below.refl _ _)

end Go.Proofs.Ytohebkpgjaaljaa

namespace Go.Proofs.Ytohebkpgjaaljaa
open Go.RowKit

mutual
/-- How many elements without elements a formula has. -/
def lvsG : GT → Nat
  | .mk _ _ [] => 1
  | .mk _ _ (x :: t) => lvsG x + lvsL t
def lvsL : List GT → Nat
  | [] => 0
  | x :: t => lvsG x + lvsL t
end
mutual
/-- The depth of a formula, less 1. -/
def hgtG : GT → Nat
  | .mk _ _ [] => 0
  | .mk _ _ (x :: t) => 1 + max (hgtG x) (hgtL t)
def hgtL : List GT → Nat
  | [] => 0
  | x :: t => max (hgtG x) (hgtL t)
end
theorem lvs_list (p n : Int) (l : List GT) (h : l ≠ []) : lvsG (.mk p n l) = lvsL l := by
  cases l with
  | nil => exact absurd rfl h
  | cons x t => unfold lvsG; rw [lvsL]
theorem hgt_list (p n : Int) (l : List GT) (h : l ≠ []) : hgtG (.mk p n l) = 1 + hgtL l := by
  cases l with
  | nil => exact absurd rfl h
  | cons x t => unfold hgtG; rw [hgtL]
theorem lvsL_take : ∀ (l : List GT) (k : Nat) (h : k < l.length), lvsL (l.take (k + 1)) = lvsL (l.take k) + lvsG l[k]
  | [], k, h => absurd h (Nat.not_lt_zero _)
  | x :: t, 0, _ => by simp [lvsL]
  | x :: t, k + 1, h => by
    rw [List.take_succ_cons, List.take_succ_cons, lvsL, lvsL, lvsL_take t k (by simpa using h)]
    simp only [List.getElem_cons_succ]; omega
theorem lvsL_le : ∀ (l : List GT) (k : Nat), lvsL (l.take k) ≤ lvsL l
  | [], k => by simp
  | x :: t, 0 => by simp [lvsL]
  | x :: t, k + 1 => by
    rw [List.take_succ_cons, lvsL, lvsL]
    have := lvsL_le t k
    omega
theorem hgtL_lt : ∀ (l : List GT) (d : Nat), d < hgtL l → ∃ k, ∃ h : k < l.length, d < hgtG l[k]
  | [], d, h => by unfold hgtL at h; omega
  | x :: t, d, h => by
    unfold hgtL at h
    by_cases hx : d < hgtG x
    · exact ⟨0, by simp, hx⟩
    · obtain ⟨k, hk, h2⟩ := hgtL_lt t d (by omega)
      exact ⟨k + 1, by simpa using hk, by simpa using h2⟩
theorem hgtL_ge : ∀ (l : List GT) (k : Nat) (h : k < l.length), hgtG l[k] ≤ hgtL l
  | [], k, h => absurd h (Nat.not_lt_zero _)
  | x :: t, 0, _ => by unfold hgtL; simp; omega
  | x :: t, k + 1, h => by
    unfold hgtL
    have := hgtL_ge t k (by simpa using h)
    simp only [List.getElem_cons_succ]; omega
/-- Is a formula at a depth too deep, or are too few leaves left? -/
def overG (g : GT) (d s : Int) : Bool := decide (16 < d + hgtG g ∨ s < lvsG g)

/-- The variables of large: the leaves that are left, and the function. -/
structure Lst (w : World) (LB WB : Nat) (s : Int) (W : World) : Prop where
  be : Below w.heap.size w W
  lb : W.heap[LB]? = some (.cells #[.int .i64 s] 3 (0, 0))
  wb : W.cell? ⟨WB, 0, none⟩ = some (.func (.func 108) #[] #[.pointer (some ⟨LB, 0, none⟩), .pointer (some ⟨WB, 0, none⟩)])
  lo : w.heap.size ≤ LB
  ne : WB ≠ LB
theorem Lst.later {w : World} {LB WB : Nat} {s : Int} {W W' : World} (h : Lst w LB WB s W) (hb : Below W.heap.size W W') : Lst w LB WB s W' :=
  ⟨below_later h.be (Nat.le_refl _) hb, (hb.block _ (Array.getElem?_eq_some_iff.1 h.lb).1).trans h.lb, below_cell hb h.wb, h.lo, h.ne⟩
theorem Lst.set {w : World} {LB WB : Nat} {s s' : Int} {W : World} (h : Lst w LB WB s W) : Lst w LB WB s' (W.setCell ⟨LB, 0, none⟩ (.int .i64 s')) :=
  ⟨h.be.setCell h.lo _, row_set h.lb 0 _, by rw [World.cell?_setCell_far _ _ _ _ (by show LB ≠ WB; exact fun e => h.ne e.symm)]; exact h.wb, h.lo, h.ne⟩

set_option maxRecDepth 100000 in
theorem large11_goes : Goes Try.prog 110 := goes_of Try.func110 (by kernel_rfl) rfl

/-- All blocks but one are as they were. -/
def ButL (LB : Nat) (W W' : World) : Prop := W.heap.size ≤ W'.heap.size ∧ ∀ k, k < W.heap.size → k ≠ LB → W'.heap[k]? = W.heap[k]?
theorem ButL.of_below {LB : Nat} {W W' : World} (h : Below W.heap.size W W') : ButL LB W W' := ⟨h.size, fun k hk _ => h.block k hk⟩
theorem ButL.trans {LB : Nat} {A B C : World} (h : ButL LB A B) (k : ButL LB B C) : ButL LB A C := ⟨Nat.le_trans h.1 k.1, fun i hi hn => (k.2 i (Nat.lt_of_lt_of_le hi h.1) hn).trans (h.2 i hi hn)⟩
theorem ButL.set (LB : Nat) (W : World) (v : Value) : ButL LB W (W.setCell ⟨LB, 0, none⟩ v) := ⟨by simp [World.setCell], fun k _ hn => Below.heap_setCell _ _ _ _ hn⟩
/-- What the walk of a formula leaves. -/
def LargePost (w : World) (LB WB : Nat) (g : GT) (d s : Int) (W : World) (e : Ending) (w' : World) : Prop :=
  (e = .returned (.bool true) ∧ overG g d s = true ∧ Below w.heap.size w w' ∧ W.heap.size ≤ w'.heap.size) ∨ (e = .returned (.bool false) ∧ overG g d s = false ∧ Lst w LB WB (s - lvsG g) w' ∧ ButL LB W w')

set_option maxRecDepth 100000 in
set_option maxHeartbeats 4000000 in
theorem large11_any (w : World) (LB WB DB : Nat) (x y : Int) (za : Option Addr) (zn zc : Nat) (g : GT) (d s : Int) (W : World) (hd : 0 ≤ d ∧ d ≤ 16) (hL : Lst w LB WB s W) (hD : W.cell? ⟨DB, 0, none⟩ = some (.int .i64 d))
    (h : ∀ W', Lst w LB WB s W' → Calls Try.prog 108 #[.agg #[.int .i64 x, .int .i64 y, .slice za zn zc], .int .i64 (d + 1), .pointer (some ⟨LB, 0, none⟩), .pointer (some ⟨WB, 0, none⟩)] W' (LargePost w LB WB g (d + 1) s W')) :
    Calls Try.prog 110 #[.agg #[.int .i64 x, .int .i64 y, .slice za zn zc], .pointer (some ⟨WB, 0, none⟩), .pointer (some ⟨DB, 0, none⟩)] W (LargePost w LB WB g (d + 1) s W) := by
  have hb := below_new W #[.int .i64 x, .int .i64 y, .slice za zn zc] 28
  have HC := Lib.hid (h _ (hL.later hb))
  have HB := Lib.hid hb
  have c1 := below_cell hb hL.wb
  have c2 := below_cell hb hD
  obtain ⟨d0, d1⟩ := hd
  clear h hb
  go_enter Try.func110, Try.ntmps110
  go_wp2_with fail
  refine HC.out.mono ?_
  rintro e w1 (⟨rfl, h1, h2, h3⟩ | ⟨rfl, h1, h2, h3⟩)
  · have HP : Hid (LargePost w LB WB g (d + 1) s W (.returned (.bool true)) w1) := Lib.hid (.inl ⟨rfl, h1, h2, Nat.le_trans HB.out.size h3⟩)
    clear h1 h2 h3
    go_wp2_with fail
    go_ret
    exact HP.out
  · have HP : Hid (LargePost w LB WB g (d + 1) s W (.returned (.bool false)) w1) := Lib.hid (.inr ⟨rfl, h1, h2, (ButL.of_below HB.out).trans h3⟩)
    clear h1 h2 h3
    go_wp2_with fail
    go_ret
    exact HP.out

set_option maxRecDepth 100000 in
set_option maxHeartbeats 8000000 in
theorem large1_at (w : World) (LB WB : Nat) (v : Value) (g : GT) (hg : GateV w v g) : ∀ W d s, 1 ≤ d → d ≤ 17 → 0 ≤ s → s ≤ 256 → Lst w LB WB s W →
    Calls Try.prog 108 #[v, .int .i64 d, .pointer (some ⟨LB, 0, none⟩), .pointer (some ⟨WB, 0, none⟩)] W (LargePost w LB WB g d s W) := by
  induction hg with
  | mk p n l a cap sub hp hn hc hl hk hs ih =>
    intro W d s hd1 hd2 hs1 hs2 hW
    have HLT := Lib.hid (Array.getElem?_eq_some_iff.1 hW.lb).1
    have hb := below_new W #[.int .i64 p, .int .i64 n, .slice a l.length cap] 28
    obtain ⟨W1, hW1⟩ : ∃ W1, W1 = W.alloc (.cells #[.int .i64 p, .int .i64 n, .slice a l.length cap] 28) := ⟨_, rfl⟩
    have hz1 : W1.heap.size = W.heap.size + 1 := by rw [hW1]; simp
    have hr := World.alloc_heap_new W (.cells #[.int .i64 p, .int .i64 n, .slice a l.length cap] 28)
    rw [← hW1] at hb hr
    have hb2 := below_new W1 #[.int .i64 d] 3
    have hr2 := World.alloc_heap_new W1 (.cells #[.int .i64 d] 3)
    obtain ⟨W2, hW2⟩ : ∃ W2, W2 = W1.alloc (.cells #[.int .i64 d] 3) := ⟨_, rfl⟩
    rw [← hW2] at hb2 hr2
    rw [hz1] at hr2
    have hb3 := hb.trans (hb2.mono hb.size)
    have hW2L := hW.later hb3
    have c2 : W2.cell? ⟨W.heap.size, 2, none⟩ = some (.slice a l.length cap) := below_cell hb2 (row_cell hr rfl)
    have d0 : W2.cell? ⟨W.heap.size + 1, 0, none⟩ = some (.int .i64 d) := row_cell hr2 rfl
    have HB3 := Lib.hid hb3
    have HWE : Hid (W2 = (W.alloc (.cells #[.int .i64 p, .int .i64 n, .slice a l.length cap] 28)).alloc (.cells #[.int .i64 d] 3)) := Lib.hid (by rw [hW2, hW1])
    have HL := Lib.hid hW2L
    have HR2 := Lib.hid hr2
    have HK := Lib.hid hk
    have HIH := Lib.hid ih
    clear hr hb hb2 hr2 hb3 hW1 hW2 hk ih hs hW hz1
    by_cases hd : d ≤ 16
    · have e1 : decide (d > 16) = false := decide_eq_false (by omega)
      by_cases h0 : l.length = 0
      · have hnil : l = [] := List.length_eq_zero_iff.1 h0
        have e2 : ((l.length : Int) == 0) = true := by rw [h0]; rfl
        have HO : Hid (overG (.mk p n l) d s = decide (s < 1) ∧ lvsG (.mk p n l) = 1) := Lib.hid (by
          subst hnil; unfold overG; rw [show hgtG (.mk p n []) = 0 by simp [hgtG], show lvsG (.mk p n []) = 1 by simp [lvsG]]
          refine ⟨?_, rfl⟩
          by_cases h : s < 1
          · rw [decide_eq_true h]; simp; omega
          · rw [decide_eq_false h]; simp; omega)
        have x1 := row_cell (k := 0) hW2L.lb rfl
        have f1 := row_free hW2L.lb 0
        have HST := Lib.hid (hW2L.set (s' := s - 1))
        have y1 := row_cell (k := 0) HST.out.lb rfl
        have HBU := Lib.hid ((ButL.of_below HB3.out).trans (ButL.set LB W2 (.int .i64 (s - 1))))
        clear hnil h0 hW2L
        by_cases hs0 : s < 1
        · have e3 : decide (s - 1 < 0) = true := decide_eq_true (by omega)
          rw [decide_eq_true hs0] at HO
          go_enter Try.func108, Try.ntmps108
          go_wp2_with (rw [← HWE.out])
          go_ret
          exact .inl ⟨rfl, HO.out.1, HST.out.be, HBU.out.1⟩
        · have e3 : decide (s - 1 < 0) = false := decide_eq_false (by omega)
          rw [decide_eq_false hs0] at HO
          go_enter Try.func108, Try.ntmps108
          go_wp2_with (rw [← HWE.out])
          go_ret
          exact .inr ⟨rfl, HO.out.1, by rw [HO.out.2]; exact HST.out, HBU.out⟩
      · have hne : l ≠ [] := fun e => h0 (by rw [e]; rfl)
        have e2 : ((l.length : Int) == 0) = false := beq_eq_false_iff_ne.2 (by omega)
        have HO : Hid (overG (.mk p n l) d s = decide (16 < d + 1 + (hgtL l : Int) ∨ s < lvsL l) ∧ lvsG (.mk p n l) = lvsL l) := Lib.hid (by
          unfold overG; rw [hgt_list p n l hne, lvs_list p n l hne]
          refine ⟨decide_eq_decide.2 ?_, rfl⟩
          constructor <;> intro h <;> omega)
        have HGO : Hid (Goes Try.prog 110) := Lib.hid large11_goes
        have HCT := Lib.hid (containsG_any 110 #[.pointer (some ⟨WB, 0, none⟩), .pointer (some ⟨W.heap.size + 1, 0, none⟩)] l.length a cap sub
          (fun k W' => Lst w LB WB (s - lvsL (l.take k)) W' ∧ ButL LB W2 W' ∧ 0 ≤ s - lvsL (l.take k) ∧ ∀ j (h : j < l.length), j < k → d + 1 + (hgtG l[j] : Int) ≤ 16)
          (fun k W' => Below w.heap.size w W' ∧ W2.heap.size ≤ W'.heap.size ∧ ∃ h : k < l.length, overG l[k] (d + 1) (s - lvsL (l.take k)) = true) W2 HGO.out hl
          (fun k W' hI hlt => by
            obtain ⟨b, off, x, y, za, zn, zc, h1, h2, h3, h4, h5⟩ := HK.out k hlt
            exact ⟨b, off, x, y, za, zn, zc, h1, h2, below_cell hI.1.be h3, below_cell hI.1.be h4, below_cell hI.1.be h5⟩)
          (fun k W' hI hlt => by
            obtain ⟨b, off, x, y, za, zn, zc, -, h2, -, -, -⟩ := HK.out k hlt
            have h := HIH.out k hlt
            rw [h2] at h ⊢
            obtain ⟨hI1, hI2, hI3, hI4⟩ := hI
            have hDB : W'.cell? ⟨W.heap.size + 1, 0, none⟩ = some (.int .i64 d) := by
              have := HLT.out
              exact row_cell ((hI2.2 _ (Array.getElem?_eq_some_iff.1 HR2.out).1 (by omega)).trans HR2.out) rfl
            have hle := lvsL_take l k hlt
            refine (large11_any w LB WB (W.heap.size + 1) x y za zn zc l[k] d (s - lvsL (l.take k)) W' ⟨by omega, hd⟩ hI1 hDB (fun W'' hL'' => h W'' (d + 1) (s - lvsL (l.take k)) (by omega) (by omega) hI3 (by omega) hL'')).mono ?_
            rintro e w' (⟨rfl, p1, p2, p3⟩ | ⟨rfl, p1, p2, p3⟩)
            · exact .inl ⟨rfl, p2, Nat.le_trans hI2.1 p3, hlt, p1⟩
            · have p4 := of_decide_eq_false p1
              refine .inr ⟨rfl, ?_, hI2.trans p3, by omega, fun j hj hjk => ?_⟩
              · rw [hle]
                have e5 : s - ((lvsL (l.take k) + lvsG l[k] : Nat) : Int) = s - lvsL (l.take k) - lvsG l[k] := by omega
                rw [e5]; exact p2
              · by_cases e : j = k
                · subst e; omega
                · exact hI4 j hj (by omega))
          ⟨by
            have e5 : s - ((lvsL (l.take 0) : Nat) : Int) = s := by simp [lvsL]
            rw [e5]; exact HL.out, ⟨Nat.le_refl _, fun _ _ _ => rfl⟩, by simp [lvsL]; exact hs1, fun j hj hjk => absurd hjk (Nat.not_lt_zero _)⟩)
        have hmf : ∀ (fn : Fn) (first cap : Array Value) (w : World), (Instr.makeFunc fn first cap).run Try.prog w = .ok (.func fn first cap) w := fun _ _ _ _ => rfl
        have HNE := Lib.hid h0
        clear hW2L hne h0
        go_enter Try.func108, Try.ntmps108
        go_wp2_with (rw [← HWE.out])
        try rw [← HWE.out]
        refine HCT.out.mono ?_
        rintro e w3 (⟨rfl, k, hkl, p1, p2, hk2, p3⟩ | ⟨rfl, p1, p2, p3, p4⟩)
        · have HV : Hid (overG (.mk p n l) d s = true) := Lib.hid (by
            rw [HO.out.1]
            have p5 := of_decide_eq_true p3
            have h6 := hgtL_ge l k hk2
            have h7 := lvsL_take l k hk2
            have h8 := lvsL_le l (k + 1)
            exact decide_eq_true (by omega))
          have HBE := Lib.hid p1
          have HSZ := Lib.hid (Nat.le_trans HB3.out.size p2)
          clear p1 p2 p3 hk2
          go_wp2_with fail
          go_ret
          exact .inl ⟨rfl, HV.out, HBE.out, HSZ.out⟩
        · have HV : Hid (overG (.mk p n l) d s = false) := Lib.hid (by
            rw [HO.out.1]
            refine decide_eq_false fun h => ?_
            rw [List.take_length] at p3
            rcases h with h | h
            · by_cases hd16 : d = 16
              · have := HNE.out
                have := p4 0 (by omega) (by omega)
                omega
              obtain ⟨k, hk, h6⟩ := hgtL_lt l (15 - d).toNat (by omega)
              have := p4 k hk hk
              omega
            · omega)
          have HLS : Hid (Lst w LB WB (s - lvsG (.mk p n l)) w3) := Lib.hid (by rw [HO.out.2]; rw [List.take_length] at p1; exact p1)
          have HBU := Lib.hid ((ButL.of_below HB3.out).trans p2)
          clear p1 p2 p3 p4
          go_wp2_with fail
          go_ret
          exact .inr ⟨rfl, HV.out, HLS.out, HBU.out⟩
    · have e1 : decide (d > 16) = true := decide_eq_true (by omega)
      have HO : Hid (overG (.mk p n l) d s = true) := Lib.hid (by unfold overG; exact decide_eq_true (.inl (by omega)))
      have HBE := Lib.hid hW2L.be
      clear hW2L
      go_enter Try.func108, Try.ntmps108
      go_wp2_with (rw [← HWE.out])
      go_ret
      exact .inl ⟨rfl, HO.out, HBE.out, HB3.out.size⟩

def largeG (g : GT) : Bool := overG g 1 256
set_option maxRecDepth 100000 in
set_option maxHeartbeats 4000000 in
theorem large_any (v : Value) (g : GT) (w : World) (hg : GatW w v g) : Calls Try.prog 65 #[v] w fun e w' => e = .returned (.bool (largeG g)) ∧ Below w.heap.size w w' := by
  have HG := Lib.hid hg
  cases hg with
  | mk p n l a cap sub hp hn hc hl hk hs =>
    clear hk hs
    have hmf : ∀ (fn : Fn) (first cap : Array Value) (w : World), (Instr.makeFunc fn first cap).run Try.prog w = .ok (.func fn first cap) w := fun _ _ _ _ => rfl
    obtain ⟨A, hA⟩ : ∃ A, A = w.alloc (.cells #[.int .i64 p, .int .i64 n, .slice a l.length cap] 28) := ⟨_, rfl⟩
    obtain ⟨B, hB⟩ : ∃ B, B = A.alloc (.cells #[.int .i64 256] 3) := ⟨_, rfl⟩
    obtain ⟨C, hC⟩ : ∃ C, C = B.alloc (.cells #[.func (.func 108) #[] #[.pointer (some ⟨w.heap.size + 1, 0, none⟩), .pointer (some ⟨w.heap.size + 1 + 1, 0, none⟩)]] 111) := ⟨_, rfl⟩
    have sA : A.heap.size = w.heap.size + 1 := by rw [hA]; simp
    have sB : B.heap.size = w.heap.size + 1 + 1 := by rw [hB]; simp [sA]
    have bA : Below w.heap.size w A := hA ▸ below_new _ _ _
    have bB : Below A.heap.size A B := hB ▸ below_new _ _ _
    have bC : Below B.heap.size B C := hC ▸ below_new _ _ _
    have b3 := bA.trans ((bB.trans (bC.mono bB.size)).mono bA.size)
    have l1 : B.heap[w.heap.size + 1]? = some (.cells #[.int .i64 256] 3 (0, 0)) := by rw [hB, ← sA]; exact World.alloc_heap_new _ _
    have l2 : C.heap[w.heap.size + 1 + 1]? = some (.cells #[.func (.func 108) #[] #[.pointer (some ⟨w.heap.size + 1, 0, none⟩), .pointer (some ⟨w.heap.size + 1 + 1, 0, none⟩)]] 111 (0, 0)) := by
      have h := World.alloc_heap_new B (.cells #[.func (.func 108) #[] #[.pointer (some ⟨w.heap.size + 1, 0, none⟩), .pointer (some ⟨w.heap.size + 1 + 1, 0, none⟩)]] 111)
      rw [← hC, sB] at h
      exact h
    have hL : Lst w (w.heap.size + 1) (w.heap.size + 1 + 1) 256 C := ⟨b3, (bC.block _ (by omega)).trans l1, row_cell l2 rfl, by omega, by omega⟩
    have HC := Lib.hid (large1_at w (w.heap.size + 1) (w.heap.size + 1 + 1) _ _ HG.out C 1 256 (by omega) (by omega) (by omega) (by omega) hL)
    have HCE : Hid (C = ((w.alloc (.cells #[.int .i64 p, .int .i64 n, .slice a l.length cap] 28)).alloc (.cells #[.int .i64 256] 3)).alloc (.cells #[.func (.func 108) #[] #[.pointer (some ⟨w.heap.size + 1, 0, none⟩), .pointer (some ⟨w.heap.size + 1 + 1, 0, none⟩)]] 111)) := Lib.hid (by rw [hC, hB, hA])
    have HV : Hid (largeG (.mk p n l) = overG (.mk p n l) 1 256) := Lib.hid rfl
    clear hA hB hC sA sB bA bB bC b3 l1 l2 hL
    go_enter Try.func65, Try.ntmps65
    go_wp2_with fail
    rw [← HCE.out]
    refine HC.out.mono ?_
    rintro e w1 (⟨rfl, h1, h2, -⟩ | ⟨rfl, h1, h2, -⟩)
    · have H1 := Lib.hid h1
      have H2 := Lib.hid h2
      clear h1 h2
      go_wp2_with fail
      go_ret
      exact ⟨ret_bool (by rw [HV.out, H1.out]), H2.out⟩
    · have H1 := Lib.hid h1
      have H2 := Lib.hid h2.be
      clear h1 h2
      go_wp2_with fail
      go_ret
      exact ⟨ret_bool (by rw [HV.out, H1.out]), H2.out⟩

def gateE (g : GT) : Int := if largeG g = true then 2 else if rightG g = true then 0 else 220
set_option maxRecDepth 100000 in
set_option maxHeartbeats 4000000 in
theorem gcheck_any (v : Value) (g : GT) (w : World) (hg : GatW w v g) : Calls Try.prog 29 #[v] w fun e w' => e = .returned (.int .i64 (gateE g)) ∧ Below w.heap.size w w' := by
  obtain ⟨p, n, l, a, cap, rfl, rfl, HG⟩ : ∃ p n l a cap, v = .agg #[.int .i64 p, .int .i64 n, .slice a (l : List GT).length cap] ∧ g = .mk p n l ∧ Hid (GatW w v g) := by
    have HG := Lib.hid hg
    cases hg with
    | mk p n l a cap sub hp hn hc hl hk hs => exact ⟨p, n, l, a, cap, rfl, rfl, HG⟩
  have hb := below_new w #[.int .i64 p, .int .i64 n, .slice a l.length cap] 28
  obtain ⟨A, hA⟩ : ∃ A, A = w.alloc (.cells #[.int .i64 p, .int .i64 n, .slice a l.length cap] 28) := ⟨_, rfl⟩
  have hr := World.alloc_heap_new w (.cells #[.int .i64 p, .int .i64 n, .slice a l.length cap] 28)
  rw [← hA] at hb hr
  have c0 : A.cell? ⟨w.heap.size, 0, none⟩ = some (.int .i64 p) := row_cell hr rfl
  have c1 : A.cell? ⟨w.heap.size, 1, none⟩ = some (.int .i64 n) := row_cell hr rfl
  have c2 : A.cell? ⟨w.heap.size, 2, none⟩ = some (.slice a l.length cap) := row_cell hr rfl
  have HA := Lib.hid hA
  have HB := Lib.hid hb
  have HGA := Lib.hid (HG.out.below hb)
  clear hA hb hr hg
  cases hl : largeG (.mk p n l) with
  | true =>
    have HL := Lib.hid hl
    have HV : Hid (gateE (.mk p n l) = 2) := Lib.hid (by unfold gateE; rw [hl]; rfl)
    clear hl
    go_enter Try.func29, Try.ntmps29
    go_wp2_with fail
    rw [← HA.out]
    refine (large_any _ _ _ HGA.out).mono ?_
    rintro e w1 ⟨rfl, hb1⟩
    rw [HL.out]
    go_wp2_with fail
    go_ret
    exact ⟨by rw [HV.out]; rfl, HB.out.trans (hb1.mono HB.out.size)⟩
  | false =>
    have HL := Lib.hid hl
    have HV : Hid (gateE (.mk p n l) = if rightG (.mk p n l) = true then 0 else 220) := Lib.hid (by unfold gateE; rw [hl]; rfl)
    clear hl
    go_enter Try.func29, Try.ntmps29
    go_wp2_with fail
    rw [← HA.out]
    refine (large_any _ _ _ HGA.out).mono ?_
    rintro e w1 ⟨rfl, hb1⟩
    rw [HL.out]
    have d0 := below_cell hb1 c0
    have d1 := below_cell hb1 c1
    have d2 := below_cell hb1 c2
    have HG1 := Lib.hid (HGA.out.below hb1)
    have HB1 := Lib.hid (HB.out.trans (hb1.mono HB.out.size))
    clear hb1
    cases hr : rightG (.mk p n l) with
    | true =>
      have HR := Lib.hid hr
      rw [hr] at HV
      clear hr
      go_wp2_with fail
      refine (right_any _ _ _ HG1.out).mono ?_
      rintro e w2 ⟨rfl, hb2⟩
      rw [HR.out]
      go_wp2_with fail
      go_ret
      exact ⟨by rw [HV.out]; rfl, HB1.out.trans (hb2.mono HB1.out.size)⟩
    | false =>
      have HR := Lib.hid hr
      rw [hr] at HV
      clear hr
      go_wp2_with fail
      refine (right_any _ _ _ HG1.out).mono ?_
      rintro e w2 ⟨rfl, hb2⟩
      rw [HR.out]
      go_wp2_with fail
      go_ret
      exact ⟨by rw [HV.out]; rfl, HB1.out.trans (hb2.mono HB1.out.size)⟩

end Go.Proofs.Ytohebkpgjaaljaa
