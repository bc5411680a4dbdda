/- The reference of digest: numbers. The reference of digest: padded. A region that draws its order inside a round of a range over a function: as outside, where no operation is about to call a Go function. A region that draws its order, where a condition on the world holds up to certain operations only (stores into what was loaded). A region that draws its order, as a flow: each operation is looked at once, whatever stands before it. -/
import Derived.Test.YteodnbaogfdjbaaDoorMParF
import Derived.Test.YteodnbaogfdjbaaDoorMCodD
import Derived.Test.YteodnbaogfdjbaaDoorMFq
import Derived.Great.BuildSlice
import Derived.OrdersIn
import Derived.Deep.RegionHeld3
import Derived.OrdersHeld
namespace Go.Proofs.YteodnbaogfdjbaaDoor
open Go.RowKit

def wordV (x : Nat) : Value := .int .u32 (x : Int)
set_option maxRecDepth 100000 in
theorem infoK : (Tryd.prog.info? 110).map (·.size) = some 64 := by kernel_rfl
set_option maxRecDepth 100000 in
theorem infoKz : ((Tryd.prog.info? 110).bind (·.zero)).map (·.cells.size) = some 64 := by kernel_rfl
set_option maxRecDepth 100000 in
theorem infoU1 : (Tryd.prog.info? 90).map (·.size) = some 1 := by kernel_rfl
def kInts : List Int := kNum.map fun (n : Nat) => (n : Int)
theorem kInts_map : kInts.map (Value.int .u32) = kNum.map wordV := by unfold kInts; rw [List.map_map]; rfl
theorem wordV_one (l : List Nat) : ((l.map wordV).toArray).all (·.oneCell') = true := all_oneCell_toArray (fun v hv => by obtain ⟨x, -, rfl⟩ := List.mem_map.1 hv; rfl)
def z64 : Array Value := #[.int .u32 0, .int .u32 0, .int .u32 0, .int .u32 0, .int .u32 0, .int .u32 0, .int .u32 0, .int .u32 0, .int .u32 0, .int .u32 0, .int .u32 0, .int .u32 0, .int .u32 0, .int .u32 0, .int .u32 0, .int .u32 0, .int .u32 0, .int .u32 0, .int .u32 0, .int .u32 0, .int .u32 0, .int .u32 0, .int .u32 0, .int .u32 0, .int .u32 0, .int .u32 0, .int .u32 0, .int .u32 0, .int .u32 0, .int .u32 0, .int .u32 0, .int .u32 0, .int .u32 0, .int .u32 0, .int .u32 0, .int .u32 0, .int .u32 0, .int .u32 0, .int .u32 0, .int .u32 0, .int .u32 0, .int .u32 0, .int .u32 0, .int .u32 0, .int .u32 0, .int .u32 0, .int .u32 0, .int .u32 0, .int .u32 0, .int .u32 0, .int .u32 0, .int .u32 0, .int .u32 0, .int .u32 0, .int .u32 0, .int .u32 0, .int .u32 0, .int .u32 0, .int .u32 0, .int .u32 0, .int .u32 0, .int .u32 0, .int .u32 0, .int .u32 0]

set_option maxRecDepth 100000 in
set_option maxHeartbeats 4000000 in
theorem rnumbers_any (w : World) :
    Calls Tryd.prog 97 #[] w fun e w' => e = .returned (.agg (kNum.map wordV).toArray) ∧ Below w.heap.size w w' := by
  obtain ⟨T, hT⟩ : ∃ T, T = kNum.map wordV := ⟨_, rfl⟩
  have hTl : T.length = 64 := by rw [hT]; rfl
  have H1 := Lib.hid (show T.toArray.all (·.oneCell') = true by rw [hT]; exact wordV_one _)
  have HI := Lib.hid (infoK.trans (congrArg some (show 64 = T.toArray.size by simpa using hTl.symm)))
  have HI2 := Lib.hid (infoK.trans (congrArg some hTl.symm))
  have HK : Hid (kInts.map (Value.int .u32) = T) := Lib.hid (by rw [hT]; exact kInts_map)
  have HTL := Lib.hid hTl
  rw [← hT]
  clear hT hTl
  have hb : Below w.heap.size w (w.alloc (.cells z64 110)) := (Below.refl _ _).alloc (Nat.le_refl _) _
  have hth : (w.alloc (.cells z64 110)).there w.heap.size 0 64 := there_new _ _ _ rfl
  have HB := Lib.hid hb
  have HTH := Lib.hid hth
  clear hb hth
  go_enter Tryd.func97, Tryd.ntmps97
  obtain ⟨W1, hW1⟩ : ∃ W, W = w.alloc (.cells z64 110) := ⟨_, rfl⟩
  rw [← hW1] at HB HTH
  simp only [z64] at hW1
  have HW1 := Lib.hid hW1
  clear hW1
  go_wp2_with (first
    | rw [← HW1.out]
    | (refine wpList_buildFlatArrTo rfl 110 90 64 _ rfl .u32 kInts _ rfl Tryd.underlying110 infoU1 infoKz (by kernel_rfl) ?_; rw [HK.out])
    | (refine wpList_store_mid rfl 110 (.tmp 0) (.tmp 1) rfl w.heap.size 0 T.toArray rfl rfl (by rw [show T.toArray.size = 64 by simpa using HTL.out]; exact HTH.out) HI.out H1.out ?_))
  have hr := World.rangeAt_setCells_same W1 w.heap.size 0 T (by rw [HTL.out]; exact HTH.out)
  have hld := run_loadVar_mid (P := Tryd.prog) _ w.heap.size 0 110 T _ hr Tryd.underlying110 rfl HI2.out
  refine bodyPost_ret (v := .agg T.toArray) ?_ rfl ⟨rfl, below_setCells (Nat.le_refl _) _ _ _ HB.out⟩
  exact results_cell1_of rfl rfl hld

end Go.Proofs.YteodnbaogfdjbaaDoor

namespace Go.Proofs.YteodnbaogfdjbaaDoor
open Go.RowKit

theorem padded_size (b : List Nat) : (padded b).length = b.length + 1 + padN b.length + 8 := by
  unfold padded zeros be8
  rw [List.length_append, List.length_cons, List.length_append, List.length_replicate]
  simp only [List.length_cons, List.length_nil]
  omega
theorem padded_all (b : List Nat) (h : ∀ x ∈ b, x < 256) : ∀ x ∈ padded b, x < 256 := fun x hx => by
  unfold padded at hx
  rcases List.mem_append.1 hx with hx | hx
  · exact h x hx
  · rcases List.mem_cons.1 hx with rfl | hx
    · omega
    · rcases List.mem_append.1 hx with hx | hx
      · unfold zeros at hx
        rw [List.eq_of_mem_replicate hx]; omega
      · simp only [be8, List.mem_cons, List.not_mem_nil, or_false] at hx
        rcases hx with rfl | rfl | rfl | rfl | rfl | rfl | rfl | rfl <;> exact Nat.mod_lt _ (by decide)
theorem padded_next (b : List Nat) (m : Nat) (hm : m < (padded b).length) : (padded b).take (m + 1) = (padded b).take m ++ [(padded b).getD m 0] := by
  rw [List.take_succ_eq_append_getElem hm, List.getD_eq_getElem?_getD, List.getElem?_eq_getElem hm]; rfl
theorem padded_take (b : List Nat) : (padded b).take b.length = b := by
  unfold padded
  rw [List.take_append_of_le_length (Nat.le_refl _), List.take_length]
theorem byte_lit (w : World) (x : Nat) (hx : x < 256) (B : Nat) (hB : w.heap.size = B) : Byts (w.alloc (.cells #[.int .u8 (x : Int)] 5)) (.slice (some ⟨B, 0, none⟩) 1 1) [x] := by
  subst hB
  have h := World.alloc_heap_new w (.cells #[.int .u8 (x : Int)] 5)
  refine ⟨_, _, rfl, Nat.le_refl _, by simp, fun y hy => by simp at hy; omega, fun k hk => ⟨w.heap.size, 0, rfl, ?_⟩⟩
  simp only [List.length_cons, List.length_nil] at hk
  obtain rfl : k = 0 := by omega
  exact row_cell h rfl
theorem own_formB {W : World} {base size n : Nat} {e : TypeId} {v : Value} {xs : List Value} (h : W.ownsRow base e size v n xs) (hn : 0 < n) : ∃ g cap, v = .slice (some ⟨g, 0, none⟩) n cap := by
  rcases h.2 with ⟨rfl, h0⟩ | ⟨g, cap, cur, rfl, -⟩
  · omega
  · exact ⟨g, cap, rfl⟩
theorem own_fromB {W : World} {base size n b0 : Nat} {e : TypeId} {v : Value} {xs : List Value} (h : W.ownsRow base e size v n xs) (hb : b0 ≤ base) : ∀ b, v.ownBlock = some b → b0 ≤ b := fun b e1 => by
  rcases h.2 with ⟨rfl, -⟩ | ⟨g, cap, cur, rfl, hg, -⟩
  · cases e1
  · simp only [Value.ownBlock, Option.some.injEq] at e1
    omega
theorem pad_stop {n m : Nat} (h1 : n + 1 ≤ m) (h2 : m ≤ n + 1 + padN n) : m % 64 = 56 ↔ m = n + 1 + padN n := by unfold padN at *; omega

set_option maxRecDepth 100000 in
set_option maxHeartbeats 4000000 in
theorem rpadded_any (v : Value) (bs : List Nat) (w : World) (hI : Byts w v bs) (h0 : 0 < bs.length) (hl : bs.length ≤ 8796093022208) :
    Calls Tryd.prog 86 #[v] w fun e w' => ∃ v', e = .returned v' ∧ Byts w' v' (padded bs) ∧ (∀ b, v'.ownBlock = some b → w.heap.size ≤ b) ∧ Below w.heap.size w w' := by
  have HI := Lib.hid hI
  obtain ⟨av, cv, rfl, -⟩ := id hI
  have HALL : Hid (∀ x ∈ padded bs, x < 256) := Lib.hid (by obtain ⟨_, _, _, _, _, h5, _⟩ := hI; exact padded_all bs h5)
  clear hI
  obtain ⟨W1, hW1⟩ : ∃ W, W = w.alloc (.cells #[] 5) := ⟨_, rfl⟩
  have H1 : Hid (W1.ownsRow w.heap.size 5 1 (.slice (some ⟨w.heap.size, 0, none⟩) 0 0) 0 []) := Lib.hid (by rw [hW1]; exact World.ownsRow_made _ #[] 0 (Nat.le_refl _) (by unfold maxLen; omega) rfl)
  have HB1 := Lib.hid (show Below w.heap.size w W1 by rw [hW1]; exact below_new _ _ _)
  have HI1 := Lib.hid (HI.out.below HB1.out)
  have HW1 := Lib.hid hW1
  clear hW1
  have HPS := Lib.hid (padded_size bs)
  have HPT := Lib.hid (padded_take bs)
  have HPM := Lib.hid (pad_mark bs)
  have HPN := Lib.hid (fun m hm => padded_next bs m hm)
  have HPZ := Lib.hid (fun i h h2 => pad_zero bs (i := i) h h2)
  have HPE := Lib.hid (fun j (h : j < 8) => pad_size bs h)
  have HST := Lib.hid (fun m h1 h2 => pad_stop (n := bs.length) (m := m) h1 h2)
  have hpn : padN bs.length < 64 := Nat.mod_lt _ (by decide)
  obtain ⟨pn, hpnn⟩ : ∃ pn, pn = padN bs.length := ⟨_, rfl⟩
  rw [← hpnn] at HPS HPZ HPE HST hpn
  clear hpnn
  obtain ⟨P, hP⟩ : ∃ P, P = padded bs := ⟨_, rfl⟩
  rw [← hP] at HALL HPS HPT HPM HPN HPZ HPE ⊢
  clear hP
  obtain ⟨n, hn⟩ : ∃ n, n = bs.length := ⟨_, rfl⟩
  have HN := Lib.hid hn
  rw [← hn] at HI HI1 HPS HPT HPM HPZ HPE HST h0 hl ⊢
  clear hn
  go_enter Tryd.func86, Tryd.ntmps86
  go_wp2_with (first
    | rw [← HW1.out]
    | (refine app_bytes rfl _ _ rfl w.heap.size 0 (.slice (some ⟨w.heap.size, 0, none⟩) 0 0) (.slice av n cv) [] rfl H1.out bs rfl HI1.out (by have := HN.out; omega) (by have := HN.out; omega) HB1.out.size ?_; intro v2 w2 h2 g2; have hb2 := own_below H1.out g2 HB1.out.size; rw [Nat.zero_add, List.nil_append, ← HN.out, ← HPT.out] at h2; obtain ⟨q2, d2, rfl⟩ := own_formB h2 h0; have hn2 := below_new w2 #[.int .u8 ((128 : Nat) : Int)] 5; have hbw := HB1.out.trans hb2; have H2 := Lib.hid (own_keep h2 hn2); have HB2 := Lib.hid (hbw.trans (hn2.mono hbw.size)); have HY := Lib.hid (byte_lit w2 128 (by omega) _ rfl); clear h2 g2 hb2 hn2 hbw)
    | (refine app_bytes rfl _ _ rfl w.heap.size n (.slice (some ⟨q2, 0, none⟩) n d2) (.slice (some ⟨w2.heap.size, 0, none⟩) 1 1) ((P.take n).map byteV) rfl H2.out [128] rfl HY.out (by decide) (by show n + 1 ≤ _; omega) HB2.out.size ?_; intro v3 w3 h3 g3; have hb3 := own_below H2.out g3 HB2.out.size; have HB3 := Lib.hid (HB2.out.trans hb3); have H3 := Lib.hid (show w3.ownsRow w.heap.size 5 1 v3 (n + 1) ((P.take (n + 1)).map byteV) by rw [HPN.out n (by have := HPS.out; omega), HPM.out, List.map_append]; exact h3); clear h3 g3 hb3))
  go_loopw [3] (fun C W => ∃ m : Nat, n + 1 ≤ m ∧ m ≤ n + 1 + pn ∧ W.ownsRow w.heap.size 5 1 C m ((P.take m).map byteV) ∧ Below w.heap.size w W) (fun C _ => n + 1 + pn - lenOf C)
  case atStart => exact ⟨n + 1, Nat.le_refl _, by omega, H3.out, HB3.out⟩
  case round =>
    obtain ⟨m, hm1, hm2, ho, hb⟩ := hrel
    obtain ⟨g, cap, rfl⟩ := own_formB ho (by omega)
    have HO := Lib.hid ho
    have HB := Lib.hid hb
    obtain ⟨r, hr⟩ : ∃ r : Int, r = ((m % 64 : Nat) : Int) := ⟨_, rfl⟩
    have t0 : (m : Int).tmod 64 = r := by rw [hr, Int.tmod_eq_emod_of_nonneg (by omega)]; omega
    have t1 : (m : Int) % 64 = r := by rw [hr]; omega
    by_cases hm : m = n + 1 + pn
    · have d0 : (r != 56) = false := bne_eq_false_iff_eq.2 (by have := (HST.out m hm1 hm2).2 hm; omega)
      have hn8 : IntKind.u64.wrap (n : Int) = (n : Int) := by simp [IntKind.wrap, IntKind.bits, IntKind.signed]; omega
      have hn9 : IntKind.u64.wrap ((n : Int) * 8) = ((n * 8 : Nat) : Int) := by simp [IntKind.wrap, IntKind.bits, IntKind.signed]; omega
      obtain ⟨N, hNN⟩ : ∃ N, N = n * 8 := ⟨_, rfl⟩
      rw [← hNN] at hn9 HPE
      have hN64 : N < 18446744073709551616 := by omega
      have HM := Lib.hid hm
      clear hr hNN ho hb hm1 hm2 hm
      go_wp2_with fail
      go_loopw [3, 5] (fun C i W => ∃ r : Nat, r ≤ 8 ∧ i = .int .i64 ((r : Int) - 1) ∧ W.ownsRow w.heap.size 5 1 C (n + 1 + pn + 8 - r) ((P.take (n + 1 + pn + 8 - r)).map byteV) ∧ Below w.heap.size w W) (fun _ i _ => (intOf i + 1).toNat)
      case atStart => exact ⟨8, Nat.le_refl _, rfl, by rw [Nat.add_sub_cancel, ← HM.out]; exact HO.out, HB.out⟩
      case round =>
        obtain ⟨r, hr8, rfl, ho, hb⟩ := hrel
        have HO := Lib.hid ho
        have HB := Lib.hid hb
        cases r with
        | zero =>
          have HBY : Hid (Byts wr u3 P) := Lib.hid (Byts.own (base := w.heap.size) (n := P.length) (by rw [Nat.sub_zero, ← HPS.out, List.take_length] at ho; exact ho) HALL.out (by have := HPS.out; omega))
          have HFR := Lib.hid (own_fromB HO.out (Nat.le_refl _))
          clear ho hb
          go_wp2_with fail
          go_ret
          exact ⟨_, rfl, HBY.out, HFR.out, HB.out⟩
        | succ s =>
          have e0 : (((s + 1 : Nat) : Int) - 1) = (s : Int) := by omega
          rw [e0]
          clear e0
          obtain ⟨m, hm⟩ : ∃ m, m = n + 1 + pn + 8 - (s + 1) := ⟨_, rfl⟩
          rw [← hm] at ho
          obtain ⟨g2, cap2, rfl⟩ := own_formB ho (by omega)
          have hx : P.getD m 0 = N / 2 ^ (8 * s) % 256 := by
            have h1 := HPE.out (7 - s) (by omega)
            rw [show n + 1 + pn + (7 - s) = m by omega, show 7 - (7 - s) = s by omega] at h1
            exact h1
          obtain ⟨x, hxx⟩ : ∃ x, x = N / 2 ^ (8 * s) % 256 := ⟨_, rfl⟩
          have hx256 : x < 256 := by rw [hxx]; exact Nat.mod_lt _ (by decide)
          rw [← hxx] at hx
          have u1 : IntKind.u8.wrap ((N : Int) / 2 ^ (8 * s)) = (x : Int) := by rw [hxx]; exact u64_shr_byte N s
          have s7 : s ≤ 7 := by omega
          have HX := Lib.hid hx
          have HM2 := Lib.hid (show m + 1 = n + 1 + pn + 8 - s ∧ m < P.length by have := HPS.out; omega)
          have hn2 := below_new wr #[.int .u8 (x : Int)] 5
          have H2 := Lib.hid (own_keep ho hn2)
          have HB2 := Lib.hid (hb.trans (hn2.mono hb.size))
          have HY := Lib.hid (byte_lit wr x hx256 _ rfl)
          have HML := Lib.hid (show m ≤ 17592186044416 by omega)
          clear hxx hx hm ho hb hn2
          go_wp2_with (refine app_bytes rfl _ _ rfl w.heap.size m (.slice (some ⟨g2, 0, none⟩) m cap2) (.slice (some ⟨wr.heap.size, 0, none⟩) 1 1) ((P.take m).map byteV) rfl H2.out [x] rfl HY.out (Nat.succ_pos 0) (by show m + 1 ≤ _; have := HML.out; omega) HB2.out.size ?_; intro v3 w3 h3 g3; have hb3 := own_below H2.out g3 HB2.out.size; have HB3 := Lib.hid (HB2.out.trans hb3); have H3 := Lib.hid (show w3.ownsRow w.heap.size 5 1 v3 (m + 1) ((P.take (m + 1)).map byteV) by rw [HPN.out m HM2.out.2, HX.out, List.map_append]; exact h3); clear h3 g3 hb3)
          go_roundw
          case rel => exact ⟨s, by omega, by go_num, by rw [← HM2.out.1]; exact H3.out, HB3.out⟩
          case measure => first | (simp [intOf]; done) | (simp [intOf]; omega)
    · have d0 : (r != 56) = true := bne_iff_ne.2 (by intro h; apply hm; apply (HST.out m hm1 hm2).1; omega)
      have hn2 := below_new wr #[.int .u8 ((0 : Nat) : Int)] 5
      have H2 := Lib.hid (own_keep ho hn2)
      have HB2 := Lib.hid (hb.trans (hn2.mono hb.size))
      have HY := Lib.hid (byte_lit wr 0 (by omega) _ rfl)
      have HM := Lib.hid hm
      clear hr ho hb hn2 hm
      go_wp2_with (refine app_bytes rfl _ _ rfl w.heap.size m (.slice (some ⟨g, 0, none⟩) m cap) (.slice (some ⟨wr.heap.size, 0, none⟩) 1 1) ((P.take m).map byteV) rfl H2.out [0] rfl HY.out (by decide) (by show m + 1 ≤ _; omega) HB2.out.size ?_; intro v3 w3 h3 g3; have hb3 := own_below H2.out g3 HB2.out.size; have HB3 := Lib.hid (HB2.out.trans hb3); have H3 := Lib.hid (show w3.ownsRow w.heap.size 5 1 v3 (m + 1) ((P.take (m + 1)).map byteV) by rw [HPN.out m (by have := HPS.out; omega), HPZ.out m (by omega) (by have := HM.out; omega), List.map_append]; exact h3); clear h3 g3 hb3)
      go_roundw
      case rel => exact ⟨m + 1, by omega, by have := HM.out; omega, H3.out, HB3.out⟩
      case measure =>
        obtain ⟨g', cap', e⟩ := own_formB H3.out (by omega)
        rw [e]
        show n + 1 + pn - (m + 1) < n + 1 + pn - m
        have := HM.out; omega

end Go.Proofs.YteodnbaogfdjbaaDoor

namespace Go.Proofs.YteodnbaogfdjbaaDoor
open Go.RowKit

section
variable {P : Program} {d : Option Tmp} {t : TypeId} {p : String} {af : Array Edge} {g : Option (Nat × Bool)}
end

end Go.Proofs.YteodnbaogfdjbaaDoor

namespace Go.Proofs.YteodnbaogfdjbaaDoor
open Go.RowKit

section
variable {P : Program} {ops : Array Oper} {Q : Exit → Act → World → Prop} {md : Region.Mode} {S : World → Prop} {T : List Nat}

/-- Whatever order is picked from here on; S holds behind every operation that is carried out ahead of those of T. -/
def wpAnyL (P : Program) (md : Region.Mode) (ops : Array Oper) (Q : Exit → Act → World → Prop) (S : World → Prop) (T : List Nat) : Nat → Array Bool → Act → World → Prop
  | 0, listed, a, w => Region.ready md ops listed = [] ∧ Q .normal a w
  | fuel + 1, listed, a, w =>
    (Region.ready md ops listed = [] → Q .normal a w) ∧
    ∀ i ∈ Region.ready md ops listed, wpOp P ops Q i (fun a' w' => (i ∉ T → (∀ t ∈ T, listed.getD t true = false) → S w') ∧ wpAnyL P md ops Q S T fuel (listed.setIfInBounds i true) a' w') a w

/-- Does each of U wait for i, or for another one of U? -/
def waits (md : Region.Mode) (ops : Array Oper) (U : List Nat) (i : Nat) : Bool := U.all fun u => match ops[u]? with
  | some o => o.after.any fun e => Region.binds md e && (e.on == i || U.contains e.on)
  | none => false
/-- Each of the operations 'rs' comes up next. -/
def AllReadyL (P : Program) (md : Region.Mode) (ops : Array Oper) (Q : Exit → Act → World → Prop) (S : World → Prop) (T : List Nat) (fuel : Nat) (listed : Array Bool) (a : Act) (w : World) (rs : List Nat) : Prop :=
  ∀ i ∈ rs, wpOp P ops Q i (fun a' w' => (i ∉ T → (∀ t ∈ T, listed.getD t true = false) → S w') ∧ wpAnyL P md ops Q S T fuel (listed.setIfInBounds i true) a' w') a w
theorem AllReadyL.nil {fuel : Nat} {listed : Array Bool} {a : Act} {w : World} : AllReadyL P md ops Q S T fuel listed a w [] := fun _ h => by cases h
theorem AllReadyL.cons {fuel : Nat} {listed : Array Bool} {a : Act} {w : World} {i : Nat} {o : Oper} {rs : List Nat} (ho : ops[i]? = some o) (hT : T.contains i = false)
    (h : ∀ K' : Act → World → Prop, Shut (∀ a w, S w → wpAnyL P md ops Q S T fuel (listed.setIfInBounds i true) a w → K' a w) → if Region.wanted o (yielded ops a.tmps) = true then Oper.wp P o a w K' Q else K' (a.put o.dst undef) w)
    (hs : AllReadyL P md ops Q S T fuel listed a w rs) : AllReadyL P md ops Q S T fuel listed a w (i :: rs) := fun j hj => by
  rcases List.mem_cons.1 hj with rfl | hj
  · exact wpOp_step ho (fun K' hK => h K' (fun a w hS hW => hK a w ⟨fun _ _ => hS, hW⟩))
  · exact hs j hj
end

end Go.Proofs.YteodnbaogfdjbaaDoor

namespace Go.Proofs.YteodnbaogfdjbaaDoor
open Go.RowKit

section
variable {P : Program} {ops : Array Oper} {Q : Exit → Act → World → Prop}

def putIf (b : Bool) (o : Oper) (x : Value) (a : Act) : Act := if b = true then a.put o.dst x else a
/-- What the operations that are done have put, in the order of the text. -/
def canonL (done : Nat → Bool) (v : Nat → Value) : List Oper → Nat → Act → Act
  | [], _, a => a
  | o :: r, k, a => canonL done v r (k + 1) (putIf (done k) o (v k) a)
def canon (ops : Array Oper) (done : Nat → Bool) (v : Nat → Value) (a : Act) : Act := canonL done v ops.toList 0 a
def dstNe (x y : Option Tmp) : Bool := match x, y with
  | some s, some t => !(s == t)
  | _, _ => true
theorem put_comm {a : Act} {x y : Option Tmp} (h : dstNe x y = true) (u v : Value) : (a.put x u).put y v = (a.put y v).put x u := by
  cases x with
  | none => rfl
  | some s => cases y with
    | none => rfl
    | some t =>
      have hne : s ≠ t := by simpa [dstNe] using h
      show (⟨(a.tmps.setIfInBounds s u).setIfInBounds t v, a.defers⟩ : Act) = ⟨(a.tmps.setIfInBounds t v).setIfInBounds s u, a.defers⟩
      rw [Array.setIfInBounds_comm _ _ hne]
theorem canonL_put {done : Nat → Bool} {v : Nat → Value} : ∀ (l : List Oper) (k : Nat) (a : Act) (d : Option Tmp) (x : Value), (∀ o ∈ l, dstNe d o.dst = true) → canonL done v l k (a.put d x) = (canonL done v l k a).put d x
  | [], _, _, _, _, _ => rfl
  | o :: r, k, a, d, x, h => by
    have h1 := h o List.mem_cons_self
    have e : putIf (done k) o (v k) (a.put d x) = (putIf (done k) o (v k) a).put d x := by
      unfold putIf
      by_cases hb : done k = true
      · rw [if_pos hb, if_pos hb, put_comm h1]
      · rw [if_neg hb, if_neg hb]
    show canonL done v r (k + 1) (putIf (done k) o (v k) (a.put d x)) = _
    rw [e]
    exact canonL_put r (k + 1) _ d x (fun p hp => h p (List.mem_cons_of_mem _ hp))
theorem canonL_congr {done done' : Nat → Bool} {v v' : Nat → Value} : ∀ (l : List Oper) (k : Nat) (a : Act), (∀ j, k ≤ j → done j = done' j ∧ v j = v' j) → canonL done v l k a = canonL done' v' l k a
  | [], _, _, _ => rfl
  | o :: r, k, a, h => by
    show canonL done v r (k + 1) (putIf (done k) o (v k) a) = canonL done' v' r (k + 1) (putIf (done' k) o (v' k) a)
    rw [(h k (Nat.le_refl _)).1, (h k (Nat.le_refl _)).2]
    exact canonL_congr r (k + 1) _ (fun j hj => h j (by omega))
def setD (done : Nat → Bool) (i : Nat) : Nat → Bool := fun k => decide (k = i) || done k
def setV (v : Nat → Value) (i : Nat) (x : Value) : Nat → Value := fun k => if k = i then x else v k
def apartL : List Oper → Bool
  | [] => true
  | o :: r => r.all (fun p => dstNe o.dst p.dst) && apartL r
theorem canonL_step {done : Nat → Bool} {v : Nat → Value} {i : Nat} {x : Value} (hd : done i = false) : ∀ (l : List Oper) (k : Nat) (a : Act) (o : Oper), k ≤ i → l[i - k]? = some o → apartL l = true → canonL (setD done i) (setV v i x) l k a = (canonL done v l k a).put o.dst x
  | [], _, _, _, _, h, _ => by simp at h
  | p :: r, k, a, o, hk, h, hap => by
    have h1 : r.all (fun q => dstNe p.dst q.dst) = true ∧ apartL r = true := by
      have := hap
      unfold apartL at this
      rwa [Bool.and_eq_true] at this
    by_cases e : k = i
    · subst e
      rw [Nat.sub_self] at h
      simp only [List.getElem?_cons_zero, Option.some.injEq] at h
      subst h
      show canonL (setD done k) (setV v k x) r (k + 1) (putIf (setD done k k) p (setV v k x k) a) = (canonL done v r (k + 1) (putIf (done k) p (v k) a)).put p.dst x
      have e1 : setD done k k = true := by simp [setD]
      have e2 : setV v k x k = x := by simp [setV]
      rw [e1, e2, hd]
      show canonL (setD done k) (setV v k x) r (k + 1) (a.put p.dst x) = (canonL done v r (k + 1) a).put p.dst x
      rw [← canonL_put r (k + 1) a p.dst x (fun q hq => List.all_eq_true.1 h1.1 q hq)]
      exact canonL_congr r (k + 1) _ (fun j hj => ⟨by unfold setD; rw [decide_eq_false (by omega)]; rfl, by unfold setV; rw [if_neg (by omega)]⟩)
    · show canonL (setD done i) (setV v i x) r (k + 1) (putIf (setD done i k) p (setV v i x k) a) = (canonL done v r (k + 1) (putIf (done k) p (v k) a)).put o.dst x
      have e1 : setD done i k = done k := by unfold setD; rw [decide_eq_false e]; rfl
      have e2 : setV v i x k = v k := by unfold setV; rw [if_neg e]
      rw [e1, e2]
      refine canonL_step hd r (k + 1) _ o (by omega) ?_ h1.2
      rw [show i - k = (i - (k + 1)) + 1 by omega] at h
      simpa using h
theorem putIf_size (b : Bool) (o : Oper) (x : Value) (a : Act) : (putIf b o x a).tmps.size = a.tmps.size := by
  unfold putIf
  cases b with
  | false => rfl
  | true =>
    show (a.put o.dst x).tmps.size = _
    unfold Act.put
    cases o.dst <;> simp
theorem put_get_ne {a : Act} {d : Option Tmp} {x : Value} {s : Nat} (h : dstNe d (some s) = true) : (a.put d x).tmps.getD s undef = a.tmps.getD s undef := by
  cases d with
  | none => rfl
  | some t =>
    have hne : t ≠ s := by simpa [dstNe] using h
    show (a.tmps.setIfInBounds t x).getD s undef = _
    rw [Array.getD_eq_getD_getElem?, Array.getD_eq_getD_getElem?, Array.getElem?_setIfInBounds_ne hne]
theorem canonL_keep {done : Nat → Bool} {v : Nat → Value} {s : Nat} : ∀ (l : List Oper) (k : Nat) (a : Act), (∀ o ∈ l, dstNe o.dst (some s) = true) → (canonL done v l k a).tmps.getD s undef = a.tmps.getD s undef
  | [], _, _, _ => rfl
  | o :: r, k, a, h => by
    show (canonL done v r (k + 1) (putIf (done k) o (v k) a)).tmps.getD s undef = _
    rw [canonL_keep r (k + 1) _ (fun p hp => h p (List.mem_cons_of_mem _ hp))]
    unfold putIf
    by_cases hb : done k = true
    · rw [if_pos hb, put_get_ne (h o List.mem_cons_self)]
    · rw [if_neg hb]
theorem dstNe_symm {x y : Option Tmp} (h : dstNe x y = true) : dstNe y x = true := by
  cases x <;> cases y <;> simp_all [dstNe]
  exact fun e => h e.symm
theorem canonL_get {done : Nat → Bool} {v : Nat → Value} {s i : Nat} (hd : done i = true) : ∀ (l : List Oper) (k : Nat) (a : Act) (o : Oper), k ≤ i → l[i - k]? = some o → o.dst = some s → apartL l = true → s < a.tmps.size → (canonL done v l k a).tmps.getD s undef = v i
  | [], _, _, _, _, h, _, _, _ => by simp at h
  | p :: r, k, a, o, hk, h, ho, hap, hs => by
    have h1 : r.all (fun q => dstNe p.dst q.dst) = true ∧ apartL r = true := by
      have := hap
      unfold apartL at this
      rwa [Bool.and_eq_true] at this
    show (canonL done v r (k + 1) (putIf (done k) p (v k) a)).tmps.getD s undef = _
    by_cases e : k = i
    · subst e
      rw [Nat.sub_self] at h
      simp only [List.getElem?_cons_zero, Option.some.injEq] at h
      subst h
      rw [canonL_keep r (k + 1) _ (fun q hq => by
        have := List.all_eq_true.1 h1.1 q hq
        rw [ho] at this
        exact dstNe_symm this), hd]
      unfold putIf
      rw [if_pos rfl, ho]
      show (a.tmps.setIfInBounds s (v k)).getD s undef = _
      simp [Array.getD, hs]
    · refine canonL_get hd r (k + 1) _ o (by omega) ?_ ho h1.2 (by rw [putIf_size]; exact hs)
      rw [show i - k = (i - (k + 1)) + 1 by omega] at h
      simpa using h
/-- The value of a slot: what the operation that is done has put. -/
theorem canon_eval {done : Nat → Bool} {v : Nat → Value} {a : Act} {i s : Nat} {o : Oper} (hi : ops[i]? = some o) (ho : o.dst = some s) (hap : apartL ops.toList = true) (hs : s < a.tmps.size) (hd : done i = true) : (canon ops done v a).eval (.tmp s) = v i :=
  canonL_get hd ops.toList 0 a o (Nat.zero_le _) (by rw [Nat.sub_zero, Array.getElem?_toList]; exact hi) ho hap hs
/-- The value of a slot that no operation of the region puts. -/
theorem canon_eval0 {done : Nat → Bool} {v : Nat → Value} {a : Act} {s : Nat} (h : (ops.toList.all fun o => dstNe o.dst (some s)) = true) : (canon ops done v a).eval (.tmp s) = a.eval (.tmp s) :=
  canonL_keep ops.toList 0 a (fun o ho => List.all_eq_true.1 h o ho)
theorem countP_less {p q : Nat → Bool} : ∀ {l : List Nat} {i : Nat}, (∀ k, q k = true → p k = true) → i ∈ l → p i = true → q i = false → l.countP q < l.countP p
  | [], _, _, hi, _, _ => by cases hi
  | a :: t, i, h, hi, hp, hq => by
    have hm : t.countP q ≤ t.countP p := List.countP_mono_left fun x _ hx => h x hx
    rw [List.countP_cons, List.countP_cons]
    rcases List.mem_cons.1 hi with rfl | hi
    · rw [hp, hq]; simp; omega
    · have := countP_less h hi hp hq
      by_cases e : q a = true
      · rw [e, h a e]; simp; omega
      · rw [Bool.not_eq_true] at e
        rw [e]; simp; omega
/-- Each operation waits for earlier ones alone. -/
def backs (ops : Array Oper) : Bool := (List.range ops.size).all fun i => match ops[i]? with
  | some o => o.after.all fun e => !Region.binds .any e || decide (e.on < i)
  | none => true
theorem backs_at (h : backs ops = true) {i : Nat} {o : Oper} (ho : ops[i]? = some o) : ∀ e ∈ o.after, Region.binds .any e = true → e.on < i := fun e he hb => by
  have hi : i < ops.size := (Array.getElem?_eq_some_iff.1 ho).1
  have h1 := List.all_eq_true.1 h i (List.mem_range.2 hi)
  rw [ho] at h1
  obtain ⟨k, hk, rfl⟩ := Array.mem_iff_getElem.1 he
  have h2 := Array.all_eq_true.1 h1 k hk
  rw [hb] at h2
  simpa using h2
theorem flow_all (hbk : backs ops = true) {listed : Array Bool} (hsz : listed.size = ops.size) (hr : Region.ready .any ops listed = []) : ∀ i, i < ops.size → listed.getD i false = true := by
  intro i
  induction i using Nat.strongRecOn with
  | ind i ih =>
    intro hi
    cases e : listed.getD i false with
    | true => rfl
    | false =>
      have ho : ops[i]? = some ops[i] := Array.getElem?_eq_getElem hi
      have : i ∈ Region.ready .any ops listed := mem_ready.2 ⟨by
        have hl : i < listed.size := by omega
        simp [Array.getD, hl] at e ⊢
        exact e, _, ho, fun e' he hb => ih _ (backs_at hbk ho e' he hb) (by have := backs_at hbk ho e' he hb; omega)⟩
      rw [hr] at this
      cases this

end


def depL (o : Oper) : List Nat := (o.after.toList.filter fun e => Region.binds .any e).map (·.on)
section
variable (P : Program) (ops : Array Oper) (Q : Exit → Act → World → Prop) (A0 : Act) (I : (Nat → Bool) → (Nat → Value) → World → Prop)
end
section
variable {P : Program} {ops : Array Oper} {Q : Exit → Act → World → Prop}
def putL (v : Nat → Value) : List Oper → Nat → Act → Act
  | [], _, a => a
  | o :: r, k, a => putL v r (k + 1) (a.put o.dst (v k))
theorem putL_canon {done : Nat → Bool} (v : Nat → Value) : ∀ (l : List Oper) (k : Nat) (a : Act), (∀ j, j < l.length → done (k + j) = true) → canonL done v l k a = putL v l k a
  | [], _, _, _ => rfl
  | o :: r, k, a, h => by
    have h0 : done k = true := h 0 (by simp)
    show canonL done v r (k + 1) (putIf (done k) o (v k) a) = putL v r (k + 1) (a.put o.dst (v k))
    unfold putIf
    rw [if_pos h0]
    exact putL_canon v r (k + 1) _ (fun j hj => by
      have := h (j + 1) (by simp; omega)
      rw [show k + 1 + j = k + (j + 1) by omega]
      exact this)
theorem flow_not {done : Nat → Bool} {j k : Nat} (h : done j = true → done k = true) (hk : done k = false) : done j = false := by
  cases e : done j with
  | false => rfl
  | true => rw [h e] at hk; cases hk
end

end Go.Proofs.YteodnbaogfdjbaaDoor
