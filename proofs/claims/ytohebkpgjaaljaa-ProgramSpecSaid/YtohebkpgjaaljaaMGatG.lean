/- program.Make's rows: treat at a gate. program.Make's rows: treat at any formula. program.Make: the rows, padded to one length. program.Make at any formula. -/
import Derived.Test.YtohebkpgjaaljaaMGatE
import Derived.Laws.ResultCell
namespace Go.Proofs.Ytohebkpgjaaljaa
open Go.RowKit

attribute [local go_sem] Oper.semAt_some

abbrev trFrame (gb PB CB TB c N k : Nat) (bs L : Value) (u : Nat → Value) : Array Value := #[u 0, u 1, .pointer (some ⟨PB, 0, none⟩), .pointer (some ⟨CB, 0, none⟩), .pointer (some ⟨TB, 0, none⟩), .pointer (some ⟨gb, 0, none⟩), u 6, u 7, .int .i64 c, bs, u 10, u 11, u 12, u 13, u 14, u 15, u 16, u 17, u 18, u 19, u 20, u 21, u 22, u 23, u 24, u 25, u 26, u 27, u 28, u 29, u 30, u 31, u 32, u 33, u 34, u 35, u 36, u 37, u 38, u 39, u 40, u 41, u 42, u 43, u 44, u 45, u 46, u 47, u 48, L, .int .i64 N, .int .i64 k, u 52, u 53, u 54, u 55, u 56, u 57, u 58, u 59, u 60, u 61, u 62, u 63, u 64, u 65, u 66, u 67, u 68, u 69, u 70, u 71, u 72, u 73, u 74, u 75, u 76, u 77, u 78, u 79, u 80, u 81]

/-- What holds at the head of treat's loop: W0 is the world at its start. -/
structure TrI (w W0 : World) (PB CB TB C : Nat) (R : List (List Int × Int)) (p n : Int) (l : List GT) (b : List Int) (m c2 : Nat) (L bs : Value) (gb k : Nat) (ds : List Deferred) (W : World) : Prop where
  inv : MkI w PB CB TB C (R ++ (genL (l.take k) 0 b m c2).1) (genL (l.take k) 0 b m c2).2 W
  st : StepM PB CB W0 W
  bs : SafeF PB CB W bs b
  gh : W.heap[gb]? = some (.cells #[.int .i64 p, .int .i64 n, L] 28 (0, 0))
  gn : ¬ Bad PB CB W gb
  fit : R.length + (genL (l.take k) 0 b m c2).1.length ≤ 64 ∧ (genL (l.take k) 0 b m c2).2 ≤ 64
  mark : Marks gb W ds
def TrA (w W0 : World) (PB CB TB C : Nat) (R : List (List Int × Int)) (p n : Int) (l : List GT) (b : List Int) (m c2 : Nat) (L bf bs : Value) (gb c : Nat) (a : Act) (W : World) : Prop :=
  ∃ (k : Nat) (ds : List Deferred) (u : Nat → Value), k ≤ l.length ∧ a = { tmps := trFrame gb PB CB TB c l.length k bf L u, defers := ds } ∧ TrI w W0 PB CB TB C R p n l b m c2 L bs gb k ds W
theorem trA_mk {w W0 : World} {PB CB TB C : Nat} {R : List (List Int × Int)} {p n : Int} {l : List GT} {b : List Int} {m c2 : Nat} {L bf bs : Value} {gb c k : Nat} {W : World} {t : Array Value} {ds : List Deferred} (hk : k ≤ l.length) (ht : t = trFrame gb PB CB TB c l.length k bf L (fun i => t.getD i undef)) (h : TrI w W0 PB CB TB C R p n l b m c2 L bs gb k ds W) : TrA w W0 PB CB TB C R p n l b m c2 L bf bs gb c { tmps := t, defers := ds } W :=
  ⟨k, ds, _, hk, by rw [← ht], h⟩

def TreatIH (w : World) (PB CB TB C : Nat) (v : Value) (g : GT) : Prop := ∀ (R : List (List Int × Int)) (zs : List Int) (vz : Value) (c : Nat) (W : World), R.length ≤ 64 → c ≤ 64 → zs.length ≤ c → MkI w PB CB TB C R c W → SafeF PB CB W vz zs →
  Calls Try.prog 47 #[v, vz, .pointer (some ⟨PB, 0, none⟩), .pointer (some ⟨CB, 0, none⟩), .pointer (some ⟨TB, 0, none⟩)] W (TreatPost w PB CB TB C R g zs c W)

theorem powL_r64 (x m : Nat) : ∀ z ∈ powL x m, R64 z := by
  intro z hz
  obtain ⟨j, -, rfl⟩ := List.mem_map.1 hz
  exact mod_r64 _
/-- All powers appended: what there is, cut to its length, is full. -/
theorem pw_done {W5 Y : World} {VB : Nat} {Ls : Value} {zs : List Int} {x m PB CB : Nat} (hs : SafeF PB CB W5 Ls zs) (hls : ∀ b off n c, Ls = .slice (some ⟨b, off, none⟩) n c → b ≠ VB) (hP : PwI W5 VB Ls zs x m Y) (hbad : ∀ b, Bad PB CB Y b → b < W5.heap.size ∧ Bad PB CB W5 b) :
    ∃ b off cap, (zs ++ powL x m).length ≤ cap ∧ Y.heap[VB]? = some (.cells #[.slice (some ⟨b, off, none⟩) (zs ++ powL x m).length cap] 23 (0, 0)) ∧ SafeF PB CB Y (.slice (some ⟨b, off, none⟩) (zs ++ powL x m).length (zs ++ powL x m).length) (zs ++ powL x m) := by
  have hl : (zs ++ powL x m).length = zs.length + m := by rw [List.length_append, powL_len]
  obtain ⟨⟨b, off, rfl, f1, f2, f3⟩, b', off', n', c', e, hb, hn⟩ := hs
  simp only [Value.slice.injEq, Option.some.injEq, Addr.mk.injEq] at e
  obtain ⟨⟨rfl, rfl, -⟩, -, -⟩ := e
  obtain ⟨h1, h2, h3, h4, h5, L, h6, h7⟩ := hP
  rcases h7 with ⟨rfl, rfl⟩ | ⟨hj, ho⟩
  · have e : zs ++ powL x 0 = zs := by simp [powL]
    rw [e]
    exact ⟨b, off, zs.length, Nat.le_refl _, h6, ⟨b, off, rfl, f1, f2, fun k hk => (World.cell?_of_block (a := ⟨b, off + k, none⟩) (h5 b hb (hls _ _ _ _ rfl))).trans (f3 k hk)⟩, _, _, _, _, rfl, Nat.lt_of_lt_of_le hb h4, fun h => hn (hbad b h).2⟩
  · rcases ho.2 with ⟨-, h0⟩ | ⟨g, cap, cur, rfl, hbg, hg, hnc, -, hcs, hcur⟩
    · omega
    · rw [hl]
      refine ⟨g, 0, cap, hnc, h6, ⟨g, 0, by rw [hl], fun e => f1 (List.append_eq_nil_iff.1 e).1, ?_, ?_⟩, _, _, _, _, rfl, (Array.getElem?_eq_some_iff.1 hg).1, fun h => by have := (hbad g h).1; omega⟩
      · intro z hz
        rcases List.mem_append.1 hz with h | h
        · exact f2 z h
        · exact powL_r64 x m z h
      · intro k hk2
        have e : cur.toList[k]? = some (.int .i64 (zs ++ powL x m)[k]) := by
          have e2 : (cur.toList.take ((zs.length + m) * 1))[k]? = some (.int .i64 (zs ++ powL x m)[k]) := by rw [hcur, List.getElem?_map, List.getElem?_eq_getElem hk2]; rfl
          rwa [List.getElem?_take, if_pos (by omega)] at e2
        rw [Nat.zero_add]
        exact row_cell hg (by rw [← Array.getElem?_toList]; exact e)

set_option maxRecDepth 100000 in
set_option maxHeartbeats 16000000 in
theorem treat_gate (w : World) (PB CB TB C : Nat) (ho : Ord w PB CB TB C) (p n : Int) (l : List GT) (a : Option Addr) (cap : Nat) (sub : Nat → Value) (h0 : ¬ 0 ≤ p) (hn1 : 1 ≤ n) (hn2 : n ≤ 4096) (_hc2 : l.length ≤ cap) (hl : l.length ≤ 17592186044416)
    (hk : ∀ k, k < l.length → ∃ b off x y za zn zc, a = some ⟨b, off, none⟩ ∧ sub k = .agg #[.int .i64 x, .int .i64 y, .slice za zn zc] ∧ w.cell? ⟨b, off + k * 3, none⟩ = some (.int .i64 x) ∧ w.cell? ⟨b, off + k * 3 + 1, none⟩ = some (.int .i64 y) ∧ w.cell? ⟨b, off + k * 3 + 2, none⟩ = some (.slice za zn zc))
    (ih : ∀ k (h : k < l.length), TreatIH w PB CB TB C (sub k) l[k]) (R : List (List Int × Int)) (zs : List Int) (v : Value) (c : Nat) (W : World) (hR : R.length ≤ 64) (hc : c ≤ 64) (hz : zs.length ≤ c) (hI : MkI w PB CB TB C R c W) (hv : SafeF PB CB W v zs) :
    Calls Try.prog 47 #[.agg #[.int .i64 p, .int .i64 n, .slice a l.length cap], v, .pointer (some ⟨PB, 0, none⟩), .pointer (some ⟨CB, 0, none⟩), .pointer (some ⟨TB, 0, none⟩)] W (TreatPost w PB CB TB C R (.mk p n l) zs c W) := by
  obtain ⟨m, hm⟩ : ∃ m : Nat, n = (m : Int) + 1 := ⟨(n - 1).toNat, by omega⟩
  have hmm : (n - 1).toNat = m := by omega
  have HG : Hid (genR (.mk p n l) zs c = genL l 0 (zs ++ List.replicate (c - zs.length) 0) m (c + m)) := Lib.hid (by unfold genR; rw [if_neg h0, hmm])
  have hd0 : decide (p ≥ 0) = false := decide_eq_false h0
  have HM4 : Hid (m ≤ 4096) := Lib.hid (by omega)
  have hr9 : wrap64 (n - 1) = (m : Int) := by unfold wrap64; omega
  obtain ⟨d, hd⟩ : ∃ d, d = c + m := ⟨_, rfl⟩
  have hr8 : wrap64 ((c : Int) + (m : Int)) = (d : Int) := by unfold wrap64; omega
  have HK := Lib.hid hk
  have HIH := Lib.hid ih
  have HLE := Lib.hid hl
  have HB := Lib.hid (And.intro hn1 hn2)
  have HMN := Lib.hid hm
  have HD := Lib.hid hd
  clear hk ih hn1 hn2 hm hmm hd
  have hb := below_new W #[.int .i64 p, .int .i64 n, .slice a l.length cap] 28
  have hr := World.alloc_heap_new W (.cells #[.int .i64 p, .int .i64 n, .slice a l.length cap] 28)
  obtain ⟨W1, hW1⟩ : ∃ W1, W1 = W.alloc (.cells #[.int .i64 p, .int .i64 n, .slice a l.length cap] 28) := ⟨_, rfl⟩
  rw [← hW1] at hb hr
  have HW1 := Lib.hid hW1
  have hst := StepM.of_below (CB := CB) hb hI.lt
  have HST := Lib.hid hst
  have HWS := Lib.hid hI.be.size
  have HI := Lib.hid (hI.later hb)
  have HV := Lib.hid (hv.step hst)
  have HOR := Lib.hid ho
  have HGB := Lib.hid hr
  have HGN0 : ¬ Bad PB CB W1 W.heap.size := fun hbad => by
    obtain ⟨L1, L2, xs, q5, qT, -⟩ := hI.pb
    have hlt := hI.lt
    have hcl := (Array.getElem?_eq_some_iff.1 hI.cb).1
    rcases hbad with e | e | ⟨M1, M2, h, e⟩
    · omega
    · omega
    · rw [hb.block PB hlt, q5] at h
      simp only [Option.some.injEq, Obj.cells.injEq, Array.mk.injEq, List.cons.injEq, and_true] at h
      obtain ⟨rfl, rfl⟩ := h
      rcases e with e | e
      · have := (own_lt qT.a _ e).2; omega
      · have := (own_lt qT.b _ e).2; omega
  obtain ⟨hcI, hcS⟩ := HI.out.cols (c' := (d : Int)) ho
  have hgc : W.heap.size ≠ CB := fun e => by
    have := (Array.getElem?_eq_some_iff.1 hI.cb).1
    omega
  have HV3 := Lib.hid (HV.out.step hcS)
  obtain ⟨W3, hW3⟩ : ∃ W3, W3 = W1.setCell ⟨CB, 0, none⟩ (.int .i64 (d : Int)) := ⟨_, rfl⟩
  have hg3 : W3.heap[W.heap.size]? = some (.cells #[.int .i64 p, .int .i64 n, .slice a l.length cap] 28 (0, 0)) := by
    rw [hW3, Below.heap_setCell _ _ _ _ hgc]; exact hr
  have y2 : W3.cell? ⟨W.heap.size, 2, none⟩ = some (.slice a l.length cap) := row_cell hg3 rfl
  rw [← hW3] at hcI hcS HV3
  have HW3 := Lib.hid hW3
  have HI3 := Lib.hid hcI
  have HS3 := Lib.hid hcS
  have HGN3 : Hid (¬ Bad PB CB W3 W.heap.size) := Lib.hid (fun h => HGN0 (hcS.bad _ (Array.getElem?_eq_some_iff.1 hr).1 h))
  have HG3 := Lib.hid hg3
  have HCB3 : Hid (CB < W3.heap.size) := Lib.hid (Array.getElem?_eq_some_iff.1 hcI.cb).1
  have y3 : W3.cell? ⟨CB, 0, none⟩ = some (.int .i64 (d : Int)) := row_cell hcI.cb rfl
  clear hW3 hcI hcS hg3 hgc HGN0
  have xg0 : W1.cell? ⟨W.heap.size, 0, none⟩ = some (.int .i64 p) := row_cell hr rfl
  have xg1 : W1.cell? ⟨W.heap.size, 1, none⟩ = some (.int .i64 n) := row_cell hr rfl
  have xg2 : W1.cell? ⟨W.heap.size, 2, none⟩ = some (.slice a l.length cap) := row_cell hr rfl
  have xc : W1.cell? ⟨CB, 0, none⟩ = some (.int .i64 c) := row_cell HI.out.cb rfl
  have fc := row_free HI.out.cb 0
  obtain ⟨vb, vo, ve, -⟩ := hv.1
  subst ve
  clear hb hr hst hI hv ho h0 hW1
  refine calls_of_range Try.func47 rfl ?_
  simp only [Try.ntmps47, List.size_toArray, List.length_cons, List.length_nil, Nat.reduceAdd, Nat.reduceSub, Array.replicate_succ, Array.replicate_zero, List.push_toArray, List.append_toArray, List.nil_append, List.cons_append]
  by_cases h64 : 64 < d
  · have hdc : decide (64 < (d : Int)) = true := decide_eq_true (by omega)
    go_wp2_with (first | rw [← HW1.out] | rw [← HW3.out])
    refine leaves_marks (B := W.heap.size) (v := .bool false) (fun w => results_tmp (t := 7) rfl _ _ _) ?_ [] _ trivial (.inr ⟨rfl, ?_, ⟨_, _, HI3.out⟩, HST.out.trans HS3.out⟩)
    · exact treat_sim HWS.out
    · unfold FitsM
      rw [HG.out]
      intro h
      have := genL_cols l 0 (zs ++ List.replicate (c - zs.length) 0) m (c + m)
      rw [← HD.out] at this h
      omega
  · have hdc : decide (64 < (d : Int)) = false := decide_eq_false (by omega)
    obtain ⟨bb, off, bcap, W4, hrun, hb4, hbc, hs4⟩ := base_any w PB CB TB C R _ W3 _ zs c HI3.out HV3.out hz hc HCB3.out
    rw [show ((c - zs.length : Nat) : Int) = (c : Int) - (zs.length : Int) by omega] at hrun
    have HR := Lib.hid hrun
    have HB4 := Lib.hid hb4
    have HS4 := Lib.hid hs4
    have z2 := below_cell hb4 y2
    clear hrun hb4 hs4
    go_wp2_with (first | rw [← HW1.out] | (at_builtin; (try rw [← HW3.out]); refine Lib.wpList_append_run _ rfl _ _ _ _ rfl _ _ rfl rfl _ _ HR.out ?_))
    have HGL : Hid (W.heap.size < W3.heap.size) := Lib.hid (Array.getElem?_eq_some_iff.1 HG3.out).1
    refine wp_loop (TrA w W4 PB CB TB C R p n l (zs ++ List.replicate (c - zs.length) 0) m d (.slice a l.length cap) (.slice (some ⟨bb, off, none⟩) c bcap) (.slice (some ⟨bb, off, none⟩) c c) W.heap.size c) (fun a _ => l.length - (intOf (a.tmps.getD 51 undef)).toNat) ?start ?round
    case start =>
      refine trA_mk (Nat.zero_le _) rfl ⟨?_, StepM.refl _ _ _, HS4.out, (HB4.out.block _ HGL.out).trans HG3.out, fun h => HGN3.out ((StepM.of_below HB4.out HI3.out.lt).bad _ HGL.out h), ?_, trivial⟩
      · rw [List.take_zero]; unfold genL; rw [List.append_nil]; exact HI3.out.later HB4.out
      · rw [List.take_zero]; unfold genL; exact ⟨hR, by omega⟩
    case round =>
      intro act X hA
      obtain ⟨k, ds, u, hkl, rfl, hT⟩ := hA
      have HT := Lib.hid hT
      clear hT
      by_cases hlt : k < l.length
      case neg =>
        obtain rfl : k = l.length := by omega
        have hF : FitsM R (.mk p n l) zs c := by
          unfold FitsM; rw [HG.out]; have := HT.out.fit; rw [List.take_length, HD.out] at this; exact this
        have hM := HT.out.inv
        have hS := HST.out.trans (HS3.out.trans ((StepM.of_below HB4.out HI3.out.lt).trans HT.out.st))
        rw [List.take_length, HD.out, ← HG.out] at hM
        have HF := Lib.hid hF
        have HM := Lib.hid hM
        have HS := Lib.hid hS
        clear hF hM hS
        go_wp2_with fail
        exact leaves_marks (B := W.heap.size) (v := .bool true) (fun w => results_tmp (t := 7) rfl _ _ _) (treat_sim HWS.out) ds _ HT.out.mark (.inl ⟨rfl, HF.out, HM.out, HS.out⟩)
      obtain ⟨b, of, x, y, za, zn, zc, rfl, hs, r1, r2, r3⟩ := HK.out k hlt
      have e1 := below_cell HT.out.inv.be r1
      have e2 := below_cell HT.out.inv.be r2
      have e3 := below_cell HT.out.inv.be r3
      have HSU := Lib.hid hs
      have HFT := Lib.hid HT.out.fit
      have i0 : 0 ≤ (k : Int) := by omega
      have i1 : (k : Int) < (l.length : Int) := by omega
      have g1 : X.cell? ⟨W.heap.size, 1, none⟩ = some (.int .i64 n) := row_cell HT.out.gh rfl
      obtain ⟨X2, hX2⟩ : ∃ X2, X2 = (X.alloc (.cells #[.int .i64 x, .int .i64 y, .slice za zn zc] 28)).alloc (.cells #[.slice (some ⟨bb, off, none⟩) c c] 23) := ⟨_, rfl⟩
      have hb2 : Below X.heap.size X X2 := hX2 ▸ (below_new X _ _).alloc (by simp) _
      have q1 : X2.heap[X.heap.size]? = some (.cells #[.int .i64 x, .int .i64 y, .slice za zn zc] 28 (0, 0)) := by
        rw [hX2]; exact ((below_new (X.alloc _) _ _).block _ (by simp)).trans (World.alloc_heap_new _ _)
      have q2 : X2.heap[X.heap.size + 1]? = some (.cells #[.slice (some ⟨bb, off, none⟩) c c] 23 (0, 0)) := by
        have := World.alloc_heap_new (X.alloc (.cells #[.int .i64 x, .int .i64 y, .slice za zn zc] 28)) (.cells #[.slice (some ⟨bb, off, none⟩) c c] 23)
        rw [World.size_alloc] at this
        rw [hX2]; exact this
      have qs : X2.heap.size = X.heap.size + 2 := by rw [hX2]; simp
      have g2 := below_cell hb2 g1
      have HX2 := Lib.hid hX2
      have HB2 := Lib.hid hb2
      have Q1 := Lib.hid q1
      have Q2 := Lib.hid q2
      have QS := Lib.hid qs
      clear hs r1 r2 r3 hX2 hb2 q1 q2 qs
      go_wp2_with (rw [← HX2.out])
      refine (powers_any _ _ _).mono ?_
      rintro e w1 ⟨rfl, rfl⟩
      obtain ⟨W5, hW5⟩ : ∃ W5, W5 = (X2.alloc (.cells #[.int .i64 ((k : Int) + 1)] 3)).alloc (.cells #[.int .i64 (m : Int)] 3) := ⟨_, rfl⟩
      have HB5 : Hid (Below X2.heap.size X2 W5) := Lib.hid (hW5 ▸ (below_new X2 _ _).alloc (by simp) _)
      have S5 : Hid (W5.heap.size = X2.heap.size + 2) := Lib.hid (by rw [hW5]; simp)
      have Q3 : Hid (W5.heap[X2.heap.size]? = some (.cells #[.int .i64 ((k : Int) + 1)] 3 (0, 0))) := Lib.hid (by
        rw [hW5]; exact ((below_new (X2.alloc _) _ _).block _ (by simp)).trans (World.alloc_heap_new _ _))
      have Q4 : Hid (W5.heap[X2.heap.size + 1]? = some (.cells #[.int .i64 (m : Int)] 3 (0, 0))) := Lib.hid (by
        have := World.alloc_heap_new (X2.alloc (.cells #[.int .i64 ((k : Int) + 1)] 3)) (.cells #[.int .i64 (m : Int)] 3)
        rw [World.size_alloc] at this
        rw [hW5]; exact this)
      have HW5 := Lib.hid hW5
      clear hW5
      go_wp2_with (rw [← HW5.out])
      try rw [← HW5.out]
      have HKC : Hid (((k + 1 : Nat) : Int) = (k : Int) + 1) := Lib.hid (by omega)
      have HX2S : Hid (X.heap.size + 1 < W5.heap.size) := Lib.hid (by rw [S5.out, QS.out]; omega)
      have HBX5 : Hid (Below X.heap.size X W5) := Lib.hid (HB2.out.trans (HB5.out.mono HB2.out.size))
      have HF5 := Lib.hid (HT.out.bs.step (StepM.of_below (CB := CB) HBX5.out HT.out.inv.lt))
      have h00 : PwI W5 (X.heap.size + 1) (.slice (some ⟨bb, off, none⟩) c c) (zs ++ List.replicate (c - zs.length) 0) (k + 1) 0 W5 :=
        ⟨rfl, rfl, rfl, Nat.le_refl _, fun _ _ _ => rfl, _, (HB5.out.block _ (by rw [QS.out]; omega)).trans Q2.out, .inl ⟨rfl, rfl⟩⟩
      refine wp_range42 (gf := 89) (lb := #[.pointer (some ⟨X2.heap.size + 1, 0, none⟩), .pointer (some ⟨X2.heap.size, 0, none⟩)]) (N := m) (encs := fun j => #[.int .i64 (pwN ((k : Int) + 1) (j + 1))]) rfl powers1_goes (fun _ => rfl)
        (fun j => PwI W5 (X.heap.size + 1) (.slice (some ⟨bb, off, none⟩) c c) (zs ++ List.replicate (c - zs.length) 0) (k + 1) j) (fun _ _ _ => False) ?seq ?simI (fun _ _ _ _ h _ => h) h00
        (fun j t => ((t.setIfInBounds 66 (.int .i64 (pwN ((k : Int) + 1) (j + 1)))).setIfInBounds 13 (.int .i64 (pwN ((k : Int) + 1) (j + 1))))) ?assign ?body ?done (fun _ _ _ _ _ _ h => h.elim)
      case seq =>
        refine powers1_iterates _ _ _ _ (R64.mk (by have := HLE.out; omega) (by have := HLE.out; omega)) (by have := HM4.out; omega) _ fun j Y hY => ⟨?_, ?_⟩
        · exact row_cell ((hY.same _ (by rw [S5.out]; omega) (by rw [QS.out]; omega)).trans Q4.out) rfl
        · exact row_cell ((hY.same _ (by rw [S5.out]; omega) (by rw [QS.out]; omega)).trans Q3.out) rfl
      case simI => exact fun j Y Y' h hs => pwI_sim h hs
      case assign =>
        intro ll j Y K hK
        gi_wp2
        exact hK
      case body =>
        intro ll j Y hP hjm
        obtain ⟨L, rL, -⟩ := hP.row
        simp only [List.setIfInBounds_toArray, List.set_cons_succ, List.set_cons_zero]
        have x0 : Y.cell? ⟨X.heap.size + 1, 0, none⟩ = some L := row_cell rL rfl
        obtain ⟨z, hz⟩ : ∃ z, z = pwN ((k : Int) + 1) (j + 1) := ⟨_, rfl⟩
        have hzp : z = ((k + 1 : Nat) : Int) ^ (j + 1) % 1073741789 := by rw [hz, ← HKC.out, pwN_pow]
        rw [← hz]
        have hY1 := below_new Y #[.int .i64 z] 3
        have hc1 : (Y.alloc (.cells #[.int .i64 z] 3)).cell? ⟨Y.heap.size, 0, none⟩ = some (.int .i64 z) := row_cell (World.alloc_heap_new _ _) rfl
        have hlen : (zs ++ List.replicate (c - zs.length) 0).length = c := by simp; omega
        have hdm := HD.out
        obtain ⟨a6, k6, c6, Y6, hrun, hz6, hk6, hr6, hp6⟩ := pw_append HF5.out.1 HX2S.out (fun b' off' n' c' e => by
          obtain ⟨-, b2, o2, n2, c2, e2, hb2, -⟩ := HT.out.bs
          rw [e] at e2
          simp only [Value.slice.injEq, Option.some.injEq, Addr.mk.injEq] at e2
          obtain ⟨⟨rfl, -, -⟩, -, -⟩ := e2
          exact ⟨by have := HX2S.out; omega, by omega⟩) hP rL (by rw [hlen]; omega) z hzp Y.heap.size 1 _ hY1 hc1
        have y0 : Y6.frozen? ⟨X.heap.size + 1, 0, none⟩ = false := row_free hr6 0
        have y1 : Y6.cell? ⟨X.heap.size + 1, 0, none⟩ = some L := row_cell hr6 rfl
        have HR6 := Lib.hid hrun
        have HP6 := Lib.hid hp6
        have HK6 := Lib.hid hk6
        clear hrun hp6 hk6 hz6 hr6 hzp hz hlen hdm hc1 hY1
        gi_wp2_with (gi_at_builtin; refine wpListIn_append_run _ rfl _ _ _ _ rfl _ _ rfl rfl _ _ HR6.out ?_)
        exact ⟨((KeepsOthers.alloc _ _).trans HK6.out).trans (KeepsOthers.setCell _ _ _), HP6.out⟩
      case done =>
        intro D Y hD hI hDW hO
        have hby : Below X.heap.size X Y := HBX5.out.trans ⟨hI.os, hI.tape, hI.output, hI.size, fun i hi => hI.same i (Nat.lt_of_lt_of_le hi HBX5.out.size) (by omega)⟩
        have hlt2 := HT.out.inv.lt
        have hPY : Y.heap[PB]? = X.heap[PB]? := hby.block PB hlt2
        have hPY5 : Y.heap[PB]? = W5.heap[PB]? := hPY.trans (HBX5.out.block PB hlt2).symm
        obtain ⟨vb2, vo2, vcap, hvc, hrow, hsaf⟩ := pw_done HF5.out (fun b' off' n' c' e => by
          obtain ⟨-, b2, o2, n2, c2, e2, hb2, -⟩ := HT.out.bs
          rw [e] at e2
          simp only [Value.slice.injEq, Option.some.injEq, Addr.mk.injEq] at e2
          obtain ⟨⟨rfl, -, -⟩, -, -⟩ := e2
          omega) hI (fun b' hb' => ⟨by
            obtain ⟨o, ho, -⟩ := bad_cells HT.out.inv (bad_same hPY hb')
            have h1 := (Array.getElem?_eq_some_iff.1 ho).1
            have h2 := HBX5.out.size
            omega, bad_same hPY5 hb'⟩)
        obtain ⟨vn, hvn⟩ : ∃ vn, vn = ((zs ++ List.replicate (c - zs.length) 0) ++ powL (k + 1) m).length := ⟨_, rfl⟩
        rw [← hvn] at hvc hrow hsaf
        have hMY := HT.out.inv.later hby
        have rg : Y.heap[X.heap.size]? = some (.cells #[.int .i64 x, .int .i64 y, .slice za zn zc] 28 (0, 0)) :=
          (hI.same _ (by have := HX2S.out; omega) (by omega)).trans ((HB5.out.block _ (by rw [QS.out]; omega)).trans Q1.out)
        have t0 := hMY.tb
        have y0 : Y.cell? ⟨X.heap.size, 0, none⟩ = some (.int .i64 x) := row_cell rg rfl
        have y1 : Y.cell? ⟨X.heap.size, 1, none⟩ = some (.int .i64 y) := row_cell rg rfl
        have y2 : Y.cell? ⟨X.heap.size, 2, none⟩ = some (.slice za zn zc) := row_cell rg rfl
        have y3 : Y.cell? ⟨X.heap.size + 1, 0, none⟩ = some (.slice (some ⟨vb2, vo2, none⟩) vn vcap) := row_cell hrow rfl
        have HMY := Lib.hid hMY
        have HSAF := Lib.hid hsaf
        have HVN := Lib.hid hvn
        have HRG := Lib.hid rg
        have HRW := Lib.hid hrow
        have HPI := Lib.hid hI
        have HBY := Lib.hid hby
        have HDW := Lib.hid hDW
        have HDD := Lib.hid hD
        clear hMY hsaf hvn rg hrow hI hby hDW hO hPY hPY5 h00 hD
        have hbD : Below Y.heap.size Y Y.drew := (Below.refl _ _).drew
        have hstD := StepM.of_below (CB := CB) hbD HMY.out.lt
        have HC := HIH.out k hlt _ _ (.slice (some ⟨vb2, vo2, none⟩) vn vn) _ Y.drew (by rw [List.length_append]; exact HFT.out.1) HFT.out.2 (by
          rw [← HVN.out]
          have h1 := genL_cols (l.take k) 0 (zs ++ List.replicate (c - zs.length) 0) m d
          have h2 := HVN.out
          have h3 := HD.out
          rw [List.length_append, List.length_append, List.length_replicate, powL_len] at h2
          omega) (HMY.out.later hbD) (HSAF.out.step hstD)
        rw [HSU.out] at HC
        obtain ⟨Pst, hPst⟩ : ∃ Pst, Pst = TreatPost w PB CB TB C (R ++ (genL (l.take k) 0 (zs ++ List.replicate (c - zs.length) 0) m d).1) l[k] ((zs ++ List.replicate (c - zs.length) 0) ++ powL (k + 1) m) (genL (l.take k) 0 (zs ++ List.replicate (c - zs.length) 0) m d).2 Y.drew := ⟨_, rfl⟩
        rw [← hPst] at HC
        have HPST := Lib.hid hPst
        clear hPst
        have HS6 : Hid (∀ e w6, Pst e w6 → (∃ bo, e = .returned (.bool bo)) ∧ w6.cell? ⟨TB, 0, none⟩ = some (.func (.func 47) #[] #[.pointer (some ⟨PB, 0, none⟩), .pointer (some ⟨CB, 0, none⟩), .pointer (some ⟨TB, 0, none⟩)]) ∧ w6.cell? ⟨X.heap.size, 0, none⟩ = some (.int .i64 x) ∧ w6.cell? ⟨X.heap.size, 1, none⟩ = some (.int .i64 y) ∧ w6.cell? ⟨X.heap.size, 2, none⟩ = some (.slice za zn zc) ∧ w6.cell? ⟨X.heap.size + 1, 0, none⟩ = some (.slice (some ⟨vb2, vo2, none⟩) vn vcap)) := Lib.hid (by
          intro e w6 hp
          rw [HPST.out] at hp
          have hpD : Y.drew.heap[PB]? = X.heap[PB]? := HBY.out.block PB HT.out.inv.lt
          have nb : ∀ i, X.heap.size ≤ i → ¬ Bad PB CB Y.drew i := fun i hi hb => by
            obtain ⟨o, ho, -⟩ := bad_cells HT.out.inv (bad_same hpD hb)
            have := (Array.getElem?_eq_some_iff.1 ho).1
            omega
          have key : ∀ R' c', MkI w PB CB TB C R' c' w6 → StepM PB CB Y.drew w6 → w6.cell? ⟨TB, 0, none⟩ = some (.func (.func 47) #[] #[.pointer (some ⟨PB, 0, none⟩), .pointer (some ⟨CB, 0, none⟩), .pointer (some ⟨TB, 0, none⟩)]) ∧ w6.cell? ⟨X.heap.size, 0, none⟩ = some (.int .i64 x) ∧ w6.cell? ⟨X.heap.size, 1, none⟩ = some (.int .i64 y) ∧ w6.cell? ⟨X.heap.size, 2, none⟩ = some (.slice za zn zc) ∧ w6.cell? ⟨X.heap.size + 1, 0, none⟩ = some (.slice (some ⟨vb2, vo2, none⟩) vn vcap) := fun R' c' hM hS => by
            have a1 := (hS.same X.heap.size (Array.getElem?_eq_some_iff.1 HRG.out).1 (nb _ (Nat.le_refl _))).trans HRG.out
            have a2 := (hS.same (X.heap.size + 1) (Array.getElem?_eq_some_iff.1 HRW.out).1 (nb _ (Nat.le_succ _))).trans HRW.out
            exact ⟨hM.tb, row_cell a1 rfl, row_cell a1 rfl, row_cell a1 rfl, row_cell a2 rfl⟩
          rcases hp with ⟨h1, -, h3, h4⟩ | ⟨h1, -, ⟨R', c', h3⟩, h4⟩
          · exact ⟨⟨_, h1⟩, key _ _ h3 h4⟩
          · exact ⟨⟨_, h1⟩, key _ _ h3 h4⟩)
        have HMK : Hid (∀ w6, StepM PB CB Y.drew w6 → Marks W.heap.size w6 ({ target := .collected D, args := #[] } :: ds)) := Lib.hid (fun w6 hS => by
          have m1 : Marks W.heap.size Y ds := marks_step HT.out.inv (StepM.of_below HBY.out HT.out.inv.lt) HT.out.mark
          have hWX : W.heap.size ≤ X.heap.size := Nat.le_of_lt (Array.getElem?_eq_some_iff.1 HT.out.gh).1
          have hXD : X.heap.size ≤ D := Nat.le_trans HBX5.out.size HDD.out
          have m2 : Marks W.heap.size Y.drew ({ target := .collected D, args := #[] } :: ds) := ⟨⟨D, rfl, Nat.le_trans hWX hXD, HDW.out, marks_fresh hXD HT.out.mark⟩, marks_step HMY.out hstD m1⟩
          exact marks_step (HMY.out.later hbD) hS m2)
        have HSX : Hid (∀ w6, StepM PB CB Y.drew w6 → StepM PB CB X w6) := Lib.hid (fun w6 hS => (StepM.of_below HBY.out HT.out.inv.lt).trans (hstD.trans hS))
        have hgt := genL_take l 0 (zs ++ List.replicate (c - zs.length) 0) m d k hlt
        rw [Nat.zero_add] at hgt
        have HGT := Lib.hid hgt
        clear hgt
        have HCC := Lib.hid HC
        clear HC hbD hstD
        go_wp2_with fail
        go_region_held3 (fun w' => w'.cell? ⟨TB, 0, none⟩ = some (.func (.func 47) #[] #[.pointer (some ⟨PB, 0, none⟩), .pointer (some ⟨CB, 0, none⟩), .pointer (some ⟨TB, 0, none⟩)]) ∧ w'.cell? ⟨X.heap.size, 0, none⟩ = some (.int .i64 x) ∧ w'.cell? ⟨X.heap.size, 1, none⟩ = some (.int .i64 y) ∧ w'.cell? ⟨X.heap.size, 2, none⟩ = some (.slice za zn zc) ∧ w'.cell? ⟨X.heap.size + 1, 0, none⟩ = some (.slice (some ⟨vb2, vo2, none⟩) vn vcap)) (first | go_keep | exact ⟨t0, y0, y1, y2, y3⟩ | exact hs6)
          (first
            | (go_at_call 47; (refine HCC.out.mono ?_); rintro e w6 hp; obtain ⟨⟨bo, rfl⟩, hs6⟩ := HS6.out e w6 hp; have H6 := Lib.hid hp; clear hp))
        cases bo
        · have HF : Hid (TreatPost w PB CB TB C R (.mk p n l) zs c W (.returned (.bool false)) w6 ∧ Marks W.heap.size w6 ({ target := .collected D, args := #[] } :: ds)) := Lib.hid (by
            have hp := H6.out
            rw [HPST.out] at hp
            rcases hp with ⟨h1, -⟩ | ⟨-, h2, h3, h4⟩
            · cases h1
            · refine ⟨.inr ⟨rfl, fun h => h2 ?_, h3, HST.out.trans (HS3.out.trans ((StepM.of_below HB4.out HI3.out.lt).trans (HT.out.st.trans (HSX.out _ h4))))⟩, HMK.out _ h4⟩
              unfold FitsM at h ⊢
              rw [HG.out, ← HD.out] at h
              have hp := genL_part l 0 (zs ++ List.replicate (c - zs.length) 0) m d (k + 1)
              rw [HGT.out] at hp
              simp only [List.length_append] at hp ⊢
              omega)
          go_wp2_with fail
          exact leaves_marks (B := W.heap.size) (v := .bool false) (fun w => results_tmp (t := 7) rfl _ _ _) (treat_sim HWS.out) _ _ HF.out.2 HF.out.1
        · have HF : Hid (TrI w W4 PB CB TB C R p n l (zs ++ List.replicate (c - zs.length) 0) m d (.slice (some ⟨b, of, none⟩) l.length cap) (.slice (some ⟨bb, off, none⟩) c c) W.heap.size (k + 1) ({ target := .collected D, args := #[] } :: ds) w6) := Lib.hid (by
            have hp := H6.out
            rw [HPST.out] at hp
            rcases hp with ⟨-, h2, h3, h4⟩ | ⟨h1, -⟩
            · have hsx := HSX.out _ h4
              have hgl := (Array.getElem?_eq_some_iff.1 HT.out.gh).1
              refine ⟨?_, HT.out.st.trans hsx, HT.out.bs.step hsx, (hsx.same _ hgl HT.out.gn).trans HT.out.gh, fun h => HT.out.gn (hsx.bad _ hgl h), ?_, HMK.out _ h4⟩
              · rw [HGT.out, ← List.append_assoc]; exact h3
              · unfold FitsM at h2
                rw [HGT.out]
                simp only [List.length_append] at h2 ⊢
                omega
            · cases h1)
          go_wp2_with fail
          refine ⟨trA_mk (k := k + 1) (by omega) rfl HF.out, ?_⟩
          simp [intOf]
          omega

end Go.Proofs.Ytohebkpgjaaljaa

namespace Go.Proofs.Ytohebkpgjaaljaa
open Go.RowKit

theorem treat_at (w : World) (PB CB TB C : Nat) (ho : Ord w PB CB TB C) (vg : Value) (g : GT) (hg : GateV w vg g) : rightG g = true → TreatIH w PB CB TB C vg g := by
  induction hg with
  | mk p n l a cap sub hp hn hc hl hk hs ih =>
    intro hr R zs v c W hR hc2 hz hI hv
    by_cases h0 : 0 ≤ p
    · exact treat_leaf w PB CB TB C ho p n l a cap R zs v c W h0 hR hc2 hI hv
    · unfold rightG at hr
      rw [if_neg h0] at hr
      simp only [Bool.and_eq_true, decide_eq_true_eq] at hr
      obtain ⟨-, h1, h2, h3⟩ := hr
      exact treat_gate w PB CB TB C ho p n l a cap sub h0 h1 h2 hc hl hk (fun k h => ih k h ((rightL_iff l).1 h3 k h)) R zs v c W hR hc2 hz hI hv

end Go.Proofs.Ytohebkpgjaaljaa

namespace Go.Proofs.Ytohebkpgjaaljaa
open Go.RowKit

def padTo (c : Nat) (zs : List Int) : List Int := zs ++ List.replicate (c - zs.length) 0
def makE (g : GT) : Int := if gateE g = 0 then (if (genR g [1] 1).1.length ≤ 64 ∧ (genR g [1] 1).2 ≤ 64 then 0 else 2) else gateE g
def makR (g : GT) : List (List Int) := if makE g = 0 then (genR g [1] 1).1.map fun r => padTo (genR g [1] 1).2 r.1 else []
def makO (g : GT) : List Int := if makE g = 0 then (genR g [1] 1).1.map fun r => r.2 else []

mutual
theorem gen_owner : ∀ (g : GT) (v : List Int) (c : Nat), rightG g = true → ∀ r ∈ (genR g v c).1, 0 ≤ r.2 ∧ r.2 < 64
  | .mk p n l, v, c, hg, r, hr => by
    unfold genR at hr
    unfold rightG at hg
    by_cases h0 : 0 ≤ p
    · rw [if_pos h0] at hr hg
      simp only [Bool.and_eq_true, decide_eq_true_eq] at hg
      rw [List.mem_singleton.1 hr]
      exact ⟨h0, hg.1⟩
    · rw [if_neg h0] at hr hg
      simp only [Bool.and_eq_true, decide_eq_true_eq] at hg
      exact genL_owner l _ _ _ _ hg.2.2.2 r hr
theorem genL_owner : ∀ (l : List GT) (i : Nat) (b : List Int) (m c : Nat), rightL l = true → ∀ r ∈ (genL l i b m c).1, 0 ≤ r.2 ∧ r.2 < 64
  | [], _, _, _, _, _, r, hr => by unfold genL at hr; cases hr
  | x :: t, i, b, m, c, hl, r, hr => by
    unfold genL at hr
    unfold rightL at hl
    rw [Bool.and_eq_true] at hl
    rcases List.mem_append.1 hr with hr | hr
    · exact gen_owner x _ c hl.1 r hr
    · exact genL_owner t _ _ _ _ hl.2 r hr
end

/-- A slice of integers that treat does not write; it may have room. -/
def GoodI (PB CB : Nat) (W : World) (v : Value) (zs : List Int) : Prop := ∃ b off cap, v = .slice (some ⟨b, off, none⟩) zs.length cap ∧ zs.length ≤ cap ∧ SafeF PB CB W (.slice (some ⟨b, off, none⟩) zs.length zs.length) zs
theorem GoodI.step {PB CB : Nat} {W W' : World} {v : Value} {zs : List Int} (h : GoodI PB CB W v zs) (s : StepM PB CB W W') : GoodI PB CB W' v zs := by
  obtain ⟨b, off, cap, h1, h2, h3⟩ := h
  exact ⟨b, off, cap, h1, h2, h3.step s⟩
theorem SafeF.good {PB CB : Nat} {W : World} {v : Value} {zs : List Int} (h : SafeF PB CB W v zs) : GoodI PB CB W v zs := by
  obtain ⟨b, off, e, -⟩ := id h.1
  exact ⟨b, off, _, e, Nat.le_refl _, e ▸ h⟩
theorem GoodI.ints {PB CB : Nat} {W : World} {v : Value} {zs : List Int} (h : GoodI PB CB W v zs) (hl : zs.length ≤ 1000000) : Ints W v zs := by
  obtain ⟨b, off, cap, rfl, h2, h3, -⟩ := h
  obtain ⟨b', off', e, h5, h6, h7⟩ := h3
  simp only [Value.slice.injEq, Option.some.injEq, Addr.mk.injEq] at e
  obtain ⟨⟨rfl, rfl, -⟩, -, -⟩ := e
  exact ⟨_, cap, rfl, h2, by omega, h6, fun k hk => ⟨_, _, rfl, h7 k hk⟩⟩

theorem own_sl {W : World} {base size n : Nat} {e : TypeId} {v : Value} {xs : List Value} (h : W.ownsRow base e size v n xs) : ∃ a c, v = .slice a n c := by
  rcases h.2 with ⟨rfl, rfl⟩ | ⟨g, cap, cur, rfl, -⟩
  · exact ⟨_, _, rfl⟩
  · exact ⟨_, _, rfl⟩
theorem own_at {W : World} {base n : Nat} {e : TypeId} {v : Value} {xs : List Value} (h : W.ownsRow base e 1 v n xs) {k : Nat} (hk : k < n) : ∃ g cap u, v = .slice (some ⟨g, 0, none⟩) n cap ∧ base ≤ g ∧ xs[k]? = some u ∧ W.cell? ⟨g, k, none⟩ = some u := by
  obtain ⟨h0, h⟩ := h
  rcases h with ⟨-, rfl⟩ | ⟨g, cap, cur, rfl, hb, hg, hnc, -, hcs, hcur⟩
  · omega
  · have hk2 : k < xs.length := by omega
    refine ⟨g, cap, xs[k], rfl, hb, List.getElem?_eq_getElem hk2, row_cell hg ?_⟩
    have e2 : (cur.toList.take (n * 1))[k]? = some xs[k] := by rw [hcur]; exact List.getElem?_eq_getElem hk2
    rw [List.getElem?_take, if_pos (by omega)] at e2
    rw [← Array.getElem?_toList]; exact e2

set_option maxRecDepth 100000 in
/-- A row with zeros behind it. -/
theorem pad_any (PB CB C : Nat) (W : World) (L1 L2 v : Value) (n : Nat) (xs ys : List Value) (zs : List Int) (c : Nat) (h5 : W.heap[PB]? = some (.cells #[L1, L2] 25 (0, 0))) (h6 : Two C W n n L1 L2 xs ys) (hv : SafeF PB CB W v zs) (hz : zs.length ≤ c) (hc : c ≤ 64) (hCB : CB < W.heap.size) :
    ∃ u W', (Builtin.append_ #[23, 3] 23 #[v, .int .i64 ((c - zs.length : Nat) : Int)]).run Try.prog W = .ok u W' ∧ Below W.heap.size W W' ∧ GoodI PB CB W' u (padTo c zs) := by
  have hl : (padTo c zs).length = c := by unfold padTo; simp; omega
  by_cases hk : c - zs.length = 0
  · have he : zs.length = c := by omega
    obtain ⟨b, off, rfl, h1, h2, h3⟩ := id hv.1
    refine ⟨.slice (some ⟨b, off, none⟩) zs.length zs.length, W, ?_, Below.refl _ _, ?_⟩
    · rw [hk]; exact app_zero_none W _ zs.length zs.length (Nat.le_refl _)
    · have e : padTo c zs = zs := by unfold padTo; rw [hk, List.replicate_zero, List.append_nil]
      rw [e]
      exact hv.good
  · obtain ⟨v', W', hrun, hb, ho⟩ := app_full_zeros W v zs hv.1 (c - zs.length) (by omega) (by omega)
    rw [show zs.length + (c - zs.length) = c by omega] at ho
    refine ⟨v', W', hrun, hb, ?_⟩
    have hpos : 0 < c := by omega
    rcases ho.2 with ⟨-, h0⟩ | ⟨g, cap, cur, rfl, hbg, hg, hnc, -, hcs, hcur⟩
    · omega
    · refine ⟨g, 0, cap, by rw [hl], by rw [hl]; exact hnc, ⟨g, 0, rfl, fun e => by rw [e] at hl; simp at hl; omega, ?_, ?_⟩, _, _, _, _, rfl, (Array.getElem?_eq_some_iff.1 hg).1, ?_⟩
      · intro z hz2
        rcases List.mem_append.1 hz2 with h | h
        · obtain ⟨_, _, _, _, h2, _⟩ := hv.1
          exact h2 z h
        · rw [(List.mem_replicate.1 h).2]; exact R64.mk (by omega) (by omega)
      · intro k hk2
        have e : cur.toList[k]? = some (.int .i64 (padTo c zs)[k]) := by
          have e2 : (cur.toList.take (c * 1))[k]? = some (.int .i64 (padTo c zs)[k]) := by rw [hcur]; show (List.map _ (padTo c zs))[k]? = _; rw [List.getElem?_map, List.getElem?_eq_getElem hk2]; rfl
          rwa [List.getElem?_take, if_pos (by omega)] at e2
        rw [Nat.zero_add]
        exact row_cell hg (by rw [← Array.getElem?_toList]; exact e)
      · have hlt := row_lt h5
        rintro (e | e | ⟨M1, M2, h, e⟩)
        · omega
        · omega
        · rw [hb.block PB hlt, h5] at h
          simp only [Option.some.injEq, Obj.cells.injEq, Array.mk.injEq, List.cons.injEq, and_true] at h
          obtain ⟨rfl, rfl⟩ := h
          rcases e with e | e
          · have := (own_lt h6.a g e).2; omega
          · have := (own_lt h6.b g e).2; omega

/-- Behind k rounds of padding. -/
structure MkL (w : World) (PB CB C : Nat) (R : List (List Int × Int)) (c : Nat) (L1 L2 : Value) (k : Nat) (W : World) : Prop where
  be : Below w.heap.size w W
  cb : W.heap[CB]? = some (.cells #[.int .i64 c] 3 (0, 0))
  pb : W.heap[PB]? = some (.cells #[L1, L2] 25 (0, 0))
  row : ∃ ys, Two C W R.length R.length L1 L2 ys (R.map fun r => .int .i64 r.2) ∧ ys.length = R.length ∧ ∀ i (h1 : i < R.length) (h2 : i < ys.length), GoodI PB CB W ys[i] (if i < k then padTo c R[i].1 else R[i].1)
theorem MkL.of {w : World} {PB CB TB C : Nat} {R : List (List Int × Int)} {c : Nat} {W : World} (h : MkI w PB CB TB C R c W) : ∃ L1 L2, MkL w PB CB C R c L1 L2 0 W := by
  obtain ⟨h1, h2, h3, h4, L1, L2, xs, h5, h6, h7, h8⟩ := h
  exact ⟨L1, L2, h1, h4, h5, xs, h6, h7, fun i a b => by rw [if_neg (Nat.not_lt_zero _)]; exact (h8 i a b).good⟩
theorem MkL.next {w : World} {PB CB TB C : Nat} {R : List (List Int × Int)} {c : Nat} {L1 L2 : Value} {k : Nat} {W W2 : World} {g n cap : Nat} {u : Value} (ho : Ord w PB CB TB C) (h : MkL w PB CB C R c L1 L2 k W) (hk : k < R.length) (hb : Below W.heap.size W W2) (he : L1 = .slice (some ⟨g, 0, none⟩) n cap) (hu : GoodI PB CB W2 u (padTo c R[k].1)) : MkL w PB CB C R c L1 L2 (k + 1) (W2.setCell ⟨g, k, none⟩ u) := by
  obtain ⟨h1, h4, h5, ys, h6, h7, h8⟩ := h
  have hlt := row_lt h5
  have hgC : C ≤ g := (own_lt h6.a g (by rw [he]; rfl)).1
  have hp := ho.p
  have hpc := ho.pc
  have hcc := ho.cc
  have hn : n = R.length := by
    obtain ⟨a, c', e⟩ := own_sl h6.a
    rw [he] at e
    injection e
  subst hn
  have h6' := h6.keep hb
  rw [he] at h6'
  obtain ⟨st, hg⟩ := h6'.a.stored k u
  have r5 : W2.heap[PB]? = some (.cells #[L1, L2] 25 (0, 0)) := (hb.block _ hlt).trans h5
  have hP : (W2.setCell ⟨g, k, none⟩ u).heap[PB]? = W2.heap[PB]? := Below.heap_setCell _ _ _ _ (by show PB ≠ g; omega)
  have hs2 : StepM PB CB W2 (W2.setCell ⟨g, k, none⟩ u) := ⟨by simp [World.setCell], fun i _ hn => Below.heap_setCell _ _ _ _ (fun e => hn (.inr (.inr ⟨L1, L2, r5, .inl (by rw [he, e]; rfl)⟩))), fun i _ hb2 => by
    unfold Bad at hb2 ⊢
    rwa [hP] at hb2⟩
  have hs := (StepM.of_below (CB := CB) hb hlt).trans hs2
  refine ⟨(below_later h1 (Nat.le_refl _) hb).setCell (by show _ ≤ g; omega) _, (Below.heap_setCell _ _ _ _ (by show CB ≠ g; omega)).trans ((hb.block _ (row_lt h4)).trans h4), hP.trans r5, ys.set k u, ?_, by rw [List.length_set]; exact h7, fun i a b => ?_⟩
  · rw [he]
    exact ⟨st, own_apart (u := .slice (some ⟨g, 0, none⟩) R.length cap) h6'.b hg (fun q a b => h6'.ap q b a), h6'.ap⟩
  · by_cases e : k = i
    · subst e
      rw [List.getElem_set_self, if_pos (Nat.lt_succ_self _)]
      exact hu.step hs2
    · rw [List.getElem_set_ne e]
      have h9 := (h8 i a (by rwa [List.length_set] at b)).step hs
      by_cases e2 : i < k
      · rw [if_pos e2] at h9
        rw [if_pos (by omega)]; exact h9
      · rw [if_neg e2] at h9
        rw [if_neg (by omega)]; exact h9
theorem MkL.done {w : World} {PB CB C : Nat} {R : List (List Int × Int)} {c : Nat} {L1 L2 : Value} {W : World} (h : MkL w PB CB C R c L1 L2 R.length W) (hR : R.length ≤ 64) (hc : c ≤ 64) (hr : ∀ r ∈ R, r.1.length ≤ c ∧ 0 ≤ r.2 ∧ r.2 < 64) : Rows2 W L1 (R.map fun r => padTo c r.1) ∧ Ints W L2 (R.map fun r => r.2) := by
  obtain ⟨h1, h4, h5, ys, h6, h7, h8⟩ := h
  constructor
  · obtain ⟨a, cap, e⟩ := own_sl h6.a
    have hcap : R.length ≤ cap := by
      rcases h6.a.2 with ⟨e2, h0⟩ | ⟨g, cap', cur, e2, -, -, hnc, -⟩
      · omega
      · rw [e] at e2; injection e2 with _ _ e3; omega
    refine ⟨a, cap, by rw [e, List.length_map], by rw [List.length_map]; exact hcap, by rw [List.length_map]; omega, fun k hk => ?_⟩
    have hk2 : k < R.length := by rwa [List.length_map] at hk
    obtain ⟨g, cap', u, e2, -, hu, hcell⟩ := own_at h6.a hk2
    rw [e] at e2
    injection e2 with e2 _ _
    have hky : k < ys.length := by omega
    have hu2 : ys[k] = u := by rw [List.getElem?_eq_getElem hky] at hu; injection hu
    refine ⟨g, 0, u, e2, by rw [Nat.zero_add]; exact hcell, ?_⟩
    have h9 := h8 k hk2 hky
    rw [if_pos hk2, hu2] at h9
    rw [List.getElem_map]
    refine h9.ints ?_
    have := (hr _ (List.getElem_mem hk2)).1
    unfold padTo
    simp; omega
  · refine Ints.own (base := C) (n := R.length) (by rw [List.map_map]; exact h6.b) (fun z hz => ?_) (by rw [List.length_map]; omega)
    obtain ⟨r, hr2, rfl⟩ := List.mem_map.1 hz
    have := hr r hr2
    exact R64.mk (by omega) (by omega)

theorem step_append_run {P : Program} {ops : Array Oper} {o : Oper} {a : Act} {K : Act → World → Prop} {Q : Exit → Act → World → Prop} {E : Prop} {w : World} (hgd : o.guard = none) (s x : Operand) (t tn : TypeId)
    (ho : o.op = .call { callee := .builtin .append, args := #[s, x], argTypes := #[t, tn] }) (vs vx : Value) (hs : a.eval s = vs) (hx : a.eval x = vx)
    (v' : Value) (w' : World) (hr : (Builtin.append_ #[t, tn] o.type #[vs, vx]).run P w = .ok v' w') (h : K (a.put o.dst v') w') : if Region.wanted o (yielded ops a.tmps) = true then Oper.wp P o a w K Q else E := by
  have hw : Region.wanted o (yielded ops a.tmps) = true := by simp [Region.wanted, hgd]
  rw [if_pos hw]
  exact Lib.wp_append_run w s x t tn ho vs vx hs hx v' w' hr h

end Go.Proofs.Ytohebkpgjaaljaa

namespace Go.Proofs.Ytohebkpgjaaljaa
open Go.RowKit

abbrev mkFrame (gb PB CB TB n k : Nat) (L : Value) (u : Nat → Value) : Array Value := #[u 0, .pointer (some ⟨gb, 0, none⟩), .pointer (some ⟨PB, 0, none⟩), .int .i64 0, .pointer (some ⟨CB, 0, none⟩), .pointer (some ⟨TB, 0, none⟩), u 6, u 7, u 8, u 9, u 10, u 11, u 12, u 13, u 14, u 15, u 16, u 17, u 18, u 19, u 20, u 21, L, .int .i64 n, .int .i64 k, u 25, u 26, u 27, u 28, u 29, u 30, u 31, u 32, u 33, u 34, u 35, u 36, u 37, u 38, u 39, u 40, u 41, u 42, u 43, u 44, u 45]

def MkA (w : World) (gb PB CB TB C : Nat) (R : List (List Int × Int)) (c : Nat) (L1 L2 : Value) (a : Act) (W : World) : Prop :=
  ∃ (k : Nat) (u : Nat → Value), k ≤ R.length ∧ a = { tmps := mkFrame gb PB CB TB R.length k L1 u, defers := [] } ∧ MkL w PB CB C R c L1 L2 k W
theorem mkA_mk {w : World} {gb PB CB TB C : Nat} {R : List (List Int × Int)} {c : Nat} {L1 L2 : Value} {k : Nat} {W : World} {t : Array Value} (hk : k ≤ R.length) (ht : t = mkFrame gb PB CB TB R.length k L1 (fun i => t.getD i undef)) (h : MkL w PB CB C R c L1 L2 k W) : MkA w gb PB CB TB C R c L1 L2 { tmps := t, defers := [] } W :=
  ⟨k, _, hk, by rw [← ht], h⟩

set_option maxRecDepth 100000 in
set_option maxHeartbeats 16000000 in
theorem make_any (vg : Value) (g : GT) (w : World) (hg : GatW w vg g) : Calls Try.prog 15 #[vg] w fun e w' => ∃ rv ov, e = .returned (.tuple #[.agg #[rv, ov], .int .i64 (makE g)]) ∧ Rows2 w' rv (makR g) ∧ Ints w' ov (makO g) ∧ Below w.heap.size w w' := by
  obtain ⟨p, n, l, a, cap, rfl, rfl, HG⟩ : ∃ p n l a cap, vg = .agg #[.int .i64 p, .int .i64 n, .slice a (l : List GT).length cap] ∧ g = .mk p n l ∧ Hid (GatW w vg g) := by
    have HG := Lib.hid hg
    cases hg with
    | mk p n l a cap sub hp hn hc hl hk hs => exact ⟨p, n, l, a, cap, rfl, rfl, HG⟩
  obtain ⟨g, hgd⟩ : ∃ g : GT, g = .mk p n l := ⟨_, rfl⟩
  rw [← hgd] at hg HG ⊢
  have HGD := Lib.hid hgd
  clear hgd hg
  obtain ⟨W2, hW2⟩ : ∃ W2, W2 = (w.alloc (.cells #[.int .i64 p, .int .i64 n, .slice a l.length cap] 28)).alloc (.cells #[.slice none 0 0, .slice none 0 0] 25) := ⟨_, rfl⟩
  have hb2 : Below w.heap.size w W2 := hW2 ▸ (below_new w _ _).alloc (by simp) _
  have hs2 : W2.heap.size = w.heap.size + 2 := by rw [hW2]; simp
  have r1 : W2.heap[w.heap.size]? = some (.cells #[.int .i64 p, .int .i64 n, .slice a l.length cap] 28 (0, 0)) := by
    rw [hW2]; exact ((below_new (w.alloc _) _ _).block _ (by simp)).trans (World.alloc_heap_new _ _)
  have r2 : W2.heap[w.heap.size + 1]? = some (.cells #[.slice none 0 0, .slice none 0 0] 25 (0, 0)) := by
    have := World.alloc_heap_new (w.alloc (.cells #[.int .i64 p, .int .i64 n, .slice a l.length cap] 28)) (.cells #[.slice none 0 0, .slice none 0 0] 25)
    rw [World.size_alloc] at this
    rw [hW2]; exact this
  have c0 : W2.cell? ⟨w.heap.size, 0, none⟩ = some (.int .i64 p) := row_cell r1 rfl
  have c1 : W2.cell? ⟨w.heap.size, 1, none⟩ = some (.int .i64 n) := row_cell r1 rfl
  have c2 : W2.cell? ⟨w.heap.size, 2, none⟩ = some (.slice a l.length cap) := row_cell r1 rfl
  have HW2 := Lib.hid hW2
  have HB2 := Lib.hid hb2
  have HS2 := Lib.hid hs2
  have R1 := Lib.hid r1
  have R2 := Lib.hid r2
  have HG2 := Lib.hid (HG.out.below hb2)
  clear hW2 hb2 hs2 r1 r2
  go_enter Try.func15, Try.ntmps15
  go_wp2_with fail
  rw [← HW2.out]
  refine (gcheck_any _ g W2 HG2.out).mono ?_
  rintro e w1 ⟨rfl, hb⟩
  have HB1 := Lib.hid (HB2.out.trans (hb.mono HB2.out.size))
  have q1 : w1.heap[w.heap.size + 1]? = some (.cells #[.slice none 0 0, .slice none 0 0] 25 (0, 0)) := (hb.block _ (row_lt R2.out)).trans R2.out
  have Q2 := Lib.hid q1
  have hs1 : w.heap.size + 1 < w1.heap.size := row_lt q1
  have HS1 := Lib.hid hs1
  have d0 := below_cell hb c0
  have d1 := below_cell hb c1
  have d2 := below_cell hb c2
  have x0 : w1.cell? ⟨w.heap.size + 1, 0, none⟩ = some (.slice none 0 0) := row_cell q1 rfl
  have x1 : w1.cell? ⟨w.heap.size + 1, 1, none⟩ = some (.slice none 0 0) := row_cell q1 rfl
  have f0 := row_free q1 0
  have f1 := row_free q1 1
  have HGW := Lib.hid (HG.out)
  have hgv : gateE g = 0 ∨ gateE g = 2 ∨ gateE g = 220 := by unfold gateE; repeat (first | split | simp)
  have bad : ∀ z : Int, gateE g = z → z ≠ 0 → makE g = z ∧ makR g = [] ∧ makO g = [] := fun z h1 h2 => by
    have : makE g = z := by unfold makE; rw [h1, if_neg h2]
    exact ⟨this, by unfold makR; rw [this, if_neg h2], by unfold makO; rw [this, if_neg h2]⟩
  have HBAD := Lib.hid bad
  clear hb q1 hs1 bad
  rcases hgv with hz | hz | hz
  rotate_left
  · obtain ⟨b1, b2, b3⟩ := HBAD.out _ hz (by decide)
    have HV := Lib.hid (And.intro b1 (And.intro b2 b3))
    rw [hz]
    clear hz b1 b2 b3
    go_wp2_with fail
    try simp only [Exit.inBlock, Exit.then]
    refine bodyPost_ret (v := .tuple #[.agg #[.slice none 0 0, .slice none 0 0], .int .i64 2]) ?_ rfl ?_
    · rw [results_cell_tmp rfl]
      go_simp
    · refine ⟨_, _, by rw [HV.out.1], by rw [HV.out.2.1]; exact Rows2.nil _ _ _, by rw [HV.out.2.2]; exact Ints.nil _ _ _, (HB1.out.setCell (Nat.le_succ _) _).setCell (Nat.le_succ _) _⟩
  · obtain ⟨b1, b2, b3⟩ := HBAD.out _ hz (by decide)
    have HV := Lib.hid (And.intro b1 (And.intro b2 b3))
    rw [hz]
    clear hz b1 b2 b3
    go_wp2_with fail
    try simp only [Exit.inBlock, Exit.then]
    refine bodyPost_ret (v := .tuple #[.agg #[.slice none 0 0, .slice none 0 0], .int .i64 220]) ?_ rfl ?_
    · rw [results_cell_tmp rfl]
      go_simp
    · refine ⟨_, _, by rw [HV.out.1], by rw [HV.out.2.1]; exact Rows2.nil _ _ _, by rw [HV.out.2.2]; exact Ints.nil _ _ _, (HB1.out.setCell (Nat.le_succ _) _).setCell (Nat.le_succ _) _⟩
  have hright : rightG g = true := by
    unfold gateE at hz
    by_cases e : largeG g = true
    · rw [if_pos e] at hz; cases hz
    · rw [if_neg e] at hz
      by_cases e2 : rightG g = true
      · exact e2
      · rw [if_neg e2] at hz; cases hz
  have hmk : makE g = if (genR g [1] 1).1.length ≤ 64 ∧ (genR g [1] 1).2 ≤ 64 then 0 else 2 := by unfold makE; rw [if_pos hz]
  have HMK := Lib.hid hmk
  have HRT := Lib.hid hright
  rw [hz]
  clear hz hmk hright HBAD x0 x1 f0 f1
  obtain ⟨W6, hW6⟩ : ∃ W6, W6 = ((w1.alloc (.cells #[.int .i64 1] 3)).alloc (.cells #[.func (.func 47) #[] #[.pointer (some ⟨w.heap.size + 1, 0, none⟩), .pointer (some ⟨w1.heap.size, 0, none⟩), .pointer (some ⟨w1.heap.size + 1, 0, none⟩)]] 31)).alloc (.cells #[.int .i64 1] 3) := ⟨_, rfl⟩
  have hb6 : Below w1.heap.size w1 W6 := hW6 ▸ ((below_new w1 _ _).alloc (by simp) _).alloc (by simp; omega) _
  have s6 : W6.heap.size = w1.heap.size + 3 := by rw [hW6]; simp
  have rC : W6.heap[w1.heap.size]? = some (.cells #[.int .i64 1] 3 (0, 0)) := by
    rw [hW6]; exact ((below_new (World.alloc _ _) _ _).block _ (by simp; omega)).trans (((below_new (w1.alloc _) _ _).block _ (by simp)).trans (World.alloc_heap_new _ _))
  have rT : W6.heap[w1.heap.size + 1]? = some (.cells #[.func (.func 47) #[] #[.pointer (some ⟨w.heap.size + 1, 0, none⟩), .pointer (some ⟨w1.heap.size, 0, none⟩), .pointer (some ⟨w1.heap.size + 1, 0, none⟩)]] 31 (0, 0)) := by
    have := World.alloc_heap_new (w1.alloc (.cells #[.int .i64 1] 3)) (.cells #[.func (.func 47) #[] #[.pointer (some ⟨w.heap.size + 1, 0, none⟩), .pointer (some ⟨w1.heap.size, 0, none⟩), .pointer (some ⟨w1.heap.size + 1, 0, none⟩)]] 31)
    rw [World.size_alloc] at this
    rw [hW6]; exact ((below_new (World.alloc _ _) _ _).block _ (by simp)).trans this
  have rZ : W6.heap[w1.heap.size + 2]? = some (.cells #[.int .i64 1] 3 (0, 0)) := by
    have := World.alloc_heap_new ((w1.alloc (.cells #[.int .i64 1] 3)).alloc (.cells #[.func (.func 47) #[] #[.pointer (some ⟨w.heap.size + 1, 0, none⟩), .pointer (some ⟨w1.heap.size, 0, none⟩), .pointer (some ⟨w1.heap.size + 1, 0, none⟩)]] 31)) (.cells #[.int .i64 1] 3)
    rw [World.size_alloc, World.size_alloc] at this
    rw [hW6]; exact this
  obtain ⟨W5, hW5⟩ : ∃ W5, W5 = (w1.alloc (.cells #[.int .i64 1] 3)).alloc (.cells #[.func (.func 47) #[] #[.pointer (some ⟨w.heap.size + 1, 0, none⟩), .pointer (some ⟨w1.heap.size, 0, none⟩), .pointer (some ⟨w1.heap.size + 1, 0, none⟩)]] 31) := ⟨_, rfl⟩
  have hb5 : Below w1.heap.size w1 W5 := hW5 ▸ (below_new w1 _ _).alloc (by simp) _
  have y0 := below_cell hb5 d0
  have y1 := below_cell hb5 d1
  have y2 := below_cell hb5 d2
  have yT : W5.cell? ⟨w1.heap.size + 1, 0, none⟩ = some (.func (.func 47) #[] #[.pointer (some ⟨w.heap.size + 1, 0, none⟩), .pointer (some ⟨w1.heap.size, 0, none⟩), .pointer (some ⟨w1.heap.size + 1, 0, none⟩)]) := by
    have := World.alloc_heap_new (w1.alloc (.cells #[.int .i64 1] 3)) (.cells #[.func (.func 47) #[] #[.pointer (some ⟨w.heap.size + 1, 0, none⟩), .pointer (some ⟨w1.heap.size, 0, none⟩), .pointer (some ⟨w1.heap.size + 1, 0, none⟩)]] 31)
    rw [World.size_alloc, ← hW5] at this
    exact row_cell this rfl
  have HS5 : Hid (W5.heap.size = w1.heap.size + 2) := Lib.hid (by rw [hW5]; simp)
  have HW5 := Lib.hid hW5
  rw [← hW5] at hW6
  have hord : Ord w (w.heap.size + 1) w1.heap.size (w1.heap.size + 1) (w1.heap.size + 2) := by
    have := HS1.out
    constructor <;> omega
  have r6 : W6.heap[w.heap.size + 1]? = some (.cells #[.slice none 0 0, .slice none 0 0] 25 (0, 0)) := (hb6.block _ HS1.out).trans Q2.out
  have hI6 : MkI w (w.heap.size + 1) w1.heap.size (w1.heap.size + 1) (w1.heap.size + 2) [] 1 W6 := ⟨HB1.out.trans (hb6.mono HB1.out.size), by omega, row_cell rT rfl, rC, _, _, [], r6, ⟨⟨rfl, .inl ⟨rfl, rfl⟩⟩, ⟨rfl, .inl ⟨rfl, rfl⟩⟩, fun q h => by cases h⟩, rfl, fun k h => absurd h (Nat.not_lt_zero _)⟩
  have hV6 : SafeF (w.heap.size + 1) w1.heap.size W6 (.slice (some ⟨w1.heap.size + 2, 0, none⟩) 1 1) [1] := by
    refine ⟨⟨_, _, rfl, by simp, fun z hz => by rw [List.mem_singleton.1 hz]; exact R64.mk (by omega) (by omega), fun k hk => ?_⟩, _, _, _, _, rfl, row_lt rZ, ?_⟩
    · obtain rfl : k = 0 := by simpa using hk
      exact row_cell rZ rfl
    · have := HS1.out
      rintro (e | e | ⟨M1, M2, h, e⟩)
      · omega
      · omega
      · rw [r6] at h
        simp only [Option.some.injEq, Obj.cells.injEq, Array.mk.injEq, List.cons.injEq, and_true] at h
        obtain ⟨rfl, rfl⟩ := h
        rcases e with e | e <;> cases e
  have HCALL := Lib.hid (treat_at w _ _ _ _ hord _ g HG.out HRT.out [] [1] _ 1 W6 (by simp) (by omega) (by simp) hI6 hV6)
  have HORD := Lib.hid hord
  have HW6 := Lib.hid hW6
  clear hW5 hb5 hW6 hb6 s6 rC rT rZ r6 hord hI6 hV6
  go_wp2_with (rw [← HW5.out])
  rw [← HW6.out, HS5.out]
  refine HCALL.out.mono ?_
  rintro e w2 (⟨rfl, hF, hM, -⟩ | ⟨rfl, hF, ⟨R', c', hM⟩, -⟩)
  rotate_left
  · have hm : makE g = 2 := by
      rw [HMK.out, if_neg]
      intro h
      exact hF ⟨by simpa using h.1, h.2⟩
    have HM := Lib.hid hm
    have HBE := Lib.hid hM.be
    obtain ⟨L1, L2, xs, p5, -⟩ := hM.pb
    have x0 : w2.cell? ⟨w.heap.size + 1, 0, none⟩ = some L1 := row_cell p5 rfl
    have x1 : w2.cell? ⟨w.heap.size + 1, 1, none⟩ = some L2 := row_cell p5 rfl
    have f0 := row_free p5 0
    have f1 := row_free p5 1
    clear hF hM hm p5
    go_wp2_with fail
    try simp only [Exit.inBlock, Exit.then]
    refine bodyPost_ret (v := .tuple #[.agg #[.slice none 0 0, .slice none 0 0], .int .i64 2]) ?_ rfl ?_
    · rw [results_cell_tmp rfl]
      go_simp
    · refine ⟨_, _, by rw [HM.out], by unfold makR; rw [HM.out, if_neg (by decide)]; exact Rows2.nil _ _ _, by unfold makO; rw [HM.out, if_neg (by decide)]; exact Ints.nil _ _ _, (HBE.out.setCell (Nat.le_succ _) _).setCell (Nat.le_succ _) _⟩
  · obtain ⟨R, hR⟩ : ∃ R, R = (genR g [1] 1).1 := ⟨_, rfl⟩
    obtain ⟨c, hc⟩ : ∃ c, c = (genR g [1] 1).2 := ⟨_, rfl⟩
    have hF2 : R.length ≤ 64 ∧ c ≤ 64 := by rw [hR, hc]; exact ⟨by simpa using hF.1, hF.2⟩
    have hm : makE g = 0 := by rw [HMK.out, if_pos (by rw [← hR, ← hc]; exact hF2)]
    have hmr : makR g = R.map fun r => padTo c r.1 := by unfold makR; rw [if_pos hm, ← hR, ← hc]
    have hmo : makO g = R.map fun r => r.2 := by unfold makO; rw [if_pos hm, ← hR]
    have hrow : ∀ r ∈ R, r.1.length ≤ c ∧ 0 ≤ r.2 ∧ r.2 < 64 := fun r hr => by
      rw [hR] at hr
      rw [hc]
      exact ⟨(gen_row g [1] 1 (by simp) r hr).1, gen_owner g [1] 1 HRT.out r hr⟩
    rw [List.nil_append, ← hR, ← hc] at hM
    obtain ⟨L1, L2, hL⟩ := MkL.of hM
    have HM := Lib.hid (And.intro hm (And.intro hmr hmo))
    have HROW := Lib.hid hrow
    have HF := Lib.hid hF2
    have HL := Lib.hid hL
    obtain ⟨a1, c1, e1⟩ : ∃ a c1, L1 = .slice a R.length c1 := by
      obtain ⟨ys, h6, -⟩ := hL.row
      exact own_sl h6.a
    obtain ⟨a2, c2, e2⟩ : ∃ a c1, L2 = .slice a R.length c1 := by
      obtain ⟨ys, h6, -⟩ := hL.row
      exact own_sl h6.b
    have x0 : w2.cell? ⟨w.heap.size + 1, 0, none⟩ = some L1 := row_cell hL.pb rfl
    clear hR hc hF hF2 hm hmr hmo hrow hM hL
    subst e1
    subst e2
    go_wp2_with fail
    refine wp_loop (MkA w w.heap.size (w.heap.size + 1) w1.heap.size (w1.heap.size + 1) (w1.heap.size + 2) R c (.slice a1 R.length c1) (.slice a2 R.length c2)) (fun a _ => R.length - (intOf (a.tmps.getD 24 undef)).toNat) ?start ?round
    case start => exact mkA_mk (Nat.zero_le _) rfl HL.out
    case round =>
      clear x0
      intro act X hA
      obtain ⟨k, u, hkl, rfl, hT⟩ := hA
      have HT := Lib.hid hT
      clear hT
      by_cases hlt : k < R.length
      case neg =>
        obtain rfl : k = R.length := by omega
        have hD := HT.out.done HF.out.1 HF.out.2 HROW.out
        have x0 : X.cell? ⟨w.heap.size + 1, 0, none⟩ = some (.slice a1 R.length c1) := row_cell HT.out.pb rfl
        have x1 : X.cell? ⟨w.heap.size + 1, 1, none⟩ = some (.slice a2 R.length c2) := row_cell HT.out.pb rfl
        have f0 := row_free HT.out.pb 0
        have f1 := row_free HT.out.pb 1
        have HD := Lib.hid hD
        clear hD
        go_wp2_with fail
        try simp only [Exit.inBlock, Exit.then]
        have z1 : (X.setCell ⟨w.heap.size + 1, 0, none⟩ (.slice a1 R.length c1)).cell? ⟨w.heap.size + 1, 1, none⟩ = some (.slice a2 R.length c2) := set_same_cells x0 _ _ _ x1
        refine bodyPost_ret (v := .tuple #[.agg #[.slice a1 R.length c1, .slice a2 R.length c2], .int .i64 0]) ?_ rfl ?_
        · rw [results_cell_tmp rfl]
          go_simp
        · refine ⟨_, _, by rw [HM.out.1], ?_, ?_, (HT.out.be.setCell (Nat.le_succ _) _).setCell (Nat.le_succ _) _⟩
          · rw [HM.out.2.1]; exact (HD.out.1.cells (set_same_cells x0)).cells (set_same_cells z1)
          · rw [HM.out.2.2]; exact (HD.out.2.cells (set_same_cells x0)).cells (set_same_cells z1)
      · have h1 := HT.out.row
        obtain ⟨ys, h6, h7, h8⟩ := h1
        obtain ⟨g1, cp1, r, he, hbg, hy, hcell⟩ := own_at h6.a hlt
        have he1 : a1 = some ⟨g1, 0, none⟩ ∧ c1 = cp1 := by injection he with e1 _ e2; exact ⟨e1, e2⟩
        obtain ⟨rfl, -⟩ := he1
        have hky : k < ys.length := by omega
        have hgd := h8 k hlt hky
        rw [if_neg (Nat.lt_irrefl k)] at hgd
        have hyr : ys[k] = r := by rw [List.getElem?_eq_getElem hky] at hy; injection hy
        rw [hyr] at hgd
        have HGD2 := Lib.hid hgd
        obtain ⟨b, o, cp, hr, hcp, hsf⟩ := hgd
        obtain ⟨m, hm⟩ : ∃ m, m = R[k].1.length := ⟨_, rfl⟩
        rw [← hm] at hr hcp hsf
        have hmc : m ≤ c := by rw [hm]; exact (HROW.out _ (List.getElem_mem hlt)).1
        obtain ⟨d, hd⟩ : ∃ d, d = c - m := ⟨_, rfl⟩
        have hwr : IntKind.i64.wrap ((c : Int) - (m : Int)) = (d : Int) := by have := HF.out.2; rw [IntKind.wrap_i64]; omega
        subst hr
        have HSF := Lib.hid hsf
        have H6 := Lib.hid h6
        have HMM := Lib.hid hm
        have HDD := Lib.hid hd
        have HMC := Lib.hid hmc
        have i0 : (0 : Int) ≤ (k : Int) := by omega
        have i1 : (k : Int) < (R.length : Int) := by omega
        have j0 : (0 : Int) ≤ (m : Int) := by omega
        obtain ⟨k1, hk1⟩ : ∃ k1 : Nat, k1 = k + 1 := ⟨_, rfl⟩
        have hw1 : wrap64 ((k : Int) + 1) = (k1 : Int) := by have := HF.out.1; unfold wrap64; omega
        have HK1 := Lib.hid hk1
        clear hk1
        have j1 : (m : Int) ≤ (cp : Int) := by omega
        clear h6 h7 h8 hy hky hyr hsf hm hd hmc he hbg
        go_wp2_with fail
        refine wp_region_noPanic ?_
        refine wp_region_L (fun W' => W'.cell? ⟨w.heap.size + 1, 0, none⟩ = some (.slice (some ⟨g1, 0, none⟩) R.length c1) ∧ W'.cell? ⟨w1.heap.size, 0, none⟩ = some (.int .i64 c)) [] (by kernel_rfl) ?_
        obtain ⟨X0, hX0⟩ : ∃ Y, Y = X.drew := ⟨_, rfl⟩
        rw [← hX0]
        have HB0 : Hid (Below X.heap.size X X0) := Lib.hid (hX0 ▸ (Below.refl _ _).drew)
        have hS0 : X0.cell? ⟨w.heap.size + 1, 0, none⟩ = some (.slice (some ⟨g1, 0, none⟩) R.length c1) ∧ X0.cell? ⟨w1.heap.size, 0, none⟩ = some (.int .i64 c) := ⟨below_cell HB0.out (row_cell HT.out.pb rfl), below_cell HB0.out (row_cell HT.out.cb rfl)⟩
        clear hX0
        refine takeL [] (some 29) (.pointer (some ⟨w.heap.size + 1, 0, none⟩)) (i := 0) rfl rfl (by kernel_rfl) (by kernel_rfl) (by kernel_rfl) (fun _ _ _ h => h) (by kernel_rfl) (by kernel_rfl) (by kernel_rfl) (by kernel_rfl) (by kernel_rfl) (fun w _ => by rfl) hS0 ?_
        simp only [Act.put, List.setIfInBounds_toArray, List.set_cons_zero, List.set_cons_succ]
        refine takeL [] (some 30) (.slice (some ⟨g1, 0, none⟩) R.length c1) (i := 1) rfl rfl (by kernel_rfl) (by kernel_rfl) (by kernel_rfl) (fun _ _ _ h => h) (by kernel_rfl) (by kernel_rfl) (by kernel_rfl) (by kernel_rfl) (by kernel_rfl) (fun w hSw => by obtain ⟨hS1, hS2⟩ := hSw; go_simp) hS0 ?_
        simp only [Act.put, List.setIfInBounds_toArray, List.set_cons_zero, List.set_cons_succ]
        refine takeL [] (some 31) (.int .i64 k) (i := 2) rfl rfl (by kernel_rfl) (by kernel_rfl) (by kernel_rfl) (fun _ _ _ h => h) (by kernel_rfl) (by kernel_rfl) (by kernel_rfl) (by kernel_rfl) (by kernel_rfl) (fun w _ => by rfl) hS0 ?_
        simp only [Act.put, List.setIfInBounds_toArray, List.set_cons_zero, List.set_cons_succ]
        refine takeL [] (some 32) (.slice (some ⟨b, o, none⟩) m cp) (i := 3) rfl rfl (by kernel_rfl) (by kernel_rfl) (by kernel_rfl) (fun _ _ _ h => h) (by kernel_rfl) (by kernel_rfl) (by kernel_rfl) (by kernel_rfl) (by kernel_rfl) (fun w _ => by rfl) hS0 ?_
        simp only [Act.put, List.setIfInBounds_toArray, List.set_cons_zero, List.set_cons_succ]
        refine takeL [] (some 33) (.slice (some ⟨b, o, none⟩) m cp) (i := 4) rfl rfl (by kernel_rfl) (by kernel_rfl) (by kernel_rfl) (fun _ _ _ h => h) (by kernel_rfl) (by kernel_rfl) (by kernel_rfl) (by kernel_rfl) (by kernel_rfl) (fun w _ => by rfl) hS0 ?_
        simp only [Act.put, List.setIfInBounds_toArray, List.set_cons_zero, List.set_cons_succ]
        refine takeL [] (some 34) (.int .i64 m) (i := 5) rfl rfl (by kernel_rfl) (by kernel_rfl) (by kernel_rfl) (fun _ _ _ h => h) (by kernel_rfl) (by kernel_rfl) (by kernel_rfl) (by kernel_rfl) (by kernel_rfl) (fun w _ => by go_simp) hS0 ?_
        simp only [Act.put, List.setIfInBounds_toArray, List.set_cons_zero, List.set_cons_succ]
        refine takeL [] (some 35) (.slice (some ⟨b, o, none⟩) m cp) (i := 6) rfl rfl (by kernel_rfl) (by kernel_rfl) (by kernel_rfl) (fun _ _ _ h => h) (by kernel_rfl) (by kernel_rfl) (by kernel_rfl) (by kernel_rfl) (by kernel_rfl) (fun w _ => by rfl) hS0 ?_
        simp only [Act.put, List.setIfInBounds_toArray, List.set_cons_zero, List.set_cons_succ]
        refine takeL [] (some 36) (.int .i64 m) (i := 7) rfl rfl (by kernel_rfl) (by kernel_rfl) (by kernel_rfl) (fun _ _ _ h => h) (by kernel_rfl) (by kernel_rfl) (by kernel_rfl) (by kernel_rfl) (by kernel_rfl) (fun w _ => by go_simp) hS0 ?_
        simp only [Act.put, List.setIfInBounds_toArray, List.set_cons_zero, List.set_cons_succ]
        refine takeL [] (some 37) (.slice (some ⟨b, o, none⟩) m m) (i := 8) rfl rfl (by kernel_rfl) (by kernel_rfl) (by kernel_rfl) (fun _ _ _ h => h) (by kernel_rfl) (by kernel_rfl) (by kernel_rfl) (by kernel_rfl) (by kernel_rfl) (fun w _ => by go_simp) hS0 ?_
        simp only [Act.put, List.setIfInBounds_toArray, List.set_cons_zero, List.set_cons_succ]
        refine takeL [] (some 38) (.int .i64 c) (i := 9) rfl rfl (by kernel_rfl) (by kernel_rfl) (by kernel_rfl) (fun _ _ _ h => h) (by kernel_rfl) (by kernel_rfl) (by kernel_rfl) (by kernel_rfl) (by kernel_rfl) (fun w hSw => by obtain ⟨hS1, hS2⟩ := hSw; go_simp) hS0 ?_
        simp only [Act.put, List.setIfInBounds_toArray, List.set_cons_zero, List.set_cons_succ]
        refine takeL [] (some 39) (.slice (some ⟨b, o, none⟩) m cp) (i := 10) rfl rfl (by kernel_rfl) (by kernel_rfl) (by kernel_rfl) (fun _ _ _ h => h) (by kernel_rfl) (by kernel_rfl) (by kernel_rfl) (by kernel_rfl) (by kernel_rfl) (fun w _ => by rfl) hS0 ?_
        simp only [Act.put, List.setIfInBounds_toArray, List.set_cons_zero, List.set_cons_succ]
        refine takeL [] (some 40) (.int .i64 m) (i := 11) rfl rfl (by kernel_rfl) (by kernel_rfl) (by kernel_rfl) (fun _ _ _ h => h) (by kernel_rfl) (by kernel_rfl) (by kernel_rfl) (by kernel_rfl) (by kernel_rfl) (fun w _ => by go_simp) hS0 ?_
        simp only [Act.put, List.setIfInBounds_toArray, List.set_cons_zero, List.set_cons_succ]
        refine takeL [] (some 41) (.int .i64 (d : Int)) (i := 12) rfl rfl (by kernel_rfl) (by kernel_rfl) (by kernel_rfl) (fun _ _ _ h => h) (by kernel_rfl) (by kernel_rfl) (by kernel_rfl) (by kernel_rfl) (by kernel_rfl) (fun w _ => by go_simp) hS0 ?_
        simp only [Act.put, List.setIfInBounds_toArray, List.set_cons_zero, List.set_cons_succ]
        have hrun := pad_any (w.heap.size + 1) w1.heap.size (w1.heap.size + 2) X0 _ _ _ _ _ _ _ c ((HB0.out.block _ (row_lt HT.out.pb)).trans HT.out.pb) (H6.out.keep HB0.out) (HSF.out.step (StepM.of_below HB0.out (row_lt HT.out.pb))) (by rw [← HMM.out]; exact HMC.out) HF.out.2 (Nat.lt_of_lt_of_le (row_lt HT.out.cb) HB0.out.size)
        rw [← HMM.out, ← HDD.out] at hrun
        obtain ⟨v', X2, hrun, hb2, hgo⟩ := hrun
        refine wpAnyL_ready (rs := [13]) (by kernel_rfl) (by simp) ?_
        refine AllReadyL.cons rfl rfl (fun K hK => ?_) AllReadyL.nil
        refine step_append_run (by rfl) _ _ _ _ (by rfl) _ _ (by rfl) (by rfl) v' X2 hrun ?_
        have hS0 : X2.cell? ⟨w.heap.size + 1, 0, none⟩ = some (.slice (some ⟨g1, 0, none⟩) R.length c1) ∧ X2.cell? ⟨w1.heap.size, 0, none⟩ = some (.int .i64 c) := ⟨below_cell hb2 hS0.1, below_cell hb2 hS0.2⟩
        refine hK.out _ _ hS0 ?_
        clear hK K
        have HB2 := Lib.hid (below_later HB0.out (Nat.le_refl _) hb2)
        have HGO := Lib.hid hgo
        have hcell2 := below_cell hb2 (below_cell HB0.out hcell)
        have hfree2 := ((H6.out.keep HB0.out).keep hb2).a.frozenAt k
        obtain ⟨b9, o9, c9, e9, -⟩ := id hgo
        subst e9
        clear hb2 hgo hrun
        simp only [Act.put, List.setIfInBounds_toArray]
        refine takeL [] (some 43) (.pointer (some ⟨g1, k, none⟩)) (i := 14) rfl rfl (by kernel_rfl) (by kernel_rfl) (by kernel_rfl) (fun _ _ _ h => h) (by kernel_rfl) (by kernel_rfl) (by kernel_rfl) (by kernel_rfl) (by kernel_rfl) (fun w _ => by go_simp) hS0 ?_
        simp only [Act.put]
        refine wpAnyL_ready (rs := [15]) (by kernel_rfl) (by simp) ?_
        refine AllReadyL.cons rfl rfl (fun K hK => ?_) AllReadyL.nil
        rw [if_pos (by rfl)]
        go_simp
        have HN := Lib.hid (MkL.next HORD.out HT.out hlt HB2.out rfl HGO.out)
        refine hK.out _ _ ⟨?_, ?_⟩ ?_
        · exact row_cell HN.out.pb rfl
        · exact row_cell HN.out.cb rfl
        clear hK K hcell2 hfree2 hS0
        refine wpAnyL_done (by kernel_rfl) ?_ _
        refine NoPanic.normal ?_
        go_wp2_with fail
        rw [hw1]
        refine ⟨mkA_mk (k := k1) (by have := HK1.out; omega) rfl (by rw [HK1.out]; exact HN.out), ?_⟩
        simp [intOf]
        have := HK1.out
        omega

end Go.Proofs.Ytohebkpgjaaljaa
