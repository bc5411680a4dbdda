/- LinearChanged returns true for every input, and leaves its arguments as they were: rows that can be changed back have their rank, and make what they made. -/
import Derived.Test.YtjjdgphjkoppgaaSums
import Derived.Deep.QuietTactic
namespace Go.Proofs.Ytjjdgphjkoppgaa
open Go.ChangeShapes Go.WideShapes Go.ChangeAt Go.RowKit Go.Deep

abbrev ChangedTrue (v u : Value) (i k : Int) (n : Int) (w : World) : Prop :=
  Calls Try.prog 9 #[v, u, .int .u8 i, .int .u8 k, .int .i64 n] w fun e w' => e = .returned (.bool true) ∧ Below w.heap.size w w'

set_option maxRecDepth 100000 in
set_option maxHeartbeats 16000000 in
theorem changed_out (v u : Value) (rows : List (List Int)) (t : List Int) (i k n : Int) (w : World) (hI : Rows2 w v rows) (hU : Ints w u t) (q : Bool) (hq : rightQ rows t = q) (h : q = false ∨ rows.length = 0) : ChangedTrue v u i k n w := by
  have HQ := Lib.hid hq
  clear hq
  obtain ⟨a1, c1, rfl, -⟩ := id hI
  obtain ⟨a2, c2, rfl, -⟩ := id hU
  go_enter Try.func9, Try.ntmps9
  go_wp2_with fail
  with_reducible refine (sane_any _).mono ?_
  rintro e w1 ⟨rfl, b1⟩
  go_wp2_with fail
  with_reducible refine (right_is _ _ rows t q _ (hI.below b1) (hU.below b1) HQ.out).mono ?_
  rintro e w2 ⟨rfl, b2⟩
  have t2 := b1.trans (b2.mono b1.size)
  cases q with
  | false =>
    clear h
    go_wp2_with fail
    go_ret
    exact ⟨rfl, t2⟩
  | true =>
    have hne : ((rows.length : Int) == 0) = true := by rw [beq_iff_eq]; rcases h with h | h <;> first | cases h | omega
    clear h
    go_wp2_with fail
    go_ret
    exact ⟨rfl, t2⟩

/-- What the changed row holds. -/
def chF (rows : List (List Int)) (i k : Nat) (n : Int) (j : Nat) : Int :=
  if i ≠ k then (nth (rows[i]?.getD []) j + n * nth (rows[k]?.getD []) j) % 1073741789 else if n % 1073741789 ≠ 0 then n * nth (rows[i]?.getD []) j % 1073741789 else nth (rows[i]?.getD []) j
def chG (rows : List (List Int)) (i k : Nat) (n : Int) (J : Nat) : Nat → Int := fun j => if j < J then chF rows i k n j else 0
def chL (rows : List (List Int)) (i k : Nat) (n : Int) (m : Nat) : List Int := (List.range m).map (chF rows i k n)
theorem chG_0 (rows : List (List Int)) (i k : Nat) (n : Int) : chG rows i k n 0 = fun _ => 0 := by funext j; unfold chG; rw [if_neg (by omega)]
theorem chG_s (rows : List (List Int)) (i k : Nat) (n : Int) (J : Nat) : (fun j => if j = J then chF rows i k n J else chG rows i k n J j) = chG rows i k n (J + 1) := by
  funext j; unfold chG
  by_cases e : j = J
  · rw [if_pos e, if_pos (by omega), e]
  · rw [if_neg e]
    by_cases h : j < J
    · rw [if_pos h, if_pos (by omega)]
    · rw [if_neg h, if_neg (by omega)]

theorem ch_step {w7 wr W8 : World} {Y m I K j : Nat} {rows : List (List Int)} {n z : Int} (hIj : IBlk wr Y m (chG rows I K n j)) (hb9 : Below wr.heap.size wr W8) (hsj : Y < wr.heap.size) (hbj : Below Y w7 wr) (hz : chF rows I K n j = z) :
    IBlk (W8.setCell ⟨Y, j, none⟩ (.int .i64 z)) Y m (chG rows I K n (j + 1)) ∧ Below Y w7 (W8.setCell ⟨Y, j, none⟩ (.int .i64 z)) ∧ Y < (W8.setCell ⟨Y, j, none⟩ (.int .i64 z)).heap.size := by
  have h1 := (hIj.below hb9 hsj).set (k := j) z
  refine ⟨?_, (hbj.trans (hb9.mono (Nat.le_of_lt hsj))).setCell (p := ⟨Y, j, none⟩) (Nat.le_refl _) _, by have := hb9.size; simp [World.setCell]; omega⟩
  rw [← hz] at h1 ⊢
  rw [chG_s] at h1
  exact h1

theorem chF_num {rows : List (List Int)} {m i k : Nat} {n : Int} (h : Right rows m) (hi : i < rows.length) {j : Nat} (hj : j < m) : 0 ≤ chF rows i k n j ∧ chF rows i k n j < 1073741789 := by
  unfold chF
  split
  · exact mod_num _
  · split
    · exact mod_num _
    · rw [List.getElem?_eq_getElem hi]
      have hl := h.len _ (List.getElem_mem hi)
      show 0 ≤ nth rows[i] j ∧ nth rows[i] j < _
      rw [nth_at (by omega)]
      exact h.num _ (List.getElem_mem hi) _ (List.getElem_mem _)

theorem ch_right {rows : List (List Int)} {m i k : Nat} {n : Int} (h : Right rows m) (hi : i < rows.length) : Right (rows.set i (chL rows i k n m)) m :=
  ⟨by rw [List.length_set]; exact h.few, h.narrow.imp id (fun e => by subst e; rfl), fun r hr => by
    rcases List.mem_or_eq_of_mem_set hr with h1 | rfl
    · exact h.len r h1
    · simp [chL], fun r hr z hz => by
    rcases List.mem_or_eq_of_mem_set hr with h1 | rfl
    · exact h.num r h1 z hz
    · obtain ⟨j, hj, rfl⟩ := List.mem_map.1 hz
      exact chF_num h hi (List.mem_range.1 hj)⟩

/-- The changed rows have the rank of the rows, and make what they make. -/
theorem ch_law {rows : List (List Int)} {t : List Int} {i k : Nat} {n : Int} (h : Right rows t.length) (ht : ∀ z ∈ t, 0 ≤ z ∧ z < 1073741789) (hi : i < rows.length) (hk : k < rows.length) :
    rrankQ (rows.set i (chL rows i k n t.length)) = rrankQ rows ∧ rcombOk (rows.set i (chL rows i k n t.length)) t = rcombOk rows t := by
  have hR := ch_right (k := k) (n := n) h hi
  have hker := changed_ker (rows := rows) (r := chL rows i k n t.length) (m := t.length) (i := i) (k := k) (n := cq n) hi hk (by
    have hcv : ∀ j, j < t.length → cv (chL rows i k n t.length) j = cq (chF rows i k n j) := fun j hj => by
      show cq (nth (chL rows i k n t.length) j) = _
      rw [show nth (chL rows i k n t.length) j = chF rows i k n j from nth_map _ _ hj]
    by_cases e : i = k
    · by_cases hn : n % 1073741789 = 0
      · exact .inr (.inr fun j hj => by
          rw [hcv j hj]; unfold chF
          rw [if_neg (fun x => x e), if_neg (fun x => x hn)]; rfl)
      · exact .inr (.inl ⟨fun x => hn (cq_zero.1 x), fun j hj => by
          rw [hcv j hj]; unfold chF
          rw [if_neg (fun x => x e), if_pos hn, cq_mod, cq_mul]; rfl⟩)
    · exact .inl ⟨e, fun j hj => by
        rw [hcv j hj]; unfold chF
        rw [if_pos e, cq_mod, cq_add, cq_mul]; rfl⟩)
  refine ⟨(rank_ker h hR hker).symm, ?_⟩
  rw [Bool.eq_iff_iff, comb_span hR ht, comb_span h ht, made_ker h, made_ker hR]
  exact ⟨fun h1 v hv => h1 v ((hker v).1 hv), fun h1 v hv => h1 v ((hker v).2 hv)⟩

set_option maxRecDepth 100000 in
set_option maxHeartbeats 16000000 in
theorem changed_in (v u : Value) (rows : List (List Int)) (t : List Int) (i k n : Int) (w : World) (hI : Rows2 w v rows) (hU : Ints w u t) (hi : 0 ≤ i ∧ i < 256) (hk : 0 ≤ k ∧ k < 256) (hn : R64 n) (hq : rightQ rows t = true) (h0 : 0 < rows.length) : ChangedTrue v u i k n w := by
  obtain ⟨e1, hR, ht, ht16, hn16⟩ := rightQ_ok hq
  obtain ⟨I, hIe⟩ : ∃ I : Nat, i.tmod (rows.length : Int) = (I : Int) ∧ I < rows.length := by
    refine ⟨(i.tmod (rows.length : Int)).toNat, ?_, ?_⟩
    · rw [Int.tmod_eq_emod_of_nonneg hi.1]; have := Int.emod_nonneg i (b := (rows.length : Int)) (by omega); omega
    · rw [Int.tmod_eq_emod_of_nonneg hi.1]; have := Int.emod_lt_of_pos i (b := (rows.length : Int)) (by omega); have := Int.emod_nonneg i (b := (rows.length : Int)) (by omega); omega
  obtain ⟨K, hKe⟩ : ∃ K : Nat, k.tmod (rows.length : Int) = (K : Int) ∧ K < rows.length := by
    refine ⟨(k.tmod (rows.length : Int)).toNat, ?_, ?_⟩
    · rw [Int.tmod_eq_emod_of_nonneg hk.1]; have := Int.emod_nonneg k (b := (rows.length : Int)) (by omega); omega
    · rw [Int.tmod_eq_emod_of_nonneg hk.1]; have := Int.emod_lt_of_pos k (b := (rows.length : Int)) (by omega); have := Int.emod_nonneg k (b := (rows.length : Int)) (by omega); omega
  obtain ⟨hIm, hIl⟩ := hIe
  obtain ⟨hKm, hKl⟩ := hKe
  obtain ⟨i0, i1⟩ := hi
  obtain ⟨k0, k1⟩ := hk
  have hne : ((rows.length : Int) == 0) = false := by rw [beq_eq_false_iff_ne]; omega
  have HQ := Lib.hid hq
  have HE := Lib.hid e1
  have HR := Lib.hid hR
  have HT := Lib.hid ht
  clear hq e1 hR ht
  obtain ⟨a1, c1, rfl, hcc, hll, hkk⟩ := id hI
  obtain ⟨b, off, rI, rfl, hcI, hrI⟩ := hkk I hIl
  obtain ⟨b', off', rK, eK, hcK, hrK⟩ := hkk K hKl
  injection eK with e2
  injection e2 with e3 e4
  subst e3; subst e4
  have hlI : rows[I].length = t.length := HR.out.len _ (List.getElem_mem hIl)
  have hlK : rows[K].length = t.length := HR.out.len _ (List.getElem_mem hKl)
  have HXI := Lib.hid (fun j (hj : j < t.length) => hrI.get (k := j) (by omega))
  have HXK := Lib.hid (fun j (hj : j < t.length) => hrK.get (k := j) (by omega))
  obtain ⟨pI, cI, rfl, mI1, mI2, -⟩ := id hrI
  obtain ⟨pK, cK, rfl, mK1, mK2, -⟩ := id hrK
  rw [hlI] at hcI HXI mI1 mI2
  rw [hlK] at hcK HXK mK1 mK2
  clear hkk hrI hrK hlI hlK
  obtain ⟨a2, c2, rfl, k1', k2', -⟩ := id hU
  go_enter Try.func9, Try.ntmps9
  go_wp2_with fail
  with_reducible refine (sane_any _).mono ?_
  rintro e w1 ⟨rfl, b1⟩
  go_wp2_with fail
  with_reducible refine (right_is _ _ rows t true _ (hI.below b1) (hU.below b1) HQ.out).mono ?_
  rintro e w2 ⟨rfl, b2⟩
  have t2 := b1.trans (b2.mono b1.size)
  have hI2 := hI.below t2
  have hU2 := hU.below t2
  have hwi : IntKind.i64.wrap i = i := IntWalk.i64_in _ (by omega)
  have hwk : IntKind.i64.wrap k = k := IntWalk.i64_in _ (by omega)
  have hL0 : ((rows.length : Int)) ≠ 0 := by omega
  go_wp2_with fail
  go_quiet (fail)
  have hI3 := hI2.drewN nq
  have hU3 := hU2.drewN nq
  have b3 : Below w2.heap.size w2 (w2.drewN nq) := below_drewN (Below.refl _ _) nq
  obtain ⟨W3, hW3⟩ : ∃ W3, W3 = w2.drewN nq := ⟨_, rfl⟩
  rw [← hW3] at hI3 hU3 b3 ⊢
  have t3 := t2.trans (b3.mono t2.size)
  clear hW3 hI2 hU2 hwi hwk hL0
  obtain ⟨a5, c5, w5, hs5, hrun, hc5, hown5, hl5, hi5, hb5⟩ := app_rows2 W3 _ rows hI3 (by omega)
  obtain ⟨g, e5, hBg, hgs⟩ : ∃ g, a5 = some ⟨g, 0, none⟩ ∧ W3.heap.size ≤ g ∧ g < w5.heap.size := by
    obtain ⟨-, ⟨e, e0⟩ | ⟨g, cap, cur, e, hB, hh, hrest⟩⟩ := id hown5
    · omega
    · injection e with e1
      exact ⟨g, e1, hB, (Array.getElem?_eq_some_iff.1 hh).1⟩
  subst e5
  have hmk := run_ints t.length (by omega)
  have t5 := t3.trans (hb5.mono t3.size)
  have j1 : (0 : Int) ≤ (I : Int) := by omega
  have j2 : (I : Int) < (rows.length : Int) := by omega
  have hown6 := hown5.alloc (.cells (madeCells #[.int .i64 0] t.length) 3)
  have hcg : (w5.alloc (.cells (madeCells #[.int .i64 0] t.length) 3)).cell? ⟨g, I, none⟩ = some (hs5[I]'(by omega)) := by
    rw [hown6.cellAt I (by omega), List.getElem?_eq_getElem (by omega)]
  have hfg : (w5.alloc (.cells (madeCells #[.int .i64 0] t.length) 3)).frozen? ⟨g, I, none⟩ = false := hown6.frozenAt I
  go_wp2_with (at_builtin; refine wpList_app_run rfl _ _ _ rfl _ _ _ rfl rfl hrun ?_)
  have hIl5 : I < hs5.length := by omega
  obtain ⟨Y, hY⟩ : ∃ Y, Y = w5.heap.size := ⟨_, rfl⟩
  obtain ⟨w7, hw7⟩ : ∃ w7, (w5.setCell ⟨g, I, none⟩ (.slice (some ⟨w5.heap.size, 0, none⟩) t.length t.length)).alloc (.cells (madeCells #[.int .i64 0] t.length) 3) = w7 := ⟨_, rfl⟩
  have hz7 : (w5.setCell ⟨g, I, none⟩ (.slice (some ⟨w5.heap.size, 0, none⟩) t.length t.length)).heap.size = Y := by rw [hY]; simp [World.setCell]
  have hI1 : IBlk w7 Y t.length (chG rows I K n 0) := by rw [← hw7, chG_0, ← hz7]; exact IBlk.made _ _ _
  have hY5 : Below Y (w5.setCell ⟨g, I, none⟩ (.slice (some ⟨w5.heap.size, 0, none⟩) t.length t.length)) w7 := by rw [← hw7]; exact (Below.refl _ _).alloc (by rw [hz7]; exact Nat.le_refl _) _
  have hg7 : w7.cell? ⟨g, I, none⟩ = some (.slice (some ⟨Y, 0, none⟩) t.length t.length) := by
    rw [hY5.cell (p := ⟨g, I, none⟩) (show g < Y by omega), hY]
    exact World.cell?_setCell_same' _ _ _ (by rw [hown5.cellAt I (by omega), List.getElem?_eq_getElem hIl5]; rfl)
  have hq7 : ∀ q (hq : q < hs5.length), q ≠ I → w7.cell? ⟨g, q, none⟩ = some hs5[q] := fun q hq hne => by
    rw [hY5.cell (p := ⟨g, q, none⟩) (show g < Y by omega), set_other (.inr (fun e => hne e.symm)), hown5.cellAt q (by omega), List.getElem?_eq_getElem hq]
  have hb7 : Below W3.heap.size W3 w7 := by
    rw [← hw7]
    exact (hb5.setCell (p := ⟨g, I, none⟩) hBg _).alloc (by rw [hz7, hY]; exact hb5.size) _
  have t7 := t3.trans (hb7.mono t3.size)
  have hs7 : Y < w7.heap.size := by rw [← hw7, World.size_alloc, hz7]; omega
  have hcI5 := below_cell t5 hcI
  have hcK5 := below_cell t5 hcK
  have lI : b < Y := by rw [hY]; exact lt_of_cell hcI5
  have hcI7 := below_cell t7 hcI
  have hcK7 := below_cell t7 hcK
  have hgY : g < Y := by omega
  have HI5 := Lib.hid (fun k (h1 : k < hs5.length) (h2 : k < rows.length) => hi5 k h1 h2)
  have HQ7 := Lib.hid hq7
  have HY := Lib.hid hY
  rw [hw7, ← hY]
  clear hw7 hz7 hY5 hq7 hi5 hrun hmk hown6 hcg hfg hY
  go_loopw [57] (fun i wr => ∃ j : Nat, j ≤ t.length ∧ i = .int .i64 j ∧ IBlk wr Y t.length (chG rows I K n j) ∧ Below Y w7 wr ∧ Y < wr.heap.size) (fun i _ => t.length - (intOf i).toNat)
  case atStart => exact ⟨0, Nat.zero_le _, rfl, hI1, Below.refl _ _, hs7⟩
  case round =>
    obtain ⟨j, hjm, rfl, hIj, hbj, hsj⟩ := hrel
    by_cases hlj : j < t.length
    · obtain ⟨hrx, bx, ox, _, _, e1, hcx⟩ := HXI.out j hlj
      injection e1 with e2 e3 e4
      subst e2
      clear e3 e4
      obtain ⟨hry, by', oy, _, _, e1, hcy⟩ := HXK.out j hlj
      injection e1 with e2 e3 e4
      subst e2
      clear e3 e4
      have lx : bx < Y := by rw [HY.out]; exact lt_of_cell (below_cell t5 hcx)
      have ly : by' < Y := by rw [HY.out]; exact lt_of_cell (below_cell t5 hcy)
      have hcx := (hbj.cell (p := ⟨bx, ox + j, none⟩) lx).trans (below_cell t7 hcx)
      have hcy := (hbj.cell (p := ⟨by', oy + j, none⟩) ly).trans (below_cell t7 hcy)
      have hcIr := (hbj.cell (p := ⟨b, off + I, none⟩) lI).trans hcI7
      have hcKr := (hbj.cell (p := ⟨b, off + K, none⟩) lI).trans hcK7
      have hgr := (hbj.cell (p := ⟨g, I, none⟩) hgY).trans hg7
      have HF := Lib.hid (show chF rows I K n j = if I ≠ K then (nth rows[I] j + n * nth rows[K] j) % 1073741789 else if n % 1073741789 ≠ 0 then n * nth rows[I] j % 1073741789 else nth rows[I] j by
        unfold chF; rw [List.getElem?_eq_getElem hIl, List.getElem?_eq_getElem hKl]; rfl)
      obtain ⟨zx, hzx⟩ : ∃ z, z = nth rows[I] j := ⟨_, rfl⟩
      obtain ⟨zy, hzy⟩ : ∃ z, z = nth rows[K] j := ⟨_, rfl⟩
      rw [← hzx] at hrx hcx HF
      rw [← hzy] at hry hcy HF
      have i1 : (0 : Int) ≤ (j : Int) := by omega
      have i2 : (j : Int) < (t.length : Int) := by omega
      have hmr := mod_r64 (n * zy)
      have hyc := hIj.cell j hlj
      have hyf := hIj.fro j hlj
      rw [show chG rows I K n j j = 0 by unfold chG; rw [if_neg (by omega)]] at hyc
      have hycd : wr.drew.cell? ⟨Y, j, none⟩ = some (.int .i64 0) := hyc
      have hyfd : wr.drew.frozen? ⟨Y, j, none⟩ = false := hyf
      have hgrd : wr.drew.cell? ⟨g, I, none⟩ = some (.slice (some ⟨Y, 0, none⟩) t.length t.length) := hgr
      have hsjd : Y < wr.drew.heap.size := hsj
      clear hzx hzy
      by_cases hIK : I = K
      · have hb1 : ((I : Int) != (K : Int)) = false := by rw [hIK]; simp
        by_cases hn0 : n % 1073741789 = 0
        · have hF := HF.out
          rw [if_neg (fun x => x hIK), if_neg (fun x => x hn0)] at hF
          have HF := Lib.hid hF
          have hb2 : (n % 1073741789 != 0) = false := by rw [hn0]; rfl
          clear hF hIK hn0
          go_wp2_with fail
          with_reducible refine (mod_any n _ hn).mono ?_
          rintro e w8 ⟨rfl, rfl⟩
          go_wp2_with fail
          have d1 : wr.drew.cell? ⟨b, off + I, none⟩ = some (.slice (some ⟨bx, ox, none⟩) t.length cI) := hcIr
          have d3 : wr.drew.cell? ⟨bx, ox + j, none⟩ = some (.int .i64 zx) := hcx
          have n1 : Y ≠ g := by omega
          have n2 : Y ≠ b := by omega
          have n3 : Y ≠ bx := by omega
          have hb9 : Below wr.heap.size wr wr.drew := (Below.refl wr.heap.size wr).drew
          go_region_held3 (fun w' => w'.cell? ⟨g, I, none⟩ = some (.slice (some ⟨Y, 0, none⟩) t.length t.length) ∧ w'.cell? ⟨b, off + I, none⟩ = some (.slice (some ⟨bx, ox, none⟩) t.length cI) ∧ w'.cell? ⟨bx, ox + j, none⟩ = some (.int .i64 zx))
            (first | go_keep | exact ⟨(set_other (.inl n1)).trans (by assumption), (set_other (.inl n2)).trans (by assumption), (set_other (.inl n3)).trans (by assumption)⟩) (fail)
          go_wp2_with fail
          go_roundw
          case rel => exact ⟨j + 1, by omega, by go_num, ch_step hIj hb9 hsj hbj HF.out⟩
          case measure => simp [intOf]; omega
        · have hF := HF.out
          rw [if_neg (fun x => x hIK), if_pos hn0] at hF
          have HF := Lib.hid hF
          have hb2 : (n % 1073741789 != 0) = true := by rw [bne_iff_ne]; exact hn0
          clear hF hIK hn0
          go_wp2_with fail
          with_reducible refine (mod_any n _ hn).mono ?_
          rintro e w8 ⟨rfl, rfl⟩
          go_wp2_with fail
          have d1 : wr.drew.cell? ⟨b, off + I, none⟩ = some (.slice (some ⟨bx, ox, none⟩) t.length cI) := hcIr
          have d3 : wr.drew.cell? ⟨bx, ox + j, none⟩ = some (.int .i64 zx) := hcx
          have n1 : Y ≠ g := by omega
          have n2 : Y ≠ b := by omega
          have n3 : Y ≠ bx := by omega
          have hb9 : Below wr.heap.size wr wr.drew := (Below.refl wr.heap.size wr).drew
          go_region_held3 (fun w' => w'.cell? ⟨g, I, none⟩ = some (.slice (some ⟨Y, 0, none⟩) t.length t.length) ∧ w'.cell? ⟨b, off + I, none⟩ = some (.slice (some ⟨bx, ox, none⟩) t.length cI) ∧ w'.cell? ⟨bx, ox + j, none⟩ = some (.int .i64 zx))
            (first | go_keep | exact ⟨(set_other (.inl n1)).trans (by assumption), (set_other (.inl n2)).trans (by assumption), (set_other (.inl n3)).trans (by assumption)⟩)
            ((go_at_call 25; with_reducible refine (mul_any n zx _ hn hrx).mono ?_; rintro e w9 ⟨rfl, rfl⟩))
          go_wp2_with fail
          go_roundw
          case rel => exact ⟨j + 1, by omega, by go_num, ch_step hIj hb9 hsj hbj HF.out⟩
          case measure => simp [intOf]; omega
      · have hF := HF.out
        rw [if_pos hIK] at hF
        have HF := Lib.hid hF
        have hb1 : ((I : Int) != (K : Int)) = true := by rw [bne_iff_ne]; omega
        clear hF hIK
        go_wp2_with fail
        have d1 : wr.drew.cell? ⟨b, off + I, none⟩ = some (.slice (some ⟨bx, ox, none⟩) t.length cI) := hcIr
        have d2 : wr.drew.cell? ⟨b, off + K, none⟩ = some (.slice (some ⟨by', oy, none⟩) t.length cK) := hcKr
        have d3 : wr.drew.cell? ⟨bx, ox + j, none⟩ = some (.int .i64 zx) := hcx
        have d4 : wr.drew.cell? ⟨by', oy + j, none⟩ = some (.int .i64 zy) := hcy
        have n1 : Y ≠ g := by omega
        have n2 : Y ≠ b := by omega
        have n3 : Y ≠ bx := by omega
        have n4 : Y ≠ by' := by omega
        go_region_held3 (fun w' => w'.cell? ⟨g, I, none⟩ = some (.slice (some ⟨Y, 0, none⟩) t.length t.length) ∧ w'.cell? ⟨b, off + I, none⟩ = some (.slice (some ⟨bx, ox, none⟩) t.length cI) ∧ w'.cell? ⟨b, off + K, none⟩ = some (.slice (some ⟨by', oy, none⟩) t.length cK) ∧ w'.cell? ⟨bx, ox + j, none⟩ = some (.int .i64 zx) ∧ w'.cell? ⟨by', oy + j, none⟩ = some (.int .i64 zy))
          (first | go_keep | exact ⟨(set_other (.inl n1)).trans (by assumption), (set_other (.inl n2)).trans (by assumption), (set_other (.inl n2)).trans (by assumption), (set_other (.inl n3)).trans (by assumption), (set_other (.inl n4)).trans (by assumption)⟩)
          (first
          | (go_at_call 25; with_reducible refine (mul_any n zy _ hn hry).mono ?_; rintro e w8 ⟨rfl, rfl⟩)
          | (go_at_call 24; with_reducible refine (add_any zx (n * zy % 1073741789) _ hrx hmr).mono ?_; rintro e w8 ⟨rfl, hb8⟩; have hk1 := below_cell hb8 hycd; have hk2 := (hb8.frozen (p := ⟨Y, j, none⟩) hsjd).trans hyfd; have hk3 := below_cell hb8 hgrd; have hk4 := below_cell hb8 d1; have hk5 := below_cell hb8 d2; have hk6 := below_cell hb8 d3; have hk7 := below_cell hb8 d4))
        have hb9 : Below wr.heap.size wr w8 := ((Below.refl wr.heap.size wr).drew).trans hb8
        go_wp2_with fail
        go_roundw
        case rel => exact ⟨j + 1, by omega, by go_num, ch_step hIj hb9 hsj hbj HF.out⟩
        case measure => simp [intOf]; omega
    · obtain rfl : j = t.length := by omega
      have hIe : IBlk wr Y t.length (chF rows I K n) := ⟨fun i hi => by rw [hIj.cell i hi]; unfold chG; rw [if_pos hi], hIj.fro⟩
      have hIN := hIe.ints (c := t.length) (Nat.le_refl _) (by omega) (fun i hi => num_r64 (chF_num HR.out hIl hi))
      have b7r : Below W3.heap.size w7 wr := hbj.mono (by rw [HY.out]; exact hb5.size)
      have tr := t7.trans (b7r.mono t3.size)
      have b5r : Below W3.heap.size W3 wr := hb7.trans b7r
      have hIr := hI3.below b5r
      have hUr := hU3.below b5r
      have hR9 : Rows2 wr (.slice (some ⟨g, 0, none⟩) rows.length c5) (rows.set I (chL rows I K n t.length)) := by
        refine ⟨some ⟨g, 0, none⟩, c5, by simp, by simpa using hc5, by simp; omega, fun q hq => ?_⟩
        have hq1 : q < rows.length := by simpa using hq
        by_cases e : q = I
        · subst e
          refine ⟨g, 0, _, rfl, by rw [Nat.zero_add]; exact (hbj.cell (p := ⟨g, q, none⟩) hgY).trans hg7, ?_⟩
          rw [List.getElem_set_self]; exact hIN
        · refine ⟨g, 0, hs5[q]'(by omega), rfl, by rw [Nat.zero_add]; exact (hbj.cell (p := ⟨g, q, none⟩) hgY).trans (HQ7.out q (by omega) e), ?_⟩
          rw [List.getElem_set_ne (fun x => e x.symm)]
          exact (HI5.out q (by omega) hq1).below b5r
      obtain ⟨law1, law2⟩ := ch_law (k := K) (n := n) HR.out HT.out hIl hKl
      have HR2 := Lib.hid (ch_right (k := K) (n := n) HR.out hIl)
      have HE2 := Lib.hid (exam_right HR2.out HT.out (by omega))
      obtain ⟨r0, hr0⟩ : ∃ r0 : Int, ((rrankQ rows : Nat) : Int) = r0 := ⟨_, rfl⟩
      rw [← law1] at hr0
      have HK1 := Lib.hid (show ((rrankQ rows : Nat) : Int) = r0 by rw [← law1]; exact hr0)
      have HK2 := Lib.hid hr0
      obtain ⟨ok, hok⟩ : ∃ ok, rcombOk rows t = ok := ⟨_, rfl⟩
      have HO2 := Lib.hid (law2.trans hok)
      have HO1 := Lib.hid hok
      clear law1 law2 hr0 hok
      go_wp2_with fail
      with_reducible refine (Rank_v _ rows t.length r0 _ hIr HR.out HK1.out).mono ?_
      rintro e w8 ⟨rfl, b8⟩
      have t8 := tr.trans (b8.mono tr.size)
      go_wp2_with fail
      with_reducible refine (Rank_v _ (rows.set I (chL rows I K n t.length)) t.length r0 _ (hR9.below b8) HR2.out HK2.out).mono ?_
      rintro e w9 ⟨rfl, b9⟩
      have t9 := t8.trans (b9.mono t8.size)
      go_wp2_with fail
      with_reducible refine (Comb_b _ _ rows t ok _ ((hIr.below b8).below b9) ((hUr.below b8).below b9) HE.out HO1.out).mono ?_
      rintro e w10 ⟨y10, rfl, b10⟩
      have t10 := t9.trans (b10.mono t9.size)
      go_wp2_with fail
      with_reducible refine (Comb_b _ _ (rows.set I (chL rows I K n t.length)) t ok _ (((hR9.below b8).below b9).below b10) (((hUr.below b8).below b9).below b10) HE2.out HO2.out).mono ?_
      rintro e w11 ⟨y11, rfl, b11⟩
      have t11 := t10.trans (b11.mono t10.size)
      go_wp2_with fail
      go_ret
      refine ⟨?_, t11⟩
      first | rfl | simp | (cases ok <;> rfl)

theorem linearChanged_any (v u : Value) (rows : List (List Int)) (t : List Int) (i k n : Int) (w : World) (hI : Rows2 w v rows) (hU : Ints w u t) (hi : 0 ≤ i ∧ i < 256) (hk : 0 ≤ k ∧ k < 256) (hn : R64 n) : ChangedTrue v u i k n w := by
  cases hq : rightQ rows t with
  | false => exact changed_out v u rows t i k n w hI hU _ hq (.inl rfl)
  | true =>
    by_cases h0 : 0 < rows.length
    · exact changed_in v u rows t i k n w hI hU hi hk hn hq h0
    · exact changed_out v u rows t i k n w hI hU _ hq (.inr (by omega))

/-- What the row asks, from what the call leaves. -/
theorem linearChanged_contract (H : Type) (enc : TypeId × Value → H) (W : World) (base : Nat) (args : Array Value) (ds gs : List (DataW H)) (before : List MemPlace)
    (hval : ∀ (j : Nat) t v, Try.f9.params[j]? = some t → args[j]? = some v → Value.okWide Try.prog W .any base t v)
    (hW : DataW.Whole enc Try.prog Try.f9.params.toList Rows.linearChangedSpec.vars false W args.toList ds gs before)
    (hreach : (DataW.weightsEach Try.prog (Try.f9.params.toList ++ Rows.linearChangedSpec.plain.varTypes Try.prog) (ds ++ gs)).all (· ≤ reachBytes) = true) :
    Calls Try.prog 9 args W fun e W' => ∃ v, e = .returned v ∧ Rows.linearChangedSpec.post enc Try.prog Try.f9 false true false false W args v W' := by
  obtain ⟨p, q, hA0, hV, rfl, hfz, hnd⟩ := id hW
  have hA : DataW.TrodAll enc Try.prog W 0 (fun _ => true) true Try.f9.params.toList args.toList ds p := hA0
  have hA2 := hA
  rw [Try.params9] at hA hval hreach
  obtain ⟨v0, vs0, d0, ds0, p0, q0, hargs, rfl, rfl, h0, r0⟩ := trodAll_cons hA
  obtain ⟨v1, vs1, d1, ds1, p1, q1, rfl, rfl, rfl, h1, r1⟩ := trodAll_cons r0
  obtain ⟨v2, vs2, d2, ds2, p2, q2, rfl, rfl, rfl, h2, r2⟩ := trodAll_cons r1
  obtain ⟨v3, vs3, d3, ds3, p3, q3, rfl, rfl, rfl, h3, r3⟩ := trodAll_cons r2
  obtain ⟨v4, vs4, d4, ds4, p4, q4, rfl, rfl, rfl, h4, r4⟩ := trodAll_cons r3
  obtain ⟨rfl, rfl, rfl⟩ := trodAll_nil r4
  obtain rfl : args = #[v0, v1, v2, v3, v4] := by cases args; simp_all
  obtain ⟨rfl, rfl⟩ := trodVars_none hV
  simp only [List.append_nil] at hW hA2
  obtain ⟨x0, k0⟩ := open_rows (okWide_slice Try.underlying22 (hval 0 22 v0 rfl rfl)) h0 (light_of hreach (j := 0) rfl rfl)
  obtain ⟨x1, k1⟩ := open_list (okWide_slice Try.underlying29 (hval 1 29 v1 rfl rfl)) h1 (light_of hreach (j := 1) rfl rfl)
  obtain ⟨x2, rfl, rfl, -, k2⟩ := open_int Try.underlying5 (hval 2 5 v2 rfl rfl) h2
  obtain ⟨x3, rfl, rfl, -, k3⟩ := open_int Try.underlying5 (hval 3 5 v3 rfl rfl) h3
  obtain ⟨x4, rfl, rfl, -, k4⟩ := open_int Try.underlying3 (hval 4 3 v4 rfl rfl) h4
  refine (linearChanged_any v0 v1 x0 x1 x2 x3 x4 W k0 k1 (u8_wf k2) (u8_wf k3) (i64_wf k4)).mono fun e W' ⟨he, hb⟩ => ⟨_, he, ?_⟩
  exact law_post rfl rfl (by kernel_rfl) hA2 hW hb rfl

set_option maxRecDepth 100000 in
theorem linearChanged_lifted (os : Os) (started : os.Started) (H : Type) (enc : TypeId × Value → H) :
    ReturnsInHanded {} Try.checked os 9 .any (Rows.linearChangedSpec.pre6 enc Try.prog Try.f9 Rows.linearChangedRow.domain false) (Rows.linearChangedSpec.post enc Try.prog Try.f9 false true false false) := by
  refine returnsInHanded_of_change_sized (C := Try.checked) ownKnobP started (by kernel_rfl) Try.func9
    (ChangeSpec.witness6 (enc := enc) (C := Try.checked) false ⟨#[], #[.slice none 0 0, .slice none 0 0, .int .u8 0, .int .u8 0, .int .i64 0], []⟩ 8 (by kernel_rfl) (by kernel_rfl) (by kernel_rfl) (by kernel_rfl)) ?_
  intro W base args ds gs before hval hW _ hreach _
  exact linearChanged_contract H enc W base args ds gs before hval hW hreach

theorem linearChanged_holds : Rows.LinearChangedSaid :=
  OpenClaim.holds_of_wide 9 Try.f9 rfl rfl rfl rfl rfl rfl rfl ⟨rfl, rfl, rfl, rfl, rfl⟩ rfl rfl rfl rfl rfl (by kernel_rfl) Try.func9 (by kernel_rfl)
    (of_decide_eq_true (by kernel_rfl)) (by unfold Func.isWrapper; first | (rw [if_pos (by decide +kernel)]; kernel_rfl) | (rw [if_neg (by decide +kernel)]; exact ⟨rfl, rfl⟩))
    (fun os started H enc _ => linearChanged_lifted os started H enc)
#print axioms linearChanged_holds

end Go.Proofs.Ytjjdgphjkoppgaa
