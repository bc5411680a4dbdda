/- The laws of dealing: DealingSum, the walk. -/
import Derived.Test.YtbegnincmlepgaaMSuA
import Derived.Deep.RegionHeld3
import Derived.Deep.RegionLaw
import Derived.Deep.AppendLies
namespace Go.Proofs.Ytbegnincmlepgaa
open Go.RowKit FP

set_option maxRecDepth 100000 in
/-- One share is appended, as a step of a region that draws. -/
theorem step_app_share {ops : Array Oper} {o : Oper} {a : Act} {K : Act → World → Prop} {Q : Exit → Act → World → Prop} {E : Prop} {W : World} (hgd : o.guard = none) (s x : Operand) (ho : o.op = .call { callee := .builtin .append, args := #[s, x], argTypes := #[32, 32] })
    (base : Nat) (v : Value) (l : List (Int × Int)) (n : Nat) (hs : a.eval s = v) (hown : W.ownsRow base 37 2 v n (l.flatMap shaC)) (b c : Nat) (z : Int × Int) (hx : a.eval x = .slice (some ⟨b, 0, none⟩) 1 c) (h0 : W.cell? ⟨b, 0, none⟩ = some (.int .i64 z.1)) (h1 : W.cell? ⟨b, 1, none⟩ = some (.int .i64 z.2)) (hn : n ≤ 1000000) (hbase : base ≤ W.heap.size)
    (h : ∀ g cap w', w'.ownsRow base 37 2 (.slice (some ⟨g, 0, none⟩) (n + 1) cap) (n + 1) ((l ++ [z]).flatMap shaC) → Onto W v w' (.slice (some ⟨g, 0, none⟩) (n + 1) cap) → K (a.put o.dst (.slice (some ⟨g, 0, none⟩) (n + 1) cap)) w') :
    if Region.wanted o (yielded ops a.tmps) = true then Oper.wp Try.prog o a W K Q else E := by
  obtain ⟨i, hi, hzz⟩ := Option.map_eq_some_iff.1 infoS
  simp only [Prod.mk.injEq] at hzz
  obtain ⟨hz, hs1, hb⟩ := hzz
  obtain ⟨zv, hzv, hzs⟩ := Option.map_eq_some_iff.1 hz
  refine step_append_lies _ hgd s x 32 ho base 37 i zv 2 16 Try.underlying32 hi hzv hs1 hb hzs (by decide) v n (l.flatMap shaC) hs hown ⟨b, 0, none⟩ 1 c (shaC z) hx rfl ?_ ?_ (by decide) ?_ ?_ hbase W.heap.size rfl ?_
  · intro j u hu
    rw [add_off]
    match j with
    | 0 => simp [shaC] at hu; rw [← hu]; exact h0
    | 1 => simp [shaC] at hu; rw [← hu]; exact h1
    | n + 2 => simp [shaC] at hu
  · intro u hu
    simp only [shaC, List.mem_cons, List.not_mem_nil, or_false] at hu
    rcases hu with rfl | rfl <;> rfl
  · unfold maxLen; omega
  · omega
  · intro g cap w' h1 h2 h3 _
    refine h g cap w' (by rw [sflat_snoc]; exact h1) ⟨h2, ?_⟩
    rcases h3 with h3 | h3
    · exact .inl (h3 ▸ rfl)
    · exact .inr ⟨g, rfl, by omega⟩

/-- A dealing as a call, with what it deals. -/
abbrev Deals (rows : List (List Int)) (owners : List Int) (n : Nat) (x : Int) (u : List Int) (D : List (Int × Int)) (C : List Int) : Prop :=
  ∀ rv ov mv w, Rows2 w rv rows → Ints w ov owners → Ints w mv u → Calls Try.prog 16 #[.agg #[rv, ov], .int .i64 x, mv] w fun r w' => ∃ al cl ac cc, r = .returned (.tuple #[.slice al rows.length cl, .slice ac n cc, .int .i64 0]) ∧ Shares w' (.slice al rows.length cl) D ∧ Ints w' (.slice ac n cc) C ∧ Below w.heap.size w w'
theorem deals_of {rows : List (List Int)} {owners : List Int} {x : Int} {u : List Int} (h : DealOK rows owners x u) (hp : progE rows owners = 0) : Deals rows owners (colsQ rows) x u (dealL rows (x :: u)) (dealC (x :: u)) :=
  fun rv ov mv w hR hO hM => deal_ok rv ov mv rows owners x u w hR hO hM h hp
abbrev Recovers (rows : List (List Int)) (owners : List Int) (D : List (Int × Int)) (b : Bool) (v : Int) : Prop :=
  ∀ rv ov lv w, Rows2 w rv rows → Ints w ov owners → Shares w lv D → Calls Try.prog 18 #[.agg #[rv, ov], lv] w fun r w' => r = .returned (.tuple #[.int .i64 v, .bool b, .int .i64 0]) ∧ Below w.heap.size w w'
theorem recovers_part {rows : List (List Int)} {owners : List Int} {s : List Int} {l : List (Int × Int)} (hp : progE rows owners = 0) (hn : ∀ z ∈ s, 0 ≤ z ∧ z < 1073741789) (h : l.Sublist (dealL rows s)) : Recovers rows owners l (recOk rows l) (if recOk rows l = true then nth s 0 else 0) := fun rv ov lv w hR hO hL => by
  obtain ⟨h1, h2, h3⟩ := part_rec hp hn h
  have := recover_any rv ov lv rows owners l w hR hO hL
  rw [h1, h2, h3] at this
  exact this
structure Dealt (rows : List (List Int)) (n : Nat) (D : List (Int × Int)) (C : List Int) (P : Nat → Int) : Prop where
  len : D.length = rows.length
  at_ : ∀ k (h : k < D.length), D[k] = ((k : Int), P k)
  num : ∀ k, 0 ≤ P k ∧ P k < 1073741789
  clen : C.length = n
  el : ∀ k, k < n → El (nth C k)
theorem dealt_of {rows : List (List Int)} {owners : List Int} {x : Int} {u : List Int} (h : DealOK rows owners x u) : Dealt rows (colsQ rows) (dealL rows (x :: u)) (dealC (x :: u)) (fun k => prodQ (rows.getD k []) (x :: u)) :=
  ⟨dealL_len _ _, fun k h => dealL_at _ _ h, fun k => prodQ_num _ _, by simp [dealC, ← h.len], fun k hk => by
    have : k < (x :: u).length := by simp [h.len]; exact hk
    rw [show nth (dealC (x :: u)) k = powE 4 (nth (x :: u) k) from nth_mapv this]
    exact el_powE el_four _⟩

theorem Dealt.r64 {rows : List (List Int)} {n : Nat} {D : List (Int × Int)} {C : List Int} {P : Nat → Int} (h : Dealt rows n D C P) (hr : rows.length ≤ 64) : ∀ p ∈ D, R64 p.1 ∧ R64 p.2 := by
  intro p hp
  obtain ⟨k, hk, rfl⟩ := List.mem_iff_getElem.1 hp
  have hl := h.len
  rw [h.at_ k hk]
  exact ⟨R64.mk (by show (-4611686018427387904 : Int) ≤ (k : Int); omega) (by show (k : Int) ≤ 4611686018427387904; omega), num_r64 (h.num k)⟩

structure SumPack (rows : List (List Int)) (owners : List Int) (n : Nat) (s t x3 : Int) (u v u3 : List Int) (D1 D2 D3 : List (Int × Int)) (C1 C2 C3 : List Int) (P1 P2 P3 : Nat → Int) (b : Bool) (r : Int) : Prop where
  u64 : u.length ≤ 64
  uv : v.length = u.length
  e3 : u3 = addQ u v
  few : rows.length ≤ 64
  n64 : n ≤ 64
  ex : x3 = (s + t) % 1073741789
  c1 : Deals rows owners n s u D1 C1
  c2 : Deals rows owners n t v D2 C2
  c3 : Deals rows owners n x3 u3 D3 C3
  d1 : Dealt rows n D1 C1 P1
  d2 : Dealt rows n D2 C2 P2
  d3 : Dealt rows n D3 C3 P3
  p3 : ∀ k, k < rows.length → P3 k = (P1 k + P2 k) % 1073741789
  m3 : ∀ k, k < n → nth C3 k = nth C1 k * nth C2 k % 2147483579
  rc : Recovers rows owners D3 b r
  rb : r = if b = true then x3 else 0
theorem sum_pack {rows : List (List Int)} {owners : List Int} {s t : Int} (hp : progE rows owners = 0) (hs : 0 ≤ s ∧ s < 1073741789) (ht : 0 ≤ t ∧ t < 1073741789) (l m : List Int) :
    ∃ n x3 u3 D1 D2 D3 C1 C2 C3 P1 P2 P3 b r, SumPack rows owners n s t x3 (randQ rows l) (randQ rows m) u3 D1 D2 D3 C1 C2 C3 P1 P2 P3 b r := by
  have h1 := rand_ok hp l hs
  have h2 := rand_ok hp m ht
  have h3 : DealOK rows owners ((s + t) % 1073741789) (addQ (randQ rows l) (randQ rows m)) := sum_ok h1
  have hP := h1.prog
  have hc := hP.cols
  have hcu := hP.cols_le
  have e3 : (s + t) % 1073741789 :: addQ (randQ rows l) (randQ rows m) = addQ (s :: randQ rows l) (t :: randQ rows m) := (addQ_cons _ _ _ _).symm
  have hl1 : (s :: randQ rows l).length = colsQ rows := by rw [List.length_cons]; exact h1.len
  have hl2 : (t :: randQ rows m).length = colsQ rows := by rw [List.length_cons]; exact h2.len
  refine ⟨_, _, _, _, _, _, _, _, _, _, _, _, _, _, ⟨by rw [randQ_len]; omega, by rw [randQ_len, randQ_len], rfl, hP.few, hcu, rfl, deals_of h1 hp, deals_of h2 hp, deals_of h3 hp, dealt_of h1, dealt_of h2, dealt_of h3, fun k hk => ?_, fun k hk => ?_, recovers_part hp ?_ (List.Sublist.refl _), rfl⟩⟩
  · show prodQ (rows.getD k []) ((s + t) % 1073741789 :: addQ (randQ rows l) (randQ rows m)) = _
    rw [e3]
    exact sum_prod hP hl1 k hk
  · rw [e3]
    exact sum_com (by omega) (by omega)
  · intro z hz
    rcases List.mem_cons.1 hz with rfl | hz
    · omega
    · exact addQ_num _ _ z hz

set_option maxRecDepth 100000 in
set_option maxHeartbeats 16000000 in
theorem dealingSum_any (rv ov lv mv : Value) (rows : List (List Int)) (owners : List Int) (a b : Int) (l m : List Int) (w : World) (hR : Rows2 w rv rows) (hO : Ints w ov owners) (ha : 0 ≤ a ∧ a < 4294967296) (hb : 0 ≤ b ∧ b < 4294967296) (hL : Words w lv l) (hM : Words w mv m) :
    Calls Try.prog 3 #[.agg #[rv, ov], .int .u32 a, .int .u32 b, lv, mv] w fun e w' => e = .returned (.bool true) ∧ Below w.heap.size w w' := by
  obtain ⟨W1, hW1, hb1, hr1, hz⟩ := box_prog w rv ov 25
  have HR := Lib.hid (hR.below hb1)
  have HO := Lib.hid (hO.below hb1)
  have HL := Lib.hid (hL.below hb1)
  have HM := Lib.hid (hM.below hb1)
  obtain ⟨ar, cap, rfl, -, hlen, -⟩ := id hR
  obtain ⟨a2, cap2, rfl, -, hlen2, -⟩ := id hO
  obtain ⟨a3, cap3, rfl, -, hlen3, -⟩ := id hL
  obtain ⟨a4, cap4, rfl, -, hlen4, -⟩ := id hM
  have c0 : W1.cell? ⟨w.heap.size, 0, none⟩ = some (.slice ar rows.length cap) := row_cell hr1 rfl
  have c1 : W1.cell? ⟨w.heap.size, 1, none⟩ = some (.slice a2 owners.length cap2) := row_cell hr1 rfl
  have HW1 := Lib.hid hW1
  have HB := Lib.hid hb1
  have HS := Lib.hid (sane34_any W1)
  clear hR hO hL hM hr1 hW1 hb1
  cases hsm : smallQ rows owners with
  | false =>
    have HSM := Lib.hid hsm
    clear hsm
    go_enter Try.func3, Try.ntmps3
    go_wp2_with fail
    rw [← HW1.out]
    refine (HS.out).mono ?_
    rintro e w2 ⟨rfl, hb2⟩
    replace c0 := below_cell hb2 c0
    replace c1 := below_cell hb2 c1
    replace HR := Lib.hid (HR.out.below hb2)
    replace HO := Lib.hid (HO.out.below hb2)
    replace HL := Lib.hid (HL.out.below hb2)
    replace HM := Lib.hid (HM.out.below hb2)
    replace HB := Lib.hid (HB.out.trans (hb2.mono HB.out.size))
    clear hb2
    go_wp2_with fail
    refine (rsmall_any _ _ rows owners _ HR.out HO.out).mono ?_
    rintro e w3 ⟨rfl, hb3⟩
    replace c0 := below_cell hb3 c0
    replace c1 := below_cell hb3 c1
    replace HR := Lib.hid (HR.out.below hb3)
    replace HO := Lib.hid (HO.out.below hb3)
    replace HL := Lib.hid (HL.out.below hb3)
    replace HM := Lib.hid (HM.out.below hb3)
    replace HB := Lib.hid (HB.out.trans (hb3.mono HB.out.size))
    clear hb3
    rw [HSM.out]
    go_wp2_with fail
    go_ret
    exact ⟨rfl, HB.out⟩
  | true =>
    have HSM := Lib.hid hsm
    obtain ⟨hrl, hp0, hcl⟩ := small_ok hsm
    obtain ⟨s, hs⟩ : ∃ s, s = a % 1073741789 := ⟨_, rfl⟩
    obtain ⟨t, ht⟩ : ∃ t, t = b % 1073741789 := ⟨_, rfl⟩
    have hsn : 0 ≤ s ∧ s < 1073741789 := by omega
    have htn : 0 ≤ t ∧ t < 1073741789 := by omega
    have HRD := Lib.hid (fun W v ww h1 h2 h3 => random_any (.slice ar rows.length cap) (.slice a2 owners.length cap2) v rows owners ww W h1 h2 h3 (progE_ok hp0))
    obtain ⟨n, x3, u3, D1, D2, D3, C1, C2, C3, P1, P2, P3, ok, r, hK⟩ := sum_pack hp0 hsn htn l m
    have HK := Lib.hid hK
    have hs64 := num_r64 hsn
    have ht64 := num_r64 htn
    have HADD := Lib.hid (fun w => add_any s t w hs64 ht64)
    rw [← hK.ex] at HADD
    have hm1 : a.tmod 1073741789 = s := by rw [hs, Int.tmod_eq_emod_of_nonneg ha.1]
    have hw1 : IntKind.i64.wrap a = a := IntWalk.i64_in _ (by omega)
    have hm2 : b.tmod 1073741789 = t := by rw [ht, Int.tmod_eq_emod_of_nonneg hb.1]
    have hw2 : IntKind.i64.wrap b = b := IntWalk.i64_in _ (by omega)
    have hu64 := hK.u64
    have hvu := hK.uv
    have hrf := hK.few
    have hn64 := hK.n64
    obtain ⟨u, hu⟩ : ∃ u, u = randQ rows l := ⟨_, rfl⟩
    obtain ⟨v, hv⟩ : ∃ v, v = randQ rows m := ⟨_, rfl⟩
    rw [← hu, ← hv] at HK hvu
    rw [← hu] at hu64
    have HU := Lib.hid hu
    have HV := Lib.hid hv
    have ha0 := ha.1
    have ha1 := ha.2
    have hb0 := hb.1
    have hb1 := hb.2
    have HS1 := Lib.hid hs
    have HT1 := Lib.hid ht
    have HU64 := Lib.hid hu64
    have HVU := Lib.hid hvu
    clear hsm hs ht hsn htn hK hu hv ha hb hp0 hs64 ht64 hvu hu64
    go_enter Try.func3, Try.ntmps3
    go_wp2_with fail
    rw [← HW1.out]
    refine (HS.out).mono ?_
    rintro e w2 ⟨rfl, hb2⟩
    replace c0 := below_cell hb2 c0
    replace c1 := below_cell hb2 c1
    replace HR := Lib.hid (HR.out.below hb2)
    replace HO := Lib.hid (HO.out.below hb2)
    replace HL := Lib.hid (HL.out.below hb2)
    replace HM := Lib.hid (HM.out.below hb2)
    replace HB := Lib.hid (HB.out.trans (hb2.mono HB.out.size))
    clear hb2
    go_wp2_with fail
    refine (rsmall_any _ _ rows owners _ HR.out HO.out).mono ?_
    rintro e w3 ⟨rfl, hb3⟩
    replace c0 := below_cell hb3 c0
    replace c1 := below_cell hb3 c1
    replace HR := Lib.hid (HR.out.below hb3)
    replace HO := Lib.hid (HO.out.below hb3)
    replace HL := Lib.hid (HL.out.below hb3)
    replace HM := Lib.hid (HM.out.below hb3)
    replace HB := Lib.hid (HB.out.trans (hb3.mono HB.out.size))
    clear hb3
    rw [HSM.out]
    have hbd : Below w3.heap.size w3 w3.drew := (Below.refl _ _).drew
    replace HR := Lib.hid (HR.out.below hbd)
    replace HO := Lib.hid (HO.out.below hbd)
    replace HL := Lib.hid (HL.out.below hbd)
    replace HM := Lib.hid (HM.out.below hbd)
    replace HB := Lib.hid (HB.out.drew)
    clear hbd
    go_wp2_with fail
    try rw [← HS1.out, ← HT1.out]
    go_region_held3 (fun w' => w'.cell? ⟨w.heap.size, 0, none⟩ = some (.slice ar rows.length cap) ∧ w'.cell? ⟨w.heap.size, 1, none⟩ = some (.slice a2 owners.length cap2)) (first | go_keep | exact ⟨c0, c1⟩)
      (first
        | (go_at_call 14; (with_reducible refine (HRD.out _ _ _ HR.out HO.out HL.out).mono ?_); rintro e wq ⟨rn, rfl, hrn, hb4⟩; have HRU := Lib.hid hrn; clear hrn; (try replace HRV := Lib.hid (HRV.out.below hb4)); replace c0 := below_cell hb4 c0; replace c1 := below_cell hb4 c1; replace HR := Lib.hid (HR.out.below hb4); replace HO := Lib.hid (HO.out.below hb4); replace HL := Lib.hid (HL.out.below hb4); replace HM := Lib.hid (HM.out.below hb4); replace HB := Lib.hid (HB.out.trans (hb4.mono HB.out.size)); clear hb4)
        | (go_at_call 14; (with_reducible refine (HRD.out _ _ _ HR.out HO.out HM.out).mono ?_); rintro e wq ⟨rn2, rfl, hrn2, hb5⟩; have HRV := Lib.hid hrn2; clear hrn2; (try replace HRU := Lib.hid (HRU.out.below hb5)); replace c0 := below_cell hb5 c0; replace c1 := below_cell hb5 c1; replace HR := Lib.hid (HR.out.below hb5); replace HO := Lib.hid (HO.out.below hb5); replace HL := Lib.hid (HL.out.below hb5); replace HM := Lib.hid (HM.out.below hb5); replace HB := Lib.hid (HB.out.trans (hb5.mono HB.out.size)); clear hb5))
    all_goals
      clear HRD hw1 hm1 hw2 hm2 ha0 ha1 hb0 hb1 HSM
      replace HRU : Hid (Ints wq rn u) := Lib.hid (HU.out ▸ HRU.out)
      replace HRV : Hid (Ints wq rn2 v) := Lib.hid (HV.out ▸ HRV.out)
      obtain ⟨ru, cu, rfl, -⟩ := id HRU.out
      obtain ⟨rw', cw', rfl, -⟩ := id HRV.out
      have h00 : (wq.alloc (.cells #[] 3)).ownsRow wq.heap.size 3 1 (.slice (some ⟨wq.heap.size, 0, none⟩) 0 0) 0 (((List.range 0).map (addF u v)).map (Value.int .i64)) := World.ownsRow_made _ #[] 0 (Nat.le_refl _) (by unfold maxLen; omega) rfl
      have hba := below_new wq #[] 3
      go_wp2_with fail
      go_loopw [15, 54] (fun L i W => ∃ k : Nat, k ≤ u.length ∧ i = .int .i64 k ∧ W.ownsRow wq.heap.size 3 1 L k (((List.range k).map (addF u v)).map (Value.int .i64)) ∧ Below wq.heap.size wq W) (fun _ i _ => u.length - (intOf i).toNat)
      case atStart => exact ⟨0, Nat.zero_le _, rfl, h00, hba⟩
      case round =>
        clear h00 hba
        obtain ⟨k, hkl, rfl, hown, hb⟩ := hrel
        by_cases hlt : k < u.length
        · obtain ⟨hrx, b1, o1, n1, k1, e1, q1⟩ := HRU.out.get hlt
          obtain ⟨hry, b2, o2, n2, k2, e2, q2⟩ := HRV.out.get (k := k) (by rw [HVU.out]; exact hlt)
          simp only [Value.slice.injEq] at e1 e2
          obtain ⟨rfl, -, -⟩ := e1
          obtain ⟨rfl, -, -⟩ := e2
          have y1 := below_cell hb q1
          have y2 := below_cell hb q2
          have y1d : wr.drew.cell? ⟨b1, o1 + k, none⟩ = some (.int .i64 (nth u k)) := y1
          have y2d : wr.drew.cell? ⟨b2, o2 + k, none⟩ = some (.int .i64 (nth v k)) := y2
          have HT : Hid (((List.range (k + 1)).map (addF u v)).map (Value.int .i64) = ((List.range k).map (addF u v)).map (Value.int .i64) ++ [.int .i64 ((nth u k + nth v k) % 1073741789)]) := Lib.hid (by rw [range_snoc, List.map_append]; rfl)
          have HOW := Lib.hid hown
          have HBW := Lib.hid hb
          have i0 : 0 ≤ (k : Int) := by omega
          have i1 : (k : Int) < (u.length : Int) := by omega
          have i2 : (k : Int) < (v.length : Int) := by have := HVU.out; omega
          have hk6 : k ≤ 1000000 := by have := HU64.out; omega
          have HL1 := Lib.hid (lt_of_cell q1)
          have HL2 := Lib.hid (lt_of_cell q2)
          clear q1 q2 hown hb
          generalize nth u k = x at *
          generalize nth v k = y at *
          have HMR := Lib.hid (mod_r64 (x + y))
          go_wp2_with fail
          go_region_held3 (fun w' => w'.cell? ⟨b1, o1 + k, none⟩ = some (.int .i64 x) ∧ w'.cell? ⟨b2, o2 + k, none⟩ = some (.int .i64 y)) (first | go_keep | exact ⟨z1, z2⟩ | exact ⟨t1, t2⟩)
            (first
              | (go_at_call 15; (with_reducible refine (add_any x y _ hrx hry).mono ?_); rintro e w6 ⟨rfl, hb6⟩; have z1 := below_cell hb6 y1d; have z2 := below_cell hb6 y2d; have HN6 := Lib.hid (((Below.refl wr.heap.size wr).drew).trans hb6); clear hb6; have HN7 := Lib.hid (HN6.out.alloc HN6.out.size (.cells #[.int .i64 ((x + y) % 1073741789)] 3)); have HOX := Lib.hid (own_keep HOW.out HN7.out); have HB9 := Lib.hid (HBW.out.trans (HN7.out.mono HBW.out.size)); have HBS := Lib.hid HB9.out.size; have HQ0 := Lib.hid (show (w6.alloc (.cells #[.int .i64 ((x + y) % 1073741789)] 3)).cell? ⟨w6.heap.size, 0, none⟩ = some (.int .i64 ((x + y) % 1073741789)) from row_cell (World.alloc_heap_new _ _) rfl))
              | (refine step_app_int (by rfl) _ _ (by rfl) wq.heap.size k _ _ (by rfl) HOX.out w6.heap.size 1 ((x + y) % 1073741789) (by rfl) HQ0.out hk6 HBS.out _ rfl ?_; intro g9 cap9 w9 h9 o9 p9 l9; have t1 := ((own_below HOX.out o9 HBS.out).cell (p := ⟨b1, o1 + k, none⟩) HL1.out).trans (below_cell (below_new w6 _ _) z1); have t2 := ((own_below HOX.out o9 HBS.out).cell (p := ⟨b2, o2 + k, none⟩) HL2.out).trans (below_cell (below_new w6 _ _) z2); have H9 := Lib.hid h9; have O9 := Lib.hid o9; clear h9 o9))
          all_goals
            go_wp2_with fail
            go_roundw
            case rel => exact ⟨k + 1, by omega, by go_num, by rw [HT.out]; exact H9.out, HB9.out.trans (own_below HOX.out O9.out HBS.out)⟩
            case measure => simp [intOf]; omega
        · obtain rfl : k = u.length := by omega
          have HRW := Lib.hid (Ints.own (zs := addQ u v) hown (fun z hz => num_r64 (addQ_num _ _ z hz)) (by rw [addQ_len]; have := HU64.out; omega))
          replace c0 := below_cell hb c0
          replace c1 := below_cell hb c1
          replace HR := Lib.hid (HR.out.below hb)
          replace HO := Lib.hid (HO.out.below hb)
          replace HRU := Lib.hid (HRU.out.below hb)
          replace HRV := Lib.hid (HRV.out.below hb)
          replace HB := Lib.hid (HB.out.trans (hb.mono HB.out.size))
          clear hb
          have hdk : decide (u.length < u.length) = false := decide_eq_false (by omega)
          obtain ⟨wl, hwl⟩ : ∃ wl : World, wl = wr := ⟨_, rfl⟩
          rw [← hwl] at HR HO HB HRU HRV HRW c0 c1 ⊢
          clear hown hwl
          rw [← HK.out.e3] at HRW
          obtain ⟨r3, c3, e3, -⟩ := id HRW.out
          clear e3
          go_wp2_with fail
          refine (HK.out.c1 _ _ _ _ HR.out HO.out HRU.out).mono ?_
          rintro e w7 ⟨al1, cl1, ac1, cc1, rfl, hsh, hcm, hb7⟩
          replace c0 := below_cell hb7 c0
          replace c1 := below_cell hb7 c1
          replace HR := Lib.hid (HR.out.below hb7)
          replace HO := Lib.hid (HO.out.below hb7)
          replace HRU := Lib.hid (HRU.out.below hb7)
          replace HRV := Lib.hid (HRV.out.below hb7)
          replace HRW := Lib.hid (HRW.out.below hb7)
          replace HB := Lib.hid (HB.out.trans (hb7.mono HB.out.size))
          clear hb7
          have HD1 := Lib.hid hsh
          have HC1 := Lib.hid hcm
          clear hsh hcm
          go_wp2_with fail
          refine (HK.out.c2 _ _ _ _ HR.out HO.out HRV.out).mono ?_
          rintro e w8 ⟨al2, cl2, ac2, cc2, rfl, hsh, hcm, hb8⟩
          replace c0 := below_cell hb8 c0
          replace c1 := below_cell hb8 c1
          replace HR := Lib.hid (HR.out.below hb8)
          replace HO := Lib.hid (HO.out.below hb8)
          replace HRU := Lib.hid (HRU.out.below hb8)
          replace HRV := Lib.hid (HRV.out.below hb8)
          replace HRW := Lib.hid (HRW.out.below hb8)
          replace HD1 := Lib.hid (HD1.out.below hb8)
          replace HC1 := Lib.hid (HC1.out.below hb8)
          replace HB := Lib.hid (HB.out.trans (hb8.mono HB.out.size))
          clear hb8
          have HD2 := Lib.hid hsh
          have HC2 := Lib.hid hcm
          clear hsh hcm
          clear HRU HRV
          have hbd : Below w8.heap.size w8 w8.drew := (Below.refl _ _).drew
          replace HR := Lib.hid (HR.out.below hbd)
          replace HO := Lib.hid (HO.out.below hbd)
          replace HRW := Lib.hid (HRW.out.below hbd)
          replace HD1 := Lib.hid (HD1.out.below hbd)
          replace HC1 := Lib.hid (HC1.out.below hbd)
          replace HD2 := Lib.hid (HD2.out.below hbd)
          replace HC2 := Lib.hid (HC2.out.below hbd)
          replace HB := Lib.hid (HB.out.drew)
          clear hbd
          go_wp2_with fail
          go_region_held3 (fun w' => w'.cell? ⟨w.heap.size, 0, none⟩ = some (.slice ar rows.length cap) ∧ w'.cell? ⟨w.heap.size, 1, none⟩ = some (.slice a2 owners.length cap2)) (first | go_keep | exact ⟨c0, c1⟩)
            (first
              | (go_at_call 15; (with_reducible refine (HADD.out _).mono ?_); rintro e w9 ⟨rfl, hb9⟩; replace c0 := below_cell hb9 c0; replace c1 := below_cell hb9 c1; replace HR := Lib.hid (HR.out.below hb9); replace HO := Lib.hid (HO.out.below hb9); replace HRW := Lib.hid (HRW.out.below hb9); replace HD1 := Lib.hid (HD1.out.below hb9); replace HC1 := Lib.hid (HC1.out.below hb9); replace HD2 := Lib.hid (HD2.out.below hb9); replace HC2 := Lib.hid (HC2.out.below hb9); replace HB := Lib.hid (HB.out.trans (hb9.mono HB.out.size)); clear hb9)
              | (go_at_call 16; (with_reducible refine (HK.out.c3 _ _ _ _ HR.out HO.out HRW.out).mono ?_); rintro e wz ⟨al3, cl3, ac3, cc3, rfl, hsh, hcm, hb10⟩; have HD3 := Lib.hid hsh; have HC3 := Lib.hid hcm; clear hsh hcm; replace c0 := below_cell hb10 c0; replace c1 := below_cell hb10 c1; replace HR := Lib.hid (HR.out.below hb10); replace HO := Lib.hid (HO.out.below hb10); replace HRW := Lib.hid (HRW.out.below hb10); replace HD1 := Lib.hid (HD1.out.below hb10); replace HC1 := Lib.hid (HC1.out.below hb10); replace HD2 := Lib.hid (HD2.out.below hb10); replace HC2 := Lib.hid (HC2.out.below hb10); replace HB := Lib.hid (HB.out.trans (hb10.mono HB.out.size)); clear hb10))
          clear HRW
          have hal := HK.out.d1.len
          have h01 : (wz.alloc (.cells #[] 37)).ownsRow wz.heap.size 37 2 (.slice (some ⟨wz.heap.size, 0, none⟩) 0 0) 0 ((D3.take 0).flatMap shaC) := World.ownsRow_made _ #[] 0 (Nat.le_refl _) (by unfold maxLen; omega) rfl
          have hba := below_new wz #[] 37
          go_wp2_with fail
          go_loopw [26, 137] (fun L i W => ∃ k : Nat, k ≤ rows.length ∧ i = .int .i64 k ∧ W.ownsRow wz.heap.size 37 2 L k ((D3.take k).flatMap shaC) ∧ Below wz.heap.size wz W) (fun _ i _ => rows.length - (intOf i).toNat)
          case atStart => exact ⟨0, Nat.zero_le _, rfl, h01, hba⟩
          case round =>
            clear h01 hba
            obtain ⟨k, hkl, rfl, hown, hb⟩ := hrel
            by_cases hlt : k < rows.length
            · obtain ⟨aS, cS, eS, -, -, hR1, hk1⟩ := HD1.out
              obtain ⟨b1, o1, ea, qa, qb⟩ := hk1 k (by rw [HK.out.d1.len]; exact hlt)
              simp only [Value.slice.injEq] at eS
              obtain ⟨rfl, -, -⟩ := eS
              subst ea
              obtain ⟨aT, cT, eT, -, -, hR2, hk2⟩ := HD2.out
              obtain ⟨b2, o2, ea2, qc, qd⟩ := hk2 k (by rw [HK.out.d2.len]; exact hlt)
              simp only [Value.slice.injEq] at eT
              obtain ⟨rfl, -, -⟩ := eT
              subst ea2
              rw [HK.out.d1.at_] at qa qb
              rw [HK.out.d2.at_] at qd
              have hP1 := num_r64 (HK.out.d1.num k)
              have hP2 := num_r64 (HK.out.d2.num k)
              have HT : Hid (D3.take (k + 1) = D3.take k ++ [((k : Int), (P1 k + P2 k) % 1073741789)]) := Lib.hid (by
                rw [List.take_succ_eq_append_getElem (by rw [HK.out.d3.len]; exact hlt), HK.out.d3.at_, HK.out.p3 k hlt])
              have HL1 := Lib.hid (lt_of_cell qa)
              have HL2 := Lib.hid (lt_of_cell qd)
              have y1 := below_cell hb qa
              have y2 := below_cell hb qb
              have y3 := below_cell hb qd
              obtain ⟨x, hx⟩ : ∃ x, x = P1 k := ⟨_, rfl⟩
              obtain ⟨y, hy⟩ : ∃ y, y = P2 k := ⟨_, rfl⟩
              simp only at y1 y2 y3
              rw [← hx] at hP1 HT y2
              rw [← hy] at hP2 HT y3
              have y1d : wr.drew.cell? ⟨b1, o1 + k * 2, none⟩ = some (.int .i64 k) := y1
              have y2d : wr.drew.cell? ⟨b1, o1 + k * 2 + 1, none⟩ = some (.int .i64 x) := y2
              have y3d : wr.drew.cell? ⟨b2, o2 + k * 2 + 1, none⟩ = some (.int .i64 y) := y3
              have HOW := Lib.hid hown
              have HBW := Lib.hid hb
              have i0 : 0 ≤ (k : Int) := by omega
              have i1 : (k : Int) < (rows.length : Int) := by omega
              have hk6 : k ≤ 1000000 := by omega
              clear hk1 hk2 hR1 hR2 qa qb qc qd hown hb hx hy
              go_wp2_with fail
              go_region_held3 (fun w' => w'.cell? ⟨b1, o1 + k * 2, none⟩ = some (.int .i64 k) ∧ w'.cell? ⟨b1, o1 + k * 2 + 1, none⟩ = some (.int .i64 x) ∧ w'.cell? ⟨b2, o2 + k * 2 + 1, none⟩ = some (.int .i64 y)) (first | go_keep | exact ⟨z1, z2, z3⟩ | exact ⟨t1, t2, t3⟩)
                (first
                  | (go_at_call 15; (with_reducible refine (add_any x y _ hP1 hP2).mono ?_); rintro e w6 ⟨rfl, hb6⟩; have z1 := below_cell hb6 y1d; have z2 := below_cell hb6 y2d; have z3 := below_cell hb6 y3d; have HN6 := Lib.hid (((Below.refl wr.heap.size wr).drew).trans hb6); clear hb6; have HN7 := Lib.hid (HN6.out.alloc HN6.out.size (.cells #[.int .i64 k, .int .i64 ((x + y) % 1073741789)] 37)); have HOX := Lib.hid (own_keep HOW.out HN7.out); have HB9 := Lib.hid (HBW.out.trans (HN7.out.mono HBW.out.size)); have HBS := Lib.hid HB9.out.size; have HQ0 := Lib.hid (show (w6.alloc (.cells #[.int .i64 k, .int .i64 ((x + y) % 1073741789)] 37)).cell? ⟨w6.heap.size, 0, none⟩ = some (.int .i64 k) from row_cell (World.alloc_heap_new _ _) rfl); have HQ1 := Lib.hid (show (w6.alloc (.cells #[.int .i64 k, .int .i64 ((x + y) % 1073741789)] 37)).cell? ⟨w6.heap.size, 1, none⟩ = some (.int .i64 ((x + y) % 1073741789)) from row_cell (World.alloc_heap_new _ _) rfl))
                  | (refine step_app_share (by rfl) _ _ (by rfl) wz.heap.size _ (D3.take k) k (by rfl) HOX.out w6.heap.size 1 ((k : Int), (x + y) % 1073741789) (by rfl) HQ0.out HQ1.out hk6 HBS.out ?_; intro g9 cap9 w9 h9 o9; have t1 := ((own_below HOX.out o9.1 HBS.out).cell (p := ⟨b1, o1 + k * 2, none⟩) HL1.out).trans (below_cell (below_new w6 _ _) z1); have t2 := ((own_below HOX.out o9.1 HBS.out).cell (p := ⟨b1, o1 + k * 2 + 1, none⟩) HL1.out).trans (below_cell (below_new w6 _ _) z2); have t3 := ((own_below HOX.out o9.1 HBS.out).cell (p := ⟨b2, o2 + k * 2 + 1, none⟩) HL2.out).trans (below_cell (below_new w6 _ _) z3); have H9 := Lib.hid h9; have O9 := Lib.hid o9; clear h9 o9))
              all_goals
                go_wp2_with fail
                go_roundw
                case rel => exact ⟨k + 1, by omega, by go_num, by rw [HT.out]; exact H9.out, HB9.out.trans (own_below HOX.out O9.out.1 HBS.out)⟩
                case measure => simp [intOf]; omega
            · obtain rfl : k = rows.length := by omega
              rw [← HK.out.d3.len, List.take_length] at hown
              have HBO := Lib.hid (Shares.own (l := D3) hown (HK.out.d3.r64 hrf) (by have := HK.out.d3.len; omega))
              replace c0 := below_cell hb c0
              replace c1 := below_cell hb c1
              replace HR := Lib.hid (HR.out.below hb)
              replace HO := Lib.hid (HO.out.below hb)
              replace HD1 := Lib.hid (HD1.out.below hb)
              replace HC1 := Lib.hid (HC1.out.below hb)
              replace HD2 := Lib.hid (HD2.out.below hb)
              replace HC2 := Lib.hid (HC2.out.below hb)
              replace HD3 := Lib.hid (HD3.out.below hb)
              replace HC3 := Lib.hid (HC3.out.below hb)
              replace HB := Lib.hid (HB.out.trans (hb.mono HB.out.size))
              clear hb
              have hdk2 : decide (rows.length < rows.length) = false := decide_eq_false (by omega)
              obtain ⟨wm, hwm⟩ : ∃ wm : World, wm = wr := ⟨_, rfl⟩
              rw [← hwm] at HR HO HB HD1 HC1 HD2 HC2 HD3 HC3 HBO c0 c1 ⊢
              clear hown hwm
              obtain ⟨rb, cb, eb, -⟩ := id HBO.out
              rw [HK.out.d3.len] at eb
              subst eb
              go_wp2_with fail
              go_loopw [163] (fun i W => ∃ k : Nat, k ≤ n ∧ i = .int .i64 k ∧ Below wm.heap.size wm W) (fun i _ => n - (intOf i).toNat)
              case atStart => exact ⟨0, Nat.zero_le _, rfl, Below.refl _ _⟩
              case round =>
                obtain ⟨k, hkl, rfl, hb⟩ := hrel
                by_cases hlt : k < n
                · obtain ⟨-, b1, o1, n1, k1, e1, q1⟩ := HC1.out.get (k := k) (by rw [HK.out.d1.clen]; exact hlt)
                  obtain ⟨-, b2, o2, n2, k2, e2, q2⟩ := HC2.out.get (k := k) (by rw [HK.out.d2.clen]; exact hlt)
                  obtain ⟨-, b3, o3, n3, k3, e3, q3⟩ := HC3.out.get (k := k) (by rw [HK.out.d3.clen]; exact hlt)
                  simp only [Value.slice.injEq] at e1 e2 e3
                  obtain ⟨rfl, -, -⟩ := e1
                  obtain ⟨rfl, -, -⟩ := e2
                  obtain ⟨rfl, -, -⟩ := e3
                  have hx := HK.out.d1.el k hlt
                  have hy := HK.out.d2.el k hlt
                  rw [HK.out.m3 k hlt] at q3
                  have y1 := below_cell hb q1
                  have y2 := below_cell hb q2
                  have y3 := below_cell hb q3
                  have i0 : 0 ≤ (k : Int) := by omega
                  have i1 : (k : Int) < (n : Int) := by omega
                  have HBW := Lib.hid hb
                  clear q1 q2 q3 hb
                  generalize nth C1 k = x at *
                  generalize nth C2 k = y at *
                  generalize HZ : x * y % 2147483579 = z at *
                  have hzz : (z != z) = false := by simp
                  have HZ2 := Lib.hid HZ
                  clear HZ
                  go_wp2_with fail
                  go_region_held3 (fun w' => w'.cell? ⟨b1, o1 + k, none⟩ = some (.int .i64 x) ∧ w'.cell? ⟨b2, o2 + k, none⟩ = some (.int .i64 y) ∧ w'.cell? ⟨b3, o3 + k, none⟩ = some (.int .i64 z)) (go_keep)
                    (first
                      | (go_at_call 17; (with_reducible refine (mul_yes x y _ hx hy).mono ?_); rintro e w6 ⟨rfl, rfl⟩; rw [HZ2.out]))
                  all_goals
                    go_wp2_with fail
                    go_roundw
                    case rel => exact ⟨k + 1, by omega, by go_num, HBW.out.drew⟩
                    case measure => simp [intOf]; omega
                · obtain rfl : k = n := by omega
                  replace c0 := below_cell hb c0
                  replace c1 := below_cell hb c1
                  replace HR := Lib.hid (HR.out.below hb)
                  replace HO := Lib.hid (HO.out.below hb)
                  replace HD1 := Lib.hid (HD1.out.below hb)
                  replace HC1 := Lib.hid (HC1.out.below hb)
                  replace HD2 := Lib.hid (HD2.out.below hb)
                  replace HC2 := Lib.hid (HC2.out.below hb)
                  replace HD3 := Lib.hid (HD3.out.below hb)
                  replace HC3 := Lib.hid (HC3.out.below hb)
                  replace HBO := Lib.hid (HBO.out.below hb)
                  replace HB := Lib.hid (HB.out.trans (hb.mono HB.out.size))
                  clear hb
                  have hdk3 : decide (k < k) = false := decide_eq_false (by omega)
                  obtain ⟨wv, hwv⟩ : ∃ wv : World, wv = wr := ⟨_, rfl⟩
                  rw [← hwv] at HR HO HB HD1 HC1 HD2 HC2 HD3 HC3 HBO c0 c1 ⊢
                  clear hwv
                  go_wp2_with fail
                  refine (HK.out.rc _ _ _ _ HR.out HO.out HBO.out).mono ?_
                  rintro e w11 ⟨rfl, hb11⟩
                  replace c0 := below_cell hb11 c0
                  replace c1 := below_cell hb11 c1
                  replace HR := Lib.hid (HR.out.below hb11)
                  replace HO := Lib.hid (HO.out.below hb11)
                  replace HD1 := Lib.hid (HD1.out.below hb11)
                  replace HC1 := Lib.hid (HC1.out.below hb11)
                  replace HD2 := Lib.hid (HD2.out.below hb11)
                  replace HC2 := Lib.hid (HC2.out.below hb11)
                  replace HD3 := Lib.hid (HD3.out.below hb11)
                  replace HC3 := Lib.hid (HC3.out.below hb11)
                  replace HBO := Lib.hid (HBO.out.below hb11)
                  replace HB := Lib.hid (HB.out.trans (hb11.mono HB.out.size))
                  clear hb11
                  have HSS : Hid (sameS D3 D3 = true) := Lib.hid (decide_eq_true rfl)
                  cases hok : ok with
                  | false =>
                    go_wp2_with fail
                    refine (rsame_any _ _ D3 D3 _ HBO.out HD3.out).mono ?_
                    rintro e w12 ⟨rfl, hb12⟩
                    replace c0 := below_cell hb12 c0
                    replace c1 := below_cell hb12 c1
                    replace HR := Lib.hid (HR.out.below hb12)
                    replace HO := Lib.hid (HO.out.below hb12)
                    replace HD1 := Lib.hid (HD1.out.below hb12)
                    replace HC1 := Lib.hid (HC1.out.below hb12)
                    replace HD2 := Lib.hid (HD2.out.below hb12)
                    replace HC2 := Lib.hid (HC2.out.below hb12)
                    replace HD3 := Lib.hid (HD3.out.below hb12)
                    replace HC3 := Lib.hid (HC3.out.below hb12)
                    replace HBO := Lib.hid (HBO.out.below hb12)
                    replace HB := Lib.hid (HB.out.trans (hb12.mono HB.out.size))
                    clear hb12
                    rw [HSS.out]
                    go_wp2_with fail
                    go_ret
                    exact ⟨rfl, HB.out⟩
                  | true =>
                    have hrx : r = x3 := by rw [HK.out.rb, hok]; rfl
                    subst hrx
                    have hxx : (r == r) = true := by simp
                    go_wp2_with fail
                    refine (rsame_any _ _ D3 D3 _ HBO.out HD3.out).mono ?_
                    rintro e w12 ⟨rfl, hb12⟩
                    replace c0 := below_cell hb12 c0
                    replace c1 := below_cell hb12 c1
                    replace HR := Lib.hid (HR.out.below hb12)
                    replace HO := Lib.hid (HO.out.below hb12)
                    replace HD1 := Lib.hid (HD1.out.below hb12)
                    replace HC1 := Lib.hid (HC1.out.below hb12)
                    replace HD2 := Lib.hid (HD2.out.below hb12)
                    replace HC2 := Lib.hid (HC2.out.below hb12)
                    replace HD3 := Lib.hid (HD3.out.below hb12)
                    replace HC3 := Lib.hid (HC3.out.below hb12)
                    replace HBO := Lib.hid (HBO.out.below hb12)
                    replace HB := Lib.hid (HB.out.trans (hb12.mono HB.out.size))
                    clear hb12
                    rw [HSS.out]
                    go_wp2_with fail
                    refine (HADD.out _).mono ?_
                    rintro e w13 ⟨rfl, hb13⟩
                    replace c0 := below_cell hb13 c0
                    replace c1 := below_cell hb13 c1
                    replace HR := Lib.hid (HR.out.below hb13)
                    replace HO := Lib.hid (HO.out.below hb13)
                    replace HD1 := Lib.hid (HD1.out.below hb13)
                    replace HC1 := Lib.hid (HC1.out.below hb13)
                    replace HD2 := Lib.hid (HD2.out.below hb13)
                    replace HC2 := Lib.hid (HC2.out.below hb13)
                    replace HD3 := Lib.hid (HD3.out.below hb13)
                    replace HC3 := Lib.hid (HC3.out.below hb13)
                    replace HBO := Lib.hid (HBO.out.below hb13)
                    replace HB := Lib.hid (HB.out.trans (hb13.mono HB.out.size))
                    clear hb13
                    go_wp2_with fail
                    go_ret
                    exact ⟨rfl, HB.out⟩

end Go.Proofs.Ytbegnincmlepgaa
