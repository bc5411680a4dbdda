/- Package program: Check; slices.ContainsFunc at rows. Package program: Check. Package linear: Combine. Package linear: Separate. Package linear: Separate, where there are columns. The reference of package linear: what its small functions compute. The reference of program: Check. The reference of package linear: Check, Error, Few. The reference of package linear: rows less multiples of rows, and products. The reference's reduction: tables whose rows are lists that are read. -/
import Derived.Test.YtggnipkfliompaaGreatDoorMBase
import Derived.BigQuiet
import Derived.IntWalk
import Derived.Maps.AppendAt
set_option maxHeartbeats 4000000
set_option maxRecDepth 100000
namespace Go.Proofs.YtggnipkfliompaaGreatDoor
open Go.RowKit
def indexR (p:List Int → Bool):List (List Int) → Int
 | [] => -1
 | z :: l => if p z then 0 else if indexR p l < 0 then -1 else indexR p l + 1
theorem indexR_lo (p:List Int → Bool) (l:List (List Int)):-1 ≤ indexR p l:=by
 induction l with
 | nil => simp [indexR]
 | cons z l ih =>
  unfold indexR
  split
  ·omega
  ·split <;> omega
theorem indexR_none (p:List Int → Bool) (l:List (List Int)) (h:∀ z ∈ l,p z = false):indexR p l = -1:=by
 induction l with
 | nil => rfl
 | cons z l ih => unfold indexR; rw [if_neg (by simp [h z]),ih (fun y hy => h y (by simp [hy]))]; rfl
theorem indexR_at (p:List Int → Bool) (l:List (List Int)) (k:Nat) (hk:k < l.length) (h:∀ z ∈ l.take k,p z = false) (hp:p l[k] = true):indexR p l = k:=by
 induction l generalizing k with
 | nil => simp at hk
 | cons z l ih =>
  unfold indexR
  cases k with
  | zero => simp at hp; simp [hp]
  | succ k =>
   simp at hp hk
   rw [if_neg (by rw [h z (by simp)]; simp),ih k hk (fun y hy => h y (by simp [hy])) hp,if_neg (by omega)]; rfl
theorem indexR_any (p:List Int → Bool) (l:List (List Int)):decide (0 ≤ indexR p l) = l.any p:=by
 by_cases h:l.any p = true
 ·rw [h]
  induction l with
  | nil => simp at h
  | cons z l ih =>
   unfold indexR
   by_cases hz:p z = true
   ·simp [hz]
   ·have h':l.any p = true:=by simpa [hz] using h
    have:=ih h'
    simp at this
    simp [hz]; omega
 ·have h':∀ z ∈ l,p z = false:=by
   intro z hz; simp at h; simpa using h z hz
  rw [indexR_none p l h']; simp at h ⊢; exact h
def TestsR (f:FuncId) (cap:Array Value) (w:World) (p:List Int → Bool):Prop:=
 ∀ r rv w',Below w.heap.size w w' → Ints w' rv r → Calls Tryz.prog f (#[rv] ++ cap) w' fun e w'' => e = .returned (.bool (p r)) ∧ Below w'.heap.size w' w''
theorem indexFuncR_any (f:FuncId) (cap:Array Value) (p:List Int → Bool) (v:Value) (rows:List (List Int)) (w:World) (hI:Rows2 w v rows) (hE:Goes Tryz.prog f) (hT:TestsR f cap w p) :
  Calls Tryz.prog 202 #[v,.func (.func f) #[] cap] w fun e w' => e = .returned (.int .i64 (indexR p rows)) ∧ Below w.heap.size w w':=by
 obtain ⟨a,cap',rfl,hcap,hlen,hk⟩:=hI
 have HT:=Lib.hid hT
 clear hT
 have hE':∀ (args:Array Value) (w:World),(callFunc f args).run Tryz.prog w = .ok (.enter f args) w:=hE
 clear hE
 have HK:=Lib.hid hk
 clear hk
 go_enter Tryz.func202,Tryz.ntmps202
 go_wp2_with fail
 go_loopw [5,8] (fun _ i wr => ∃ k:Nat,k ≤ rows.length ∧ i = .int .i64 k ∧ Hid (∀ z ∈ rows.take k,p z = false) ∧ Below w.heap.size w wr) (fun _ i _ => rows.length - (intOf i).toNat)
 case atStart => exact ⟨0,Nat.zero_le _,rfl,Lib.hid (by simp),Below.refl _ _⟩
 case round =>
  obtain ⟨k,hkl,rfl,HP,hb⟩:=hrel
  by_cases hlt:k < rows.length
  ·obtain ⟨b,off,rv,rfl,hc,hI⟩:=HK.out k hlt
   have hc':wr.cell? ⟨b,off + k,none⟩ = some rv:=below_cell hb hc
   have HI:=Lib.hid (hI.below hb)
   obtain ⟨ra,rc,rfl,-⟩:=id hI
   clear hI hc
   cases hp:p rows[k]
   ·have HN:=Lib.hid (show ∀ z ∈ rows.take (k + 1),p z = false by
     rw [List.take_succ_eq_append_getElem hlt]
     intro z hz
     rcases List.mem_append.1 hz with h | h
     ·exact HP.out z h
     ·rw [List.mem_singleton.1 h]; exact hp)
    have HQ:=Lib.hid hp
    clear hp
    go_wp2_with fail
    refine (HT.out _ _ _ hb HI.out).mono ?_
    rintro e w1 ⟨rfl,hb1⟩
    rw [HQ.out]
    go_wp2_with fail
    go_roundw
    case rel => exact ⟨k + 1,by omega,by go_num,HN,below_later hb (Nat.le_refl _) hb1⟩
    case measure => simp [intOf]; omega
   ·have HQ:=Lib.hid hp
    clear hp
    have HR:=Lib.hid (indexR_at p rows k hlt HP.out HQ.out)
    go_wp2_with fail
    refine (HT.out _ _ _ hb HI.out).mono ?_
    rintro e w1 ⟨rfl,hb1⟩
    rw [HQ.out]
    go_wp2_with fail
    go_ret
    exact ⟨ret_int HR.out.symm,below_later hb (Nat.le_refl _) hb1⟩
  ·have HR:=Lib.hid (indexR_none p rows (by have:=HP.out; rwa [List.take_of_length_le (by omega)] at this))
   go_wp2_with fail
   go_ret
   exact ⟨ret_int HR.out.symm,hb⟩
theorem containsFuncR_any (f:FuncId) (cap:Array Value) (p:List Int → Bool) (v:Value) (rows:List (List Int)) (w:World) (hI:Rows2 w v rows) (hE:Goes Tryz.prog f) (hT:TestsR f cap w p) :
  Calls Tryz.prog 155 #[v,.func (.func f) #[] cap] w fun e w' => e = .returned (.bool (rows.any p)) ∧ Below w.heap.size w w':=by
 have H:=Lib.hid (indexR_any p rows)
 have hlo:=indexR_lo p rows
 go_enter Tryz.func155,Tryz.ntmps155
 go_wp2_with (go_at_call 202; refine (indexFuncR_any f cap p v rows _ hI hE hT).mono ?_; rintro e w1 ⟨rfl,hb1⟩)
 go_ret
 exact ⟨ret_bool H.out,hb1⟩
theorem pwithin_any (n lo hi:Int) (w:World):Calls Tryz.prog 157 #[.int .i64 n,.int .i64 lo,.int .i64 hi] w fun r w' => r = .returned (.bool (inB n lo hi)) ∧ w = w':=by
 by_cases h1:lo ≤ n
 ·have H:=Lib.hid (show inB n lo hi = decide (n ≤ hi) by unfold inB; rw [decide_eq_true h1,Bool.true_and])
  go_enter Tryz.func157,Tryz.ntmps157
  go_wp2_with fail
  go_ret
  exact ⟨ret_bool H.out.symm,rfl⟩
 ·have H:=Lib.hid (show inB n lo hi = false by unfold inB; rw [decide_eq_false h1,Bool.false_and])
  go_enter Tryz.func157,Tryz.ntmps157
  go_wp2_with fail
  go_ret
  exact ⟨ret_bool H.out.symm,rfl⟩
theorem pperson_any (n:Int) (w:World):Calls Tryz.prog 158 #[.int .i64 n] w fun r w' => r = .returned (.bool (inB n 0 63)) ∧ w = w':=by
 go_enter Tryz.func158,Tryz.ntmps158
 go_wp2_with fail
 with_reducible refine (pwithin_any n 0 63 _).mono ?_
 rintro r w1 ⟨rfl,rfl⟩
 go_wp2_with fail
 go_ret
 exact ⟨rfl,rfl⟩
theorem notin_odd (z:Int):(!inB z 0 1073741788) = oddQ z:=by
 cases e:oddQ z with
 | false =>
  have h:inB z 0 1073741788 = true:=inB_iff.2 (by simp [oddQ] at e; omega)
  rw [h]; rfl
 | true =>
  have h:inB z 0 1073741788 = false:=inB_false (by simp [oddQ] at e; omega)
  rw [h]; rfl
theorem podd_any (z:Int) (w:World):Calls Tryz.prog 156 #[.int .i64 z] w fun r w' => r = .returned (.bool (oddQ z)) ∧ w = w':=by
 go_enter Tryz.func156,Tryz.ntmps156
 go_wp2_with fail
 with_reducible refine (pwithin_any z 0 1073741788 _).mono ?_
 rintro r w1 ⟨rfl,rfl⟩
 go_wp2_with fail
 go_ret
 exact ⟨ret_bool (notin_odd z),rfl⟩
theorem podd_tests (w:World) (zs:List Int):Tests 156 #[] w oddQ zs:=
 fun z _ w' _ => (podd_any z w').mono fun _ _ ⟨h,e⟩ => ⟨h,e ▸ Below.refl _ _⟩
theorem podd_goes:Goes Tryz.prog 156:=goes_of Tryz.func156 (by kernel_rfl) rfl
def longR (r:List Int):Bool:=decide (64 < r.length)
theorem plong_any (rv:Value) (r:List Int) (w:World) (hI:Ints w rv r):Calls Tryz.prog 154 #[rv] w fun e w' => e = .returned (.bool (longR r)) ∧ w = w':=by
 obtain ⟨a,cap,rfl,-⟩:=hI
 have H:=Lib.hid (show longR r = decide ((64:Int) < (r.length:Int)) from decide_eq_decide.2 (by omega))
 go_enter Tryz.func154,Tryz.ntmps154
 go_wp2_with fail
 go_ret
 exact ⟨ret_bool H.out.symm,rfl⟩
theorem plong_tests (w:World):TestsR 154 #[] w longR:=
 fun r rv w' _ hI => (plong_any rv r w' hI).mono fun _ _ ⟨h,e⟩ => ⟨h,e ▸ Below.refl _ _⟩
theorem plong_goes:Goes Tryz.prog 154:=goes_of Tryz.func154 (by kernel_rfl) rfl
end Go.Proofs.YtggnipkfliompaaGreatDoor
namespace Go.Proofs.YtggnipkfliompaaGreatDoor
open Go.RowKit
def rowBad (m:Nat) (r:List Int) (o:Int):Bool:=decide (r.length = 0) || (decide (r.length ≠ m) || (!inB o 0 63 || r.any oddQ))
def progE (rows:List (List Int)) (owners:List Int):Int:=
 if 64 < rows.length ∨ rows.any longR = true then 2 else if rows.length ≠ owners.length then 230
 else if (rows.zip owners).any (fun p => rowBad (wide rows) p.1 p.2) = true then 230 else 0
theorem progE_long {rows:List (List Int)} {owners:List Int} (h:64 < rows.length ∨ rows.any longR = true):progE rows owners = 2:=by unfold progE; rw [if_pos h]
theorem progE_len {rows:List (List Int)} {owners:List Int} (h:rows.length ≤ 64) (h2:rows.any longR = false) (h3:rows.length ≠ owners.length):progE rows owners = 230:=by
 unfold progE; rw [if_neg (by rw [h2]; simp; omega),if_pos h3]
theorem zip_at {rows:List (List Int)} {owners:List Int} (h3:rows.length = owners.length) {k:Nat} (hk:k < rows.length):(rows.zip owners)[k]'(by simp; omega) = (rows[k],owners[k]'(by omega)):=by simp
theorem progE_bad {rows:List (List Int)} {owners:List Int} (h:rows.length ≤ 64) (h2:rows.any longR = false) (h3:rows.length = owners.length) {k:Nat} (hk:k < rows.length) (hb:rowBad (wide rows) rows[k] (owners[k]'(by omega)) = true):progE rows owners = 230:=by
 unfold progE; rw [if_neg (by rw [h2]; simp; omega),if_neg (by omega),if_pos]
 rw [List.any_eq_true]
 have hz:k < (rows.zip owners).length:=by simp; omega
 exact ⟨(rows.zip owners)[k],List.getElem_mem hz,by rw [zip_at h3 hk]; exact hb⟩
theorem progE_fine {rows:List (List Int)} {owners:List Int} (h:rows.length ≤ 64) (h2:rows.any longR = false) (h3:rows.length = owners.length) (hb:∀ k (hk:k < rows.length),rowBad (wide rows) rows[k] (owners[k]'(by omega)) = false):progE rows owners = 0:=by
 unfold progE; rw [if_neg (by rw [h2]; simp; omega),if_neg (by omega),if_neg]
 intro ha
 rw [List.any_eq_true] at ha
 obtain ⟨p,hp,hq⟩:=ha
 obtain ⟨k,hk,rfl⟩:=List.mem_iff_getElem.1 hp
 have hk2:k < rows.length:=by simp at hk; omega
 rw [zip_at h3 hk2] at hq
 rw [hb k hk2] at hq; cases hq
theorem box_prog (w:World) (u v:Value) (t:TypeId):∃ W,W = w.alloc (.cells #[u,v] t) ∧ Below w.heap.size w W ∧ W.heap[w.heap.size]? = some (.cells #[u,v] t (0,0)) ∧ w.heap.size < W.heap.size:=
 ⟨_,rfl,(Below.refl _ _).alloc (Nat.le_refl _) _,World.alloc_heap_new _ _,by simp [go_sem]⟩
theorem rowp_cell {W:World} {b:Nat} {L:Array Value} {t:TypeId} (h:W.heap[b]? = some (.cells L t (0,0))) {k:Nat} {v:Value} (hk:L[k]? = some v):W.cell? ⟨b,k,none⟩ = some v:=by
 simp [World.cell?,h,hk]
theorem bad_0 {m:Nat} {r:List Int} {o:Int} (h:r.length = 0):rowBad m r o = true:=by unfold rowBad; rw [decide_eq_true h]; rfl
theorem bad_1 {m:Nat} {r:List Int} {o:Int} (h:r.length ≠ m):rowBad m r o = true:=by unfold rowBad; rw [decide_eq_true h]; simp
theorem bad_2 {m:Nat} {r:List Int} {o:Int} (h:inB o 0 63 = false):rowBad m r o = true:=by unfold rowBad; rw [h]; simp
theorem bad_3 {m:Nat} {r:List Int} {o:Int} (h:r.any oddQ = true):rowBad m r o = true:=by unfold rowBad; rw [h]; simp
theorem bad_no {m:Nat} {r:List Int} {o:Int} (h0:r.length ≠ 0) (h1:r.length = m) (h2:inB o 0 63 = true) (h3:r.any oddQ = false):rowBad m r o = false:=by
 unfold rowBad; rw [decide_eq_false h0,decide_eq_false (by simpa using h1),h2,h3]; rfl
theorem pCheck_any (rv ov:Value) (rows:List (List Int)) (owners:List Int) (w:World) (hR:Rows2 w rv rows) (hO:Ints w ov owners) :
  Calls Tryz.prog 87 #[.agg #[rv,ov]] w fun e w' => e = .returned (.int .i64 (progE rows owners)) ∧ Below w.heap.size w w':=by
 obtain ⟨W1,hW1,hb1,hr1,hz⟩:=box_prog w rv ov 25
 have HR1:=Lib.hid (hR.below hb1)
 have HO1:=Lib.hid (hO.below hb1)
 obtain ⟨a,cap,rfl,-,hlen,-⟩:=id hR
 obtain ⟨a2,cap2,rfl,-,hlen2,-⟩:=id hO
 have c0:W1.cell? ⟨w.heap.size,0,none⟩ = some (.slice a rows.length cap):=rowp_cell hr1 rfl
 have c1:W1.cell? ⟨w.heap.size,1,none⟩ = some (.slice a2 owners.length cap2):=rowp_cell hr1 rfl
 have HW1:=Lib.hid hW1
 have HB1:=Lib.hid hb1
 clear hR hO hr1 hW1 hb1
 by_cases h64:rows.length ≤ 64
 ·have HCF:=Lib.hid (containsFuncR_any 154 #[] longR _ rows W1 HR1.out plong_goes (plong_tests W1))
  cases hl:rows.any longR with
  | true =>
   have HV:=Lib.hid (progE_long (owners:=owners) (.inr hl))
   rw [hl] at HCF
   clear hl
   go_enter Tryz.func87,Tryz.ntmps87
   go_wp2_with fail
   rw [← HW1.out]
   refine HCF.out.mono ?_
   rintro e w2 ⟨rfl,hb2⟩
   go_wp2_with fail
   go_ret
   exact ⟨ret_int HV.out.symm,HB1.out.trans (hb2.mono HB1.out.size)⟩
  | false =>
   rw [hl] at HCF
   have HL:=Lib.hid hl
   clear hl
   by_cases hne:rows.length = owners.length
   ·have hneI:((rows.length:Int) != (owners.length:Int)) = false:=by rw [hne]; exact bne_self_eq_false _
    have HNE:=Lib.hid hne
    clear hne
    go_enter Tryz.func87,Tryz.ntmps87
    go_wp2_with fail
    rw [← HW1.out]
    refine HCF.out.mono ?_
    rintro e w2 ⟨rfl,hb2⟩
    have d0:=below_cell hb2 c0
    have d1:=below_cell hb2 c1
    have HR2:=Lib.hid (HR1.out.below hb2)
    have HO2:=Lib.hid (HO1.out.below hb2)
    have HB2:=Lib.hid (HB1.out.trans (hb2.mono HB1.out.size))
    clear hb2 c0 c1 HCF
    go_wp2_with fail
    go_loopw [27] (fun i W => ∃ k:Nat,k ≤ rows.length ∧ i = .int .i64 k ∧ Hid (∀ j (hj:j < rows.length),j < k → rowBad (wide rows) rows[j] (owners[j]'(by have:=HNE.out; omega)) = false) ∧ Below w2.heap.size w2 W) (fun i _ => rows.length - (intOf i).toNat)
    case atStart => exact ⟨0,Nat.zero_le _,rfl,Lib.hid (fun j _ h => absurd h (Nat.not_lt_zero _)),Below.refl _ _⟩
    case round =>
     obtain ⟨k,hkl,rfl,HP,hb⟩:=hrel
     have x0:=below_cell hb d0
     have x1:=below_cell hb d1
     have HB3:=Lib.hid (HB2.out.trans (hb.mono HB2.out.size))
     have HBR:=Lib.hid hb
     by_cases hlt:k < rows.length
     ·have hko:k < owners.length:=by have:=HNE.out; omega
      obtain ⟨aa,cc,e1,-,-,hk⟩:=HR2.out
      obtain ⟨b,off,r,ha,q1,hI⟩:=hk k hlt
      obtain ⟨b0,off0,r0,ha0,q0,hI0⟩:=hk 0 (by omega)
      simp only [Value.slice.injEq] at e1
      obtain ⟨rfl,-,rfl⟩:=e1
      subst ha
      simp only [Option.some.injEq,Addr.mk.injEq,and_true] at ha0
      obtain ⟨rfl,rfl⟩:=ha0
      obtain ⟨aa2,cc2,e2,-,-,hr2,hk2⟩:=HO2.out
      obtain ⟨b2,off2,ha2,q2⟩:=hk2 k hko
      simp only [Value.slice.injEq] at e2
      obtain ⟨rfl,-,rfl⟩:=e2
      subst ha2
      have hor:=hr2 _ (List.getElem_mem hko)
      rw [Nat.add_zero] at q0
      have y0:=below_cell hb q0
      have y1:=below_cell hb q1
      have y2:=below_cell hb q2
      have HI:=Lib.hid (hI.below hb)
      obtain ⟨ra,rc,rfl,-⟩:=id hI
      obtain ⟨ra0,rc0,rfl,-⟩:=id hI0
      have HWD:=Lib.hid (wide_at rows (by omega))
      have HBAD:=Lib.hid (fun h => progE_bad h64 HL.out HNE.out hlt h)
      have HNX:=Lib.hid (show rowBad (wide rows) rows[k] owners[k] = false → ∀ j (hj:j < rows.length),j < k + 1 → rowBad (wide rows) rows[j] (owners[j]'(by have:=HNE.out; omega)) = false from fun h j hj hjk => by
       by_cases e:j = k
       ·subst e; exact h
       ·exact HP.out j hj (by omega))
      rw [HWD.out] at y0
      clear hI hI0 hk hk2 hr2 q0 q1 q2 HP hb HWD
      generalize rows[k] = r at *
      generalize owners[k] = o at *
      generalize wide rows = m at *
      by_cases e0:r.length = 0
      ·have HV:=Lib.hid (HBAD.out (bad_0 e0))
       have z0:((r.length:Int) == 0) = true:=by rw [e0]; rfl
       clear e0 HNX HBAD
       go_wp2_with fail
       go_ret
       exact ⟨ret_int HV.out.symm,HB3.out⟩
      ·have z0:((r.length:Int) == 0) = false:=beq_eq_false_iff_ne.2 (by omega)
       by_cases e1:r.length = m
       ·have z1:((r.length:Int) != (m:Int)) = false:=by rw [e1]; exact bne_self_eq_false _
        cases e2:inB o 0 63 with
        | false =>
         have HV:=Lib.hid (HBAD.out (bad_2 (m:=m) (r:=r) e2))
         have H2:=Lib.hid e2
         clear e0 e1 e2 HNX HBAD
         go_wp2_with fail
         with_reducible refine (pperson_any o _).mono ?_
         rintro e w3 ⟨rfl,rfl⟩
         rw [H2.out]
         go_wp2_with fail
         go_ret
         exact ⟨ret_int HV.out.symm,HB3.out⟩
        | true =>
         have H2:=Lib.hid e2
         have HC2:=Lib.hid (containsFunc_any 156 #[] oddQ _ r _ HI.out podd_goes (podd_tests _ _))
         cases e3:r.any oddQ with
         | true =>
          have HV:=Lib.hid (HBAD.out (bad_3 (m:=m) (o:=o) e3))
          rw [e3] at HC2
          clear e0 e1 e2 e3 HNX HBAD
          go_wp2_with fail
          with_reducible refine (pperson_any o _).mono ?_
          rintro e w3 ⟨rfl,rfl⟩
          rw [H2.out]
          go_wp2_with fail
          refine HC2.out.mono ?_
          rintro e w3 ⟨rfl,hb3⟩
          go_wp2_with fail
          go_ret
          exact ⟨ret_int HV.out.symm,HB3.out.trans (hb3.mono HB3.out.size)⟩
         | false =>
          have HN:=Lib.hid (HNX.out (bad_no e0 e1 e2 e3))
          rw [e3] at HC2
          clear e0 e1 e2 e3 HNX HBAD
          go_wp2_with fail
          with_reducible refine (pperson_any o _).mono ?_
          rintro e w3 ⟨rfl,rfl⟩
          rw [H2.out]
          go_wp2_with fail
          refine HC2.out.mono ?_
          rintro e w3 ⟨rfl,hb3⟩
          go_wp2_with fail
          go_roundw
          case rel => exact ⟨k + 1,by omega,by go_num,HN,HBR.out.trans (hb3.mono HBR.out.size)⟩
          case measure => simp [intOf]; omega
       ·have HV:=Lib.hid (HBAD.out (bad_1 (o:=o) e1))
        have z1:((r.length:Int) != (m:Int)) = true:=bne_iff_ne.2 (by omega)
        clear e0 e1 HNX HBAD
        go_wp2_with fail
        go_ret
        exact ⟨ret_int HV.out.symm,HB3.out⟩
     ·have HV:=Lib.hid (progE_fine h64 HL.out HNE.out (fun j hj => HP.out j hj (by omega)))
      go_wp2_with fail
      go_ret
      exact ⟨ret_int HV.out.symm,HB3.out⟩
   ·have hneI:((rows.length:Int) != (owners.length:Int)) = true:=bne_iff_ne.2 (by omega)
    have HV:=Lib.hid (progE_len h64 HL.out hne)
    clear hne
    go_enter Tryz.func87,Tryz.ntmps87
    go_wp2_with fail
    rw [← HW1.out]
    refine HCF.out.mono ?_
    rintro e w2 ⟨rfl,hb2⟩
    have d0:=below_cell hb2 c0
    have d1:=below_cell hb2 c1
    go_wp2_with fail
    go_ret
    exact ⟨ret_int HV.out.symm,HB1.out.trans (hb2.mono HB1.out.size)⟩
 ·have HV:=Lib.hid (progE_long (rows:=rows) (owners:=owners) (.inl (by omega)))
  have hd:decide ((rows.length:Int) ≤ 64) = false:=decide_eq_false (by omega)
  go_enter Tryz.func87,Tryz.ntmps87
  go_wp2_with fail
  go_ret
  exact ⟨ret_int HV.out.symm,HW1.out ▸ HB1.out⟩
end Go.Proofs.YtggnipkfliompaaGreatDoor
namespace Go.Proofs.YtggnipkfliompaaGreatDoor
open Go.RowKit
end Go.Proofs.YtggnipkfliompaaGreatDoor
namespace Go.Proofs.YtggnipkfliompaaGreatDoor
open Go.RowKit
end Go.Proofs.YtggnipkfliompaaGreatDoor
namespace Go.Proofs.YtggnipkfliompaaGreatDoor
open Go.RowKit
end Go.Proofs.YtggnipkfliompaaGreatDoor
namespace Go.Proofs.YtggnipkfliompaaGreatDoor
open Go.RowKit
theorem below_drewN {B:Nat} {a w:World} (h:Below B a w) (n:Nat):Below B a (w.drewN n):=⟨h.os,h.tape,h.output,h.size,h.block⟩
def sameQ (a b:List Int):Bool:=decide (a = b)
theorem sameQ_len {a b:List Int} (h:a.length ≠ b.length):sameQ a b = false:=decide_eq_false fun e => h (by rw [e])
theorem sameQ_at {a b:List Int} {k:Nat} (h1:k < a.length) (h2:k < b.length) (h:a[k] ≠ b[k]):sameQ a b = false:=decide_eq_false fun e => h (by subst e; rfl)
theorem sameQ_all {a b:List Int} (h:a.length = b.length) (h1:∀ k (h1:k < a.length) (h2:k < b.length),a[k] = b[k]):sameQ a b = true:=decide_eq_true (List.ext_getElem h h1)
end Go.Proofs.YtggnipkfliompaaGreatDoor
namespace Go.Proofs.YtggnipkfliompaaGreatDoor
open Go.RowKit
theorem any_of_take {α:Type} {p:α → Bool} {l:List α} {k:Nat} (h:¬ k < l.length) (hp:∀ x ∈ l.take k,p x = false):l.any p = false:=by
 have h2:∀ x ∈ l,p x = false:=by rwa [List.take_of_length_le (by omega)] at hp
 cases e:l.any p with
 | false => rfl
 | true => obtain ⟨x,hx,hq⟩:=List.any_eq_true.1 e; rw [h2 x hx] at hq; cases hq
theorem take_next {α:Type} {p:α → Bool} {l:List α} {k:Nat} (h:k < l.length) (hp:∀ x ∈ l.take k,p x = false) (hk:p l[k] = false):∀ x ∈ l.take (k + 1),p x = false:=by
 rw [List.take_succ_eq_append_getElem h]
 intro x hx
 rcases List.mem_append.1 hx with hx | hx
 ·exact hp x hx
 ·rw [List.mem_singleton.1 hx]; exact hk
theorem any_here {α:Type} {p:α → Bool} {l:List α} {k:Nat} (h:k < l.length) (hk:p l[k] = true):l.any p = true:=List.any_eq_true.2 ⟨_,List.getElem_mem h,hk⟩
theorem rpCheck_any (rv ov:Value) (rows:List (List Int)) (owners:List Int) (w:World) (hR:Rows2 w rv rows) (hO:Ints w ov owners) :
  Calls Tryz.prog 68 #[.agg #[rv,ov]] w fun e w' => e = .returned (.int .i64 (progE rows owners)) ∧ Below w.heap.size w w':=by
 obtain ⟨W1,hW1,hb1,hr1,hz⟩:=box_prog w rv ov 25
 have HR1:=Lib.hid (hR.below hb1)
 have HO1:=Lib.hid (hO.below hb1)
 obtain ⟨a,cap,rfl,-,hlen,-⟩:=id hR
 obtain ⟨a2,cap2,rfl,-,hlen2,-⟩:=id hO
 have c0:W1.cell? ⟨w.heap.size,0,none⟩ = some (.slice a rows.length cap):=rowp_cell hr1 rfl
 have c1:W1.cell? ⟨w.heap.size,1,none⟩ = some (.slice a2 owners.length cap2):=rowp_cell hr1 rfl
 have HW1:=Lib.hid hW1
 have HB1:=Lib.hid hb1
 clear hR hO hr1 hW1 hb1
 by_cases h64:rows.length ≤ 64
 ·go_enter Tryz.func68,Tryz.ntmps68
  go_wp2_with fail
  rw [← HW1.out]
  go_loopw [3] (fun i W => ∃ k:Nat,k ≤ rows.length ∧ i = .int .i64 k ∧ Hid (∀ r ∈ rows.take k,longR r = false) ∧ Below W1.heap.size W1 W) (fun i _ => rows.length - (intOf i).toNat)
  case atStart => exact ⟨0,Nat.zero_le _,rfl,Lib.hid (by simp),Below.refl _ _⟩
  case round =>
   obtain ⟨k,hkl,rfl,HP,hb⟩:=hrel
   have x0:=below_cell hb c0
   have x1:=below_cell hb c1
   have HBR:=Lib.hid hb
   by_cases hlt:k < rows.length
   ·obtain ⟨aa,cc,e1,-,-,hk⟩:=HR1.out
    obtain ⟨b,off,r,ha,q1,hI⟩:=hk k hlt
    simp only [Value.slice.injEq] at e1
    obtain ⟨rfl,-,rfl⟩:=e1
    subst ha
    have y1:=below_cell hb q1
    obtain ⟨ra,rc,rfl,-⟩:=id hI
    clear hk hI q1
    cases el:longR rows[k] with
    | true =>
     have HV:=Lib.hid (progE_long (owners:=owners) (.inr (any_here hlt el)))
     have hd:decide ((64:Int) < (rows[k].length:Int)) = true:=decide_eq_true (by simp [longR] at el; omega)
     clear el
     generalize rows[k] = r at *
     go_wp2_with fail
     go_ret
     exact ⟨ret_int HV.out.symm,HB1.out.trans (HBR.out.mono HB1.out.size)⟩
    | false =>
     have HN:=Lib.hid (take_next hlt HP.out el)
     have hd:decide ((64:Int) < (rows[k].length:Int)) = false:=decide_eq_false (by simp [longR] at el; omega)
     clear el
     generalize rows[k] = r at *
     go_wp2_with fail
     go_roundw
     case rel => exact ⟨k + 1,by omega,by go_num,HN,HBR.out⟩
     case measure => simp [intOf]; omega
   ·have HL:=Lib.hid (any_of_take hlt HP.out)
    have HB2:=Lib.hid (HB1.out.trans (HBR.out.mono HB1.out.size))
    have HR2:=Lib.hid (HR1.out.below HBR.out)
    have HO2:=Lib.hid (HO1.out.below HBR.out)
    have hdk:decide (k < rows.length) = false:=decide_eq_false hlt
    by_cases hne:rows.length = owners.length
    ·have hneI:((rows.length:Int) != (owners.length:Int)) = false:=by rw [hne]; exact bne_self_eq_false _
     have HNE:=Lib.hid hne
     clear hne HP HR1 HO1 hb HBR
     go_wp2_with fail
     obtain ⟨wo,hwo⟩:∃ wo:World,wo = wr:=⟨_,rfl⟩
     rw [← hwo] at HR2 HO2 HB2 x0 x1 ⊢
     clear hwo
     go_loopw [4] (fun i W => ∃ k:Nat,k ≤ rows.length ∧ i = .int .i64 k ∧ Hid (∀ j (hj:j < rows.length),j < k → rowBad (wide rows) rows[j] (owners[j]'(by have:=HNE.out; omega)) = false) ∧ Below wo.heap.size wo W) (fun i _ => rows.length - (intOf i).toNat)
     case atStart => exact ⟨0,Nat.zero_le _,rfl,Lib.hid (fun j _ h => absurd h (Nat.not_lt_zero _)),Below.refl _ _⟩
     case round =>
      obtain ⟨k,hkl,rfl,HP,hb⟩:=hrel
      have v0:=below_cell hb x0
      have v1:=below_cell hb x1
      have HB3:=Lib.hid (HB2.out.trans (hb.mono HB2.out.size))
      have HBR:=Lib.hid hb
      by_cases hlt:k < rows.length
      ·have hko:k < owners.length:=by have:=HNE.out; omega
       obtain ⟨aa,cc,e1,-,-,hk⟩:=HR2.out
       obtain ⟨b,off,r,ha,q1,hI⟩:=hk k hlt
       obtain ⟨b0,off0,r0,ha0,q0,hI0⟩:=hk 0 (by omega)
       simp only [Value.slice.injEq] at e1
       obtain ⟨rfl,-,rfl⟩:=e1
       subst ha
       simp only [Option.some.injEq,Addr.mk.injEq,and_true] at ha0
       obtain ⟨rfl,rfl⟩:=ha0
       obtain ⟨aa2,cc2,e2,-,-,hr2,hk2⟩:=HO2.out
       obtain ⟨b2,off2,ha2,q2⟩:=hk2 k hko
       simp only [Value.slice.injEq] at e2
       obtain ⟨rfl,-,rfl⟩:=e2
       subst ha2
       have hor:=hr2 _ (List.getElem_mem hko)
       rw [Nat.add_zero] at q0
       have y0:=below_cell hb q0
       have y1:=below_cell hb q1
       have y2:=below_cell hb q2
       have HI:=Lib.hid (hI.below hb)
       obtain ⟨ra,rc,rfl,-,hrl,-⟩:=id hI
       obtain ⟨ra0,rc0,rfl,-⟩:=id hI0
       have HWD:=Lib.hid (wide_at rows (by omega))
       have HBAD:=Lib.hid (fun h => progE_bad h64 HL.out HNE.out hlt h)
       have HNX:=Lib.hid (show rowBad (wide rows) rows[k] owners[k] = false → ∀ j (hj:j < rows.length),j < k + 1 → rowBad (wide rows) rows[j] (owners[j]'(by have:=HNE.out; omega)) = false from fun h j hj hjk => by
        by_cases e:j = k
        ·subst e; exact h
        ·exact HP.out j hj (by omega))
       rw [HWD.out] at y0
       have i0:0 ≤ (k:Int):=by omega
       have i1:(k:Int) < (rows.length:Int):=by omega
       have i2:(k:Int) < (owners.length:Int):=by omega
       have i3:(0:Int) < (rows.length:Int):=by omega
       clear hI hI0 hk hk2 hr2 q0 q1 q2 HP hb HWD
       generalize rows[k] = r at *
       generalize owners[k] = o at *
       generalize wide rows = m at *
       by_cases e0:r.length = 0
       ·have HV:=Lib.hid (HBAD.out (bad_0 e0))
        have z0:decide ((r.length:Int) < 1) = true:=decide_eq_true (by omega)
        clear e0 HNX HBAD
        go_wp2_with fail
        go_quiet (fail)
        go_wp2_with fail
        go_ret
        exact ⟨ret_int HV.out.symm,below_drewN HB3.out _⟩
       ·have z0:decide ((r.length:Int) < 1) = false:=decide_eq_false (by omega)
        by_cases e1:r.length = m
        ·have z1:((r.length:Int) != (m:Int)) = false:=by rw [e1]; exact bne_self_eq_false _
         by_cases e2:0 ≤ o
         ·have z2:decide (o < 0) = false:=decide_eq_false (by omega)
          by_cases e3:o < 64
          ·have z3:decide (o ≥ 64) = false:=decide_eq_false (by omega)
           have z4:decide (64 ≤ o) = false:=decide_eq_false (by omega)
           have HOK:=Lib.hid (inB_iff.2 (show 0 ≤ o ∧ o ≤ 63 by omega))
           have HE1:=Lib.hid e1
           clear e1
           go_wp2_with fail
           go_quiet (fail)
           obtain ⟨wq,hwq⟩:∃ wq:World,wq = wr:=⟨_,rfl⟩
           rw [← hwq] at HI HB3 HBR v0 v1 y0 y1 y2 ⊢
           clear hwq y0 y2
           go_wp2_with fail
           go_loopw [5] (fun i W => ∃ j:Nat,j ≤ r.length ∧ i = .int .i64 j ∧ Hid (∀ z ∈ r.take j,oddQ z = false) ∧ Below wq.heap.size wq W) (fun i _ => r.length - (intOf i).toNat)
           case atStart => exact ⟨0,Nat.zero_le _,rfl,Lib.hid (by simp),below_drewN (Below.refl _ _) _⟩
           case round =>
            obtain ⟨j,hjl,rfl,HQ,hbq⟩:=hrel
            have s0:=below_cell hbq v0
            have s1:=below_cell hbq v1
            have s2:=below_cell hbq y1
            have HBQ:=Lib.hid hbq
            by_cases hj:j < r.length
            ·obtain ⟨ab,ac,e5,-,-,hrr,hkk⟩:=HI.out
             obtain ⟨bb,oo,ha5,q5⟩:=hkk j hj
             simp only [Value.slice.injEq] at e5
             obtain ⟨rfl,-,rfl⟩:=e5
             subst ha5
             have s3:=below_cell hbq q5
             have hz64:=hrr _ (List.getElem_mem hj)
             have j0:0 ≤ (j:Int):=by omega
             have j1:(j:Int) < (r.length:Int):=by omega
             clear hkk hrr hbq q5
             cases eo:oddQ r[j] with
             | true =>
              have HV:=Lib.hid (HBAD.out (bad_3 (m:=m) (o:=o) (any_here hj eo)))
              by_cases hn:r[j] < 0
              ·clear eo HNX HBAD
               generalize r[j] = z at *
               go_wp2_with fail
               go_ret
               exact ⟨ret_int HV.out.symm,HB3.out.trans (HBQ.out.mono HB3.out.size)⟩
              ·have hq:decide (r[j] ≥ 1073741789) = true:=decide_eq_true (by simp [oddQ] at eo; omega)
               have hq2:decide (1073741789 ≤ r[j]) = true:=decide_eq_true (by simp [oddQ] at eo; omega)
               have hn0:0 ≤ r[j]:=by omega
               clear eo hn HNX HBAD
               generalize r[j] = z at *
               go_wp2_with fail
               go_ret
               exact ⟨ret_int HV.out.symm,HB3.out.trans (HBQ.out.mono HB3.out.size)⟩
             | false =>
              have HN:=Lib.hid (take_next hj HQ.out eo)
              have hn0:0 ≤ r[j]:=by simp [oddQ] at eo; omega
              have hn1:r[j] < 1073741789:=by simp [oddQ] at eo; omega
              clear eo HNX HBAD
              generalize r[j] = z at *
              go_wp2_with fail
              go_roundw
              case rel => exact ⟨j + 1,by omega,by go_num,HN,HBQ.out⟩
              case measure => simp [intOf]; omega
            ·have HN:=Lib.hid (HNX.out (bad_no e0 HE1.out HOK.out (any_of_take hj HQ.out)))
             have hdj:decide (j < r.length) = false:=decide_eq_false hj
             clear HNX HBAD e0
             go_wp2_with fail
             go_roundw
             case rel => exact ⟨k + 1,by omega,by go_num,HN,HBR.out.trans (HBQ.out.mono HBR.out.size)⟩
             case measure => simp [intOf]; omega
          ·have HV:=Lib.hid (HBAD.out (bad_2 (m:=m) (r:=r) (inB_false (show ¬ (0 ≤ o ∧ o ≤ 63) by omega))))
           have z3:decide (o ≥ 64) = true:=decide_eq_true (by omega)
           have z4:decide (64 ≤ o) = true:=decide_eq_true (by omega)
           clear e0 e1 HNX HBAD
           go_wp2_with fail
           go_quiet (fail)
           go_wp2_with fail
           go_ret
           exact ⟨ret_int HV.out.symm,below_drewN HB3.out _⟩
         ·have HV:=Lib.hid (HBAD.out (bad_2 (m:=m) (r:=r) (inB_false (show ¬ (0 ≤ o ∧ o ≤ 63) by omega))))
          have z2:decide (o < 0) = true:=decide_eq_true (by omega)
          clear e0 e1 HNX HBAD
          go_wp2_with fail
          go_quiet (fail)
          go_wp2_with fail
          go_ret
          exact ⟨ret_int HV.out.symm,below_drewN HB3.out _⟩
        ·have HV:=Lib.hid (HBAD.out (bad_1 (o:=o) e1))
         have z1:((r.length:Int) != (m:Int)) = true:=bne_iff_ne.2 (by omega)
         clear e0 e1 HNX HBAD
         go_wp2_with fail
         go_quiet (fail)
         go_wp2_with fail
         go_ret
         exact ⟨ret_int HV.out.symm,below_drewN HB3.out _⟩
      ·have HV:=Lib.hid (progE_fine h64 HL.out HNE.out (fun j hj => HP.out j hj (by omega)))
       have hdk:decide (k < rows.length) = false:=decide_eq_false hlt
       go_wp2_with fail
       go_ret
       exact ⟨ret_int HV.out.symm,HB3.out⟩
    ·have hneI:((rows.length:Int) != (owners.length:Int)) = true:=bne_iff_ne.2 (by omega)
     have HV:=Lib.hid (progE_len h64 HL.out hne)
     clear hne
     go_wp2_with fail
     go_ret
     exact ⟨ret_int HV.out.symm,HB2.out⟩
 ·have HV:=Lib.hid (progE_long (rows:=rows) (owners:=owners) (.inl (by omega)))
  have hd:decide ((rows.length:Int) ≤ 64) = false:=decide_eq_false (by omega)
  go_enter Tryz.func68,Tryz.ntmps68
  go_wp2_with fail
  go_ret
  exact ⟨ret_int HV.out.symm,HW1.out ▸ HB1.out⟩
end Go.Proofs.YtggnipkfliompaaGreatDoor
namespace Go.Proofs.YtggnipkfliompaaGreatDoor
open Go.RowKit
end Go.Proofs.YtggnipkfliompaaGreatDoor
namespace Go.Proofs.YtggnipkfliompaaGreatDoor
open Go.RowKit
def nth (l:List Int) (i:Nat):Int:=l[i]?.getD 0
theorem nth_at {l:List Int} {i:Nat} (h:i < l.length):nth l i = l[i]:=by unfold nth; rw [List.getElem?_eq_getElem h]; rfl
theorem Ints.get {w:World} {v:Value} {zs:List Int} (h:Ints w v zs) {k:Nat} (hk:k < zs.length):R64 (nth zs k) ∧ ∃ b off n c,v = .slice (some ⟨b,off,none⟩) n c ∧ w.cell? ⟨b,off + k,none⟩ = some (.int .i64 (nth zs k)):=by
 obtain ⟨a,cap,rfl,h1,h2,h3,h4⟩:=h
 obtain ⟨b,off,rfl,hc⟩:=h4 k hk
 rw [nth_at hk]
 exact ⟨h3 _ (List.getElem_mem hk),b,off,_,_,rfl,hc⟩
def prodF (a b:List Int):Nat → Int
 | 0 => 0
 | k + 1 => (prodF a b k + nth a k * nth b k % 1073741789) % 1073741789
def prodQ (a b:List Int):Int:=prodF a b a.length
theorem prodF_num (a b:List Int):∀ k,0 ≤ prodF a b k ∧ prodF a b k < 1073741789
 | 0 => by simp [prodF]
 | k + 1 => mod_num _
end Go.Proofs.YtggnipkfliompaaGreatDoor
namespace Go.Proofs.YtggnipkfliompaaGreatDoor
open Go.RowKit
end Go.Proofs.YtggnipkfliompaaGreatDoor
