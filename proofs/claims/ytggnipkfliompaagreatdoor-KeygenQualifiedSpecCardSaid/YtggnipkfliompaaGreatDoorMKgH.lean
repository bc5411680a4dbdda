/- Package keygen: slices of complaints; does any count. Maps with integer keys that a call has made, told as functions from keys to values. -/
import Derived.Test.YtggnipkfliompaaGreatDoorMKgA
import Derived.Test.YtggnipkfliompaaGreatDoorMKgT
import Derived.Test.YtggnipkfliompaaGreatDoorMRegF
import Derived.Maps.OwnSet
import Derived.ChangeMaps3
set_option maxHeartbeats 8000000
set_option maxRecDepth 100000
namespace Go.Proofs.YtggnipkfliompaaGreatDoor
open Go.RowKit FP
def cmpC (c:Cmp):List Value:=[.int .i64 c.dealer,.int .i64 c.row,.int .i64 c.D,.int .i64 c.E,.int .i64 c.S]
def noC:Cmp:=⟨0,0,0,0,0⟩
def Cmps (w:World) (v:Value) (l:List Cmp):Prop:=
 ∃ a cap,v = .slice a l.length cap ∧ l.length ≤ cap ∧ l.length ≤ 17592186044416 ∧ (∀ c ∈ l,CmpR c) ∧
  ∀ k (h:k < l.length),∃ b off,a = some ⟨b,off,none⟩ ∧ ∀ j u,(cmpC l[k])[j]? = some u → w.cell? ⟨b,off + k * 5 + j,none⟩ = some u
theorem Cmps.below {w w':World} {v:Value} {l:List Cmp} (h:Cmps w v l) (hb:Below w.heap.size w w'):Cmps w' v l:=by
 obtain ⟨a,cap,rfl,hc,hl,hr,hk⟩:=h
 refine ⟨a,cap,rfl,hc,hl,hr,fun k hlt => ?_⟩
 obtain ⟨b,off,ha,h1⟩:=hk k hlt
 exact ⟨b,off,ha,fun j u hj => below_cell hb (h1 j u hj)⟩
theorem Cmps.nil (w:World) (a:Option Addr) (cap:Nat):Cmps w (.slice a 0 cap) []:=
 ⟨a,cap,rfl,Nat.zero_le _,by simp,by simp,fun k h => absurd h (Nat.not_lt_zero _)⟩
theorem Cmps.at {w:World} {a:Option Addr} {n c:Nat} {l:List Cmp} (h:Cmps w (.slice a n c) l) {k:Nat} (hk:k < l.length):∃ b off,a = some ⟨b,off,none⟩ ∧ CmpR l[k] ∧ w.cell? ⟨b,off + k * 5,none⟩ = some (.int .i64 l[k].dealer) ∧ w.cell? ⟨b,off + k * 5 + 1,none⟩ = some (.int .i64 l[k].row) ∧ w.cell? ⟨b,off + k * 5 + 2,none⟩ = some (.int .i64 l[k].D) ∧ w.cell? ⟨b,off + k * 5 + 3,none⟩ = some (.int .i64 l[k].E) ∧ w.cell? ⟨b,off + k * 5 + 4,none⟩ = some (.int .i64 l[k].S):=by
 obtain ⟨a',cap,h1,-,-,h4,h5⟩:=h
 cases h1
 obtain ⟨b,off,e,h6⟩:=h5 k hk
 exact ⟨b,off,e,h4 _ (List.getElem_mem hk),h6 0 _ rfl,h6 1 _ rfl,h6 2 _ rfl,h6 3 _ rfl,h6 4 _ rfl⟩
theorem cflat_at:∀ (l:List Cmp) (k j:Nat) (hk:k < l.length),j < 5 → (l.flatMap cmpC)[k * 5 + j]? = (cmpC l[k])[j]?
 | [],k,_,hk,_ => absurd hk (Nat.not_lt_zero k)
 | z :: l,0,j,_,hj => by
  rw [List.flatMap_cons,Nat.zero_mul,Nat.zero_add,List.getElem?_append_left (by show j < 5; exact hj)]; rfl
 | z :: l,k + 1,j,hk,hj => by
  rw [List.flatMap_cons,List.getElem?_append_right (by show 5 ≤ _; omega)]
  have e:(k + 1) * 5 + j - (cmpC z).length = k * 5 + j:=by show (k + 1) * 5 + j - 5 = _; omega
  rw [e,cflat_at l k j (by simpa using hk) hj]; rfl
theorem cflat_size (l:List Cmp):(l.flatMap cmpC).length = l.length * 5:=by
 induction l with
 | nil => rfl
 | cons z l ih => rw [List.flatMap_cons,List.length_append,ih,List.length_cons]; show 5 + _ = _; omega
theorem cflat_snoc (l:List Cmp) (z:Cmp):(l ++ [z]).flatMap cmpC = l.flatMap cmpC ++ cmpC z:=by rw [List.flatMap_append]; simp
theorem Cmps.own {w:World} {base n:Nat} {v:Value} {l:List Cmp} (h:w.ownsRow base 34 5 v n (l.flatMap cmpC)) (hr:∀ c ∈ l,CmpR c) (hl:l.length ≤ 1000000):Cmps w v l:=by
 obtain ⟨hn,h⟩:=h
 rw [cflat_size] at hn
 obtain rfl:n = l.length:=by omega
 rcases h with ⟨rfl,h0⟩ | ⟨g,cap,cur,rfl,-,hg,hnc,-,hcs,hcur⟩
 ·exact ⟨none,0,by rw [h0],by omega,by omega,hr,fun k hk => absurd hk (by omega)⟩
 ·refine ⟨some ⟨g,0,none⟩,cap,rfl,hnc,by omega,hr,fun k hk => ⟨g,0,rfl,fun j u hu => ?_⟩⟩
  have hj:j < 5:=by
   have:=(List.getElem?_eq_some_iff.1 hu).1
   simpa [cmpC] using this
  have e2:(cur.toList.take (l.length * 5))[k * 5 + j]? = (cmpC l[k])[j]?:=by rw [hcur,cflat_at l k j hk hj]
  rw [List.getElem?_take,if_pos (by omega)] at e2
  rw [Nat.zero_add]
  exact row_cell hg (by rw [← Array.getElem?_toList,e2]; exact hu)
theorem cmpV_eq (c:Cmp):cmpV c = .agg #[.int .i64 c.dealer,.int .i64 c.row,.int .i64 c.D,.int .i64 c.E,.int .i64 c.S]:=rfl
def indexG {α:Type} (p:α → Bool):List α → Int
 | [] => -1
 | z :: l => if p z then 0 else if indexG p l < 0 then -1 else indexG p l + 1
theorem indexG_lo {α:Type} (p:α → Bool) (l:List α):-1 ≤ indexG p l:=by
 induction l with
 | nil => simp [indexG]
 | cons z l ih =>
  unfold indexG
  split
  ·omega
  ·split <;> omega
theorem indexG_none {α:Type} (p:α → Bool) (l:List α) (h:∀ z ∈ l,p z = false):indexG p l = -1:=by
 induction l with
 | nil => rfl
 | cons z l ih => unfold indexG; rw [if_neg (by simp [h z]),ih (fun y hy => h y (by simp [hy]))]; rfl
theorem indexG_at {α:Type} (p:α → Bool) (l:List α) (k:Nat) (hk:k < l.length) (h:∀ z ∈ l.take k,p z = false) (hp:p l[k] = true):indexG p l = k:=by
 induction l generalizing k with
 | nil => simp at hk
 | cons z l ih =>
  unfold indexG
  cases k with
  | zero => simp at hp; simp [hp]
  | succ k =>
   simp at hp hk
   rw [if_neg (by rw [h z (by simp)]; simp),ih k hk (fun y hy => h y (by simp [hy])) hp,if_neg (by omega)]; rfl
theorem indexG_any {α:Type} (p:α → Bool) (l:List α):decide (0 ≤ indexG p l) = l.any p:=by
 by_cases h:l.any p = true
 ·rw [h]
  induction l with
  | nil => simp at h
  | cons z l ih =>
   unfold indexG
   by_cases hz:p z = true
   ·simp [hz]
   ·have h':l.any p = true:=by simpa [hz] using h
    have:=ih h'
    simp at this
    simp [hz]; omega
 ·have h':∀ z ∈ l,p z = false:=by
   intro z hz; simp at h; simpa using h z hz
  rw [indexG_none p l h']; simp at h ⊢; exact h
def TestsC (f:FuncId) (cap:Array Value) (w:World) (p:Cmp → Bool) (l:List Cmp):Prop:=
 ∀ c ∈ l,∀ w',Below w.heap.size w w' → Calls Tryz.prog f (#[cmpV c] ++ cap) w' fun e w'' => e = .returned (.bool (p c)) ∧ Below w'.heap.size w' w''
theorem indexFuncC_any (f:FuncId) (cap:Array Value) (p:Cmp → Bool) (v:Value) (l:List Cmp) (w:World) (hI:Cmps w v l) (hE:Goes Tryz.prog f) (hT:TestsC f cap w p l) :
  Calls Tryz.prog 170 #[v,.func (.func f) #[] cap] w fun e w' => e = .returned (.int .i64 (indexG p l)) ∧ Below w.heap.size w w':=by
 have HL:=Lib.hid hI
 obtain ⟨a,cap',rfl,hcap,hlen,-⟩:=hI
 have HT:=Lib.hid hT
 clear hT
 have hE':∀ (args:Array Value) (w:World),(callFunc f args).run Tryz.prog w = .ok (.enter f args) w:=hE
 clear hE
 go_enter Tryz.func170,Tryz.ntmps170
 go_wp2_with fail
 go_loopw [5,8] (fun _ i wr => ∃ k:Nat,k ≤ l.length ∧ i = .int .i64 k ∧ Hid (∀ z ∈ l.take k,p z = false) ∧ Below w.heap.size w wr) (fun _ i _ => l.length - (intOf i).toNat)
 case atStart => exact ⟨0,Nat.zero_le _,rfl,Lib.hid (by simp),Below.refl _ _⟩
 case round =>
  obtain ⟨k,hkl,rfl,HP,hb⟩:=hrel
  by_cases hlt:k < l.length
  ·obtain ⟨b,off,ha,-,y0,y1,y2,y3,y4⟩:=(HL.out.below hb).at hlt
   subst ha
   have HC:=Lib.hid (HT.out l[k] (List.getElem_mem hlt) wr hb)
   rw [cmpV_eq] at HC
   obtain ⟨c,hc⟩:∃ c,c = l[k]:=⟨_,rfl⟩
   rw [← hc] at y0 y1 y2 y3 y4 HC
   have HCE:=Lib.hid hc
   clear hc
   obtain ⟨c0,c1,c2,c3,c4⟩:=c
   simp only at y0 y1 y2 y3 y4 HC
   cases hp:p ⟨c0,c1,c2,c3,c4⟩
   ·have HN:=Lib.hid (show ∀ z ∈ l.take (k + 1),p z = false by
     rw [List.take_succ_eq_append_getElem hlt]
     intro z hz
     rcases List.mem_append.1 hz with h | h
     ·exact HP.out z h
     ·rw [List.mem_singleton.1 h,← HCE.out]; exact hp)
    rw [hp] at HC
    have HB:=Lib.hid hb
    have i0:(0:Int) ≤ (k:Int):=by omega
    have i1:(k:Int) < (l.length:Int):=by omega
    clear hp hb
    go_wp2_with fail
    refine HC.out.mono ?_
    rintro e w1 ⟨rfl,hb1⟩
    go_wp2_with fail
    go_roundw
    case rel => exact ⟨k + 1,by omega,by go_num,HN,below_later HB.out (Nat.le_refl _) hb1⟩
    case measure => simp [intOf]; omega
   ·have HR:=Lib.hid (indexG_at p l k hlt HP.out (by rw [← HCE.out]; exact hp))
    rw [hp] at HC
    have HB:=Lib.hid hb
    have i0:(0:Int) ≤ (k:Int):=by omega
    have i1:(k:Int) < (l.length:Int):=by omega
    clear hp hb
    go_wp2_with fail
    refine HC.out.mono ?_
    rintro e w1 ⟨rfl,hb1⟩
    go_wp2_with fail
    go_ret
    exact ⟨ret_int HR.out.symm,below_later HB.out (Nat.le_refl _) hb1⟩
  ·have HR:=Lib.hid (indexG_none p l (by have:=HP.out; rwa [List.take_of_length_le (by omega)] at this))
   go_wp2_with fail
   go_ret
   exact ⟨ret_int HR.out.symm,hb⟩
theorem containsFuncC_any (f:FuncId) (cap:Array Value) (p:Cmp → Bool) (v:Value) (l:List Cmp) (w:World) (hI:Cmps w v l) (hE:Goes Tryz.prog f) (hT:TestsC f cap w p l) :
  Calls Tryz.prog 103 #[v,.func (.func f) #[] cap] w fun e w' => e = .returned (.bool (l.any p)) ∧ Below w.heap.size w w':=by
 have H:=Lib.hid (indexG_any p l)
 have hlo:=indexG_lo p l
 go_enter Tryz.func103,Tryz.ntmps103
 go_wp2_with (go_at_call 170; refine (indexFuncC_any f cap p v l _ hI hE hT).mono ?_; rintro e w1 ⟨rfl,hb1⟩)
 go_ret
 exact ⟨ret_bool H.out,hb1⟩
structure FQd1 (w0:World) (pb:Nat) (kb:Nat) (db:Nat) (cb:Nat) (ob:Nat) (oo:Nat) (no:Nat) (k2:Nat) (kk:Nat) (ko:Nat) (nk:Nat) (k3:Nat) (k:Nat) (m:Nat) (rv:Value) (cv:Value) (pv:Value) (dl:Int) (key:Int) (c0:Int) (c2:Int) (c3:Int) (c4:Int) (g:Int) (q:Int) (done:Nat → Bool) (v:Nat → Value) (w:World):Prop where
 b:Below w0.heap.size w0 w
 f0:done 0 = true → v 0 = .agg #[rv,.slice (some ⟨ob,oo,none⟩) no k2]
 f1:done 1 = true → v 1 = .slice (some ⟨kk,ko,none⟩) nk k3
 f2:done 2 = true → v 2 = .pointer (some ⟨pb,1,none⟩)
 f3:done 3 = true → v 3 = .slice (some ⟨ob,oo,none⟩) no k2
 f4:done 4 = true → v 4 = .pointer (some ⟨cb,1,none⟩)
 f5:done 5 = true → v 5 = .int .i64 (k:Int)
 f6:done 6 = true → v 6 = .pointer (some ⟨ob,oo + k,none⟩)
 f7:done 7 = true → v 7 = .int .i64 (m:Int)
 f8:done 8 = true → v 8 = .pointer (some ⟨kk,ko + m,none⟩)
 f9:done 9 = true → v 9 = .int .i64 key
 f10:done 10 = true → v 10 = .agg #[.int .i64 dl,cv,pv]
 f11:done 11 = true → v 11 = .agg #[.int .i64 c0,.int .i64 (k:Int),.int .i64 c2,.int .i64 c3,.int .i64 c4]
 f12:done 12 = true → v 12 = .tuple #[.int .i64 g,.int .i64 q]
 f13:done 13 = true → v 13 = .tuple #[.int .i64 g,.int .i64 q]
 f14:done 14 = true → v 14 = .int .i64 g
 f15:done 15 = true → v 15 = .int .i64 q
 f16:done 16 = true → v 16 = .int .i64 g
 f17:done 17 = true → v 17 = .int .i64 q
def setB (rows:List (List Int)) (owners keys:List Int) (d:Dlg) (c:Cmp):Bool:=stE rows owners (keyOf owners keys c.row.toNat) d c == 0 && stG rows owners (keyOf owners keys c.row.toNat) d c == 1
theorem qual1_goes:Goes Tryz.prog 102:=goes_of Tryz.func102 (by kernel_rfl) rfl
theorem qual1_any (pb kb db:Nat) (rv ov kv cv pv:Value) (rows:List (List Int)) (owners keys:List Int) (d:Dlg) (c:Cmp) (w:World) (hG:Glob w) (hR:Rows2 w rv rows) (hO:Ints w ov owners) (hK:Ints w kv keys) (hC:Ints w cv d.cs) (hP:Parcels w pv d.ps)
  (p0:w.cell? ⟨pb,0,none⟩ = some rv) (p1:w.cell? ⟨pb,1,none⟩ = some ov) (k0:w.cell? ⟨kb,0,none⟩ = some kv) (d0:w.cell? ⟨db,0,none⟩ = some (.int .i64 d.dealer)) (d1:w.cell? ⟨db,1,none⟩ = some cv) (d2:w.cell? ⟨db,2,none⟩ = some pv)
  (hc:CmpR c) (hr:0 ≤ c.row ∧ c.row < (rows.length:Int)) (hlen:rows.length = owners.length) (ho:∀ o ∈ owners,0 ≤ o) (hko:KeysOK owners keys) :
  Calls Tryz.prog 102 #[cmpV c,.pointer (some ⟨pb,0,none⟩),.pointer (some ⟨kb,0,none⟩),.pointer (some ⟨db,0,none⟩)] w fun r w' => r = .returned (.bool (setB rows owners keys d c)) ∧ Below w.heap.size w w':=by
 have HCC:=Lib.hid hc
 obtain ⟨c0,c1,c2,c3,c4⟩:=c
 simp only at hr
 obtain ⟨k,rfl⟩:∃ k:Nat,c1 = (k:Int):=⟨c1.toNat,by omega⟩
 have hkr:k < rows.length:=by omega
 have hkO:k < owners.length:=by omega
 obtain ⟨hkk,hkel⟩:=hko.key ho hkO
 have hon:0 ≤ owners[k]:=ho _ (List.getElem_mem hkO)
 obtain ⟨m,hm⟩:∃ m:Nat,owners[k] = (m:Int):=⟨owners[k].toNat,by omega⟩
 have hmo:(nth owners k).toNat = m:=by rw [nth_at hkO,hm]; rfl
 rw [hmo] at hkk
 have hkey:keyOf owners keys k = keys[m]:=by unfold keyOf; rw [hmo,nth_at hkk]
 have HST:=Lib.hid (fun W (h0:Glob W) h1 h2 h3 h4 => cSettle_any rv ov cv pv rows owners d ⟨c0,(k:Int),c2,c3,c4⟩ keys[m] W h0 h1 h2 h3 h4 (by rw [← hkey]; exact hkel.r64) HCC.out)
 have HV:Hid (setB rows owners keys d ⟨c0,(k:Int),c2,c3,c4⟩ = (stE rows owners keys[m] d ⟨c0,(k:Int),c2,c3,c4⟩ == 0 && stG rows owners keys[m] d ⟨c0,(k:Int),c2,c3,c4⟩ == 1)):=Lib.hid (by
  unfold setB
  rw [show (⟨c0,(k:Int),c2,c3,c4⟩:Cmp).row.toNat = k from rfl,hkey])
 rw [cmpV_eq] at HST ⊢
 obtain ⟨g,hg⟩:∃ g,g = stG rows owners keys[m] d ⟨c0,(k:Int),c2,c3,c4⟩:=⟨_,rfl⟩
 obtain ⟨q,hq⟩:∃ g,g = stE rows owners keys[m] d ⟨c0,(k:Int),c2,c3,c4⟩:=⟨_,rfl⟩
 rw [← hg,← hq] at HST HV
 clear hg hq
 obtain ⟨W1,hW1⟩:∃ W,W = w.alloc (.cells #[.int .i64 c0,.int .i64 (k:Int),.int .i64 c2,.int .i64 c3,.int .i64 c4] 34):=⟨_,rfl⟩
 have hb1:Below w.heap.size w W1:=by rw [hW1]; exact below_new _ _ _
 have hr1:W1.heap[w.heap.size]? = some (.cells #[.int .i64 c0,.int .i64 (k:Int),.int .i64 c2,.int .i64 c3,.int .i64 c4] 34 (0,0)):=by rw [hW1]; exact World.alloc_heap_new _ _
 have HG:=Lib.hid (hG.below hb1)
 have HR:=Lib.hid (hR.below hb1)
 have HO:=Lib.hid (hO.below hb1)
 have HC:=Lib.hid (hC.below hb1)
 have HP:=Lib.hid (hP.below hb1)
 obtain ⟨a1,k1,rfl,-,hl1,-⟩:=id hR
 obtain ⟨a2,k2,rfl,-,hl2,-⟩:=id hO
 obtain ⟨a3,k3,rfl,-,hl3,-⟩:=id hK
 obtain ⟨a4,k4,rfl,-,hl4,-⟩:=id hC
 obtain ⟨a5,k5,rfl,-,hl5,-⟩:=id hP
 obtain ⟨kk,ko,ea,qk⟩:=ints_at (hK.below hb1) hkk
 obtain ⟨ob,oo,eo,qo⟩:=ints_at HO.out hkO
 rw [hm] at qo
 subst ea
 subst eo
 replace p0:=below_cell hb1 p0
 replace p1:=below_cell hb1 p1
 replace k0:=below_cell hb1 k0
 replace d0:=below_cell hb1 d0
 replace d1:=below_cell hb1 d1
 replace d2:=below_cell hb1 d2
 have x0:=row_cell hr1 (k:=0) (v:=.int .i64 c0) rfl
 have x1:=row_cell hr1 (k:=1) (v:=.int .i64 (k:Int)) rfl
 have x2:=row_cell hr1 (k:=2) (v:=.int .i64 c2) rfl
 have x3:=row_cell hr1 (k:=3) (v:=.int .i64 c3) rfl
 have x4:=row_cell hr1 (k:=4) (v:=.int .i64 c4) rfl
 generalize keys[m] = key at *
 have HW:=Lib.hid hW1
 have HB:=Lib.hid hb1
 have i0:(0:Int) ≤ (k:Int):=Int.natCast_nonneg k
 have i1:(k:Int) < (owners.length:Int):=by omega
 have i2:(0:Int) ≤ (m:Int):=Int.natCast_nonneg m
 have i3:(m:Int) < (keys.length:Int):=by omega
 clear hW1 hb1 hr1 hG hR hO hK hC hP hc hr hlen ho hko hkel hon hm hmo hkey hkk hkr hkO
 go_enter Tryz.func102,Tryz.ntmps102
 go_wp2_with (rw [← HW.out])
 clear HW
 refine wp_region_flowsG (by kernel_rfl) (by kernel_rfl) (by kernel_rfl) (by kernel_rfl) (fun done v W => FQd1 W1 (pb) (kb) (db) (w.heap.size) (ob) (oo) (owners.length) (k2) (kk) (ko) (keys.length) (k3) (k) (m) (.slice a1 rows.length k1) (.slice a4 d.cs.length k4) (.slice a5 d.ps.length k5) (d.dealer) (key) (c0) (c2) (c3) (c4) (g) (q) done v W) (fun v => ?_) ?_ (fun v W h => ?_)
 ·exact ⟨(Below.refl _ _).drew,(fun h => by cases h),(fun h => by cases h),(fun h => by cases h),(fun h => by cases h),(fun h => by cases h),(fun h => by cases h),(fun h => by cases h),(fun h => by cases h),(fun h => by cases h),(fun h => by cases h),(fun h => by cases h),(fun h => by cases h),(fun h => by cases h),(fun h => by cases h),(fun h => by cases h),(fun h => by cases h),(fun h => by cases h),(fun h => by cases h)⟩
 ·refine ⟨?_,?_,?_,?_,?_,?_,?_,?_,?_,?_,?_,?_,?_,?_,?_,?_,?_,?_,trivial⟩
  ·intro done v W A h hd hp hu hA hB hdf
   have e0:A.tmps[1]?.getD undef = .pointer (some ⟨pb,0,none⟩):=hB 1 rfl
   have y0_:=below_cell h.b p0
   have y1_:=below_cell h.b p1
   clear hA hB hp hu hdf
   go_simp
   exact ⟨_,rfl,{ h with f0:=(fun _ => rfl) }⟩
  ·intro done v W A h hd hp hu hA hB hdf
   have e0:A.tmps[2]?.getD undef = .pointer (some ⟨kb,0,none⟩):=hB 2 rfl
   have y0_:=below_cell h.b k0
   clear hA hB hp hu hdf
   go_simp
   exact ⟨_,rfl,{ h with f1:=(fun _ => rfl) }⟩
  ·intro done v W A h hd hp hu hA hB hdf
   have e0:A.tmps[1]?.getD undef = .pointer (some ⟨pb,0,none⟩):=hB 1 rfl
   clear hA hB hp hu hdf
   go_simp
   exact ⟨_,rfl,{ h with f2:=(fun _ => rfl) }⟩
  ·intro done v W A h hd hp hu hA hB hdf
   have hd2:done 2 = true:=hp 2 rfl
   have e0:=(hA 2 11 rfl hd2).trans (h.f2 hd2)
   have y0_:=below_cell h.b p1
   clear hA hB hp hu hdf
   go_simp
   exact ⟨_,rfl,{ h with f3:=(fun _ => rfl) }⟩
  ·intro done v W A h hd hp hu hA hB hdf
   have e0:A.tmps[4]?.getD undef = .pointer (some ⟨w.heap.size,0,none⟩):=hB 4 rfl
   clear hA hB hp hu hdf
   go_simp
   exact ⟨_,rfl,{ h with f4:=(fun _ => rfl) }⟩
  ·intro done v W A h hd hp hu hA hB hdf
   have hd4:done 4 = true:=hp 4 rfl
   have e0:=(hA 4 13 rfl hd4).trans (h.f4 hd4)
   have y0_:=below_cell h.b x1
   clear hA hB hp hu hdf
   go_simp
   exact ⟨_,rfl,{ h with f5:=(fun _ => rfl) }⟩
  ·intro done v W A h hd hp hu hA hB hdf
   have hd3:done 3 = true:=hp 3 rfl
   have hd5:done 5 = true:=hp 5 rfl
   have e0:=(hA 3 12 rfl hd3).trans (h.f3 hd3)
   have e1:=(hA 5 14 rfl hd5).trans (h.f5 hd5)
   clear hA hB hp hu hdf
   go_simp
   exact ⟨_,rfl,{ h with f6:=(fun _ => rfl) }⟩
  ·intro done v W A h hd hp hu hA hB hdf
   have hd6:done 6 = true:=hp 6 rfl
   have e0:=(hA 6 15 rfl hd6).trans (h.f6 hd6)
   have y0_:=below_cell h.b qo
   clear hA hB hp hu hdf
   go_simp
   exact ⟨_,rfl,{ h with f7:=(fun _ => rfl) }⟩
  ·intro done v W A h hd hp hu hA hB hdf
   have hd1:done 1 = true:=hp 1 rfl
   have hd7:done 7 = true:=hp 7 rfl
   have e0:=(hA 1 10 rfl hd1).trans (h.f1 hd1)
   have e1:=(hA 7 16 rfl hd7).trans (h.f7 hd7)
   clear hA hB hp hu hdf
   go_simp
   exact ⟨_,rfl,{ h with f8:=(fun _ => rfl) }⟩
  ·intro done v W A h hd hp hu hA hB hdf
   have hd8:done 8 = true:=hp 8 rfl
   have e0:=(hA 8 17 rfl hd8).trans (h.f8 hd8)
   have y0_:=below_cell h.b qk
   clear hA hB hp hu hdf
   go_simp
   exact ⟨_,rfl,{ h with f9:=(fun _ => rfl) }⟩
  ·intro done v W A h hd hp hu hA hB hdf
   have e0:A.tmps[3]?.getD undef = .pointer (some ⟨db,0,none⟩):=hB 3 rfl
   have y0_:=below_cell h.b d0
   have y1_:=below_cell h.b d1
   have y2_:=below_cell h.b d2
   clear hA hB hp hu hdf
   go_simp
   exact ⟨_,rfl,{ h with f10:=(fun _ => rfl) }⟩
  ·intro done v W A h hd hp hu hA hB hdf
   have e0:A.tmps[4]?.getD undef = .pointer (some ⟨w.heap.size,0,none⟩):=hB 4 rfl
   have y0_:=below_cell h.b x0
   have y1_:=below_cell h.b x1
   have y2_:=below_cell h.b x2
   have y3_:=below_cell h.b x3
   have y4_:=below_cell h.b x4
   clear hA hB hp hu hdf
   go_simp
   exact ⟨_,rfl,{ h with f11:=(fun _ => rfl) }⟩
  ·intro done v W A h hd hp hu hA hB hdf
   have hd0:done 0 = true:=hp 0 rfl
   have hd9:done 9 = true:=hp 9 rfl
   have hd10:done 10 = true:=hp 10 rfl
   have hd11:done 11 = true:=hp 11 rfl
   have e0:=(hA 0 9 rfl hd0).trans (h.f0 hd0)
   have e1:=(hA 9 18 rfl hd9).trans (h.f9 hd9)
   have e2:=(hA 10 19 rfl hd10).trans (h.f10 hd10)
   have e3:=(hA 11 20 rfl hd11).trans (h.f11 hd11)
   clear hA hB hp hu hdf
   go_simp
   with_reducible refine (HST.out W (HG.out.below h.b) (HR.out.below h.b) (HO.out.below h.b) (HC.out.below h.b) (HP.out.below h.b)).mono ?_
   rintro e wq ⟨rfl,hb⟩
   exact ⟨_,rfl,{ h with b:=h.b.trans (hb.mono h.b.size),f12:=(fun _ => rfl) }⟩
  ·intro done v W A h hd hp hu hA hB hdf
   have hd12:done 12 = true:=hp 12 rfl
   have e0:=(hA 12 21 rfl hd12).trans (h.f12 hd12)
   clear hA hB hp hu hdf
   go_simp
   exact ⟨_,rfl,{ h with f13:=(fun _ => rfl) }⟩
  ·intro done v W A h hd hp hu hA hB hdf
   have hd13:done 13 = true:=hp 13 rfl
   have e0:=(hA 13 8 rfl hd13).trans (h.f13 hd13)
   clear hA hB hp hu hdf
   go_simp
   exact ⟨_,rfl,{ h with f14:=(fun _ => rfl) }⟩
  ·intro done v W A h hd hp hu hA hB hdf
   have hd13:done 13 = true:=hp 13 rfl
   have e0:=(hA 13 8 rfl hd13).trans (h.f13 hd13)
   clear hA hB hp hu hdf
   go_simp
   exact ⟨_,rfl,{ h with f15:=(fun _ => rfl) }⟩
  ·intro done v W A h hd hp hu hA hB hdf
   have hd14:done 14 = true:=hp 14 rfl
   have e0:=(hA 14 22 rfl hd14).trans (h.f14 hd14)
   clear hA hB hp hu hdf
   go_simp
   exact ⟨_,rfl,{ h with f16:=(fun _ => rfl) }⟩
  ·intro done v W A h hd hp hu hA hB hdf
   have hd15:done 15 = true:=hp 15 rfl
   have e0:=(hA 15 23 rfl hd15).trans (h.f15 hd15)
   clear hA hB hp hu hdf
   go_simp
   exact ⟨_,rfl,{ h with f17:=(fun _ => rfl) }⟩
 simp only [putL,Act.put,Nat.reduceAdd,List.setIfInBounds_toArray,List.set_cons_zero,List.set_cons_succ]
 rw [h.f16 rfl]
 rw [h.f17 rfl]
 have hbr:=h.b
 have HB1:=Lib.hid (HB.out.trans (hbr.mono HB.out.size))
 clear h hbr
 by_cases hq:q = 0
 ·have z0:(q == 0) = true:=beq_iff_eq.2 hq
  rw [z0,Bool.true_and] at HV
  go_wp2_with fail
  go_ret
  exact ⟨ret_bool HV.out.symm,HB1.out⟩
 ·have z0:(q == 0) = false:=beq_eq_false_iff_ne.2 hq
  rw [z0,Bool.false_and] at HV
  go_wp2_with fail
  go_ret
  exact ⟨ret_bool HV.out.symm,HB1.out⟩
end Go.Proofs.YtggnipkfliompaaGreatDoor
namespace Go.Proofs.YtggnipkfliompaaGreatDoor
open Go.RowKit
open Go.Maps (Keyed)
open Go.ChangeMaps (setBlock heap_setBlock_same heap_setBlock_other)
theorem keyZ:Keyed Tryz.prog 3:=Go.Maps.int_keyed Tryz.underlying3
theorem key_z {x:Int} (h:R64 x):Go.keyOf Tryz.prog 3 (.int .i64 x) = some (.int .i64 x):=Go.Maps.keyOf_int_mk Tryz.underlying3 (WalkArith.wf_i64 h)
structure MapZ (w:World) (b:Nat) (F:Int → Option Value):Prop where
 ex:∃ es clock,w.heap[b]? = some (.map es clock) ∧ (∀ e ∈ es.toList,∃ n,R64 n ∧ e.key = .int .i64 n) ∧ (es.toList.map (·.key)).Nodup ∧ ∀ n v,F n = some v ↔ ∃ e ∈ es.toList,e.key = .int .i64 n ∧ e.val = v
theorem MapZ.kept {w w':World} {b:Nat} {F:Int → Option Value} (h:MapZ w b F) (hb:w'.heap[b]? = w.heap[b]?):MapZ w' b F:=by
 obtain ⟨es,clock,h1,h2⟩:=h.ex
 exact ⟨es,clock,hb.trans h1,h2⟩
theorem MapZ.lt {w:World} {b:Nat} {F:Int → Option Value} (h:MapZ w b F):b < w.heap.size:=by
 obtain ⟨es,clock,h1,-⟩:=h.ex
 exact (Array.getElem?_eq_some_iff.1 h1).1
theorem MapZ.below {w w':World} {b:Nat} {F:Int → Option Value} (h:MapZ w b F) (hb:Below w.heap.size w w'):MapZ w' b F:=h.kept (hb.block _ h.lt)
theorem MapZ.new (w:World):MapZ (w.alloc (.map #[] 0)) w.heap.size (fun _ => none):=
 ⟨#[],0,(MapKept.heap_alloc w _).1,by simp,by simp,by simp⟩
def putZ (F:Int → Option Value) (n:Int) (v:Value):Int → Option Value:=fun m => if m = n then some v else F m
theorem zfind {w:World} {es:Array MapEntry} {n:Int} (hn:R64 n) (hk:∀ e ∈ es.toList,∃ n,R64 n ∧ e.key = .int .i64 n) :
  ((Instr.findKey 3 (.int .i64 n) es.toList).run Tryz.prog w = .ok none w ∧ ∀ e ∈ es.toList,e.key ≠ .int .i64 n) ∨
   ∃ j e,(Instr.findKey 3 (.int .i64 n) es.toList).run Tryz.prog w = .ok (some (j,e.val)) w ∧ es.toList[j]? = some e ∧ e.key = .int .i64 n:=
 keyZ.find w (key_z hn) es.toList (fun e he => by obtain ⟨m,hm,e1⟩:=hk e he; exact ⟨_,by rw [e1]; exact key_z hm⟩)
theorem MapZ.look {w:World} {b:Nat} {F:Int → Option Value} (h:MapZ w b F) {t e:TypeId} (ht:Tryz.prog.underlying t = some (.map 3 e)) {z:Value} (hz:(zeroValue e).run Tryz.prog w = .ok z w) {n:Int} (hn:R64 n) :
  (Instr.lookup t (.map (some b)) (.int .i64 n) false).run Tryz.prog w = .ok ((F n).getD z) w:=by
 obtain ⟨es,clock,hb,hk,hnd,hF⟩:=h.ex
 rcases zfind (w:=w) hn hk with ⟨h1,h2⟩ | ⟨j,e0,h1,h2,h3⟩
 ·have:F n = none:=by
   cases e1:F n with
   | none => rfl
   | some v => obtain ⟨e2,hm,hk2,-⟩:=(hF n v).1 e1; exact absurd hk2 (h2 e2 hm)
  rw [this]
  simp [Instr.lookup,run_underlying ht,MapKept.run_getObj_map hb,keyZ.check w _ (key_z hn),h1,hz,Result.andThen]
 ·have:F n = some e0.val:=(hF n e0.val).2 ⟨e0,List.mem_of_getElem? h2,h3,rfl⟩
  rw [this]
  simp [Instr.lookup,run_underlying ht,MapKept.run_getObj_map hb,keyZ.check w _ (key_z hn),h1,Result.andThen]
theorem MapZ.look_ok {w:World} {b:Nat} {F:Int → Option Value} (h:MapZ w b F) {t e:TypeId} (ht:Tryz.prog.underlying t = some (.map 3 e)) {z:Value} (hz:(zeroValue e).run Tryz.prog w = .ok z w) {n:Int} (hn:R64 n) :
  (Instr.lookup t (.map (some b)) (.int .i64 n) true).run Tryz.prog w = .ok (.tuple #[(F n).getD z,.bool (F n).isSome]) w:=by
 obtain ⟨es,clock,hb,hk,hnd,hF⟩:=h.ex
 rcases zfind (w:=w) hn hk with ⟨h1,h2⟩ | ⟨j,e0,h1,h2,h3⟩
 ·have:F n = none:=by
   cases e1:F n with
   | none => rfl
   | some v => obtain ⟨e2,hm,hk2,-⟩:=(hF n v).1 e1; exact absurd hk2 (h2 e2 hm)
  rw [this]
  simp [Instr.lookup,run_underlying ht,MapKept.run_getObj_map hb,keyZ.check w _ (key_z hn),h1,hz,Result.andThen]
 ·have:F n = some e0.val:=(hF n e0.val).2 ⟨e0,List.mem_of_getElem? h2,h3,rfl⟩
  rw [this]
  simp [Instr.lookup,run_underlying ht,MapKept.run_getObj_map hb,keyZ.check w _ (key_z hn),h1,Result.andThen]
theorem nodup_key {es:List MapEntry} (hnd:(es.map (·.key)).Nodup) {i j:Nat} {a c:MapEntry} (h1:es[i]? = some a) (h2:es[j]? = some c) (h:a.key = c.key):i = j:=by
 obtain ⟨hi,rfl⟩:=List.getElem?_eq_some_iff.1 h1
 obtain ⟨hj,rfl⟩:=List.getElem?_eq_some_iff.1 h2
 have hp:=List.pairwise_iff_getElem.1 hnd
 rcases Nat.lt_trichotomy i j with h3 | h3 | h3
 ·exact absurd h (by have:=hp i j (by simpa using hi) (by simpa using hj) h3; simpa using this)
 ·exact h3
 ·exact absurd h.symm (by have:=hp j i (by simpa using hj) (by simpa using hi) h3; simpa using this)
theorem MapZ.put {w:World} {b:Nat} {F:Int → Option Value} (h:MapZ w b F) {t e:TypeId} (ht:Tryz.prog.underlying t = some (.map 3 e)) {n:Int} (hn:R64 n) (v:Value) :
  ∃ w',(Instr.mapUpdate t (.map (some b)) (.int .i64 n) v).run Tryz.prog w = .ok () w' ∧ MapZ w' b (putZ F n v) ∧ ∃ o,w' = setBlock w b o ∧ ∀ i,i ≠ b → w'.heap[i]? = w.heap[i]?:=by
 obtain ⟨es,clock,hb,hk,hnd,hF⟩:=h.ex
 rcases zfind (w:=w) hn hk with ⟨h1,h2⟩ | ⟨j,e0,h1,h2,h3⟩
 ·refine ⟨setBlock w b (.map (es.push ⟨.int .i64 n,v,clock⟩) (clock + 1)),?_,⟨_,_,heap_setBlock_same hb _,?_,?_,?_⟩,_,rfl,fun i hi => heap_setBlock_other hb _ hi⟩
  ·simp [Instr.mapUpdate,run_underlying ht,MapKept.run_getObj_map hb,keyZ.check w false (key_z hn),h1,MapKept.run_setObj_map _ hb,Result.andThen,setBlock]
  ·intro x hx
   simp only [Array.toList_push,List.mem_append,List.mem_singleton] at hx
   rcases hx with hx | rfl
   ·exact hk x hx
   ·exact ⟨n,hn,rfl⟩
  ·rw [Array.toList_push,List.map_append,List.map_singleton,List.nodup_append]
   refine ⟨hnd,by simp,?_⟩
   intro a ha c hc
   simp only [List.mem_singleton] at hc
   obtain ⟨x,hx,rfl⟩:=List.mem_map.1 ha
   rw [hc]; exact h2 x hx
  ·intro m u
   unfold putZ
   by_cases hm:m = n
   ·rw [if_pos hm]
    subst hm
    constructor
    ·intro e1; cases e1
     exact ⟨⟨.int .i64 m,v,clock⟩,by rw [Array.toList_push]; simp,rfl,rfl⟩
    ·rintro ⟨x,hx,hkx,rfl⟩
     rw [Array.toList_push,List.mem_append,List.mem_singleton] at hx
     rcases hx with hx | rfl
     ·exact absurd hkx (h2 x hx)
     ·rfl
   ·rw [if_neg hm,hF]
    constructor
    ·rintro ⟨x,hx,hkx,rfl⟩
     exact ⟨x,by rw [Array.toList_push]; simp [hx],hkx,rfl⟩
    ·rintro ⟨x,hx,hkx,rfl⟩
     rw [Array.toList_push,List.mem_append,List.mem_singleton] at hx
     rcases hx with hx | rfl
     ·exact ⟨x,hx,hkx,rfl⟩
     ·simp only [Value.int.injEq,true_and] at hkx; exact absurd hkx.symm hm
 ·have hj:es[j]? = some e0:=by simpa using h2
  have hlist:(es.modify j (fun e' => { e' with key:=.int .i64 n,val:=v })).toList = es.toList.set j { e0 with key:=.int .i64 n,val:=v }:=by rw [Array.toList_modify,Go.ChangeMaps.modify_eq_set _ _ _ _ h2]
  have hjl:j < es.toList.length:=(List.getElem?_eq_some_iff.1 h2).1
  have other:∀ x,x ∈ es.toList.set j { e0 with key:=.int .i64 n,val:=v } → x = { e0 with key:=.int .i64 n,val:=v } ∨ (x ∈ es.toList ∧ x.key ≠ .int .i64 n):=by
   intro x hx
   obtain ⟨i,hi,ex⟩:=List.getElem_of_mem hx
   rw [List.getElem_set] at ex
   split at ex
   ·exact .inl ex.symm
   ·rename_i hne
    have hi':i < es.toList.length:=by simpa using hi
    refine .inr ⟨ex ▸ List.getElem_mem hi',fun e1 => hne ?_⟩
    exact nodup_key hnd h2 (by rw [List.getElem?_eq_getElem hi',ex]) (by rw [h3,e1])
  refine ⟨setBlock w b (.map (es.modify j (fun e' => { e' with key:=.int .i64 n,val:=v })) clock),?_,⟨_,_,heap_setBlock_same hb _,?_,?_,?_⟩,_,rfl,fun i hi => heap_setBlock_other hb _ hi⟩
  ·simp [Instr.mapUpdate,run_underlying ht,MapKept.run_getObj_map hb,keyZ.check w false (key_z hn),h1,hj,h3,keyZ.stays w (key_z hn),MapKept.run_setObj_map _ hb,Result.andThen,setBlock]
  ·intro x hx
   rw [hlist] at hx
   rcases other x hx with rfl | ⟨hx',-⟩
   ·exact ⟨n,hn,rfl⟩
   ·exact hk x hx'
  ·rw [hlist,List.map_set]
   have e1:(es.toList.map (·.key)).set j (.int .i64 n) = es.toList.map (·.key):=by
    rw [← h3]
    refine List.ext_getElem (by simp) fun i h4 h5 => ?_
    rw [List.getElem_set]
    split
    ·rename_i e4; subst e4
     rw [List.getElem_map]
     obtain ⟨_,e5⟩:=List.getElem?_eq_some_iff.1 h2
     rw [e5]
    ·rfl
   rw [e1]; exact hnd
  ·intro m u
   unfold putZ
   rw [hlist]
   by_cases hm:m = n
   ·rw [if_pos hm]
    subst hm
    constructor
    ·intro e1; cases e1
     exact ⟨_,List.mem_set hjl _,rfl,rfl⟩
    ·rintro ⟨x,hx,hkx,rfl⟩
     rcases other x hx with rfl | ⟨-,hne⟩
     ·rfl
     ·exact absurd hkx hne
   ·rw [if_neg hm,hF]
    constructor
    ·rintro ⟨x,hx,hkx,rfl⟩
     obtain ⟨i,hi,rfl⟩:=List.getElem_of_mem hx
     have hij:j ≠ i:=fun e1 => by
      subst e1
      obtain ⟨_,e5⟩:=List.getElem?_eq_some_iff.1 h2
      rw [e5,h3] at hkx
      simp only [Value.int.injEq,true_and] at hkx
      exact hm hkx.symm
     refine ⟨es.toList[i],?_,hkx,rfl⟩
     have:(es.toList.set j { e0 with key:=.int .i64 n,val:=v })[i]'(by simpa using hi) = es.toList[i]:=List.getElem_set_ne hij _
     rw [← this]; exact List.getElem_mem _
    ·rintro ⟨x,hx,hkx,rfl⟩
     rcases other x hx with rfl | ⟨hx',-⟩
     ·simp only [Value.int.injEq,true_and] at hkx; exact absurd hkx.symm hm
     ·exact ⟨x,hx',hkx,rfl⟩
theorem below_turn {B b:Nat} {a w:World} {o:Obj} (h:Below B a w) (hb:B ≤ b):Below B a (setBlock w b o):=by
 refine ⟨h.os,h.tape,h.output,by simpa [setBlock] using h.size,fun k hk => ?_⟩
 have:(setBlock w b o).heap[k]? = w.heap[k]?:=by
  unfold setBlock
  exact Array.getElem?_setIfInBounds_ne (by omega)
 exact this.trans (h.block k hk)
end Go.Proofs.YtggnipkfliompaaGreatDoor
