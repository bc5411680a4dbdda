/- Package dealing: Deal. Package dealing: Deal, where it deals. Package dealing: check, Public. Package dealing: right, Fits. A range over a function of this program whose iterator lays new memory between two rounds. slices.AppendSeq, slices.Collect, of an iterator that hands on rows. Package dealing: the rows of shares, collected. Linear algebra over the field: kernels, spans, ranks. Ranks: how many columns do not lead a vector of a kernel. The reference of package linear: Turned. The reference of package linear: Rank and Separate. The reference of package linear: Separate. The reductions of the program and of the reference, in the field. -/
import Derived.Test.YtggnipkfliompaaGreatDoorMEqB
import Derived.Test.YtggnipkfliompaaGreatDoorMPow
import Derived.Test.YtggnipkfliompaaGreatDoorMBase
import Derived.Test.YtggnipkfliompaaGreatDoorMFp
import Derived.Test.YtggnipkfliompaaGreatDoorMLinQ
set_option maxHeartbeats 4000000
set_option maxRecDepth 100000
namespace Go.Proofs.YtggnipkfliompaaGreatDoor
open Go.RowKit FP
theorem ProgOK.cols_le {rows:List (List Int)} {owners:List Int} (h:ProgOK rows owners):colsQ rows ≤ 64:=by
 unfold colsQ; split
 ·omega
 ·rename_i h0
  rcases h.right.narrow with h1 | h1
  ·exact h1
  ·exact absurd (by rw [h1]; rfl) h0
def dealE (rows:List (List Int)) (owners:List Int) (x:Int) (rnd:List Int):Int:=
 if progE rows owners ≠ 0 then progE rows owners else if oddQ x = true ∨ rnd.any oddQ = true ∨ rnd.length + 1 ≠ colsQ rows then 1 else 0
def dealF (rows:List (List Int)) (s:List Int) (i:Nat):Int × Int:=((i:Int),prodQ (rows.getD i []) s)
def dealL (rows:List (List Int)) (s:List Int):List (Int × Int):=(List.range rows.length).map (dealF rows s)
def dealC (s:List Int):List Int:=s.map (powE 4)
theorem prodQ_num (a b:List Int):0 ≤ prodQ a b ∧ prodQ a b < 1073741789:=prodF_num a b _
theorem dealF_r64 (rows:List (List Int)) (s:List Int) {i:Nat} (h:i < 1000000):R64 (dealF rows s i).1 ∧ R64 (dealF rows s i).2:=
 ⟨R64.mk (by show (-4611686018427387904:Int) ≤ (i:Int); omega) (by show (i:Int) ≤ 4611686018427387904; omega),num_r64 (prodQ_num _ _)⟩
structure DealOK (rows:List (List Int)) (owners:List Int) (x:Int) (rnd:List Int):Prop where
 prog:ProgOK rows owners
 hx:0 ≤ x ∧ x < 1073741789
 hr:∀ z ∈ rnd,0 ≤ z ∧ z < 1073741789
 len:rnd.length + 1 = colsQ rows
theorem any_odd_false {l:List Int} (h:l.any oddQ = false):∀ z ∈ l,0 ≤ z ∧ z < 1073741789:=fun z hz => oddQ_num (by
 cases e:oddQ z with
 | false => rfl
 | true => rw [List.any_eq_true.2 ⟨z,hz,e⟩] at h; cases h)
theorem oddQ_of {z:Int} (h:0 ≤ z ∧ z < 1073741789):oddQ z = false:=by simp [oddQ]; omega
theorem any_odd_of {l:List Int} (h:∀ z ∈ l,0 ≤ z ∧ z < 1073741789):l.any oddQ = false:=by
 cases e:l.any oddQ with
 | false => rfl
 | true => obtain ⟨z,hz,e2⟩:=List.any_eq_true.1 e; rw [oddQ_of (h z hz)] at e2; cases e2
theorem dealE_ok {rows:List (List Int)} {owners:List Int} {x:Int} {rnd:List Int} (h:dealE rows owners x rnd = 0):DealOK rows owners x rnd:=by
 unfold dealE at h
 by_cases hp:progE rows owners = 0
 ·rw [if_neg (by simp [hp])] at h
  split at h
  ·cases h
  ·rename_i h2
   have hx:oddQ x = false:=by
    cases e:oddQ x with
    | false => rfl
    | true => exact absurd (.inl e) h2
   have hr:rnd.any oddQ = false:=by
    cases e:rnd.any oddQ with
    | false => rfl
    | true => exact absurd (.inr (.inl e)) h2
   exact ⟨progE_ok hp,oddQ_num hx,any_odd_false hr,by
    by_cases e:rnd.length + 1 = colsQ rows
    ·exact e
    ·exact absurd (.inr (.inr e)) h2⟩
 ·rw [if_pos hp] at h; exact absurd h hp
theorem ints_one (w:World) (x:Int) (t:TypeId) (B:Nat) (hB:w.heap.size = B) (hx:R64 x):Ints (w.alloc (.cells #[.int .i64 x] t)) (.slice (some ⟨B,0,none⟩) 1 1) [x]:=by
 subst hB
 refine ⟨_,1,rfl,by simp,by simp,by simpa using hx,fun k hk => ⟨_,_,rfl,?_⟩⟩
 obtain rfl:k = 0:=by simp at hk; omega
 exact row_cell (World.alloc_heap_new w _) rfl
theorem one_any (x:Int):[x].any oddQ = oddQ x:=by simp
theorem deal_no (rv ov mv:Value) (rows:List (List Int)) (owners:List Int) (x:Int) (rnd:List Int) (w:World) (hR:Rows2 w rv rows) (hO:Ints w ov owners) (hM:Ints w mv rnd) (hx:R64 x) (he:dealE rows owners x rnd ≠ 0) :
  Calls Tryz.prog 91 #[.agg #[rv,ov],.int .i64 x,mv] w fun r w' => r = .returned (.tuple #[.slice none 0 0,.slice none 0 0,.int .i64 (dealE rows owners x rnd)]) ∧ Below w.heap.size w w':=by
 obtain ⟨W1,hW1,hb1,hr1,hz⟩:=box_prog w rv ov 25
 have HR1:=Lib.hid (hR.below hb1)
 have HO1:=Lib.hid (hO.below hb1)
 have HM1:=Lib.hid (hM.below hb1)
 have HPC:=Lib.hid (pCheck_any rv ov rows owners W1 HR1.out HO1.out)
 obtain ⟨a,cap,rfl,-,hlen,-⟩:=id hR
 obtain ⟨a2,cap2,rfl,-,hlen2,-⟩:=id hO
 obtain ⟨a3,cap3,rfl,-,hlen3,-⟩:=id hM
 have c0:W1.cell? ⟨w.heap.size,0,none⟩ = some (.slice a rows.length cap):=row_cell hr1 rfl
 have c1:W1.cell? ⟨w.heap.size,1,none⟩ = some (.slice a2 owners.length cap2):=row_cell hr1 rfl
 have HW1:=Lib.hid hW1
 have HB1:=Lib.hid hb1
 clear hR hO hM hr1 hW1 hb1
 by_cases hp:progE rows owners = 0
 ·have HV:Hid (dealE rows owners x rnd = 1):=Lib.hid (by
   unfold dealE at he ⊢
   rw [if_neg (by simp [hp])] at he ⊢
   split at he
   ·rename_i h2; rw [if_pos h2]
   ·exact absurd rfl he)
  have HPO:=Lib.hid (progE_ok hp)
  rw [hp] at HPC
  have HE0:=Lib.hid he
  have HP0:=Lib.hid hp
  clear he hp
  have hcc:=HPO.out.cols
  have hcu:=HPO.out.cols_le
  have hci:(1:Int) ≤ (colsQ rows:Nat):=by omega
  have hcv:((colsQ rows:Nat):Int) ≤ 64:=by omega
  cases ex:oddQ x with
  | true =>
   have HX:=Lib.hid ex
   clear ex
   go_enter Tryz.func91,Tryz.ntmps91
   go_wp2_with fail
   rw [← HW1.out]
   refine HPC.out.mono ?_
   rintro r w2 ⟨rfl,hb2⟩
   have HB2:=Lib.hid (HB1.out.trans (hb2.mono HB1.out.size))
   clear hb2
   go_wp2_with fail
   refine (numbers_any _ [x] _ (ints_one w2 x 3 _ rfl hx)).mono ?_
   rintro r w3 ⟨rfl,hb3⟩
   rw [one_any,HX.out]
   have hb4:=(HB2.out.alloc HB2.out.size (.cells #[.int .i64 x] 3))
   go_wp2_with fail
   go_ret3
   exact ⟨by rw [HV.out]; rfl,hb4.trans (hb3.mono hb4.size)⟩
  | false =>
   have HX:=Lib.hid ex
   clear ex
   cases er:rnd.any oddQ with
   | true =>
    have HRn:=Lib.hid er
    clear er
    go_enter Tryz.func91,Tryz.ntmps91
    go_wp2_with fail
    rw [← HW1.out]
    refine HPC.out.mono ?_
    rintro r w2 ⟨rfl,hb2⟩
    have HB2:=Lib.hid (HB1.out.trans (hb2.mono HB1.out.size))
    have HM2:=Lib.hid (HM1.out.below hb2)
    clear hb2
    go_wp2_with fail
    refine (numbers_any _ [x] _ (ints_one w2 x 3 _ rfl hx)).mono ?_
    rintro r w3 ⟨rfl,hb3⟩
    rw [one_any,HX.out]
    have HM3:=Lib.hid ((HM2.out.below (below_new _ _ _)).below hb3)
    have hb4:=(HB2.out.alloc HB2.out.size (.cells #[.int .i64 x] 3))
    have HB4:=Lib.hid (hb4.trans (hb3.mono hb4.size))
    clear hb3 hb4
    go_wp2_with fail
    refine (numbers_any _ rnd _ HM3.out).mono ?_
    rintro r w4 ⟨rfl,hb5⟩
    rw [HRn.out]
    go_wp2_with fail
    go_ret3
    exact ⟨by rw [HV.out]; rfl,HB4.out.trans (hb5.mono HB4.out.size)⟩
   | false =>
    have HRn:=Lib.hid er
    have HL:Hid (((rnd.length:Int) != ((colsQ rows:Nat):Int) - 1) = true):=Lib.hid (bne_iff_ne.2 (by
     intro e
     apply HE0.out
     unfold dealE
     rw [if_neg (by simp [HP0.out]),if_neg]
     rw [HX.out,HRn.out]
     rintro (h | h | h)
     ·cases h
     ·cases h
     ·omega))
    have hlb:=HL.out
    clear er
    go_enter Tryz.func91,Tryz.ntmps91
    go_wp2_with fail
    rw [← HW1.out]
    refine HPC.out.mono ?_
    rintro r w2 ⟨rfl,hb2⟩
    have HB2:=Lib.hid (HB1.out.trans (hb2.mono HB1.out.size))
    have HM2:=Lib.hid (HM1.out.below hb2)
    have HR2:=Lib.hid (HR1.out.below hb2)
    have HO2:=Lib.hid (HO1.out.below hb2)
    have d0:=below_cell hb2 c0
    have d1:=below_cell hb2 c1
    clear hb2
    go_wp2_with fail
    refine (numbers_any _ [x] _ (ints_one w2 x 3 _ rfl hx)).mono ?_
    rintro r w3 ⟨rfl,hb3⟩
    rw [one_any,HX.out]
    have hb3':=(below_new w2 #[.int .i64 x] 3).trans (hb3.mono (by simp))
    have HM3:=Lib.hid (HM2.out.below hb3')
    have HR3:=Lib.hid (HR2.out.below hb3')
    have HO3:=Lib.hid (HO2.out.below hb3')
    have f0:=below_cell hb3' d0
    have f1:=below_cell hb3' d1
    have HB4:=Lib.hid (HB2.out.trans (hb3'.mono HB2.out.size))
    clear hb3 hb3' d0 d1
    go_wp2_with fail
    refine (numbers_any _ rnd _ HM3.out).mono ?_
    rintro r w4 ⟨rfl,hb5⟩
    rw [HRn.out]
    have g0:=below_cell hb5 f0
    have g1:=below_cell hb5 f1
    have HR5:=Lib.hid (HR3.out.below hb5)
    have HO5:=Lib.hid (HO3.out.below hb5)
    have HB5:=Lib.hid (HB4.out.trans (hb5.mono HB4.out.size))
    clear hb5 f0 f1
    go_wp2_with fail
    refine (columns_any _ _ rows owners _ HR5.out HO5.out).mono ?_
    rintro r w6 ⟨rfl,hb6⟩
    go_wp2_with fail
    go_ret3
    exact ⟨by rw [HV.out]; rfl,HB5.out.trans (hb6.mono HB5.out.size)⟩
 ·have HV:Hid (dealE rows owners x rnd = progE rows owners):=Lib.hid (by unfold dealE; rw [if_pos hp])
  have h2:(progE rows owners != 0) = true:=bne_iff_ne.2 hp
  clear he
  go_enter Tryz.func91,Tryz.ntmps91
  go_wp2_with fail
  rw [← HW1.out]
  refine HPC.out.mono ?_
  rintro r w2 ⟨rfl,hb2⟩
  go_wp2_with fail
  go_ret3
  exact ⟨by rw [HV.out]; rfl,HB1.out.trans (hb2.mono HB1.out.size)⟩
end Go.Proofs.YtggnipkfliompaaGreatDoor
namespace Go.Proofs.YtggnipkfliompaaGreatDoor
open Go.RowKit FP
theorem getD_at {α:Type} {l:List α} {k:Nat} (h:k < l.length) (d:α):l.getD k d = l[k]:=by
 rw [List.getD_eq_getElem?_getD,List.getElem?_eq_getElem h]; rfl
theorem range_snoc {β:Type} (f:Nat → β) (k:Nat):(List.range (k + 1)).map f = (List.range k).map f ++ [f k]:=by
 rw [List.range_succ,List.map_append]; rfl
end Go.Proofs.YtggnipkfliompaaGreatDoor
namespace Go.Proofs.YtggnipkfliompaaGreatDoor
open Go.RowKit FP
def notEl (x:Int):Bool:=!elB x
theorem notel_any (z:Int) (w:World) (hz:R64 z):Calls Tryz.prog 176 #[.int .i64 z] w fun r w' => r = .returned (.bool (notEl z)) ∧ w = w':=by
 go_enter Tryz.func176,Tryz.ntmps176
 go_wp2_with fail
 with_reducible refine (valid_any z _ hz).mono ?_
 rintro r w1 ⟨rfl,rfl⟩
 go_wp2_with fail
 go_ret
 exact ⟨rfl,rfl⟩
theorem notel_tests (w:World) (zs:List Int) (hr:∀ z ∈ zs,R64 z):Tests 176 #[] w notEl zs:=
 fun z hz w' _ => (notel_any z w' (hr z hz)).mono fun _ _ ⟨h,e⟩ => ⟨h,e ▸ Below.refl _ _⟩
theorem notel_goes:Goes Tryz.prog 176:=goes_of Tryz.func176 (by kernel_rfl) rfl
def dchkE (rows:List (List Int)) (owners cs:List Int):Int:=
 if progE rows owners ≠ 0 then progE rows owners else if cs.length ≠ colsQ rows ∨ cs.any notEl = true then 340 else 0
structure ComOK (rows:List (List Int)) (owners cs:List Int):Prop where
 prog:ProgOK rows owners
 prog0:progE rows owners = 0
 len:cs.length = colsQ rows
 el:∀ c ∈ cs,El c
theorem any_notel {l:List Int} (h:l.any notEl = false):∀ z ∈ l,El z:=fun z hz => by
 refine elB_iff.1 ?_
 cases e:elB z with
 | true => rfl
 | false => rw [List.any_eq_true.2 ⟨z,hz,by unfold notEl; rw [e]; rfl⟩] at h; cases h
theorem dchkE_ok {rows:List (List Int)} {owners cs:List Int} (h:dchkE rows owners cs = 0):ComOK rows owners cs:=by
 unfold dchkE at h
 by_cases hp:progE rows owners = 0
 ·rw [if_neg (by simp [hp])] at h
  split at h
  ·cases h
  ·rename_i h2
   refine ⟨progE_ok hp,hp,?_,any_notel ?_⟩
   ·by_cases e:cs.length = colsQ rows
    ·exact e
    ·exact absurd (.inl e) h2
   ·cases e:cs.any notEl with
    | false => rfl
    | true => exact absurd (.inr e) h2
 ·rw [if_pos hp] at h; exact absurd h hp
theorem dchkE_of {rows:List (List Int)} {owners cs:List Int} (h:ComOK rows owners cs):dchkE rows owners cs = 0:=by
 unfold dchkE
 rw [if_neg (by simp [h.prog0]),if_neg]
 rintro (e | e)
 ·exact e h.len
 ·obtain ⟨z,hz,e2⟩:=List.any_eq_true.1 e
  unfold notEl at e2; rw [elB_iff.2 (h.el z hz)] at e2; cases e2
theorem dcheck_any (rv ov cv:Value) (rows:List (List Int)) (owners cs:List Int) (w:World) (hR:Rows2 w rv rows) (hO:Ints w ov owners) (hC:Ints w cv cs) :
  Calls Tryz.prog 112 #[.agg #[rv,ov],cv] w fun r w' => r = .returned (.int .i64 (dchkE rows owners cs)) ∧ Below w.heap.size w w':=by
 obtain ⟨W1,hW1,hb1,hr1,hz⟩:=box_prog w rv ov 25
 have HR1:=Lib.hid (hR.below hb1)
 have HO1:=Lib.hid (hO.below hb1)
 have HC1:=Lib.hid (hC.below hb1)
 have HPC:=Lib.hid (pCheck_any rv ov rows owners W1 HR1.out HO1.out)
 obtain ⟨a,cap,rfl,-,hlen,-⟩:=id hR
 obtain ⟨a2,cap2,rfl,-,hlen2,-⟩:=id hO
 obtain ⟨a3,cap3,rfl,-,hlen3,hcr,-⟩:=id hC
 have c0:W1.cell? ⟨w.heap.size,0,none⟩ = some (.slice a rows.length cap):=row_cell hr1 rfl
 have c1:W1.cell? ⟨w.heap.size,1,none⟩ = some (.slice a2 owners.length cap2):=row_cell hr1 rfl
 have HW1:=Lib.hid hW1
 have HB1:=Lib.hid hb1
 have HCR:=Lib.hid hcr
 clear hR hO hC hr1 hW1 hb1 hcr
 by_cases hp:progE rows owners = 0
 ·have HV:Hid (dchkE rows owners cs = if cs.length ≠ colsQ rows ∨ cs.any notEl = true then 340 else 0):=Lib.hid (by unfold dchkE; rw [if_neg (by simp [hp])])
  have HPO:=Lib.hid (progE_ok hp)
  rw [hp] at HPC
  have hcu:=HPO.out.cols_le
  clear hp
  go_enter Tryz.func112,Tryz.ntmps112
  go_wp2_with fail
  rw [← HW1.out]
  refine HPC.out.mono ?_
  rintro r w2 ⟨rfl,hb2⟩
  have HB2:=Lib.hid (HB1.out.trans (hb2.mono HB1.out.size))
  have HC2:=Lib.hid (HC1.out.below hb2)
  have HR2:=Lib.hid (HR1.out.below hb2)
  have HO2:=Lib.hid (HO1.out.below hb2)
  have d0:=below_cell hb2 c0
  have d1:=below_cell hb2 c1
  clear hb2
  go_wp2_with fail
  refine (columns_any _ _ rows owners _ HR2.out HO2.out).mono ?_
  rintro r w3 ⟨rfl,hb3⟩
  have HB3:=Lib.hid (HB2.out.trans (hb3.mono HB2.out.size))
  have HC3:=Lib.hid (HC2.out.below hb3)
  clear hb3 d0 d1
  by_cases hl:cs.length = colsQ rows
  ·have hlb:((cs.length:Int) != ((colsQ rows:Nat):Int)) = false:=by rw [hl]; exact bne_self_eq_false _
   have HCF:=Lib.hid (containsFunc_any 176 #[] notEl _ cs _ HC3.out notel_goes (notel_tests _ _ HCR.out))
   cases en:cs.any notEl with
   | true =>
    have HV2:Hid (dchkE rows owners cs = 340):=Lib.hid (by rw [HV.out,if_pos (.inr en)])
    rw [en] at HCF
    clear en hl
    go_wp2_with fail
    refine HCF.out.mono ?_
    rintro r w4 ⟨rfl,hb4⟩
    go_wp2_with fail
    go_ret
    exact ⟨ret_int HV2.out.symm,HB3.out.trans (hb4.mono HB3.out.size)⟩
   | false =>
    have HV2:Hid (dchkE rows owners cs = 0):=Lib.hid (by rw [HV.out,if_neg]; rw [en]; rintro (h | h); exact h hl; cases h)
    rw [en] at HCF
    clear en hl
    go_wp2_with fail
    refine HCF.out.mono ?_
    rintro r w4 ⟨rfl,hb4⟩
    go_wp2_with fail
    go_ret
    exact ⟨ret_int HV2.out.symm,HB3.out.trans (hb4.mono HB3.out.size)⟩
  ·have hlb:((cs.length:Int) != ((colsQ rows:Nat):Int)) = true:=bne_iff_ne.2 (by omega)
   have HV2:Hid (dchkE rows owners cs = 340):=Lib.hid (by rw [HV.out,if_pos (.inl hl)])
   clear hl
   go_wp2_with fail
   go_ret
   exact ⟨ret_int HV2.out.symm,HB3.out⟩
 ·have HV:Hid (dchkE rows owners cs = progE rows owners):=Lib.hid (by unfold dchkE; rw [if_pos hp])
  have h2:(progE rows owners != 0) = true:=bne_iff_ne.2 hp
  go_enter Tryz.func112,Tryz.ntmps112
  go_wp2_with fail
  rw [← HW1.out]
  refine HPC.out.mono ?_
  rintro r w2 ⟨rfl,hb2⟩
  go_wp2_with fail
  go_ret
  exact ⟨ret_int HV.out.symm,HB1.out.trans (hb2.mono HB1.out.size)⟩
def pubF (row cs:List Int):Nat → Int
 | 0 => 1
 | j + 1 => pubF row cs j * powE (nth cs j) (nth row j) % 2147483579
def pubQ (row cs:List Int):Int:=pubF row cs cs.length
theorem el_pubF {row cs:List Int} (h:∀ c ∈ cs,El c):∀ j,j ≤ cs.length → El (pubF row cs j)
 | 0,_ => el_one
 | j + 1,hj => el_mul (el_pubF h j (by omega)) (el_powE (h _ (by rw [nth_at (by omega)]; exact List.getElem_mem _)) _)
def pubE (rows:List (List Int)) (owners cs:List Int) (r:Int):Int:=
 if dchkE rows owners cs ≠ 0 then dchkE rows owners cs else if r < 0 ∨ (rows.length:Int) ≤ r then 1 else 0
def pubR (rows:List (List Int)) (owners cs:List Int) (r:Int):Int:=if pubE rows owners cs r = 0 then pubQ (rows.getD r.toNat []) cs else 0
theorem public_any (rv ov cv:Value) (rows:List (List Int)) (owners cs:List Int) (r:Int) (w:World) (hR:Rows2 w rv rows) (hO:Ints w ov owners) (hC:Ints w cv cs) (hr:R64 r) :
  Calls Tryz.prog 114 #[.agg #[rv,ov],cv,.int .i64 r] w fun e w' => e = .returned (.tuple #[.int .i64 (pubR rows owners cs r),.int .i64 (pubE rows owners cs r)]) ∧ Below w.heap.size w w':=by
 obtain ⟨W1,hW1,hb1,hr1,hz⟩:=box_prog w rv ov 25
 have HR1:=Lib.hid (hR.below hb1)
 have HO1:=Lib.hid (hO.below hb1)
 have HC1:=Lib.hid (hC.below hb1)
 have HDC:=Lib.hid (dcheck_any rv ov cv rows owners cs W1 HR1.out HO1.out HC1.out)
 obtain ⟨a,cap,rfl,-,hlen,-⟩:=id hR
 obtain ⟨a2,cap2,rfl,-,hlen2,-⟩:=id hO
 obtain ⟨a3,cap3,rfl,-,hlen3,hcr,-⟩:=id hC
 have c0:W1.cell? ⟨w.heap.size,0,none⟩ = some (.slice a rows.length cap):=row_cell hr1 rfl
 have c1:W1.cell? ⟨w.heap.size,1,none⟩ = some (.slice a2 owners.length cap2):=row_cell hr1 rfl
 have HW1:=Lib.hid hW1
 have HB1:=Lib.hid hb1
 clear hR hO hC hr1 hW1 hb1 hcr
 by_cases hp:dchkE rows owners cs = 0
 ·have HK:=Lib.hid (dchkE_ok hp)
  have HP0:=Lib.hid hp
  rw [hp] at HDC
  clear hp
  by_cases hneg:r < 0
  ·have HV:Hid (pubE rows owners cs r = 1):=Lib.hid (by unfold pubE; rw [if_neg (by simp [HP0.out]),if_pos (.inl hneg)])
   have HW:Hid (pubR rows owners cs r = 0):=Lib.hid (by unfold pubR; rw [HV.out]; rfl)
   go_enter Tryz.func114,Tryz.ntmps114
   go_wp2_with fail
   rw [← HW1.out]
   refine HDC.out.mono ?_
   rintro e w2 ⟨rfl,hb2⟩
   go_wp2_with fail
   go_ret2
   exact ⟨by rw [HV.out,HW.out]; rfl,HB1.out.trans (hb2.mono HB1.out.size)⟩
  ·have hn0:0 ≤ r:=by omega
   by_cases hgt:(rows.length:Int) ≤ r
   ·have HV:Hid (pubE rows owners cs r = 1):=Lib.hid (by unfold pubE; rw [if_neg (by simp [HP0.out]),if_pos (.inr hgt)])
    have HW:Hid (pubR rows owners cs r = 0):=Lib.hid (by unfold pubR; rw [HV.out]; rfl)
    go_enter Tryz.func114,Tryz.ntmps114
    go_wp2_with fail
    rw [← HW1.out]
    refine HDC.out.mono ?_
    rintro e w2 ⟨rfl,hb2⟩
    have d0:=below_cell hb2 c0
    go_wp2_with fail
    go_ret2
    exact ⟨by rw [HV.out,HW.out]; rfl,HB1.out.trans (hb2.mono HB1.out.size)⟩
   ·obtain ⟨n,hn⟩:∃ n:Nat,r = n:=⟨r.toNat,by omega⟩
    have hlt:n < rows.length:=by omega
    have HV:Hid (pubE rows owners cs r = 0):=Lib.hid (by unfold pubE; rw [if_neg (by simp [HP0.out]),if_neg (by omega)])
    have HW:Hid (pubR rows owners cs r = pubF rows[n] cs cs.length):=Lib.hid (by unfold pubR pubQ; rw [if_pos HV.out,hn,Int.toNat_natCast,getD_at hlt])
    subst hn
    obtain ⟨row,hrow⟩:∃ row,row = rows[n]:=⟨_,rfl⟩
    rw [← hrow] at HW
    have HROW:=Lib.hid hrow
    clear hrow
    have hgt2:(n:Int) < (rows.length:Int):=by omega
    have hd1:decide ((n:Int) < 0) = false:=decide_eq_false (by omega)
    have hd2:decide (rows.length ≤ n) = false:=decide_eq_false (by omega)
    clear hneg hgt
    go_enter Tryz.func114,Tryz.ntmps114
    go_wp2_with fail
    rw [← HW1.out]
    refine HDC.out.mono ?_
    rintro e w2 ⟨rfl,hb2⟩
    have d0:=below_cell hb2 c0
    have HR2:=Lib.hid (HR1.out.below hb2)
    have HC2:=Lib.hid (HC1.out.below hb2)
    have HB2:=Lib.hid (HB1.out.trans (hb2.mono HB1.out.size))
    clear hb2
    go_wp2_with fail
    go_loopw [6,30] (fun x i W => ∃ j:Nat,j ≤ cs.length ∧ i = .int .i64 j ∧ x = .int .i64 (pubF row cs j) ∧ Below w2.heap.size w2 W) (fun _ i _ => cs.length - (intOf i).toNat)
    case atStart => exact ⟨0,Nat.zero_le _,rfl,rfl,Below.refl _ _⟩
    case round =>
     obtain ⟨j,hjl,rfl,rfl,hb⟩:=hrel
     have f0:=below_cell hb d0
     by_cases hj:j < cs.length
     ·obtain ⟨aa,cc,e1,-,-,hk⟩:=HR2.out
      obtain ⟨b,off,rr,ha,q1,hI⟩:=hk n hlt
      simp only [Value.slice.injEq] at e1
      obtain ⟨rfl,-,rfl⟩:=e1
      subst ha
      have y1:=below_cell hb q1
      have hrl:=HK.out.prog.row hlt
      rw [← HROW.out] at hI hrl
      have hj2:j < row.length:=by rw [hrl,← HK.out.len]; exact hj
      obtain ⟨hr2,b2,off2,n2,k2,e2,q2⟩:=(hI.below hb).get hj2
      obtain ⟨hr3,b3,off3,n3,k3,e3,q3⟩:=(HC2.out.below hb).get hj
      obtain ⟨ra,rc,e4,-,-,-,-⟩:=id hI
      rw [e4] at e2 y1
      simp only [Value.slice.injEq] at e2 e3
      obtain ⟨e2,-,-⟩:=e2
      obtain ⟨e3,-,-⟩:=e3
      subst e2 e3
      have hel:El (nth cs j):=HK.out.el _ (by rw [nth_at hj]; exact List.getElem_mem _)
      have hep:=el_pubF (row:=row) HK.out.el j (by omega)
      have HPW:=Lib.hid (fun w => pow_yes (nth cs j) (nth row j) w hel hr2)
      have HML:=Lib.hid (fun w => mul_yes (pubF row cs j) (powE (nth cs j) (nth row j)) w hep (el_powE hel _))
      have HNX:=Lib.hid (show pubF row cs (j + 1) = pubF row cs j * powE (nth cs j) (nth row j) % 2147483579 from rfl)
      have i0:0 ≤ (j:Int):=by omega
      have i1:(j:Int) < (row.length:Int):=by omega
      have i2:(j:Int) < (cs.length:Int):=by omega
      have i3:0 ≤ (n:Int):=by omega
      have HBW:=Lib.hid hb
      clear hk q1 hI hb e4 hel hep hrl
      generalize pubF row cs j = p1 at *
      generalize powE (nth cs j) (nth row j) = pw at *
      generalize nth cs j = cj at *
      generalize nth row j = rj at *
      go_wp2_with fail
      refine (HPW.out _).mono ?_
      rintro e w3 ⟨rfl,hb3⟩
      go_wp2_with fail
      refine (HML.out _).mono ?_
      rintro e w4 ⟨rfl,rfl⟩
      go_wp2_with fail
      go_roundw
      case rel => exact ⟨j + 1,by omega,by go_num,by rw [HNX.out],HBW.out.trans (hb3.mono HBW.out.size)⟩
      case measure => simp [intOf]; omega
     ·obtain rfl:j = cs.length:=by omega
      have HF:=Lib.hid (HB2.out.trans (hb.mono HB2.out.size))
      clear hb f0
      go_wp2_with fail
      go_ret2
      exact ⟨by rw [HV.out,HW.out]; rfl,HF.out⟩
 ·have HV:Hid (pubE rows owners cs r = dchkE rows owners cs):=Lib.hid (by unfold pubE; rw [if_pos hp])
  have HW:Hid (pubR rows owners cs r = 0):=Lib.hid (by unfold pubR; rw [HV.out,if_neg hp])
  have h2:(dchkE rows owners cs != 0) = true:=bne_iff_ne.2 hp
  go_enter Tryz.func114,Tryz.ntmps114
  go_wp2_with fail
  rw [← HW1.out]
  refine HDC.out.mono ?_
  rintro e w2 ⟨rfl,hb2⟩
  go_wp2_with fail
  go_ret2
  exact ⟨by rw [HV.out,HW.out]; rfl,HB1.out.trans (hb2.mono HB1.out.size)⟩
end Go.Proofs.YtggnipkfliompaaGreatDoor
namespace Go.Proofs.YtggnipkfliompaaGreatDoor
open Go.RowKit FP
def rightS (rows:List (List Int)) (r v:Int):Bool:=decide (0 ≤ r) && (decide (r < (rows.length:Int)) && !oddQ v)
theorem rightS_iff {rows:List (List Int)} {r v:Int}:rightS rows r v = true ↔ (0 ≤ r ∧ r < (rows.length:Int)) ∧ 0 ≤ v ∧ v < 1073741789:=by
 unfold rightS
 rw [Bool.and_eq_true,Bool.and_eq_true,decide_eq_true_eq,decide_eq_true_eq,Bool.not_eq_true']
 constructor
 ·rintro ⟨a,b,c⟩; exact ⟨⟨a,b⟩,oddQ_num c⟩
 ·rintro ⟨⟨a,b⟩,c⟩; exact ⟨a,b,oddQ_of c⟩
theorem dright_any (rv ov:Value) (rows:List (List Int)) (owners:List Int) (r v:Int) (w:World) (hR:Rows2 w rv rows) (hO:Ints w ov owners) (hv:R64 v) :
  Calls Tryz.prog 113 #[.agg #[rv,ov],.agg #[.int .i64 r,.int .i64 v]] w fun e w' => e = .returned (.bool (rightS rows r v)) ∧ Below w.heap.size w w':=by
 obtain ⟨W1,hW1,hb1,hr1,hz⟩:=box_prog w rv ov 25
 obtain ⟨W2,hW2,hb2,hr2,hz2⟩:=box_prog W1 (.int .i64 r) (.int .i64 v) 68
 obtain ⟨a,cap,rfl,-,hlen,-⟩:=id hR
 obtain ⟨a2,cap2,rfl,-,hlen2,-⟩:=id hO
 have hsz:W1.heap.size = w.heap.size + 1:=by rw [hW1]; simp
 have c0:W2.cell? ⟨w.heap.size,0,none⟩ = some (.slice a rows.length cap):=below_cell hb2 (row_cell hr1 rfl)
 have s0:W2.cell? ⟨w.heap.size + 1,0,none⟩ = some (.int .i64 r):=by rw [← hsz]; exact row_cell hr2 rfl
 have s1:W2.cell? ⟨w.heap.size + 1,1,none⟩ = some (.int .i64 v):=by rw [← hsz]; exact row_cell hr2 rfl
 have HW2:Hid ((w.alloc (.cells #[.slice a rows.length cap,.slice a2 owners.length cap2] 25)).alloc (.cells #[.int .i64 r,.int .i64 v] 68) = W2):=Lib.hid (by rw [hW2,hW1])
 have HB:=Lib.hid (hb1.trans (hb2.mono hb1.size))
 clear hR hO hr1 hr2 hW1 hW2 hb1 hb2 hsz hz hz2
 by_cases h0:0 ≤ r
 ·by_cases h1:r < (rows.length:Int)
  ·have HV:=Lib.hid (show rightS rows r v = !oddQ v by unfold rightS; rw [decide_eq_true h0,decide_eq_true h1]; rfl)
   go_enter Tryz.func113,Tryz.ntmps113
   go_wp2_with (rw [HW2.out])
   refine (numbers_any _ [v] _ (ints_one W2 v 3 _ rfl hv)).mono ?_
   rintro e w3 ⟨rfl,hb3⟩
   rw [one_any]
   have hb4:=HB.out.alloc HB.out.size (.cells #[.int .i64 v] 3)
   go_wp2_with fail
   go_ret
   exact ⟨ret_bool HV.out.symm,hb4.trans (hb3.mono hb4.size)⟩
  ·have HV:=Lib.hid (show rightS rows r v = false by unfold rightS; rw [decide_eq_false h1]; simp)
   go_enter Tryz.func113,Tryz.ntmps113
   go_wp2_with (rw [HW2.out])
   go_ret
   exact ⟨ret_bool HV.out.symm,HB.out⟩
 ·have HV:=Lib.hid (show rightS rows r v = false by unfold rightS; rw [decide_eq_false h0]; rfl)
  go_enter Tryz.func113,Tryz.ntmps113
  go_wp2_with (rw [HW2.out])
  go_ret
  exact ⟨ret_bool HV.out.symm,HB.out⟩
def fitE (rows:List (List Int)) (owners cs:List Int) (r v:Int):Int:=
 if dchkE rows owners cs ≠ 0 then dchkE rows owners cs else if rightS rows r v = true then 0 else 340
def fitB (rows:List (List Int)) (owners cs:List Int) (r v:Int):Bool:=
 if fitE rows owners cs r v = 0 then powE 4 v == pubQ (rows.getD r.toNat []) cs else false
theorem fits_any (rv ov cv:Value) (rows:List (List Int)) (owners cs:List Int) (r v:Int) (w:World) (hR:Rows2 w rv rows) (hO:Ints w ov owners) (hC:Ints w cv cs) (hr:R64 r) (hv:R64 v) :
  Calls Tryz.prog 41 #[.agg #[rv,ov],cv,.agg #[.int .i64 r,.int .i64 v]] w fun e w' => e = .returned (.tuple #[.bool (fitB rows owners cs r v),.int .i64 (fitE rows owners cs r v)]) ∧ Below w.heap.size w w':=by
 obtain ⟨W1,hW1,hb1,hr1,hz⟩:=box_prog w rv ov 25
 obtain ⟨W2,hW2,hb2,hr2,hz2⟩:=box_prog W1 (.int .i64 r) (.int .i64 v) 68
 have hsz:W1.heap.size = w.heap.size + 1:=by rw [hW1]; simp
 have hb:=hb1.trans (hb2.mono hb1.size)
 have HR2:=Lib.hid (hR.below hb)
 have HO2:=Lib.hid (hO.below hb)
 have HC2:=Lib.hid (hC.below hb)
 have HDC:=Lib.hid (dcheck_any rv ov cv rows owners cs W2 HR2.out HO2.out HC2.out)
 obtain ⟨a,cap,rfl,-,hlen,-⟩:=id hR
 obtain ⟨a2,cap2,rfl,-,hlen2,-⟩:=id hO
 obtain ⟨a3,cap3,rfl,-,hlen3,hcr,-⟩:=id hC
 have c0:W2.cell? ⟨w.heap.size,0,none⟩ = some (.slice a rows.length cap):=below_cell hb2 (row_cell hr1 rfl)
 have c1:W2.cell? ⟨w.heap.size,1,none⟩ = some (.slice a2 owners.length cap2):=below_cell hb2 (row_cell hr1 rfl)
 have s0:W2.cell? ⟨w.heap.size + 1,0,none⟩ = some (.int .i64 r):=by rw [← hsz]; exact row_cell hr2 rfl
 have s1:W2.cell? ⟨w.heap.size + 1,1,none⟩ = some (.int .i64 v):=by rw [← hsz]; exact row_cell hr2 rfl
 have HW2:Hid ((w.alloc (.cells #[.slice a rows.length cap,.slice a2 owners.length cap2] 25)).alloc (.cells #[.int .i64 r,.int .i64 v] 68) = W2):=Lib.hid (by rw [hW2,hW1])
 have HB:=Lib.hid hb
 clear hR hO hC hr1 hr2 hW1 hW2 hb1 hb2 hsz hz hz2 hb hcr
 by_cases hp:dchkE rows owners cs = 0
 ·have HP0:=Lib.hid hp
  have HFE:=Lib.hid (show fitE rows owners cs r v = if rightS rows r v = true then 0 else 340 by unfold fitE; rw [if_neg (by simp [hp])])
  rw [hp] at HDC
  clear hp
  cases er:rightS rows r v with
  | false =>
   have HV:Hid (fitE rows owners cs r v = 340):=Lib.hid (by rw [HFE.out,er]; rfl)
   have HW:Hid (fitB rows owners cs r v = false):=Lib.hid (by unfold fitB; rw [HV.out]; rfl)
   have HRS:=Lib.hid er
   clear er
   go_enter Tryz.func41,Tryz.ntmps41
   go_wp2_with fail
   rw [HW2.out]
   refine HDC.out.mono ?_
   rintro e w3 ⟨rfl,hb3⟩
   have d0:=below_cell hb3 c0
   have d1:=below_cell hb3 c1
   have t0:=below_cell hb3 s0
   have t1:=below_cell hb3 s1
   have HR3:=Lib.hid (HR2.out.below hb3)
   have HO3:=Lib.hid (HO2.out.below hb3)
   have HB3:=Lib.hid (HB.out.trans (hb3.mono HB.out.size))
   clear hb3 c0 c1 s0 s1
   go_wp2_with fail
   refine (dright_any _ _ rows owners r v _ HR3.out HO3.out hv).mono ?_
   rintro e w4 ⟨rfl,hb4⟩
   rw [HRS.out]
   go_wp2_with fail
   go_ret2
   exact ⟨by rw [HV.out,HW.out]; rfl,HB3.out.trans (hb4.mono HB3.out.size)⟩
  | true =>
   have HV:Hid (fitE rows owners cs r v = 0):=Lib.hid (by rw [HFE.out,er]; rfl)
   have HRS:=Lib.hid er
   have hrg:=(rightS_iff.1 er).1
   have HPE:Hid (pubE rows owners cs r = 0):=Lib.hid (by unfold pubE; rw [if_neg (by simp [HP0.out]),if_neg (by omega)])
   have HPR:Hid (pubR rows owners cs r = pubQ (rows.getD r.toNat []) cs):=Lib.hid (by unfold pubR; rw [if_pos HPE.out])
   have HW:Hid (fitB rows owners cs r v = (powE 4 v == pubQ (rows.getD r.toNat []) cs)):=Lib.hid (by unfold fitB; rw [if_pos HV.out])
   obtain ⟨q,hq⟩:∃ q,q = pubQ (rows.getD r.toNat []) cs:=⟨_,rfl⟩
   rw [← hq] at HPR HW
   have HPW:=Lib.hid (fun w => pow_yes 4 v w el_four hv)
   obtain ⟨p,hp4⟩:∃ p,p = powE 4 v:=⟨_,rfl⟩
   rw [← hp4] at HW HPW
   have HPB:=Lib.hid (fun W h1 h2 h3 => public_any (.slice a rows.length cap) (.slice a2 owners.length cap2) (.slice a3 cs.length cap3) rows owners cs r W h1 h2 h3 hr)
   rw [HPE.out,HPR.out] at HPB
   clear er hrg hq hp4
   go_enter Tryz.func41,Tryz.ntmps41
   go_wp2_with fail
   rw [HW2.out]
   refine HDC.out.mono ?_
   rintro e w3 ⟨rfl,hb3⟩
   have d0:=below_cell hb3 c0
   have d1:=below_cell hb3 c1
   have t0:=below_cell hb3 s0
   have t1:=below_cell hb3 s1
   have HR3:=Lib.hid (HR2.out.below hb3)
   have HO3:=Lib.hid (HO2.out.below hb3)
   have HC3:=Lib.hid (HC2.out.below hb3)
   have HB3:=Lib.hid (HB.out.trans (hb3.mono HB.out.size))
   clear hb3 c0 c1 s0 s1
   go_wp2_with fail
   refine (dright_any _ _ rows owners r v _ HR3.out HO3.out hv).mono ?_
   rintro e w4 ⟨rfl,hb4⟩
   rw [HRS.out]
   have c0:=below_cell hb4 d0
   have c1:=below_cell hb4 d1
   have s0:=below_cell hb4 t0
   have s1:=below_cell hb4 t1
   have HR4:=Lib.hid (HR3.out.below hb4)
   have HO4:=Lib.hid (HO3.out.below hb4)
   have HC4:=Lib.hid (HC3.out.below hb4)
   have HB4:=Lib.hid (HB3.out.trans (hb4.mono HB3.out.size))
   clear hb4 d0 d1 t0 t1
   go_wp2_with fail
   refine (HPB.out _ HR4.out HO4.out HC4.out).mono ?_
   rintro e w5 ⟨rfl,hb5⟩
   have t1:=below_cell hb5 s1
   have HB5:=Lib.hid (HB4.out.trans (hb5.mono HB4.out.size))
   clear hb5 c0 c1 s0 s1
   go_wp2_with fail
   refine (HPW.out _).mono ?_
   rintro e w6 ⟨rfl,hb6⟩
   go_wp2_with fail
   go_ret2
   exact ⟨by rw [HV.out,HW.out]; rfl,HB5.out.trans (hb6.mono HB5.out.size)⟩
 ·have HV:Hid (fitE rows owners cs r v = dchkE rows owners cs):=Lib.hid (by unfold fitE; rw [if_pos hp])
  have HW:Hid (fitB rows owners cs r v = false):=Lib.hid (by unfold fitB; rw [HV.out,if_neg hp])
  have h2:(dchkE rows owners cs != 0) = true:=bne_iff_ne.2 hp
  go_enter Tryz.func41,Tryz.ntmps41
  go_wp2_with fail
  rw [HW2.out]
  refine HDC.out.mono ?_
  rintro e w3 ⟨rfl,hb3⟩
  go_wp2_with fail
  go_ret2
  exact ⟨by rw [HV.out,HW.out]; rfl,HB.out.trans (hb3.mono HB.out.size)⟩
end Go.Proofs.YtggnipkfliompaaGreatDoor
namespace Go.Proofs.YtggnipkfliompaaGreatDoor
open Go.RowKit
theorem sim_of_below {B:Nat} {W W':World} (hb:Below W.heap.size W W') (hB:B ≤ W.heap.size):Sim B W W':=
 ⟨hb.os,hb.tape,hb.output,hb.size,fun k hk => hb.block k (Nat.lt_of_lt_of_le hk hB),fun k _ hk _ => (hb.block k (Array.getElem?_eq_some_iff.1 hk).1).trans hk⟩
theorem keeps_of_below {W W':World} (hb:Below W.heap.size W W'):KeepsOthers W W':=
 ⟨hb.size,fun k _ hk _ => (hb.block k (Array.getElem?_eq_some_iff.1 hk).1).trans hk⟩
def Iterates4 (P:Program) (gf:FuncId) (lb:Array Value) (N:Nat) (encs:Nat → Array Value) (I:Nat → World → Prop):Prop:=
 ∀ (l:Nat) (J Jx:Nat → World → Prop) (W:World),(∀ j W1,J j W1 → I j W1) → (∀ j W1 W2,J j W1 → Below W1.heap.size W1 W2 → J j W2) →
  (∀ j W1,J j W1 → j < N → YieldAt Fence.wide 0 P l (encs j) W1 fun e W' => (e = .returned (.bool true) ∧ J (j + 1) W') ∨ (e = .returned (.bool false) ∧ Jx (j + 1) W')) →
  J 0 W → CallsIn Fence.wide 0 P gf (#[.func (.yield l) #[] #[]] ++ lb) W fun e W' => (∃ v,e = .returned v) ∧ (J N W' ∨ (∃ j,j ≤ N ∧ Jx j W'))
end Go.Proofs.YtggnipkfliompaaGreatDoor
namespace Go.Proofs.YtggnipkfliompaaGreatDoor
open Go.RowKit FP
attribute [local go_sem] Oper.semAt_some
theorem keeps_grown {W W':World} {base size n:Nat} {e:TypeId} {v:Value} {xs:List Value} (h:W.ownsRow base e size v n xs) (hg:W.grownBy W' v.ownBlock):KeepsOthers W W':=
 ⟨hg.size,fun k o hk ho => (hg.block k (Array.getElem?_eq_some_iff.1 hk).1 (by
  rcases h.2 with ⟨rfl,-⟩ | ⟨g,cap,cur,rfl,-,hg2,-⟩
  ·intro e; cases e
  ·intro e
   have e2:k = g:=by injection e
   subst e2
   rw [hg2] at hk; cases hk; cases ho)).trans hk⟩
theorem own_sim {B:Nat} {W W':World} {base size n:Nat} {e:TypeId} {v:Value} {xs:List Value} (h:W.ownsRow base e size v n xs) (hs:Sim B W W'):W'.ownsRow base e size v n xs:=by
 obtain ⟨h1,h2⟩:=h
 refine ⟨h1,?_⟩
 rcases h2 with h2 | ⟨g,cap,cur,a,b,c,d⟩
 ·exact .inl h2
 ·exact .inr ⟨g,cap,cur,a,b,hs.cells _ _ c rfl,d⟩
end Go.Proofs.YtggnipkfliompaaGreatDoor
namespace Go.Proofs.YtggnipkfliompaaGreatDoor
open Go.RowKit FP
attribute [local go_sem] Oper.semAt_some
end Go.Proofs.YtggnipkfliompaaGreatDoor
namespace Go.Proofs.YtggnipkfliompaaGreatDoor
def dt (m:Nat) (u v:Nat → Fq):Fq:=sm m (fun j => u j * v j)
end Go.Proofs.YtggnipkfliompaaGreatDoor
namespace Go.Proofs.YtggnipkfliompaaGreatDoor
end Go.Proofs.YtggnipkfliompaaGreatDoor
namespace Go.Proofs.YtggnipkfliompaaGreatDoor
open Go.RowKit
theorem owns_setCell_other {w:World} {base:Nat} {e:TypeId} {size:Nat} {v:Value} {n:Nat} {xs:List Value} (h:w.ownsRow base e size v n xs) {b o:Nat} (ha:∀ g,v.ownBlock = some g → b ≠ g) (u:Value):(w.setCell ⟨b,o,none⟩ u).ownsRow base e size v n xs:=by
 obtain ⟨h1,h2 | ⟨g,cap,cur,rfl,hB,hh,hrest⟩⟩:=h
 ·exact ⟨h1,.inl h2⟩
 ·refine ⟨h1,.inr ⟨g,cap,cur,rfl,hB,?_,hrest⟩⟩
  rw [Below.heap_setCell _ _ _ _ (fun e => ha g rfl e.symm)]; exact hh
end Go.Proofs.YtggnipkfliompaaGreatDoor
namespace Go.Proofs.YtggnipkfliompaaGreatDoor
open Go.RowKit
end Go.Proofs.YtggnipkfliompaaGreatDoor
namespace Go.Proofs.YtggnipkfliompaaGreatDoor
open Go.RowKit
structure Next (piv:List Nat) (c k:Nat):Prop where
 le:k ≤ piv.length
 lo:∀ i (h:i < piv.length),i < k → piv[i] < c
 up:∀ i (h:i < piv.length),k ≤ i → c ≤ piv[i]
end Go.Proofs.YtggnipkfliompaaGreatDoor
namespace Go.Proofs.YtggnipkfliompaaGreatDoor
def pf (l:List Nat):Nat → Nat:=fun k => l[k]?.getD 0
end Go.Proofs.YtggnipkfliompaaGreatDoor
