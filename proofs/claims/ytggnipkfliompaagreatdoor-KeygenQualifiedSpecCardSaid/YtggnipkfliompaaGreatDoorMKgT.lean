/- Package keygen, in plain Lean: the examples of the laws. Package complaints: what Settle tries. Package complaints: Make and Settle. Package complaints: Settle. The laws of complaints: the examples' program and dealings. The laws of complaints, in plain Lean: other parcels. A region that draws its order inside a round of a range over a function: as outside, where no operation is about to call a Go function. A region that draws its order, where a condition on the world holds up to certain operations only (stores into what was loaded). -/
import Derived.Test.YtggnipkfliompaaGreatDoorMParG
import Derived.Test.YtggnipkfliompaaGreatDoorMKgA
import Derived.Test.YtggnipkfliompaaGreatDoorMParF
import Derived.Test.YtggnipkfliompaaGreatDoorMLinU
import Derived.Test.YtggnipkfliompaaGreatDoorMBase
import Derived.OrdersIn
import Derived.Deep.RegionHeld3
import Derived.OrdersHeld
set_option maxHeartbeats 8000000
set_option maxRecDepth 100000
namespace Go.Proofs.YtggnipkfliompaaGreatDoor
open Go.RowKit FP
def R37:List (List Int):=[[1]]
def O37:List Int:=[0]
def K37:List Int:=[powE 4 7]
theorem p37:progE R37 O37 = 0:=by decide
theorem keys37:KeysOK O37 K37 where
 few:=by decide
 el k hk:=by
  obtain rfl:k = powE 4 7:=by simpa [K37] using hk
  exact .inr (el_powE el_four _)
 own o ho:=by
  obtain rfl:o = 0:=by simpa [O37] using ho
  refine ⟨by decide,?_⟩
  show powE 4 7 ≠ 0
  have:=(el_powE el_four 7).lo
  omega
theorem keysOf37:KeysOf O37 [7] K37 where
 eq:=rfl
 sec s hs:=by
  obtain rfl:s = 7:=by simpa using hs
  omega
 ok:=keys37
 own o ho:=by
  obtain rfl:o = 0:=by simpa [O37] using ho
  omega
theorem deal37:dealE R37 O37 5 [] = 0:=by decide
theorem kd37:KdOK R37 O37 K37 2 5 [] [3] where
 p0:=p37
 keys:=keys37
 dl:=by omega
 ok:=dealE_ok deal37
 d0:=deal37
 len:=rfl
 us u hu:=by
  obtain rfl:u = 3:=by simpa using hu
  omega
def D37:Dlg:=kdD R37 O37 K37 2 5 [] [3]
theorem D37_dl:D37.dealer = 2 ∧ D37.cs = [powE 4 5] ∧ D37.ps.length = 1:=by
 obtain ⟨h1,h2,h3⟩:=kdD_dealer kd37
 exact ⟨h1,h2,h3⟩
theorem ex37_1:kdE R37 O37 [] 0 5 [] [3] = 370 ∧ kdD R37 O37 [] 0 5 [] [3] = ⟨0,[],[]⟩:=by
 have h:kdE R37 O37 [] 0 5 [] [3] = 370:=by decide
 exact ⟨h,by unfold kdD; rw [if_neg (by rw [h]; decide)]⟩
theorem ex37_2:kdE R37 O37 K37 2 5 [] [3] = 0:=kdE_ok.2 kd37
theorem keysB37:keysB O37 K37 = true:=keysB_iff.2 keys37
theorem ex37_3:kdE R37 O37 K37 64 5 [] [3] = 1:=by
 unfold kdE
 rw [if_neg (by simp [p37]),keysB37,if_neg (by simp),if_pos (by decide)]
theorem ex37_4:kdE R37 O37 K37 2 5 [] [0] = 1:=by
 unfold kdE
 rw [if_neg (by simp [p37]),keysB37,if_neg (by simp),if_neg (by decide),if_neg (by simp [deal37]),if_pos (.inr (by decide))]
theorem fine37:fineB R37 D37 = true:=fineB_iff.2 kd37.fine
theorem nofine37:fineB R37 ⟨0,[],[]⟩ = false:=by decide
theorem ord37:ordB [D37] = true:=by unfold ordB; rfl
theorem fines37:∀ d ∈ [D37],FineD R37 d:=fun d hd => by rw [List.mem_singleton.1 hd]; exact kd37.fine
theorem qual37:qualL R37 O37 K37 [] [D37] = [D37]:=qual_all fun d hd => ⟨fines37 d hd,fun c hc => by cases hc⟩
theorem com_one (d:Dlg):comL [d] = d.cs:=rfl
theorem fold_one (d:Dlg) (s row:Int):[d].foldl (fun a d => (a + mkV s d row) % 1073741789) 0 = (0 + mkV s d row) % 1073741789:=rfl
theorem ex37_5:quE R37 O37 K37 [] [] = 370:=by
 unfold quE
 rw [if_neg (by simp [p37]),keysB37,if_neg (by simp),if_neg (by simp),show ordB ([]:List Dlg) = true from rfl,if_neg (by simp)]
 exact if_pos (show qualL R37 O37 K37 [] [] = [] from rfl)
theorem ex37_6:quE R37 O37 K37 [D37] [] = 0:=quE_of p37 keys37 (by simp) (by simp) ord37 (by rw [qual37]; simp)
theorem dlr37:dlrL [D37] = [2]:=by unfold dlrL; rw [List.map_cons,D37_dl.1]; rfl
theorem com37:comL [D37] = [powE 4 5]:=by rw [com_one,D37_dl.2.1]
theorem ex37_7:owE R37 O37 1 0 [] [] = 0 ∧ owV R37 O37 1 0 [] [] = 0 ∧ owR R37 O37 1 0 [] [] = 0:=by decide
theorem ex37_9:owE R37 O37 0 0 [] [] = 110:=by decide
theorem ex37_8:owE R37 O37 7 0 [2] [D37] = 0 ∧ owV R37 O37 7 0 [2] [D37] = 5 ∧ owR R37 O37 7 0 [2] [D37] = 0:=by
 have h0:owE R37 O37 7 0 [2] [D37] = 0:=by
  unfold owE
  rw [if_neg (by simp [p37]),if_neg (by decide),if_neg (by decide),if_neg (by simp),ord37,if_neg (by simp),← dlr37,dls_of ord37 (List.Sublist.refl _) fines37,if_neg (by simp)]
 refine ⟨h0,?_,by unfold owR; rw [if_pos h0]⟩
 unfold owV
 rw [if_pos h0,← dlr37,owS_all ord37 (List.Sublist.refl _) fines37,fold_one]
 have h1:=kdD_val kd37 keysOf37 (i:=0) (by decide)
 rw [show secOf O37 [7] 0 = 7 from rfl,show ((0:Nat):Int) = 0 from rfl] at h1
 unfold D37
 rw [h1]
 decide
theorem ex37_10:owE R37 O37 7 0 [1] [D37] = 370:=by
 unfold owE
 rw [if_neg (by simp [p37]),if_neg (by decide),if_neg (by decide),if_neg (by simp),ord37,if_neg (by simp),if_pos]
 refine allDls_bad (k:=0) (by simp) ?_
 unfold dlsB
 rw [show [D37].any (isOf R37 (nth [1] 0)) = false from by
  rw [List.any_cons,List.any_nil,Bool.or_false]
  unfold isOf
  rw [D37_dl.1]; rfl]
 rfl
theorem ex37_9b:owV R37 O37 0 0 [] [] = 0 ∧ owR R37 O37 0 0 [] [] = 0:=by
 unfold owV owR
 rw [if_neg (by rw [ex37_9]; decide),if_neg (by rw [ex37_9]; decide)]
 exact ⟨rfl,rfl⟩
theorem ex37_10b:owV R37 O37 7 0 [1] [D37] = 0 ∧ owR R37 O37 7 0 [1] [D37] = 0:=by
 unfold owV owR
 rw [if_neg (by rw [ex37_10]; decide),if_neg (by rw [ex37_10]; decide)]
 exact ⟨rfl,rfl⟩
theorem kri37:kriB R37 O37 D37 = true ∧ kriB R37 O37 ⟨0,[],[]⟩ = false:=⟨by unfold kriB; rw [if_pos p37]; exact fine37,by unfold kriB; rw [if_pos p37]; exact nofine37⟩
end Go.Proofs.YtggnipkfliompaaGreatDoor
namespace Go.Proofs.YtggnipkfliompaaGreatDoor
open Go.RowKit FP
def StR (w0:World) (G:Nat) (rows:List (List Int)) (owners:List Int) (key:Int) (d:Dlg) (c:Cmp) (e:Int) (w':World):Prop:=
 e = stE rows owners key d c ∧ Below w0.heap.size w0 w' ∧ ∃ g,w'.heap[G]? = some (.cells #[.int .i64 g] 3 (0,0)) ∧ (e = 0 → g = stG rows owners key d c)
theorem st_stop {E G:Nat} {w0 w:World} {rows:List (List Int)} {owners:List Int} {key:Int} {d:Dlg} {c:Cmp} {e g:Int} (hb:Below w0.heap.size w0 w) (he:stE rows owners key d c = e) (h0:e ≠ 0)
  (qG:w.heap[G]? = some (.cells #[.int .i64 g] 3 (0,0))) (qE:w.heap[E]? = some (.cells #[.int .i64 0] 35 (0,0))) :
  TryF E (StR w0 G rows owners key d c) (.panicked (stopped36 e)) w:=
 ⟨⟨e,by rw [raised36_not h0],he.symm,hb,g,qG,fun h => absurd h h0⟩,qE⟩
theorem st_end {E G:Nat} {w0 w:World} {rows:List (List Int)} {owners:List Int} {key:Int} {d:Dlg} {c:Cmp} {g:Int} (hb:Below w0.heap.size w0 w) (he:stE rows owners key d c = 0) (hg:stG rows owners key d c = g)
  (qG:w.heap[G]? = some (.cells #[.int .i64 g] 3 (0,0))) (qE:w.heap[E]? = some (.cells #[.int .i64 0] 35 (0,0))) :
  TryF E (StR w0 G rows owners key d c) (.returned (.tuple #[])) w:=
 ⟨⟨0,by rw [raised36_zero rfl],he.symm,hb,g,qG,fun _ => hg.symm⟩,qE⟩
theorem goes_settle1:Goes Tryz.prog 64:=goes_of Tryz.func64 (by kernel_rfl) rfl
structure CmpR (c:Cmp):Prop where
 dealer:R64 c.dealer
 row:R64 c.row
 D:R64 c.D
 E:R64 c.E
 S:R64 c.S
theorem settle1_any (w0:World) (P D C G K E:Nat) (rv ov cv pv:Value) (rows:List (List Int)) (owners:List Int) (d:Dlg) (c:Cmp) (key:Int) (w:World)
  (hb:Below w0.heap.size w0 w) (hG:Glob w0) (hR:Rows2 w0 rv rows) (hO:Ints w0 ov owners) (hC:Ints w0 cv d.cs) (hP:Parcels w0 pv d.ps)
  (qP:w.heap[P]? = some (.cells #[rv,ov] 25 (0,0))) (qD:w.heap[D]? = some (.cells #[.int .i64 d.dealer,cv,pv] 28 (0,0))) (qC:w.heap[C]? = some (.cells (cmpA c) 34 (0,0)))
  (qG:w.heap[G]? = some (.cells #[.int .i64 0] 3 (0,0))) (qK:w.heap[K]? = some (.cells #[.int .i64 key] 3 (0,0))) (qE:w.heap[E]? = some (.cells #[.int .i64 0] 35 (0,0)))
  (hnG:w0.heap.size ≤ G) (hPG:P ≠ G) (hDG:D ≠ G) (hCG:C ≠ G) (hKG:K ≠ G) (hEG:E ≠ G) (hkey:R64 key) (hc:CmpR c) :
  Calls Tryz.prog 64 #[.pointer (some ⟨P,0,none⟩),.pointer (some ⟨D,0,none⟩),.pointer (some ⟨C,0,none⟩),.pointer (some ⟨G,0,none⟩),.pointer (some ⟨K,0,none⟩)] w (TryF E (StR w0 G rows owners key d c)):=by
 have HB:=Lib.hid hb
 have HG:=Lib.hid (fun W (h:Below w0.heap.size w0 W) => hG.below h)
 have HR:=Lib.hid (fun W (h:Below w0.heap.size w0 W) => hR.below h)
 have HO:=Lib.hid (fun W (h:Below w0.heap.size w0 W) => hO.below h)
 have HC:=Lib.hid (fun W (h:Below w0.heap.size w0 W) => hC.below h)
 have HP:=Lib.hid (fun W (h:Below w0.heap.size w0 W) => hP.below h)
 have QP:=Lib.hid qP
 have QD:=Lib.hid qD
 have QC:=Lib.hid qC
 have QG:=Lib.hid qG
 have QK:=Lib.hid qK
 have QE:=Lib.hid qE
 have HNE:=Lib.hid (And.intro hnG (And.intro hPG (And.intro hDG (And.intro hCG (And.intro hKG hEG)))))
 have HRC:=Lib.hid (And.intro hkey hc)
 obtain ⟨a1,k1,rfl,-,hl1,-⟩:=id hR
 obtain ⟨a2,k2,rfl,-,hl2,-⟩:=id hO
 obtain ⟨a3,k3,rfl,-,hl3,-⟩:=id hC
 obtain ⟨a4,k4,rfl,-,hl4,-⟩:=id hP
 clear hb hG hR hO hC hP qP qD qC qG qK qE hnG hPG hDG hCG hKG hEG hkey hc
 obtain ⟨cd,cr,cD,cE',cS⟩:=c
 have p0:=row_cell QP.out (k:=0) (v:=.slice a1 rows.length k1) rfl
 have p1:=row_cell QP.out (k:=1) (v:=.slice a2 owners.length k2) rfl
 have d0:=row_cell QD.out (k:=0) (v:=.int .i64 d.dealer) rfl
 have d1:=row_cell QD.out (k:=1) (v:=.slice a3 d.cs.length k3) rfl
 have d2:=row_cell QD.out (k:=2) (v:=.slice a4 d.ps.length k4) rfl
 have c0:=row_cell QC.out (k:=0) (v:=.int .i64 cd) rfl
 have c1:=row_cell QC.out (k:=1) (v:=.int .i64 cr) rfl
 have c2:=row_cell QC.out (k:=2) (v:=.int .i64 cD) rfl
 have c3:=row_cell QC.out (k:=3) (v:=.int .i64 cE') rfl
 have c4:=row_cell QC.out (k:=4) (v:=.int .i64 cS) rfl
 have k0:=row_cell QK.out (k:=0) (v:=.int .i64 key) rfl
 go_enter Tryz.func64,Tryz.ntmps64
 go_wp2_with fail
 with_reducible refine ((check36_any _ _ _ _ rows owners d _ (HR.out _ HB.out) (HO.out _ HB.out) (HC.out _ HB.out) (HP.out _ HB.out))).mono ?_
 rintro e w2 ⟨rfl,hb2⟩
 replace p0:=below_cell hb2 p0
 replace p1:=below_cell hb2 p1
 replace d0:=below_cell hb2 d0
 replace d1:=below_cell hb2 d1
 replace d2:=below_cell hb2 d2
 replace c0:=below_cell hb2 c0
 replace c1:=below_cell hb2 c1
 replace c2:=below_cell hb2 c2
 replace c3:=below_cell hb2 c3
 replace c4:=below_cell hb2 c4
 replace k0:=below_cell hb2 k0
 replace QP:=Lib.hid ((hb2.block _ (row_lt QP.out)).trans QP.out)
 replace QD:=Lib.hid ((hb2.block _ (row_lt QD.out)).trans QD.out)
 replace QC:=Lib.hid ((hb2.block _ (row_lt QC.out)).trans QC.out)
 replace QG:=Lib.hid ((hb2.block _ (row_lt QG.out)).trans QG.out)
 replace QK:=Lib.hid ((hb2.block _ (row_lt QK.out)).trans QK.out)
 replace QE:=Lib.hid ((hb2.block _ (row_lt QE.out)).trans QE.out)
 replace HB:=Lib.hid (HB.out.trans (hb2.mono HB.out.size))
 clear hb2
 by_cases hc:cE rows owners d = 0
 rotate_left
 ·have HV:Hid (stE rows owners key d ⟨cd,cr,cD,cE',cS⟩ = cE rows owners d):=Lib.hid (by unfold stE; rw [if_pos hc])
  rw [raised36_not hc]
  have HNZ:=Lib.hid hc
  clear hc
  go_wp2_with fail
  exact ⟨rfl,st_stop HB.out HV.out HNZ.out QG.out QE.out⟩
 have HCM:=Lib.hid (cE_ok.1 hc)
 have HE:Hid (stE rows owners key d ⟨cd,cr,cD,cE',cS⟩ = if cd ≠ d.dealer ∨ cr < 0 ∨ (d.ps.length:Int) ≤ cr then 360 else
  if chkB key (parAt d cr).2.1 cD cE' cS = false then 0 else withE cD d.dealer (parAt d cr).1 (parAt d cr).2.1 (parAt d cr).2.2):=Lib.hid (by unfold stE; rw [if_neg (by simp [hc])])
 rw [hc,raised36_zero rfl]
 clear hc
 by_cases hm:cd ≠ d.dealer ∨ cr < 0 ∨ (d.ps.length:Int) ≤ cr
 ·have HV:=Lib.hid (HE.out.trans (if_pos hm))
  by_cases hcd:cd = d.dealer
  ·have e0:(cd == d.dealer) = true:=beq_iff_eq.2 hcd
   by_cases h0:0 ≤ cr
   ·have g0:decide (0 ≤ cr) = true:=decide_eq_true h0
    have g1:decide (cr < (d.ps.length:Int)) = false:=decide_eq_false (by omega)
    clear hm h0 hcd
    go_wp2_with fail
    with_reducible refine ((cmust_bad 360 _)).mono ?_
    rintro e w4 ⟨rfl,rfl⟩
    go_wp2_with fail
    exact ⟨rfl,st_stop HB.out HV.out (by decide) QG.out QE.out⟩
   ·have g0:decide (0 ≤ cr) = false:=decide_eq_false h0
    clear hm h0 hcd
    go_wp2_with fail
    with_reducible refine ((cmust_bad 360 _)).mono ?_
    rintro e w4 ⟨rfl,rfl⟩
    go_wp2_with fail
    exact ⟨rfl,st_stop HB.out HV.out (by decide) QG.out QE.out⟩
  ·have e0:(cd == d.dealer) = false:=beq_eq_false_iff_ne.2 hcd
   clear hm hcd
   go_wp2_with fail
   with_reducible refine ((cmust_bad 360 _)).mono ?_
   rintro e w4 ⟨rfl,rfl⟩
   go_wp2_with fail
   exact ⟨rfl,st_stop HB.out HV.out (by decide) QG.out QE.out⟩
 replace HE:=Lib.hid (HE.out.trans (if_neg hm))
 obtain rfl:cd = d.dealer:=by omega
 have HRW:Hid (0 ≤ cr ∧ cr < (d.ps.length:Int)):=Lib.hid (by omega)
 have g0:decide (0 ≤ cr) = true:=decide_eq_true HRW.out.1
 have g1:decide (cr < (d.ps.length:Int)) = true:=decide_eq_true HRW.out.2
 have e0:(d.dealer == d.dealer) = true:=beq_iff_eq.2 rfl
 clear hm
 obtain ⟨k,hk⟩:∃ k:Nat,cr = (k:Int):=⟨cr.toNat,by have:=HRW.out.1; omega⟩
 have hkl:k < d.ps.length:=by have:=HRW.out.2; omega
 have HAT:=Lib.hid (show parAt d cr = d.ps[k] by obtain ⟨h,e⟩:=parAt_mem HRW.out; rw [e]; congr 1; rw [hk]; rfl)
 obtain ⟨xb,xo,hx,y0,y1,y2,hpt⟩:=(HP.out _ HB.out).at hkl
 subst hx
 obtain ⟨x0,hx0⟩:∃ x,x = (parAt d cr).1:=⟨_,rfl⟩
 obtain ⟨x1,hx1⟩:∃ x,x = (parAt d cr).2.1:=⟨_,rfl⟩
 obtain ⟨x2,hx2⟩:∃ x,x = (parAt d cr).2.2:=⟨_,rfl⟩
 rw [← HAT.out,← hx0] at y0
 rw [← HAT.out,← hx1] at y1 hpt
 rw [← HAT.out,← hx2] at y2
 rw [← hx0,← hx1,← hx2] at HE
 have HX:Hid (x0 = (parAt d cr).1 ∧ x1 = (parAt d cr).2.1 ∧ x2 = (parAt d cr).2.2):=Lib.hid ⟨hx0,hx1,hx2⟩
 clear hx0 hx1 hx2 HAT
 subst hk
 have i0:0 ≤ (k:Int):=HRW.out.1
 have i1:(k:Int) < (d.ps.length:Int):=HRW.out.2
 go_wp2_with fail
 with_reducible refine ((cmust_ok 360 _)).mono ?_
 rintro e w4 ⟨rfl,rfl⟩
 clear g0 g1
 obtain ⟨W5,hW5,hb5,hr5,hs5⟩:=box36 w2 (.int .i64 x0) (.int .i64 x1) (.int .i64 x2) 49
 have HW5:=Lib.hid hW5
 have Q5:=Lib.hid hr5
 have QG5:=Lib.hid ((hb5.block _ (row_lt QG.out)).trans QG.out)
 have v0:=row_cell QG5.out (k:=0) (v:=.int .i64 0) rfl
 have f0:=row_free QG5.out 0
 have hGx:G ≠ w2.heap.size:=by have:=row_lt QG.out; omega
 have HGX:=Lib.hid hGx
 obtain ⟨W6,hW6⟩:∃ W6,W6 = W5.setCell ⟨G,0,none⟩ (.int .i64 2):=⟨_,rfl⟩
 have hsz:w2.heap.size ≤ W5.heap.size:=hb5.size
 have hb6:Below w0.heap.size w0 W6:=by rw [hW6]; exact (HB.out.trans (hb5.mono HB.out.size)).setCell HNE.out.1 _
 have hq:∀ k,k ≠ G → k < w2.heap.size → W6.heap[k]? = w2.heap[k]?:=fun k h1 h2 => by rw [hW6,Below.heap_setCell _ _ _ _ h1]; exact hb5.block k h2
 have QP6:=Lib.hid ((hq _ HNE.out.2.1 (row_lt QP.out)).trans QP.out)
 have QD6:=Lib.hid ((hq _ HNE.out.2.2.1 (row_lt QD.out)).trans QD.out)
 have QC6:=Lib.hid ((hq _ HNE.out.2.2.2.1 (row_lt QC.out)).trans QC.out)
 have QK6:=Lib.hid ((hq _ HNE.out.2.2.2.2.1 (row_lt QK.out)).trans QK.out)
 have QE6:=Lib.hid ((hq _ HNE.out.2.2.2.2.2 (row_lt QE.out)).trans QE.out)
 have Q6:=Lib.hid ((show W6.heap[w2.heap.size]? = W5.heap[w2.heap.size]? by rw [hW6,Below.heap_setCell _ _ _ _ hGx.symm]).trans Q5.out)
 have QG6:Hid (W6.heap[G]? = some (.cells #[.int .i64 2] 3 (0,0))):=Lib.hid (by rw [hW6]; exact row_set QG5.out 0 _)
 have HW6:=Lib.hid hW6
 have HB6:=Lib.hid hb6
 have c26:=row_cell QC6.out (k:=2) (v:=.int .i64 cD) rfl
 have c36:=row_cell QC6.out (k:=3) (v:=.int .i64 cE') rfl
 have c46:=row_cell QC6.out (k:=4) (v:=.int .i64 cS) rfl
 have k06:=row_cell QK6.out (k:=0) (v:=.int .i64 key) rfl
 have z1:=row_cell Q6.out (k:=1) (v:=.int .i64 x1) rfl
 clear hW5 hb5 hr5 hW6 hb6 hq
 go_wp2_with (first | rw [← HW5.out] | rw [← HW6.out])
 clear p0 p1 d0 d1 d2 c0 c1 c2 c3 c4 k0 y0 y1 y2 c26 c36 c46 k06 z1
 clear QP QD QC QG QK QE HB Q5 QG5 HW5 v0 f0
 have p0:=row_cell QP6.out (k:=0) (v:=.slice a1 rows.length k1) rfl
 have p1:=row_cell QP6.out (k:=1) (v:=.slice a2 owners.length k2) rfl
 have d0:=row_cell QD6.out (k:=0) (v:=.int .i64 d.dealer) rfl
 have d1:=row_cell QD6.out (k:=1) (v:=.slice a3 d.cs.length k3) rfl
 have c1:=row_cell QC6.out (k:=1) (v:=.int .i64 (k:Int)) rfl
 have c2:=row_cell QC6.out (k:=2) (v:=.int .i64 cD) rfl
 have z0:=row_cell Q6.out (k:=0) (v:=.int .i64 x0) rfl
 have z1:=row_cell Q6.out (k:=1) (v:=.int .i64 x1) rfl
 have z2:=row_cell Q6.out (k:=2) (v:=.int .i64 x2) rfl
 with_reducible refine ((check_any key x1 cD cE' cS _ HRC.out.1 hpt HRC.out.2.D HRC.out.2.E HRC.out.2.S (HG.out _ HB6.out))).mono ?_
 rintro e w7 ⟨rfl,hb7⟩
 replace p0:=below_cell hb7 p0
 replace p1:=below_cell hb7 p1
 replace d0:=below_cell hb7 d0
 replace d1:=below_cell hb7 d1
 replace c1:=below_cell hb7 c1
 replace c2:=below_cell hb7 c2
 replace z0:=below_cell hb7 z0
 replace z1:=below_cell hb7 z1
 replace z2:=below_cell hb7 z2
 replace QP6:=Lib.hid ((hb7.block _ (row_lt QP6.out)).trans QP6.out)
 replace QD6:=Lib.hid ((hb7.block _ (row_lt QD6.out)).trans QD6.out)
 replace QC6:=Lib.hid ((hb7.block _ (row_lt QC6.out)).trans QC6.out)
 replace QK6:=Lib.hid ((hb7.block _ (row_lt QK6.out)).trans QK6.out)
 replace QE6:=Lib.hid ((hb7.block _ (row_lt QE6.out)).trans QE6.out)
 replace QG6:=Lib.hid ((hb7.block _ (row_lt QG6.out)).trans QG6.out)
 replace HB6:=Lib.hid (HB6.out.trans (hb7.mono HB6.out.size))
 clear hb7
 cases hch:chkB key x1 cD cE' cS with
 | false =>
  have HV:=Lib.hid (HE.out.trans (if_pos hch))
  have HSG:Hid (stG rows owners key d ⟨d.dealer,(k:Int),cD,cE',cS⟩ = 2):=Lib.hid (by
   unfold stG; rw [if_neg (by simp [HV.out]),if_pos (by rw [← HX.out.2.1]; exact hch)])
  clear hch
  go_wp2_with fail
  go_end0
  exact st_end HB6.out HV.out HSG.out QG6.out QE6.out
 | true =>
 replace HE:=Lib.hid (HE.out.trans (if_neg (by rw [hch]; decide)))
 have HGG:Hid (withE cD d.dealer x0 x1 x2 = 0 → stG rows owners key d ⟨d.dealer,(k:Int),cD,cE',cS⟩ = if fitV rows d (k:Int) (opnV cD d.dealer x0 x2) = true then 2 else 1):=Lib.hid (by
  intro h
  unfold stG; rw [if_neg (by simp [HE.out,h]),if_neg (by rw [← HX.out.2.1,hch]; decide),← HX.out.1,← HX.out.2.2])
 clear hch
 by_cases ho:withE cD d.dealer x0 x1 x2 = 0
 rotate_left
 ·have HV:=Lib.hid HE.out
  have HNZ:=Lib.hid ho
  go_wp2_with fail
  with_reducible refine ((with_no cD d.dealer x0 x1 x2 _ HRC.out.2.D hpt ho)).mono ?_
  rintro e w8 ⟨rfl,hb8⟩
  replace p0:=below_cell hb8 p0
  replace p1:=below_cell hb8 p1
  replace d0:=below_cell hb8 d0
  replace d1:=below_cell hb8 d1
  replace c1:=below_cell hb8 c1
  replace c2:=below_cell hb8 c2
  replace z0:=below_cell hb8 z0
  replace z1:=below_cell hb8 z1
  replace z2:=below_cell hb8 z2
  replace QP6:=Lib.hid ((hb8.block _ (row_lt QP6.out)).trans QP6.out)
  replace QD6:=Lib.hid ((hb8.block _ (row_lt QD6.out)).trans QD6.out)
  replace QC6:=Lib.hid ((hb8.block _ (row_lt QC6.out)).trans QC6.out)
  replace QK6:=Lib.hid ((hb8.block _ (row_lt QK6.out)).trans QK6.out)
  replace QE6:=Lib.hid ((hb8.block _ (row_lt QE6.out)).trans QE6.out)
  replace QG6:=Lib.hid ((hb8.block _ (row_lt QG6.out)).trans QG6.out)
  replace HB6:=Lib.hid (HB6.out.trans (hb8.mono HB6.out.size))
  clear hb8
  clear ho
  generalize withE cD d.dealer x0 x1 x2 = q at *
  go_wp2_with fail
  with_reducible refine ((get_bad 0 q _ HNZ.out)).mono ?_
  rintro e w9 ⟨rfl,rfl⟩
  go_wp2_with fail
  exact ⟨rfl,st_stop HB6.out HV.out HNZ.out QG6.out QE6.out⟩
 have HO2:=Lib.hid (withE_ok.1 ho)
 replace HE:=Lib.hid (HE.out.trans ho)
 replace HGG:=Lib.hid (HGG.out ho)
 clear ho
 go_wp2_with fail
 with_reducible refine ((with_yes cD d.dealer x0 x1 x2 _ HO2.out.1 HO2.out.2.1 HO2.out.2.2 (HG.out _ HB6.out))).mono ?_
 rintro e w8 ⟨rfl,hb8⟩
 replace p0:=below_cell hb8 p0
 replace p1:=below_cell hb8 p1
 replace d0:=below_cell hb8 d0
 replace d1:=below_cell hb8 d1
 replace c1:=below_cell hb8 c1
 replace c2:=below_cell hb8 c2
 replace z0:=below_cell hb8 z0
 replace z1:=below_cell hb8 z1
 replace z2:=below_cell hb8 z2
 replace QP6:=Lib.hid ((hb8.block _ (row_lt QP6.out)).trans QP6.out)
 replace QD6:=Lib.hid ((hb8.block _ (row_lt QD6.out)).trans QD6.out)
 replace QC6:=Lib.hid ((hb8.block _ (row_lt QC6.out)).trans QC6.out)
 replace QK6:=Lib.hid ((hb8.block _ (row_lt QK6.out)).trans QK6.out)
 replace QE6:=Lib.hid ((hb8.block _ (row_lt QE6.out)).trans QE6.out)
 replace QG6:=Lib.hid ((hb8.block _ (row_lt QG6.out)).trans QG6.out)
 replace HB6:=Lib.hid (HB6.out.trans (hb8.mono HB6.out.size))
 clear hb8
 have HVN:=Lib.hid (opnV_num cD d.dealer x0 x2)
 generalize opnV cD d.dealer x0 x2 = v at *
 go_wp2_with fail
 with_reducible refine ((get_ok v _)).mono ?_
 rintro e w9 ⟨rfl,rfl⟩
 have HFT:=Lib.hid (fun W h1 h2 h3 => fits_any (.slice a1 rows.length k1) (.slice a2 owners.length k2) (.slice a3 d.cs.length k3) rows owners d.cs (k:Int) v W h1 h2 h3 HRC.out.2.row (num_r64 HVN.out))
 rw [fitE_com HCM.out HRW.out HVN.out,fitB_com HCM.out HRW.out HVN.out] at HFT
 cases hf:fitV rows d (k:Int) v with
 | true =>
  rw [hf] at HFT
  have HSG:=Lib.hid (HGG.out.trans (if_pos hf))
  clear hf
  go_wp2_with fail
  with_reducible refine ((HFT.out _ (HR.out _ HB6.out) (HO.out _ HB6.out) (HC.out _ HB6.out))).mono ?_
  rintro e w10 ⟨rfl,hb10⟩
  replace p0:=below_cell hb10 p0
  replace p1:=below_cell hb10 p1
  replace d0:=below_cell hb10 d0
  replace d1:=below_cell hb10 d1
  replace c1:=below_cell hb10 c1
  replace c2:=below_cell hb10 c2
  replace z0:=below_cell hb10 z0
  replace z1:=below_cell hb10 z1
  replace z2:=below_cell hb10 z2
  replace QP6:=Lib.hid ((hb10.block _ (row_lt QP6.out)).trans QP6.out)
  replace QD6:=Lib.hid ((hb10.block _ (row_lt QD6.out)).trans QD6.out)
  replace QC6:=Lib.hid ((hb10.block _ (row_lt QC6.out)).trans QC6.out)
  replace QK6:=Lib.hid ((hb10.block _ (row_lt QK6.out)).trans QK6.out)
  replace QE6:=Lib.hid ((hb10.block _ (row_lt QE6.out)).trans QE6.out)
  replace QG6:=Lib.hid ((hb10.block _ (row_lt QG6.out)).trans QG6.out)
  replace HB6:=Lib.hid (HB6.out.trans (hb10.mono HB6.out.size))
  clear hb10
  go_wp2_with fail
  with_reducible refine ((getb_ok true _)).mono ?_
  rintro e w11 ⟨rfl,rfl⟩
  go_wp2_with fail
  go_end0
  exact st_end HB6.out HE.out HSG.out QG6.out QE6.out
 | false =>
  rw [hf] at HFT
  have HSG:=Lib.hid (HGG.out.trans (if_neg (by rw [hf]; decide)))
  clear hf
  go_wp2_with fail
  with_reducible refine ((HFT.out _ (HR.out _ HB6.out) (HO.out _ HB6.out) (HC.out _ HB6.out))).mono ?_
  rintro e w10 ⟨rfl,hb10⟩
  replace p0:=below_cell hb10 p0
  replace p1:=below_cell hb10 p1
  replace d0:=below_cell hb10 d0
  replace d1:=below_cell hb10 d1
  replace c1:=below_cell hb10 c1
  replace c2:=below_cell hb10 c2
  replace z0:=below_cell hb10 z0
  replace z1:=below_cell hb10 z1
  replace z2:=below_cell hb10 z2
  replace QP6:=Lib.hid ((hb10.block _ (row_lt QP6.out)).trans QP6.out)
  replace QD6:=Lib.hid ((hb10.block _ (row_lt QD6.out)).trans QD6.out)
  replace QC6:=Lib.hid ((hb10.block _ (row_lt QC6.out)).trans QC6.out)
  replace QK6:=Lib.hid ((hb10.block _ (row_lt QK6.out)).trans QK6.out)
  replace QE6:=Lib.hid ((hb10.block _ (row_lt QE6.out)).trans QE6.out)
  replace QG6:=Lib.hid ((hb10.block _ (row_lt QG6.out)).trans QG6.out)
  replace HB6:=Lib.hid (HB6.out.trans (hb10.mono HB6.out.size))
  clear hb10
  go_wp2_with fail
  with_reducible refine ((getb_ok false _)).mono ?_
  rintro e w11 ⟨rfl,rfl⟩
  have v0:=row_cell QG6.out (k:=0) (v:=.int .i64 2) rfl
  have f0:=row_free QG6.out 0
  go_wp2_with fail
  go_end0
  refine st_end (HB6.out.setCell HNE.out.1 _) HE.out HSG.out (row_set QG6.out 0 _) ?_
  rw [Below.heap_setCell _ _ _ _ HNE.out.2.2.2.2.2]; exact QE6.out
end Go.Proofs.YtggnipkfliompaaGreatDoor
namespace Go.Proofs.YtggnipkfliompaaGreatDoor
open Go.RowKit FP
end Go.Proofs.YtggnipkfliompaaGreatDoor
namespace Go.Proofs.YtggnipkfliompaaGreatDoor
open Go.RowKit FP
theorem cSettle_any (rv ov cv pv:Value) (rows:List (List Int)) (owners:List Int) (d:Dlg) (c:Cmp) (key:Int) (w:World) (hG:Glob w) (hR:Rows2 w rv rows) (hO:Ints w ov owners) (hC:Ints w cv d.cs) (hP:Parcels w pv d.ps) (hkey:R64 key) (hc:CmpR c) :
  Calls Tryz.prog 17 #[.agg #[rv,ov],.int .i64 key,.agg #[.int .i64 d.dealer,cv,pv],cmpV c] w fun r w' =>
   r = .returned (.tuple #[.int .i64 (stG rows owners key d c),.int .i64 (stE rows owners key d c)]) ∧ Below w.heap.size w w':=by
 obtain ⟨W0,hW0⟩:∃ W,W = w.alloc (.cells #[rv,ov] 25):=⟨_,rfl⟩
 have hs0:W0.heap.size = w.heap.size + 1:=by rw [hW0]; simp
 have hb0:Below w.heap.size w W0:=by rw [hW0]; exact (Below.refl _ _).alloc (Nat.le_refl _) _
 have hr0:=World.alloc_heap_new w (.cells #[rv,ov] 25)
 rw [← hW0] at hr0
 obtain ⟨W1,hW1⟩:∃ W,W = W0.alloc (.cells #[.int .i64 key] 3):=⟨_,rfl⟩
 have hs1:W1.heap.size = W0.heap.size + 1:=by rw [hW1]; simp
 have hb1:Below W0.heap.size W0 W1:=by rw [hW1]; exact (Below.refl _ _).alloc (Nat.le_refl _) _
 have hr1:=World.alloc_heap_new W0 (.cells #[.int .i64 key] 3)
 rw [← hW1] at hr1
 obtain ⟨W2,hW2⟩:∃ W,W = W1.alloc (.cells #[.int .i64 d.dealer,cv,pv] 28):=⟨_,rfl⟩
 have hs2:W2.heap.size = W1.heap.size + 1:=by rw [hW2]; simp
 have hb2:Below W1.heap.size W1 W2:=by rw [hW2]; exact (Below.refl _ _).alloc (Nat.le_refl _) _
 have hr2:=World.alloc_heap_new W1 (.cells #[.int .i64 d.dealer,cv,pv] 28)
 rw [← hW2] at hr2
 obtain ⟨W3,hW3⟩:∃ W,W = W2.alloc (.cells (cmpA c) 34):=⟨_,rfl⟩
 have hs3:W3.heap.size = W2.heap.size + 1:=by rw [hW3]; simp
 have hb3:Below W2.heap.size W2 W3:=by rw [hW3]; exact (Below.refl _ _).alloc (Nat.le_refl _) _
 have hr3:=World.alloc_heap_new W2 (.cells (cmpA c) 34)
 rw [← hW3] at hr3
 obtain ⟨W4,hW4⟩:∃ W,W = W3.alloc (.cells #[.int .i64 0] 3):=⟨_,rfl⟩
 have hs4:W4.heap.size = W3.heap.size + 1:=by rw [hW4]; simp
 have hb4:Below W3.heap.size W3 W4:=by rw [hW4]; exact (Below.refl _ _).alloc (Nat.le_refl _) _
 have hr4:=World.alloc_heap_new W3 (.cells #[.int .i64 0] 3)
 rw [← hW4] at hr4
 have t0:Below w.heap.size w W0:=hb0
 have t1:Below w.heap.size w W1:=t0.trans (hb1.mono t0.size)
 have t2:Below w.heap.size w W2:=t1.trans (hb2.mono t1.size)
 have t3:Below w.heap.size w W3:=t2.trans (hb3.mono t2.size)
 have t4:Below w.heap.size w W4:=t3.trans (hb4.mono t3.size)
 have Q0:=Lib.hid ((hb4.block _ (row_lt ((hb3.block _ (row_lt ((hb2.block _ (row_lt ((hb1.block _ (row_lt hr0)).trans hr0))).trans ((hb1.block _ (row_lt hr0)).trans hr0)))).trans ((hb2.block _ (row_lt ((hb1.block _ (row_lt hr0)).trans hr0))).trans ((hb1.block _ (row_lt hr0)).trans hr0))))).trans ((hb3.block _ (row_lt ((hb2.block _ (row_lt ((hb1.block _ (row_lt hr0)).trans hr0))).trans ((hb1.block _ (row_lt hr0)).trans hr0)))).trans ((hb2.block _ (row_lt ((hb1.block _ (row_lt hr0)).trans hr0))).trans ((hb1.block _ (row_lt hr0)).trans hr0))))
 have Q1:=Lib.hid ((hb4.block _ (row_lt ((hb3.block _ (row_lt ((hb2.block _ (row_lt hr1)).trans hr1))).trans ((hb2.block _ (row_lt hr1)).trans hr1)))).trans ((hb3.block _ (row_lt ((hb2.block _ (row_lt hr1)).trans hr1))).trans ((hb2.block _ (row_lt hr1)).trans hr1)))
 have Q2:=Lib.hid ((hb4.block _ (row_lt ((hb3.block _ (row_lt hr2)).trans hr2))).trans ((hb3.block _ (row_lt hr2)).trans hr2))
 have Q3:=Lib.hid ((hb4.block _ (row_lt hr3)).trans hr3)
 have Q4:=Lib.hid hr4
 rw [hs0] at Q1
 rw [hs1,hs0] at Q2
 rw [hs2,hs1,hs0] at Q3
 rw [hs3,hs2,hs1,hs0] at Q4
 have HSZ:W4.heap.size = w.heap.size + 1 + 1 + 1 + 1 + 1:=by rw [hs4,hs3,hs2,hs1,hs0]
 have HB:=Lib.hid t4
 rw [hW3,hW2,hW1,hW0] at hW4
 have HWB:=Lib.hid hW4
 clear hW0 hb0 hr0 hs0 t0 hW1 hb1 hr1 hs1 t1 hW2 hb2 hr2 hs2 t2 hW3 hb3 hr3 hs3 t3 hW4 hb4 hr4 hs4 t4
 have hmf:∀ (fn:Fn) (first cap:Array Value) (w:World),(Instr.makeFunc fn first cap).run Tryz.prog w = .ok (.func fn first cap) w:=fun _ _ _ _ => rfl
 have HT:=Lib.hid (attempt_any 64 #[.pointer (some ⟨w.heap.size,0,none⟩),.pointer (some ⟨w.heap.size + 1 + 1,0,none⟩),.pointer (some ⟨w.heap.size + 1 + 1 + 1,0,none⟩),.pointer (some ⟨w.heap.size + 1 + 1 + 1 + 1,0,none⟩),.pointer (some ⟨w.heap.size + 1,0,none⟩)] W4 (StR w (w.heap.size + 1 + 1 + 1 + 1) rows owners key d c) goes_settle1 (by
  have hbe:=below_new W4 #[.int .i64 0] 35
  have hb:=HB.out.trans (hbe.mono HB.out.size)
  refine settle1_any w _ _ _ _ _ W4.heap.size rv ov cv pv rows owners d c key _ hb hG hR hO hC hP
   ((hbe.block _ (row_lt Q0.out)).trans Q0.out) ((hbe.block _ (row_lt Q2.out)).trans Q2.out) ((hbe.block _ (row_lt Q3.out)).trans Q3.out) ((hbe.block _ (row_lt Q4.out)).trans Q4.out) ((hbe.block _ (row_lt Q1.out)).trans Q1.out) (World.alloc_heap_new _ _)
   (by omega) (by omega) (by omega) (by omega) (by omega) (by omega) hkey hc))
 obtain ⟨a1,k1,rfl,-⟩:=id hR
 obtain ⟨a2,k2,rfl,-⟩:=id hO
 obtain ⟨a3,k3,rfl,-⟩:=id hC
 obtain ⟨a4,k4,rfl,-⟩:=id hP
 have HSG:Hid (stE rows owners key d c ≠ 0 → stG rows owners key d c = 0):=Lib.hid (fun h => by unfold stG; rw [if_pos h])
 clear hG hR hO hC hP hkey hc
 obtain ⟨c1,c2,c3,c4,c5⟩:=c
 unfold cmpV cmpA at *
 go_enter Tryz.func17,Tryz.ntmps17
 go_wp2_with (rw [← HWB.out])
 refine HT.out.mono ?_
 rintro r w2 ⟨e,w1,rfl,⟨h1,h2,g,h3,h4⟩,hlt,hbb,hbl⟩
 have QG:=Lib.hid ((hbl _ (by omega) (row_lt h3)).trans h3)
 have HB2:=Lib.hid (hbb _ _ HB.out.size h2)
 clear h2 h3 hbb hbl HT
 have t0:=row_cell QG.out (k:=0) (v:=.int .i64 g) rfl
 have f0:=row_free QG.out 0
 by_cases he:e = 0
 ·subst he
  have HV:=Lib.hid (And.intro h1.symm (h4 rfl))
  clear h1 h4
  have q:=row_set QG.out 0 (.int .i64 g)
  have hbf:=HB2.out.setCell (p:=⟨w.heap.size + 1 + 1 + 1 + 1,0,none⟩) (by show w.heap.size ≤ w.heap.size + 1 + 1 + 1 + 1; omega) (.int .i64 g)
  generalize hX:w2.setCell ⟨w.heap.size + 1 + 1 + 1 + 1,0,none⟩ (.int .i64 g) = X at *
  have x0:=row_cell q (k:=0) (v:=.int .i64 g) rfl
  go_wp2_with (rw [hX])
  refine bodyPost_ret (v:=.tuple #[.int .i64 g,.int .i64 0]) (by simp [results,Tryz.results17,go_sem,x0]) rfl ⟨by rw [HV.out.1,HV.out.2],hbf⟩
 ·have d0:(e != 0) = true:=bne_iff_ne.2 he
  have HV:=Lib.hid (And.intro h1.symm (HSG.out (by rw [← h1]; exact he)))
  clear h1 h4
  have q:=row_set QG.out 0 (.int .i64 0)
  have hbf:=HB2.out.setCell (p:=⟨w.heap.size + 1 + 1 + 1 + 1,0,none⟩) (by show w.heap.size ≤ w.heap.size + 1 + 1 + 1 + 1; omega) (.int .i64 0)
  generalize hX:w2.setCell ⟨w.heap.size + 1 + 1 + 1 + 1,0,none⟩ (.int .i64 0) = X at *
  have x0:=row_cell q (k:=0) (v:=.int .i64 0) rfl
  go_wp2_with (rw [hX])
  refine bodyPost_ret (v:=.tuple #[.int .i64 0,.int .i64 e]) (by simp [results,Tryz.results17,go_sem,x0]) rfl ⟨by rw [HV.out.1,HV.out.2],hbf⟩
end Go.Proofs.YtggnipkfliompaaGreatDoor
namespace Go.Proofs.YtggnipkfliompaaGreatDoor
open Go.RowKit FP
theorem own_sl {W:World} {base size n:Nat} {e:TypeId} {v:Value} {xs:List Value} (h:W.ownsRow base e size v n xs):∃ a k c,v = .slice a k c:=by
 rcases h.2 with ⟨rfl,-⟩ | ⟨g,cap,cur,rfl,-⟩
 ·exact ⟨_,_,_,rfl⟩
 ·exact ⟨_,_,_,rfl⟩
theorem ints_at {w:World} {a:Option Addr} {n c:Nat} {l:List Int} (h:Ints w (.slice a n c) l) {k:Nat} (hk:k < l.length):∃ b off,a = some ⟨b,off,none⟩ ∧ w.cell? ⟨b,off + k,none⟩ = some (.int .i64 l[k]):=by
 obtain ⟨a',cap,h1,-,-,-,h5⟩:=h
 cases h1
 exact h5 k hk
theorem Parcels.set {w:World} {B o n c:Nat} {a:Option Addr} {l:List Pcl} (h:Parcels w (.slice a n c) l) (hb:∀ b o2,a = some ⟨b,o2,none⟩ → b ≠ B) (v:Value):Parcels (w.setCell ⟨B,o,none⟩ v) (.slice a n c) l:=by
 obtain ⟨a',cap,h1,h2,h3,h4,h5⟩:=h
 refine ⟨a',cap,h1,h2,h3,h4,fun k hk => ?_⟩
 obtain ⟨b',off,e,hc,hd,he⟩:=h5 k hk
 cases h1
 have hne:=hb _ _ e
 exact ⟨b',off,e,(cell_other (.inl hne.symm)).trans hc,(cell_other (.inl hne.symm)).trans hd,(cell_other (.inl hne.symm)).trans he⟩
def c36 (k:Nat):Int:=if k = 0 then 5 else 7
end Go.Proofs.YtggnipkfliompaaGreatDoor
namespace Go.Proofs.YtggnipkfliompaaGreatDoor
open Go.RowKit FP
theorem own_set36 {W:World} {base g cap n size:Nat} {e:TypeId} {xs:List Value} (h:W.ownsRow base e size (.slice (some ⟨g,0,none⟩) n cap) n xs) (k:Nat) (z:Value) :
  W.frozen? ⟨g,k,none⟩ = false ∧ base ≤ g ∧ (W.setCell ⟨g,k,none⟩ z).ownsRow base e size (.slice (some ⟨g,0,none⟩) n cap) n (xs.set k z):=by
 obtain ⟨h0,h⟩:=h
 rcases h with ⟨h,-⟩ | ⟨g',cap',cur,e1,hb,hg,hnc,hm,hcs,hcur⟩
 ·cases h
 ·simp only [Value.slice.injEq,Option.some.injEq,Addr.mk.injEq] at e1
  obtain ⟨⟨rfl,-,-⟩,-,rfl⟩:=e1
  refine ⟨row_free hg k,hb,by rw [List.length_set]; exact h0,.inr ⟨g,cap,_,rfl,hb,row_set hg k z,hnc,hm,by rw [Array.size_setIfInBounds]; exact hcs,?_⟩⟩
  rw [Array.toList_setIfInBounds,List.take_set,hcur]
end Go.Proofs.YtggnipkfliompaaGreatDoor
namespace Go.Proofs.YtggnipkfliompaaGreatDoor
open Go.RowKit
section
variable {P:Program} {d:Option Tmp} {t:TypeId} {p:String} {af:Array Edge} {g:Option (Nat × Bool)}
end
end Go.Proofs.YtggnipkfliompaaGreatDoor
namespace Go.Proofs.YtggnipkfliompaaGreatDoor
open Go.RowKit
section
variable {P:Program} {ops:Array Oper} {Q:Exit → Act → World → Prop} {md:Region.Mode} {S:World → Prop} {T:List Nat}
def waits (md:Region.Mode) (ops:Array Oper) (U:List Nat) (i:Nat):Bool:=U.all fun u => match ops[u]? with
 | some o => o.after.any fun e => Region.binds md e && (e.on == i || U.contains e.on)
 | none => false
end
end Go.Proofs.YtggnipkfliompaaGreatDoor
