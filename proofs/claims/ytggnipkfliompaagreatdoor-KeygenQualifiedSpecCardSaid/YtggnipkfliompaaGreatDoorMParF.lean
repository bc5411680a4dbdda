/- Package parcels: With, Open. Package complaints: what Make tries. The laws of complaints, in plain Lean: what Make and Settle answer about a sealed dealing. The laws of dealing: the sum of two lists, in plain Lean. What LinearSums and LinearChanged say, without a program: combinations of sums; rows that are changed. The laws of dealing: what is recovered from shares that were dealt; sums of dealings, in plain Lean. Products of commitments and sums of what is dealt, in plain Lean. Package keygen, in plain Lean: keys, right dealings; what Deal, Qualified and Own compute. -/
import Derived.Test.YtggnipkfliompaaGreatDoorMParC
import Derived.Test.YtggnipkfliompaaGreatDoorMParB
import Derived.Test.YtggnipkfliompaaGreatDoorMEqB
import Derived.Test.YtggnipkfliompaaGreatDoorMLinU
set_option maxHeartbeats 2000000
set_option maxRecDepth 100000
namespace Go.Proofs.YtggnipkfliompaaGreatDoor
open Go.RowKit FP
theorem with_no (d dealer row pt c:Int) (w:World) (hd:R64 d) (hp:R64 pt) (h:withE d dealer row pt c ≠ 0) :
  Calls Tryz.prog 65 #[.int .i64 d,.int .i64 dealer,.agg #[.int .i64 row,.int .i64 pt,.int .i64 c]] w fun r w' => r = .returned (.tuple #[.int .i64 0,.int .i64 (withE d dealer row pt c)]) ∧ Below w.heap.size w w':=by
 obtain ⟨W1,hW1,hb1,hr1,hz⟩:=cells3 w row pt c 49
 have HW1:=Lib.hid hW1
 have HB1:=Lib.hid hb1
 have x0:W1.cell? ⟨w.heap.size,0,none⟩ = some (.int .i64 row):=row_cell hr1 rfl
 have x1:W1.cell? ⟨w.heap.size,1,none⟩ = some (.int .i64 pt):=row_cell hr1 rfl
 have x2:W1.cell? ⟨w.heap.size,2,none⟩ = some (.int .i64 c):=row_cell hr1 rfl
 obtain ⟨E,hE⟩:∃ E,E = withE d dealer row pt c:=⟨_,rfl⟩
 rw [← hE] at h ⊢
 have HE:Hid (firstE [(elB d,100),(inB dealer 0 63,1),(rightB row pt c,350)] = E):=Lib.hid hE.symm
 have h2:(E != 0) = true:=bne_iff_ne.2 h
 clear hW1 hE hr1 hb1 hz
 go_enter Tryz.func65,Tryz.ntmps65
 go_wp2_with fail
 rw [← HW1.out]
 go_region_held3 (fun w' => w'.cell? ⟨w.heap.size,0,none⟩ = some (.int .i64 row) ∧ w'.cell? ⟨w.heap.size,1,none⟩ = some (.int .i64 pt) ∧ w'.cell? ⟨w.heap.size,2,none⟩ = some (.int .i64 c)) (go_keep)
  (first
   | (go_at_call 140; (with_reducible refine (element_any d 100 _ hd).mono ?_); rintro r w2 ⟨f1,cap1,rfl,hF1,hb2⟩; have s10:w2.cell? ⟨w.heap.size,0,none⟩ = some (.int .i64 row):=below_cell hb2 (by assumption); have s11:w2.cell? ⟨w.heap.size,1,none⟩ = some (.int .i64 pt):=below_cell hb2 (by assumption); have s12:w2.cell? ⟨w.heap.size,2,none⟩ = some (.int .i64 c):=below_cell hb2 (by assumption); have HF1:=Lib.hid hF1; clear hF1)
   | (go_at_call 130; (with_reducible refine (person_any dealer _).mono ?_); rintro r w3 ⟨f2,cap2,rfl,hF2,hb3⟩; have s20:w3.cell? ⟨w.heap.size,0,none⟩ = some (.int .i64 row):=below_cell hb3 (by assumption); have s21:w3.cell? ⟨w.heap.size,1,none⟩ = some (.int .i64 pt):=below_cell hb3 (by assumption); have s22:w3.cell? ⟨w.heap.size,2,none⟩ = some (.int .i64 c):=below_cell hb3 (by assumption); have HF2:=Lib.hid hF2; clear hF2)
   | (go_at_call 131; (with_reducible refine (right_any row pt c _ hp).mono ?_); rintro r w4 ⟨f3,cap3,rfl,hF3,hb4⟩; have s30:w4.cell? ⟨w.heap.size,0,none⟩ = some (.int .i64 row):=below_cell hb4 (by assumption); have s31:w4.cell? ⟨w.heap.size,1,none⟩ = some (.int .i64 pt):=below_cell hb4 (by assumption); have s32:w4.cell? ⟨w.heap.size,2,none⟩ = some (.int .i64 c):=below_cell hb4 (by assumption); have HF3:=Lib.hid hF3; clear hF3)
   | (go_at_call 128; (refine (pcheck_any _ _ _ (conds3 _ _ _ rfl 100 1 350 (HF1.out.keep (Keep.below (hb3.trans (hb4.mono hb3.size)))) (HF2.out.keep (Keep.below hb4)) HF3.out)).mono ?_); rintro r w5 ⟨rfl,hb5⟩; have s40:w5.cell? ⟨w.heap.size,0,none⟩ = some (.int .i64 row):=below_cell hb5 (below_cell (below_new _ _ _) s30); have s41:w5.cell? ⟨w.heap.size,1,none⟩ = some (.int .i64 pt):=below_cell hb5 (below_cell (below_new _ _ _) s31); have s42:w5.cell? ⟨w.heap.size,2,none⟩ = some (.int .i64 c):=below_cell hb5 (below_cell (below_new _ _ _) s32)))
 rw [HE.out]
 have h1:Below W1.heap.size W1 w2:=(Below.refl _ _).drew.trans hb2
 have h3:=h1.trans (hb3.mono h1.size)
 have h4:=h3.trans (hb4.mono h3.size)
 have h5:=h4.alloc h4.size (.cells #[.func (.func f1) #[] cap1,.int .i64 100,.func (.func f2) #[] cap2,.int .i64 1,.func (.func f3) #[] cap3,.int .i64 350] 153)
 have HB:=Lib.hid (HB1.out.trans ((h5.trans (hb5.mono h5.size)).mono HB1.out.size))
 clear h1 h3 h4 h5 hb2 hb3 hb4 hb5
 go_wp2_with fail
 go_ret2
 exact ⟨rfl,HB.out⟩
theorem with_yes (d dealer row pt c:Int) (w:World) (hd:El d) (hl:0 ≤ dealer ∧ dealer ≤ 63) (hR:RightP row pt c) (hG:Glob w) :
  Calls Tryz.prog 65 #[.int .i64 d,.int .i64 dealer,.agg #[.int .i64 row,.int .i64 pt,.int .i64 c]] w fun r w' => r = .returned (.tuple #[.int .i64 (opnV d dealer row c),.int .i64 0]) ∧ Below w.heap.size w w':=by
 obtain ⟨W1,hW1,hb1,hr1,hz⟩:=cells3 w row pt c 49
 have HW1:=Lib.hid hW1
 have HB1:=Lib.hid hb1
 have x0:W1.cell? ⟨w.heap.size,0,none⟩ = some (.int .i64 row):=row_cell hr1 rfl
 have x1:W1.cell? ⟨w.heap.size,1,none⟩ = some (.int .i64 pt):=row_cell hr1 rfl
 have x2:W1.cell? ⟨w.heap.size,2,none⟩ = some (.int .i64 c):=row_cell hr1 rfl
 have HE:Hid (firstE [(elB d,100),(inB dealer 0 63,1),(rightB row pt c,350)] = 0):=Lib.hid (withE_ok.2 ⟨hd,hl,hR⟩)
 obtain ⟨⟨r1,r2⟩,hpt,hc⟩:=hR
 have hp:=hpt.r64
 have hd64:=hd.r64
 have hl64:R64 dealer:=⟨by omega,by omega⟩
 have hr64:R64 row:=⟨by omega,by omega⟩
 clear hW1 hr1 hb1 hz r1 r2 hpt hl
 go_enter Tryz.func65,Tryz.ntmps65
 go_wp2_with fail
 rw [← HW1.out]
 go_region_held3 (fun w' => w'.cell? ⟨w.heap.size,0,none⟩ = some (.int .i64 row) ∧ w'.cell? ⟨w.heap.size,1,none⟩ = some (.int .i64 pt) ∧ w'.cell? ⟨w.heap.size,2,none⟩ = some (.int .i64 c)) (go_keep)
  (first
   | (go_at_call 140; (with_reducible refine (element_any d 100 _ hd64).mono ?_); rintro r w2 ⟨f1,cap1,rfl,hF1,hb2⟩; have s10:w2.cell? ⟨w.heap.size,0,none⟩ = some (.int .i64 row):=below_cell hb2 (by assumption); have s11:w2.cell? ⟨w.heap.size,1,none⟩ = some (.int .i64 pt):=below_cell hb2 (by assumption); have s12:w2.cell? ⟨w.heap.size,2,none⟩ = some (.int .i64 c):=below_cell hb2 (by assumption); have HF1:=Lib.hid hF1; clear hF1)
   | (go_at_call 130; (with_reducible refine (person_any dealer _).mono ?_); rintro r w3 ⟨f2,cap2,rfl,hF2,hb3⟩; have s20:w3.cell? ⟨w.heap.size,0,none⟩ = some (.int .i64 row):=below_cell hb3 (by assumption); have s21:w3.cell? ⟨w.heap.size,1,none⟩ = some (.int .i64 pt):=below_cell hb3 (by assumption); have s22:w3.cell? ⟨w.heap.size,2,none⟩ = some (.int .i64 c):=below_cell hb3 (by assumption); have HF2:=Lib.hid hF2; clear hF2)
   | (go_at_call 131; (with_reducible refine (right_any row pt c _ hp).mono ?_); rintro r w4 ⟨f3,cap3,rfl,hF3,hb4⟩; have s30:w4.cell? ⟨w.heap.size,0,none⟩ = some (.int .i64 row):=below_cell hb4 (by assumption); have s31:w4.cell? ⟨w.heap.size,1,none⟩ = some (.int .i64 pt):=below_cell hb4 (by assumption); have s32:w4.cell? ⟨w.heap.size,2,none⟩ = some (.int .i64 c):=below_cell hb4 (by assumption); have HF3:=Lib.hid hF3; clear hF3)
   | (go_at_call 128; (refine (pcheck_any _ _ _ (conds3 _ _ _ rfl 100 1 350 (HF1.out.keep (Keep.below (hb3.trans (hb4.mono hb3.size)))) (HF2.out.keep (Keep.below hb4)) HF3.out)).mono ?_); rintro r w5 ⟨rfl,hb5⟩; have s40:w5.cell? ⟨w.heap.size,0,none⟩ = some (.int .i64 row):=below_cell hb5 (below_cell (below_new _ _ _) s30); have s41:w5.cell? ⟨w.heap.size,1,none⟩ = some (.int .i64 pt):=below_cell hb5 (below_cell (below_new _ _ _) s31); have s42:w5.cell? ⟨w.heap.size,2,none⟩ = some (.int .i64 c):=below_cell hb5 (below_cell (below_new _ _ _) s32)))
 rw [HE.out]
 have h1:Below W1.heap.size W1 w2:=(Below.refl _ _).drew.trans hb2
 have h3:=h1.trans (hb3.mono h1.size)
 have h4:=h3.trans (hb4.mono h3.size)
 have h5:=h4.alloc h4.size (.cells #[.func (.func f1) #[] cap1,.int .i64 100,.func (.func f2) #[] cap2,.int .i64 1,.func (.func f3) #[] cap3,.int .i64 350] 153)
 have HB:=Lib.hid (HB1.out.trans ((h5.trans (hb5.mono h5.size)).mono HB1.out.size))
 have HG5:=Lib.hid (hG.below HB.out)
 clear h1 h3 h4 h5 hb2 hb3 hb4 hb5 hG
 go_wp2_with fail
 with_reducible refine (opened_any d dealer row pt c _ hd64 hl64 hr64 hc HG5.out).mono ?_
 rintro r w6 ⟨rfl,hb6⟩
 go_wp2_with fail
 go_ret2
 exact ⟨rfl,HB.out.trans (hb6.mono HB.out.size)⟩
theorem open_yes (s dealer row pt c:Int) (w:World) (hs:1 ≤ s ∧ s ≤ 1073741788) (hl:0 ≤ dealer ∧ dealer ≤ 63) (hR:RightP row pt c) (hG:Glob w) :
  Calls Tryz.prog 58 #[.int .i64 s,.int .i64 dealer,.agg #[.int .i64 row,.int .i64 pt,.int .i64 c]] w fun r w' => r = .returned (.tuple #[.int .i64 (opnV (powE pt s) dealer row c),.int .i64 0]) ∧ Below w.heap.size w w':=by
 obtain ⟨W1,hW1,hb1,hr1,hz⟩:=cells3 w row pt c 49
 have HW1:=Lib.hid hW1
 have HB1:=Lib.hid hb1
 have x0:W1.cell? ⟨w.heap.size,0,none⟩ = some (.int .i64 row):=row_cell hr1 rfl
 have x1:W1.cell? ⟨w.heap.size,1,none⟩ = some (.int .i64 pt):=row_cell hr1 rfl
 have x2:W1.cell? ⟨w.heap.size,2,none⟩ = some (.int .i64 c):=row_cell hr1 rfl
 have HE:Hid (firstE [(inB s 1 1073741788,110),(inB dealer 0 63,1),(rightB row pt c,350)] = 0):=Lib.hid (openE_ok.2 ⟨hs,hl,hR⟩)
 obtain ⟨⟨r1,r2⟩,hpt,hc⟩:=hR
 have hp:=hpt.r64
 have hs64:R64 s:=⟨by omega,by omega⟩
 have hl64:R64 dealer:=⟨by omega,by omega⟩
 have hr64:R64 row:=⟨by omega,by omega⟩
 have hd64:=(el_powE hpt s).r64
 clear hW1 hr1 hb1 hz r1 r2 hl hs
 go_enter Tryz.func58,Tryz.ntmps58
 go_wp2_with fail
 rw [← HW1.out]
 go_region_held3 (fun w' => w'.cell? ⟨w.heap.size,0,none⟩ = some (.int .i64 row) ∧ w'.cell? ⟨w.heap.size,1,none⟩ = some (.int .i64 pt) ∧ w'.cell? ⟨w.heap.size,2,none⟩ = some (.int .i64 c)) (go_keep)
  (first
   | (go_at_call 129; (with_reducible refine (secret_any s _).mono ?_); rintro r w2 ⟨f1,cap1,rfl,hF1,hb2⟩; have s10:w2.cell? ⟨w.heap.size,0,none⟩ = some (.int .i64 row):=below_cell hb2 (by assumption); have s11:w2.cell? ⟨w.heap.size,1,none⟩ = some (.int .i64 pt):=below_cell hb2 (by assumption); have s12:w2.cell? ⟨w.heap.size,2,none⟩ = some (.int .i64 c):=below_cell hb2 (by assumption); have HF1:=Lib.hid hF1; clear hF1)
   | (go_at_call 130; (with_reducible refine (person_any dealer _).mono ?_); rintro r w3 ⟨f2,cap2,rfl,hF2,hb3⟩; have s20:w3.cell? ⟨w.heap.size,0,none⟩ = some (.int .i64 row):=below_cell hb3 (by assumption); have s21:w3.cell? ⟨w.heap.size,1,none⟩ = some (.int .i64 pt):=below_cell hb3 (by assumption); have s22:w3.cell? ⟨w.heap.size,2,none⟩ = some (.int .i64 c):=below_cell hb3 (by assumption); have HF2:=Lib.hid hF2; clear hF2)
   | (go_at_call 131; (with_reducible refine (right_any row pt c _ hp).mono ?_); rintro r w4 ⟨f3,cap3,rfl,hF3,hb4⟩; have s30:w4.cell? ⟨w.heap.size,0,none⟩ = some (.int .i64 row):=below_cell hb4 (by assumption); have s31:w4.cell? ⟨w.heap.size,1,none⟩ = some (.int .i64 pt):=below_cell hb4 (by assumption); have s32:w4.cell? ⟨w.heap.size,2,none⟩ = some (.int .i64 c):=below_cell hb4 (by assumption); have HF3:=Lib.hid hF3; clear hF3)
   | (go_at_call 128; (refine (pcheck_any _ _ _ (conds3 _ _ _ rfl 110 1 350 (HF1.out.keep (Keep.below (hb3.trans (hb4.mono hb3.size)))) (HF2.out.keep (Keep.below hb4)) HF3.out)).mono ?_); rintro r w5 ⟨rfl,hb5⟩; have s40:w5.cell? ⟨w.heap.size,0,none⟩ = some (.int .i64 row):=below_cell hb5 (below_cell (below_new _ _ _) s30); have s41:w5.cell? ⟨w.heap.size,1,none⟩ = some (.int .i64 pt):=below_cell hb5 (below_cell (below_new _ _ _) s31); have s42:w5.cell? ⟨w.heap.size,2,none⟩ = some (.int .i64 c):=below_cell hb5 (below_cell (below_new _ _ _) s32)))
 rw [HE.out]
 have h1:Below W1.heap.size W1 w2:=(Below.refl _ _).drew.trans hb2
 have h3:=h1.trans (hb3.mono h1.size)
 have h4:=h3.trans (hb4.mono h3.size)
 have h5:=h4.alloc h4.size (.cells #[.func (.func f1) #[] cap1,.int .i64 110,.func (.func f2) #[] cap2,.int .i64 1,.func (.func f3) #[] cap3,.int .i64 350] 153)
 have HB:=Lib.hid (HB1.out.trans ((h5.trans (hb5.mono h5.size)).mono HB1.out.size))
 have hg5:=hG.below HB.out
 have e0:=s40
 have e1:=s41
 have e2:=s42
 clear h1 h3 h4 h5 hb2 hb3 hb4 hb5 hG HE HF1 HF2 HF3
 go_wp2_with fail
 with_reducible refine (pow_yes pt s _ hpt hs64).mono ?_
 rintro r w6 ⟨rfl,hb6⟩
 have HG6:=Lib.hid (hg5.below hb6)
 have HB6:=Lib.hid (HB.out.trans (hb6.mono HB.out.size))
 have g0:=below_cell hb6 e0
 have g1:=below_cell hb6 e1
 have g2:=below_cell hb6 e2
 clear hb6 hg5
 go_wp2_with fail
 with_reducible refine (opened_any (powE pt s) dealer row pt c _ hd64 hl64 hr64 hc HG6.out).mono ?_
 rintro r w7 ⟨rfl,hb7⟩
 go_wp2_with fail
 go_ret2
 exact ⟨rfl,HB6.out.trans (hb7.mono HB6.out.size)⟩
end Go.Proofs.YtggnipkfliompaaGreatDoor
namespace Go.Proofs.YtggnipkfliompaaGreatDoor
open Go.RowKit FP
theorem Parcels.at {w:World} {a:Option Addr} {n c:Nat} {l:List Pcl} (h:Parcels w (.slice a n c) l) {k:Nat} (hk:k < l.length):∃ b off,a = some ⟨b,off,none⟩ ∧ w.cell? ⟨b,off + k * 3,none⟩ = some (.int .i64 l[k].1) ∧ w.cell? ⟨b,off + k * 3 + 1,none⟩ = some (.int .i64 l[k].2.1) ∧ w.cell? ⟨b,off + k * 3 + 2,none⟩ = some (.int .i64 l[k].2.2) ∧ R64 l[k].2.1:=by
 obtain ⟨a',cap,h1,-,-,h4,h5⟩:=h
 cases h1
 obtain ⟨b,off,e,h6,h7,h8⟩:=h5 k hk
 exact ⟨b,off,e,h6,h7,h8,(h4 _ (List.getElem_mem hk)).2.1⟩
end Go.Proofs.YtggnipkfliompaaGreatDoor
namespace Go.Proofs.YtggnipkfliompaaGreatDoor
open Go.RowKit FP
section
variable {rows:List (List Int)} {owners ss:List Int} {x:Int} {rnd:List Int} {dealer row by':Int} {i:Nat}
end
end Go.Proofs.YtggnipkfliompaaGreatDoor
namespace Go.Proofs.YtggnipkfliompaaGreatDoor
open Go.RowKit FP
end Go.Proofs.YtggnipkfliompaaGreatDoor
namespace Go.Proofs.YtggnipkfliompaaGreatDoor
end Go.Proofs.YtggnipkfliompaaGreatDoor
namespace Go.Proofs.YtggnipkfliompaaGreatDoor
open Go.RowKit FP
end Go.Proofs.YtggnipkfliompaaGreatDoor
namespace Go.Proofs.YtggnipkfliompaaGreatDoor
open Go.RowKit FP
def mulL (a b:List Int):List Int:=(List.range a.length).map fun i => nth a i * nth b i % 2147483579
def renC (cs:List Int) (css:List (List Int)):List Int:=css.foldl mulL cs
theorem mulL_len (a b:List Int):(mulL a b).length = a.length:=by simp [mulL]
theorem mulL_el {a b:List Int} (ha:∀ c ∈ a,El c) (hb:∀ c ∈ b,El c) (hl:a.length ≤ b.length):∀ c ∈ mulL a b,El c:=by
 intro c hc
 obtain ⟨i,hi,rfl⟩:=List.mem_map.1 hc
 have hi2:i < a.length:=by simpa using hi
 exact el_mul (ha _ (by rw [nth_at hi2]; exact List.getElem_mem _)) (hb _ (by rw [nth_at (show i < b.length by omega)]; exact List.getElem_mem _))
theorem comB_el {rows:List (List Int)} {cs:List Int} (h:comB rows cs = true):(∀ c ∈ cs,El c) ∧ cs.length = colsQ rows:=by
 unfold comB at h
 simp only [Bool.and_eq_true,decide_eq_true_eq,Bool.not_eq_true'] at h
 exact ⟨any_notel h.1,h.2⟩
theorem com_deal_B {rows:List (List Int)} {owners:List Int} {x:Int} {u:List Int} (h:DealOK rows owners x u) (hp:progE rows owners = 0):comB rows (dealC (x :: u)) = true ∧ dchkE rows owners (dealC (x :: u)) = 0:=by
 have h0:=dchkE_of (com_deal h hp)
 refine ⟨?_,h0⟩
 rw [comB_E hp] at h0
 cases e:comB rows (dealC (x :: u)) with
 | true => rfl
 | false => rw [e] at h0; cases h0
end Go.Proofs.YtggnipkfliompaaGreatDoor
namespace Go.Proofs.YtggnipkfliompaaGreatDoor
open Go.RowKit FP
def oddK (k:Int):Bool:=!(k == 0) && !elB k
def missK (keys:List Int) (o:Int):Bool:=decide ((keys.length:Int) ≤ o) || nth keys o.toNat == 0
def keysB (owners keys:List Int):Bool:=decide (keys.length ≤ 64) && (!keys.any oddK && !owners.any (missK keys))
structure KeysOK (owners keys:List Int):Prop where
 few:keys.length ≤ 64
 el:∀ k ∈ keys,k = 0 ∨ El k
 own:∀ o ∈ owners,o < (keys.length:Int) ∧ nth keys o.toNat ≠ 0
theorem keysB_iff {owners keys:List Int}:keysB owners keys = true ↔ KeysOK owners keys:=by
 unfold keysB
 rw [Bool.and_eq_true,Bool.and_eq_true,decide_eq_true_eq,Bool.not_eq_true',Bool.not_eq_true',List.any_eq_false,List.any_eq_false]
 constructor
 ·rintro ⟨h1,h2,h3⟩
  refine ⟨h1,fun k hk => ?_,fun o ho => ?_⟩
  ·have h:=h2 k hk
   unfold oddK at h
   by_cases h0:k = 0
   ·exact .inl h0
   ·right
    rw [beq_eq_false_iff_ne.2 h0] at h
    refine elB_iff.1 ?_
    cases e:elB k with
    | true => rfl
    | false => rw [e] at h; simp at h
  ·have h:=h3 o ho
   unfold missK at h
   simp only [Bool.or_eq_true,decide_eq_true_eq,beq_iff_eq,not_or] at h
   exact ⟨by omega,h.2⟩
 ·rintro ⟨h1,h2,h3⟩
  refine ⟨h1,fun k hk => ?_,fun o ho => ?_⟩
  ·unfold oddK
   rcases h2 k hk with rfl | h
   ·simp
   ·rw [elB_iff.2 h]; simp
  ·unfold missK
   obtain ⟨h4,h5⟩:=h3 o ho
   simp only [Bool.or_eq_true,decide_eq_true_eq,beq_iff_eq,not_or]
   exact ⟨by omega,h5⟩
def keyOf (owners keys:List Int) (i:Nat):Int:=nth keys (nth owners i).toNat
theorem KeysOK.key {owners keys:List Int} (h:KeysOK owners keys) (h0:∀ o ∈ owners,0 ≤ o) {i:Nat} (hi:i < owners.length):(nth owners i).toNat < keys.length ∧ El (keyOf owners keys i):=by
 have hm:nth owners i ∈ owners:=by rw [nth_at hi]; exact List.getElem_mem hi
 obtain ⟨h1,h2⟩:=h.own _ hm
 have h3:=h0 _ hm
 have h4:(nth owners i).toNat < keys.length:=by omega
 refine ⟨h4,?_⟩
 unfold keyOf
 have:=h.el (nth keys (nth owners i).toNat) (by rw [nth_at h4]; exact List.getElem_mem h4)
 rcases this with e | e
 ·exact absurd e h2
 ·exact e
def parOk (ps:List Pcl) (k:Nat):Bool:=(ps.getD k (0,0,0)).1 == (k:Int) && (elB (ps.getD k (0,0,0)).2.1 && inB (ps.getD k (0,0,0)).2.2 0 1073741788)
def parsB (ps:List Pcl):Bool:=(List.range ps.length).all (parOk ps)
theorem parsB_bad {ps:List Pcl} {k:Nat} (h:k < ps.length) (hb:parOk ps k = false):parsB ps = false:=by
 cases e:parsB ps with
 | false => rfl
 | true => rw [List.all_eq_true.1 e k (List.mem_range.2 h)] at hb; cases hb
theorem parsB_all {ps:List Pcl} (h:∀ k,k < ps.length → parOk ps k = true):parsB ps = true:=List.all_eq_true.2 fun k hk => h k (List.mem_range.1 hk)
def fineB (rows:List (List Int)) (d:Dlg):Bool:=inB d.dealer 0 63 && (comB rows d.cs && (decide (d.ps.length = rows.length) && parsB d.ps))
structure FineD (rows:List (List Int)) (d:Dlg):Prop where
 dealer:0 ≤ d.dealer ∧ d.dealer ≤ 63
 com:comB rows d.cs = true
 len:d.ps.length = rows.length
 par:∀ k (h:k < d.ps.length),d.ps[k].1 = (k:Int) ∧ El d.ps[k].2.1 ∧ (0 ≤ d.ps[k].2.2 ∧ d.ps[k].2.2 ≤ 1073741788)
theorem parOk_iff {ps:List Pcl} {k:Nat} (h:k < ps.length):parOk ps k = true ↔ ps[k].1 = (k:Int) ∧ El ps[k].2.1 ∧ (0 ≤ ps[k].2.2 ∧ ps[k].2.2 ≤ 1073741788):=by
 unfold parOk
 rw [getD_at h,Bool.and_eq_true,Bool.and_eq_true,beq_iff_eq,elB_iff,inB_iff]
theorem fineB_iff {rows:List (List Int)} {d:Dlg}:fineB rows d = true ↔ FineD rows d:=by
 unfold fineB
 rw [Bool.and_eq_true,Bool.and_eq_true,Bool.and_eq_true,inB_iff,decide_eq_true_eq]
 constructor
 ·rintro ⟨h1,h2,h3,h4⟩
  exact ⟨h1,h2,h3,fun k hk => (parOk_iff hk).1 (List.all_eq_true.1 h4 k (List.mem_range.2 hk))⟩
 ·rintro ⟨h1,h2,h3,h4⟩
  exact ⟨h1,h2,h3,parsB_all fun k hk => (parOk_iff hk).2 (h4 k hk)⟩
theorem FineD.at {rows:List (List Int)} {d:Dlg} (h:FineD rows d) {i:Nat} (hi:i < rows.length):(parAt d (i:Int)).1 = (i:Int) ∧ El (parAt d (i:Int)).2.1 ∧ (0 ≤ (parAt d (i:Int)).2.2 ∧ (parAt d (i:Int)).2.2 ≤ 1073741788):=by
 have hi2:i < d.ps.length:=by rw [h.len]; exact hi
 obtain ⟨h1,e⟩:=parAt_mem (d:=d) (row:=(i:Int)) ⟨by omega,by omega⟩
 rw [e]
 exact h.par i hi2
theorem FineD.right {rows:List (List Int)} {d:Dlg} (h:FineD rows d) (h64:rows.length ≤ 64) {i:Nat} (hi:i < rows.length):RightP (parAt d (i:Int)).1 (parAt d (i:Int)).2.1 (parAt d (i:Int)).2.2:=by
 obtain ⟨h1,h2,h3⟩:=h.at hi
 exact ⟨by rw [h1]; omega,h2,h3⟩
def oddU (u:Int):Bool:=!inB u 1 1073741788
def kdE (rows:List (List Int)) (owners keys:List Int) (dealer x:Int) (rnd us:List Int):Int:=
 if progE rows owners ≠ 0 then progE rows owners else if keysB owners keys = false then 370 else if inB dealer 0 63 = false then 1 else
  if dealE rows owners x rnd ≠ 0 then dealE rows owners x rnd else if us.length ≠ rows.length ∨ us.any oddU = true then 1 else 0
def sealK (rows:List (List Int)) (owners keys:List Int) (dealer:Int) (us s:List Int) (i:Nat):Pcl:=
 ((i:Int),powE 4 (nth us i),cipV (nth us i) (keyOf owners keys i) dealer (i:Int) (prodQ (rows.getD i []) s))
def sealL (rows:List (List Int)) (owners keys:List Int) (dealer:Int) (us s:List Int) (n:Nat):List Pcl:=(List.range n).map (sealK rows owners keys dealer us s)
theorem sealL_len (rows:List (List Int)) (owners keys:List Int) (dealer:Int) (us s:List Int) (n:Nat):(sealL rows owners keys dealer us s n).length = n:=by simp [sealL]
theorem sealL_snoc (rows:List (List Int)) (owners keys:List Int) (dealer:Int) (us s:List Int) (n:Nat):sealL rows owners keys dealer us s (n + 1) = sealL rows owners keys dealer us s n ++ [sealK rows owners keys dealer us s n]:=range_snoc _ _
def kdD (rows:List (List Int)) (owners keys:List Int) (dealer x:Int) (rnd us:List Int):Dlg:=
 if kdE rows owners keys dealer x rnd us = 0 then ⟨dealer,dealC (x :: rnd),sealL rows owners keys dealer us (x :: rnd) rows.length⟩ else ⟨0,[],[]⟩
structure KdOK (rows:List (List Int)) (owners keys:List Int) (dealer x:Int) (rnd us:List Int):Prop where
 p0:progE rows owners = 0
 keys:KeysOK owners keys
 dl:0 ≤ dealer ∧ dealer ≤ 63
 ok:DealOK rows owners x rnd
 d0:dealE rows owners x rnd = 0
 len:us.length = rows.length
 us:∀ u ∈ us,1 ≤ u ∧ u ≤ 1073741788
theorem kdE_ok {rows:List (List Int)} {owners keys:List Int} {dealer x:Int} {rnd us:List Int}:kdE rows owners keys dealer x rnd us = 0 ↔ KdOK rows owners keys dealer x rnd us:=by
 unfold kdE
 constructor
 ·intro h
  by_cases hp:progE rows owners = 0
  rotate_left
  ·rw [if_pos hp] at h; exact absurd h hp
  rw [if_neg (by simp [hp])] at h
  cases hk:keysB owners keys with
  | false => rw [hk] at h; simp at h
  | true =>
  rw [hk,if_neg (by simp)] at h
  cases hd:inB dealer 0 63 with
  | false => rw [hd] at h; simp at h
  | true =>
  rw [hd,if_neg (by simp)] at h
  by_cases he:dealE rows owners x rnd = 0
  rotate_left
  ·rw [if_pos he] at h; exact absurd h he
  rw [if_neg (by simp [he])] at h
  by_cases hu:us.length ≠ rows.length ∨ us.any oddU = true
  ·rw [if_pos hu] at h; cases h
  ·rw [not_or,Decidable.not_not] at hu
   refine ⟨hp,keysB_iff.1 hk,inB_iff.1 hd,dealE_ok he,he,hu.1,fun u hm => ?_⟩
   have h2:us.any oddU = false:=by simpa using hu.2
   have:=List.any_eq_false.1 h2 u hm
   unfold oddU at this
   exact inB_iff.1 (by simpa using this)
 ·rintro ⟨h1,h2,h3,h4,h5,h6,h7⟩
  rw [if_neg (by simp [h1]),keysB_iff.2 h2,if_neg (by simp),inB_iff.2 h3,if_neg (by simp),if_neg (by simp [h5]),if_neg]
  rintro (h | h)
  ·exact h h6
  ·obtain ⟨u,hm,ho⟩:=List.any_eq_true.1 h
   unfold oddU at ho
   rw [inB_iff.2 (h7 u hm)] at ho; cases ho
def kcntB (rows:List (List Int)) (owners keys:List Int) (d:Dlg) (c:Cmp):Bool:=
 (decide (c.dealer = d.dealer) && (decide (0 ≤ c.row) && decide (c.row < (rows.length:Int)))) && (stE rows owners (keyOf owners keys c.row.toNat) d c == 0 && stG rows owners (keyOf owners keys c.row.toNat) d c == 1)
def passB (rows:List (List Int)) (owners keys:List Int) (cl:List Cmp) (d:Dlg):Bool:=fineB rows d && !cl.any (kcntB rows owners keys d)
def qualL (rows:List (List Int)) (owners keys:List Int) (cl:List Cmp) (l:List Dlg):List Dlg:=l.filter (passB rows owners keys cl)
def dlrL (l:List Dlg):List Int:=l.map (·.dealer)
def ordB (l:List Dlg):Bool:=(List.range (l.length - 1)).all fun i => decide (nth (dlrL l) i < nth (dlrL l) (i + 1))
def comL:List Dlg → List Int
 | [] => []
 | d :: t => renC d.cs (t.map (·.cs))
def quE (rows:List (List Int)) (owners keys:List Int) (l:List Dlg) (cl:List Cmp):Int:=
 if progE rows owners ≠ 0 then progE rows owners else if keysB owners keys = false then 370 else if 64 < l.length ∨ 4096 < cl.length then 2 else
  if ordB l = false then 370 else if qualL rows owners keys cl l = [] then 370 else 0
theorem dlrL_len (l:List Dlg):(dlrL l).length = l.length:=by simp [dlrL]
theorem dlrL_at {l:List Dlg} {k:Nat} (h:k < l.length):nth (dlrL l) k = l[k].dealer:=by rw [nth_at (by rw [dlrL_len]; exact h)]; simp [dlrL]
theorem ordB_bad {l:List Dlg} {k:Nat} (h:k + 1 < l.length) (hb:¬ nth (dlrL l) k < nth (dlrL l) (k + 1)):ordB l = false:=by
 cases e:ordB l with
 | false => rfl
 | true => exact absurd (of_decide_eq_true (List.all_eq_true.1 e k (List.mem_range.2 (by omega)))) hb
theorem ordB_all {l:List Dlg} (h:∀ k,k + 1 < l.length → nth (dlrL l) k < nth (dlrL l) (k + 1)):ordB l = true:=
 List.all_eq_true.2 fun k hk => decide_eq_true (h k (by have:=List.mem_range.1 hk; omega))
theorem ordB_pair {l:List Dlg} (h:ordB l = true):(dlrL l).Pairwise (· < ·):=by
 have h1:∀ k,k + 1 < l.length → nth (dlrL l) k < nth (dlrL l) (k + 1):=fun k hk => of_decide_eq_true (List.all_eq_true.1 h k (List.mem_range.2 (by omega)))
 rw [List.pairwise_iff_getElem]
 intro i j hi hj hij
 have hl:=dlrL_len l
 have h2:∀ n i,i + n + 1 < l.length → nth (dlrL l) i < nth (dlrL l) (i + n + 1):=by
  intro n
  induction n with
  | zero => intro i h; exact h1 i h
  | succ n ih => intro i h; exact Int.lt_trans (ih i (by omega)) (h1 (i + n + 1) h)
 have:=h2 (j - i - 1) i (by omega)
 rw [show i + (j - i - 1) + 1 = j by omega,nth_at hi,nth_at hj] at this
 exact this
def isOf (rows:List (List Int)) (n:Int) (d:Dlg):Bool:=d.dealer == n && fineB rows d
def findD (rows:List (List Int)) (l:List Dlg) (n:Int):Dlg:=(l.find? (isOf rows n)).getD ⟨0,[],[]⟩
def dlsB (rows:List (List Int)) (l:List Dlg) (ds:List Int) (k:Nat):Bool:=l.any (isOf rows (nth ds k)) && (decide (k = 0) || decide (nth ds (k - 1) < nth ds k))
def allDls (rows:List (List Int)) (l:List Dlg) (ds:List Int):Bool:=(List.range ds.length).all (dlsB rows l ds)
def owE (rows:List (List Int)) (owners:List Int) (s row:Int) (ds:List Int) (l:List Dlg):Int:=
 if progE rows owners ≠ 0 then progE rows owners else if inB s 1 1073741788 = false then 110 else if row < 0 ∨ (rows.length:Int) ≤ row then 1 else
  if 64 < l.length then 2 else if ordB l = false then 370 else if allDls rows l ds = false then 370 else 0
def owS (rows:List (List Int)) (s row:Int) (ds:List Int) (l:List Dlg):Nat → Int
 | 0 => 0
 | k + 1 => (owS rows s row ds l k + mkV s (findD rows l (nth ds k)) row) % 1073741789
theorem owS_num (rows:List (List Int)) (s row:Int) (ds:List Int) (l:List Dlg):∀ k,0 ≤ owS rows s row ds l k ∧ owS rows s row ds l k < 1073741789
 | 0 => by show (0:Int) ≤ 0 ∧ (0:Int) < 1073741789; omega
 | k + 1 => by show 0 ≤ (_:Int) % 1073741789 ∧ (_:Int) % 1073741789 < 1073741789; omega
def owV (rows:List (List Int)) (owners:List Int) (s row:Int) (ds:List Int) (l:List Dlg):Int:=if owE rows owners s row ds l = 0 then owS rows s row ds l ds.length else 0
def owR (rows:List (List Int)) (owners:List Int) (s row:Int) (ds:List Int) (l:List Dlg):Int:=if owE rows owners s row ds l = 0 then row else 0
theorem allDls_bad {rows:List (List Int)} {l:List Dlg} {ds:List Int} {k:Nat} (h:k < ds.length) (hb:dlsB rows l ds k = false):allDls rows l ds = false:=by
 cases e:allDls rows l ds with
 | false => rfl
 | true => rw [List.all_eq_true.1 e k (List.mem_range.2 h)] at hb; cases hb
theorem allDls_all {rows:List (List Int)} {l:List Dlg} {ds:List Int} (h:∀ k,k < ds.length → dlsB rows l ds k = true):allDls rows l ds = true:=List.all_eq_true.2 fun k hk => h k (List.mem_range.1 hk)
theorem find_of {rows:List (List Int)} {l:List Dlg} {n:Int} (h:l.any (isOf rows n) = true):findD rows l n ∈ l ∧ (findD rows l n).dealer = n ∧ FineD rows (findD rows l n):=by
 unfold findD
 cases e:l.find? (isOf rows n) with
 | none =>
  obtain ⟨d,hd,h2⟩:=List.any_eq_true.1 h
  exact absurd h2 (by have:=List.find?_eq_none.1 e d hd; simpa using this)
 | some d =>
  have h1:=List.mem_of_find?_eq_some e
  have h2:=List.find?_some e
  unfold isOf at h2
  rw [Bool.and_eq_true,beq_iff_eq] at h2
  exact ⟨h1,h2.1,fineB_iff.1 h2.2⟩
end Go.Proofs.YtggnipkfliompaaGreatDoor
